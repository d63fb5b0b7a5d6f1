/- Fans: when one is valid, by the program and by the reference. Conditions: the facts on memory and on lengths that each theorem names. Printed by gen_fan.py. -/
import Derived.Test.YtlgagnbnjfneaaaFans
import Derived.Test.YtlgagnbnjfneaaaFrame4
import Derived.BigQuiet
namespace Go.Proofs.Ytlgagnbnjfneaaa
open Go.RowKit
open Pl
def at2 (cv : List (List Int)) (q i : Nat) : Int := (cv.getD q []).getD i 0
def stepB (cv : List (List Int)) (q : Nat) : Bool := decide (q = 0) || (!decide (at2 cv q 0 ≤ at2 cv (q - 1) 0) && !decide (at2 cv (q - 1) 1 < at2 cv q 1))
def ptP (cv : List (List Int)) (q : Nat) : Bool := decide ((cv.getD q []).length = 2) && (inB (at2 cv q 0) 0 100000 && (inB (at2 cv q 1) 0 10000 && stepB cv q))
def curveB (cv : List (List Int)) : Bool := (decide ((2 : Int) ≤ cv.length) && decide ((cv.length : Int) ≤ 8)) && allUp (ptP cv) cv.length
noncomputable def fanB (f : Fa) : Bool := nameB f.id && (inB f.aw 0 23 && curveB f.cv)
theorem stepB_succ (cv : List (List Int)) (k : Nat) : stepB cv (k + 1) = (!decide (at2 cv (k + 1) 0 ≤ at2 cv k 0) && !decide (at2 cv k 1 < at2 cv (k + 1) 1)) := by unfold stepB; simp
theorem Nest.pair {B : Nat} {w : World} {A : Option Addr} {xss : List (List Int)} (h : Nest B w A xss) {k : Nat} (hk : k < xss.length) {x y : Int} (e : xss.getD k [] = [x, y]) :
    ∃ b o b' o' c, A = some ⟨b, o, none⟩ ∧ b < B ∧ b' < B ∧ w.cell? ⟨b, o + k, none⟩ = some (.slice (some ⟨b', o', none⟩) 2 c) ∧ w.cell? ⟨b', o', none⟩ = some (.int .i64 x) ∧ w.cell? ⟨b', o' + 1, none⟩ = some (.int .i64 y) := by
  obtain ⟨b, o, ea, hb, A', c, hc, hi⟩ := h.atD hk
  rw [e] at hc hi
  obtain ⟨ad, ead, hlt, hcc⟩ := hi (by simp)
  have h0 := hcc 0 (by simp)
  have h1 := hcc 1 (by simp)
  rw [show ad.add 0 = ad by simp [Addr.add]] at h0
  have hs := cell_spot h0
  obtain ⟨b', o', s⟩ := ad
  simp only at hs
  subst hs
  subst ead
  rw [Addr.add_lit] at h1
  exact ⟨b, o, b', o', c, ea, hb, hlt, hc, h0, h1⟩
theorem pair_of {l : List Int} (h : l.length = 2) : ∃ x y, l = [x, y] := by
  match l, h with
  | [x, y], _ => exact ⟨x, y, rfl⟩
set_option maxRecDepth 100000 in
set_option maxHeartbeats 3200000 in
theorem l06Curve_any (A : Option Addr) (c : Nat) (cv : List (List Int)) (B : Nat) (w : World) (hn : (cv.length : Int) ≤ 1099511627776) (hI : Nest B w A cv) :
    Calls Try.prog 169 #[.slice A cv.length c] w fun e w' => e = .returned (.bool (curveB cv)) ∧ ∃ n, w.drewN n = w' := by
  obtain ⟨R, hR⟩ : ∃ R, R = curveB cv := ⟨_, rfl⟩
  rw [← hR]
  have HR := Lib.hid hR
  clear hR
  have J0 := Lib.hid hI
  clear hI
  obtain ⟨m, m1, m2, m3⟩ := first_stop (ptP cv) cv.length
  have HM : Hid (curveB cv = ((decide ((2 : Int) ≤ cv.length) && decide ((cv.length : Int) ≤ 8)) && decide (m = cv.length))) := Lib.hid (by unfold curveB; rw [allUp_stop m1 m2 m3])
  have M2 := Lib.hid m2
  have M3 := Lib.hid m3
  clear m2 m3
  go_enter Try.func169, Try.ntmps169
  go_wp2
  go_loopw [3] (fun i wr => ∃ q : Nat, q ≤ m ∧ i = .int .i64 q ∧ ∃ n, w.drewN n = wr) (fun i _ => cv.length - (intOf i).toNat)
  case atStart => exact ⟨0, Nat.zero_le _, rfl, 0, rfl⟩
  case round =>
    obtain ⟨q, hq, rfl, n, rfl⟩ := hrel
    by_cases hlt : q < cv.length
    · have i0 : (0 : Int) ≤ (q : Int) := by omega
      have i1 : (q : Int) < cv.length := by omega
      have HT : Hid (ptP cv q = true → q + 1 ≤ m) := Lib.hid (fun h => by
        rcases Nat.lt_or_ge q m with h' | h'
        · exact h'
        · have e : m = q := by omega
          have := M3.out (by omega)
          rw [e, h] at this; cases this)
      have HFa : Hid (ptP cv q = false → decide (m = cv.length) = false) := Lib.hid (fun h => decide_eq_false (by
        intro e
        have := M2.out q (by omega)
        rw [h] at this; cases this))
      have HPq : Hid (ptP cv q = (decide ((cv.getD q []).length = 2) && (inB (at2 cv q 0) 0 100000 && (inB (at2 cv q 1) 0 10000 && stepB cv q)))) := Lib.hid rfl
      have HPr : Hid (∀ p, p < q → (cv.getD p []).length = 2) := Lib.hid (fun p hp => by
        have := M2.out p (by omega)
        unfold ptP at this
        rw [Bool.and_eq_true] at this
        exact of_decide_eq_true this.1)
      by_cases h2 : (cv.getD q []).length = 2
      rotate_left
      · have HD := Lib.hid (HFa.out (by rw [HPq.out, decide_eq_false h2]; rfl))
        obtain ⟨b, o, rfl, -, A', c', hc, -⟩ := J0.out.atD hlt
        have h2b : (((cv.getD q []).length : Int) == 2) = false := by rw [beq_eq_false_iff_ne]; omega
        generalize (cv.getD q []).length = ln at *
        have HX := Lib.hid (fun W => l00In_any 0 0 100000 W)
        have h2n : ((ln : Int) != 2) = true := by rw [bne, h2b]; rfl
        clear h2 h2b
        go_wp2
        go_big_quiet ((go_at_call 60; first | (with_reducible exact quiet_s (HX.out _)) | (with_reducible exact quiet_s2 (HX.out _))))
        go_wp2
        go_ret
        exact ⟨ret_bool (by rw [HR.out, HM.out, HD.out, Bool.and_false]), _, (World.drewN_drewN _ _ _).symm⟩
      obtain ⟨x, y, hxy⟩ := pair_of h2
      have hx0 : at2 cv q 0 = x := by unfold at2; rw [hxy]; rfl
      have hx1 : at2 cv q 1 = y := by unfold at2; rw [hxy]; rfl
      obtain ⟨b, o, b1, o1, c1, rfl, -, -, hc, c0, c1'⟩ := J0.out.pair hlt hxy
      rw [decide_eq_true h2, hx0, hx1, Bool.true_and] at HPq
      have HX := Lib.hid (fun W => l00In_any x 0 100000 W)
      have HY := Lib.hid (fun W => l00In_any y 0 10000 W)
      clear h2
      cases p1 : inB x 0 100000
      · rw [p1] at HX
        have HD := Lib.hid (HFa.out (by rw [HPq.out, p1]; rfl))
        clear p1 hxy hx0 hx1
        go_wp2
        go_big_quiet (first | (go_at_call 60; first | (with_reducible exact quiet_s (HX.out _)) | (with_reducible exact quiet_s2 (HX.out _))) | (go_at_call 60; first | (with_reducible exact quiet_s (HY.out _)) | (with_reducible exact quiet_s2 (HY.out _))))
        go_wp2
        go_ret
        exact ⟨ret_bool (by rw [HR.out, HM.out, HD.out, Bool.and_false]), _, (World.drewN_drewN _ _ _).symm⟩
      rw [p1] at HX
      cases p2 : inB y 0 10000
      · rw [p2] at HY
        have HD := Lib.hid (HFa.out (by rw [HPq.out, p1, p2]; rfl))
        clear p1 p2 hxy hx0 hx1
        go_wp2
        go_big_quiet (first | (go_at_call 60; first | (with_reducible exact quiet_s (HX.out _)) | (with_reducible exact quiet_s2 (HX.out _))) | (go_at_call 60; first | (with_reducible exact quiet_s (HY.out _)) | (with_reducible exact quiet_s2 (HY.out _))))
        go_wp2
        go_ret
        exact ⟨ret_bool (by rw [HR.out, HM.out, HD.out, Bool.and_false]), _, (World.drewN_drewN _ _ _).symm⟩
      rw [p2] at HY
      rw [p1, p2, Bool.true_and, Bool.true_and] at HPq
      by_cases hq0 : q = 0
      · have hz0 : decide (0 < q) = false := decide_eq_false (by omega)
        have HG := Lib.hid (HT.out (by rw [HPq.out]; unfold stepB; rw [decide_eq_true hq0]; rfl))
        clear p1 p2 hxy hx0 hx1 hq0
        go_wp2
        go_big_quiet (first | (go_at_call 60; first | (with_reducible exact quiet_s (HX.out _)) | (with_reducible exact quiet_s2 (HX.out _))) | (go_at_call 60; first | (with_reducible exact quiet_s (HY.out _)) | (with_reducible exact quiet_s2 (HY.out _))))
        go_wp2
        go_roundw
        case rel => exact ⟨q + 1, HG.out, by go_num, _, rfl⟩
        case measure => simp [intOf]; omega
      · obtain ⟨p, hpq⟩ : ∃ p, q = p + 1 := ⟨q - 1, by omega⟩
        have hz0 : decide (0 < q) = true := decide_eq_true (by omega)
        obtain ⟨x', y', hxy'⟩ := pair_of (HPr.out p (by omega))
        obtain ⟨b', o', b2, o2, c2, hbo, -, -, hd, d0, d1⟩ := J0.out.pair (k := p) (by omega) hxy'
        cases hbo
        have hs : stepB cv q = (!decide (x ≤ x') && !decide (y' < y)) := by
          have hx0' : at2 cv p 0 = x' := by unfold at2; rw [hxy']; rfl
          have hx1' : at2 cv p 1 = y' := by unfold at2; rw [hxy']; rfl
          rw [hpq, stepB_succ, ← hpq, hx0, hx1, hx0', hx1']
        rw [hs] at HPq
        have w0 : (0 : Int) ≤ (p : Int) := by omega
        have w1 : (p : Int) < cv.length := by omega
        have hw : IntKind.i64.wrap ((q : Int) - 1) = (p : Int) := by rw [IntWalk.i64_in _ (by omega)]; omega
        clear p1 p2 hxy hx0 hx1 hq0 hxy' hs hpq
        cases k1 : decide (x ≤ x')
        rotate_left
        · have HD := Lib.hid (HFa.out (by rw [HPq.out, k1]; rfl))
          go_wp2
          go_big_quiet (first | (go_at_call 60; first | (with_reducible exact quiet_s (HX.out _)) | (with_reducible exact quiet_s2 (HX.out _))) | (go_at_call 60; first | (with_reducible exact quiet_s (HY.out _)) | (with_reducible exact quiet_s2 (HY.out _))))
          go_wp2
          clear hw
          go_ret
          exact ⟨ret_bool (by rw [HR.out, HM.out, HD.out, Bool.and_false]), _, (World.drewN_drewN _ _ _).symm⟩
        cases k2 : decide (y' < y)
        rotate_left
        · have HD := Lib.hid (HFa.out (by rw [HPq.out, k1, k2]; rfl))
          go_wp2
          go_big_quiet (first | (go_at_call 60; first | (with_reducible exact quiet_s (HX.out _)) | (with_reducible exact quiet_s2 (HX.out _))) | (go_at_call 60; first | (with_reducible exact quiet_s (HY.out _)) | (with_reducible exact quiet_s2 (HY.out _))))
          go_wp2
          clear hw
          go_ret
          exact ⟨ret_bool (by rw [HR.out, HM.out, HD.out, Bool.and_false]), _, (World.drewN_drewN _ _ _).symm⟩
        have HG := Lib.hid (HT.out (by rw [HPq.out, k1, k2]; rfl))
        go_wp2
        go_big_quiet (first | (go_at_call 60; first | (with_reducible exact quiet_s (HX.out _)) | (with_reducible exact quiet_s2 (HX.out _))) | (go_at_call 60; first | (with_reducible exact quiet_s (HY.out _)) | (with_reducible exact quiet_s2 (HY.out _))))
        go_wp2
        clear hw
        go_roundw
        case rel => exact ⟨q + 1, HG.out, by go_num, _, rfl⟩
        case measure => simp [intOf]; omega
    · have HD := Lib.hid (decide_eq_true (show m = cv.length by omega))
      by_cases h2 : (2 : Int) ≤ cv.length
      · have H2 := Lib.hid (decide_eq_true h2)
        by_cases h8 : (cv.length : Int) ≤ 8
        · have H8 := Lib.hid (decide_eq_true h8)
          go_wp2
          go_ret
          exact ⟨ret_bool (by rw [HR.out, HM.out, HD.out, H2.out, H8.out]; rfl), _, rfl⟩
        · have H8 := Lib.hid (decide_eq_false h8)
          go_wp2
          go_ret
          exact ⟨ret_bool (by rw [HR.out, HM.out, HD.out, H2.out, H8.out]; rfl), _, rfl⟩
      · have H2 := Lib.hid (decide_eq_false h2)
        go_wp2
        go_ret
        exact ⟨ret_bool (by rw [HR.out, HM.out, HD.out, H2.out]; rfl), _, rfl⟩
theorem l06Ok_any (b o : Nat) (s : ByteArray) (a : Int) (A : Option Addr) (c : Nat) (cv : List (List Int)) (B : Nat) (w : World) (hs : s.size ≤ maxLen) (hn : (cv.length : Int) ≤ 1099511627776) (hI : Nest B w A cv) (c0 : w.cell? ⟨b, o, none⟩ = some (.string s)) (c1 : w.cell? ⟨b, o + 1, none⟩ = some (.int .i64 a)) (c2 : w.cell? ⟨b, o + 2, none⟩ = some (.slice A cv.length c)) :
    Calls Try.prog 157 #[.pointer (some ⟨b, o, none⟩)] w fun e w' => e = .returned (.bool (fanB ⟨s, a, cv⟩)) ∧ ∃ n, w.drewN n = w' := by
  have HC := Lib.hid (l06Curve_any A c cv B w hn hI)
  unfold fanB
  dsimp only
  clear hI
  cases h0 : nameB s
  · go_enter Try.func157, Try.ntmps157
    go_wp2_with (first | (go_at_call 60; refine (l00In_any _ _ _ _).mono ?_; rintro e w' ⟨rfl, rfl⟩) | (go_at_call 140; refine (l01Name_any _ _ hs).mono ?_; rintro e w' ⟨rfl, rfl⟩))
    go_ret
    exact ⟨rfl, 0, rfl⟩
  · cases h1 : inB a 0 23
    · go_enter Try.func157, Try.ntmps157
      go_wp2_with (first | (go_at_call 60; refine (l00In_any _ _ _ _).mono ?_; rintro e w' ⟨rfl, rfl⟩) | (go_at_call 140; refine (l01Name_any _ _ hs).mono ?_; rintro e w' ⟨rfl, rfl⟩))
      go_ret
      exact ⟨rfl, 0, rfl⟩
    · obtain ⟨h1a, h1b⟩ := inB_iff.1 h1
      generalize curveB cv = r at *
      go_enter Try.func157, Try.ntmps157
      go_wp2_with (first | (go_at_call 60; refine (l00In_any _ _ _ _).mono ?_; rintro e w' ⟨rfl, rfl⟩) | (go_at_call 140; refine (l01Name_any _ _ hs).mono ?_; rintro e w' ⟨rfl, rfl⟩))
      refine HC.out.mono ?_
      rintro e w2 ⟨rfl, n, rfl⟩
      go_wp2
      go_ret
      exact ⟨rfl, _, rfl⟩
set_option maxRecDepth 100000 in
set_option maxHeartbeats 3200000 in
theorem ValidFan_i (s : ByteArray) (a : Int) (A : Option Addr) (c : Nat) (cv : List (List Int)) (B : Nat) (w : World) (hs : s.size ≤ maxLen) (hn : (cv.length : Int) ≤ 1099511627776) (hI : Nest B w A cv) (hB : B ≤ w.heap.size) :
    Calls Try.prog 135 #[.agg #[.string s, .int .i64 a, .slice A cv.length c]] w fun e w' => e = .returned (.bool (fanB ⟨s, a, cv⟩)) ∧ Below w.heap.size w w' := by
  obtain ⟨R, hR⟩ : ∃ R, R = fanB ⟨s, a, cv⟩ := ⟨_, rfl⟩
  rw [← hR]
  have HR := Lib.hid hR
  clear hR
  have HFB : Hid (fanB ⟨s, a, cv⟩ = (nameB s && (inB a 0 23 && ((decide ((2 : Int) ≤ cv.length) && decide ((cv.length : Int) ≤ 8)) && allUp (ptP cv) cv.length)))) := Lib.hid rfl
  have be0 : Below w.heap.size w (w.alloc (.cells #[.string s, .int .i64 a, .slice A cv.length c] 149)) := by go_grown
  have J0 := Lib.hid ((hI.more hB).below be0)
  have b2 : ((w.alloc (.cells #[.string s, .int .i64 a, .slice A cv.length c] 149))).cell? ⟨w.heap.size, 2, none⟩ = some (.slice A cv.length c) := by go_simp
  clear hI
  cases h0 : nameB s
  · have HN := Lib.hid (show fanB ⟨s, a, cv⟩ = false by rw [HFB.out, h0]; rfl)
    go_enter Try.func135, Try.ntmps135
    go_wp2_with (first | (go_at_call 54; refine (within_any _ _ _ _).mono ?_; rintro e w' ⟨rfl, rfl⟩) | (go_at_call 142; refine (IsName_any _ _ hs).mono ?_; rintro e w' ⟨rfl, rfl⟩))
    go_ret
    exact ⟨ret_bool (by rw [HR.out, HN.out]), be0⟩
  cases h1 : inB a 0 23
  · have HN := Lib.hid (show fanB ⟨s, a, cv⟩ = false by rw [HFB.out, h0, h1]; rfl)
    go_enter Try.func135, Try.ntmps135
    go_wp2_with (first | (go_at_call 54; refine (within_any _ _ _ _).mono ?_; rintro e w' ⟨rfl, rfl⟩) | (go_at_call 142; refine (IsName_any _ _ hs).mono ?_; rintro e w' ⟨rfl, rfl⟩))
    go_ret
    exact ⟨ret_bool (by rw [HR.out, HN.out]), be0⟩
  by_cases h2 : (2 : Int) ≤ cv.length
  rotate_left
  · have HN := Lib.hid (show fanB ⟨s, a, cv⟩ = false by rw [HFB.out, h0, h1, decide_eq_false h2]; rfl)
    go_enter Try.func135, Try.ntmps135
    go_wp2_with (first | (go_at_call 54; refine (within_any _ _ _ _).mono ?_; rintro e w' ⟨rfl, rfl⟩) | (go_at_call 142; refine (IsName_any _ _ hs).mono ?_; rintro e w' ⟨rfl, rfl⟩))
    go_ret
    exact ⟨ret_bool (by rw [HR.out, HN.out]), be0⟩
  by_cases h8 : (cv.length : Int) ≤ 8
  rotate_left
  · have HN := Lib.hid (show fanB ⟨s, a, cv⟩ = false by rw [HFB.out, h0, h1, decide_eq_false h8, Bool.and_false]; rfl)
    go_enter Try.func135, Try.ntmps135
    go_wp2_with (first | (go_at_call 54; refine (within_any _ _ _ _).mono ?_; rintro e w' ⟨rfl, rfl⟩) | (go_at_call 142; refine (IsName_any _ _ hs).mono ?_; rintro e w' ⟨rfl, rfl⟩))
    go_ret
    exact ⟨ret_bool (by rw [HR.out, HN.out]), be0⟩
  obtain ⟨m, m1, m2, m3⟩ := first_stop (ptP cv) cv.length
  have HM : Hid (fanB ⟨s, a, cv⟩ = decide (m = cv.length)) := Lib.hid (by rw [HFB.out, h0, h1, decide_eq_true h2, decide_eq_true h8, allUp_stop m1 m2 m3]; rfl)
  have M2 := Lib.hid m2
  have M3 := Lib.hid m3
  clear m2 m3 HFB
  go_enter Try.func135, Try.ntmps135
  go_wp2_with (first | (go_at_call 54; refine (within_any _ _ _ _).mono ?_; rintro e w' ⟨rfl, rfl⟩) | (go_at_call 142; refine (IsName_any _ _ hs).mono ?_; rintro e w' ⟨rfl, rfl⟩))
  generalize (w.alloc (.cells #[.string s, .int .i64 a, .slice A cv.length c] 149)) = v0 at *
  clear h0 h1
  go_loopw [30] (fun i wr => ∃ q : Nat, q ≤ m ∧ i = .int .i64 q ∧ ∃ n, v0.drewN n = wr) (fun i _ => cv.length - (intOf i).toNat)
  case atStart => exact ⟨0, Nat.zero_le _, rfl, 0, rfl⟩
  case round =>
    obtain ⟨q, hq, rfl, n, rfl⟩ := hrel
    by_cases hlt : q < cv.length
    · have i0 : (0 : Int) ≤ (q : Int) := by omega
      have i1 : (q : Int) < cv.length := by omega
      have HT : Hid (ptP cv q = true → q + 1 ≤ m) := Lib.hid (fun h => by
        rcases Nat.lt_or_ge q m with h' | h'
        · exact h'
        · have e : m = q := by omega
          have := M3.out (by omega)
          rw [e, h] at this; cases this)
      have HFa : Hid (ptP cv q = false → decide (m = cv.length) = false) := Lib.hid (fun h => decide_eq_false (by
        intro e
        have := M2.out q (by omega)
        rw [h] at this; cases this))
      have HPq : Hid (ptP cv q = (decide ((cv.getD q []).length = 2) && (inB (at2 cv q 0) 0 100000 && (inB (at2 cv q 1) 0 10000 && stepB cv q)))) := Lib.hid rfl
      have HPr : Hid (∀ p, p < q → (cv.getD p []).length = 2) := Lib.hid (fun p hp => by
        have := M2.out p (by omega)
        unfold ptP at this
        rw [Bool.and_eq_true] at this
        exact of_decide_eq_true this.1)
      by_cases h2 : (cv.getD q []).length = 2
      rotate_left
      · have HD := Lib.hid (HFa.out (by rw [HPq.out, decide_eq_false h2]; rfl))
        obtain ⟨b, o, rfl, -, A', c', hc, -⟩ := J0.out.atD hlt
        have h2b : (((cv.getD q []).length : Int) == 2) = false := by rw [beq_eq_false_iff_ne]; omega
        generalize (cv.getD q []).length = ln at *
        have HX := Lib.hid (fun W => within_any 0 0 100000 W)
        have h2n : ((ln : Int) != 2) = true := by rw [bne, h2b]; rfl
        clear h2 h2b
        go_wp2
        go_big_quiet ((go_at_call 54; first | (with_reducible exact quiet_s (HX.out _)) | (with_reducible exact quiet_s2 (HX.out _))))
        go_wp2
        go_ret
        exact ⟨ret_bool (by rw [HR.out, HM.out, HD.out]), below_drewN (below_drewN be0 _) _⟩
      obtain ⟨x, y, hxy⟩ := pair_of h2
      have hx0 : at2 cv q 0 = x := by unfold at2; rw [hxy]; rfl
      have hx1 : at2 cv q 1 = y := by unfold at2; rw [hxy]; rfl
      obtain ⟨b, o, b1, o1, c1, rfl, -, -, hc, c0, c1'⟩ := J0.out.pair hlt hxy
      rw [decide_eq_true h2, hx0, hx1, Bool.true_and] at HPq
      have HX := Lib.hid (fun W => within_any x 0 100000 W)
      have HY := Lib.hid (fun W => within_any y 0 10000 W)
      clear h2
      cases p1 : inB x 0 100000
      · rw [p1] at HX
        have HD := Lib.hid (HFa.out (by rw [HPq.out, p1]; rfl))
        clear p1 hxy hx0 hx1
        go_wp2
        go_big_quiet (first | (go_at_call 54; first | (with_reducible exact quiet_s (HX.out _)) | (with_reducible exact quiet_s2 (HX.out _))) | (go_at_call 54; first | (with_reducible exact quiet_s (HY.out _)) | (with_reducible exact quiet_s2 (HY.out _))))
        go_wp2
        go_ret
        exact ⟨ret_bool (by rw [HR.out, HM.out, HD.out]), below_drewN (below_drewN be0 _) _⟩
      rw [p1] at HX
      cases p2 : inB y 0 10000
      · rw [p2] at HY
        have HD := Lib.hid (HFa.out (by rw [HPq.out, p1, p2]; rfl))
        clear p1 p2 hxy hx0 hx1
        go_wp2
        go_big_quiet (first | (go_at_call 54; first | (with_reducible exact quiet_s (HX.out _)) | (with_reducible exact quiet_s2 (HX.out _))) | (go_at_call 54; first | (with_reducible exact quiet_s (HY.out _)) | (with_reducible exact quiet_s2 (HY.out _))))
        go_wp2
        go_ret
        exact ⟨ret_bool (by rw [HR.out, HM.out, HD.out]), below_drewN (below_drewN be0 _) _⟩
      rw [p2] at HY
      rw [p1, p2, Bool.true_and, Bool.true_and] at HPq
      by_cases hq0 : q = 0
      · have hz0 : decide (0 < q) = false := decide_eq_false (by omega)
        have HG := Lib.hid (HT.out (by rw [HPq.out]; unfold stepB; rw [decide_eq_true hq0]; rfl))
        clear p1 p2 hxy hx0 hx1 hq0
        go_wp2
        go_big_quiet (first | (go_at_call 54; first | (with_reducible exact quiet_s (HX.out _)) | (with_reducible exact quiet_s2 (HX.out _))) | (go_at_call 54; first | (with_reducible exact quiet_s (HY.out _)) | (with_reducible exact quiet_s2 (HY.out _))))
        go_wp2
        go_roundw
        case rel => exact ⟨q + 1, HG.out, by go_num, _, rfl⟩
        case measure => simp [intOf]; omega
      · obtain ⟨p, hpq⟩ : ∃ p, q = p + 1 := ⟨q - 1, by omega⟩
        have hz0 : decide (0 < q) = true := decide_eq_true (by omega)
        obtain ⟨x', y', hxy'⟩ := pair_of (HPr.out p (by omega))
        obtain ⟨b', o', b2, o2, c2, hbo, -, -, hd, d0, d1⟩ := J0.out.pair (k := p) (by omega) hxy'
        cases hbo
        have hs : stepB cv q = (!decide (x ≤ x') && !decide (y' < y)) := by
          have hx0' : at2 cv p 0 = x' := by unfold at2; rw [hxy']; rfl
          have hx1' : at2 cv p 1 = y' := by unfold at2; rw [hxy']; rfl
          rw [hpq, stepB_succ, ← hpq, hx0, hx1, hx0', hx1']
        rw [hs] at HPq
        have w0 : (0 : Int) ≤ (p : Int) := by omega
        have w1 : (p : Int) < cv.length := by omega
        have hw : IntKind.i64.wrap ((q : Int) - 1) = (p : Int) := by rw [IntWalk.i64_in _ (by omega)]; omega
        clear p1 p2 hxy hx0 hx1 hq0 hxy' hs hpq
        cases k1 : decide (x ≤ x')
        rotate_left
        · have HD := Lib.hid (HFa.out (by rw [HPq.out, k1]; rfl))
          go_wp2
          go_big_quiet (first | (go_at_call 54; first | (with_reducible exact quiet_s (HX.out _)) | (with_reducible exact quiet_s2 (HX.out _))) | (go_at_call 54; first | (with_reducible exact quiet_s (HY.out _)) | (with_reducible exact quiet_s2 (HY.out _))))
          go_wp2
          clear hw
          go_ret
          exact ⟨ret_bool (by rw [HR.out, HM.out, HD.out]), below_drewN (below_drewN be0 _) _⟩
        cases k2 : decide (y' < y)
        rotate_left
        · have HD := Lib.hid (HFa.out (by rw [HPq.out, k1, k2]; rfl))
          go_wp2
          go_big_quiet (first | (go_at_call 54; first | (with_reducible exact quiet_s (HX.out _)) | (with_reducible exact quiet_s2 (HX.out _))) | (go_at_call 54; first | (with_reducible exact quiet_s (HY.out _)) | (with_reducible exact quiet_s2 (HY.out _))))
          go_wp2
          clear hw
          go_ret
          exact ⟨ret_bool (by rw [HR.out, HM.out, HD.out]), below_drewN (below_drewN be0 _) _⟩
        have HG := Lib.hid (HT.out (by rw [HPq.out, k1, k2]; rfl))
        go_wp2
        go_big_quiet (first | (go_at_call 54; first | (with_reducible exact quiet_s (HX.out _)) | (with_reducible exact quiet_s2 (HX.out _))) | (go_at_call 54; first | (with_reducible exact quiet_s (HY.out _)) | (with_reducible exact quiet_s2 (HY.out _))))
        go_wp2
        clear hw
        go_roundw
        case rel => exact ⟨q + 1, HG.out, by go_num, _, rfl⟩
        case measure => simp [intOf]; omega
    · have HD := Lib.hid (decide_eq_true (show m = cv.length by omega))
      go_wp2
      go_ret
      exact ⟨ret_bool (by rw [HR.out, HM.out, HD.out]), below_drewN be0 _⟩
end Go.Proofs.Ytlgagnbnjfneaaa
