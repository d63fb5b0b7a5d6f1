/- Proved here: the parts FanV, FansV, HofR, Idx, Drop, HasF, Press, NetP of the row's proof, joined by a program. Conditions: as each part says. -/
import Derived.Test.YtejkoicgbgoiaaaGreatFj4
import Derived.BigQuiet
/- Fans: when one is valid, by the program and by the reference. Conditions: the facts on memory and on lengths that each theorem names. Printed by gen_fan.py. -/
namespace Go.Proofs.YtejkoicgbgoiaaaGreat
open Go.RowKit
open Pl
def at2 (cv : List (List Int)) (q i : Nat) : Int := (cv.getD q []).getD i 0
def stepB (cv : List (List Int)) (q : Nat) : Bool := decide (q = 0) || (!decide (at2 cv q 0 ≤ at2 cv (q - 1) 0) && !decide (at2 cv (q - 1) 1 < at2 cv q 1))
def ptP (cv : List (List Int)) (q : Nat) : Bool := decide ((cv.getD q []).length = 2) && (inB (at2 cv q 0) 0 100000 && (inB (at2 cv q 1) 0 10000 && stepB cv q))
def curveB (cv : List (List Int)) : Bool := (decide ((2 : Int) ≤ cv.length) && decide ((cv.length : Int) ≤ 8)) && allUp (ptP cv) cv.length
noncomputable def fanB (f : Fa) : Bool := nameB f.id && (inB f.aw 0 23 && curveB f.cv)
theorem stepB_succ (cv : List (List Int)) (k : Nat) : stepB cv (k + 1) = (!decide (at2 cv (k + 1) 0 ≤ at2 cv k 0) && !decide (at2 cv k 1 < at2 cv (k + 1) 1)) := by unfold stepB; simp
theorem Nest.pair {B : Nat} {w : World} {A : Option Addr} {xss : List (List Int)} (h : Nest B w A xss) {k : Nat} (hk : k < xss.length) {x y : Int} (e : xss.getD k [] = [x, y]) :
    ∃ b o b' o' c, A = some ⟨b, o, none⟩ ∧ b < B ∧ b' < B ∧ w.cell? ⟨b, o + k, none⟩ = some (.slice (some ⟨b', o', none⟩) 2 c) ∧ w.cell? ⟨b', o', none⟩ = some (.int .i64 x) ∧ w.cell? ⟨b', o' + 1, none⟩ = some (.int .i64 y) := by
  obtain ⟨b, o, ea, hb, A', c, hc, hi⟩ := h.atD hk
  rw [e] at hc hi
  obtain ⟨ad, ead, hlt, hcc⟩ := hi (by simp)
  have h0 := hcc 0 (by simp)
  have h1 := hcc 1 (by simp)
  rw [show ad.add 0 = ad by simp [Addr.add]] at h0
  have hs := cell_spot h0
  obtain ⟨b', o', s⟩ := ad
  simp only at hs
  subst hs
  subst ead
  rw [Addr.add_lit] at h1
  exact ⟨b, o, b', o', c, ea, hb, hlt, hc, h0, h1⟩
theorem pair_of {l : List Int} (h : l.length = 2) : ∃ x y, l = [x, y] := by
  match l, h with
  | [x, y], _ => exact ⟨x, y, rfl⟩
set_option maxRecDepth 100000 in
set_option maxHeartbeats 3200000 in
theorem l06Curve_any (A : Option Addr) (c : Nat) (cv : List (List Int)) (B : Nat) (w : World) (hn : (cv.length : Int) ≤ 1099511627776) (hI : Nest B w A cv) :
    Calls Tryz.prog 140 #[.slice A cv.length c] w fun e w' => e = .returned (.bool (curveB cv)) ∧ ∃ n, w.drewN n = w' := by
  obtain ⟨R, hR⟩ : ∃ R, R = curveB cv := ⟨_, rfl⟩
  rw [← hR]
  have HR := Lib.hid hR
  clear hR
  have J0 := Lib.hid hI
  clear hI
  obtain ⟨m, m1, m2, m3⟩ := first_stop (ptP cv) cv.length
  have HM : Hid (curveB cv = ((decide ((2 : Int) ≤ cv.length) && decide ((cv.length : Int) ≤ 8)) && decide (m = cv.length))) := Lib.hid (by unfold curveB; rw [allUp_stop m1 m2 m3])
  have M2 := Lib.hid m2
  have M3 := Lib.hid m3
  clear m2 m3
  go_enter Tryz.func140, Tryz.ntmps140
  go_wp2
  go_loopw [3] (fun i wr => ∃ q : Nat, q ≤ m ∧ i = .int .i64 q ∧ ∃ n, w.drewN n = wr) (fun i _ => cv.length - (intOf i).toNat)
  case atStart => exact ⟨0, Nat.zero_le _, rfl, 0, rfl⟩
  case round =>
    obtain ⟨q, hq, rfl, n, rfl⟩ := hrel
    by_cases hlt : q < cv.length
    · have i0 : (0 : Int) ≤ (q : Int) := by omega
      have i1 : (q : Int) < cv.length := by omega
      have HT : Hid (ptP cv q = true → q + 1 ≤ m) := Lib.hid (fun h => by
        rcases Nat.lt_or_ge q m with h' | h'
        · exact h'
        · have e : m = q := by omega
          have := M3.out (by omega)
          rw [e, h] at this; cases this)
      have HFa : Hid (ptP cv q = false → decide (m = cv.length) = false) := Lib.hid (fun h => decide_eq_false (by
        intro e
        have := M2.out q (by omega)
        rw [h] at this; cases this))
      have HPq : Hid (ptP cv q = (decide ((cv.getD q []).length = 2) && (inB (at2 cv q 0) 0 100000 && (inB (at2 cv q 1) 0 10000 && stepB cv q)))) := Lib.hid rfl
      have HPr : Hid (∀ p, p < q → (cv.getD p []).length = 2) := Lib.hid (fun p hp => by
        have := M2.out p (by omega)
        unfold ptP at this
        rw [Bool.and_eq_true] at this
        exact of_decide_eq_true this.1)
      by_cases h2 : (cv.getD q []).length = 2
      rotate_left
      · have HD := Lib.hid (HFa.out (by rw [HPq.out, decide_eq_false h2]; rfl))
        obtain ⟨b, o, rfl, -, A', c', hc, -⟩ := J0.out.atD hlt
        have h2b : (((cv.getD q []).length : Int) == 2) = false := by rw [beq_eq_false_iff_ne]; omega
        generalize (cv.getD q []).length = ln at *
        have HX := Lib.hid (fun W => l00In_any 0 0 100000 W)
        have h2n : ((ln : Int) != 2) = true := by rw [bne, h2b]; rfl
        clear h2 h2b
        go_wp2
        go_big_quiet ((go_at_call 67; first | (with_reducible exact quiet_s (HX.out _)) | (with_reducible exact quiet_s2 (HX.out _))))
        go_wp2
        go_ret
        exact ⟨ret_bool (by rw [HR.out, HM.out, HD.out, Bool.and_false]), _, (World.drewN_drewN _ _ _).symm⟩
      obtain ⟨x, y, hxy⟩ := pair_of h2
      have hx0 : at2 cv q 0 = x := by unfold at2; rw [hxy]; rfl
      have hx1 : at2 cv q 1 = y := by unfold at2; rw [hxy]; rfl
      obtain ⟨b, o, b1, o1, c1, rfl, -, -, hc, c0, c1'⟩ := J0.out.pair hlt hxy
      rw [decide_eq_true h2, hx0, hx1, Bool.true_and] at HPq
      have HX := Lib.hid (fun W => l00In_any x 0 100000 W)
      have HY := Lib.hid (fun W => l00In_any y 0 10000 W)
      clear h2
      cases p1 : inB x 0 100000
      · rw [p1] at HX
        have HD := Lib.hid (HFa.out (by rw [HPq.out, p1]; rfl))
        clear p1 hxy hx0 hx1
        go_wp2
        go_big_quiet (first | (go_at_call 67; first | (with_reducible exact quiet_s (HX.out _)) | (with_reducible exact quiet_s2 (HX.out _))) | (go_at_call 67; first | (with_reducible exact quiet_s (HY.out _)) | (with_reducible exact quiet_s2 (HY.out _))))
        go_wp2
        go_ret
        exact ⟨ret_bool (by rw [HR.out, HM.out, HD.out, Bool.and_false]), _, (World.drewN_drewN _ _ _).symm⟩
      rw [p1] at HX
      cases p2 : inB y 0 10000
      · rw [p2] at HY
        have HD := Lib.hid (HFa.out (by rw [HPq.out, p1, p2]; rfl))
        clear p1 p2 hxy hx0 hx1
        go_wp2
        go_big_quiet (first | (go_at_call 67; first | (with_reducible exact quiet_s (HX.out _)) | (with_reducible exact quiet_s2 (HX.out _))) | (go_at_call 67; first | (with_reducible exact quiet_s (HY.out _)) | (with_reducible exact quiet_s2 (HY.out _))))
        go_wp2
        go_ret
        exact ⟨ret_bool (by rw [HR.out, HM.out, HD.out, Bool.and_false]), _, (World.drewN_drewN _ _ _).symm⟩
      rw [p2] at HY
      rw [p1, p2, Bool.true_and, Bool.true_and] at HPq
      by_cases hq0 : q = 0
      · have hz0 : decide (0 < q) = false := decide_eq_false (by omega)
        have HG := Lib.hid (HT.out (by rw [HPq.out]; unfold stepB; rw [decide_eq_true hq0]; rfl))
        clear p1 p2 hxy hx0 hx1 hq0
        go_wp2
        go_big_quiet (first | (go_at_call 67; first | (with_reducible exact quiet_s (HX.out _)) | (with_reducible exact quiet_s2 (HX.out _))) | (go_at_call 67; first | (with_reducible exact quiet_s (HY.out _)) | (with_reducible exact quiet_s2 (HY.out _))))
        go_wp2
        go_roundw
        case rel => exact ⟨q + 1, HG.out, by go_num, _, rfl⟩
        case measure => simp [intOf]; omega
      · obtain ⟨p, hpq⟩ : ∃ p, q = p + 1 := ⟨q - 1, by omega⟩
        have hz0 : decide (0 < q) = true := decide_eq_true (by omega)
        obtain ⟨x', y', hxy'⟩ := pair_of (HPr.out p (by omega))
        obtain ⟨b', o', b2, o2, c2, hbo, -, -, hd, d0, d1⟩ := J0.out.pair (k := p) (by omega) hxy'
        cases hbo
        have hs : stepB cv q = (!decide (x ≤ x') && !decide (y' < y)) := by
          have hx0' : at2 cv p 0 = x' := by unfold at2; rw [hxy']; rfl
          have hx1' : at2 cv p 1 = y' := by unfold at2; rw [hxy']; rfl
          rw [hpq, stepB_succ, ← hpq, hx0, hx1, hx0', hx1']
        rw [hs] at HPq
        have w0 : (0 : Int) ≤ (p : Int) := by omega
        have w1 : (p : Int) < cv.length := by omega
        have hw : IntKind.i64.wrap ((q : Int) - 1) = (p : Int) := by rw [IntWalk.i64_in _ (by omega)]; omega
        clear p1 p2 hxy hx0 hx1 hq0 hxy' hs hpq
        cases k1 : decide (x ≤ x')
        rotate_left
        · have HD := Lib.hid (HFa.out (by rw [HPq.out, k1]; rfl))
          go_wp2
          go_big_quiet (first | (go_at_call 67; first | (with_reducible exact quiet_s (HX.out _)) | (with_reducible exact quiet_s2 (HX.out _))) | (go_at_call 67; first | (with_reducible exact quiet_s (HY.out _)) | (with_reducible exact quiet_s2 (HY.out _))))
          go_wp2
          clear hw
          go_ret
          exact ⟨ret_bool (by rw [HR.out, HM.out, HD.out, Bool.and_false]), _, (World.drewN_drewN _ _ _).symm⟩
        cases k2 : decide (y' < y)
        rotate_left
        · have HD := Lib.hid (HFa.out (by rw [HPq.out, k1, k2]; rfl))
          go_wp2
          go_big_quiet (first | (go_at_call 67; first | (with_reducible exact quiet_s (HX.out _)) | (with_reducible exact quiet_s2 (HX.out _))) | (go_at_call 67; first | (with_reducible exact quiet_s (HY.out _)) | (with_reducible exact quiet_s2 (HY.out _))))
          go_wp2
          clear hw
          go_ret
          exact ⟨ret_bool (by rw [HR.out, HM.out, HD.out, Bool.and_false]), _, (World.drewN_drewN _ _ _).symm⟩
        have HG := Lib.hid (HT.out (by rw [HPq.out, k1, k2]; rfl))
        go_wp2
        go_big_quiet (first | (go_at_call 67; first | (with_reducible exact quiet_s (HX.out _)) | (with_reducible exact quiet_s2 (HX.out _))) | (go_at_call 67; first | (with_reducible exact quiet_s (HY.out _)) | (with_reducible exact quiet_s2 (HY.out _))))
        go_wp2
        clear hw
        go_roundw
        case rel => exact ⟨q + 1, HG.out, by go_num, _, rfl⟩
        case measure => simp [intOf]; omega
    · have HD := Lib.hid (decide_eq_true (show m = cv.length by omega))
      by_cases h2 : (2 : Int) ≤ cv.length
      · have H2 := Lib.hid (decide_eq_true h2)
        by_cases h8 : (cv.length : Int) ≤ 8
        · have H8 := Lib.hid (decide_eq_true h8)
          go_wp2
          go_ret
          exact ⟨ret_bool (by rw [HR.out, HM.out, HD.out, H2.out, H8.out]; rfl), _, rfl⟩
        · have H8 := Lib.hid (decide_eq_false h8)
          go_wp2
          go_ret
          exact ⟨ret_bool (by rw [HR.out, HM.out, HD.out, H2.out, H8.out]; rfl), _, rfl⟩
      · have H2 := Lib.hid (decide_eq_false h2)
        go_wp2
        go_ret
        exact ⟨ret_bool (by rw [HR.out, HM.out, HD.out, H2.out]; rfl), _, rfl⟩
theorem l06Ok_any (b o : Nat) (s : ByteArray) (a : Int) (A : Option Addr) (c : Nat) (cv : List (List Int)) (B : Nat) (w : World) (hs : s.size ≤ maxLen) (hn : (cv.length : Int) ≤ 1099511627776) (hI : Nest B w A cv) (c0 : w.cell? ⟨b, o, none⟩ = some (.string s)) (c1 : w.cell? ⟨b, o + 1, none⟩ = some (.int .i64 a)) (c2 : w.cell? ⟨b, o + 2, none⟩ = some (.slice A cv.length c)) :
    Calls Tryz.prog 107 #[.pointer (some ⟨b, o, none⟩)] w fun e w' => e = .returned (.bool (fanB ⟨s, a, cv⟩)) ∧ ∃ n, w.drewN n = w' := by
  have HC := Lib.hid (l06Curve_any A c cv B w hn hI)
  unfold fanB
  dsimp only
  clear hI
  cases h0 : nameB s
  · go_enter Tryz.func107, Tryz.ntmps107
    go_wp2_with (first | (go_at_call 67; refine (l00In_any _ _ _ _).mono ?_; rintro e w' ⟨rfl, rfl⟩) | (go_at_call 139; refine (l01Name_any _ _ hs).mono ?_; rintro e w' ⟨rfl, rfl⟩))
    go_ret
    exact ⟨rfl, 0, rfl⟩
  · cases h1 : inB a 0 23
    · go_enter Tryz.func107, Tryz.ntmps107
      go_wp2_with (first | (go_at_call 67; refine (l00In_any _ _ _ _).mono ?_; rintro e w' ⟨rfl, rfl⟩) | (go_at_call 139; refine (l01Name_any _ _ hs).mono ?_; rintro e w' ⟨rfl, rfl⟩))
      go_ret
      exact ⟨rfl, 0, rfl⟩
    · obtain ⟨h1a, h1b⟩ := inB_iff.1 h1
      generalize curveB cv = r at *
      go_enter Tryz.func107, Tryz.ntmps107
      go_wp2_with (first | (go_at_call 67; refine (l00In_any _ _ _ _).mono ?_; rintro e w' ⟨rfl, rfl⟩) | (go_at_call 139; refine (l01Name_any _ _ hs).mono ?_; rintro e w' ⟨rfl, rfl⟩))
      refine HC.out.mono ?_
      rintro e w2 ⟨rfl, n, rfl⟩
      go_wp2
      go_ret
      exact ⟨rfl, _, rfl⟩
set_option maxRecDepth 100000 in
set_option maxHeartbeats 3200000 in
theorem ValidFan_i (s : ByteArray) (a : Int) (A : Option Addr) (c : Nat) (cv : List (List Int)) (B : Nat) (w : World) (hs : s.size ≤ maxLen) (hn : (cv.length : Int) ≤ 1099511627776) (hI : Nest B w A cv) (hB : B ≤ w.heap.size) :
    Calls Tryz.prog 73 #[.agg #[.string s, .int .i64 a, .slice A cv.length c]] w fun e w' => e = .returned (.bool (fanB ⟨s, a, cv⟩)) ∧ Below w.heap.size w w' := by
  obtain ⟨R, hR⟩ : ∃ R, R = fanB ⟨s, a, cv⟩ := ⟨_, rfl⟩
  rw [← hR]
  have HR := Lib.hid hR
  clear hR
  have HFB : Hid (fanB ⟨s, a, cv⟩ = (nameB s && (inB a 0 23 && ((decide ((2 : Int) ≤ cv.length) && decide ((cv.length : Int) ≤ 8)) && allUp (ptP cv) cv.length)))) := Lib.hid rfl
  have be0 : Below w.heap.size w (w.alloc (.cells #[.string s, .int .i64 a, .slice A cv.length c] 74)) := by go_grown
  have J0 := Lib.hid ((hI.more hB).below be0)
  have b2 : ((w.alloc (.cells #[.string s, .int .i64 a, .slice A cv.length c] 74))).cell? ⟨w.heap.size, 2, none⟩ = some (.slice A cv.length c) := by go_simp
  clear hI
  cases h0 : nameB s
  · have HN := Lib.hid (show fanB ⟨s, a, cv⟩ = false by rw [HFB.out, h0]; rfl)
    go_enter Tryz.func73, Tryz.ntmps73
    go_wp2_with (first | (go_at_call 43; refine (within_any _ _ _ _).mono ?_; rintro e w' ⟨rfl, rfl⟩) | (go_at_call 103; refine (IsName_any _ _ hs).mono ?_; rintro e w' ⟨rfl, rfl⟩))
    go_ret
    exact ⟨ret_bool (by rw [HR.out, HN.out]), be0⟩
  cases h1 : inB a 0 23
  · have HN := Lib.hid (show fanB ⟨s, a, cv⟩ = false by rw [HFB.out, h0, h1]; rfl)
    go_enter Tryz.func73, Tryz.ntmps73
    go_wp2_with (first | (go_at_call 43; refine (within_any _ _ _ _).mono ?_; rintro e w' ⟨rfl, rfl⟩) | (go_at_call 103; refine (IsName_any _ _ hs).mono ?_; rintro e w' ⟨rfl, rfl⟩))
    go_ret
    exact ⟨ret_bool (by rw [HR.out, HN.out]), be0⟩
  by_cases h2 : (2 : Int) ≤ cv.length
  rotate_left
  · have HN := Lib.hid (show fanB ⟨s, a, cv⟩ = false by rw [HFB.out, h0, h1, decide_eq_false h2]; rfl)
    go_enter Tryz.func73, Tryz.ntmps73
    go_wp2_with (first | (go_at_call 43; refine (within_any _ _ _ _).mono ?_; rintro e w' ⟨rfl, rfl⟩) | (go_at_call 103; refine (IsName_any _ _ hs).mono ?_; rintro e w' ⟨rfl, rfl⟩))
    go_ret
    exact ⟨ret_bool (by rw [HR.out, HN.out]), be0⟩
  by_cases h8 : (cv.length : Int) ≤ 8
  rotate_left
  · have HN := Lib.hid (show fanB ⟨s, a, cv⟩ = false by rw [HFB.out, h0, h1, decide_eq_false h8, Bool.and_false]; rfl)
    go_enter Tryz.func73, Tryz.ntmps73
    go_wp2_with (first | (go_at_call 43; refine (within_any _ _ _ _).mono ?_; rintro e w' ⟨rfl, rfl⟩) | (go_at_call 103; refine (IsName_any _ _ hs).mono ?_; rintro e w' ⟨rfl, rfl⟩))
    go_ret
    exact ⟨ret_bool (by rw [HR.out, HN.out]), be0⟩
  obtain ⟨m, m1, m2, m3⟩ := first_stop (ptP cv) cv.length
  have HM : Hid (fanB ⟨s, a, cv⟩ = decide (m = cv.length)) := Lib.hid (by rw [HFB.out, h0, h1, decide_eq_true h2, decide_eq_true h8, allUp_stop m1 m2 m3]; rfl)
  have M2 := Lib.hid m2
  have M3 := Lib.hid m3
  clear m2 m3 HFB
  go_enter Tryz.func73, Tryz.ntmps73
  go_wp2_with (first | (go_at_call 43; refine (within_any _ _ _ _).mono ?_; rintro e w' ⟨rfl, rfl⟩) | (go_at_call 103; refine (IsName_any _ _ hs).mono ?_; rintro e w' ⟨rfl, rfl⟩))
  generalize (w.alloc (.cells #[.string s, .int .i64 a, .slice A cv.length c] 74)) = v0 at *
  clear h0 h1
  go_loopw [30] (fun i wr => ∃ q : Nat, q ≤ m ∧ i = .int .i64 q ∧ ∃ n, v0.drewN n = wr) (fun i _ => cv.length - (intOf i).toNat)
  case atStart => exact ⟨0, Nat.zero_le _, rfl, 0, rfl⟩
  case round =>
    obtain ⟨q, hq, rfl, n, rfl⟩ := hrel
    by_cases hlt : q < cv.length
    · have i0 : (0 : Int) ≤ (q : Int) := by omega
      have i1 : (q : Int) < cv.length := by omega
      have HT : Hid (ptP cv q = true → q + 1 ≤ m) := Lib.hid (fun h => by
        rcases Nat.lt_or_ge q m with h' | h'
        · exact h'
        · have e : m = q := by omega
          have := M3.out (by omega)
          rw [e, h] at this; cases this)
      have HFa : Hid (ptP cv q = false → decide (m = cv.length) = false) := Lib.hid (fun h => decide_eq_false (by
        intro e
        have := M2.out q (by omega)
        rw [h] at this; cases this))
      have HPq : Hid (ptP cv q = (decide ((cv.getD q []).length = 2) && (inB (at2 cv q 0) 0 100000 && (inB (at2 cv q 1) 0 10000 && stepB cv q)))) := Lib.hid rfl
      have HPr : Hid (∀ p, p < q → (cv.getD p []).length = 2) := Lib.hid (fun p hp => by
        have := M2.out p (by omega)
        unfold ptP at this
        rw [Bool.and_eq_true] at this
        exact of_decide_eq_true this.1)
      by_cases h2 : (cv.getD q []).length = 2
      rotate_left
      · have HD := Lib.hid (HFa.out (by rw [HPq.out, decide_eq_false h2]; rfl))
        obtain ⟨b, o, rfl, -, A', c', hc, -⟩ := J0.out.atD hlt
        have h2b : (((cv.getD q []).length : Int) == 2) = false := by rw [beq_eq_false_iff_ne]; omega
        generalize (cv.getD q []).length = ln at *
        have HX := Lib.hid (fun W => within_any 0 0 100000 W)
        have h2n : ((ln : Int) != 2) = true := by rw [bne, h2b]; rfl
        clear h2 h2b
        go_wp2
        go_big_quiet ((go_at_call 43; first | (with_reducible exact quiet_s (HX.out _)) | (with_reducible exact quiet_s2 (HX.out _))))
        go_wp2
        go_ret
        exact ⟨ret_bool (by rw [HR.out, HM.out, HD.out]), below_drewN (below_drewN be0 _) _⟩
      obtain ⟨x, y, hxy⟩ := pair_of h2
      have hx0 : at2 cv q 0 = x := by unfold at2; rw [hxy]; rfl
      have hx1 : at2 cv q 1 = y := by unfold at2; rw [hxy]; rfl
      obtain ⟨b, o, b1, o1, c1, rfl, -, -, hc, c0, c1'⟩ := J0.out.pair hlt hxy
      rw [decide_eq_true h2, hx0, hx1, Bool.true_and] at HPq
      have HX := Lib.hid (fun W => within_any x 0 100000 W)
      have HY := Lib.hid (fun W => within_any y 0 10000 W)
      clear h2
      cases p1 : inB x 0 100000
      · rw [p1] at HX
        have HD := Lib.hid (HFa.out (by rw [HPq.out, p1]; rfl))
        clear p1 hxy hx0 hx1
        go_wp2
        go_big_quiet (first | (go_at_call 43; first | (with_reducible exact quiet_s (HX.out _)) | (with_reducible exact quiet_s2 (HX.out _))) | (go_at_call 43; first | (with_reducible exact quiet_s (HY.out _)) | (with_reducible exact quiet_s2 (HY.out _))))
        go_wp2
        go_ret
        exact ⟨ret_bool (by rw [HR.out, HM.out, HD.out]), below_drewN (below_drewN be0 _) _⟩
      rw [p1] at HX
      cases p2 : inB y 0 10000
      · rw [p2] at HY
        have HD := Lib.hid (HFa.out (by rw [HPq.out, p1, p2]; rfl))
        clear p1 p2 hxy hx0 hx1
        go_wp2
        go_big_quiet (first | (go_at_call 43; first | (with_reducible exact quiet_s (HX.out _)) | (with_reducible exact quiet_s2 (HX.out _))) | (go_at_call 43; first | (with_reducible exact quiet_s (HY.out _)) | (with_reducible exact quiet_s2 (HY.out _))))
        go_wp2
        go_ret
        exact ⟨ret_bool (by rw [HR.out, HM.out, HD.out]), below_drewN (below_drewN be0 _) _⟩
      rw [p2] at HY
      rw [p1, p2, Bool.true_and, Bool.true_and] at HPq
      by_cases hq0 : q = 0
      · have hz0 : decide (0 < q) = false := decide_eq_false (by omega)
        have HG := Lib.hid (HT.out (by rw [HPq.out]; unfold stepB; rw [decide_eq_true hq0]; rfl))
        clear p1 p2 hxy hx0 hx1 hq0
        go_wp2
        go_big_quiet (first | (go_at_call 43; first | (with_reducible exact quiet_s (HX.out _)) | (with_reducible exact quiet_s2 (HX.out _))) | (go_at_call 43; first | (with_reducible exact quiet_s (HY.out _)) | (with_reducible exact quiet_s2 (HY.out _))))
        go_wp2
        go_roundw
        case rel => exact ⟨q + 1, HG.out, by go_num, _, rfl⟩
        case measure => simp [intOf]; omega
      · obtain ⟨p, hpq⟩ : ∃ p, q = p + 1 := ⟨q - 1, by omega⟩
        have hz0 : decide (0 < q) = true := decide_eq_true (by omega)
        obtain ⟨x', y', hxy'⟩ := pair_of (HPr.out p (by omega))
        obtain ⟨b', o', b2, o2, c2, hbo, -, -, hd, d0, d1⟩ := J0.out.pair (k := p) (by omega) hxy'
        cases hbo
        have hs : stepB cv q = (!decide (x ≤ x') && !decide (y' < y)) := by
          have hx0' : at2 cv p 0 = x' := by unfold at2; rw [hxy']; rfl
          have hx1' : at2 cv p 1 = y' := by unfold at2; rw [hxy']; rfl
          rw [hpq, stepB_succ, ← hpq, hx0, hx1, hx0', hx1']
        rw [hs] at HPq
        have w0 : (0 : Int) ≤ (p : Int) := by omega
        have w1 : (p : Int) < cv.length := by omega
        have hw : IntKind.i64.wrap ((q : Int) - 1) = (p : Int) := by rw [IntWalk.i64_in _ (by omega)]; omega
        clear p1 p2 hxy hx0 hx1 hq0 hxy' hs hpq
        cases k1 : decide (x ≤ x')
        rotate_left
        · have HD := Lib.hid (HFa.out (by rw [HPq.out, k1]; rfl))
          go_wp2
          go_big_quiet (first | (go_at_call 43; first | (with_reducible exact quiet_s (HX.out _)) | (with_reducible exact quiet_s2 (HX.out _))) | (go_at_call 43; first | (with_reducible exact quiet_s (HY.out _)) | (with_reducible exact quiet_s2 (HY.out _))))
          go_wp2
          clear hw
          go_ret
          exact ⟨ret_bool (by rw [HR.out, HM.out, HD.out]), below_drewN (below_drewN be0 _) _⟩
        cases k2 : decide (y' < y)
        rotate_left
        · have HD := Lib.hid (HFa.out (by rw [HPq.out, k1, k2]; rfl))
          go_wp2
          go_big_quiet (first | (go_at_call 43; first | (with_reducible exact quiet_s (HX.out _)) | (with_reducible exact quiet_s2 (HX.out _))) | (go_at_call 43; first | (with_reducible exact quiet_s (HY.out _)) | (with_reducible exact quiet_s2 (HY.out _))))
          go_wp2
          clear hw
          go_ret
          exact ⟨ret_bool (by rw [HR.out, HM.out, HD.out]), below_drewN (below_drewN be0 _) _⟩
        have HG := Lib.hid (HT.out (by rw [HPq.out, k1, k2]; rfl))
        go_wp2
        go_big_quiet (first | (go_at_call 43; first | (with_reducible exact quiet_s (HX.out _)) | (with_reducible exact quiet_s2 (HX.out _))) | (go_at_call 43; first | (with_reducible exact quiet_s (HY.out _)) | (with_reducible exact quiet_s2 (HY.out _))))
        go_wp2
        clear hw
        go_roundw
        case rel => exact ⟨q + 1, HG.out, by go_num, _, rfl⟩
        case measure => simp [intOf]; omega
    · have HD := Lib.hid (decide_eq_true (show m = cv.length by omega))
      go_wp2
      go_ret
      exact ⟨ret_bool (by rw [HR.out, HM.out, HD.out]), below_drewN be0 _⟩
end Go.Proofs.YtejkoicgbgoiaaaGreat

/- Lists of fans: when one is valid, by the program and by the reference. Conditions: the facts on memory and on lengths that each theorem names. Printed by gen_fans.py. -/
namespace Go.Proofs.YtejkoicgbgoiaaaGreat
open Go.RowKit
open Pl
def ordF (xs : List Fa) (k : Nat) : Bool := decide (k = 0) || Op.bytesLess (xs.getD (k - 1) nFa).id.toList (xs.getD k nFa).id.toList
noncomputable def fansP (xs : List Fa) (k : Nat) : Bool := fanB (xs.getD k nFa) && ordF xs k
noncomputable def fansB (xs : List Fa) : Bool := decide ((xs.length : Int) ≤ 8) && allUp (fansP xs) xs.length
theorem eqbb {P : Program} {f : FuncId} {args : Array Value} {w : World} {B : Nat} {b b' : Bool} (h : Calls P f args w fun e w' => e = .returned (.bool b) ∧ Below B w w') (hb : b = b') :
    Calls P f args w fun e w' => e = .returned (.bool b') ∧ Below B w w' := by rw [← hb]; exact h
theorem ordF_succ (xs : List Fa) (k : Nat) : ordF xs (k + 1) = Op.bytesLess (xs.getD k nFa).id.toList (xs.getD (k + 1) nFa).id.toList := by unfold ordF; simp
theorem FitsF.id {xs : List Fa} (h : FitsF xs) (k : Nat) : (xs.getD k nFa).id.size ≤ maxLen := by
  by_cases hk : k < xs.length
  · rw [getD_fa hk]; exact (h _ (List.getElem_mem hk)).1
  · rw [show xs.getD k nFa = nFa by simp [List.getD, List.getElem?_eq_none (by omega : xs.length ≤ k)]]; exact Nat.zero_le _
theorem FansLen.cv {xs : List Fa} (h : FansLen xs) {k : Nat} (hk : k < xs.length) : (xs.getD k nFa).cv.length ≤ 1048576 := by rw [getD_fa hk]; exact (h _ (List.getElem_mem hk)).1
set_option maxRecDepth 100000 in
set_option maxHeartbeats 3200000 in
theorem ValidFans_i (A : Option Addr) (c : Nat) (xs : List Fa) (B : Nat) (w : World) (hn : (xs.length : Int) ≤ 1099511627776) (hF : FitsF xs) (hl : FansLen xs) (hI : Fns B w A xs) (hB : B ≤ w.heap.size) :
    Calls Tryz.prog 42 #[.slice A xs.length c] w fun e w' => e = .returned (.bool (fansB xs)) ∧ Below w.heap.size w w' := by
  obtain ⟨R, hR⟩ : ∃ R, R = fansB xs := ⟨_, rfl⟩
  rw [← hR]
  have HR := Lib.hid hR
  clear hR
  have J0 := Lib.hid (hI.more hB)
  have HL := Lib.hid (FitsF.id hF)
  have HV0 := Lib.hid (fun k (hk : k < xs.length) => FansLen.cv hl hk)
  clear hI hF hl
  by_cases h8 : (xs.length : Int) ≤ 8
  rotate_left
  · have HN : Hid (fansB xs = false) := Lib.hid (by unfold fansB; rw [decide_eq_false h8]; rfl)
    go_enter Tryz.func42, Tryz.ntmps42
    go_wp2
    go_ret
    exact ⟨ret_bool (by rw [HR.out, HN.out]), Below.refl _ _⟩
  obtain ⟨m, m1, m2, m3⟩ := first_stop (fansP xs) xs.length
  have HM : Hid (fansB xs = decide (m = xs.length)) := Lib.hid (by unfold fansB; rw [decide_eq_true h8, allUp_stop m1 m2 m3]; rfl)
  have M2 := Lib.hid m2
  have M3 := Lib.hid m3
  clear m2 m3
  go_enter Tryz.func42, Tryz.ntmps42
  go_wp2
  go_loopw [10] (fun i wr => ∃ q : Nat, q ≤ m ∧ i = .int .i64 q ∧ Below w.heap.size w wr) (fun i _ => xs.length - (intOf i).toNat)
  case atStart => exact ⟨0, Nat.zero_le _, rfl, Below.refl _ _⟩
  case round =>
    obtain ⟨q, hq, rfl, hb⟩ := hrel
    by_cases hlt : q < xs.length
    · obtain ⟨⟨s, a, cv⟩, hx⟩ : ∃ x, xs.getD q nFa = x := ⟨_, rfl⟩
      obtain ⟨b, o, A', c', rfl, hab, c0, c1, c2, hI'⟩ := (J0.out.below hb).at_ hlt hx
      have hs : s.size ≤ maxLen := by have := HL.out q; rw [hx] at this; exact this
      have hcl : cv.length ≤ 1048576 := by have := HV0.out q hlt; rw [hx] at this; exact this
      have i0 : (0 : Int) ≤ (q : Int) := by omega
      have i1 : (q : Int) < xs.length := by omega
      have e0 := fun L : Later (wr.alloc (.cells #[.string s, .int .i64 a, .slice A' cv.length c'] 74)) => L.cell (p := ⟨wr.heap.size, 0, none⟩) (v := .string s) (by simp)
      have e1 := fun L : Later (wr.alloc (.cells #[.string s, .int .i64 a, .slice A' cv.length c'] 74)) => L.cell (p := ⟨wr.heap.size, 1, none⟩) (v := .int .i64 a) (by simp)
      have e2 := fun L : Later (wr.alloc (.cells #[.string s, .int .i64 a, .slice A' cv.length c'] 74)) => L.cell (p := ⟨wr.heap.size, 2, none⟩) (v := .slice A' cv.length c') (by simp)
      have hsz := hb.size
      have hba : Below w.heap.size w (wr.alloc (.cells #[.string s, .int .i64 a, .slice A' cv.length c'] 74)) := hb.alloc hb.size _
      have haa : Below wr.heap.size wr (wr.alloc (.cells #[.string s, .int .i64 a, .slice A' cv.length c'] 74)) := (Below.refl _ _).alloc (Nat.le_refl _) _
      have hIw : Nest wr.heap.size wr A' cv := hI'.more hb.size
      have HV1 := Lib.hid (fun L : Later (wr.alloc (.cells #[.string s, .int .i64 a, .slice A' cv.length c'] 74)) => ValidFan_i s a A' c' cv wr.heap.size L.world hs (by omega) ((hIw.below haa).below (L.below.mono (by simp))) (by have := L.below.size; simp at this; omega))
      clear hI' hIw haa hcl
      by_cases hqm : q < m
      · have hp := M2.out q hqm
        unfold fansP at hp
        rw [Bool.and_eq_true] at hp
        obtain ⟨p1, p3⟩ := hp
        rw [hx] at p1
        have HV := Lib.hid (fun L => eqbb (HV1.out L) p1)
        by_cases hq0 : q = 0
        · have hz0 : decide (0 < q) = false := decide_eq_false (by omega)
          clear p1 p3 hx hq0
          go_wp2
          refine wp_region_later (by kernel_rfl) (by kernel_rfl) ?_
          repeat (go_big_quiet_step ((go_at_call 73; first | (with_reducible exact later_b (HV.out _)) | (with_reducible exact later_d (HV.out _)) | (with_reducible exact later_s (HV.out _)))))
          refine wpQuiet_nil ?_
          intro _ hw'
          obtain ⟨LL, hw''⟩ := hw'
          subst hw''
          go_wp2
          go_roundw
          case rel => exact ⟨q + 1, by omega, by go_num, hba.trans (LL.below.mono (by simp; omega))⟩
          case measure => simp [intOf]; omega
        · obtain ⟨p, hp⟩ : ∃ p, q = p + 1 := ⟨q - 1, by omega⟩
          have hz0 : decide (0 < q) = true := decide_eq_true (by omega)
          obtain ⟨⟨s', a', cv'⟩, hx'⟩ : ∃ x, xs.getD p nFa = x := ⟨_, rfl⟩
          obtain ⟨b', o', A3, c3, hbo, _, d0, -, -, -⟩ := (J0.out.below hb).at_ (k := p) (by omega) hx'
          cases hbo
          have g2 := fun L : Later (wr.alloc (.cells #[.string s, .int .i64 a, .slice A' cv.length c'] 74)) => L.cell (Lib.cell?_alloc_some _ d0)
          rw [hp, ordF_succ, ← hp, hx, hx'] at p3
          have p3 : Op.bytesLess s'.toList s.toList = true := p3
          obtain ⟨o1, o2⟩ := (less_flip s'.toList s.toList).1 p3
          have w0 : (0 : Int) ≤ (p : Int) := by omega
          have w1 : (p : Int) < xs.length := by omega
          have hw : IntKind.i64.wrap ((q : Int) - 1) = (p : Int) := by rw [IntWalk.i64_in _ (by omega)]; omega
          clear p1 p3 hx hx' hp hq0
          go_wp2
          refine wp_region_later (by kernel_rfl) (by kernel_rfl) ?_
          repeat (go_big_quiet_step ((go_at_call 73; first | (with_reducible exact later_b (HV.out _)) | (with_reducible exact later_d (HV.out _)) | (with_reducible exact later_s (HV.out _)))))
          refine wpQuiet_nil ?_
          intro _ hw'
          obtain ⟨LL, hw''⟩ := hw'
          subst hw''
          clear hw
          go_wp2
          go_roundw
          case rel => exact ⟨q + 1, by omega, by go_num, hba.trans (LL.below.mono (by simp; omega))⟩
          case measure => simp [intOf]; omega
      · obtain rfl : m = q := by omega
        have HD := Lib.hid (decide_eq_false (show ¬ m = xs.length by omega))
        have hp := M3.out hlt
        unfold fansP at hp
        rw [hx] at hp
        cases p1 : fanB ⟨s, a, cv⟩
        · have HV := Lib.hid (fun L => eqbb (HV1.out L) p1)
          clear p1 hp hx
          go_wp2
          refine wp_region_later (by kernel_rfl) (by kernel_rfl) ?_
          repeat (go_big_quiet_step ((go_at_call 73; first | (with_reducible exact later_b (HV.out _)) | (with_reducible exact later_d (HV.out _)) | (with_reducible exact later_s (HV.out _)))))
          refine wpQuiet_nil ?_
          intro _ hw'
          obtain ⟨LL, hw''⟩ := hw'
          subst hw''
          go_wp2
          go_ret
          exact ⟨ret_bool (by rw [HR.out, HM.out, HD.out]), hba.trans (LL.below.mono (by simp; omega))⟩
        · have HV := Lib.hid (fun L => eqbb (HV1.out L) p1)
          rw [p1, Bool.true_and] at hp
          have hq0 : m ≠ 0 := fun e => by rw [e] at hp; simp [ordF] at hp
          obtain ⟨p, hpm⟩ : ∃ p, m = p + 1 := ⟨m - 1, by omega⟩
          have hz0 : decide (0 < m) = true := decide_eq_true (by omega)
          obtain ⟨⟨s', a', cv'⟩, hx'⟩ : ∃ x, xs.getD p nFa = x := ⟨_, rfl⟩
          obtain ⟨b', o', A3, c3, hbo, _, d0, -, -, -⟩ := (J0.out.below hb).at_ (k := p) (by omega) hx'
          cases hbo
          have g2 := fun L : Later (wr.alloc (.cells #[.string s, .int .i64 a, .slice A' cv.length c'] 74)) => L.cell (Lib.cell?_alloc_some _ d0)
          rw [hpm, ordF_succ, ← hpm, hx, hx'] at hp
          have p3 : Op.bytesLess s'.toList s.toList = false := hp
          have w0 : (0 : Int) ≤ (p : Int) := by omega
          have w1 : (p : Int) < xs.length := by omega
          have hw : IntKind.i64.wrap ((m : Int) - 1) = (p : Int) := by rw [IntWalk.i64_in _ (by omega)]; omega
          rcases (less_flip s'.toList s.toList).2 p3 with o1 | ⟨o1, o2⟩
          · clear p1 p3 hx hx' hpm hq0 hp
            go_wp2
            refine wp_region_later (by kernel_rfl) (by kernel_rfl) ?_
            repeat (go_big_quiet_step ((go_at_call 73; first | (with_reducible exact later_b (HV.out _)) | (with_reducible exact later_d (HV.out _)) | (with_reducible exact later_s (HV.out _)))))
            refine wpQuiet_nil ?_
            intro _ hw'
            obtain ⟨LL, hw''⟩ := hw'
            subst hw''
            clear hw
            go_wp2
            go_ret
            exact ⟨ret_bool (by rw [HR.out, HM.out, HD.out]), hba.trans (LL.below.mono (by simp; omega))⟩
          · clear p1 p3 hx hx' hpm hq0 hp
            go_wp2
            refine wp_region_later (by kernel_rfl) (by kernel_rfl) ?_
            repeat (go_big_quiet_step ((go_at_call 73; first | (with_reducible exact later_b (HV.out _)) | (with_reducible exact later_d (HV.out _)) | (with_reducible exact later_s (HV.out _)))))
            refine wpQuiet_nil ?_
            intro _ hw'
            obtain ⟨LL, hw''⟩ := hw'
            subst hw''
            clear hw
            go_wp2
            go_ret
            exact ⟨ret_bool (by rw [HR.out, HM.out, HD.out]), hba.trans (LL.below.mono (by simp; omega))⟩

    · have HD := Lib.hid (decide_eq_true (show m = xs.length by omega))
      go_wp2
      go_ret
      exact ⟨ret_bool (by rw [HR.out, HM.out, HD.out]), hb⟩
set_option maxRecDepth 100000 in
set_option maxHeartbeats 3200000 in
theorem l06List_any (A : Option Addr) (c : Nat) (xs : List Fa) (B : Nat) (w : World) (hn : (xs.length : Int) ≤ 1099511627776) (hF : FitsF xs) (hl : FansLen xs) (hI : Fns B w A xs) :
    Calls Tryz.prog 77 #[.slice A xs.length c] w fun e w' => e = .returned (.bool (fansB xs)) ∧ ∃ n, w.drewN n = w' := by
  obtain ⟨R, hR⟩ : ∃ R, R = fansB xs := ⟨_, rfl⟩
  rw [← hR]
  have HR := Lib.hid hR
  clear hR
  have J0 := Lib.hid hI
  have HL := Lib.hid (FitsF.id hF)
  have HV0 := Lib.hid (fun k (hk : k < xs.length) => FansLen.cv hl hk)
  clear hI hF hl
  obtain ⟨m, m1, m2, m3⟩ := first_stop (fansP xs) xs.length
  have HM : Hid (fansB xs = (decide ((xs.length : Int) ≤ 8) && decide (m = xs.length))) := Lib.hid (by unfold fansB; rw [allUp_stop m1 m2 m3])
  have M2 := Lib.hid m2
  have M3 := Lib.hid m3
  clear m2 m3
  go_enter Tryz.func77, Tryz.ntmps77
  go_wp2
  go_loopw [3] (fun i wr => ∃ q : Nat, q ≤ m ∧ i = .int .i64 q ∧ ∃ n, w.drewN n = wr) (fun i _ => xs.length - (intOf i).toNat)
  case atStart => exact ⟨0, Nat.zero_le _, rfl, 0, rfl⟩
  case round =>
    obtain ⟨q, hq, rfl, n, rfl⟩ := hrel
    by_cases hlt : q < xs.length
    · obtain ⟨⟨s, a, cv⟩, hx⟩ : ∃ x, xs.getD q nFa = x := ⟨_, rfl⟩
      obtain ⟨b, o, A', c', rfl, hab, c0, c1, c2, hI'⟩ := J0.out.at_ hlt hx
      have hs : s.size ≤ maxLen := by have := HL.out q; rw [hx] at this; exact this
      have hcl : cv.length ≤ 1048576 := by have := HV0.out q hlt; rw [hx] at this; exact this
      have i0 : (0 : Int) ≤ (q : Int) := by omega
      have i1 : (q : Int) < xs.length := by omega
      have HV1 := Lib.hid (fun n => l06Ok_any b (o + q * 3) s a A' c' cv B (w.drewN n) hs (by omega) (hI'.below (below_drewN (Below.refl _ _) n)) (by simpa using c0) (by simpa using c1) (by simpa using c2))
      clear hI' hcl
      by_cases hqm : q < m
      · have hp := M2.out q hqm
        unfold fansP at hp
        rw [Bool.and_eq_true] at hp
        obtain ⟨p1, p3⟩ := hp
        rw [hx] at p1
        have HV := Lib.hid (fun n => eqbd (HV1.out n) p1)
        by_cases hq0 : q = 0
        · have hz0 : decide (0 < q) = false := decide_eq_false (by omega)
          clear p1 p3 hx hq0
          go_wp2
          go_big_quiet ((go_at_call 107; first | (with_reducible exact quiet_d (HV.out _)) | (with_reducible exact quiet_d2 (HV.out _))))
          go_wp2
          go_roundw
          case rel => exact ⟨q + 1, by omega, by go_num, _, rfl⟩
          case measure => simp [intOf]; omega
        · obtain ⟨p, hp⟩ : ∃ p, q = p + 1 := ⟨q - 1, by omega⟩
          have hz0 : decide (0 < q) = true := decide_eq_true (by omega)
          obtain ⟨⟨s', a', cv'⟩, hx'⟩ : ∃ x, xs.getD p nFa = x := ⟨_, rfl⟩
          obtain ⟨b', o', A3, c3, hbo, _, d0, -, -, -⟩ := J0.out.at_ (k := p) (by omega) hx'
          cases hbo
          rw [hp, ordF_succ, ← hp, hx, hx'] at p3
          have p3 : Op.bytesLess s'.toList s.toList = true := p3
          obtain ⟨o1, o2⟩ := (less_flip s'.toList s.toList).1 p3
          have w0 : (0 : Int) ≤ (p : Int) := by omega
          have w1 : (p : Int) < xs.length := by omega
          have hw : IntKind.i64.wrap ((q : Int) - 1) = (p : Int) := by rw [IntWalk.i64_in _ (by omega)]; omega
          clear p1 hx hx' hp hq0
          go_wp2
          go_big_quiet ((go_at_call 107; first | (with_reducible exact quiet_d (HV.out _)) | (with_reducible exact quiet_d2 (HV.out _))))
          clear hw
          go_wp2
          go_roundw
          case rel => exact ⟨q + 1, by omega, by go_num, _, rfl⟩
          case measure => simp [intOf]; omega
      · obtain rfl : m = q := by omega
        have HD := Lib.hid (decide_eq_false (show ¬ m = xs.length by omega))
        have hp := M3.out hlt
        unfold fansP at hp
        rw [hx] at hp
        cases p1 : fanB ⟨s, a, cv⟩
        · have HV := Lib.hid (fun n => eqbd (HV1.out n) p1)
          clear p1 hp hx
          go_wp2
          go_big_quiet ((go_at_call 107; first | (with_reducible exact quiet_d (HV.out _)) | (with_reducible exact quiet_d2 (HV.out _))))
          go_wp2
          go_ret
          exact ⟨ret_bool (by rw [HR.out, HM.out, HD.out, Bool.and_false]), _, (World.drewN_drewN _ _ _).symm⟩
        · have HV := Lib.hid (fun n => eqbd (HV1.out n) p1)
          rw [p1, Bool.true_and] at hp
          have hq0 : m ≠ 0 := fun e => by rw [e] at hp; simp [ordF] at hp
          obtain ⟨p, hpm⟩ : ∃ p, m = p + 1 := ⟨m - 1, by omega⟩
          have hz0 : decide (0 < m) = true := decide_eq_true (by omega)
          obtain ⟨⟨s', a', cv'⟩, hx'⟩ : ∃ x, xs.getD p nFa = x := ⟨_, rfl⟩
          obtain ⟨b', o', A3, c3, hbo, _, d0, -, -, -⟩ := J0.out.at_ (k := p) (by omega) hx'
          cases hbo
          rw [hpm, ordF_succ, ← hpm, hx, hx'] at hp
          have p3 : Op.bytesLess s'.toList s.toList = false := hp
          have w0 : (0 : Int) ≤ (p : Int) := by omega
          have w1 : (p : Int) < xs.length := by omega
          have hw : IntKind.i64.wrap ((m : Int) - 1) = (p : Int) := by rw [IntWalk.i64_in _ (by omega)]; omega
          clear p1 hx hx' hpm hq0 hp
          go_wp2
          go_big_quiet ((go_at_call 107; first | (with_reducible exact quiet_d (HV.out _)) | (with_reducible exact quiet_d2 (HV.out _))))
          clear hw
          go_wp2
          go_ret
          exact ⟨ret_bool (by rw [HR.out, HM.out, HD.out, Bool.and_false]), _, (World.drewN_drewN _ _ _).symm⟩

    · have HD := Lib.hid (decide_eq_true (show m = xs.length by omega))
      by_cases h8 : (xs.length : Int) ≤ 8
      · have H8 := Lib.hid (decide_eq_true h8)
        go_wp2
        go_ret
        exact ⟨ret_bool (by rw [HR.out, HM.out, HD.out, H8.out]; rfl), _, rfl⟩
      · have H8 := Lib.hid (decide_eq_false h8)
        go_wp2
        go_ret
        exact ⟨ret_bool (by rw [HR.out, HM.out, HD.out, H8.out]; rfl), _, rfl⟩
end Go.Proofs.YtejkoicgbgoiaaaGreat

/- Whether an element of a list of fans, of doors has a property of its airway. Conditions: the facts on memory and on lengths that each theorem names. Printed by gen_hofr.py. -/
namespace Go.Proofs.YtejkoicgbgoiaaaGreat
open Go.RowKit
open Pl
theorem any_stop {α : Type} (P : α → Bool) : ∀ (xs : List α) (z : α), ∃ m, m ≤ xs.length ∧ (∀ k, k < m → P (xs.getD k z) = false) ∧ (m < xs.length → P (xs.getD m z) = true) ∧ xs.any P = decide (m < xs.length)
  | [], z => ⟨0, Nat.le_refl _, fun _ h => absurd h (by omega), fun h => absurd h (by simp), by simp⟩
  | x :: xs, z => by
    cases hp : P x
    · obtain ⟨m, h1, h2, h3, h4⟩ := any_stop P xs z
      refine ⟨m + 1, by simpa using h1, fun k hk => ?_, fun h => ?_, ?_⟩
      · cases k with
        | zero => exact hp
        | succ k => exact h2 k (by omega)
      · exact h3 (by simpa using h)
      · rw [List.any_cons, hp, h4]; simp
    · exact ⟨0, Nat.zero_le _, fun _ h => absurd h (by omega), fun _ => hp, by simp [hp]⟩
/-- A function value tells of each element, by its airway. -/
def TellsF (g : FuncId) (cb : Array Value) (p : Int → Bool) (w : World) : Prop := ∀ (s : ByteArray) (a : Int) (A' : Option Addr) (n c' : Nat) W, Below w.heap.size w W → Calls Tryz.prog g (#[.agg #[.string s, .int .i64 a, .slice A' n c']] ++ cb) W fun e w' => e = .returned (.bool (p a)) ∧ Below W.heap.size W w'
set_option maxRecDepth 100000 in
theorem IndexFuncF_any (g : FuncId) (cb : Array Value) (eg : ∀ args w, (callFunc g args).run Tryz.prog w = .ok (.enter g args) w) (A : Option Addr) (c m : Nat) (xs : List Fa) (B : Nat) (p : Int → Bool) (w : World) (hn : (xs.length : Int) ≤ 1099511627776) (hI : Fns B w A xs) (hB : B ≤ w.heap.size) (hf : TellsF g cb p w) (_ : m ≤ xs.length) (h1 : ∀ k, k < m → p (xs.getD k nFa).aw = false) (h2 : m < xs.length → p (xs.getD m nFa).aw = true) :
    Calls Tryz.prog 155 #[.slice A xs.length c, .func (.func g) #[] cb] w fun e w' => e = .returned (.int .i64 (if m < xs.length then (m : Int) else -1)) ∧ Below w.heap.size w w' := by
  have H1 := Lib.hid h1
  have H2 := Lib.hid h2
  have J := Lib.hid (hI.more hB)
  have HF := Lib.hid hf
  clear h1 h2 hI hf
  obtain ⟨R, hR⟩ : ∃ R : Int, R = if m < xs.length then (m : Int) else -1 := ⟨_, rfl⟩
  rw [← hR]
  have HR := Lib.hid hR
  clear hR
  go_enter Tryz.func155, Tryz.ntmps155
  go_wp2
  go_loopw [8] (fun i wr => ∃ k : Nat, k ≤ m ∧ i = .int .i64 k ∧ Below w.heap.size w wr) (fun i _ => xs.length - (intOf i).toNat)
  case atStart => exact ⟨0, Nat.zero_le _, rfl, Below.refl _ _⟩
  case round =>
    obtain ⟨k, hk, rfl, hb⟩ := hrel
    by_cases hlt : k < xs.length
    · obtain ⟨⟨s, a, cv⟩, hx⟩ : ∃ x, xs.getD k nFa = x := ⟨_, rfl⟩
      obtain ⟨b, o, A', c', rfl, hab, c0, c1, c2, -⟩ := (J.out.below hb).at_ hlt hx
      have hc := HF.out s a A' cv.length c' wr hb
      have i0 : (0 : Int) ≤ (k : Int) := by omega
      have i1 : (k : Int) < xs.length := by omega
      by_cases hb' : k < m
      · have hp : p a = false := by have := H1.out k hb'; rw [hx] at this; exact this
        rw [hp] at hc
        have HQ := Lib.hid hc
        clear hp hc hx
        go_wp2_with (go_at_fn g; refine HQ.out.mono ?_; rintro e w' ⟨rfl, hb2⟩)
        go_roundw
        case rel => exact ⟨k + 1, by omega, by go_num, hb.trans (hb2.mono hb.size)⟩
        case measure => simp [intOf]; omega
      · obtain rfl : m = k := by omega
        have hp : p a = true := by have := H2.out hlt; rw [hx] at this; exact this
        rw [hp] at hc
        have HQ := Lib.hid hc
        clear hp hc hx
        go_wp2_with (go_at_fn g; refine HQ.out.mono ?_; rintro e w' ⟨rfl, hb2⟩)
        go_ret
        exact ⟨ret_int (by rw [HR.out, if_pos hlt]), hb.trans (hb2.mono hb.size)⟩
    · go_wp2
      go_ret
      exact ⟨ret_int (by rw [HR.out, if_neg (by omega)]), hb⟩
theorem ContainsFuncF_any (g : FuncId) (cb : Array Value) (eg : ∀ args w, (callFunc g args).run Tryz.prog w = .ok (.enter g args) w) (A : Option Addr) (c : Nat) (xs : List Fa) (B : Nat) (p : Int → Bool) (w : World) (hn : (xs.length : Int) ≤ 1099511627776) (hI : Fns B w A xs) (hB : B ≤ w.heap.size) (hf : TellsF g cb p w) :
    Calls Tryz.prog 119 #[.slice A xs.length c, .func (.func g) #[] cb] w fun e w' => e = .returned (.bool (xs.any fun x => p x.aw)) ∧ Below w.heap.size w w' := by
  obtain ⟨m, m1, m2, m3, m4⟩ := any_stop (fun x : Fa => p x.aw) xs nFa
  have HX := Lib.hid (IndexFuncF_any g cb eg A c m xs B p w hn hI hB hf m1 m2 m3)
  rw [m4]
  clear m2 m3 m4 hI hf
  by_cases hh : m < xs.length
  · rw [if_pos hh] at HX
    have HD := Lib.hid (decide_eq_true hh)
    go_enter Tryz.func119, Tryz.ntmps119
    go_wp2_with (go_at_call 155; refine HX.out.mono ?_; rintro e w' ⟨rfl, hb⟩)
    go_ret
    exact ⟨ret_bool (by rw [HD.out]), hb⟩
  · rw [if_neg hh] at HX
    have HD := Lib.hid (decide_eq_false hh)
    go_enter Tryz.func119, Tryz.ntmps119
    go_wp2_with (go_at_call 155; refine HX.out.mono ?_; rintro e w' ⟨rfl, hb⟩)
    go_ret
    exact ⟨ret_bool (by rw [HD.out]), hb⟩
/-- A function value tells of each element, by its airway. -/
def TellsD (g : FuncId) (cb : Array Value) (p : Int → Bool) (w : World) : Prop := ∀ (s : ByteArray) (a u v : Int) W, Below w.heap.size w W → Calls Tryz.prog g (#[.agg #[.string s, .int .i64 a, .int .i64 u, .int .i64 v]] ++ cb) W fun e w' => e = .returned (.bool (p a)) ∧ Below W.heap.size W w'
set_option maxRecDepth 100000 in
theorem IndexFuncD_any (g : FuncId) (cb : Array Value) (eg : ∀ args w, (callFunc g args).run Tryz.prog w = .ok (.enter g args) w) (A : Option Addr) (c m : Nat) (xs : List Do) (B : Nat) (p : Int → Bool) (w : World) (hn : (xs.length : Int) ≤ 1099511627776) (hI : Recs encDo 4 B w A xs) (hB : B ≤ w.heap.size) (hf : TellsD g cb p w) (_ : m ≤ xs.length) (h1 : ∀ k, k < m → p (xs.getD k nDo).i0 = false) (h2 : m < xs.length → p (xs.getD m nDo).i0 = true) :
    Calls Tryz.prog 153 #[.slice A xs.length c, .func (.func g) #[] cb] w fun e w' => e = .returned (.int .i64 (if m < xs.length then (m : Int) else -1)) ∧ Below w.heap.size w w' := by
  have H1 := Lib.hid h1
  have H2 := Lib.hid h2
  have J := Lib.hid (hI.more hB)
  have HF := Lib.hid hf
  clear h1 h2 hI hf
  obtain ⟨R, hR⟩ : ∃ R : Int, R = if m < xs.length then (m : Int) else -1 := ⟨_, rfl⟩
  rw [← hR]
  have HR := Lib.hid hR
  clear hR
  go_enter Tryz.func153, Tryz.ntmps153
  go_wp2
  go_loopw [8] (fun i wr => ∃ k : Nat, k ≤ m ∧ i = .int .i64 k ∧ Below w.heap.size w wr) (fun i _ => xs.length - (intOf i).toNat)
  case atStart => exact ⟨0, Nat.zero_le _, rfl, Below.refl _ _⟩
  case round =>
    obtain ⟨k, hk, rfl, hb⟩ := hrel
    by_cases hlt : k < xs.length
    · obtain ⟨⟨s, a, u, v⟩, hx⟩ : ∃ x, xs.getD k nDo = x := ⟨_, rfl⟩
      obtain ⟨b, o, rfl, hab, c0, c1, c2, c3⟩ := (J.out.below hb).cellsDo hlt hx
      have hc := HF.out s a u v wr hb
      have i0 : (0 : Int) ≤ (k : Int) := by omega
      have i1 : (k : Int) < xs.length := by omega
      by_cases hb' : k < m
      · have hp : p a = false := by have := H1.out k hb'; rw [hx] at this; exact this
        rw [hp] at hc
        have HQ := Lib.hid hc
        clear hp hc hx
        go_wp2_with (go_at_fn g; refine HQ.out.mono ?_; rintro e w' ⟨rfl, hb2⟩)
        go_roundw
        case rel => exact ⟨k + 1, by omega, by go_num, hb.trans (hb2.mono hb.size)⟩
        case measure => simp [intOf]; omega
      · obtain rfl : m = k := by omega
        have hp : p a = true := by have := H2.out hlt; rw [hx] at this; exact this
        rw [hp] at hc
        have HQ := Lib.hid hc
        clear hp hc hx
        go_wp2_with (go_at_fn g; refine HQ.out.mono ?_; rintro e w' ⟨rfl, hb2⟩)
        go_ret
        exact ⟨ret_int (by rw [HR.out, if_pos hlt]), hb.trans (hb2.mono hb.size)⟩
    · go_wp2
      go_ret
      exact ⟨ret_int (by rw [HR.out, if_neg (by omega)]), hb⟩
theorem ContainsFuncD_any (g : FuncId) (cb : Array Value) (eg : ∀ args w, (callFunc g args).run Tryz.prog w = .ok (.enter g args) w) (A : Option Addr) (c : Nat) (xs : List Do) (B : Nat) (p : Int → Bool) (w : World) (hn : (xs.length : Int) ≤ 1099511627776) (hI : Recs encDo 4 B w A xs) (hB : B ≤ w.heap.size) (hf : TellsD g cb p w) :
    Calls Tryz.prog 116 #[.slice A xs.length c, .func (.func g) #[] cb] w fun e w' => e = .returned (.bool (xs.any fun x => p x.i0)) ∧ Below w.heap.size w w' := by
  obtain ⟨m, m1, m2, m3, m4⟩ := any_stop (fun x : Do => p x.i0) xs nDo
  have HX := Lib.hid (IndexFuncD_any g cb eg A c m xs B p w hn hI hB hf m1 m2 m3)
  rw [m4]
  clear m2 m3 m4 hI hf
  by_cases hh : m < xs.length
  · rw [if_pos hh] at HX
    have HD := Lib.hid (decide_eq_true hh)
    go_enter Tryz.func116, Tryz.ntmps116
    go_wp2_with (go_at_call 153; refine HX.out.mono ?_; rintro e w' ⟨rfl, hb⟩)
    go_ret
    exact ⟨ret_bool (by rw [HD.out]), hb⟩
  · rw [if_neg hh] at HX
    have HD := Lib.hid (decide_eq_false hh)
    go_enter Tryz.func116, Tryz.ntmps116
    go_wp2_with (go_at_call 153; refine HX.out.mono ?_; rintro e w' ⟨rfl, hb⟩)
    go_ret
    exact ⟨ret_bool (by rw [HD.out]), hb⟩
end Go.Proofs.YtejkoicgbgoiaaaGreat

/- Whether a number is an index of a list of airways. Conditions: the length that the theorem names. -/
namespace Go.Proofs.YtejkoicgbgoiaaaGreat
open Go.RowKit
open Pl
theorem indexValidA_any (A : Option Addr) (c n : Nat) (k : Int) (w : World) (hn : (n : Int) ≤ 1099511627776) :
    Calls Tryz.prog 61 #[.slice A n c, .int .i64 k] w fun e w' => e = .returned (.bool (inB k 0 ((n : Int) - 1))) ∧ w = w' := by
  go_enter Tryz.func61, Tryz.ntmps61
  go_wp2_with (go_at_call 43; refine (within_any _ _ _ _).mono ?_; rintro e w' ⟨rfl, rfl⟩)
  go_ret
  exact ⟨rfl, rfl⟩
end Go.Proofs.YtejkoicgbgoiaaaGreat

/- The drop along an airway, and lists that go with a mine. Conditions: the bounds that each theorem names. -/
namespace Go.Proofs.YtejkoicgbgoiaaaGreat
open Go.RowKit
open Pl
theorem mulB {a b A B : Int} (h0 : 0 ≤ a) (h1 : a ≤ A) (h2 : -B ≤ b) (h3 : b ≤ B) : -(A * B) ≤ a * b ∧ a * b ≤ A * B := by
  by_cases h : 0 ≤ b
  · have x := mul_le h0 h1 h h3
    have y := mul_ge h0 h
    exact ⟨by omega, x⟩
  · have x := mul_le h0 h1 (show 0 ≤ -b by omega) (show -b ≤ B by omega)
    have y := mul_ge h0 (show 0 ≤ -b by omega)
    have z : a * -b = -(a * b) := Int.mul_neg a b
    rw [z] at x y
    exact ⟨by omega, by omega⟩
def dropZ (r f : Int) : Int := divR (r * f * (f.natAbs : Int)) 10000000000
theorem drop_bd {r f : Int} (h1 : 0 ≤ r) (h2 : r ≤ 1000000) (h3 : -100000 ≤ f) (h4 : f ≤ 100000) : (-100000000000 ≤ r * f ∧ r * f ≤ 100000000000) ∧ (-10000000000000000 ≤ r * f * (f.natAbs : Int) ∧ r * f * (f.natAbs : Int) ≤ 10000000000000000) := by
  obtain ⟨a, b⟩ := mulB h1 h2 h3 h4
  obtain ⟨c, d⟩ := mulB (a := (f.natAbs : Int)) (b := r * f) (A := 100000) (B := 100000000000) (by omega) (by omega) (by omega) (by omega)
  rw [Int.mul_comm (f.natAbs : Int) (r * f)] at c d
  exact ⟨⟨by omega, by omega⟩, ⟨by omega, by omega⟩⟩
theorem dropOf_any (r f : Int) (w : World) (h1 : 0 ≤ r) (h2 : r ≤ 1000000) (h3 : -100000 ≤ f) (h4 : f ≤ 100000) :
    Calls Tryz.prog 163 #[.int .i64 r, .int .i64 f] w fun e w' => e = .returned (.int .i64 (dropZ r f)) ∧ ∃ n, w.drewN n = w' := by
  obtain ⟨⟨a, b⟩, c, d⟩ := drop_bd h1 h2 h3 h4
  obtain ⟨R, hR⟩ : ∃ R, R = dropZ r f := ⟨_, rfl⟩
  rw [← hR]
  have HR := Lib.hid hR
  clear hR
  go_enter Tryz.func163, Tryz.ntmps163
  go_wp2_with (first | (go_at_call 96; refine (abs_any _ _ (by omega) (by omega)).mono ?_; rintro e w' ⟨rfl, rfl⟩) | (go_at_call 132; refine (divRound_any _ _ _ (by omega) (by omega) (by omega) (by omega)).mono ?_; rintro e w' ⟨rfl, _, rfl⟩))
  go_ret
  exact ⟨by rw [HR.out]; rfl, _, rfl⟩
theorem l03Drop_any (r f : Int) (w : World) (h1 : 0 ≤ r) (h2 : r ≤ 1000000) (h3 : -100000 ≤ f) (h4 : f ≤ 100000) :
    Calls Tryz.prog 170 #[.int .i64 r, .int .i64 f] w fun e w' => e = .returned (.int .i64 (dropZ r f)) ∧ w = w' := by
  obtain ⟨⟨a, b⟩, c, d⟩ := drop_bd h1 h2 h3 h4
  obtain ⟨R, hR⟩ : ∃ R, R = dropZ r f := ⟨_, rfl⟩
  rw [← hR]
  have HR := Lib.hid hR
  clear hR
  have e : ((f.natAbs : Nat) : Int) = mx f (-f) := by unfold mx; split <;> omega
  have HE := Lib.hid e
  rw [e] at c d
  have HD := Lib.hid (show dropZ r f = divR (r * f * mx f (-f)) 10000000000 by unfold dropZ; rw [e])
  have HA : ∀ W, Calls Tryz.prog 146 #[.int .i64 f] W fun e w' => e = .returned (.int .i64 (mx f (-f))) ∧ W = w' := by
    intro W
    clear HE e HR HD a b c d
    go_enter Tryz.func146, Tryz.ntmps146
    go_wp2_with (go_at_call 141; refine (l00Max_any _ _ _).mono ?_; rintro e w' ⟨rfl, rfl⟩)
    go_ret
    exact ⟨rfl, rfl⟩
  clear e
  generalize mx f (-f) = q at *
  go_enter Tryz.func170, Tryz.ntmps170
  go_wp2_with (first | (go_at_call 146; refine (HA _).mono ?_; rintro e w' ⟨rfl, rfl⟩) | (go_at_call 149; refine (l01Div_any _ _ _ (by omega) (by omega) (by omega) (by omega)).mono ?_; rintro e w' ⟨rfl, rfl⟩))
  go_ret
  exact ⟨by rw [HR.out, HD.out]; rfl, rfl⟩
theorem hasList_any (J : Int) (A : Option Addr) (cp : Nat) (xs : List Aw) (A' : Option Addr) (c' : Nat) (ys : List Int) (lo hi : Int) (B : Nat) (w : World) (_ : (xs.length : Int) ≤ 1099511627776) (hn : (ys.length : Int) ≤ 1099511627776) (hI : Ints B w A' ys) (hB : B ≤ w.heap.size) (hT : Fits ys) :
    Calls Tryz.prog 62 #[.agg #[.int .i64 J, .slice A xs.length cp], .slice A' ys.length c', .int .i64 lo, .int .i64 hi] w fun e w' => e = .returned (.bool (decide ((ys.length : Int) = xs.length) && allIn ys lo hi)) ∧ Below w.heap.size w w' := by
  have HS := Lib.hid (fun (W : World) (hb : Below w.heap.size w W) => allWithin_any A' c' ys lo hi w.heap.size W hn ((hI.more hB).below hb) hb.size hT)
  clear hI hT
  generalize allIn ys lo hi = b at *
  by_cases he : (ys.length : Int) = xs.length
  · have HE := Lib.hid he
    go_enter Tryz.func62, Tryz.ntmps62
    go_wp2_with fail
    refine (HS.out _ (by go_grown)).mono ?_
    rintro e w1 ⟨rfl, hb1⟩
    obtain ⟨hc1, hf1⟩ := bcell hb1
    have q1_0 : w.heap.size < w1.heap.size := by have := hb1.size; simp at this; omega
    have be1 : Below w.heap.size w w1 := ((Below.refl w.heap.size w).alloc (by simp) _).trans (hb1.mono (by simp))
    have hbe := be1
    go_wp2_with fail
    go_ret
    exact ⟨ret_bool (by simp [HE.out]), hbe⟩
  · have HE := Lib.hid he
    go_enter Tryz.func62, Tryz.ntmps62
    go_wp2_with fail
    go_ret
    exact ⟨ret_bool (by simp [HE.out]), by go_grown⟩
theorem hasFlows_any (J : Int) (A : Option Addr) (cp : Nat) (xs : List Aw) (A' : Option Addr) (c' : Nat) (ys : List Int) (B : Nat) (w : World) (hx : (xs.length : Int) ≤ 1099511627776) (hn : (ys.length : Int) ≤ 1099511627776) (hI : Ints B w A' ys) (hB : B ≤ w.heap.size) (hT : Fits ys) :
    Calls Tryz.prog 99 #[.agg #[.int .i64 J, .slice A xs.length cp], .slice A' ys.length c'] w fun e w' => e = .returned (.bool (decide ((ys.length : Int) = xs.length) && allIn ys (-100000) 100000)) ∧ Below w.heap.size w w' := by
  have HS := Lib.hid (fun (W : World) (hb : Below w.heap.size w W) => hasList_any J A cp xs A' c' ys (-100000) 100000 w.heap.size W hx hn ((hI.more hB).below hb) hb.size hT)
  clear hI hT
  generalize (decide ((ys.length : Int) = xs.length) && allIn ys (-100000) 100000) = b at *
  go_enter Tryz.func99, Tryz.ntmps99
  go_wp2_with fail
  refine (HS.out _ (by go_grown)).mono ?_
  rintro e w1 ⟨rfl, hb1⟩
  obtain ⟨hc1, hf1⟩ := bcell hb1
  have q1_0 : w.heap.size < w1.heap.size := by have := hb1.size; simp at this; omega
  have be1 : Below w.heap.size w w1 := ((Below.refl w.heap.size w).alloc (by simp) _).trans (hb1.mono (by simp))
  have hbe := be1
  go_wp2_with fail
  go_ret
  exact ⟨rfl, hbe⟩
end Go.Proofs.YtejkoicgbgoiaaaGreat

/- Fans and pressures that fit a mine: by the program and by the reference. Conditions: the facts on memory and on lengths that each theorem names. -/
namespace Go.Proofs.YtejkoicgbgoiaaaGreat
open Go.RowKit
open Pl
def hasFB (n : Nat) (fs : List Fa) : Bool := !(fs.any fun x => !inB x.aw 0 ((n : Int) - 1))
theorem hasFans1_any (bm : Nat) (A : Option Addr) (cp nx : Nat) (s : ByteArray) (a : Int) (A' : Option Addr) (n c' : Nat) (w : World) (hn : (nx : Int) ≤ 1099511627776) (hc : w.cell? ⟨bm, 1, none⟩ = some (.slice A nx cp)) :
    Calls Tryz.prog 120 #[.agg #[.string s, .int .i64 a, .slice A' n c'], .pointer (some ⟨bm, 0, none⟩)] w fun e w' => e = .returned (.bool (!inB a 0 ((nx : Int) - 1))) ∧ Below w.heap.size w w' := by
  have hb0 : Below w.heap.size w (w.alloc (.cells #[.string s, .int .i64 a, .slice A' n c'] 74)) := by go_grown
  have hc1 := Lib.cell?_alloc_some (.cells #[.string s, .int .i64 a, .slice A' n c'] 74) hc
  go_enter Tryz.func120, Tryz.ntmps120
  go_wp2_with (go_at_call 61; refine (indexValidA_any _ _ _ _ _ hn).mono ?_; rintro e w' ⟨rfl, rfl⟩)
  go_ret
  exact ⟨rfl, hb0⟩
set_option maxRecDepth 100000 in
theorem hasFans_any (J : Int) (A : Option Addr) (cp nx : Nat) (A2 : Option Addr) (c2 : Nat) (fs : List Fa) (B : Nat) (w : World) (hx : (nx : Int) ≤ 1099511627776) (hn : (fs.length : Int) ≤ 1099511627776) (hI : Fns B w A2 fs) (hB : B ≤ w.heap.size) :
    Calls Tryz.prog 85 #[.agg #[.int .i64 J, .slice A nx cp], .slice A2 fs.length c2] w fun e w' => e = .returned (.bool (hasFB nx fs)) ∧ Below w.heap.size w w' := by
  unfold hasFB
  have hb0 : Below w.heap.size w (w.alloc (.cells #[.int .i64 J, .slice A nx cp] 33)) := by go_grown
  have HI := Lib.hid ((hI.more hB).below hb0)
  have hc : (w.alloc (.cells #[.int .i64 J, .slice A nx cp] 33)).cell? ⟨w.heap.size, 1, none⟩ = some (.slice A nx cp) := by go_simp
  have hlt : w.heap.size < (w.alloc (.cells #[.int .i64 J, .slice A nx cp] 33)).heap.size := by simp
  have HT : Hid (TellsF 120 #[.pointer (some ⟨w.heap.size, 0, none⟩)] (fun a => !inB a 0 ((nx : Int) - 1)) (w.alloc (.cells #[.int .i64 J, .slice A nx cp] 33))) := Lib.hid (fun s a A' n c' W hb => hasFans1_any w.heap.size A cp nx s a A' n c' W hx ((hb.cell (p := ⟨w.heap.size, 1, none⟩) hlt).trans hc))
  have HC : Hid (Calls Tryz.prog 119 #[.slice A2 fs.length c2, .func (.func 120) #[] #[.pointer (some ⟨w.heap.size, 0, none⟩)]] (w.alloc (.cells #[.int .i64 J, .slice A nx cp] 33)) fun e w' => e = .returned (.bool (fs.any fun x => !inB x.aw 0 ((nx : Int) - 1))) ∧ Below (w.alloc (.cells #[.int .i64 J, .slice A nx cp] 33)).heap.size (w.alloc (.cells #[.int .i64 J, .slice A nx cp] 33)) w') := Lib.hid (ContainsFuncF_any 120 _ (enters_of Tryz.func120 (by kernel_rfl) rfl) A2 c2 fs w.heap.size _ _ hn HI.out hb0.size HT.out)
  clear hI hc HT HI
  generalize (fs.any fun x => !inB x.aw 0 ((nx : Int) - 1)) = r at *
  go_enter Tryz.func85, Tryz.ntmps85
  go_wp2_with fail
  refine HC.out.mono ?_
  rintro e w2 ⟨rfl, hb2⟩
  go_wp2_with fail
  go_ret
  exact ⟨rfl, hb0.trans (hb2.mono hb0.size)⟩
set_option maxRecDepth 100000 in
theorem l07Fans_any (bm om : Nat) (A : Option Addr) (cp nx : Nat) (A2 : Option Addr) (c2 : Nat) (fs : List Fa) (B : Nat) (w : World) (_ : (nx : Int) ≤ 1099511627776) (hp : ∀ x ∈ fs, 0 ≤ x.aw) (hn : (fs.length : Int) ≤ 1099511627776) (hI : Fns B w A2 fs) (mm : w.cell? ⟨bm, om + 1, none⟩ = some (.slice A nx cp)) :
    Calls Tryz.prog 78 #[.pointer (some ⟨bm, om, none⟩), .slice A2 fs.length c2] w fun e w' => e = .returned (.bool (hasFB nx fs)) ∧ ∃ n, w.drewN n = w' := by
  obtain ⟨m, m1, m2, m3, m4⟩ := any_stop (fun x : Fa => !inB x.aw 0 ((nx : Int) - 1)) fs nFa
  obtain ⟨R, hR⟩ : ∃ R, R = hasFB nx fs := ⟨_, rfl⟩
  rw [← hR]
  have HR : Hid (R = !decide (m < fs.length)) := Lib.hid (by rw [hR]; unfold hasFB; rw [m4])
  have M2 := Lib.hid m2
  have M3 := Lib.hid m3
  have J0 := Lib.hid hI
  have HP := Lib.hid hp
  clear hR m2 m3 m4 hI hp
  go_enter Tryz.func78, Tryz.ntmps78
  go_wp2
  go_loopw [5] (fun i wr => ∃ q : Nat, q ≤ m ∧ i = .int .i64 q ∧ ∃ n, w.drewN n = wr) (fun i _ => fs.length - (intOf i).toNat)
  case atStart => exact ⟨0, Nat.zero_le _, rfl, 0, rfl⟩
  case round =>
    obtain ⟨q, hq, rfl, n, rfl⟩ := hrel
    by_cases hlt : q < fs.length
    · obtain ⟨⟨s, a, cv⟩, hx'⟩ : ∃ x, fs.getD q nFa = x := ⟨_, rfl⟩
      obtain ⟨b, o, A', c', rfl, hab, c0, c1, c2', -⟩ := J0.out.at_ hlt hx'
      have ha : 0 ≤ a := by have := HP.out _ (List.getElem_mem hlt); rw [← getD_fa hlt, hx'] at this; exact this
      have i0 : (0 : Int) ≤ (q : Int) := by omega
      have i1 : (q : Int) < fs.length := by omega
      by_cases hqm : q < m
      · have hb := M2.out q hqm
        rw [hx'] at hb
        have hb : (!inB a 0 ((nx : Int) - 1)) = false := hb
        rw [Bool.not_eq_false', inB_iff] at hb
        have hd : decide ((nx : Int) ≤ a) = false := decide_eq_false (by omega)
        clear hx' hb
        go_wp2
        go_big_quiet (fail)
        go_wp2
        go_roundw
        case rel => exact ⟨q + 1, by omega, by go_num, _, rfl⟩
        case measure => simp [intOf]; omega
      · obtain rfl : m = q := by omega
        have hb := M3.out hlt
        rw [hx'] at hb
        have hb : (!inB a 0 ((nx : Int) - 1)) = true := hb
        have hb : ¬ inB a 0 ((nx : Int) - 1) = true := by simpa using hb
        rw [inB_iff] at hb
        have hd : decide ((nx : Int) ≤ a) = true := decide_eq_true (by omega)
        have HD := Lib.hid (decide_eq_true hlt)
        clear hx' hb
        go_wp2
        go_big_quiet (fail)
        go_wp2
        go_ret
        exact ⟨ret_bool (by rw [HR.out, HD.out]; rfl), _, (World.drewN_drewN _ _ _).symm⟩
    · have HD := Lib.hid (decide_eq_false (show ¬ m < fs.length by omega))
      go_wp2
      go_ret
      exact ⟨ret_bool (by rw [HR.out, HD.out]; rfl), _, rfl⟩
end Go.Proofs.YtejkoicgbgoiaaaGreat

/- Pressures that fit a mine, by the reference. Conditions: the facts on memory and on lengths that the theorem names. -/
namespace Go.Proofs.YtejkoicgbgoiaaaGreat
open Go.RowKit
open Pl
set_option maxRecDepth 100000 in
theorem l07Pressures_any (bm om : Nat) (A : Option Addr) (cp nx : Nat) (A2 : Option Addr) (c2 : Nat) (dr : List Int) (B : Nat) (w : World) (_ : (nx : Int) ≤ 1099511627776) (hn : (dr.length : Int) ≤ 1099511627776) (hI : Ints B w A2 dr) (mm : w.cell? ⟨bm, om + 1, none⟩ = some (.slice A nx cp)) :
    Calls Tryz.prog 79 #[.pointer (some ⟨bm, om, none⟩), .slice A2 dr.length c2] w fun e w' => e = .returned (.bool (decide ((dr.length : Int) = nx) && allIn dr (-100000) 100000)) ∧ ∃ n, w.drewN n = w' := by
  obtain ⟨m, m1, m2, m3, m4⟩ := any_stop (fun x : Int => !inB x (-100000) 100000) dr 0
  obtain ⟨R, hR⟩ : ∃ R, R = (decide ((dr.length : Int) = nx) && allIn dr (-100000) 100000) := ⟨_, rfl⟩
  rw [← hR]
  have HR : Hid (R = (decide ((dr.length : Int) = nx) && !decide (m < dr.length))) := Lib.hid (by
    have e : allIn dr (-100000) 100000 = !(dr.any fun x => !inB x (-100000) 100000) := by unfold allIn; rw [List.not_any_eq_all_not]; simp
    rw [hR, e, m4])
  have M2 := Lib.hid m2
  have M3 := Lib.hid m3
  have J0 := Lib.hid hI
  clear hR m2 m3 m4 hI
  go_enter Tryz.func79, Tryz.ntmps79
  go_wp2
  go_loopw [5] (fun i wr => ∃ q : Nat, q ≤ m ∧ i = .int .i64 q ∧ w = wr) (fun i _ => dr.length - (intOf i).toNat)
  case atStart => exact ⟨0, Nat.zero_le _, rfl, rfl⟩
  case round =>
    obtain ⟨q, hq, rfl, rfl⟩ := hrel
    by_cases hlt : q < dr.length
    · obtain ⟨ad, rfl, _, hc⟩ := J0.out.at_ (k := q) hlt
      have e : dr.getD q 0 = dr[q] := by simp [List.getD, hlt]
      have i0 : (0 : Int) ≤ (q : Int) := by omega
      have i1 : (q : Int) < dr.length := by omega
      by_cases hqm : q < m
      · have hb := M2.out q hqm
        rw [e] at hb
        have hb : (!inB dr[q] (-100000) 100000) = false := hb
        rw [Bool.not_eq_false'] at hb
        generalize dr[q] = x at *
        clear e
        go_wp2_with (go_at_call 67; refine (eqb (l00In_any _ _ _ _) hb).mono ?_; rintro e w' ⟨rfl, rfl⟩)
        go_roundw
        case rel => exact ⟨q + 1, by omega, by go_num, by first | trivial | rfl⟩
        case measure => simp [intOf]; omega
      · obtain rfl : m = q := by omega
        have hb := M3.out hlt
        rw [e] at hb
        have hb : (!inB dr[m] (-100000) 100000) = true := hb
        rw [Bool.not_eq_true'] at hb
        have HD := Lib.hid (decide_eq_true hlt)
        generalize dr[m] = x at *
        clear e
        go_wp2_with (go_at_call 67; refine (eqb (l00In_any _ _ _ _) hb).mono ?_; rintro e w' ⟨rfl, rfl⟩)
        go_ret
        exact ⟨ret_bool (by rw [HR.out, HD.out]; simp), 0, rfl⟩
    · have HD := Lib.hid (decide_eq_false (show ¬ m < dr.length by omega))
      by_cases hl : (dr.length : Int) = nx
      · have HL := Lib.hid (decide_eq_true hl)
        have hlb : ((dr.length : Int) == (nx : Int)) = true := by rw [beq_iff_eq]; exact hl
        clear hl
        go_wp2
        go_ret
        exact ⟨ret_bool (by rw [HR.out, HD.out, HL.out]; first | rfl | simp [hlb]), 0, rfl⟩
      · have HL := Lib.hid (decide_eq_false hl)
        have hlb : ((dr.length : Int) == (nx : Int)) = false := by rw [beq_eq_false_iff_ne]; exact hl
        clear hl
        go_wp2
        go_ret
        exact ⟨ret_bool (by rw [HR.out, HD.out, HL.out]; first | rfl | simp [hlb]), 0, rfl⟩
end Go.Proofs.YtejkoicgbgoiaaaGreat

/- Networks, with no program in sight: what some edges join (labels of parts), the distance to a vertex (level by level), a search by a queue, and the walk that follows falling distances. No conditions beyond those that each lemma names. -/
namespace Go.Proofs.YtejkoicgbgoiaaaGreat.Pl
structure Ed where
  k : Int
  f : Int
  t : Int
def eNone : Ed := ⟨0, 0, 0⟩
/-- The other end of an edge. -/
def oth (e : Ed) (u : Int) : Option Int := if u = e.f then some e.t else if u = e.t then some e.f else none
theorem oth_symm {e : Ed} {u v : Int} (h : oth e u = some v) : oth e v = some u := by
  unfold oth at h ⊢
  by_cases h1 : u = e.f
  · rw [if_pos h1] at h; injection h with h
    by_cases h2 : v = e.f
    · rw [if_pos h2]; congr 1; omega
    · rw [if_neg h2, if_pos h.symm, h1]
  · rw [if_neg h1] at h
    by_cases h2 : u = e.t
    · rw [if_pos h2] at h; injection h with h
      rw [if_pos h.symm, h2]
    · rw [if_neg h2] at h; cases h
theorem oth_f (e : Ed) : oth e e.f = some e.t := by unfold oth; rw [if_pos rfl]
theorem oth_cases {e : Ed} {u v : Int} (h : oth e u = some v) : (u = e.f ∧ v = e.t) ∨ (u ≠ e.f ∧ u = e.t ∧ v = e.f) := by
  unfold oth at h
  by_cases h1 : u = e.f
  · rw [if_pos h1] at h; injection h with h; exact .inl ⟨h1, h.symm⟩
  · rw [if_neg h1] at h
    by_cases h2 : u = e.t
    · rw [if_pos h2] at h; injection h with h; exact .inr ⟨h1, h2, h.symm⟩
    · rw [if_neg h2] at h; cases h
/-- All ends are vertices below N. -/
def EdIn (N : Nat) (G : List Ed) : Prop := ∀ i, i < G.length → (0 ≤ (G.getD i eNone).f ∧ (G.getD i eNone).f < N) ∧ (0 ≤ (G.getD i eNone).t ∧ (G.getD i eNone).t < N)
theorem getD_in {α : Type} {l : List α} {i : Nat} {d : α} (h : i < l.length) : l.getD i d = l[i] := by simp [List.getD, h]
theorem mem_getD {α : Type} {l : List α} {i : Nat} {d : α} (h : i < l.length) : l.getD i d ∈ l := by rw [getD_in h]; exact List.getElem_mem h
theorem getD_of_mem {α : Type} {l : List α} {x : α} (d : α) (h : x ∈ l) : ∃ i, i < l.length ∧ l.getD i d = x := by
  obtain ⟨i, hi, e⟩ := List.getElem_of_mem h
  exact ⟨i, hi, by rw [getD_in hi, e]⟩
theorem getD_map {α β : Type} {l : List α} (g : α → β) {i : Nat} (d : α) (e : β) (h : i < l.length) : (l.map g).getD i e = g (l.getD i d) := by
  simp [List.getD, h]
/-! ### Labels of parts -/
def upto (N : Nat) : List Int := (List.range N).map fun i : Nat => (i : Int)
theorem upto_length (N : Nat) : (upto N).length = N := by simp [upto]
theorem upto_get {N i : Nat} (h : i < N) : (upto N).getD i 0 = i := by simp [upto, List.getD, h]
def relab (P : List Int) (e : Ed) : List Int := P.map fun x => if x = mx (P.getD e.f.toNat 0) (P.getD e.t.toNat 0) then mn (P.getD e.f.toNat 0) (P.getD e.t.toNat 0) else x
def partsK (N : Nat) (G : List Ed) : Nat → List Int | 0 => upto N | n + 1 => relab (partsK N G n) (G.getD n eNone)
theorem partsK_length (N : Nat) (G : List Ed) : ∀ n, (partsK N G n).length = N
  | 0 => upto_length N
  | n + 1 => by unfold partsK relab; rw [List.length_map]; exact partsK_length N G n
def labK (N : Nat) (G : List Ed) (n : Nat) (v : Int) : Int := (partsK N G n).getD v.toNat 0
theorem labK_zero {N : Nat} {G : List Ed} {v : Int} (h1 : 0 ≤ v) (h2 : v < N) : labK N G 0 v = v := by
  unfold labK partsK; rw [upto_get (by omega)]; omega
theorem labK_succ {N : Nat} {G : List Ed} {n : Nat} {v : Int} (h1 : 0 ≤ v) (h2 : v < N) :
    labK N G (n + 1) v = if labK N G n v = mx (labK N G n (G.getD n eNone).f) (labK N G n (G.getD n eNone).t) then mn (labK N G n (G.getD n eNone).f) (labK N G n (G.getD n eNone).t) else labK N G n v := by
  have e : labK N G (n + 1) v = (relab (partsK N G n) (G.getD n eNone)).getD v.toNat 0 := rfl
  rw [e]
  unfold relab
  rw [getD_map _ (0 : Int) _ (by rw [partsK_length]; omega)]
  rfl
theorem labK_edge {N : Nat} {G : List Ed} (hG : EdIn N G) : ∀ n, n ≤ G.length → ∀ i, i < n → labK N G n (G.getD i eNone).f = labK N G n (G.getD i eNone).t
  | 0, _, i, h => by omega
  | n + 1, hn, i, h => by
    obtain ⟨⟨a1, a2⟩, b1, b2⟩ := hG i (by omega)
    rw [labK_succ a1 a2, labK_succ b1 b2]
    by_cases e : i = n
    · subst e
      generalize labK N G i (G.getD i eNone).f = p
      generalize labK N G i (G.getD i eNone).t = q
      rcases Int.lt_trichotomy p q with h | h | h
      · rw [mx_eq_right (by omega), mn_eq_left (by omega), if_neg (by omega), if_pos rfl]
      · subst h; rfl
      · rw [mx_eq_left (by omega), mn_eq_right (by omega), if_pos rfl, if_neg (by omega)]
    · rw [labK_edge hG n (by omega) i (by omega)]
theorem labK_closed {N : Nat} {G : List Ed} (hG : EdIn N G) (S : Int → Prop) : ∀ n, n ≤ G.length → (∀ i, i < n → (S (G.getD i eNone).f ↔ S (G.getD i eNone).t)) → ∀ x y : Int, 0 ≤ x → x < N → 0 ≤ y → y < N → labK N G n x = labK N G n y → (S x ↔ S y)
  | 0, _, _, x, y, x1, x2, y1, y2, h => by
    rw [labK_zero x1 x2, labK_zero y1 y2] at h
    rw [h]
  | n + 1, hn, hS, x, y, x1, x2, y1, y2, h => by
    have ih := labK_closed hG S n (by omega) (fun i hi => hS i (by omega))
    obtain ⟨⟨a1, a2⟩, b1, b2⟩ := hG n (by omega)
    have hs := hS n (by omega)
    rw [labK_succ x1 x2, labK_succ y1 y2] at h
    have key : ∀ z : Int, 0 ≤ z → z < N → (labK N G n z = mx (labK N G n (G.getD n eNone).f) (labK N G n (G.getD n eNone).t) ∨ labK N G n z = mn (labK N G n (G.getD n eNone).f) (labK N G n (G.getD n eNone).t)) → (S z ↔ S (G.getD n eNone).f) := by
      intro z z1 z2 hz
      have hz' : labK N G n z = labK N G n (G.getD n eNone).f ∨ labK N G n z = labK N G n (G.getD n eNone).t := by
        rcases hz with hz | hz
        · rcases mx_or (labK N G n (G.getD n eNone).f) (labK N G n (G.getD n eNone).t) with e | e <;> rw [e] at hz
          · exact .inl hz
          · exact .inr hz
        · rcases mn_or (labK N G n (G.getD n eNone).f) (labK N G n (G.getD n eNone).t) with e | e <;> rw [e] at hz
          · exact .inl hz
          · exact .inr hz
      rcases hz' with e | e
      · exact ih z _ z1 z2 a1 a2 e
      · exact (ih z _ z1 z2 b1 b2 e).trans hs.symm
    by_cases cx : labK N G n x = mx (labK N G n (G.getD n eNone).f) (labK N G n (G.getD n eNone).t)
    · rw [if_pos cx] at h
      by_cases cy : labK N G n y = mx (labK N G n (G.getD n eNone).f) (labK N G n (G.getD n eNone).t)
      · exact ih x y x1 x2 y1 y2 (cx.trans cy.symm)
      · rw [if_neg cy] at h
        exact (key x x1 x2 (.inl cx)).trans (key y y1 y2 (.inr h.symm)).symm
    · rw [if_neg cx] at h
      by_cases cy : labK N G n y = mx (labK N G n (G.getD n eNone).f) (labK N G n (G.getD n eNone).t)
      · rw [if_pos cy] at h
        exact (key x x1 x2 (.inr h)).trans (key y y1 y2 (.inl cy)).symm
      · rw [if_neg cy] at h
        exact ih x y x1 x2 y1 y2 h
def lab (N : Nat) (G : List Ed) (v : Int) : Int := labK N G G.length v
/-- What a search from a vertex finds: it is closed under the edges, and lies in every closed set that holds the vertex. -/
structure Fnd (N : Nat) (G : List Ed) (from_ : Int) (R : List Int) : Prop where
  start : from_ ∈ R
  rng : ∀ u ∈ R, 0 ≤ u ∧ u < N
  closed : ∀ u ∈ R, ∀ i, i < G.length → ∀ v, oth (G.getD i eNone) u = some v → v ∈ R
  least : ∀ S : Int → Prop, S from_ → (∀ u v i, S u → i < G.length → oth (G.getD i eNone) u = some v → S v) → ∀ u ∈ R, S u
theorem Fnd.lab_iff {N : Nat} {G : List Ed} {a : Int} {R : List Int} (h : Fnd N G a R) (hG : EdIn N G) {y : Int} (y1 : 0 ≤ y) (y2 : y < N) : y ∈ R ↔ lab N G a = lab N G y := by
  constructor
  · intro hy
    refine (h.least (fun u => (0 ≤ u ∧ u < N) ∧ lab N G a = lab N G u) ⟨h.rng _ h.start, rfl⟩ ?_ y hy).2
    rintro u v i ⟨hr, hl⟩ hi ho
    have he := labK_edge hG G.length (Nat.le_refl _) i hi
    obtain ⟨hf, ht⟩ := hG i hi
    rcases oth_cases ho with ⟨rfl, rfl⟩ | ⟨_, rfl, rfl⟩
    · exact ⟨ht, hl.trans he⟩
    · exact ⟨hf, hl.trans he.symm⟩
  · intro hl
    obtain ⟨a1, a2⟩ := h.rng _ h.start
    refine (labK_closed hG (fun u => u ∈ R) G.length (Nat.le_refl _) (fun i hi => ?_) a y a1 a2 y1 y2 hl).1 h.start
    constructor
    · intro hm; exact h.closed _ hm i hi _ (oth_f _)
    · intro hm; exact h.closed _ hm i hi _ (oth_symm (oth_f _))
/-! ### Distances, level by level -/
def hitB (G : List Ed) (d : Int → Int) (s v : Int) : Bool := G.any fun e => (e.f == v && d e.t == s) || (e.t == v && d e.f == s)
def dst (G : List Ed) (to : Int) : Nat → Int → Int
  | 0, v => if v = to then 0 else -1
  | s + 1, v => if 0 ≤ dst G to s v then dst G to s v else if hitB G (dst G to s) s v then (s : Int) + 1 else -1
theorem dst_or (G : List Ed) (to : Int) : ∀ s v, dst G to s v = -1 ∨ (0 ≤ dst G to s v ∧ dst G to s v ≤ s)
  | 0, v => by unfold dst; split <;> omega
  | s + 1, v => by
    have := dst_or G to s v
    unfold dst
    split
    · omega
    · split <;> omega
theorem dst_keep {G : List Ed} {to : Int} {s : Nat} {v : Int} (h : 0 ≤ dst G to s v) : ∀ j, dst G to (s + j) v = dst G to s v
  | 0 => rfl
  | j + 1 => by
    have ih := dst_keep h j
    have e : dst G to (s + (j + 1)) v = if 0 ≤ dst G to (s + j) v then dst G to (s + j) v else if hitB G (dst G to (s + j)) ((s + j : Nat) : Int) v then ((s + j : Nat) : Int) + 1 else -1 := rfl
    rw [e, if_pos (by rw [ih]; exact h), ih]
def Lv (G : List Ed) (to : Int) (d : Nat) (v : Int) : Prop := dst G to d v = d
theorem Lv.at_ {G : List Ed} {to v : Int} {d : Nat} (h : Lv G to d v) {s : Nat} (hs : d ≤ s) : dst G to s v = d := by
  obtain ⟨j, rfl⟩ : ∃ j, s = d + j := ⟨s - d, by omega⟩
  unfold Lv at h
  rw [dst_keep (by omega), h]
theorem Lv.uniq {G : List Ed} {to v : Int} {d e : Nat} (h : Lv G to d v) (k : Lv G to e v) : d = e := by
  have a := h.at_ (s := max d e) (by omega)
  have b := k.at_ (s := max d e) (by omega)
  omega
theorem Lv.of_dst {G : List Ed} {to v : Int} : ∀ {s : Nat}, 0 ≤ dst G to s v → Lv G to (dst G to s v).toNat v
  | 0, h => by
    have : dst G to 0 v = 0 := by rcases dst_or G to 0 v with e | e <;> omega
    rw [this]; unfold Lv; exact this
  | s + 1, h => by
    by_cases h0 : 0 ≤ dst G to s v
    · have e : dst G to (s + 1) v = dst G to s v := dst_keep h0 1
      rw [e]; exact Lv.of_dst h0
    · have e : dst G to (s + 1) v = if hitB G (dst G to s) s v then (s : Int) + 1 else -1 := by
        have e : dst G to (s + 1) v = if 0 ≤ dst G to s v then dst G to s v else if hitB G (dst G to s) s v then (s : Int) + 1 else -1 := rfl
        rw [e, if_neg h0]
      by_cases hh : hitB G (dst G to s) s v = true
      · rw [if_pos hh] at e
        have : (dst G to (s + 1) v).toNat = s + 1 := by omega
        rw [this]; unfold Lv; rw [e]; omega
      · rw [if_neg hh] at e; omega
theorem Lv.zero {G : List Ed} {to v : Int} : Lv G to 0 v ↔ v = to := by
  unfold Lv dst
  split
  · simp [*]
  · constructor
    · intro h; simp at h
    · intro h; contradiction
theorem hitB_iff {G : List Ed} {d : Int → Int} {s v : Int} : hitB G d s v = true ↔ ∃ i, i < G.length ∧ (((G.getD i eNone).f = v ∧ d (G.getD i eNone).t = s) ∨ ((G.getD i eNone).t = v ∧ d (G.getD i eNone).f = s)) := by
  unfold hitB
  rw [List.any_eq_true]
  constructor
  · rintro ⟨e, he, h⟩
    obtain ⟨i, hi, rfl⟩ := getD_of_mem eNone he
    refine ⟨i, hi, ?_⟩
    simpa using h
  · rintro ⟨i, hi, h⟩
    exact ⟨_, mem_getD hi, by simpa using h⟩
/-- A neighbour's level is at most one more. -/
theorem Lv.step {G : List Ed} {to u v : Int} {d : Nat} (h : Lv G to d u) {i : Nat} (hi : i < G.length) (ho : oth (G.getD i eNone) u = some v) : ∃ d', d' ≤ d + 1 ∧ Lv G to d' v := by
  by_cases h0 : 0 ≤ dst G to d v
  · have hb := dst_or G to d v
    exact ⟨_, by omega, Lv.of_dst h0⟩
  · refine ⟨d + 1, Nat.le_refl _, ?_⟩
    have e : dst G to (d + 1) v = if 0 ≤ dst G to d v then dst G to d v else if hitB G (dst G to d) d v then (d : Int) + 1 else -1 := rfl
    have hh : hitB G (dst G to d) d v = true := by
      rw [hitB_iff]
      rcases oth_cases ho with ⟨hu, hv⟩ | ⟨_, hu, hv⟩
      · exact ⟨i, hi, .inr ⟨hv.symm, by rw [← hu]; exact h⟩⟩
      · exact ⟨i, hi, .inl ⟨hv.symm, by rw [← hu]; exact h⟩⟩
    unfold Lv
    rw [e, if_neg h0, if_pos hh]
    omega
/-- A vertex of a level behind the first has a neighbour of the level ahead. -/
theorem Lv.back {G : List Ed} {to v : Int} {d : Nat} (h : Lv G to (d + 1) v) : ∃ i u, i < G.length ∧ oth (G.getD i eNone) v = some u ∧ Lv G to d u := by
  unfold Lv at h
  have e : dst G to (d + 1) v = if 0 ≤ dst G to d v then dst G to d v else if hitB G (dst G to d) d v then (d : Int) + 1 else -1 := rfl
  have hb := dst_or G to d v
  rw [e] at h
  split at h
  · omega
  · split at h
    · rename_i _ hh
      rw [hitB_iff] at hh
      obtain ⟨i, hi, ⟨hf, ht⟩ | ⟨ht, hf⟩⟩ := hh
      · exact ⟨i, _, hi, by rw [← hf]; exact oth_f _, ht⟩
      · by_cases e : (G.getD i eNone).t = (G.getD i eNone).f
        · exact ⟨i, (G.getD i eNone).t, hi, by rw [← ht, e]; rw [oth_f, e], by unfold Lv; rw [e]; exact hf⟩
        · refine ⟨i, _, hi, ?_, hf⟩
          rw [← ht]; unfold oth; rw [if_neg e, if_pos rfl]
    · omega
/-! ### One pass of the level search over the edges, in place -/
def dstP (G : List Ed) (to : Int) (s i : Nat) (v : Int) : Int := if 0 ≤ dst G to s v then dst G to s v else if hitB (G.take i) (dst G to s) s v then (s : Int) + 1 else -1
theorem dstP_zero (G : List Ed) (to : Int) (s : Nat) (v : Int) : dstP G to s 0 v = dst G to s v := by
  unfold dstP hitB
  have := dst_or G to s v
  split
  · rfl
  · simp; omega
theorem dstP_all (G : List Ed) (to : Int) (s : Nat) (v : Int) : dstP G to s G.length v = dst G to (s + 1) v := by
  unfold dstP; rw [List.take_length]; rfl
theorem dstP_eq_s (G : List Ed) (to : Int) (s i : Nat) (v : Int) : dstP G to s i v = s ↔ dst G to s v = s := by
  have := dst_or G to s v
  unfold dstP
  split
  · exact Iff.rfl
  · split <;> omega
theorem hitB_take {G : List Ed} {d : Int → Int} {s v : Int} {i : Nat} (hi : i < G.length) : hitB (G.take (i + 1)) d s v = (hitB (G.take i) d s v || (((G.getD i eNone).f == v && d (G.getD i eNone).t == s) || ((G.getD i eNone).t == v && d (G.getD i eNone).f == s))) := by
  unfold hitB
  have e : G.take (i + 1) = G.take i ++ [G.getD i eNone] := by rw [List.take_add_one, List.getElem?_eq_getElem hi, getD_in hi]; rfl
  rw [e, List.any_append]
  simp
/-- What the pass does at an edge: first the far end by the near end, then the near end by the far one. -/
def mark1 (far : Int → Int) (s a b v : Int) : Int := if v = b ∧ far a = s ∧ far b < 0 then s + 1 else far v
theorem mark1_no {F : Int → Int} {s a b v : Int} (h : ¬ F v < 0) : mark1 F s a b v = F v := by
  unfold mark1
  rw [if_neg (fun c => h (by rw [c.1]; exact c.2.2))]
theorem mark1_comp (G : List Ed) (to : Int) (s i : Nat) (hi : i < G.length) (v : Int) :
    mark1 (mark1 (dstP G to s i) s (G.getD i eNone).f (G.getD i eNone).t) s (G.getD i eNone).t (G.getD i eNone).f v = dstP G to s (i + 1) v := by
  have q : ∀ x, (mark1 (dstP G to s i) s (G.getD i eNone).f (G.getD i eNone).t x = s ↔ dst G to s x = s) := by
    intro x
    unfold mark1
    split
    · rename_i h
      have h2 := dst_or G to s x
      have h1 : dstP G to s i x < 0 := by rw [h.1]; exact h.2.2
      have h3 := dstP_eq_s G to s i x
      omega
    · exact dstP_eq_s G to s i x
  have qs := dstP_eq_s G to s i
  have ql : ∀ x, dstP G to s i x < 0 ↔ ¬ 0 ≤ dst G to s x ∧ hitB (G.take i) (dst G to s) s x = false := by
    intro x
    have := dst_or G to s x
    unfold dstP
    by_cases h0 : 0 ≤ dst G to s x
    · rw [if_pos h0]; constructor
      · intro h; omega
      · intro h; omega
    · rw [if_neg h0]
      cases hh : hitB (G.take i) (dst G to s) s x
      · simp; omega
      · simp; omega
  generalize ha : (G.getD i eNone).f = a at *
  generalize hb : (G.getD i eNone).t = b at *
  have hs : dstP G to s (i + 1) v = if 0 ≤ dst G to s v then dst G to s v else if (hitB (G.take i) (dst G to s) s v || ((a == v && dst G to s b == s) || (b == v && dst G to s a == s))) = true then (s : Int) + 1 else -1 := by
    unfold dstP
    rw [hitB_take hi, ha, hb]
  rw [hs]
  have hd := dst_or G to s v
  have hv : dstP G to s i v = if 0 ≤ dst G to s v then dst G to s v else if hitB (G.take i) (dst G to s) s v = true then (s : Int) + 1 else -1 := rfl
  by_cases h0 : 0 ≤ dst G to s v
  · rw [if_pos h0]
    have n1 : ¬ dstP G to s i v < 0 := by rw [ql]; exact fun h => h.1 h0
    have e1 : mark1 (dstP G to s i) s a b v = dst G to s v := by
      rw [mark1_no n1, hv, if_pos h0]
    rw [mark1_no (by rw [e1]; omega), e1]
  · rw [if_neg h0]
    rw [if_neg h0] at hv
    cases hh : hitB (G.take i) (dst G to s) s v
    · rw [hh] at hv
      have hneg : dstP G to s i v = -1 := by rw [hv]; rfl
      by_cases c1 : b = v ∧ dst G to s a = s
      · have e1 : mark1 (dstP G to s i) s a b v = (s : Int) + 1 := by
          unfold mark1; rw [if_pos ⟨c1.1.symm, (qs a).2 c1.2, by rw [c1.1]; omega⟩]
        have e2 : (false || (a == v && dst G to s b == ↑s || b == v && dst G to s a == ↑s)) = true := by simp [c1.1, c1.2]
        rw [e2, if_pos rfl, mark1_no (by rw [e1]; omega), e1]
      · have e1 : mark1 (dstP G to s i) s a b v = -1 := by
          unfold mark1
          rw [if_neg (fun h => c1 ⟨h.1.symm, (qs a).1 h.2.1⟩), hneg]
        by_cases c2 : a = v ∧ dst G to s b = s
        · have e2 : (false || (a == v && dst G to s b == ↑s || b == v && dst G to s a == ↑s)) = true := by simp [c2.1, c2.2]
          rw [e2, if_pos rfl]
          have e3 := (q b).2 c2.2
          have u : ∀ F : Int → Int, mark1 F s b a v = if v = a ∧ F b = s ∧ F a < 0 then (s : Int) + 1 else F v := fun F => rfl
          rw [u, if_pos ⟨c2.1.symm, e3, by have h := e1; rw [← c2.1] at h; omega⟩]
        · have e2 : (false || (a == v && dst G to s b == ↑s || b == v && dst G to s a == ↑s)) = false := by
            rw [Bool.false_or, Bool.or_eq_false_iff, Bool.and_eq_false_iff, Bool.and_eq_false_iff]
            refine ⟨?_, ?_⟩
            · by_cases x : a = v
              · exact .inr (by rw [beq_eq_false_iff_ne]; exact fun y => c2 ⟨x, y⟩)
              · exact .inl (by rw [beq_eq_false_iff_ne]; exact x)
            · by_cases x : b = v
              · exact .inr (by rw [beq_eq_false_iff_ne]; exact fun y => c1 ⟨x, y⟩)
              · exact .inl (by rw [beq_eq_false_iff_ne]; exact x)
          rw [e2]
          have e4 : mark1 (mark1 (dstP G to s i) s a b) s b a v = mark1 (dstP G to s i) s a b v := by
            have u : ∀ F : Int → Int, mark1 F s b a v = if v = a ∧ F b = s ∧ F a < 0 then (s : Int) + 1 else F v := fun F => rfl
            rw [u, if_neg]
            intro h
            exact c2 ⟨h.1.symm, (q b).1 h.2.1⟩
          rw [e4, e1]
          rfl
    · rw [hh] at hv
      have hpos : dstP G to s i v = (s : Int) + 1 := by rw [hv]; rfl
      rw [Bool.true_or, if_pos rfl]
      have e1 : mark1 (dstP G to s i) s a b v = (s : Int) + 1 := by rw [mark1_no (by rw [hpos]; omega), hpos]
      rw [mark1_no (by rw [e1]; omega), e1]
/-! ### A search by a queue -/
theorem nodup_short : ∀ (N : Nat) (Q : List Int), Q.Nodup → (∀ u ∈ Q, 0 ≤ u ∧ u < N) → Q.length ≤ N
  | 0, Q, _, h => by
    cases Q with
    | nil => exact Nat.le_refl _
    | cons x xs => have := h x (List.mem_cons_self); omega
  | N + 1, Q, hn, h => by
    have ih := nodup_short N (Q.erase (N : Int)) (hn.erase _) (fun u hu => by
      have h1 := h u (List.mem_of_mem_erase hu)
      have h2 := (hn.mem_erase_iff.1 hu).1
      omega)
    by_cases hm : (N : Int) ∈ Q
    · rw [List.length_erase_of_mem hm] at ih; omega
    · rw [List.erase_of_not_mem hm] at ih; omega
structure Bfs (N : Nat) (G : List Ed) (to : Int) (Q : List Int) (D : List Nat) (h : Nat) (g : Int → Option Nat) : Prop where
  len : D.length = Q.length
  hle : h ≤ Q.length
  pos : 0 < Q.length
  nd : Q.Nodup
  rng : ∀ u ∈ Q, 0 ≤ u ∧ u < N
  start : to ∈ Q
  lvl : ∀ i, i < Q.length → Lv G to (D.getD i 0) (Q.getD i 0)
  srt : ∀ i j, i ≤ j → j < Q.length → D.getD i 0 ≤ D.getD j 0
  idx : ∀ i, i < Q.length → D.getD i 0 ≤ i
  top : h < Q.length → ∀ j, j < Q.length → D.getD j 0 ≤ D.getD h 0 + 1
  done : ∀ i, i < h → ∀ k, k < G.length → ∀ v, oth (G.getD k eNone) (Q.getD i 0) = some v → v ∈ Q
  full : h < Q.length → ∀ v d, d ≤ D.getD h 0 → Lv G to d v → v ∈ Q
  map : ∀ v d, g v = some d ↔ ∃ i, i < Q.length ∧ Q.getD i 0 = v ∧ D.getD i 0 = d
theorem Bfs.short {N : Nat} {G : List Ed} {to : Int} {Q : List Int} {D : List Nat} {h : Nat} {g : Int → Option Nat} (b : Bfs N G to Q D h g) : Q.length ≤ N := nodup_short N Q b.nd b.rng
theorem Bfs.mem {N : Nat} {G : List Ed} {to : Int} {Q : List Int} {D : List Nat} {h : Nat} {g : Int → Option Nat} (b : Bfs N G to Q D h g) (v : Int) : (g v).isSome = true ↔ v ∈ Q := by
  constructor
  · intro hs
    obtain ⟨d, hd⟩ := Option.isSome_iff_exists.1 hs
    obtain ⟨i, hi, rfl, _⟩ := (b.map v d).1 hd
    exact mem_getD hi
  · intro hm
    obtain ⟨i, hi, e⟩ := getD_of_mem 0 hm
    rw [(b.map v _).2 ⟨i, hi, e, rfl⟩]; rfl
theorem Bfs.at_ {N : Nat} {G : List Ed} {to : Int} {Q : List Int} {D : List Nat} {h : Nat} {g : Int → Option Nat} (b : Bfs N G to Q D h g) {i : Nat} (hi : i < Q.length) : g (Q.getD i 0) = some (D.getD i 0) := (b.map _ _).2 ⟨i, hi, rfl, rfl⟩
theorem Bfs.init {N : Nat} {G : List Ed} {to : Int} (h1 : 0 ≤ to) (h2 : to < N) : Bfs N G to [to] [0] 0 (fun v => if v = to then some 0 else none) where
  len := rfl
  hle := by simp
  pos := by simp
  nd := by simp
  rng := by simp; exact ⟨h1, h2⟩
  start := by simp
  lvl := by
    intro i hi
    obtain rfl : i = 0 := by simp at hi; exact hi
    exact Lv.zero.2 rfl
  srt := by
    intro i j hij hj
    obtain rfl : j = 0 := by simp at hj; exact hj
    obtain rfl : i = 0 := by omega
    exact Nat.le_refl _
  idx := by
    intro i hi
    obtain rfl : i = 0 := by simp at hi; exact hi
    exact Nat.le_refl _
  top := by
    intro _ j hj
    obtain rfl : j = 0 := by simp at hj; exact hj
    simp
  done := by intro i hi; omega
  full := by
    intro _ v d hd hl
    have hd : d ≤ 0 := hd
    obtain rfl : d = 0 := by omega
    rw [Lv.zero.1 hl]; simp
  map := by
    intro v d
    constructor
    · intro h
      split at h
      · rename_i e; injection h with h; exact ⟨0, by simp, e.symm, h⟩
      · cases h
    · rintro ⟨i, hi, h1, h2⟩
      obtain rfl : i = 0 := by simp at hi; exact hi
      have h1 : to = v := h1
      have h2 : 0 = d := h2
      rw [if_pos h1.symm, h2]
theorem getD_app {α : Type} {l : List α} {x d : α} {i : Nat} (h : i < l.length) : (l ++ [x]).getD i d = l.getD i d := by
  simp [List.getD, List.getElem?_append_left h]
theorem getD_last {α : Type} {l : List α} {x d : α} : (l ++ [x]).getD l.length d = x := by simp [List.getD]
theorem Bfs.push {N : Nat} {G : List Ed} {to : Int} {Q : List Int} {D : List Nat} {h : Nat} {g : Int → Option Nat} (b : Bfs N G to Q D h g) (hG : EdIn N G) (hh : h < Q.length) {k : Nat} (hk : k < G.length) {v : Int} (ho : oth (G.getD k eNone) (Q.getD h 0) = some v) (hv : v ∉ Q) :
    Bfs N G to (Q ++ [v]) (D ++ [D.getD h 0 + 1]) h (fun x => if x = v then some (D.getD h 0 + 1) else g x) := by
  have hl : Lv G to (D.getD h 0 + 1) v := by
    obtain ⟨d', hd, hl⟩ := (b.lvl h hh).step hk ho
    by_cases e : d' = D.getD h 0 + 1
    · rw [← e]; exact hl
    · exact absurd (b.full hh v d' (by omega) hl) hv
  have hr : 0 ≤ v ∧ v < N := by
    obtain ⟨hf, ht⟩ := hG k hk
    rcases oth_cases ho with ⟨_, rfl⟩ | ⟨_, _, rfl⟩
    · exact ht
    · exact hf
  have lQ : (Q ++ [v]).length = Q.length + 1 := by simp
  have dA : ∀ i, i < Q.length → (D ++ [D.getD h 0 + 1]).getD i 0 = D.getD i 0 := fun i hi => getD_app (by rw [b.len]; exact hi)
  have dL : (D ++ [D.getD h 0 + 1]).getD Q.length 0 = D.getD h 0 + 1 := by rw [← b.len]; exact getD_last
  have qA : ∀ i, i < Q.length → (Q ++ [v]).getD i 0 = Q.getD i 0 := fun i hi => getD_app hi
  have qL : (Q ++ [v]).getD Q.length 0 = v := getD_last
  refine ⟨by simp [b.len], by rw [lQ]; have := b.hle; omega, by omega, ?_, ?_, List.mem_append_left _ b.start, ?_, ?_, ?_, ?_, ?_, ?_, ?_⟩
  · rw [List.nodup_append]
    exact ⟨b.nd, by simp, fun a ha c hc e => by simp at hc; subst hc; subst e; exact hv ha⟩
  · intro u hu
    rcases List.mem_append.1 hu with hu | hu
    · exact b.rng u hu
    · simp at hu; subst hu; exact hr
  · intro i hi
    rw [lQ] at hi
    by_cases e : i = Q.length
    · subst e; rw [dL, qL]; exact hl
    · rw [dA i (by omega), qA i (by omega)]; exact b.lvl i (by omega)
  · intro i j hij hj
    rw [lQ] at hj
    by_cases e : j = Q.length
    · subst e
      rw [dL]
      by_cases e2 : i = Q.length
      · subst e2; rw [dL]; exact Nat.le_refl _
      · rw [dA i (by omega)]; exact b.top hh i (by omega)
    · rw [dA j (by omega), dA i (by omega)]; exact b.srt i j hij (by omega)
  · intro i hi
    rw [lQ] at hi
    by_cases e : i = Q.length
    · subst e
      have := b.idx h hh
      rw [dL]; omega
    · rw [dA i (by omega)]; exact b.idx i (by omega)
  · intro _ j hj
    rw [lQ] at hj
    rw [dA h hh]
    by_cases e : j = Q.length
    · subst e; rw [dL]; exact Nat.le_refl _
    · rw [dA j (by omega)]; exact b.top hh j (by omega)
  · intro i hi k' hk' w hw
    rw [qA i (by omega)] at hw
    exact List.mem_append_left _ (b.done i hi k' hk' w hw)
  · intro _ w d hd hw
    rw [dA h hh] at hd
    exact List.mem_append_left _ (b.full hh w d hd hw)
  · intro x d
    constructor
    · intro hx
      split at hx
      · rename_i e
        injection hx with hx
        exact ⟨Q.length, by omega, by rw [qL, e], by rw [dL, hx]⟩
      · obtain ⟨i, hi, e1, e2⟩ := (b.map x d).1 hx
        exact ⟨i, by omega, by rw [qA i hi, e1], by rw [dA i hi, e2]⟩
    · rintro ⟨i, hi, e1, e2⟩
      rw [lQ] at hi
      by_cases e : i = Q.length
      · subst e
        rw [qL] at e1; rw [dL] at e2
        rw [if_pos e1.symm, e2]
      · rw [qA i (by omega)] at e1; rw [dA i (by omega)] at e2
        rw [if_neg, (b.map x d).2 ⟨i, by omega, e1, e2⟩]
        intro h'
        exact hv (by rw [← h', ← e1]; exact mem_getD (by omega))
theorem Bfs.next {N : Nat} {G : List Ed} {to : Int} {Q : List Int} {D : List Nat} {h : Nat} {g : Int → Option Nat} (b : Bfs N G to Q D h g) (hh : h < Q.length) (hc : ∀ k, k < G.length → ∀ v, oth (G.getD k eNone) (Q.getD h 0) = some v → v ∈ Q) :
    Bfs N G to Q D (h + 1) g := by
  refine ⟨b.len, by omega, b.pos, b.nd, b.rng, b.start, b.lvl, b.srt, b.idx, ?_, ?_, ?_, b.map⟩
  · intro h1 j hj
    have h2 := b.srt h (h + 1) (by omega) h1
    have h3 := b.top hh j hj
    omega
  · intro i hi k hk v hv
    by_cases e : i = h
    · subst e; exact hc k hk v hv
    · exact b.done i (by omega) k hk v hv
  · intro h1 v d hd hl
    have h2 := b.srt h (h + 1) (by omega) h1
    have h3 := b.top hh (h + 1) h1
    by_cases e : d ≤ D.getD h 0
    · exact b.full hh v d e hl
    · obtain ⟨c, rfl⟩ : ∃ c, d = c + 1 := ⟨d - 1, by omega⟩
      obtain ⟨i, u, hi, ho, hlu⟩ := hl.back
      have hu := b.full hh u c (by omega) hlu
      obtain ⟨j, hj, ej⟩ := getD_of_mem 0 hu
      have hju := b.lvl j hj
      rw [ej] at hju
      have hdc := hju.uniq hlu
      have hjh : j ≤ h := by
        rcases Nat.lt_or_ge h j with h' | h'
        · have := b.srt (h + 1) j (by omega) hj; omega
        · exact h'
      have ho' := oth_symm ho
      by_cases e2 : j = h
      · subst e2; exact hc i hi v (by rw [ej]; exact ho')
      · exact b.done j (by omega) i hi v (by rw [ej]; exact ho')
/-- At the end the map holds the distances. -/
theorem Bfs.end_ {N : Nat} {G : List Ed} {to : Int} {Q : List Int} {D : List Nat} {g : Int → Option Nat} (b : Bfs N G to Q D Q.length g) (v : Int) : g v = if 0 ≤ dst G to N v then some (dst G to N v).toNat else none := by
  have all : ∀ d u, Lv G to d u → u ∈ Q := by
    intro d
    induction d with
    | zero => intro u hu; rw [Lv.zero.1 hu]; exact b.start
    | succ d ih =>
      intro u hu
      obtain ⟨i, x, hi, ho, hx⟩ := hu.back
      obtain ⟨j, hj, ej⟩ := getD_of_mem 0 (ih x hx)
      exact b.done j hj i hi u (by rw [ej]; exact oth_symm ho)
  by_cases h0 : 0 ≤ dst G to N v
  · rw [if_pos h0]
    have hl := Lv.of_dst h0
    obtain ⟨j, hj, ej⟩ := getD_of_mem 0 (all _ v hl)
    have h1 := b.lvl j hj
    rw [ej] at h1
    exact (b.map v _).2 ⟨j, hj, ej, h1.uniq hl⟩
  · rw [if_neg h0]
    cases hg : g v with
    | none => rfl
    | some d =>
      obtain ⟨j, hj, ej, ed⟩ := (b.map v d).1 hg
      have h1 := b.lvl j hj
      have h2 := b.idx j hj
      have h3 := b.short
      rw [ej, ed] at h1
      have := h1.at_ (s := N) (by omega)
      omega
/-! ### The walk along falling distances -/
/-- The first edge that leads from a vertex to one that is nearer. -/
def nearB (d : Int → Int) (a : Int) (e : Ed) : Bool := match oth e a with | some v => d v == d a - 1 | none => false
/-- How an edge is told that is left at a vertex. -/
def sgn (e : Ed) (a : Int) : Int := if e.f = a then e.k + 1 else -e.k - 1
def walkF (G : List Ed) (d : Int → Int) : Nat → Int → List Int
  | 0, _ => []
  | s + 1, a => match G.find? (nearB d a) with
    | some e => sgn e a :: walkF G d s ((oth e a).getD 0)
    | none => []
def pathF (N : Nat) (G : List Ed) (a to : Int) : List Int × Bool := if 0 ≤ dst G to N a then (walkF G (dst G to N) (dst G to N a).toNat a, true) else ([], false)
theorem pathF_length_le (G : List Ed) (d : Int → Int) : ∀ s a, (walkF G d s a).length ≤ s
  | 0, a => by simp [walkF]
  | s + 1, a => by
    unfold walkF
    split
    · simp; exact pathF_length_le G d s _
    · simp
/-- Where a vertex has a level behind the first, such an edge is there. -/
theorem near_some {N : Nat} {G : List Ed} {to a : Int} {s : Nat} (hN : dst G to N a = ((s + 1 : Nat) : Int)) : ∃ i, i < G.length ∧ nearB (dst G to N) a (G.getD i eNone) = true ∧ ∀ j, j < i → nearB (dst G to N) a (G.getD j eNone) = false := by
  have hl : Lv G to (s + 1) a := by
    have h := Lv.of_dst (G := G) (to := to) (s := N) (v := a) (by omega)
    rw [show (dst G to N a).toNat = s + 1 by omega] at h
    exact h
  have hb := dst_or G to N a
  obtain ⟨i, u, hi, ho, hu⟩ := hl.back
  have hn : nearB (dst G to N) a (G.getD i eNone) = true := by
    unfold nearB; rw [ho]; simp only
    rw [beq_iff_eq, hu.at_ (by omega), hN]; omega
  clear hu ho hb hl hN
  induction i using Nat.strongRecOn with
  | ind i ih =>
    by_cases hall : ∀ j, j < i → nearB (dst G to N) a (G.getD j eNone) = false
    · exact ⟨i, hi, hn, hall⟩
    · obtain ⟨j, hj⟩ := Classical.not_forall.1 hall
      obtain ⟨hj1, hj2⟩ := Classical.not_imp.1 hj
      exact ih j hj1 (by omega) (by simpa using hj2)
theorem find_first {G : List Ed} {p : Ed → Bool} : ∀ {i : Nat}, i < G.length → p (G.getD i eNone) = true → (∀ j, j < i → p (G.getD j eNone) = false) → G.find? p = some (G.getD i eNone) := by
  induction G with
  | nil => intro i h; simp at h
  | cons e G ih =>
    intro i hi hp hn
    cases i with
    | zero =>
      have hp : p e = true := hp
      rw [List.find?_cons_of_pos hp]; rfl
    | succ i =>
      have h0 : p e = false := hn 0 (by omega)
      rw [List.find?_cons_of_neg (by simp [h0])]
      exact ih (by simpa using hi) hp (fun j hj => hn (j + 1) (by omega))
theorem nearB_iff {d : Int → Int} {a : Int} {e : Ed} : nearB d a e = true ↔ ∃ v, oth e a = some v ∧ d v = d a - 1 := by
  unfold nearB
  cases h : oth e a with
  | none => simp
  | some v => simp
end Go.Proofs.YtejkoicgbgoiaaaGreat.Pl
