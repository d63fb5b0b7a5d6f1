/- Proved here: the parts Locks, DoorsR, PlantV, OpenP, OpenI, OpenS of the row's proof, joined by a program. Conditions: as each part says. -/
import Derived.Test.YtejkoicgbgoiaaaGreatFm11
import Derived.BigQuiet
/- Lists of locks (pairs of doors): when one is valid, by the program and by the reference. Conditions: the facts on memory and on lengths that each theorem names. -/
namespace Go.Proofs.YtejkoicgbgoiaaaGreat
open Go.RowKit
open Pl
theorem drew3 (w : World) (a b c : Nat) : ∃ n, w.drewN n = ((w.drewN a).drewN b).drewN c := ⟨a + (b + c), by rw [World.drewN_drewN, World.drewN_drewN]⟩
def cmpI (a b : Int) : Int := if a < b then -1 else if b < a then 1 else 0
def cmp2 (a b c d : Int) : Int := if a < c then -1 else if c < a then 1 else cmpI b d
/-- A pair stands before another one. -/
def befB (a b c d : Int) : Bool := decide (a < c) || (decide (a = c) && decide (b < d))
theorem cmp2_bef (a b c d : Int) : decide (cmp2 a b c d ≥ 0) = !befB a b c d := by
  unfold cmp2 befB cmpI
  by_cases h1 : a < c
  · rw [if_pos h1, decide_eq_true h1]; rfl
  · rw [if_neg h1, decide_eq_false h1]
    by_cases h2 : c < a
    · rw [if_pos h2, decide_eq_false (show ¬ a = c by omega)]; rfl
    · rw [if_neg h2, decide_eq_true (show a = c by omega)]
      by_cases h3 : b < d
      · rw [if_pos h3, decide_eq_true h3]; rfl
      · rw [if_neg h3, decide_eq_false h3]
        by_cases h4 : d < b
        · rw [if_pos h4]; rfl
        · rw [if_neg h4]; rfl
def ordL (ls : List (List Int)) (q : Nat) : Bool := decide (q = 0) || befB (at2 ls (q - 1) 0) (at2 ls (q - 1) 1) (at2 ls q 0) (at2 ls q 1)
theorem ordL_succ (ls : List (List Int)) (k : Nat) : ordL ls (k + 1) = befB (at2 ls k 0) (at2 ls k 1) (at2 ls (k + 1) 0) (at2 ls (k + 1) 1) := by unfold ordL; simp
def lockP (D : Int) (ls : List (List Int)) (q : Nat) : Bool := decide ((ls.getD q []).length = 2) && (inB (at2 ls q 1) 0 (D - 1) && (inB (at2 ls q 0) 0 (at2 ls q 1 - 1) && ordL ls q))
def locksB (D : Int) (ls : List (List Int)) : Bool := inB D 0 8 && (decide ((ls.length : Int) ≤ 12) && allUp (lockP D ls) ls.length)
theorem isNaN_any (a : Int) (w : World) : Calls Tryz.prog 172 #[.int .i64 a] w fun e w' => e = .returned (.bool false) ∧ w = w' := by
  go_enter Tryz.func172, Tryz.ntmps172
  go_wp2
  go_ret
  exact ⟨ret_bool (by simp), rfl⟩
theorem cmpCompare_any (a b : Int) (w : World) : Calls Tryz.prog 154 #[.int .i64 a, .int .i64 b] w fun e w' => e = .returned (.int .i64 (cmpI a b)) ∧ w = w' := by
  unfold cmpI
  by_cases h1 : a < b
  · rw [if_pos h1]
    go_enter Tryz.func154, Tryz.ntmps154
    go_wp2_with (go_at_call 172; refine (isNaN_any _ _).mono ?_; rintro e w' ⟨rfl, rfl⟩)
    go_ret
    exact ⟨rfl, rfl⟩
  · rw [if_neg h1]
    by_cases h2 : b < a
    · rw [if_pos h2]
      go_enter Tryz.func154, Tryz.ntmps154
      go_wp2_with (go_at_call 172; refine (isNaN_any _ _).mono ?_; rintro e w' ⟨rfl, rfl⟩)
      go_ret
      exact ⟨rfl, rfl⟩
    · rw [if_neg h2]
      go_enter Tryz.func154, Tryz.ntmps154
      go_wp2_with (go_at_call 172; refine (isNaN_any _ _).mono ?_; rintro e w' ⟨rfl, rfl⟩)
      go_ret
      exact ⟨rfl, rfl⟩
/-- Two pairs compared. -/
theorem slicesCompare_any (b1 o1 c1 b2 o2 c2 : Nat) (x y x' y' : Int) (w : World) (h0 : w.cell? ⟨b1, o1, none⟩ = some (.int .i64 x)) (h1 : w.cell? ⟨b1, o1 + 1, none⟩ = some (.int .i64 y)) (k0 : w.cell? ⟨b2, o2, none⟩ = some (.int .i64 x')) (k1 : w.cell? ⟨b2, o2 + 1, none⟩ = some (.int .i64 y')) :
    Calls Tryz.prog 118 #[.slice (some ⟨b1, o1, none⟩) 2 c1, .slice (some ⟨b2, o2, none⟩) 2 c2] w fun e w' => e = .returned (.int .i64 (cmp2 x y x' y')) ∧ w = w' := by
  obtain ⟨R, hR⟩ : ∃ R, R = cmp2 x y x' y' := ⟨_, rfl⟩
  rw [← hR]
  have HR := Lib.hid hR
  clear hR
  obtain ⟨N, hN⟩ : ∃ N : Nat, N = 2 := ⟨_, rfl⟩
  have HC := Lib.hid (fun a b W => cmpCompare_any a b W)
  by_cases e0 : cmpI x x' = 0
  rotate_left
  · have HF : Hid (cmp2 x y x' y' = cmpI x x') := Lib.hid (by
      unfold cmp2; unfold cmpI at e0 ⊢
      by_cases h1 : x < x'
      · rw [if_pos h1, if_pos h1]
      · rw [if_neg h1, if_neg h1]
        by_cases h2 : x' < x
        · rw [if_pos h2, if_pos h2]
        · rw [if_neg h1, if_neg h2] at e0; exact absurd rfl e0)
    have HC0 := Lib.hid (fun W => HC.out x x' W)
    generalize cmpI x x' = r at *
    have e1 : ((r : Int) != 0) = true := by simpa using e0
    clear e0 hN
    go_enter Tryz.func118, Tryz.ntmps118
    go_wp2
    refine wp_loop_rounds 1 ?_
    rw [rounds_succ]
    go_wp2_with (go_at_call 154; refine (HC0.out _).mono ?_; rintro e w' ⟨rfl, rfl⟩)
    go_ret
    exact ⟨ret_int (by rw [HR.out, HF.out]), rfl⟩
  have ex : x = x' := by
    unfold cmpI at e0
    by_cases h1 : x < x'
    · rw [if_pos h1] at e0; omega
    · rw [if_neg h1] at e0
      by_cases h2 : x' < x
      · rw [if_pos h2] at e0; omega
      · omega
  have HF : Hid (cmp2 x y x' y' = cmpI y y') := Lib.hid (by
    unfold cmp2; rw [if_neg (show ¬ x < x' by omega), if_neg (show ¬ x' < x by omega)])
  have HC0 := Lib.hid (fun W => HC.out x x' W)
  rw [e0] at HC0
  clear e0 ex
  by_cases e1 : cmpI y y' = 0
  rotate_left
  · have HC1 := Lib.hid (fun W => HC.out y y' W)
    generalize cmpI y y' = r at *
    have e2 : ((r : Int) != 0) = true := by simpa using e1
    clear e1 hN
    go_enter Tryz.func118, Tryz.ntmps118
    go_wp2
    refine wp_loop_rounds 2 ?_
    rw [rounds_succ]
    go_wp2_with (go_at_call 154; refine (HC0.out _).mono ?_; rintro e w' ⟨rfl, rfl⟩)
    rw [rounds_succ]
    go_wp2_with (go_at_call 154; refine (HC1.out _).mono ?_; rintro e w' ⟨rfl, rfl⟩)
    go_ret
    exact ⟨ret_int (by rw [HR.out, HF.out]), rfl⟩
  · have HC1 := Lib.hid (fun W => HC.out y y' W)
    rw [e1] at HC1 HF
    clear e1 hN
    go_enter Tryz.func118, Tryz.ntmps118
    go_wp2
    refine wp_loop_rounds 3 ?_
    rw [rounds_succ]
    go_wp2_with (go_at_call 154; refine (HC0.out _).mono ?_; rintro e w' ⟨rfl, rfl⟩)
    rw [rounds_succ]
    go_wp2_with (go_at_call 154; refine (HC1.out _).mono ?_; rintro e w' ⟨rfl, rfl⟩)
    rw [rounds_succ]
    go_wp2
    go_ret
    exact ⟨ret_int (by rw [HR.out, HF.out]), rfl⟩
set_option maxRecDepth 100000 in
set_option maxHeartbeats 3200000 in
theorem ValidLocks_any (D : Int) (A : Option Addr) (c : Nat) (ls : List (List Int)) (B : Nat) (w : World) (hn : (ls.length : Int) ≤ 1099511627776) (hI : Nest B w A ls) :
    Calls Tryz.prog 84 #[.int .i64 D, .slice A ls.length c] w fun e w' => e = .returned (.bool (locksB D ls)) ∧ ∃ n, w.drewN n = w' := by
  obtain ⟨R, hR⟩ : ∃ R, R = locksB D ls := ⟨_, rfl⟩
  rw [← hR]
  have HR := Lib.hid hR
  clear hR
  have J0 := Lib.hid hI
  clear hI
  cases hd : inB D 0 8
  · have HN : Hid (locksB D ls = false) := Lib.hid (by unfold locksB; rw [hd]; rfl)
    go_enter Tryz.func84, Tryz.ntmps84
    go_wp2_with (go_at_call 43; refine (eqb (within_any _ _ _ _) hd).mono ?_; rintro e w' ⟨rfl, rfl⟩)
    go_ret
    exact ⟨ret_bool (by rw [HR.out, HN.out]), 0, rfl⟩
  obtain ⟨d1, d2⟩ := inB_iff.1 hd
  by_cases h12 : (ls.length : Int) ≤ 12
  rotate_left
  · have HN : Hid (locksB D ls = false) := Lib.hid (by unfold locksB; rw [decide_eq_false h12]; simp)
    go_enter Tryz.func84, Tryz.ntmps84
    go_wp2_with (go_at_call 43; refine (eqb (within_any _ _ _ _) hd).mono ?_; rintro e w' ⟨rfl, rfl⟩)
    go_ret
    exact ⟨ret_bool (by rw [HR.out, HN.out]), 0, rfl⟩
  obtain ⟨m, m1, m2, m3⟩ := first_stop (lockP D ls) ls.length
  have HM : Hid (locksB D ls = decide (m = ls.length)) := Lib.hid (by unfold locksB; rw [hd, decide_eq_true h12, allUp_stop m1 m2 m3]; rfl)
  have M2 := Lib.hid m2
  have M3 := Lib.hid m3
  clear m2 m3
  go_enter Tryz.func84, Tryz.ntmps84
  go_wp2_with (go_at_call 43; refine (eqb (within_any _ _ _ _) hd).mono ?_; rintro e w' ⟨rfl, rfl⟩)
  clear hd
  go_loopw [17] (fun i wr => ∃ q : Nat, q ≤ m ∧ i = .int .i64 q ∧ ∃ n, w.drewN n = wr) (fun i _ => ls.length - (intOf i).toNat)
  case atStart => exact ⟨0, Nat.zero_le _, rfl, 0, rfl⟩
  case round =>
    obtain ⟨q, hq, rfl, n, rfl⟩ := hrel
    by_cases hlt : q < ls.length
    · have i0 : (0 : Int) ≤ (q : Int) := by omega
      have i1 : (q : Int) < ls.length := by omega
      have HT : Hid (lockP D ls q = true → q + 1 ≤ m) := Lib.hid (fun h => by
        rcases Nat.lt_or_ge q m with h' | h'
        · exact h'
        · have e : m = q := by omega
          have := M3.out (by omega)
          rw [e, h] at this; cases this)
      have HFa : Hid (lockP D ls q = false → decide (m = ls.length) = false) := Lib.hid (fun h => decide_eq_false (by
        intro e
        have := M2.out q (by omega)
        rw [h] at this; cases this))
      have HPq : Hid (lockP D ls q = (decide ((ls.getD q []).length = 2) && (inB (at2 ls q 1) 0 (D - 1) && (inB (at2 ls q 0) 0 (at2 ls q 1 - 1) && ordL ls q)))) := Lib.hid rfl
      have HPr : Hid (∀ p, p < q → (ls.getD p []).length = 2) := Lib.hid (fun p hp => by
        have := M2.out p (by omega)
        unfold lockP at this
        rw [Bool.and_eq_true] at this
        exact of_decide_eq_true this.1)
      by_cases h2 : (ls.getD q []).length = 2
      rotate_left
      · have HD := Lib.hid (HFa.out (by rw [HPq.out, decide_eq_false h2]; rfl))
        obtain ⟨b, o, rfl, -, A', c', hc, -⟩ := J0.out.atD hlt
        have h2b : (((ls.getD q []).length : Int) == 2) = false := by rw [beq_eq_false_iff_ne]; omega
        generalize (ls.getD q []).length = ln at *
        have HY := Lib.hid (fun W => within_any 0 0 100000 W)
        have h2n : ((ln : Int) != 2) = true := by rw [bne, h2b]; rfl
        clear h2 h2b
        go_wp2
        go_big_quiet ((go_at_call 43; first | (with_reducible exact quiet_s (HY.out _)) | (with_reducible exact quiet_s2 (HY.out _))))
        go_wp2
        go_ret
        exact ⟨ret_bool (by rw [HR.out, HM.out, HD.out]), _, (World.drewN_drewN _ _ _).symm⟩
      obtain ⟨x, y, hxy⟩ := pair_of h2
      have hx0 : at2 ls q 0 = x := by unfold at2; rw [hxy]; rfl
      have hx1 : at2 ls q 1 = y := by unfold at2; rw [hxy]; rfl
      obtain ⟨b, o, b1, o1, c1, rfl, -, -, hc, c0, c1'⟩ := J0.out.pair hlt hxy
      rw [decide_eq_true h2, hx0, hx1, Bool.true_and] at HPq
      have HX := Lib.hid (fun W => within_any x 0 (y - 1) W)
      have HY := Lib.hid (fun W => within_any y 0 (D - 1) W)
      clear h2
      cases p1 : inB y 0 (D - 1)
      · rw [p1] at HY
        have HD := Lib.hid (HFa.out (by rw [HPq.out, p1]; rfl))
        clear p1 hxy hx0 hx1
        go_wp2
        go_big_quiet ((go_at_call 43; first | (with_reducible exact quiet_s (HY.out _)) | (with_reducible exact quiet_s2 (HY.out _))))
        go_wp2
        go_ret
        exact ⟨ret_bool (by rw [HR.out, HM.out, HD.out]), _, (World.drewN_drewN _ _ _).symm⟩
      rw [p1] at HY
      obtain ⟨y1, y2⟩ := inB_iff.1 p1
      cases p2 : inB x 0 (y - 1)
      · rw [p2] at HX
        have HD := Lib.hid (HFa.out (by rw [HPq.out, p1, p2]; rfl))
        clear p1 p2 hxy hx0 hx1
        go_wp2
        go_big_quiet (first | (go_at_call 43; first | (with_reducible exact quiet_s (HX.out _)) | (with_reducible exact quiet_s2 (HX.out _))) | (go_at_call 43; first | (with_reducible exact quiet_s (HY.out _)) | (with_reducible exact quiet_s2 (HY.out _))))
        go_wp2
        go_ret
        exact ⟨ret_bool (by rw [HR.out, HM.out, HD.out]), _, (World.drewN_drewN _ _ _).symm⟩
      rw [p2] at HX
      rw [p1, p2, Bool.true_and, Bool.true_and] at HPq
      by_cases hq0 : q = 0
      · have hz0 : decide (0 < q) = false := decide_eq_false (by omega)
        have HG := Lib.hid (HT.out (by rw [HPq.out]; unfold ordL; rw [decide_eq_true hq0]; rfl))
        clear p1 p2 hxy hx0 hx1 hq0
        go_wp2
        go_big_quiet (first | (go_at_call 43; first | (with_reducible exact quiet_s (HX.out _)) | (with_reducible exact quiet_s2 (HX.out _))) | (go_at_call 43; first | (with_reducible exact quiet_s (HY.out _)) | (with_reducible exact quiet_s2 (HY.out _))))
        go_wp2
        go_roundw
        case rel => exact ⟨q + 1, HG.out, by go_num, _, rfl⟩
        case measure => simp [intOf]; omega
      · obtain ⟨p, hpq⟩ : ∃ p, q = p + 1 := ⟨q - 1, by omega⟩
        have hz0 : decide (0 < q) = true := decide_eq_true (by omega)
        obtain ⟨x', y', hxy'⟩ := pair_of (HPr.out p (by omega))
        obtain ⟨b', o', b2, o2, c2, hbo, -, -, hd, d0, d1'⟩ := J0.out.pair (k := p) (by omega) hxy'
        cases hbo
        have hs : ordL ls q = befB x' y' x y := by
          have hx0' : at2 ls p 0 = x' := by unfold at2; rw [hxy']; rfl
          have hx1' : at2 ls p 1 = y' := by unfold at2; rw [hxy']; rfl
          rw [hpq, ordL_succ, ← hpq, hx0, hx1, hx0', hx1']
        rw [hs] at HPq
        have w0 : (0 : Int) ≤ (p : Int) := by omega
        have w1 : (p : Int) < ls.length := by omega
        have hw : IntKind.i64.wrap ((q : Int) - 1) = (p : Int) := by rw [IntWalk.i64_in _ (by omega)]; omega
        clear p1 p2 hxy hx0 hx1 hq0 hxy' hs hpq
        have HK := Lib.hid (fun W (u0 : W.cell? ⟨b2, o2, none⟩ = some (.int .i64 x')) (u1 : W.cell? ⟨b2, o2 + 1, none⟩ = some (.int .i64 y')) (v0 : W.cell? ⟨b1, o1, none⟩ = some (.int .i64 x)) (v1 : W.cell? ⟨b1, o1 + 1, none⟩ = some (.int .i64 y)) => slicesCompare_any b2 o2 c2 b1 o1 c1 x' y' x y W u0 u1 v0 v1)
        have hcb := cmp2_bef x' y' x y
        generalize cmp2 x' y' x y = r at *
        have HK := Lib.hid (fun (n : Nat) => HK.out (w.drewN n) (by simpa using d0) (by simpa using d1') (by simpa using c0) (by simpa using c1'))
        cases ho : befB x' y' x y
        · have HD := Lib.hid (HFa.out (by rw [HPq.out, ho]))
          rw [ho] at hcb
          have hcb : decide (0 ≤ r) = true := hcb
          clear ho
          go_wp2
          go_big_quiet (first | (go_at_call 43; first | (with_reducible exact quiet_s (HX.out _)) | (with_reducible exact quiet_s2 (HX.out _))) | (go_at_call 43; first | (with_reducible exact quiet_s (HY.out _)) | (with_reducible exact quiet_s2 (HY.out _))) | (go_at_call 118; first | (with_reducible exact quiet_s (HK.out _)) | (with_reducible exact quiet_s2 (HK.out _))))
          clear hw
          go_wp2
          go_ret
          exact ⟨ret_bool (by rw [HR.out, HM.out, HD.out]), _, (World.drewN_drewN _ _ _).symm⟩
        · have HG := Lib.hid (HT.out (by rw [HPq.out, ho]))
          rw [ho] at hcb
          have hcb : decide (0 ≤ r) = false := hcb
          clear ho
          go_wp2
          go_big_quiet (first | (go_at_call 43; first | (with_reducible exact quiet_s (HX.out _)) | (with_reducible exact quiet_s2 (HX.out _))) | (go_at_call 43; first | (with_reducible exact quiet_s (HY.out _)) | (with_reducible exact quiet_s2 (HY.out _))) | (go_at_call 118; first | (with_reducible exact quiet_s (HK.out _)) | (with_reducible exact quiet_s2 (HK.out _))))
          clear hw
          go_wp2
          go_roundw
          case rel => exact ⟨q + 1, HG.out, by go_num, _, rfl⟩
          case measure => simp [intOf]; omega
    · have HD := Lib.hid (decide_eq_true (show m = ls.length by omega))
      go_wp2
      go_ret
      exact ⟨ret_bool (by rw [HR.out, HM.out, HD.out]), _, rfl⟩
set_option maxRecDepth 100000 in
set_option maxHeartbeats 3200000 in
theorem l10Locks_any (D : Int) (A : Option Addr) (c : Nat) (ls : List (List Int)) (B : Nat) (w : World) (hn : (ls.length : Int) ≤ 1099511627776) (hI : Nest B w A ls) :
    Calls Tryz.prog 76 #[.int .i64 D, .slice A ls.length c] w fun e w' => e = .returned (.bool (locksB D ls)) ∧ ∃ n, w.drewN n = w' := by
  obtain ⟨R, hR⟩ : ∃ R, R = locksB D ls := ⟨_, rfl⟩
  rw [← hR]
  have HR := Lib.hid hR
  clear hR
  have J0 := Lib.hid hI
  clear hI
  cases hd : inB D 0 8
  · have HN : Hid (locksB D ls = false) := Lib.hid (by unfold locksB; rw [hd]; rfl)
    go_enter Tryz.func76, Tryz.ntmps76
    go_wp2_with (go_at_call 67; refine (eqb (l00In_any _ _ _ _) hd).mono ?_; rintro e w' ⟨rfl, rfl⟩)
    go_ret
    exact ⟨ret_bool (by rw [HR.out, HN.out]), 0, rfl⟩
  obtain ⟨d1, d2⟩ := inB_iff.1 hd
  by_cases h12 : (ls.length : Int) ≤ 12
  rotate_left
  · have HN : Hid (locksB D ls = false) := Lib.hid (by unfold locksB; rw [decide_eq_false h12]; simp)
    go_enter Tryz.func76, Tryz.ntmps76
    go_wp2_with (go_at_call 67; refine (eqb (l00In_any _ _ _ _) hd).mono ?_; rintro e w' ⟨rfl, rfl⟩)
    go_ret
    exact ⟨ret_bool (by rw [HR.out, HN.out]), 0, rfl⟩
  obtain ⟨m, m1, m2, m3⟩ := first_stop (lockP D ls) ls.length
  have HM : Hid (locksB D ls = decide (m = ls.length)) := Lib.hid (by unfold locksB; rw [hd, decide_eq_true h12, allUp_stop m1 m2 m3]; rfl)
  have M2 := Lib.hid m2
  have M3 := Lib.hid m3
  clear m2 m3
  go_enter Tryz.func76, Tryz.ntmps76
  go_wp2_with (go_at_call 67; refine (eqb (l00In_any _ _ _ _) hd).mono ?_; rintro e w' ⟨rfl, rfl⟩)
  clear hd
  go_loopw [5] (fun i wr => ∃ q : Nat, q ≤ m ∧ i = .int .i64 q ∧ ∃ n, w.drewN n = wr) (fun i _ => ls.length - (intOf i).toNat)
  case atStart => exact ⟨0, Nat.zero_le _, rfl, 0, rfl⟩
  case round =>
    obtain ⟨q, hq, rfl, n, rfl⟩ := hrel
    by_cases hlt : q < ls.length
    · have i0 : (0 : Int) ≤ (q : Int) := by omega
      have i1 : (q : Int) < ls.length := by omega
      have HT : Hid (lockP D ls q = true → q + 1 ≤ m) := Lib.hid (fun h => by
        rcases Nat.lt_or_ge q m with h' | h'
        · exact h'
        · have e : m = q := by omega
          have := M3.out (by omega)
          rw [e, h] at this; cases this)
      have HFa : Hid (lockP D ls q = false → decide (m = ls.length) = false) := Lib.hid (fun h => decide_eq_false (by
        intro e
        have := M2.out q (by omega)
        rw [h] at this; cases this))
      have HPq : Hid (lockP D ls q = (decide ((ls.getD q []).length = 2) && (inB (at2 ls q 1) 0 (D - 1) && (inB (at2 ls q 0) 0 (at2 ls q 1 - 1) && ordL ls q)))) := Lib.hid rfl
      have HPr : Hid (∀ p, p < q → (ls.getD p []).length = 2) := Lib.hid (fun p hp => by
        have := M2.out p (by omega)
        unfold lockP at this
        rw [Bool.and_eq_true] at this
        exact of_decide_eq_true this.1)
      by_cases h2 : (ls.getD q []).length = 2
      rotate_left
      · have HD := Lib.hid (HFa.out (by rw [HPq.out, decide_eq_false h2]; rfl))
        obtain ⟨b, o, rfl, -, A', c', hc, -⟩ := J0.out.atD hlt
        have h2b : (((ls.getD q []).length : Int) == 2) = false := by rw [beq_eq_false_iff_ne]; omega
        generalize (ls.getD q []).length = ln at *
        have HY := Lib.hid (fun W => l00In_any 0 0 100000 W)
        have h2n : ((ln : Int) != 2) = true := by rw [bne, h2b]; rfl
        clear h2 h2b
        go_wp2
        go_big_quiet ((go_at_call 67; first | (with_reducible exact quiet_s (HY.out _)) | (with_reducible exact quiet_s2 (HY.out _))))
        go_wp2
        go_ret
        exact ⟨ret_bool (by rw [HR.out, HM.out, HD.out]), _, (World.drewN_drewN _ _ _).symm⟩
      obtain ⟨x, y, hxy⟩ := pair_of h2
      have hx0 : at2 ls q 0 = x := by unfold at2; rw [hxy]; rfl
      have hx1 : at2 ls q 1 = y := by unfold at2; rw [hxy]; rfl
      obtain ⟨b, o, b1, o1, c1, rfl, -, -, hc, c0, c1'⟩ := J0.out.pair hlt hxy
      rw [decide_eq_true h2, hx0, hx1, Bool.true_and] at HPq
      have HX := Lib.hid (fun W => l00In_any x 0 (y - 1) W)
      have HY := Lib.hid (fun W => l00In_any y 0 (D - 1) W)
      clear h2
      cases p1 : inB y 0 (D - 1)
      · rw [p1] at HY
        have HD := Lib.hid (HFa.out (by rw [HPq.out, p1]; rfl))
        clear p1 hxy hx0 hx1
        go_wp2
        go_big_quiet ((go_at_call 67; first | (with_reducible exact quiet_s (HY.out _)) | (with_reducible exact quiet_s2 (HY.out _))))
        go_wp2
        go_ret
        exact ⟨ret_bool (by rw [HR.out, HM.out, HD.out]), _, (World.drewN_drewN _ _ _).symm⟩
      rw [p1] at HY
      obtain ⟨y1, y2⟩ := inB_iff.1 p1
      cases p2 : inB x 0 (y - 1)
      · rw [p2] at HX
        have HD := Lib.hid (HFa.out (by rw [HPq.out, p1, p2]; rfl))
        clear p1 p2 hxy hx0 hx1
        go_wp2
        go_big_quiet (first | (go_at_call 67; first | (with_reducible exact quiet_s (HX.out _)) | (with_reducible exact quiet_s2 (HX.out _))) | (go_at_call 67; first | (with_reducible exact quiet_s (HY.out _)) | (with_reducible exact quiet_s2 (HY.out _))))
        go_wp2
        go_ret
        exact ⟨ret_bool (by rw [HR.out, HM.out, HD.out]), _, (World.drewN_drewN _ _ _).symm⟩
      rw [p2] at HX
      rw [p1, p2, Bool.true_and, Bool.true_and] at HPq
      by_cases hq0 : q = 0
      · have hz0 : decide (0 < q) = false := decide_eq_false (by omega)
        have HG := Lib.hid (HT.out (by rw [HPq.out]; unfold ordL; rw [decide_eq_true hq0]; rfl))
        clear p1 p2 hxy hx0 hx1 hq0
        go_wp2
        go_big_quiet (first | (go_at_call 67; first | (with_reducible exact quiet_s (HX.out _)) | (with_reducible exact quiet_s2 (HX.out _))) | (go_at_call 67; first | (with_reducible exact quiet_s (HY.out _)) | (with_reducible exact quiet_s2 (HY.out _))))
        go_wp2
        go_big_quiet (fail)
        go_wp2
        go_roundw
        case rel => exact ⟨q + 1, HG.out, by go_num, _, rfl⟩
        case measure => simp [intOf]; omega
      · obtain ⟨p, hpq⟩ : ∃ p, q = p + 1 := ⟨q - 1, by omega⟩
        have hz0 : decide (0 < q) = true := decide_eq_true (by omega)
        obtain ⟨x', y', hxy'⟩ := pair_of (HPr.out p (by omega))
        obtain ⟨b', o', b2, o2, c2, hbo, -, -, hd, d0, d1'⟩ := J0.out.pair (k := p) (by omega) hxy'
        cases hbo
        have hs : ordL ls q = befB x' y' x y := by
          have hx0' : at2 ls p 0 = x' := by unfold at2; rw [hxy']; rfl
          have hx1' : at2 ls p 1 = y' := by unfold at2; rw [hxy']; rfl
          rw [hpq, ordL_succ, ← hpq, hx0, hx1, hx0', hx1']
        rw [hs] at HPq
        have w0 : (0 : Int) ≤ (p : Int) := by omega
        have w1 : (p : Int) < ls.length := by omega
        have hw : IntKind.i64.wrap ((q : Int) - 1) = (p : Int) := by rw [IntWalk.i64_in _ (by omega)]; omega
        clear p1 p2 hxy hx0 hx1 hq0 hxy' hs hpq
        rcases Int.lt_trichotomy x' x with k1 | k1 | k1
        · have e1 : decide (x < x') = false := decide_eq_false (by omega)
          have e2 : (x' == x) = false := by rw [beq_eq_false_iff_ne]; omega
          have HG := Lib.hid (HT.out (by rw [HPq.out]; unfold befB; rw [decide_eq_true k1]; rfl))
          go_wp2
          go_big_quiet (first | (go_at_call 67; first | (with_reducible exact quiet_s (HX.out _)) | (with_reducible exact quiet_s2 (HX.out _))) | (go_at_call 67; first | (with_reducible exact quiet_s (HY.out _)) | (with_reducible exact quiet_s2 (HY.out _))))
          go_wp2
          go_big_quiet (fail)
          clear hw
          go_wp2
          go_roundw
          case rel => exact ⟨q + 1, HG.out, by go_num, _, rfl⟩
          case measure => simp [intOf]; omega
        · have e1 : decide (x < x') = false := decide_eq_false (by omega)
          have e2 : (x' == x) = true := by rw [beq_iff_eq]; omega
          by_cases k2 : y' < y
          · have e3 : decide (y ≤ y') = false := decide_eq_false (by omega)
            have HG := Lib.hid (HT.out (by rw [HPq.out]; unfold befB; rw [decide_eq_true k1, decide_eq_true k2]; simp))
            go_wp2
            go_big_quiet (first | (go_at_call 67; first | (with_reducible exact quiet_s (HX.out _)) | (with_reducible exact quiet_s2 (HX.out _))) | (go_at_call 67; first | (with_reducible exact quiet_s (HY.out _)) | (with_reducible exact quiet_s2 (HY.out _))))
            go_wp2
            go_big_quiet (fail)
            clear hw
            go_wp2
            go_roundw
            case rel => exact ⟨q + 1, HG.out, by go_num, _, rfl⟩
            case measure => simp [intOf]; omega
          · have e3 : decide (y ≤ y') = true := decide_eq_true (by omega)
            have HD := Lib.hid (HFa.out (by rw [HPq.out]; unfold befB; rw [decide_eq_false (show ¬ x' < x by omega), decide_eq_false k2]; simp))
            go_wp2
            go_big_quiet (first | (go_at_call 67; first | (with_reducible exact quiet_s (HX.out _)) | (with_reducible exact quiet_s2 (HX.out _))) | (go_at_call 67; first | (with_reducible exact quiet_s (HY.out _)) | (with_reducible exact quiet_s2 (HY.out _))))
            go_wp2
            go_big_quiet (fail)
            clear hw
            go_wp2
            go_ret
            exact ⟨ret_bool (by rw [HR.out, HM.out, HD.out]), drew3 _ _ _ _⟩
        · have e1 : decide (x < x') = true := decide_eq_true (by omega)
          have HD := Lib.hid (HFa.out (by rw [HPq.out]; unfold befB; rw [decide_eq_false (show ¬ x' < x by omega), decide_eq_false (show ¬ x' = x by omega)]; rfl))
          go_wp2
          go_big_quiet (first | (go_at_call 67; first | (with_reducible exact quiet_s (HX.out _)) | (with_reducible exact quiet_s2 (HX.out _))) | (go_at_call 67; first | (with_reducible exact quiet_s (HY.out _)) | (with_reducible exact quiet_s2 (HY.out _))))
          go_wp2
          go_big_quiet (fail)
          clear hw
          go_wp2
          go_ret
          exact ⟨ret_bool (by rw [HR.out, HM.out, HD.out]), drew3 _ _ _ _⟩
    · have HD := Lib.hid (decide_eq_true (show m = ls.length by omega))
      go_wp2
      go_ret
      exact ⟨ret_bool (by rw [HR.out, HM.out, HD.out]), _, rfl⟩
end Go.Proofs.YtejkoicgbgoiaaaGreat

/- Lists of doors: when one is valid in a mine, by the reference. Conditions: the facts on memory and on lengths that each theorem names. -/
namespace Go.Proofs.YtejkoicgbgoiaaaGreat
open Go.RowKit
open Pl
/-- The first place below q that a door before q shares. -/
theorem take_any (ds : List Do) (a : Int) (q : Nat) (hq : q ≤ ds.length) : ((ds.take q).any fun x => x.i0 == a) = !allUp (fun k => !((ds.getD k nDo).i0 == a)) q := by
  induction q with
  | zero => simp [allUp]
  | succ q ih =>
    unfold allUp
    have e : ds.take (q + 1) = ds.take q ++ [ds[q]] := by rw [List.take_add_one, List.getElem?_eq_getElem (by omega)]; rfl
    rw [e, List.any_append, ih (by omega)]
    have e2 : ds.getD q nDo = ds[q] := by simp [List.getD, show q < ds.length by omega]
    rw [e2]
    simp [Bool.not_and]
set_option maxRecDepth 100000 in
set_option maxHeartbeats 3200000 in
theorem l10Ok_any (bm om : Nat) (J : Int) (A : Option Addr) (cp : Nat) (xs : List Aw) (A2 : Option Addr) (c2 : Nat) (ds : List Do) (B : Nat) (w : World) (hn : (xs.length : Int) ≤ 1099511627776) (hd : (ds.length : Int) ≤ 1099511627776) (hF : FitsA xs) (hFd : FitsDo ds) (hI : Recs encA 7 B w A xs) (hId : Recs encDo 4 B w A2 ds)
    (m0 : w.cell? ⟨bm, om, none⟩ = some (.int .i64 J)) (mm : w.cell? ⟨bm, om + 1, none⟩ = some (.slice A xs.length cp)) :
    Calls Tryz.prog 75 #[.pointer (some ⟨bm, om, none⟩), .slice A2 ds.length c2] w fun e w' => e = .returned (.bool (doorsB J xs ds)) ∧ ∃ n, w.drewN n = w' := by
  obtain ⟨R, hR⟩ : ∃ R, R = doorsB J xs ds := ⟨_, rfl⟩
  rw [← hR]
  have HR := Lib.hid hR
  clear hR
  have J0 := Lib.hid hId
  have HL := Lib.hid (FitsDo.id hFd)
  have HM0 := Lib.hid (l04Ok_any bm om J A cp xs B w hn hF hI m0 mm)
  clear hI hId hF hFd
  cases hmi : mineB J xs
  · have HN : Hid (doorsB J xs ds = false) := Lib.hid (by unfold doorsB; rw [hmi]; rfl)
    rw [hmi] at HM0
    clear hmi
    go_enter Tryz.func75, Tryz.ntmps75
    go_wp2_with fail
    refine HM0.out.mono ?_
    rintro e w1 ⟨rfl, n0, rfl⟩
    go_wp2_with fail
    go_ret
    exact ⟨ret_bool (by rw [HR.out, HN.out]), _, rfl⟩
  rw [hmi] at HM0
  by_cases h8 : (ds.length : Int) ≤ 8
  rotate_left
  · have HN : Hid (doorsB J xs ds = false) := Lib.hid (by unfold doorsB; rw [decide_eq_false h8]; simp)
    clear hmi
    go_enter Tryz.func75, Tryz.ntmps75
    go_wp2_with fail
    refine HM0.out.mono ?_
    rintro e w1 ⟨rfl, n0, rfl⟩
    go_wp2_with fail
    go_ret
    exact ⟨ret_bool (by rw [HR.out, HN.out]), _, rfl⟩
  obtain ⟨m, m1, m2, m3⟩ := first_stop (doorsP xs.length ds) ds.length
  have HM : Hid (doorsB J xs ds = decide (m = ds.length)) := Lib.hid (by unfold doorsB; rw [hmi, decide_eq_true h8, allUp_stop m1 m2 m3]; rfl)
  have M2 := Lib.hid m2
  have M3 := Lib.hid m3
  clear m2 m3 hmi
  go_enter Tryz.func75, Tryz.ntmps75
  go_wp2_with fail
  refine HM0.out.mono ?_
  rintro e w1 ⟨rfl, n0, rfl⟩
  clear HM0
  go_wp2_with fail
  go_loopw [5] (fun i wr => ∃ q : Nat, q ≤ m ∧ i = .int .i64 q ∧ ∃ n, w.drewN n = wr) (fun i _ => ds.length - (intOf i).toNat)
  case atStart => exact ⟨0, Nat.zero_le _, rfl, _, rfl⟩
  case round =>
    obtain ⟨q, hq, rfl, n, rfl⟩ := hrel
    by_cases hlt : q < ds.length
    · obtain ⟨⟨s, a, u, v⟩, hx⟩ : ∃ x, ds.getD q nDo = x := ⟨_, rfl⟩
      obtain ⟨b, o, rfl, hab, c0, c1, c2', c3⟩ := J0.out.cellsDo hlt hx
      have hs : s.size ≤ maxLen := by have := HL.out q; rw [hx] at this; exact this
      have i0 : (0 : Int) ≤ (q : Int) := by omega
      have i1 : (q : Int) < ds.length := by omega
      have HV := Lib.hid (fun n => l10One_any b (o + q * 4) s a u v (w.drewN n) hs (by simpa using c0) (by simpa using c1) (by simpa using c2') (by simpa using c3))
      have HT : Hid (doorsP xs.length ds q = true → q + 1 ≤ m) := Lib.hid (fun h => by
        rcases Nat.lt_or_ge q m with h' | h'
        · exact h'
        · have e : m = q := by omega
          have := M3.out (by omega)
          rw [e, h] at this; cases this)
      have HFa : Hid (doorsP xs.length ds q = false → decide (m = ds.length) = false) := Lib.hid (fun h => decide_eq_false (by
        intro e
        have := M2.out q (by omega)
        rw [h] at this; cases this))
      have HPq : Hid (doorsP xs.length ds q = (doorB s a u v && (inB a 0 ((xs.length : Int) - 1) && (ordD ds q && allUp (fun k => !((ds.getD k nDo).i0 == a)) q)))) := Lib.hid (by
        unfold doorsP soleD
        rw [hx, take_any ds a q (by omega), Bool.not_not]
        rfl)
      cases p1 : doorB s a u v
      · have HV := Lib.hid (fun n => eqbd (HV.out n) p1)
        have HD := Lib.hid (HFa.out (by rw [HPq.out, p1]; rfl))
        clear p1 hx
        go_wp2
        go_big_quiet ((go_at_call 106; first | (with_reducible exact quiet_d (HV.out _)) | (with_reducible exact quiet_d2 (HV.out _))))
        go_wp2
        go_ret
        exact ⟨ret_bool (by rw [HR.out, HM.out, HD.out]), _, (World.drewN_drewN _ _ _).symm⟩
      have HV := Lib.hid (fun n => eqbd (HV.out n) p1)
      have ha : 0 ≤ a ∧ a ≤ 23 := by
        unfold doorB at p1
        simp only [Bool.and_eq_true] at p1
        exact inB_iff.1 p1.2.1
      obtain ⟨a0, a1⟩ := ha
      cases p2 : inB a 0 ((xs.length : Int) - 1)
      · have hge : decide ((xs.length : Int) ≤ a) = true := decide_eq_true (by have := inB_no.1 p2; omega)
        have HD := Lib.hid (HFa.out (by rw [HPq.out, p1, p2]; rfl))
        clear p1 p2 hx
        go_wp2
        go_big_quiet ((go_at_call 106; first | (with_reducible exact quiet_d (HV.out _)) | (with_reducible exact quiet_d2 (HV.out _))))
        go_wp2
        go_ret
        exact ⟨ret_bool (by rw [HR.out, HM.out, HD.out]), _, (World.drewN_drewN _ _ _).symm⟩
      have hge : decide ((xs.length : Int) ≤ a) = false := decide_eq_false (by have := inB_iff.1 p2; omega)
      rw [p1, p2, Bool.true_and, Bool.true_and] at HPq
      clear p1 p2
      by_cases hq0 : q = 0
      · have hz0 : decide (0 < q) = false := decide_eq_false (by omega)
        rw [show ordD ds q = true by unfold ordD; rw [decide_eq_true hq0]; rfl, Bool.true_and] at HPq
        clear hx hq0
        obtain ⟨t, t1, t2, t3⟩ := first_stop (fun k => !((ds.getD k nDo).i0 == a)) q
        rw [allUp_stop t1 t2 t3] at HPq
        have T2 := Lib.hid t2
        have T3 := Lib.hid t3
        clear t2 t3
        go_wp2
        go_big_quiet ((go_at_call 106; first | (with_reducible exact quiet_d (HV.out _)) | (with_reducible exact quiet_d2 (HV.out _))))
        go_wp2
        go_loopw [6] (fun i wr => ∃ k : Nat, k ≤ t ∧ i = .int .i64 k ∧ ∃ n, w.drewN n = wr) (fun i _ => q - (intOf i).toNat)
        case atStart => exact ⟨0, Nat.zero_le _, rfl, _, (World.drewN_drewN _ _ _).symm⟩
        case round =>
          obtain ⟨k, hk, rfl, n2, rfl⟩ := hrel
          by_cases hkq : k < q
          · obtain ⟨⟨s2, a2, u2, v2⟩, hx2⟩ : ∃ x, ds.getD k nDo = x := ⟨_, rfl⟩
            obtain ⟨b2, o2, hbo2, _, -, d1, -, -⟩ := J0.out.cellsDo (j := k) (by omega) hx2
            cases hbo2
            have k0 : (0 : Int) ≤ (k : Int) := by omega
            have k1 : (k : Int) < ds.length := by omega
            have k2 : (k : Int) < (q : Int) := by omega
            by_cases hkt : k < t
            · have e := T2.out k hkt
              rw [hx2] at e
              have e : (a2 == a) = false := by simpa using e
              clear hx2
              go_wp2
              go_big_quiet (fail)
              go_wp2
              go_roundw
              case rel => exact ⟨k + 1, by omega, by go_num, _, rfl⟩
              case measure => simp [intOf]; omega
            · obtain rfl : t = k := by omega
              have e := T3.out hkq
              rw [hx2] at e
              have e : (a2 == a) = true := by simpa using e
              have HD := Lib.hid (HFa.out (by rw [HPq.out, decide_eq_false (show ¬ t = q by omega)]))
              clear hx2
              go_wp2
              go_big_quiet (fail)
              go_wp2
              go_ret
              exact ⟨ret_bool (by rw [HR.out, HM.out, HD.out]), _, (World.drewN_drewN _ _ _).symm⟩
          · obtain rfl : k = q := by omega
            have HG := Lib.hid (HT.out (by rw [HPq.out, decide_eq_true (show t = k by omega)]))
            go_wp2
            go_roundw
            case rel => exact ⟨k + 1, HG.out, by go_num, _, rfl⟩
            case measure => simp [intOf]; omega
      · obtain ⟨p, hpq⟩ : ∃ p, q = p + 1 := ⟨q - 1, by omega⟩
        have hz0 : decide (0 < q) = true := decide_eq_true (by omega)
        obtain ⟨⟨s', a', u', v'⟩, hx'⟩ : ∃ x, ds.getD p nDo = x := ⟨_, rfl⟩
        obtain ⟨b', o', hbo, _, d0, -⟩ := J0.out.cellsDo (j := p) (by omega) hx'
        cases hbo
        have hs : ordD ds q = Op.bytesLess s'.toList s.toList := by rw [hpq, ordD_succ, ← hpq, hx, hx']
        rw [hs] at HPq
        have w0 : (0 : Int) ≤ (p : Int) := by omega
        have w1 : (p : Int) < ds.length := by omega
        have hw : IntKind.i64.wrap ((q : Int) - 1) = (p : Int) := by rw [IntWalk.i64_in _ (by omega)]; omega
        clear hx hx' hpq hq0 hs
        cases p3 : Op.bytesLess s'.toList s.toList
        · have HD := Lib.hid (HFa.out (by rw [HPq.out, p3]; rfl))
          go_wp2
          go_big_quiet ((go_at_call 106; first | (with_reducible exact quiet_d (HV.out _)) | (with_reducible exact quiet_d2 (HV.out _))))
          clear hw
          go_wp2
          go_ret
          exact ⟨ret_bool (by rw [HR.out, HM.out, HD.out]), _, (World.drewN_drewN _ _ _).symm⟩
        · rw [p3, Bool.true_and] at HPq
          obtain ⟨t, t1, t2, t3⟩ := first_stop (fun k => !((ds.getD k nDo).i0 == a)) q
          rw [allUp_stop t1 t2 t3] at HPq
          have T2 := Lib.hid t2
          have T3 := Lib.hid t3
          clear t2 t3
          go_wp2
          go_big_quiet ((go_at_call 106; first | (with_reducible exact quiet_d (HV.out _)) | (with_reducible exact quiet_d2 (HV.out _))))
          clear hw
          go_wp2
          go_loopw [6] (fun i wr => ∃ k : Nat, k ≤ t ∧ i = .int .i64 k ∧ ∃ n, w.drewN n = wr) (fun i _ => q - (intOf i).toNat)
          case atStart => exact ⟨0, Nat.zero_le _, rfl, _, (World.drewN_drewN _ _ _).symm⟩
          case round =>
            obtain ⟨k, hk, rfl, n2, rfl⟩ := hrel
            by_cases hkq : k < q
            · obtain ⟨⟨s2, a2, u2, v2⟩, hx2⟩ : ∃ x, ds.getD k nDo = x := ⟨_, rfl⟩
              obtain ⟨b2, o2, hbo2, _, -, d1, -, -⟩ := J0.out.cellsDo (j := k) (by omega) hx2
              cases hbo2
              have k0 : (0 : Int) ≤ (k : Int) := by omega
              have k1 : (k : Int) < ds.length := by omega
              have k2 : (k : Int) < (q : Int) := by omega
              by_cases hkt : k < t
              · have e := T2.out k hkt
                rw [hx2] at e
                have e : (a2 == a) = false := by simpa using e
                clear hx2
                go_wp2
                go_big_quiet (fail)
                go_wp2
                go_roundw
                case rel => exact ⟨k + 1, by omega, by go_num, _, rfl⟩
                case measure => simp [intOf]; omega
              · obtain rfl : t = k := by omega
                have e := T3.out hkq
                rw [hx2] at e
                have e : (a2 == a) = true := by simpa using e
                have HD := Lib.hid (HFa.out (by rw [HPq.out, decide_eq_false (show ¬ t = q by omega)]))
                clear hx2
                go_wp2
                go_big_quiet (fail)
                go_wp2
                go_ret
                exact ⟨ret_bool (by rw [HR.out, HM.out, HD.out]), _, (World.drewN_drewN _ _ _).symm⟩
            · obtain rfl : k = q := by omega
              have HG := Lib.hid (HT.out (by rw [HPq.out, decide_eq_true (show t = k by omega)]))
              go_wp2
              go_roundw
              case rel => exact ⟨k + 1, HG.out, by go_num, _, rfl⟩
              case measure => simp [intOf]; omega
    · have HD := Lib.hid (decide_eq_true (show m = ds.length by omega))
      go_wp2
      go_ret
      exact ⟨ret_bool (by rw [HR.out, HM.out, HD.out]), _, rfl⟩
end Go.Proofs.YtejkoicgbgoiaaaGreat

/- Plants: when one is valid, by the program and by the reference. Conditions: the facts on memory and on lengths that each theorem names. Printed by gen_plantv.py. -/
namespace Go.Proofs.YtejkoicgbgoiaaaGreat
open Go.RowKit
open Pl
noncomputable def plantB (p : Pt) : Bool := doorsB p.J p.xs p.ds && (locksB (p.ds.length : Int) p.ls && (fansB p.fs && (hasFB p.xs.length p.fs && ((decide ((p.dr.length : Int) = p.xs.length) && allIn p.dr (-100000) 100000) && inB p.tol 0 100000))))
theorem fansB_aw {fs : List Fa} (h : fansB fs = true) : ∀ x ∈ fs, 0 ≤ x.aw := by
  intro x hx
  obtain ⟨k, hk, rfl⟩ := List.getElem_of_mem hx
  unfold fansB at h
  rw [Bool.and_eq_true, allUp_iff] at h
  have h1 := h.2 k hk
  unfold fansP at h1
  rw [Bool.and_eq_true, getD_fa hk] at h1
  have h2 := h1.1
  unfold fanB at h2
  simp only [Bool.and_eq_true] at h2
  exact (inB_iff.1 h2.2.1).1
set_option maxRecDepth 100000 in
set_option maxHeartbeats 1600000 in
theorem ValidPlant_i (v : Value) (p : Pt) (w : World) (hf : PtFits p) (hl : PtLen p) (hcap : CapOk v) (hI : PlantIs w.heap.size w v p) :
    Calls Tryz.prog 55 #[v] w fun e w' => e = .returned (.bool (plantB p)) ∧ Below w.heap.size w w' := by
  obtain ⟨A1, k1, A2, k2, A3, k3, A4, k4, A5, k5, rfl, i1, i2, i3, i4, i5⟩ := hI
  obtain ⟨l1, l2, l3, l3', l4, l4', l5⟩ := hl
  obtain ⟨f1, f1', f2, f2', f3, f3', f4', f4, f5', f5, -, -⟩ := hf
  obtain ⟨J, xs, ds, ls, fs, dr, tol⟩ := p
  have hc2 : ds.length ≤ k2 := hcap _ _ _ _ _ _ _ _ _ rfl
  dsimp only at *
  have HP : Hid (plantB ⟨J, xs, ds, ls, fs, dr, tol⟩ = (doorsB J xs ds && (locksB (ds.length : Int) ls && (fansB fs && (hasFB xs.length fs && ((decide ((dr.length : Int) = xs.length) && allIn dr (-100000) 100000) && inB tol 0 100000)))))) := Lib.hid rfl
  have C1 := Lib.hid (fun W (hb : Below w.heap.size w W) => ValidDoors_i J A1 k1 xs A2 k2 ds w.heap.size W (by omega) hc2 f1 f2 (i1.below hb) (i2.below hb) hb.size)
  have C2 := Lib.hid (fun W (hb : Below w.heap.size w W) => dB (ValidLocks_any (ds.length : Int) A3 k3 ls w.heap.size W (by omega) (i3.below hb)))
  have C3 := Lib.hid (fun W (hb : Below w.heap.size w W) => ValidFans_i A4 k4 fs w.heap.size W (by omega) f4 l4' (i4.below hb) hb.size)
  have C4 := Lib.hid (fun W (hb : Below w.heap.size w W) => hasFans_any J A1 k1 xs.length A4 k4 fs w.heap.size W (by omega) (by omega) (i4.below hb) hb.size)
  have C5 := Lib.hid (fun W (hb : Below w.heap.size w W) => hasList_any J A1 k1 xs A5 k5 dr (-100000) 100000 w.heap.size W (by omega) (by omega) (i5.below hb) hb.size f5)
  have C6 := Lib.hid (fun W => sB (within_any tol 0 100000 W))
  clear i1 i2 i3 i4 i5 f1 f1' f2 f2' f3 f3' f4' f4 f5' f5 l4' l3' hcap
  generalize plantB ⟨J, xs, ds, ls, fs, dr, tol⟩ = R at *
  generalize doorsB J xs ds = b1 at *
  generalize locksB (ds.length : Int) ls = b2 at *
  generalize fansB fs = b3 at *
  generalize hasFB xs.length fs = b4 at *
  generalize (decide ((dr.length : Int) = xs.length) && allIn dr (-100000) 100000) = b5 at *
  generalize inB tol 0 100000 = b6 at *
  have be0 : Below w.heap.size w (w.alloc (.cells #[.int .i64 J, .slice A1 xs.length k1, .slice A2 ds.length k2, .slice A3 ls.length k3, .slice A4 fs.length k4, .slice A5 dr.length k5, .int .i64 tol] 57)) := by go_grown
  have hbx : Bx (w.alloc (.cells #[.int .i64 J, .slice A1 xs.length k1, .slice A2 ds.length k2, .slice A3 ls.length k3, .slice A4 fs.length k4, .slice A5 dr.length k5, .int .i64 tol] 57)) w.heap.size [.int .i64 J, .slice A1 xs.length k1, .slice A2 ds.length k2, .slice A3 ls.length k3, .slice A4 fs.length k4, .slice A5 dr.length k5, .int .i64 tol] := bx7_of (by go_simp) (by go_simp) (by go_simp) (by go_simp) (by go_simp) (by go_simp) (by go_simp) (fun j => by go_simp)
  have szg0 : w.heap.size < ((w.alloc (.cells #[.int .i64 J, .slice A1 xs.length k1, .slice A2 ds.length k2, .slice A3 ls.length k3, .slice A4 fs.length k4, .slice A5 dr.length k5, .int .i64 tol] 57))).heap.size := by simp
  have HB0 := Lib.hid hbx
  clear hbx
  go_enter Tryz.func55, Tryz.ntmps55
  go_wp2_with fail
  generalize (w.alloc (.cells #[.int .i64 J, .slice A1 xs.length k1, .slice A2 ds.length k2, .slice A3 ls.length k3, .slice A4 fs.length k4, .slice A5 dr.length k5, .int .i64 tol] 57)) = w0 at *
  refine (C1.out _ be0).mono ?_
  rintro e w1 ⟨rfl, hb1⟩
  have HB1 := Lib.hid (HB0.out.below hb1 szg0)
  have be1 := be0.trans (hb1.mono be0.size)
  have szg1 : w.heap.size < w1.heap.size := Nat.lt_of_lt_of_le szg0 hb1.size
  cases b1
  · go_wp2_with fail
    go_ret
    exact ⟨ret_bool (by rw [HP.out]; rfl), be1⟩
  obtain ⟨⟨p0, p1, p2, p3, p4, p5, p6⟩, ⟨pf0, pf1, pf2, pf3, pf4, pf5, pf6⟩⟩ := bx7 HB1.out
  go_wp2_with fail
  clear p0 pf0 p1 pf1 p2 pf2 p3 pf3 p4 pf4 p5 pf5 p6 pf6
  refine (C2.out _ be1).mono ?_
  rintro e w2 ⟨rfl, hb2⟩
  have HB2 := Lib.hid (HB1.out.below hb2 szg1)
  have be2 := be1.trans (hb2.mono be1.size)
  have szg2 : w.heap.size < w2.heap.size := Nat.lt_of_lt_of_le szg1 hb2.size
  cases b2
  · go_wp2_with fail
    go_ret
    exact ⟨ret_bool (by rw [HP.out]; rfl), be2⟩
  obtain ⟨⟨p0, p1, p2, p3, p4, p5, p6⟩, ⟨pf0, pf1, pf2, pf3, pf4, pf5, pf6⟩⟩ := bx7 HB2.out
  go_wp2_with fail
  clear p0 pf0 p1 pf1 p2 pf2 p3 pf3 p4 pf4 p5 pf5 p6 pf6
  refine (C3.out _ be2).mono ?_
  rintro e w3 ⟨rfl, hb3⟩
  have HB3 := Lib.hid (HB2.out.below hb3 szg2)
  have be3 := be2.trans (hb3.mono be2.size)
  have szg3 : w.heap.size < w3.heap.size := Nat.lt_of_lt_of_le szg2 hb3.size
  cases b3
  · go_wp2_with fail
    go_ret
    exact ⟨ret_bool (by rw [HP.out]; rfl), be3⟩
  obtain ⟨⟨p0, p1, p2, p3, p4, p5, p6⟩, ⟨pf0, pf1, pf2, pf3, pf4, pf5, pf6⟩⟩ := bx7 HB3.out
  go_wp2_with fail
  clear p0 pf0 p1 pf1 p2 pf2 p3 pf3 p4 pf4 p5 pf5 p6 pf6
  refine (C4.out _ be3).mono ?_
  rintro e w4 ⟨rfl, hb4⟩
  have HB4 := Lib.hid (HB3.out.below hb4 szg3)
  have be4 := be3.trans (hb4.mono be3.size)
  have szg4 : w.heap.size < w4.heap.size := Nat.lt_of_lt_of_le szg3 hb4.size
  cases b4
  · go_wp2_with fail
    go_ret
    exact ⟨ret_bool (by rw [HP.out]; rfl), be4⟩
  obtain ⟨⟨p0, p1, p2, p3, p4, p5, p6⟩, ⟨pf0, pf1, pf2, pf3, pf4, pf5, pf6⟩⟩ := bx7 HB4.out
  go_wp2_with fail
  clear p0 pf0 p1 pf1 p2 pf2 p3 pf3 p4 pf4 p5 pf5 p6 pf6
  refine (C5.out _ be4).mono ?_
  rintro e w5 ⟨rfl, hb5⟩
  have HB5 := Lib.hid (HB4.out.below hb5 szg4)
  have be5 := be4.trans (hb5.mono be4.size)
  have szg5 : w.heap.size < w5.heap.size := Nat.lt_of_lt_of_le szg4 hb5.size
  cases b5
  · go_wp2_with fail
    go_ret
    exact ⟨ret_bool (by rw [HP.out]; rfl), be5⟩
  obtain ⟨⟨p0, p1, p2, p3, p4, p5, p6⟩, ⟨pf0, pf1, pf2, pf3, pf4, pf5, pf6⟩⟩ := bx7 HB5.out
  go_wp2_with fail
  clear p0 pf0 p1 pf1 p2 pf2 p3 pf3 p4 pf4 p5 pf5 p6 pf6
  refine (C6.out _).mono ?_
  rintro e w6 ⟨rfl, hb6⟩
  have HB6 := Lib.hid (HB5.out.below hb6 szg5)
  have be6 := be5.trans (hb6.mono be5.size)
  have szg6 : w.heap.size < w6.heap.size := Nat.lt_of_lt_of_le szg5 hb6.size
  go_wp2_with fail
  go_ret
  exact ⟨ret_bool (by rw [HP.out]; rfl), be6⟩
set_option maxRecDepth 100000 in
set_option maxHeartbeats 3200000 in
theorem l21Ok_any (b : Nat) (A1 A2 A3 A4 A5 : Option Addr) (k1 k2 k3 k4 k5 : Nat) (p : Pt) (B : Nat) (w : World) (hf : PtFits p) (hl : PtLen p) (i1 : Recs encA 7 B w A1 p.xs) (i2 : Recs encDo 4 B w A2 p.ds) (i3 : Nest B w A3 p.ls) (i4 : Fns B w A4 p.fs) (i5 : Ints B w A5 p.dr)
    (p0 : w.cell? ⟨b, 0, none⟩ = some (.int .i64 p.J)) (p1 : w.cell? ⟨b, 1, none⟩ = some (.slice A1 p.xs.length k1)) (p2 : w.cell? ⟨b, 2, none⟩ = some (.slice A2 p.ds.length k2)) (p3 : w.cell? ⟨b, 3, none⟩ = some (.slice A3 p.ls.length k3)) (p4 : w.cell? ⟨b, 4, none⟩ = some (.slice A4 p.fs.length k4)) (p5 : w.cell? ⟨b, 5, none⟩ = some (.slice A5 p.dr.length k5)) (p6 : w.cell? ⟨b, 6, none⟩ = some (.int .i64 p.tol)) :
    Calls Tryz.prog 51 #[.pointer (some ⟨b, 0, none⟩)] w fun e w' => e = .returned (.bool (plantB p)) ∧ ∃ n, w.drewN n = w' := by
  obtain ⟨l1, l2, l3, l3', l4, l4', l5⟩ := hl
  obtain ⟨f1, f1', f2, f2', f3, f3', f4', f4, f5', f5, -, -⟩ := hf
  obtain ⟨J, xs, ds, ls, fs, dr, tol⟩ := p
  dsimp only at *
  have HP : Hid (plantB ⟨J, xs, ds, ls, fs, dr, tol⟩ = (doorsB J xs ds && (locksB (ds.length : Int) ls && (fansB fs && (hasFB xs.length fs && ((decide ((dr.length : Int) = xs.length) && allIn dr (-100000) 100000) && inB tol 0 100000)))))) := Lib.hid rfl
  have C1 := Lib.hid (fun n => l10Ok_any b 0 J A1 k1 xs A2 k2 ds B (w.drewN n) (by omega) (by omega) f1 f2 (i1.below (below_drewN (Below.refl _ _) n)) (i2.below (below_drewN (Below.refl _ _) n)) (by simpa using p0) (by simpa using p1))
  have C2 := Lib.hid (fun n => l10Locks_any (ds.length : Int) A3 k3 ls B (w.drewN n) (by omega) (i3.below (below_drewN (Below.refl _ _) n)))
  have C3 := Lib.hid (fun n => l06List_any A4 k4 fs B (w.drewN n) (by omega) f4 l4' (i4.below (below_drewN (Below.refl _ _) n)))
  have C4 := Lib.hid (fun (h : fansB fs = true) n => l07Fans_any b 0 A1 k1 xs.length A4 k4 fs B (w.drewN n) (by omega) (fansB_aw h) (by omega) (i4.below (below_drewN (Below.refl _ _) n)) (by simpa using p1))
  have C5 := Lib.hid (fun n => l07Pressures_any b 0 A1 k1 xs.length A5 k5 dr B (w.drewN n) (by omega) (by omega) (i5.below (below_drewN (Below.refl _ _) n)) (by simpa using p1))
  have C6 := Lib.hid (fun W => l00In_any tol 0 100000 W)
  clear i1 i2 i3 i4 i5 f1 f1' f2 f2' f3 f3' f4' f4 f5' f5 l4' l3'
  generalize plantB ⟨J, xs, ds, ls, fs, dr, tol⟩ = R at *
  generalize doorsB J xs ds = b1 at *
  generalize locksB (ds.length : Int) ls = b2 at *
  generalize fansB fs = b3 at *
  generalize hasFB xs.length fs = b4 at *
  generalize (decide ((dr.length : Int) = xs.length) && allIn dr (-100000) 100000) = b5 at *
  generalize inB tol 0 100000 = b6 at *
  cases b1
  · go_enter Tryz.func51, Tryz.ntmps51
    go_wp2
    go_big_quiet (first | (go_at_call 75; first | (with_reducible exact quiet_d (C1.out _)) | (with_reducible exact quiet_d2 (C1.out _))) | (go_at_call 76; first | (with_reducible exact quiet_d (C2.out _)) | (with_reducible exact quiet_d2 (C2.out _))) | (go_at_call 77; first | (with_reducible exact quiet_d (C3.out _)) | (with_reducible exact quiet_d2 (C3.out _))))
    go_wp2
    go_ret
    exact ⟨ret_bool (by rw [HP.out]; rfl), _, rfl⟩
  cases b2
  · go_enter Tryz.func51, Tryz.ntmps51
    go_wp2
    go_big_quiet (first | (go_at_call 75; first | (with_reducible exact quiet_d (C1.out _)) | (with_reducible exact quiet_d2 (C1.out _))) | (go_at_call 76; first | (with_reducible exact quiet_d (C2.out _)) | (with_reducible exact quiet_d2 (C2.out _))) | (go_at_call 77; first | (with_reducible exact quiet_d (C3.out _)) | (with_reducible exact quiet_d2 (C3.out _))))
    go_wp2
    go_ret
    exact ⟨ret_bool (by rw [HP.out]; rfl), _, rfl⟩
  cases b3
  · go_enter Tryz.func51, Tryz.ntmps51
    go_wp2
    go_big_quiet (first | (go_at_call 75; first | (with_reducible exact quiet_d (C1.out _)) | (with_reducible exact quiet_d2 (C1.out _))) | (go_at_call 76; first | (with_reducible exact quiet_d (C2.out _)) | (with_reducible exact quiet_d2 (C2.out _))) | (go_at_call 77; first | (with_reducible exact quiet_d (C3.out _)) | (with_reducible exact quiet_d2 (C3.out _))))
    go_wp2
    go_ret
    exact ⟨ret_bool (by rw [HP.out]; rfl), _, rfl⟩
  have D4 := Lib.hid (C4.out rfl)
  clear C4
  cases b4
  · go_enter Tryz.func51, Tryz.ntmps51
    go_wp2
    go_big_quiet (first | (go_at_call 75; first | (with_reducible exact quiet_d (C1.out _)) | (with_reducible exact quiet_d2 (C1.out _))) | (go_at_call 76; first | (with_reducible exact quiet_d (C2.out _)) | (with_reducible exact quiet_d2 (C2.out _))) | (go_at_call 77; first | (with_reducible exact quiet_d (C3.out _)) | (with_reducible exact quiet_d2 (C3.out _))))
    go_wp2
    go_big_quiet (first | (go_at_call 78; first | (with_reducible exact quiet_d (D4.out _)) | (with_reducible exact quiet_d2 (D4.out _))) | (go_at_call 79; first | (with_reducible exact quiet_d (C5.out _)) | (with_reducible exact quiet_d2 (C5.out _))) | (go_at_call 67; first | (with_reducible exact quiet_s (C6.out _)) | (with_reducible exact quiet_s2 (C6.out _))))
    go_wp2
    go_ret
    exact ⟨ret_bool (by rw [HP.out]; rfl), _, (World.drewN_drewN _ _ _).symm⟩
  cases b5
  · go_enter Tryz.func51, Tryz.ntmps51
    go_wp2
    go_big_quiet (first | (go_at_call 75; first | (with_reducible exact quiet_d (C1.out _)) | (with_reducible exact quiet_d2 (C1.out _))) | (go_at_call 76; first | (with_reducible exact quiet_d (C2.out _)) | (with_reducible exact quiet_d2 (C2.out _))) | (go_at_call 77; first | (with_reducible exact quiet_d (C3.out _)) | (with_reducible exact quiet_d2 (C3.out _))))
    go_wp2
    go_big_quiet (first | (go_at_call 78; first | (with_reducible exact quiet_d (D4.out _)) | (with_reducible exact quiet_d2 (D4.out _))) | (go_at_call 79; first | (with_reducible exact quiet_d (C5.out _)) | (with_reducible exact quiet_d2 (C5.out _))) | (go_at_call 67; first | (with_reducible exact quiet_s (C6.out _)) | (with_reducible exact quiet_s2 (C6.out _))))
    go_wp2
    go_ret
    exact ⟨ret_bool (by rw [HP.out]; rfl), _, (World.drewN_drewN _ _ _).symm⟩
  go_enter Tryz.func51, Tryz.ntmps51
  go_wp2
  go_big_quiet (first | (go_at_call 75; first | (with_reducible exact quiet_d (C1.out _)) | (with_reducible exact quiet_d2 (C1.out _))) | (go_at_call 76; first | (with_reducible exact quiet_d (C2.out _)) | (with_reducible exact quiet_d2 (C2.out _))) | (go_at_call 77; first | (with_reducible exact quiet_d (C3.out _)) | (with_reducible exact quiet_d2 (C3.out _))))
  go_wp2
  go_big_quiet (first | (go_at_call 78; first | (with_reducible exact quiet_d (D4.out _)) | (with_reducible exact quiet_d2 (D4.out _))) | (go_at_call 79; first | (with_reducible exact quiet_d (C5.out _)) | (with_reducible exact quiet_d2 (C5.out _))) | (go_at_call 67; first | (with_reducible exact quiet_s (C6.out _)) | (with_reducible exact quiet_s2 (C6.out _))))
  go_wp2
  go_ret
  exact ⟨ret_bool (by rw [HP.out]; rfl), _, (World.drewN_drewN _ _ _).symm⟩
end Go.Proofs.YtejkoicgbgoiaaaGreat

/- Doors: the resistances of airways, and with doors, in plain words; flows with the states of doors. Conditions: the bounds that each theorem names. -/
namespace Go.Proofs.YtejkoicgbgoiaaaGreat
open Go.RowKit
open Pl
noncomputable def rawV (l c r k : Int) : Int := mx 1 (divR (r * (l + k) * rootF (c * 10000) * 400000) (c * c * c))
noncomputable def rawA (x : Aw) : Int := rawV x.l x.c x.r x.k
noncomputable def rawL (xs : List Aw) : List Int := xs.map rawA
theorem raw_bd {l c r k : Int} (hl : 1 ≤ l ∧ l ≤ 10000) (hc : 50 ≤ c ∧ c ≤ 5000) (hr : 1 ≤ r ∧ r ≤ 1000) (hk : 0 ≤ k ∧ k ≤ 1000) :
    (0 ≤ r * (l + k) ∧ r * (l + k) ≤ 11000000) ∧ (0 ≤ rootF (c * 10000) ∧ rootF (c * 10000) ≤ 7072) ∧ (0 ≤ r * (l + k) * rootF (c * 10000) ∧ r * (l + k) * rootF (c * 10000) ≤ 77792000000) ∧ (2500 ≤ c * c ∧ c * c ≤ 25000000) ∧ (125000 ≤ c * c * c ∧ c * c * c ≤ 125000000000) := by
  have a1 := mul_le (a := r) (b := l + k) (A := 1000) (B := 11000) (by omega) (by omega) (by omega) (by omega)
  have a2 := mul_ge (a := r) (b := l + k) (by omega) (by omega)
  have b0 : rootN (c * 10000).toNat ≤ 7072 := rootN_le (by omega)
  have b1 : 0 ≤ rootF (c * 10000) ∧ rootF (c * 10000) ≤ 7072 := by unfold rootF; omega
  have c1 := mul_le (a := r * (l + k)) (b := rootF (c * 10000)) (A := 11000000) (B := 7072) a2 (by omega) b1.1 b1.2
  have c2 := mul_ge (a := r * (l + k)) (b := rootF (c * 10000)) a2 b1.1
  have d1 := mul_le (a := c) (b := c) (A := 5000) (B := 5000) (by omega) (by omega) (by omega) (by omega)
  have d2 := mul_le (a := 50) (b := 50) (A := c) (B := c) (by omega) (by omega) (by omega) (by omega)
  have e1 := mul_le (a := c * c) (b := c) (A := 25000000) (B := 5000) (by omega) (by omega) (by omega) (by omega)
  have e2 := mul_le (a := 2500) (b := 50) (A := c * c) (B := c) (by omega) (by omega) (by omega) (by omega)
  exact ⟨⟨a2, by omega⟩, b1, ⟨c2, by omega⟩, ⟨by omega, by omega⟩, ⟨by omega, by omega⟩⟩
theorem rawV_bd {l c r k : Int} (hl : 1 ≤ l ∧ l ≤ 10000) (hc : 50 ≤ c ∧ c ≤ 5000) (hr : 1 ≤ r ∧ r ≤ 1000) (hk : 0 ≤ k ∧ k ≤ 1000) : 1 ≤ rawV l c r k ∧ rawV l c r k ≤ 31116800000000000 := by
  obtain ⟨_, _, c1, _, e1⟩ := raw_bd hl hc hr hk
  unfold rawV
  generalize r * (l + k) * rootF (c * 10000) = p at *
  generalize c * c * c = q at *
  have h := divR_le (a := p * 400000) (b := q) (c := 31116800000000000) (by omega) (by omega) (by omega)
  have h1 := mx_ge_left 1 (divR (p * 400000) q)
  rcases mx_or 1 (divR (p * 400000) q) with e | e <;> rw [e] at h1 ⊢ <;> omega
theorem rawL_length (xs : List Aw) : (rawL xs).length = xs.length := by simp [rawL]
theorem rawL_get {xs : List Aw} {k : Nat} (hk : k < xs.length) : (rawL xs).getD k 0 = rawA (xs.getD k aNone) := by simp [rawL, List.getD, hk]
theorem air_bd {J : Int} {xs : List Aw} (h : mineB J xs = true) {k : Nat} (hk : k < xs.length) {s : ByteArray} {f t l c r q : Int} (hx : xs.getD k aNone = ⟨s, f, t, l, c, r, q⟩) : (1 ≤ l ∧ l ≤ 10000) ∧ (50 ≤ c ∧ c ≤ 5000) ∧ (1 ≤ r ∧ r ≤ 1000) ∧ (0 ≤ q ∧ q ≤ 1000) := by
  obtain ⟨_, _, h3⟩ := mineB_bd h
  have h4 := (h3 k hk).1
  rw [hx] at h4
  obtain ⟨_, _, _, h5, h6, h7, h8⟩ := airwayB_bd h4
  exact ⟨h5, h6, h7, h8⟩
theorem rawL_bd {J : Int} {xs : List Aw} (h : mineB J xs = true) {k : Nat} (hk : k < xs.length) : 1 ≤ (rawL xs).getD k 0 ∧ (rawL xs).getD k 0 ≤ 31116800000000000 := by
  obtain ⟨⟨s, f, t, l, c, r, q⟩, hx⟩ : ∃ x, xs.getD k aNone = x := ⟨_, rfl⟩
  obtain ⟨h1, h2, h3, h4⟩ := air_bd h hk hx
  rw [rawL_get hk, hx]
  exact rawV_bd h1 h2 h3 h4
theorem rawL_fits {J : Int} {xs : List Aw} (h : mineB J xs = true) : Fits (rawL xs) := by
  intro x hx
  obtain ⟨k, hk, rfl⟩ := List.getElem_of_mem hx
  have hk' : k < xs.length := by rw [rawL_length] at hk; exact hk
  have h1 := rawL_bd h hk'
  rw [getD_pt hk] at h1
  omega
/-! ### Doors -/
def doorV (ss : List Bool) (d : Do) (k : Nat) : Int := if ss.getD k false = true then d.i1 else d.i2
def doorK (ds : List Do) (ss : List Bool) (l : List Int) : Nat → List Int
  | 0 => l
  | k + 1 => (doorK ds ss l k).set (ds.getD k nDo).i0.toNat ((doorK ds ss l k).getD (ds.getD k nDo).i0.toNat 0 + doorV ss (ds.getD k nDo) k)
def sumK (ds : List Do) (ss : List Bool) (a : Nat) (r : Int) : Nat → Int
  | 0 => r
  | k + 1 => if (ds.getD k nDo).i0 = (a : Int) then sumK ds ss a r k + doorV ss (ds.getD k nDo) k else sumK ds ss a r k
theorem doorK_length (ds : List Do) (ss : List Bool) (l : List Int) : ∀ k, (doorK ds ss l k).length = l.length
  | 0 => rfl
  | k + 1 => by unfold doorK; rw [List.length_set]; exact doorK_length ds ss l k
structure DoorsOk (n : Nat) (ds : List Do) : Prop where
  few : ds.length ≤ 8
  air : ∀ k, k < ds.length → ∃ a : Nat, (ds.getD k nDo).i0 = (a : Int) ∧ a < n
  opn : ∀ k, k < ds.length → 1 ≤ (ds.getD k nDo).i1 ∧ (ds.getD k nDo).i1 ≤ 1000000
  sht : ∀ k, k < ds.length → 1 ≤ (ds.getD k nDo).i2 ∧ (ds.getD k nDo).i2 ≤ 1000000
theorem doors_ok {J : Int} {xs : List Aw} {ds : List Do} (h : doorsB J xs ds = true) : mineB J xs = true ∧ DoorsOk xs.length ds := by
  unfold doorsB at h
  simp only [Bool.and_eq_true, decide_eq_true_eq, allUp_iff] at h
  obtain ⟨h1, h2, h3⟩ := h
  have key : ∀ k, k < ds.length → (∃ a : Nat, (ds.getD k nDo).i0 = (a : Int) ∧ a < xs.length) ∧ (1 ≤ (ds.getD k nDo).i1 ∧ (ds.getD k nDo).i1 ≤ 1000000) ∧ 1 ≤ (ds.getD k nDo).i2 ∧ (ds.getD k nDo).i2 ≤ 1000000 := fun k hk => by
    have h4 := h3 k hk
    unfold doorsP dOkB doorB at h4
    simp only [Bool.and_eq_true] at h4
    obtain ⟨⟨_, _, g1, g2⟩, g3, _⟩ := h4
    have g1 := inB_iff.1 g1
    have g2 := inB_iff.1 g2
    have g3 := inB_iff.1 g3
    exact ⟨⟨(ds.getD k nDo).i0.toNat, by omega, by omega⟩, ⟨by omega, by omega⟩, by omega, by omega⟩
  exact ⟨h1, by omega, fun k hk => (key k hk).1, fun k hk => (key k hk).2.1, fun k hk => (key k hk).2.2⟩
theorem DoorsOk.val {n : Nat} {ds : List Do} (h : DoorsOk n ds) (ss : List Bool) {k : Nat} (hk : k < ds.length) : 1 ≤ doorV ss (ds.getD k nDo) k ∧ doorV ss (ds.getD k nDo) k ≤ 1000000 := by
  have := h.opn k hk
  have := h.sht k hk
  unfold doorV
  split <;> omega
theorem doorK_get {n : Nat} {ds : List Do} {ss : List Bool} {l : List Int} (hd : DoorsOk n ds) (hl : l.length = n) {a : Nat} : ∀ k, k ≤ ds.length → (doorK ds ss l k).getD a 0 = sumK ds ss a (l.getD a 0) k
  | 0, _ => rfl
  | k + 1, hk => by
    obtain ⟨b, hb, hbn⟩ := hd.air k (by omega)
    have ih := doorK_get (ss := ss) hd hl (a := a) k (by omega)
    have e : doorK ds ss l (k + 1) = (doorK ds ss l k).set (ds.getD k nDo).i0.toNat ((doorK ds ss l k).getD (ds.getD k nDo).i0.toNat 0 + doorV ss (ds.getD k nDo) k) := rfl
    have e2 : sumK ds ss a (l.getD a 0) (k + 1) = if (ds.getD k nDo).i0 = (a : Int) then sumK ds ss a (l.getD a 0) k + doorV ss (ds.getD k nDo) k else sumK ds ss a (l.getD a 0) k := rfl
    rw [e, e2, hb, Int.toNat_natCast, getD_set _ _ _ _ (by rw [doorK_length]; omega)]
    by_cases h : a = b
    · subst h; rw [if_pos rfl, if_pos rfl, ih]
    · rw [if_neg h, if_neg (by omega), ih]
theorem sumK_bd {n : Nat} {ds : List Do} (ss : List Bool) (hd : DoorsOk n ds) (a : Nat) (r : Int) : ∀ k, k ≤ ds.length → r ≤ sumK ds ss a r k ∧ sumK ds ss a r k ≤ r + 1000000 * (k : Int)
  | 0, _ => by unfold sumK; omega
  | k + 1, hk => by
    have ih := sumK_bd ss hd a r k (by omega)
    have hv := hd.val ss (k := k) (by omega)
    unfold sumK
    split <;> omega
/-- The resistances, and a code. -/
noncomputable def resF (xs : List Aw) : List Int × Int := if allIn (rawL xs) 1 1000000 = true then (rawL xs, 0) else ([], 6)
noncomputable def openF (xs : List Aw) (ds : List Do) (ss : List Bool) : List Int × Int :=
  if allIn (rawL xs) 1 1000000 = true then
    if allIn (doorK ds ss (rawL xs) ds.length) 1 1000000 = true then (doorK ds ss (rawL xs) ds.length, 0) else ([], 6)
  else ([], 6)
theorem allIn_D {xs : List Int} {lo hi : Int} : allIn xs lo hi = true ↔ ∀ k, k < xs.length → lo ≤ xs.getD k 0 ∧ xs.getD k 0 ≤ hi := by
  rw [allIn_up, allUp_iff]
  exact ⟨fun h k hk => inB_iff.1 (h k hk), fun h k hk => inB_iff.2 (h k hk)⟩
theorem openF_yes {J : Int} {xs : List Aw} {ds : List Do} {ss : List Bool} (h : doorsB J xs ds = true) (hs : ∀ a, a < xs.length → sumK ds ss a ((rawL xs).getD a 0) ds.length ≤ 1000000) : openF xs ds ss = (doorK ds ss (rawL xs) ds.length, 0) := by
  obtain ⟨hm, hd⟩ := doors_ok h
  have k1 : allIn (rawL xs) 1 1000000 = true := allIn_D.2 fun k hk => by
    rw [rawL_length] at hk
    have := hs k hk
    have := (sumK_bd ss hd k ((rawL xs).getD k 0) ds.length (Nat.le_refl _)).1
    have := rawL_bd hm hk
    omega
  have k2 : allIn (doorK ds ss (rawL xs) ds.length) 1 1000000 = true := allIn_D.2 fun k hk => by
    rw [doorK_length, rawL_length] at hk
    rw [doorK_get hd (rawL_length _) _ (Nat.le_refl _)]
    have := hs k hk
    have := (sumK_bd ss hd k ((rawL xs).getD k 0) ds.length (Nat.le_refl _)).1
    have := rawL_bd hm hk
    omega
  unfold openF
  rw [if_pos k1, if_pos k2]
theorem openF_no {J : Int} {xs : List Aw} {ds : List Do} {ss : List Bool} (h : doorsB J xs ds = true) {a : Nat} (ha : a < xs.length) (hs : 1000000 < sumK ds ss a ((rawL xs).getD a 0) ds.length) : openF xs ds ss = ([], 6) := by
  obtain ⟨hm, hd⟩ := doors_ok h
  have k2 : ¬ allIn (doorK ds ss (rawL xs) ds.length) 1 1000000 = true := fun e => by
    have := allIn_D.1 e a (by rw [doorK_length, rawL_length]; exact ha)
    rw [doorK_get hd (rawL_length _) _ (Nat.le_refl _)] at this
    omega
  unfold openF
  rw [if_neg k2]
  split <;> rfl
theorem openF_ok {xs : List Aw} {ds : List Do} {ss : List Bool} (h : (openF xs ds ss).2 = 0) : (openF xs ds ss).1.length = xs.length ∧ ∀ i, i < xs.length → 1 ≤ (openF xs ds ss).1.getD i 0 ∧ (openF xs ds ss).1.getD i 0 ≤ 1000000 := by
  unfold openF at h ⊢
  split at h
  · rename_i h1
    split at h
    · rename_i h2
      rw [if_pos h1, if_pos h2]
      have hl : (doorK ds ss (rawL xs) ds.length).length = xs.length := by rw [doorK_length, rawL_length]
      exact ⟨hl, fun i hi => allIn_D.1 h2 i (by omega)⟩
    · cases h
  · cases h
theorem take_snoc {xs : List Int} {k : Nat} (hk : k < xs.length) : xs.take (k + 1) = xs.take k ++ [xs.getD k 0] := by
  rw [List.take_succ_eq_append_getElem hk, getD_pt hk]
/-! ### Flows with doors -/
noncomputable def zeroL (n : Nat) : List Int := List.replicate n 0
noncomputable def withF (p : Pt) (ss : List Bool) : List Int × Int × Int :=
  if plantB p = true then
    if ss.length = p.ds.length then
      if (openF p.xs p.ds ss).2 = 0 then solveR (openF p.xs p.ds ss).1 p.dr p.fs (meshesF p.J.toNat p.xs) p.tol 100 (zeroL p.xs.length) else ([], 0, (openF p.xs p.ds ss).2)
    else ([], 0, 7)
  else ([], 0, 1)
theorem zeroL_length (n : Nat) : (zeroL n).length = n := by simp [zeroL]
theorem zeroL_get (n i : Nat) : (zeroL n).getD i 0 = 0 := by
  by_cases h : i < n
  · simp [zeroL, List.getD, h]
  · simp [zeroL, List.getD, h]
theorem exK_zero (xs : List Aw) (j : Int) (n : Nat) : ∀ k, exK xs (zeroL n) j k = 0
  | 0 => rfl
  | k + 1 => by
    have ih := exK_zero xs j n k
    unfold exK
    rw [zeroL_get, ih]
    split
    · rfl
    · split <;> rfl
theorem plant_parts {p : Pt} (h : plantB p = true) : doorsB p.J p.xs p.ds = true ∧ fansB p.fs = true ∧ hasFB p.xs.length p.fs = true ∧ lstN p.xs.length p.dr (-100000) 100000 = true ∧ inB p.tol 0 100000 = true := by
  unfold plantB at h
  simp only [Bool.and_eq_true] at h
  obtain ⟨h1, _, h3, h4, h5, h6⟩ := h
  refine ⟨h1, h3, h4, ?_, h6⟩
  unfold lstN
  rw [Bool.and_eq_true]
  exact h5
theorem solve_open {p : Pt} {ss : List Bool} (h : plantB p = true) (hs : (openF p.xs p.ds ss).2 = 0) : solveF p.J p.xs (openF p.xs p.ds ss).1 p.fs p.dr (zeroL p.xs.length) p.tol 100 = solveR (openF p.xs p.ds ss).1 p.dr p.fs (meshesF p.J.toNat p.xs) p.tol 100 (zeroL p.xs.length) := by
  obtain ⟨h1, h2, h3, h4, h5⟩ := plant_parts h
  obtain ⟨hm, _⟩ := doors_ok h1
  have k1 : (mineB p.J p.xs && fansB p.fs) = true := by rw [hm, h2]; rfl
  have k2 : (inB p.tol 0 100000 && inB 100 0 500) = true := by rw [h5]; rfl
  have k3 : (sysB p.xs.length (openF p.xs p.ds ss).1 p.dr (zeroL p.xs.length) && hasFB p.xs.length p.fs) = true := by
    rw [h3, Bool.and_true]
    unfold sysB
    rw [h4, lstN_iff.2 (openF_ok hs), lstN_iff.2 ⟨zeroL_length _, fun i _ => by rw [zeroL_get]; omega⟩]
    rfl
  have k4 : balB p.J.toNat p.xs (zeroL p.xs.length) = true := by
    unfold balB
    rw [allUp_iff]
    intro j _
    rw [exK_zero]
    rfl
  unfold solveF
  rw [if_pos k1, if_pos k2, if_pos k3, if_pos k4]
  rfl
theorem solveR_len_le {rs dr : List Int} {fs : List Fa} {ms : List (List Int)} {tol : Int} : ∀ (n : Nat) {fl : List Int}, (solveR rs dr fs ms tol n fl).1.length ≤ fl.length
  | 0, fl => by
    rw [solveR_zero]
    split <;> simp
  | n + 1, fl => by
    by_cases hc : worstL (errsL rs (pushF fs fl dr) fl ms) ≤ tol
    · rw [solveR_yes hc]; exact Nat.le_refl _
    · cases hp : passK rs dr fs ms fl with
      | none => rw [solveR_bad hc hp]; simp
      | some fl' =>
        rw [solveR_go hc hp]
        have hl : ∀ {ms : List (List Int)} {a b : List Int}, passK rs dr fs ms a = some b → b.length = a.length := by
          intro ms
          induction ms with
          | nil => intro a b h; injection h with h; rw [h]
          | cons m ms ih =>
            intro a b h
            unfold passK at h
            split at h
            · rw [ih h]; exact addK_length _ _ _ _
            · cases h
        have := solveR_len_le (rs := rs) (dr := dr) (fs := fs) (ms := ms) (tol := tol) n (fl := fl')
        rw [hl hp] at this
        exact this
theorem withF_le (p : Pt) (ss : List Bool) : (withF p ss).1.length ≤ p.xs.length := by
  unfold withF
  split
  · split
    · split
      · refine Nat.le_trans (solveR_len_le _) ?_
        rw [zeroL_length]
        exact Nat.le_refl _
      · simp
    · simp
  · simp
end Go.Proofs.YtejkoicgbgoiaaaGreat

/- Doors: the resistances of airways, and with doors, by the program. Conditions: the facts on memory and on lengths that each theorem names. -/
namespace Go.Proofs.YtejkoicgbgoiaaaGreat
open Go.RowKit
open Pl
theorem Bools.atO {B : Nat} {w : World} {A : Option Addr} {xs : List Bool} (h : Bools B w A xs) {k : Nat} (hk : k < xs.length) : ∃ ad, A = some ad ∧ ad.block < B ∧ w.cell? (ad.add k) = some (.bool (xs.getD k false)) := by
  obtain ⟨ad, e, hb, hc⟩ := h.at_ hk
  exact ⟨ad, e, hb, by rw [hc]; simp [List.getD, hk]⟩
set_option maxRecDepth 100000 in
theorem resistance_any (s : ByteArray) (f t l c r k : Int) (w : World) (hl : 1 ≤ l ∧ l ≤ 10000) (hc : 50 ≤ c ∧ c ≤ 5000) (hr : 1 ≤ r ∧ r ≤ 1000) (hk : 0 ≤ k ∧ k ≤ 1000) :
    Calls Tryz.prog 156 #[.agg #[.string s, .int .i64 f, .int .i64 t, .int .i64 l, .int .i64 c, .int .i64 r, .int .i64 k]] w fun e w' => e = .returned (.int .i64 (rawV l c r k)) ∧ Below w.heap.size w w' := by
  obtain ⟨⟨a1, a2⟩, ⟨b1, b2⟩, ⟨c1, c2⟩, ⟨d1, d2⟩, ⟨e1, e2⟩⟩ := raw_bd hl hc hr hk
  obtain ⟨l1, l2⟩ := hl
  obtain ⟨c3, c4⟩ := hc
  obtain ⟨r1, r2⟩ := hr
  obtain ⟨k1, k2⟩ := hk
  obtain ⟨R, hR⟩ : ∃ R, R = rawV l c r k := ⟨_, rfl⟩
  rw [← hR]
  have HR : Hid (R = mx 1 (divR (r * (l + k) * rootF (c * 10000) * 400000) (c * c * c))) := Lib.hid hR
  clear hR
  have HC := Lib.hid (fun W => RootOf_any (c * 10000) W (by omega) (by omega))
  have be0 : Below w.heap.size w (w.alloc (.cells #[.string s, .int .i64 f, .int .i64 t, .int .i64 l, .int .i64 c, .int .i64 r, .int .i64 k] 99)) := by go_grown
  generalize rootF (c * 10000) = q at *
  go_enter Tryz.func156, Tryz.ntmps156
  go_wp2_with fail
  refine (HC.out _).mono ?_
  rintro e w1 ⟨rfl, hb1⟩
  have m3 : w1.cell? ⟨w.heap.size, 3, none⟩ = some (.int .i64 l) := by rw [(bcell hb1).1 _ _ (by simp)]; go_simp
  have m4 : w1.cell? ⟨w.heap.size, 4, none⟩ = some (.int .i64 c) := by rw [(bcell hb1).1 _ _ (by simp)]; go_simp
  have m5 : w1.cell? ⟨w.heap.size, 5, none⟩ = some (.int .i64 r) := by rw [(bcell hb1).1 _ _ (by simp)]; go_simp
  have m6 : w1.cell? ⟨w.heap.size, 6, none⟩ = some (.int .i64 k) := by rw [(bcell hb1).1 _ _ (by simp)]; go_simp
  have be1 := be0.trans (hb1.mono be0.size)
  clear hb1 be0
  have HD := Lib.hid (fun W => divRound_any (r * (l + k) * q * 400000) (c * c * c) W (by omega) (by omega) (by omega) (by omega))
  go_wp2_with fail
  refine (HD.out _).mono ?_
  rintro e w2 ⟨rfl, nd, rfl⟩
  generalize divR (r * (l + k) * q * 400000) (c * c * c) = z at *
  go_wp2_with fail
  all_goals (go_ret; exact ⟨ret_int (by rw [HR.out]; unfold mx; repeat' split <;> omega), below_drewN be1 nd⟩)
set_option maxRecDepth 100000 in
set_option maxHeartbeats 3200000 in
theorem ResistancesOf_any (J : Int) (A : Option Addr) (cp : Nat) (xs : List Aw) (w : World) (hI : Recs encA 7 w.heap.size w A xs) (fX : FitsA xs) (hm : mineB J xs = true) :
    Calls Tryz.prog 121 #[.agg #[.int .i64 J, .slice A xs.length cp]] w fun e w' => ∃ u, e = .returned (.tuple #[u, .int .i64 (resF xs).2]) ∧ Own w.heap.size w' u (resF xs).1 ∧ Below w.heap.size w w' := by
  obtain ⟨_, nx, _⟩ := mineB_bd hm
  have hxn : xs.length ≤ 24 := by omega
  obtain ⟨i0, hi, hz0, hz1, hz2⟩ := info_parts infoI
  have HF := Lib.hid (And.intro hi (And.intro hz0 (And.intro hz1 hz2)))
  have be0 : Below w.heap.size w (w.alloc (.cells #[.int .i64 J, .slice A xs.length cp] 33)) := by go_grown
  have C1 := Lib.hid (fun (W : World) (hb : Below w.heap.size w W) => ValidMine_i J A cp xs w.heap.size W (by omega) fX (hI.below hb) hb.size)
  have J0 := Lib.hid hI
  have HM := Lib.hid hm
  have HFT := Lib.hid (rawL_fits hm)
  obtain ⟨R, hRR⟩ : ∃ R, R = resF xs := ⟨_, rfl⟩
  rw [← hRR]
  have HR : Hid (R = if allIn (rawL xs) 1 1000000 = true then (rawL xs, 0) else ([], 6)) := Lib.hid hRR
  have k0 : ((w.alloc (.cells #[.int .i64 J, .slice A xs.length cp] 33))).cell? ⟨w.heap.size, 0, none⟩ = some (.int .i64 J) := by go_simp
  have k1 : ((w.alloc (.cells #[.int .i64 J, .slice A xs.length cp] 33))).cell? ⟨w.heap.size, 1, none⟩ = some (.slice A xs.length cp) := by go_simp
  clear hI hm nx hi hz0 hz1 hz2 fX hRR
  go_enter Tryz.func121, Tryz.ntmps121
  go_wp2_with fail
  generalize (w.alloc (.cells #[.int .i64 J, .slice A xs.length cp] 33)) = w0 at *
  refine (C1.out _ be0).mono ?_
  rintro e w1 ⟨rfl, hb1⟩
  rw [HM.out]
  have k01 := cell_later hb1 k0
  have k11 := cell_later hb1 k1
  have be1 := be0.trans (hb1.mono be0.size)
  clear k0 k1 hb1 be0 C1
  go_wp2_with fail
  go_loopw [4, 13] (fun u ii wr => ∃ k : Nat, k ≤ xs.length ∧ ii = .int .i64 k ∧ Below w.heap.size w wr ∧ Own w.heap.size wr u ((rawL xs).take k)) (fun _ ii _ => xs.length - (intOf ii).toNat)
  case atStart => exact ⟨0, Nat.zero_le _, rfl, be1, Own.nil_ _ _⟩
  case round =>
    obtain ⟨k, hk, rfl, hb, ho⟩ := hrel
    have hsz := hb.size
    by_cases hlt : k < xs.length
    · obtain ⟨⟨s, f, t, l, c, r, q⟩, hax⟩ : ∃ x, xs.getD k aNone = x := ⟨_, rfl⟩
      obtain ⟨b, o, rfl, hab, c0, c1, c2, c3, c4, c5, c6⟩ := (J0.out.below hb).cells7 hlt hax
      obtain ⟨b1, b2, b3, b4⟩ := air_bd HM.out hlt hax
      have HST : Hid ((rawL xs).take (k + 1) = (rawL xs).take k ++ [rawV l c r q]) := Lib.hid (by
        rw [take_snoc (by rw [rawL_length]; exact hlt), rawL_get hlt, hax]; rfl)
      have hll : ((rawL xs).take k).length ≤ 24 := by rw [List.length_take]; omega
      have HC := Lib.hid (fun W => resistance_any s f t l c r q W b1 b2 b3 b4)
      have hrb := rawV_bd b1 b2 b3 b4
      have j0 : (0 : Int) ≤ (k : Int) := by omega
      have j1 : (k : Int) < xs.length := by omega
      have hba : Below wr.heap.size wr (wr.alloc (.cells #[.string s, .int .i64 f, .int .i64 t, .int .i64 l, .int .i64 c, .int .i64 r, .int .i64 q] 99)) := (Below.refl _ _).alloc (Nat.le_refl _) _
      have HO := Lib.hid ho
      clear ho hax b1 b2 b3 b4
      generalize (rawL xs).take k = es at *
      generalize rawV l c r q = x at *
      go_wp2_with fail
      refine (HC.out _).mono ?_
      rintro e w2 ⟨rfl, hb2⟩
      have hb3 := (hb.trans (hba.mono hsz)).trans (hb2.mono (by have := hba.size; omega))
      have HO3 := Lib.hid ((HO.out.later hba).later hb2)
      have hsz3 := hb3.size
      clear c0 c1 c2 c3 c4 c5 c6 HC HO hba
      go_wp2_with (at_builtin; refine wpList_append_own_at _ rfl _ _ 25 rfl w.heap.size 2 i0 (.int .i64 0) 1 8 Tryz.underlying25 HF.out.1 HF.out.2.1 HF.out.2.2.1 HF.out.2.2.2 rfl (by decide) _ _ _ rfl (HO3.out.later ((Below.refl _ _).alloc (Nat.le_refl _) _)) ⟨w2.heap.size, 0, none⟩ 1 1 [.int .i64 x] rfl rfl (cell_one_new _ _ _) (by intro u hu; simp at hu; subst hu; rfl) (le_max (by omega)) (by omega) (by simp; omega) ?_; intro av aw ah ag an aa)
      have hbe2 : Below w.heap.size w aw := Below.appended hb3 HO3.out hsz3 ag
      have ho' := Own.appended ah
      clear ah ag an aa
      have HO4 := Lib.hid ho'
      clear ho'
      go_wp2
      go_roundw
      case rel => exact ⟨k + 1, by omega, by go_num, hbe2, by rw [HST.out]; exact HO4.out⟩
      case measure => simp [intOf]; omega
    · obtain rfl : k = xs.length := by omega
      have hte : (rawL xs).take xs.length = rawL xs := by rw [List.take_of_length_le (by rw [rawL_length]; exact Nat.le_refl _)]
      rw [hte] at ho
      obtain ⟨AT, ct, rfl, hi, -⟩ := ho.slice
      have HO := Lib.hid ho
      have hll : (rawL xs).length ≤ 24 := by rw [rawL_length]; exact hxn
      have HA := Lib.hid (allWithin_any AT ct (rawL xs) 1 1000000 wr.heap.size wr (by omega) hi (Nat.le_refl _) HFT.out)
      clear ho hi hte
      generalize rawL xs = L at *
      go_wp2_with fail
      refine HA.out.mono ?_
      rintro e w2 ⟨rfl, hb2⟩
      have be2 := hb.trans (hb2.mono hsz)
      have HO2 := Lib.hid (HO.out.later hb2)
      clear hb2 HO
      cases hall : allIn L 1 1000000
      · have HG := Lib.hid (HR.out.trans (if_neg (by rw [hall]; exact Bool.false_ne_true)))
        go_wp2_with fail
        go_ret2
        exact ⟨.slice none 0 0, ret_vi (by rw [HG.out]), by rw [HG.out]; exact Own.nil_ _ _, be2⟩
      · have HG := Lib.hid (HR.out.trans (if_pos hall))
        go_wp2_with fail
        go_ret2
        exact ⟨_, ret_vi (by rw [HG.out]), by rw [HG.out]; exact HO2.out, be2⟩
set_option maxRecDepth 100000 in
set_option maxHeartbeats 6400000 in
theorem OpenDoors_any (J : Int) (A : Option Addr) (cp : Nat) (xs : List Aw) (A2 : Option Addr) (c2 : Nat) (ds : List Do) (A3 : Option Addr) (c3 : Nat) (ss : List Bool) (w : World) (hI : Recs encA 7 w.heap.size w A xs) (hId : Recs encDo 4 w.heap.size w A2 ds) (hS : Bools w.heap.size w A3 ss) (fX : FitsA xs) (fD : FitsDo ds) (hcap : ds.length ≤ c2) (hd : doorsB J xs ds = true) (hss : ss.length = ds.length) :
    Calls Tryz.prog 86 #[.agg #[.int .i64 J, .slice A xs.length cp], .slice A2 ds.length c2, .slice A3 ss.length c3] w fun e w' => ∃ u, e = .returned (.tuple #[u, .int .i64 (openF xs ds ss).2]) ∧ Own w.heap.size w' u (openF xs ds ss).1 ∧ Below w.heap.size w w' := by
  obtain ⟨hm, hdo⟩ := doors_ok hd
  obtain ⟨_, nx, _⟩ := mineB_bd hm
  have hxn : xs.length ≤ 24 := by omega
  have h8 := hdo.few
  have be0 : Below w.heap.size w (w.alloc (.cells #[.int .i64 J, .slice A xs.length cp] 33)) := by go_grown
  have C1 := Lib.hid (fun (W : World) (hb : Below w.heap.size w W) => ValidDoors_i J A cp xs A2 c2 ds w.heap.size W (by omega) hcap fX fD (hI.below hb) (hId.below hb) hb.size)
  have C2 := Lib.hid (fun (W : World) (hb : Below w.heap.size w W) => ResistancesOf_any J A cp xs W ((hI.below hb).more hb.size) fX hm)
  have JD := Lib.hid hId
  have JS := Lib.hid hS
  have HDO := Lib.hid hdo
  have HDB := Lib.hid hd
  have HMB := Lib.hid hm
  obtain ⟨R, hRR⟩ : ∃ R, R = openF xs ds ss := ⟨_, rfl⟩
  rw [← hRR]
  have HR : Hid (R = if allIn (rawL xs) 1 1000000 = true then (if allIn (doorK ds ss (rawL xs) ds.length) 1 1000000 = true then (doorK ds ss (rawL xs) ds.length, 0) else ([], 6)) else ([], 6)) := Lib.hid hRR
  have HRS : Hid (resF xs = if allIn (rawL xs) 1 1000000 = true then (rawL xs, 0) else ([], 6)) := Lib.hid rfl
  have k0 : ((w.alloc (.cells #[.int .i64 J, .slice A xs.length cp] 33))).cell? ⟨w.heap.size, 0, none⟩ = some (.int .i64 J) := by go_simp
  have k1 : ((w.alloc (.cells #[.int .i64 J, .slice A xs.length cp] 33))).cell? ⟨w.heap.size, 1, none⟩ = some (.slice A xs.length cp) := by go_simp
  clear hI hId hS fX fD hd hm hdo nx hRR
  go_enter Tryz.func86, Tryz.ntmps86
  go_wp2_with fail
  generalize (w.alloc (.cells #[.int .i64 J, .slice A xs.length cp] 33)) = w0 at *
  refine (C1.out _ be0).mono ?_
  rintro e w1 ⟨rfl, hb1⟩
  rw [HDB.out]
  have k01 := cell_later hb1 k0
  have k11 := cell_later hb1 k1
  have be1 := be0.trans (hb1.mono be0.size)
  clear k0 k1 hb1 be0 C1
  have hse : (ss.length : Int) = (ds.length : Int) := by omega
  go_wp2_with fail
  have CC := C2.out _ be1
  generalize resF xs = S at *
  refine CC.mono ?_
  rintro e w2 ⟨u2, rfl, ho2, hb2⟩
  have be2 := be1.trans (hb2.mono be1.size)
  obtain ⟨AT, ct, rfl, -, -⟩ := ho2.slice
  clear C2 CC k01 k11
  cases hall : allIn (rawL xs) 1 1000000
  · have HG := Lib.hid (HR.out.trans (if_neg (by rw [hall]; exact Bool.false_ne_true)))
    have hs6 := HRS.out.trans (if_neg (by rw [hall]; exact Bool.false_ne_true))
    subst hs6
    go_wp2_with fail
    go_ret2
    exact ⟨.slice none 0 0, ret_vi (by rw [HG.out]), by rw [HG.out]; exact Own.nil_ _ _, be2⟩
  have HG := Lib.hid (HR.out.trans (if_pos hall))
  have hs0 := HRS.out.trans (if_pos hall)
  subst hs0
  have hraw := allIn_D.1 hall
  have HRW := Lib.hid hraw
  clear HR HRS hall hraw
  dsimp only at *
  have ho2 := ho2.base (b' := w.heap.size) (fun g hg => Nat.le_trans be1.size (World.ownsRow.lt ho2 g hg).1)
  have HO2 := Lib.hid ho2
  have hrl := rawL_length xs
  have HRL := Lib.hid hrl
  rw [hrl] at HO2 ⊢
  clear ho2 hb2
  go_wp2_with fail
  go_loopw [33] (fun ii wr => ∃ k : Nat, k ≤ ds.length ∧ ii = .int .i64 k ∧ Below w.heap.size w wr ∧ Own w.heap.size wr (.slice AT xs.length ct) (doorK ds ss (rawL xs) k)) (fun ii _ => ds.length - (intOf ii).toNat)
  case atStart => exact ⟨0, Nat.zero_le _, rfl, be2, HO2.out⟩
  case round =>
    obtain ⟨k, hk, rfl, hb, ho⟩ := hrel
    have hsz := hb.size
    by_cases hlt : k < ds.length
    · obtain ⟨⟨s, a', u, v⟩, hax⟩ : ∃ x, ds.getD k nDo = x := ⟨_, rfl⟩
      obtain ⟨a, ha, hax2⟩ := HDO.out.air k hlt
      have hop := HDO.out.opn k hlt
      have hsh := HDO.out.sht k hlt
      have HST0 : Hid (doorK ds ss (rawL xs) (k + 1) = (doorK ds ss (rawL xs) k).set (ds.getD k nDo).i0.toNat ((doorK ds ss (rawL xs) k).getD (ds.getD k nDo).i0.toNat 0 + doorV ss (ds.getD k nDo) k)) := Lib.hid rfl
      have hdv : doorV ss (ds.getD k nDo) k = if ss.getD k false = true then (ds.getD k nDo).i1 else (ds.getD k nDo).i2 := rfl
      have hst := HST0.out
      rw [hdv, ha, Int.toNat_natCast, hax] at hst
      rw [hax] at ha hop hsh
      have ha : a' = (a : Int) := ha
      subst ha
      have hop : 1 ≤ u ∧ u ≤ 1000000 := hop
      have hsh : 1 ≤ v ∧ v ≤ 1000000 := hsh
      have hst : doorK ds ss (rawL xs) (k + 1) = (doorK ds ss (rawL xs) k).set a ((doorK ds ss (rawL xs) k).getD a 0 + if ss.getD k false = true then u else v) := hst
      have hxb : 1 ≤ (doorK ds ss (rawL xs) k).getD a 0 ∧ (doorK ds ss (rawL xs) k).getD a 0 ≤ 9000000 := by
        have h1 := sumK_bd ss HDO.out a ((rawL xs).getD a 0) k (by omega)
        have h2 := HRW.out a (by rw [HRL.out]; exact hax2)
        rw [doorK_get HDO.out HRL.out k (by omega)]
        omega
      obtain ⟨b, o, rfl, hab, c0, c1, c2', c3'⟩ := (JD.out.below hb).cellsDo hlt hax
      obtain ⟨ad, rfl, hal, hcl⟩ := (JS.out.below hb).atO (k := k) (by omega)
      have hlen : (doorK ds ss (rawL xs) k).length = xs.length := by rw [doorK_length, HRL.out]
      obtain ⟨g, rfl, hg1, hrow⟩ := ho.row (n := xs.length) (by omega) hlen
      have hca := row_cell hrow hlen (i := a) hax2
      have hfr := row_free hrow a
      have hglt := row_lt hrow
      have hba : Below wr.heap.size wr (wr.alloc (.cells #[.string s, .int .i64 (a : Int), .int .i64 u, .int .i64 v] 119)) := (Below.refl _ _).alloc (Nat.le_refl _) _
      have d1 : ((wr.alloc (.cells #[.string s, .int .i64 (a : Int), .int .i64 u, .int .i64 v] 119))).cell? ⟨wr.heap.size, 1, none⟩ = some (.int .i64 (a : Int)) := by go_simp
      have d2 : ((wr.alloc (.cells #[.string s, .int .i64 (a : Int), .int .i64 u, .int .i64 v] 119))).cell? ⟨wr.heap.size, 2, none⟩ = some (.int .i64 u) := by go_simp
      have d3 : ((wr.alloc (.cells #[.string s, .int .i64 (a : Int), .int .i64 u, .int .i64 v] 119))).cell? ⟨wr.heap.size, 3, none⟩ = some (.int .i64 v) := by go_simp
      have hca' := cell_later hba hca
      have hcl' := cell_later hba hcl
      have hfr' : ((wr.alloc (.cells #[.string s, .int .i64 (a : Int), .int .i64 u, .int .i64 v] 119))).frozen? ⟨g, a, none⟩ = false := (hba.frozen (p := ⟨g, a, none⟩) hglt).trans hfr
      have hrow' := row_on hrow hba
      have hbw : Below w.heap.size w (wr.alloc (.cells #[.string s, .int .i64 (a : Int), .int .i64 u, .int .i64 v] 119)) := hb.trans (hba.mono hsz)
      have hgl : g < ((wr.alloc (.cells #[.string s, .int .i64 (a : Int), .int .i64 u, .int .i64 v] 119))).heap.size := by simp; omega
      have j0 : (0 : Int) ≤ (k : Int) := by omega
      have j1 : (k : Int) < ds.length := by omega
      have j2 : (k : Int) < ss.length := by omega
      have z0 : (0 : Int) ≤ (a : Int) := by omega
      have z1 : (a : Int) < xs.length := by omega
      have HROW := Lib.hid hrow'
      have HBW := Lib.hid hbw
      have HST := Lib.hid hst
      have HLN := Lib.hid hlen
      clear hst HST0 hax hrow hrow' hca hcl hfr ho hbw hdv hlen
      generalize doorK ds ss (rawL xs) k = D at *
      generalize D.getD a 0 = x at *
      generalize ss.getD k false = bs at *
      cases bs
      · go_wp2_with fail
        clear c0 c1 c2' c3'
        generalize (wr.alloc (.cells #[.string s, .int .i64 (a : Int), .int .i64 u, .int .i64 v] 119)) = wa at *
        have g1 := fun L : Later wa => L.cell d1
        have g3 := fun L : Later wa => L.cell d3
        have gp := fun L : Later wa => L.cell hca'
        refine wp_region_end (by kernel_rfl) (by kernel_rfl) (by kernel_rfl) ?_
        simp only [muteEnd, mute, theEnd]
        repeat (go_big_quiet_step (fail))
        refine wpQuiet_nil ?_
        intro _ hw'
        obtain ⟨LL, hw''⟩ := hw'
        subst hw''
        have hfr3 := (LL.below.frozen (p := ⟨g, a, none⟩) hgl).trans hfr'
        have hca3 := LL.cell hca'
        have HROW3 := Lib.hid (row_on HROW.out LL.below)
        have HBW3 := Lib.hid (HBW.out.trans (LL.below.mono HBW.out.size))
        clear g1 g3 gp
        generalize LL.world = w3 at *
        go_wp2_with fail
        go_roundw
        case rel => exact ⟨k + 1, by omega, by go_num, (fit_set ⟨HBW3.out, HROW3.out⟩ hg1 a (x + v)).1, by rw [HST.out]; exact Own.of_row (fit_set ⟨HBW3.out, HROW3.out⟩ hg1 a (x + v)).2 (by rw [List.length_set, HLN.out]) hg1⟩
        case measure => simp [intOf]; omega
      · go_wp2_with fail
        clear c0 c1 c2' c3'
        generalize (wr.alloc (.cells #[.string s, .int .i64 (a : Int), .int .i64 u, .int .i64 v] 119)) = wa at *
        have g1 := fun L : Later wa => L.cell d1
        have g2 := fun L : Later wa => L.cell d2
        have gp := fun L : Later wa => L.cell hca'
        refine wp_region_end (by kernel_rfl) (by kernel_rfl) (by kernel_rfl) ?_
        simp only [muteEnd, mute, theEnd]
        repeat (go_big_quiet_step (fail))
        refine wpQuiet_nil ?_
        intro _ hw'
        obtain ⟨LL, hw''⟩ := hw'
        subst hw''
        have hfr3 := (LL.below.frozen (p := ⟨g, a, none⟩) hgl).trans hfr'
        have hca3 := LL.cell hca'
        have HROW3 := Lib.hid (row_on HROW.out LL.below)
        have HBW3 := Lib.hid (HBW.out.trans (LL.below.mono HBW.out.size))
        clear g1 g2 gp
        generalize LL.world = w3 at *
        go_wp2_with fail
        go_roundw
        case rel => exact ⟨k + 1, by omega, by go_num, (fit_set ⟨HBW3.out, HROW3.out⟩ hg1 a (x + u)).1, by rw [HST.out]; exact Own.of_row (fit_set ⟨HBW3.out, HROW3.out⟩ hg1 a (x + u)).2 (by rw [List.length_set, HLN.out]) hg1⟩
        case measure => simp [intOf]; omega
    · obtain rfl : k = ds.length := by omega
      have hlen : (doorK ds ss (rawL xs) ds.length).length = xs.length := by rw [doorK_length, HRL.out]
      have hfit : Fits (doorK ds ss (rawL xs) ds.length) := fits_of hlen (fun i hi => by
        have h1 := sumK_bd ss HDO.out i ((rawL xs).getD i 0) ds.length (Nat.le_refl _)
        have h2 := HRW.out i (by rw [HRL.out]; exact hi)
        rw [doorK_get HDO.out HRL.out ds.length (Nat.le_refl _)]
        omega)
      have HO := Lib.hid ho
      generalize doorK ds ss (rawL xs) ds.length = D at *
      have HA := Lib.hid (allWithin_any AT ct D 1 1000000 wr.heap.size wr (by omega) ho.ints (Nat.le_refl _) hfit)
      rw [hlen] at HA
      clear ho hfit
      go_wp2_with fail
      refine HA.out.mono ?_
      rintro e w3 ⟨rfl, hb3⟩
      have be3 := hb.trans (hb3.mono hsz)
      have HO3 := Lib.hid (HO.out.later hb3)
      clear hb3 HO
      cases hall2 : allIn D 1 1000000
      · have HG2 := Lib.hid (HG.out.trans (if_neg (by rw [hall2]; exact Bool.false_ne_true)))
        go_wp2_with fail
        go_ret2
        exact ⟨.slice none 0 0, ret_vi (by rw [HG2.out]), by rw [HG2.out]; exact Own.nil_ _ _, be3⟩
      · have HG2 := Lib.hid (HG.out.trans (if_pos hall2))
        go_wp2_with fail
        go_ret2
        exact ⟨_, ret_vi (by rw [HG2.out]), by rw [HG2.out]; exact HO3.out, be3⟩
end Go.Proofs.YtejkoicgbgoiaaaGreat

/- Doors: the resistances of airways with doors, by the reference. Conditions: the facts on memory and on lengths that each theorem names. -/
namespace Go.Proofs.YtejkoicgbgoiaaaGreat
open Go.RowKit
open Pl
set_option maxRecDepth 100000 in
set_option maxHeartbeats 1600000 in
theorem l03Raw_any (b o : Nat) (l c r k : Int) (w : World) (hl : 1 ≤ l ∧ l ≤ 10000) (hc : 50 ≤ c ∧ c ≤ 5000) (hr : 1 ≤ r ∧ r ≤ 1000) (hk : 0 ≤ k ∧ k ≤ 1000)
    (m3 : w.cell? ⟨b, o + 3, none⟩ = some (.int .i64 l)) (m5 : w.cell? ⟨b, o + 5, none⟩ = some (.int .i64 r)) (m6 : w.cell? ⟨b, o + 6, none⟩ = some (.int .i64 k)) :
    Calls Tryz.prog 142 #[.pointer (some ⟨b, o, none⟩), .int .i64 c] w fun e w' => e = .returned (.int .i64 (divR (r * (l + k) * rootF (c * 10000) * 400000) (c * c * c))) ∧ ∃ n, w.drewN n = w' := by
  obtain ⟨⟨a1, a2⟩, ⟨b1, b2⟩, ⟨c1, c2⟩, ⟨d1, d2⟩, ⟨e1, e2⟩⟩ := raw_bd hl hc hr hk
  obtain ⟨l1, l2⟩ := hl
  obtain ⟨c3, c4⟩ := hc
  obtain ⟨r1, r2⟩ := hr
  obtain ⟨k1, k2⟩ := hk
  obtain ⟨R, hR⟩ : ∃ R, R = divR (r * (l + k) * rootF (c * 10000) * 400000) (c * c * c) := ⟨_, rfl⟩
  rw [← hR]
  have HC := Lib.hid (fun n => l01Root_any (c * 10000) (w.drewN n) (by omega) (by omega))
  have HD := Lib.hid (fun n => l01Div_any (r * (l + k) * rootF (c * 10000) * 400000) (c * c * c) (w.drewN n) (by omega) (by omega) (by omega) (by omega))
  rw [← hR] at HD
  generalize rootF (c * 10000) = q at *
  have HR := Lib.hid hR
  clear hR
  go_enter Tryz.func142, Tryz.ntmps142
  go_wp2_with fail
  go_big_quiet (first | (go_at_call 150; first | (with_reducible exact quiet_s (HC.out _)) | (with_reducible exact quiet_s2 (HC.out _))) | (go_at_call 149; first | (with_reducible exact quiet_d (HD.out _)) | (with_reducible exact quiet_d2 (HD.out _))) | (go_at_call 149; first | (with_reducible exact quiet_s (HD.out _)) | (with_reducible exact quiet_s2 (HD.out _))))
  go_wp2_with fail
  go_ret
  exact ⟨rfl, _, rfl⟩
def resX (x : Int) : Int × Int := if 1000000 < x then (0, 6) else (x, 0)
set_option maxRecDepth 100000 in
theorem l03Resistance_any (b o : Nat) (l c r k : Int) (w : World) (hl : 1 ≤ l ∧ l ≤ 10000) (hc : 50 ≤ c ∧ c ≤ 5000) (hr : 1 ≤ r ∧ r ≤ 1000) (hk : 0 ≤ k ∧ k ≤ 1000)
    (m3 : w.cell? ⟨b, o + 3, none⟩ = some (.int .i64 l)) (m4 : w.cell? ⟨b, o + 4, none⟩ = some (.int .i64 c)) (m5 : w.cell? ⟨b, o + 5, none⟩ = some (.int .i64 r)) (m6 : w.cell? ⟨b, o + 6, none⟩ = some (.int .i64 k)) :
    Calls Tryz.prog 108 #[.pointer (some ⟨b, o, none⟩)] w fun e w' => e = .returned (.tuple #[.int .i64 (resX (rawV l c r k)).1, .int .i64 (resX (rawV l c r k)).2]) ∧ ∃ n, w.drewN n = w' := by
  have HC := Lib.hid (l03Raw_any b o l c r k w hl hc hr hk m3 m5 m6)
  have hb := rawV_bd hl hc hr hk
  have hv : rawV l c r k = mx 1 (divR (r * (l + k) * rootF (c * 10000) * 400000) (c * c * c)) := rfl
  have HM := Lib.hid (fun W => l00Max_any 1 (divR (r * (l + k) * rootF (c * 10000) * 400000) (c * c * c)) W)
  rw [← hv] at HM
  generalize divR (r * (l + k) * rootF (c * 10000) * 400000) (c * c * c) = z at *
  clear hv
  generalize rawV l c r k = x at *
  clear m3 m5 m6
  by_cases hx : 1000000 < x
  · have hr : resX x = (0, 6) := if_pos hx
    rw [hr]
    go_enter Tryz.func108, Tryz.ntmps108
    go_wp2_with fail
    refine HC.out.mono ?_
    rintro e w1 ⟨rfl, nd, rfl⟩
    go_wp2_with (go_at_call 141; refine (HM.out _).mono ?_; rintro e w' ⟨rfl, rfl⟩)
    go_ret2
    exact ⟨rfl, _, rfl⟩
  · have hr : resX x = (x, 0) := if_neg hx
    rw [hr]
    go_enter Tryz.func108, Tryz.ntmps108
    go_wp2_with fail
    refine HC.out.mono ?_
    rintro e w1 ⟨rfl, nd, rfl⟩
    go_wp2_with (go_at_call 141; refine (HM.out _).mono ?_; rintro e w' ⟨rfl, rfl⟩)
    go_ret2
    exact ⟨rfl, _, rfl⟩
set_option maxRecDepth 100000 in
set_option maxHeartbeats 6400000 in
theorem l10Resistances_any (bm om : Nat) (J : Int) (A : Option Addr) (cp : Nat) (xs : List Aw) (A2 : Option Addr) (c2 : Nat) (ds : List Do) (A3 : Option Addr) (c3 : Nat) (ss : List Bool) (w : World) (hI : Recs encA 7 w.heap.size w A xs) (hId : Recs encDo 4 w.heap.size w A2 ds) (hS : Bools w.heap.size w A3 ss) (hd : doorsB J xs ds = true) (hss : ss.length = ds.length)
    (mm : w.cell? ⟨bm, om + 1, none⟩ = some (.slice A xs.length cp)) :
    Calls Tryz.prog 80 #[.pointer (some ⟨bm, om, none⟩), .slice A2 ds.length c2, .slice A3 ss.length c3] w fun e w' => ∃ u, e = .returned (.tuple #[u, .int .i64 (openF xs ds ss).2]) ∧ Own w.heap.size w' u (openF xs ds ss).1 ∧ Below w.heap.size w w' := by
  obtain ⟨hm, hdo⟩ := doors_ok hd
  obtain ⟨_, nx, _⟩ := mineB_bd hm
  have hxn : xs.length ≤ 24 := by omega
  have h8 := hdo.few
  obtain ⟨i0, hi, hz0, hz1, hz2⟩ := info_parts infoI
  have HF := Lib.hid (And.intro hi (And.intro hz0 (And.intro hz1 hz2)))
  have JI := Lib.hid hI
  have JD := Lib.hid hId
  have JS := Lib.hid hS
  have HDO := Lib.hid hdo
  have HMB := Lib.hid hm
  obtain ⟨R, hRR⟩ : ∃ R, R = openF xs ds ss := ⟨_, rfl⟩
  rw [← hRR]
  have HY := Lib.hid (fun hs => hRR.trans (openF_yes (ss := ss) hd hs))
  have HN := Lib.hid (fun a ha hs => hRR.trans (openF_no (ss := ss) hd (a := a) ha hs))
  have HMM := Lib.hid mm
  have hlen : (doorK ds ss (rawL xs) ds.length).length = xs.length := by rw [doorK_length, rawL_length]
  have HLN := Lib.hid hlen
  clear hI hId hS hd hm hdo nx hi hz0 hz1 hz2 mm hlen hRR
  go_enter Tryz.func80, Tryz.ntmps80
  go_wp2_with fail
  go_loopw [8, 9] (fun u ii wr => ∃ k : Nat, k ≤ xs.length ∧ ii = .int .i64 k ∧ Below w.heap.size w wr ∧ Own w.heap.size wr u ((doorK ds ss (rawL xs) ds.length).take k) ∧ ∀ j, j < k → sumK ds ss j ((rawL xs).getD j 0) ds.length ≤ 1000000) (fun _ ii _ => xs.length - (intOf ii).toNat)
  case atStart => exact ⟨0, Nat.zero_le _, rfl, (Below.refl _ _).alloc (Nat.le_refl _) _, Own.empty (Nat.le_refl _), fun j hj => by omega⟩
  case round =>
    obtain ⟨k, hk, rfl, hb, ho, hal⟩ := hrel
    have hsz := hb.size
    have mm := cell_later hb HMM.out
    by_cases hlt : k < xs.length
    · obtain ⟨⟨s, f, t, l, c, r, q⟩, hax⟩ : ∃ x, xs.getD k aNone = x := ⟨_, rfl⟩
      obtain ⟨b, o, rfl, hab, c0, c1, c2', c3', c4, c5, c6⟩ := (JI.out.below hb).cells7 hlt hax
      obtain ⟨b1, b2, b3, b4⟩ := air_bd HMB.out hlt hax
      have hrb := rawV_bd b1 b2 b3 b4
      have hrw : (rawL xs).getD k 0 = rawV l c r q := by rw [rawL_get hlt, hax]; rfl
      have HC := Lib.hid (l03Resistance_any b (o + k * 7) l c r q wr b1 b2 b3 b4 c3' c4 c5 c6)
      have hsb := fun z (hz : z ≤ ds.length) => sumK_bd ss HDO.out k (rawV l c r q) z hz
      have HSB := Lib.hid hsb
      have HNK := Lib.hid (fun hs => HN.out k hlt hs)
      have HAL := Lib.hid hal
      have HGD : Hid ((doorK ds ss (rawL xs) ds.length).getD k 0 = sumK ds ss k (rawV l c r q) ds.length) := Lib.hid (by rw [doorK_get HDO.out (rawL_length _) _ (Nat.le_refl _), hrw])
      have HTK := Lib.hid (take_snoc (xs := doorK ds ss (rawL xs) ds.length) (k := k) (by rw [HLN.out]; exact hlt))
      have HRW := Lib.hid hrw
      rw [hrw] at HNK
      have j0 : (0 : Int) ≤ (k : Int) := by omega
      have j1 : (k : Int) < xs.length := by omega
      have HO := Lib.hid ho
      have hll : ((doorK ds ss (rawL xs) ds.length).take k).length ≤ 24 := by rw [List.length_take]; omega
      clear ho hax b1 b2 b3 b4 hal hsb c0 c1 c2' c3' c4 c5 c6 hrw
      generalize rawV l c r q = x at *
      by_cases hx : 1000000 < x
      · have hr6 : resX x = (0, 6) := if_pos hx
        rw [hr6] at HC
        have HG := Lib.hid (HNK.out (by have := (HSB.out ds.length (Nat.le_refl _)).1; omega))
        go_wp2_with fail
        refine HC.out.mono ?_
        rintro e w2 ⟨rfl, nd, rfl⟩
        go_wp2_with fail
        go_ret2
        exact ⟨.slice none 0 0, ret_vi (by rw [HG.out]), by rw [HG.out]; exact Own.nil_ _ _, below_drewN hb nd⟩
      have hr0 : resX x = (x, 0) := if_neg hx
      rw [hr0] at HC
      go_wp2_with fail
      refine HC.out.mono ?_
      rintro e w2 ⟨rfl, nd, rfl⟩
      have hb2 := below_drewN hb nd
      have HO2 := Lib.hid (HO.out.later (below_drewN (Below.refl _ _) nd))
      have hsz2 := hb2.size
      have mm2 := cell_later hb2 HMM.out
      clear HO HC mm
      generalize wr.drewN nd = w2 at *
      go_wp2_with fail
      go_loop [10, 12] (fun rr qq => ∃ z : Nat, z ≤ ds.length ∧ qq = .int .i64 z ∧ rr = .int .i64 (sumK ds ss k x z)) (fun _ qq => ds.length - (intOf qq).toNat)
      case atStart => exact ⟨0, Nat.zero_le _, rfl, rfl⟩
      case round =>
        obtain ⟨z, hz, rfl, rfl⟩ := hrel
        have hsz3 := HSB.out z hz
        by_cases hlz : z < ds.length
        · obtain ⟨⟨s', a', u, v⟩, hdx⟩ : ∃ y, ds.getD z nDo = y := ⟨_, rfl⟩
          obtain ⟨a, ha, hax2⟩ := HDO.out.air z hlz
          have hop := HDO.out.opn z hlz
          have hsh := HDO.out.sht z hlz
          have hst : sumK ds ss k x (z + 1) = if (ds.getD z nDo).i0 = (k : Int) then sumK ds ss k x z + doorV ss (ds.getD z nDo) z else sumK ds ss k x z := rfl
          have hdv : doorV ss (ds.getD z nDo) z = if ss.getD z false = true then (ds.getD z nDo).i1 else (ds.getD z nDo).i2 := rfl
          rw [hdv, hdx] at hst
          rw [hdx] at ha hop hsh
          have ha : a' = (a : Int) := ha
          subst ha
          have hop : 1 ≤ u ∧ u ≤ 1000000 := hop
          have hsh : 1 ≤ v ∧ v ≤ 1000000 := hsh
          have hst : sumK ds ss k x (z + 1) = if (a : Int) = (k : Int) then sumK ds ss k x z + (if ss.getD z false = true then u else v) else sumK ds ss k x z := hst
          obtain ⟨b', o', rfl, hab', d0, d1, d2, d3⟩ := (JD.out.below hb2).cellsDo hlz hdx
          obtain ⟨ad, rfl, hal', hcl⟩ := (JS.out.below hb2).atO (k := z) (by omega)
          have z0 : (0 : Int) ≤ (z : Int) := by omega
          have z1 : (z : Int) < ds.length := by omega
          have z2 : (z : Int) < ss.length := by omega
          have HST := Lib.hid hst
          clear hst hdx hdv
          generalize sumK ds ss k x z = y at *
          generalize ss.getD z false = bs at *
          by_cases hak : a = k
          · subst hak
            have HST2 := Lib.hid (HST.out.trans (if_pos rfl))
            cases bs
            · have HST3 : Hid (sumK ds ss a x (z + 1) = y + v) := Lib.hid (by rw [HST2.out]; rfl)
              go_wp2_with fail
              go_round
              case rel => exact ⟨z + 1, by omega, by go_num, by rw [HST3.out]⟩
              case measure => simp [intOf]; omega
            · have HST3 : Hid (sumK ds ss a x (z + 1) = y + u) := Lib.hid (by rw [HST2.out]; rfl)
              go_wp2_with fail
              go_round
              case rel => exact ⟨z + 1, by omega, by go_num, by rw [HST3.out]⟩
              case measure => simp [intOf]; omega
          · have HST2 := Lib.hid (HST.out.trans (if_neg (by omega)))
            have haki : ¬ (a : Int) = (k : Int) := by omega
            have hakb : ((a : Int) != (k : Int)) = true := by simp only [bne_iff_ne, ne_eq]; exact haki
            clear hak
            go_wp2_with fail
            go_round
            case rel => exact ⟨z + 1, by omega, by go_num, by rw [HST2.out]⟩
            case measure => simp [intOf]; omega
        · obtain rfl : z = ds.length := by omega
          by_cases hs : 1000000 < sumK ds ss k x ds.length
          · have HG := Lib.hid (HNK.out hs)
            generalize sumK ds ss k x ds.length = y at *
            go_wp2_with fail
            go_ret2
            exact ⟨.slice none 0 0, ret_vi (by rw [HG.out]), by rw [HG.out]; exact Own.nil_ _ _, hb2⟩
          · have HSS : Hid (sumK ds ss k ((rawL xs).getD k 0) ds.length ≤ 1000000) := Lib.hid (by rw [HRW.out]; omega)
            have HT2 : Hid ((doorK ds ss (rawL xs) ds.length).take (k + 1) = (doorK ds ss (rawL xs) ds.length).take k ++ [sumK ds ss k x ds.length]) := Lib.hid (by rw [HTK.out, HGD.out])
            generalize (doorK ds ss (rawL xs) ds.length).take k = es at *
            generalize sumK ds ss k x ds.length = y at *
            go_wp2_with (at_builtin; refine wpList_append_own_at _ rfl _ _ 25 rfl w.heap.size 2 i0 (.int .i64 0) 1 8 Tryz.underlying25 HF.out.1 HF.out.2.1 HF.out.2.2.1 HF.out.2.2.2 rfl (by decide) _ _ _ rfl (HO2.out.later ((Below.refl _ _).alloc (Nat.le_refl _) _)) ⟨w2.heap.size, 0, none⟩ 1 1 [.int .i64 y] rfl rfl (cell_one_new _ _ _) (by intro u hu; simp at hu; subst hu; rfl) (le_max (by omega)) (by omega) (by simp; omega) ?_; intro av aw ah ag an aa)
            have hbe2 : Below w.heap.size w aw := Below.appended hb2 HO2.out hsz2 ag
            have ho' := Own.appended ah
            clear ah ag an aa
            have HO4 := Lib.hid ho'
            clear ho'
            go_wp2
            go_roundw
            case rel => exact ⟨_, _, _, _, ⟨k + 1, by omega, by go_num, hbe2, by rw [HT2.out]; exact HO4.out, fun j hj => by
              by_cases e : j = k
              · rw [e]; exact HSS.out
              · exact HAL.out j (by omega)⟩, rfl, rfl, rfl, rfl⟩
            case measure => simp [intOf]; omega
    · obtain rfl : k = xs.length := by omega
      have hte : (doorK ds ss (rawL xs) ds.length).take xs.length = doorK ds ss (rawL xs) ds.length := List.take_of_length_le (by rw [HLN.out]; exact Nat.le_refl _)
      rw [hte] at ho
      have HG := Lib.hid (HY.out hal)
      have HO := Lib.hid ho
      clear ho hal
      generalize doorK ds ss (rawL xs) ds.length = D at *
      go_wp2_with fail
      go_ret2
      exact ⟨_, ret_vi (by rw [HG.out]), by rw [HG.out]; exact HO.out, hb⟩
end Go.Proofs.YtejkoicgbgoiaaaGreat
