/- Lists of locks (pairs of doors): when one is valid, by the program and by the reference. Conditions: the facts on memory and on lengths that each theorem names. -/
import Derived.Test.YtlgagnbnjfneaaaFanV
namespace Go.Proofs.Ytlgagnbnjfneaaa
open Go.RowKit
open Pl
theorem drew3 (w : World) (a b c : Nat) : ∃ n, w.drewN n = ((w.drewN a).drewN b).drewN c := ⟨a + (b + c), by rw [World.drewN_drewN, World.drewN_drewN]⟩
def cmpI (a b : Int) : Int := if a < b then -1 else if b < a then 1 else 0
def cmp2 (a b c d : Int) : Int := if a < c then -1 else if c < a then 1 else cmpI b d
/-- A pair stands before another one. -/
def befB (a b c d : Int) : Bool := decide (a < c) || (decide (a = c) && decide (b < d))
theorem cmp2_bef (a b c d : Int) : decide (cmp2 a b c d ≥ 0) = !befB a b c d := by
  unfold cmp2 befB cmpI
  by_cases h1 : a < c
  · rw [if_pos h1, decide_eq_true h1]; rfl
  · rw [if_neg h1, decide_eq_false h1]
    by_cases h2 : c < a
    · rw [if_pos h2, decide_eq_false (show ¬ a = c by omega)]; rfl
    · rw [if_neg h2, decide_eq_true (show a = c by omega)]
      by_cases h3 : b < d
      · rw [if_pos h3, decide_eq_true h3]; rfl
      · rw [if_neg h3, decide_eq_false h3]
        by_cases h4 : d < b
        · rw [if_pos h4]; rfl
        · rw [if_neg h4]; rfl
def ordL (ls : List (List Int)) (q : Nat) : Bool := decide (q = 0) || befB (at2 ls (q - 1) 0) (at2 ls (q - 1) 1) (at2 ls q 0) (at2 ls q 1)
theorem ordL_succ (ls : List (List Int)) (k : Nat) : ordL ls (k + 1) = befB (at2 ls k 0) (at2 ls k 1) (at2 ls (k + 1) 0) (at2 ls (k + 1) 1) := by unfold ordL; simp
def lockP (D : Int) (ls : List (List Int)) (q : Nat) : Bool := decide ((ls.getD q []).length = 2) && (inB (at2 ls q 1) 0 (D - 1) && (inB (at2 ls q 0) 0 (at2 ls q 1 - 1) && ordL ls q))
def locksB (D : Int) (ls : List (List Int)) : Bool := inB D 0 8 && (decide ((ls.length : Int) ≤ 12) && allUp (lockP D ls) ls.length)
theorem isNaN_any (a : Int) (w : World) : Calls Try.prog 170 #[.int .i64 a] w fun e w' => e = .returned (.bool false) ∧ w = w' := by
  go_enter Try.func170, Try.ntmps170
  go_wp2
  go_ret
  exact ⟨ret_bool (by simp), rfl⟩
theorem cmpCompare_any (a b : Int) (w : World) : Calls Try.prog 160 #[.int .i64 a, .int .i64 b] w fun e w' => e = .returned (.int .i64 (cmpI a b)) ∧ w = w' := by
  unfold cmpI
  by_cases h1 : a < b
  · rw [if_pos h1]
    go_enter Try.func160, Try.ntmps160
    go_wp2_with (go_at_call 170; refine (isNaN_any _ _).mono ?_; rintro e w' ⟨rfl, rfl⟩)
    go_ret
    exact ⟨rfl, rfl⟩
  · rw [if_neg h1]
    by_cases h2 : b < a
    · rw [if_pos h2]
      go_enter Try.func160, Try.ntmps160
      go_wp2_with (go_at_call 170; refine (isNaN_any _ _).mono ?_; rintro e w' ⟨rfl, rfl⟩)
      go_ret
      exact ⟨rfl, rfl⟩
    · rw [if_neg h2]
      go_enter Try.func160, Try.ntmps160
      go_wp2_with (go_at_call 170; refine (isNaN_any _ _).mono ?_; rintro e w' ⟨rfl, rfl⟩)
      go_ret
      exact ⟨rfl, rfl⟩
/-- Two pairs compared. -/
theorem slicesCompare_any (b1 o1 c1 b2 o2 c2 : Nat) (x y x' y' : Int) (w : World) (h0 : w.cell? ⟨b1, o1, none⟩ = some (.int .i64 x)) (h1 : w.cell? ⟨b1, o1 + 1, none⟩ = some (.int .i64 y)) (k0 : w.cell? ⟨b2, o2, none⟩ = some (.int .i64 x')) (k1 : w.cell? ⟨b2, o2 + 1, none⟩ = some (.int .i64 y')) :
    Calls Try.prog 134 #[.slice (some ⟨b1, o1, none⟩) 2 c1, .slice (some ⟨b2, o2, none⟩) 2 c2] w fun e w' => e = .returned (.int .i64 (cmp2 x y x' y')) ∧ w = w' := by
  obtain ⟨R, hR⟩ : ∃ R, R = cmp2 x y x' y' := ⟨_, rfl⟩
  rw [← hR]
  have HR := Lib.hid hR
  clear hR
  obtain ⟨N, hN⟩ : ∃ N : Nat, N = 2 := ⟨_, rfl⟩
  have HC := Lib.hid (fun a b W => cmpCompare_any a b W)
  by_cases e0 : cmpI x x' = 0
  rotate_left
  · have HF : Hid (cmp2 x y x' y' = cmpI x x') := Lib.hid (by
      unfold cmp2; unfold cmpI at e0 ⊢
      by_cases h1 : x < x'
      · rw [if_pos h1, if_pos h1]
      · rw [if_neg h1, if_neg h1]
        by_cases h2 : x' < x
        · rw [if_pos h2, if_pos h2]
        · rw [if_neg h1, if_neg h2] at e0; exact absurd rfl e0)
    have HC0 := Lib.hid (fun W => HC.out x x' W)
    generalize cmpI x x' = r at *
    have e1 : ((r : Int) != 0) = true := by simpa using e0
    clear e0 hN
    go_enter Try.func134, Try.ntmps134
    go_wp2
    refine wp_loop_rounds 1 ?_
    rw [rounds_succ]
    go_wp2_with (go_at_call 160; refine (HC0.out _).mono ?_; rintro e w' ⟨rfl, rfl⟩)
    go_ret
    exact ⟨ret_int (by rw [HR.out, HF.out]), rfl⟩
  have ex : x = x' := by
    unfold cmpI at e0
    by_cases h1 : x < x'
    · rw [if_pos h1] at e0; omega
    · rw [if_neg h1] at e0
      by_cases h2 : x' < x
      · rw [if_pos h2] at e0; omega
      · omega
  have HF : Hid (cmp2 x y x' y' = cmpI y y') := Lib.hid (by
    unfold cmp2; rw [if_neg (show ¬ x < x' by omega), if_neg (show ¬ x' < x by omega)])
  have HC0 := Lib.hid (fun W => HC.out x x' W)
  rw [e0] at HC0
  clear e0 ex
  by_cases e1 : cmpI y y' = 0
  rotate_left
  · have HC1 := Lib.hid (fun W => HC.out y y' W)
    generalize cmpI y y' = r at *
    have e2 : ((r : Int) != 0) = true := by simpa using e1
    clear e1 hN
    go_enter Try.func134, Try.ntmps134
    go_wp2
    refine wp_loop_rounds 2 ?_
    rw [rounds_succ]
    go_wp2_with (go_at_call 160; refine (HC0.out _).mono ?_; rintro e w' ⟨rfl, rfl⟩)
    rw [rounds_succ]
    go_wp2_with (go_at_call 160; refine (HC1.out _).mono ?_; rintro e w' ⟨rfl, rfl⟩)
    go_ret
    exact ⟨ret_int (by rw [HR.out, HF.out]), rfl⟩
  · have HC1 := Lib.hid (fun W => HC.out y y' W)
    rw [e1] at HC1 HF
    clear e1 hN
    go_enter Try.func134, Try.ntmps134
    go_wp2
    refine wp_loop_rounds 3 ?_
    rw [rounds_succ]
    go_wp2_with (go_at_call 160; refine (HC0.out _).mono ?_; rintro e w' ⟨rfl, rfl⟩)
    rw [rounds_succ]
    go_wp2_with (go_at_call 160; refine (HC1.out _).mono ?_; rintro e w' ⟨rfl, rfl⟩)
    rw [rounds_succ]
    go_wp2
    go_ret
    exact ⟨ret_int (by rw [HR.out, HF.out]), rfl⟩
set_option maxRecDepth 100000 in
set_option maxHeartbeats 3200000 in
theorem ValidLocks_any (D : Int) (A : Option Addr) (c : Nat) (ls : List (List Int)) (B : Nat) (w : World) (hn : (ls.length : Int) ≤ 1099511627776) (hI : Nest B w A ls) :
    Calls Try.prog 80 #[.int .i64 D, .slice A ls.length c] w fun e w' => e = .returned (.bool (locksB D ls)) ∧ ∃ n, w.drewN n = w' := by
  obtain ⟨R, hR⟩ : ∃ R, R = locksB D ls := ⟨_, rfl⟩
  rw [← hR]
  have HR := Lib.hid hR
  clear hR
  have J0 := Lib.hid hI
  clear hI
  cases hd : inB D 0 8
  · have HN : Hid (locksB D ls = false) := Lib.hid (by unfold locksB; rw [hd]; rfl)
    go_enter Try.func80, Try.ntmps80
    go_wp2_with (go_at_call 54; refine (eqb (within_any _ _ _ _) hd).mono ?_; rintro e w' ⟨rfl, rfl⟩)
    go_ret
    exact ⟨ret_bool (by rw [HR.out, HN.out]), 0, rfl⟩
  obtain ⟨d1, d2⟩ := inB_iff.1 hd
  by_cases h12 : (ls.length : Int) ≤ 12
  rotate_left
  · have HN : Hid (locksB D ls = false) := Lib.hid (by unfold locksB; rw [decide_eq_false h12]; simp)
    go_enter Try.func80, Try.ntmps80
    go_wp2_with (go_at_call 54; refine (eqb (within_any _ _ _ _) hd).mono ?_; rintro e w' ⟨rfl, rfl⟩)
    go_ret
    exact ⟨ret_bool (by rw [HR.out, HN.out]), 0, rfl⟩
  obtain ⟨m, m1, m2, m3⟩ := first_stop (lockP D ls) ls.length
  have HM : Hid (locksB D ls = decide (m = ls.length)) := Lib.hid (by unfold locksB; rw [hd, decide_eq_true h12, allUp_stop m1 m2 m3]; rfl)
  have M2 := Lib.hid m2
  have M3 := Lib.hid m3
  clear m2 m3
  go_enter Try.func80, Try.ntmps80
  go_wp2_with (go_at_call 54; refine (eqb (within_any _ _ _ _) hd).mono ?_; rintro e w' ⟨rfl, rfl⟩)
  clear hd
  go_loopw [17] (fun i wr => ∃ q : Nat, q ≤ m ∧ i = .int .i64 q ∧ ∃ n, w.drewN n = wr) (fun i _ => ls.length - (intOf i).toNat)
  case atStart => exact ⟨0, Nat.zero_le _, rfl, 0, rfl⟩
  case round =>
    obtain ⟨q, hq, rfl, n, rfl⟩ := hrel
    by_cases hlt : q < ls.length
    · have i0 : (0 : Int) ≤ (q : Int) := by omega
      have i1 : (q : Int) < ls.length := by omega
      have HT : Hid (lockP D ls q = true → q + 1 ≤ m) := Lib.hid (fun h => by
        rcases Nat.lt_or_ge q m with h' | h'
        · exact h'
        · have e : m = q := by omega
          have := M3.out (by omega)
          rw [e, h] at this; cases this)
      have HFa : Hid (lockP D ls q = false → decide (m = ls.length) = false) := Lib.hid (fun h => decide_eq_false (by
        intro e
        have := M2.out q (by omega)
        rw [h] at this; cases this))
      have HPq : Hid (lockP D ls q = (decide ((ls.getD q []).length = 2) && (inB (at2 ls q 1) 0 (D - 1) && (inB (at2 ls q 0) 0 (at2 ls q 1 - 1) && ordL ls q)))) := Lib.hid rfl
      have HPr : Hid (∀ p, p < q → (ls.getD p []).length = 2) := Lib.hid (fun p hp => by
        have := M2.out p (by omega)
        unfold lockP at this
        rw [Bool.and_eq_true] at this
        exact of_decide_eq_true this.1)
      by_cases h2 : (ls.getD q []).length = 2
      rotate_left
      · have HD := Lib.hid (HFa.out (by rw [HPq.out, decide_eq_false h2]; rfl))
        obtain ⟨b, o, rfl, -, A', c', hc, -⟩ := J0.out.atD hlt
        have h2b : (((ls.getD q []).length : Int) == 2) = false := by rw [beq_eq_false_iff_ne]; omega
        generalize (ls.getD q []).length = ln at *
        have HY := Lib.hid (fun W => within_any 0 0 100000 W)
        have h2n : ((ln : Int) != 2) = true := by rw [bne, h2b]; rfl
        clear h2 h2b
        go_wp2
        go_big_quiet ((go_at_call 54; first | (with_reducible exact quiet_s (HY.out _)) | (with_reducible exact quiet_s2 (HY.out _))))
        go_wp2
        go_ret
        exact ⟨ret_bool (by rw [HR.out, HM.out, HD.out]), _, (World.drewN_drewN _ _ _).symm⟩
      obtain ⟨x, y, hxy⟩ := pair_of h2
      have hx0 : at2 ls q 0 = x := by unfold at2; rw [hxy]; rfl
      have hx1 : at2 ls q 1 = y := by unfold at2; rw [hxy]; rfl
      obtain ⟨b, o, b1, o1, c1, rfl, -, -, hc, c0, c1'⟩ := J0.out.pair hlt hxy
      rw [decide_eq_true h2, hx0, hx1, Bool.true_and] at HPq
      have HX := Lib.hid (fun W => within_any x 0 (y - 1) W)
      have HY := Lib.hid (fun W => within_any y 0 (D - 1) W)
      clear h2
      cases p1 : inB y 0 (D - 1)
      · rw [p1] at HY
        have HD := Lib.hid (HFa.out (by rw [HPq.out, p1]; rfl))
        clear p1 hxy hx0 hx1
        go_wp2
        go_big_quiet ((go_at_call 54; first | (with_reducible exact quiet_s (HY.out _)) | (with_reducible exact quiet_s2 (HY.out _))))
        go_wp2
        go_ret
        exact ⟨ret_bool (by rw [HR.out, HM.out, HD.out]), _, (World.drewN_drewN _ _ _).symm⟩
      rw [p1] at HY
      obtain ⟨y1, y2⟩ := inB_iff.1 p1
      cases p2 : inB x 0 (y - 1)
      · rw [p2] at HX
        have HD := Lib.hid (HFa.out (by rw [HPq.out, p1, p2]; rfl))
        clear p1 p2 hxy hx0 hx1
        go_wp2
        go_big_quiet (first | (go_at_call 54; first | (with_reducible exact quiet_s (HX.out _)) | (with_reducible exact quiet_s2 (HX.out _))) | (go_at_call 54; first | (with_reducible exact quiet_s (HY.out _)) | (with_reducible exact quiet_s2 (HY.out _))))
        go_wp2
        go_ret
        exact ⟨ret_bool (by rw [HR.out, HM.out, HD.out]), _, (World.drewN_drewN _ _ _).symm⟩
      rw [p2] at HX
      rw [p1, p2, Bool.true_and, Bool.true_and] at HPq
      by_cases hq0 : q = 0
      · have hz0 : decide (0 < q) = false := decide_eq_false (by omega)
        have HG := Lib.hid (HT.out (by rw [HPq.out]; unfold ordL; rw [decide_eq_true hq0]; rfl))
        clear p1 p2 hxy hx0 hx1 hq0
        go_wp2
        go_big_quiet (first | (go_at_call 54; first | (with_reducible exact quiet_s (HX.out _)) | (with_reducible exact quiet_s2 (HX.out _))) | (go_at_call 54; first | (with_reducible exact quiet_s (HY.out _)) | (with_reducible exact quiet_s2 (HY.out _))))
        go_wp2
        go_roundw
        case rel => exact ⟨q + 1, HG.out, by go_num, _, rfl⟩
        case measure => simp [intOf]; omega
      · obtain ⟨p, hpq⟩ : ∃ p, q = p + 1 := ⟨q - 1, by omega⟩
        have hz0 : decide (0 < q) = true := decide_eq_true (by omega)
        obtain ⟨x', y', hxy'⟩ := pair_of (HPr.out p (by omega))
        obtain ⟨b', o', b2, o2, c2, hbo, -, -, hd, d0, d1'⟩ := J0.out.pair (k := p) (by omega) hxy'
        cases hbo
        have hs : ordL ls q = befB x' y' x y := by
          have hx0' : at2 ls p 0 = x' := by unfold at2; rw [hxy']; rfl
          have hx1' : at2 ls p 1 = y' := by unfold at2; rw [hxy']; rfl
          rw [hpq, ordL_succ, ← hpq, hx0, hx1, hx0', hx1']
        rw [hs] at HPq
        have w0 : (0 : Int) ≤ (p : Int) := by omega
        have w1 : (p : Int) < ls.length := by omega
        have hw : IntKind.i64.wrap ((q : Int) - 1) = (p : Int) := by rw [IntWalk.i64_in _ (by omega)]; omega
        clear p1 p2 hxy hx0 hx1 hq0 hxy' hs hpq
        have HK := Lib.hid (fun W (u0 : W.cell? ⟨b2, o2, none⟩ = some (.int .i64 x')) (u1 : W.cell? ⟨b2, o2 + 1, none⟩ = some (.int .i64 y')) (v0 : W.cell? ⟨b1, o1, none⟩ = some (.int .i64 x)) (v1 : W.cell? ⟨b1, o1 + 1, none⟩ = some (.int .i64 y)) => slicesCompare_any b2 o2 c2 b1 o1 c1 x' y' x y W u0 u1 v0 v1)
        have hcb := cmp2_bef x' y' x y
        generalize cmp2 x' y' x y = r at *
        have HK := Lib.hid (fun (n : Nat) => HK.out (w.drewN n) (by simpa using d0) (by simpa using d1') (by simpa using c0) (by simpa using c1'))
        cases ho : befB x' y' x y
        · have HD := Lib.hid (HFa.out (by rw [HPq.out, ho]))
          rw [ho] at hcb
          have hcb : decide (0 ≤ r) = true := hcb
          clear ho
          go_wp2
          go_big_quiet (first | (go_at_call 54; first | (with_reducible exact quiet_s (HX.out _)) | (with_reducible exact quiet_s2 (HX.out _))) | (go_at_call 54; first | (with_reducible exact quiet_s (HY.out _)) | (with_reducible exact quiet_s2 (HY.out _))) | (go_at_call 134; first | (with_reducible exact quiet_s (HK.out _)) | (with_reducible exact quiet_s2 (HK.out _))))
          clear hw
          go_wp2
          go_ret
          exact ⟨ret_bool (by rw [HR.out, HM.out, HD.out]), _, (World.drewN_drewN _ _ _).symm⟩
        · have HG := Lib.hid (HT.out (by rw [HPq.out, ho]))
          rw [ho] at hcb
          have hcb : decide (0 ≤ r) = false := hcb
          clear ho
          go_wp2
          go_big_quiet (first | (go_at_call 54; first | (with_reducible exact quiet_s (HX.out _)) | (with_reducible exact quiet_s2 (HX.out _))) | (go_at_call 54; first | (with_reducible exact quiet_s (HY.out _)) | (with_reducible exact quiet_s2 (HY.out _))) | (go_at_call 134; first | (with_reducible exact quiet_s (HK.out _)) | (with_reducible exact quiet_s2 (HK.out _))))
          clear hw
          go_wp2
          go_roundw
          case rel => exact ⟨q + 1, HG.out, by go_num, _, rfl⟩
          case measure => simp [intOf]; omega
    · have HD := Lib.hid (decide_eq_true (show m = ls.length by omega))
      go_wp2
      go_ret
      exact ⟨ret_bool (by rw [HR.out, HM.out, HD.out]), _, rfl⟩
set_option maxRecDepth 100000 in
set_option maxHeartbeats 3200000 in
theorem l10Locks_any (D : Int) (A : Option Addr) (c : Nat) (ls : List (List Int)) (B : Nat) (w : World) (hn : (ls.length : Int) ≤ 1099511627776) (hI : Nest B w A ls) :
    Calls Try.prog 125 #[.int .i64 D, .slice A ls.length c] w fun e w' => e = .returned (.bool (locksB D ls)) ∧ ∃ n, w.drewN n = w' := by
  obtain ⟨R, hR⟩ : ∃ R, R = locksB D ls := ⟨_, rfl⟩
  rw [← hR]
  have HR := Lib.hid hR
  clear hR
  have J0 := Lib.hid hI
  clear hI
  cases hd : inB D 0 8
  · have HN : Hid (locksB D ls = false) := Lib.hid (by unfold locksB; rw [hd]; rfl)
    go_enter Try.func125, Try.ntmps125
    go_wp2_with (go_at_call 60; refine (eqb (l00In_any _ _ _ _) hd).mono ?_; rintro e w' ⟨rfl, rfl⟩)
    go_ret
    exact ⟨ret_bool (by rw [HR.out, HN.out]), 0, rfl⟩
  obtain ⟨d1, d2⟩ := inB_iff.1 hd
  by_cases h12 : (ls.length : Int) ≤ 12
  rotate_left
  · have HN : Hid (locksB D ls = false) := Lib.hid (by unfold locksB; rw [decide_eq_false h12]; simp)
    go_enter Try.func125, Try.ntmps125
    go_wp2_with (go_at_call 60; refine (eqb (l00In_any _ _ _ _) hd).mono ?_; rintro e w' ⟨rfl, rfl⟩)
    go_ret
    exact ⟨ret_bool (by rw [HR.out, HN.out]), 0, rfl⟩
  obtain ⟨m, m1, m2, m3⟩ := first_stop (lockP D ls) ls.length
  have HM : Hid (locksB D ls = decide (m = ls.length)) := Lib.hid (by unfold locksB; rw [hd, decide_eq_true h12, allUp_stop m1 m2 m3]; rfl)
  have M2 := Lib.hid m2
  have M3 := Lib.hid m3
  clear m2 m3
  go_enter Try.func125, Try.ntmps125
  go_wp2_with (go_at_call 60; refine (eqb (l00In_any _ _ _ _) hd).mono ?_; rintro e w' ⟨rfl, rfl⟩)
  clear hd
  go_loopw [5] (fun i wr => ∃ q : Nat, q ≤ m ∧ i = .int .i64 q ∧ ∃ n, w.drewN n = wr) (fun i _ => ls.length - (intOf i).toNat)
  case atStart => exact ⟨0, Nat.zero_le _, rfl, 0, rfl⟩
  case round =>
    obtain ⟨q, hq, rfl, n, rfl⟩ := hrel
    by_cases hlt : q < ls.length
    · have i0 : (0 : Int) ≤ (q : Int) := by omega
      have i1 : (q : Int) < ls.length := by omega
      have HT : Hid (lockP D ls q = true → q + 1 ≤ m) := Lib.hid (fun h => by
        rcases Nat.lt_or_ge q m with h' | h'
        · exact h'
        · have e : m = q := by omega
          have := M3.out (by omega)
          rw [e, h] at this; cases this)
      have HFa : Hid (lockP D ls q = false → decide (m = ls.length) = false) := Lib.hid (fun h => decide_eq_false (by
        intro e
        have := M2.out q (by omega)
        rw [h] at this; cases this))
      have HPq : Hid (lockP D ls q = (decide ((ls.getD q []).length = 2) && (inB (at2 ls q 1) 0 (D - 1) && (inB (at2 ls q 0) 0 (at2 ls q 1 - 1) && ordL ls q)))) := Lib.hid rfl
      have HPr : Hid (∀ p, p < q → (ls.getD p []).length = 2) := Lib.hid (fun p hp => by
        have := M2.out p (by omega)
        unfold lockP at this
        rw [Bool.and_eq_true] at this
        exact of_decide_eq_true this.1)
      by_cases h2 : (ls.getD q []).length = 2
      rotate_left
      · have HD := Lib.hid (HFa.out (by rw [HPq.out, decide_eq_false h2]; rfl))
        obtain ⟨b, o, rfl, -, A', c', hc, -⟩ := J0.out.atD hlt
        have h2b : (((ls.getD q []).length : Int) == 2) = false := by rw [beq_eq_false_iff_ne]; omega
        generalize (ls.getD q []).length = ln at *
        have HY := Lib.hid (fun W => l00In_any 0 0 100000 W)
        have h2n : ((ln : Int) != 2) = true := by rw [bne, h2b]; rfl
        clear h2 h2b
        go_wp2
        go_big_quiet ((go_at_call 60; first | (with_reducible exact quiet_s (HY.out _)) | (with_reducible exact quiet_s2 (HY.out _))))
        go_wp2
        go_ret
        exact ⟨ret_bool (by rw [HR.out, HM.out, HD.out]), _, (World.drewN_drewN _ _ _).symm⟩
      obtain ⟨x, y, hxy⟩ := pair_of h2
      have hx0 : at2 ls q 0 = x := by unfold at2; rw [hxy]; rfl
      have hx1 : at2 ls q 1 = y := by unfold at2; rw [hxy]; rfl
      obtain ⟨b, o, b1, o1, c1, rfl, -, -, hc, c0, c1'⟩ := J0.out.pair hlt hxy
      rw [decide_eq_true h2, hx0, hx1, Bool.true_and] at HPq
      have HX := Lib.hid (fun W => l00In_any x 0 (y - 1) W)
      have HY := Lib.hid (fun W => l00In_any y 0 (D - 1) W)
      clear h2
      cases p1 : inB y 0 (D - 1)
      · rw [p1] at HY
        have HD := Lib.hid (HFa.out (by rw [HPq.out, p1]; rfl))
        clear p1 hxy hx0 hx1
        go_wp2
        go_big_quiet ((go_at_call 60; first | (with_reducible exact quiet_s (HY.out _)) | (with_reducible exact quiet_s2 (HY.out _))))
        go_wp2
        go_ret
        exact ⟨ret_bool (by rw [HR.out, HM.out, HD.out]), _, (World.drewN_drewN _ _ _).symm⟩
      rw [p1] at HY
      obtain ⟨y1, y2⟩ := inB_iff.1 p1
      cases p2 : inB x 0 (y - 1)
      · rw [p2] at HX
        have HD := Lib.hid (HFa.out (by rw [HPq.out, p1, p2]; rfl))
        clear p1 p2 hxy hx0 hx1
        go_wp2
        go_big_quiet (first | (go_at_call 60; first | (with_reducible exact quiet_s (HX.out _)) | (with_reducible exact quiet_s2 (HX.out _))) | (go_at_call 60; first | (with_reducible exact quiet_s (HY.out _)) | (with_reducible exact quiet_s2 (HY.out _))))
        go_wp2
        go_ret
        exact ⟨ret_bool (by rw [HR.out, HM.out, HD.out]), _, (World.drewN_drewN _ _ _).symm⟩
      rw [p2] at HX
      rw [p1, p2, Bool.true_and, Bool.true_and] at HPq
      by_cases hq0 : q = 0
      · have hz0 : decide (0 < q) = false := decide_eq_false (by omega)
        have HG := Lib.hid (HT.out (by rw [HPq.out]; unfold ordL; rw [decide_eq_true hq0]; rfl))
        clear p1 p2 hxy hx0 hx1 hq0
        go_wp2
        go_big_quiet (first | (go_at_call 60; first | (with_reducible exact quiet_s (HX.out _)) | (with_reducible exact quiet_s2 (HX.out _))) | (go_at_call 60; first | (with_reducible exact quiet_s (HY.out _)) | (with_reducible exact quiet_s2 (HY.out _))))
        go_wp2
        go_big_quiet (fail)
        go_wp2
        go_roundw
        case rel => exact ⟨q + 1, HG.out, by go_num, _, rfl⟩
        case measure => simp [intOf]; omega
      · obtain ⟨p, hpq⟩ : ∃ p, q = p + 1 := ⟨q - 1, by omega⟩
        have hz0 : decide (0 < q) = true := decide_eq_true (by omega)
        obtain ⟨x', y', hxy'⟩ := pair_of (HPr.out p (by omega))
        obtain ⟨b', o', b2, o2, c2, hbo, -, -, hd, d0, d1'⟩ := J0.out.pair (k := p) (by omega) hxy'
        cases hbo
        have hs : ordL ls q = befB x' y' x y := by
          have hx0' : at2 ls p 0 = x' := by unfold at2; rw [hxy']; rfl
          have hx1' : at2 ls p 1 = y' := by unfold at2; rw [hxy']; rfl
          rw [hpq, ordL_succ, ← hpq, hx0, hx1, hx0', hx1']
        rw [hs] at HPq
        have w0 : (0 : Int) ≤ (p : Int) := by omega
        have w1 : (p : Int) < ls.length := by omega
        have hw : IntKind.i64.wrap ((q : Int) - 1) = (p : Int) := by rw [IntWalk.i64_in _ (by omega)]; omega
        clear p1 p2 hxy hx0 hx1 hq0 hxy' hs hpq
        rcases Int.lt_trichotomy x' x with k1 | k1 | k1
        · have e1 : decide (x < x') = false := decide_eq_false (by omega)
          have e2 : (x' == x) = false := by rw [beq_eq_false_iff_ne]; omega
          have HG := Lib.hid (HT.out (by rw [HPq.out]; unfold befB; rw [decide_eq_true k1]; rfl))
          go_wp2
          go_big_quiet (first | (go_at_call 60; first | (with_reducible exact quiet_s (HX.out _)) | (with_reducible exact quiet_s2 (HX.out _))) | (go_at_call 60; first | (with_reducible exact quiet_s (HY.out _)) | (with_reducible exact quiet_s2 (HY.out _))))
          go_wp2
          go_big_quiet (fail)
          clear hw
          go_wp2
          go_roundw
          case rel => exact ⟨q + 1, HG.out, by go_num, _, rfl⟩
          case measure => simp [intOf]; omega
        · have e1 : decide (x < x') = false := decide_eq_false (by omega)
          have e2 : (x' == x) = true := by rw [beq_iff_eq]; omega
          by_cases k2 : y' < y
          · have e3 : decide (y ≤ y') = false := decide_eq_false (by omega)
            have HG := Lib.hid (HT.out (by rw [HPq.out]; unfold befB; rw [decide_eq_true k1, decide_eq_true k2]; simp))
            go_wp2
            go_big_quiet (first | (go_at_call 60; first | (with_reducible exact quiet_s (HX.out _)) | (with_reducible exact quiet_s2 (HX.out _))) | (go_at_call 60; first | (with_reducible exact quiet_s (HY.out _)) | (with_reducible exact quiet_s2 (HY.out _))))
            go_wp2
            go_big_quiet (fail)
            clear hw
            go_wp2
            go_roundw
            case rel => exact ⟨q + 1, HG.out, by go_num, _, rfl⟩
            case measure => simp [intOf]; omega
          · have e3 : decide (y ≤ y') = true := decide_eq_true (by omega)
            have HD := Lib.hid (HFa.out (by rw [HPq.out]; unfold befB; rw [decide_eq_false (show ¬ x' < x by omega), decide_eq_false k2]; simp))
            go_wp2
            go_big_quiet (first | (go_at_call 60; first | (with_reducible exact quiet_s (HX.out _)) | (with_reducible exact quiet_s2 (HX.out _))) | (go_at_call 60; first | (with_reducible exact quiet_s (HY.out _)) | (with_reducible exact quiet_s2 (HY.out _))))
            go_wp2
            go_big_quiet (fail)
            clear hw
            go_wp2
            go_ret
            exact ⟨ret_bool (by rw [HR.out, HM.out, HD.out]), drew3 _ _ _ _⟩
        · have e1 : decide (x < x') = true := decide_eq_true (by omega)
          have HD := Lib.hid (HFa.out (by rw [HPq.out]; unfold befB; rw [decide_eq_false (show ¬ x' < x by omega), decide_eq_false (show ¬ x' = x by omega)]; rfl))
          go_wp2
          go_big_quiet (first | (go_at_call 60; first | (with_reducible exact quiet_s (HX.out _)) | (with_reducible exact quiet_s2 (HX.out _))) | (go_at_call 60; first | (with_reducible exact quiet_s (HY.out _)) | (with_reducible exact quiet_s2 (HY.out _))))
          go_wp2
          go_big_quiet (fail)
          clear hw
          go_wp2
          go_ret
          exact ⟨ret_bool (by rw [HR.out, HM.out, HD.out]), drew3 _ _ _ _⟩
    · have HD := Lib.hid (decide_eq_true (show m = ls.length by omega))
      go_wp2
      go_ret
      exact ⟨ret_bool (by rw [HR.out, HM.out, HD.out]), _, rfl⟩
end Go.Proofs.Ytlgagnbnjfneaaa
