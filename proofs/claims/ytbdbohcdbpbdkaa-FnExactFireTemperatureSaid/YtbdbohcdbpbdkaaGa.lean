/- Contracts of the functions on a fire's push, shares of gas, dust, rock and heat, the program's and the reference's; and the walks of their laws. Conditions: the bounds that each theorem names. -/
import Derived.Test.YtbdbohcdbpbdkaaBase
namespace Go.Proofs.Ytbdbohcdbpbdkaa
open Go.RowKit
open Pl

/-! ### The push that stops the air -/
def criticalF (a b p : Int) : Int × Int := if inB a 1 1000000 && (inB b 1 1000000 && inB p 0 100000) then (divU (a * p) b, 0) else (0, 2)
theorem CriticalPush_i (a b p : Int) (w : World) :
    Calls Try.prog 15 #[.int .i64 a, .int .i64 b, .int .i64 p] w fun e w' => e = .returned (.tuple #[.int .i64 (criticalF a b p).1, .int .i64 (criticalF a b p).2]) ∧ ∃ n, w.drewN n = w' := by
  unfold criticalF
  cases h1 : inB a 1 1000000
  · go_enter Try.func15, Try.ntmps15
    go_wp2_with (first | (go_at_call 43; refine (resistanceOk_any _ _).mono ?_; rintro e w' ⟨rfl, rfl⟩) | (go_at_call 44; refine (within_any _ _ _ _).mono ?_; rintro e w' ⟨rfl, rfl⟩))
    go_ret2
    exact ⟨by simp, 0, rfl⟩
  · cases h2 : inB b 1 1000000
    · go_enter Try.func15, Try.ntmps15
      go_wp2_with (first | (go_at_call 43; refine (resistanceOk_any _ _).mono ?_; rintro e w' ⟨rfl, rfl⟩) | (go_at_call 44; refine (within_any _ _ _ _).mono ?_; rintro e w' ⟨rfl, rfl⟩))
      go_ret2
      exact ⟨by simp, 0, rfl⟩
    · cases h3 : inB p 0 100000
      · go_enter Try.func15, Try.ntmps15
        go_wp2_with (first | (go_at_call 43; refine (resistanceOk_any _ _).mono ?_; rintro e w' ⟨rfl, rfl⟩) | (go_at_call 44; refine (within_any _ _ _ _).mono ?_; rintro e w' ⟨rfl, rfl⟩))
        go_ret2
        exact ⟨by simp, 0, rfl⟩
      · obtain ⟨h1a, h1b⟩ := inB_iff.1 h1
        obtain ⟨h2a, h2b⟩ := inB_iff.1 h2
        obtain ⟨h3a, h3b⟩ := inB_iff.1 h3
        have m1 := mul_le (by omega : 0 ≤ a) h1b h3a h3b
        have m2 := mul_ge (by omega : 0 ≤ a) h3a
        go_enter Try.func15, Try.ntmps15
        go_wp2_with (first | (go_at_call 43; refine (resistanceOk_any _ _).mono ?_; rintro e w' ⟨rfl, rfl⟩) | (go_at_call 44; refine (within_any _ _ _ _).mono ?_; rintro e w' ⟨rfl, rfl⟩) | (go_at_call 45; refine (divUp_any _ _ _ (by omega) (by omega) (by omega) (by omega)).mono ?_; rintro e w' ⟨rfl, rfl⟩))
        go_ret2
        exact ⟨by simp, 0, rfl⟩
theorem CriticalPush_s (a b p : Int) (w : World) :
    Calls Try.prog 14 #[.int .i64 a, .int .i64 b, .int .i64 p] w fun e w' => e = .returned (.tuple #[.int .i64 (criticalF a b p).1, .int .i64 (criticalF a b p).2]) ∧ ∃ n, w.drewN n = w' := by
  unfold criticalF
  cases h1 : inB a 1 1000000
  · go_enter Try.func14, Try.ntmps14
    go_wp2_with (first | (go_at_call 41; refine (l03Res_any _ _).mono ?_; rintro e w' ⟨rfl, rfl⟩) | (go_at_call 42; refine (l00In_any _ _ _ _).mono ?_; rintro e w' ⟨rfl, rfl⟩))
    go_ret2
    exact ⟨by simp, 0, rfl⟩
  · cases h2 : inB b 1 1000000
    · go_enter Try.func14, Try.ntmps14
      go_wp2_with (first | (go_at_call 41; refine (l03Res_any _ _).mono ?_; rintro e w' ⟨rfl, rfl⟩) | (go_at_call 42; refine (l00In_any _ _ _ _).mono ?_; rintro e w' ⟨rfl, rfl⟩))
      go_ret2
      exact ⟨by simp, 0, rfl⟩
    · cases h3 : inB p 0 100000
      · go_enter Try.func14, Try.ntmps14
        go_wp2_with (first | (go_at_call 41; refine (l03Res_any _ _).mono ?_; rintro e w' ⟨rfl, rfl⟩) | (go_at_call 42; refine (l00In_any _ _ _ _).mono ?_; rintro e w' ⟨rfl, rfl⟩))
        go_ret2
        exact ⟨by simp, 0, rfl⟩
      · obtain ⟨h1a, h1b⟩ := inB_iff.1 h1
        obtain ⟨h2a, h2b⟩ := inB_iff.1 h2
        obtain ⟨h3a, h3b⟩ := inB_iff.1 h3
        have m1 := mul_le (by omega : 0 ≤ a) h1b h3a h3b
        have m2 := mul_ge (by omega : 0 ≤ a) h3a
        go_enter Try.func14, Try.ntmps14
        go_wp2_with (first | (go_at_call 41; refine (l03Res_any _ _).mono ?_; rintro e w' ⟨rfl, rfl⟩) | (go_at_call 42; refine (l00In_any _ _ _ _).mono ?_; rintro e w' ⟨rfl, rfl⟩))
        go_ret2
        exact ⟨by simp [divU], 0, rfl⟩
theorem fnExactCriticalPush_walk (a0 : Int) (_ : -9223372036854775808 ≤ a0 ∧ a0 ≤ 9223372036854775807) (a1 : Int) (_ : -9223372036854775808 ≤ a1 ∧ a1 ≤ 9223372036854775807) (a2 : Int) (_ : -9223372036854775808 ≤ a2 ∧ a2 ≤ 9223372036854775807) (w : World) :
    Calls Try.prog 3 #[.int .i64 a0, .int .i64 a1, .int .i64 a2] w fun e w' => e = .returned (.bool true) ∧ Below w.heap.size w w' := by
  go_enter Try.func3, Try.ntmps3
  go_wp2_with (first | (go_at_call 14; refine (CriticalPush_s _ _ _ _).mono ?_; rintro e w' ⟨rfl, _, rfl⟩) | (go_at_call 15; refine (CriticalPush_i _ _ _ _).mono ?_; rintro e w' ⟨rfl, _, rfl⟩))
  go_ret
  exact ⟨rfl, below_drewN (Below.refl _ _) _⟩

/-! ### The share of gas -/
def shareF (rate flow : Int) : Int := mn 1000000 (divU (100 * rate) flow)
theorem shareF_nonneg {r q : Int} (h : 0 ≤ r) (h2 : 1 ≤ q) : 0 ≤ shareF r q := by
  unfold shareF
  rcases mn_or 1000000 (divU (100 * r) q) with e | e <;> rw [e]
  · omega
  · exact divU_nonneg (by omega) h2
theorem shareOf_any (r q : Int) (w : World) (h1 : 0 ≤ r) (h2 : r ≤ 10000000) (h3 : 1 ≤ q) (h4 : q ≤ 100000) :
    Calls Try.prog 50 #[.int .i64 r, .int .i64 q] w fun e w' => e = .returned (.int .i64 (shareF r q)) ∧ w = w' := by
  unfold shareF
  by_cases hc : divU (100 * r) q ≤ 1000000
  · rw [mn_eq_right hc]
    go_enter Try.func50, Try.ntmps50
    go_wp2_with (go_at_call 45; refine (divUp_any _ _ _ (by omega) (by omega) (by omega) (by omega)).mono ?_; rintro e w' ⟨rfl, rfl⟩)
    go_ret
    exact ⟨ret_int (by omega), rfl⟩
  · rw [mn_eq_left (by omega)]
    go_enter Try.func50, Try.ntmps50
    go_wp2_with (go_at_call 45; refine (divUp_any _ _ _ (by omega) (by omega) (by omega) (by omega)).mono ?_; rintro e w' ⟨rfl, rfl⟩)
    go_ret
    exact ⟨ret_int (by omega), rfl⟩
theorem l13Share_any (r q : Int) (w : World) (h1 : 0 ≤ r) (h2 : r ≤ 10000000) (h3 : 1 ≤ q) (h4 : q ≤ 100000) :
    Calls Try.prog 48 #[.int .i64 r, .int .i64 q] w fun e w' => e = .returned (.int .i64 (shareF r q)) ∧ w = w' := by
  unfold shareF divU
  go_enter Try.func48, Try.ntmps48
  go_wp2_with (go_at_call 56; refine (l00Min_any _ _ _).mono ?_; rintro e w' ⟨rfl, rfl⟩)
  go_ret
  exact ⟨rfl, rfl⟩
def shareForF (r q : Int) : Int × Int := if inB r 0 10000000 && inB q 0 100000 then (if q = 0 then (0, 6) else (shareF r q, 0)) else (0, 2)
theorem ShareFor_i (r q : Int) (w : World) :
    Calls Try.prog 22 #[.int .i64 r, .int .i64 q] w fun e w' => e = .returned (.tuple #[.int .i64 (shareForF r q).1, .int .i64 (shareForF r q).2]) ∧ ∃ n, w.drewN n = w' := by
  unfold shareForF
  cases h1 : inB r 0 10000000
  · go_enter Try.func22, Try.ntmps22
    go_wp2_with (first | (go_at_call 49; refine (rateOk_any _ _).mono ?_; rintro e w' ⟨rfl, rfl⟩) | (go_at_call 44; refine (within_any _ _ _ _).mono ?_; rintro e w' ⟨rfl, rfl⟩))
    go_ret2
    exact ⟨by simp, 0, rfl⟩
  · cases h2 : inB q 0 100000
    · go_enter Try.func22, Try.ntmps22
      go_wp2_with (first | (go_at_call 49; refine (rateOk_any _ _).mono ?_; rintro e w' ⟨rfl, rfl⟩) | (go_at_call 44; refine (within_any _ _ _ _).mono ?_; rintro e w' ⟨rfl, rfl⟩))
      go_ret2
      exact ⟨by simp, 0, rfl⟩
    · obtain ⟨h1a, h1b⟩ := inB_iff.1 h1
      obtain ⟨h2a, h2b⟩ := inB_iff.1 h2
      by_cases hz : q = 0
      · subst hz
        go_enter Try.func22, Try.ntmps22
        go_wp2_with (first | (go_at_call 49; refine (rateOk_any _ _).mono ?_; rintro e w' ⟨rfl, rfl⟩) | (go_at_call 44; refine (within_any _ _ _ _).mono ?_; rintro e w' ⟨rfl, rfl⟩))
        go_ret2
        exact ⟨by simp, 0, rfl⟩
      · rw [if_neg hz]
        have hz' : (q == 0) = false := by simp [hz]
        have hq : 1 ≤ q := by omega
        clear hz
        go_enter Try.func22, Try.ntmps22
        go_wp2_with (first | (go_at_call 49; refine (rateOk_any _ _).mono ?_; rintro e w' ⟨rfl, rfl⟩) | (go_at_call 44; refine (within_any _ _ _ _).mono ?_; rintro e w' ⟨rfl, rfl⟩) | (go_at_call 50; refine (shareOf_any _ _ _ (by omega) (by omega) (by omega) (by omega)).mono ?_; rintro e w' ⟨rfl, rfl⟩))
        go_ret2
        exact ⟨by simp, 0, rfl⟩
theorem ShareFor_s (r q : Int) (w : World) :
    Calls Try.prog 21 #[.int .i64 r, .int .i64 q] w fun e w' => e = .returned (.tuple #[.int .i64 (shareForF r q).1, .int .i64 (shareForF r q).2]) ∧ ∃ n, w.drewN n = w' := by
  unfold shareForF
  cases h1 : inB r 0 10000000
  · go_enter Try.func21, Try.ntmps21
    go_wp2_with (go_at_call 42; refine (l00In_any _ _ _ _).mono ?_; rintro e w' ⟨rfl, rfl⟩)
    go_ret2
    exact ⟨by simp, 0, rfl⟩
  · cases h2 : inB q 0 100000
    · go_enter Try.func21, Try.ntmps21
      go_wp2_with (go_at_call 42; refine (l00In_any _ _ _ _).mono ?_; rintro e w' ⟨rfl, rfl⟩)
      go_ret2
      exact ⟨by simp, 0, rfl⟩
    · obtain ⟨h1a, h1b⟩ := inB_iff.1 h1
      obtain ⟨h2a, h2b⟩ := inB_iff.1 h2
      by_cases hz : q = 0
      · subst hz
        go_enter Try.func21, Try.ntmps21
        go_wp2_with (go_at_call 42; refine (l00In_any _ _ _ _).mono ?_; rintro e w' ⟨rfl, rfl⟩)
        go_ret2
        exact ⟨by simp, 0, rfl⟩
      · rw [if_neg hz]
        have hz' : (q == 0) = false := by simp [hz]
        have hq : 1 ≤ q := by omega
        clear hz
        go_enter Try.func21, Try.ntmps21
        go_wp2_with (first | (go_at_call 42; refine (l00In_any _ _ _ _).mono ?_; rintro e w' ⟨rfl, rfl⟩) | (go_at_call 48; refine (l13Share_any _ _ _ (by omega) (by omega) (by omega) (by omega)).mono ?_; rintro e w' ⟨rfl, rfl⟩))
        go_ret2
        exact ⟨by simp, 0, rfl⟩
theorem fnExactShareFor_walk (a0 : Int) (_ : -9223372036854775808 ≤ a0 ∧ a0 ≤ 9223372036854775807) (a1 : Int) (_ : -9223372036854775808 ≤ a1 ∧ a1 ≤ 9223372036854775807) (w : World) :
    Calls Try.prog 6 #[.int .i64 a0, .int .i64 a1] w fun e w' => e = .returned (.bool true) ∧ Below w.heap.size w w' := by
  go_enter Try.func6, Try.ntmps6
  go_wp2_with (first | (go_at_call 21; refine (ShareFor_s _ _ _).mono ?_; rintro e w' ⟨rfl, _, rfl⟩) | (go_at_call 22; refine (ShareFor_i _ _ _).mono ?_; rintro e w' ⟨rfl, _, rfl⟩))
  go_ret
  exact ⟨rfl, below_drewN (Below.refl _ _) _⟩

/-! ### The push of a fire -/
def firePushF (rise t base : Int) : Int × Int := if inB rise (-1000) 1000 && (inB base (-100) 600 && inB t base 12000) then (divR (1177200 * rise * (t - base)) (100000 * (t + 2731)), 0) else (0, 2)
theorem FirePush_i (rise t base : Int) (w : World) :
    Calls Try.prog 24 #[.int .i64 rise, .int .i64 t, .int .i64 base] w fun e w' => e = .returned (.tuple #[.int .i64 (firePushF rise t base).1, .int .i64 (firePushF rise t base).2]) ∧ ∃ n, w.drewN n = w' := by
  unfold firePushF
  cases h1 : inB rise (-1000) 1000
  · go_enter Try.func24, Try.ntmps24
    go_wp2_with (first | (go_at_call 44; refine (within_any _ _ _ _).mono ?_; rintro e w' ⟨rfl, rfl⟩) | (go_at_call 53; refine (warmthOk_any _ _).mono ?_; rintro e w' ⟨rfl, rfl⟩))
    go_ret2
    exact ⟨by simp, 0, rfl⟩
  · cases h2 : inB base (-100) 600
    · go_enter Try.func24, Try.ntmps24
      go_wp2_with (first | (go_at_call 44; refine (within_any _ _ _ _).mono ?_; rintro e w' ⟨rfl, rfl⟩) | (go_at_call 53; refine (warmthOk_any _ _).mono ?_; rintro e w' ⟨rfl, rfl⟩))
      go_ret2
      exact ⟨by simp, 0, rfl⟩
    · cases h3 : inB t base 12000
      · go_enter Try.func24, Try.ntmps24
        go_wp2_with (first | (go_at_call 44; refine (within_any _ _ _ _).mono ?_; rintro e w' ⟨rfl, rfl⟩) | (go_at_call 53; refine (warmthOk_any _ _).mono ?_; rintro e w' ⟨rfl, rfl⟩))
        go_ret2
        exact ⟨by simp, 0, rfl⟩
      · obtain ⟨h1a, h1b⟩ := inB_iff.1 h1
        obtain ⟨h2a, h2b⟩ := inB_iff.1 h2
        obtain ⟨h3a, h3b⟩ := inB_iff.1 h3
        obtain ⟨m1, m2⟩ := mul_abs (a := 1177200 * rise) (b := t - base) (A := 1177200000) (B := 12100) (by omega) (by omega) (by omega) (by omega)
        go_enter Try.func24, Try.ntmps24
        go_wp2_with (first | (go_at_call 44; refine (within_any _ _ _ _).mono ?_; rintro e w' ⟨rfl, rfl⟩) | (go_at_call 53; refine (warmthOk_any _ _).mono ?_; rintro e w' ⟨rfl, rfl⟩) | (go_at_call 54; refine (divRound_any _ _ _ (by omega) (by omega) (by omega) (by omega)).mono ?_; rintro e w' ⟨rfl, _, rfl⟩))
        go_ret2
        exact ⟨by simp, _, rfl⟩
theorem FirePush_s (rise t base : Int) (w : World) :
    Calls Try.prog 23 #[.int .i64 rise, .int .i64 t, .int .i64 base] w fun e w' => e = .returned (.tuple #[.int .i64 (firePushF rise t base).1, .int .i64 (firePushF rise t base).2]) ∧ ∃ n, w.drewN n = w' := by
  unfold firePushF
  cases h1 : inB rise (-1000) 1000
  · go_enter Try.func23, Try.ntmps23
    go_wp2_with (first | (go_at_call 42; refine (l00In_any _ _ _ _).mono ?_; rintro e w' ⟨rfl, rfl⟩) | (go_at_call 51; refine (l02Temperature_any _ _).mono ?_; rintro e w' ⟨rfl, rfl⟩))
    go_ret2
    exact ⟨by simp, 0, rfl⟩
  · cases h2 : inB base (-100) 600
    · go_enter Try.func23, Try.ntmps23
      go_wp2_with (first | (go_at_call 42; refine (l00In_any _ _ _ _).mono ?_; rintro e w' ⟨rfl, rfl⟩) | (go_at_call 51; refine (l02Temperature_any _ _).mono ?_; rintro e w' ⟨rfl, rfl⟩))
      go_ret2
      exact ⟨by simp, 0, rfl⟩
    · cases h3 : inB t base 12000
      · go_enter Try.func23, Try.ntmps23
        go_wp2_with (first | (go_at_call 42; refine (l00In_any _ _ _ _).mono ?_; rintro e w' ⟨rfl, rfl⟩) | (go_at_call 51; refine (l02Temperature_any _ _).mono ?_; rintro e w' ⟨rfl, rfl⟩))
        go_ret2
        exact ⟨by simp, 0, rfl⟩
      · obtain ⟨h1a, h1b⟩ := inB_iff.1 h1
        obtain ⟨h2a, h2b⟩ := inB_iff.1 h2
        obtain ⟨h3a, h3b⟩ := inB_iff.1 h3
        obtain ⟨m1, m2⟩ := mul_abs (a := 1177200 * rise) (b := t - base) (A := 1177200000) (B := 12100) (by omega) (by omega) (by omega) (by omega)
        go_enter Try.func23, Try.ntmps23
        go_wp2_with (first | (go_at_call 42; refine (l00In_any _ _ _ _).mono ?_; rintro e w' ⟨rfl, rfl⟩) | (go_at_call 51; refine (l02Temperature_any _ _).mono ?_; rintro e w' ⟨rfl, rfl⟩) | (go_at_call 52; refine (l01Div_any _ _ _ (by omega) (by omega) (by omega) (by omega)).mono ?_; rintro e w' ⟨rfl, rfl⟩))
        go_ret2
        exact ⟨by simp, 0, rfl⟩
theorem fnExactFirePush_walk (a0 : Int) (_ : -9223372036854775808 ≤ a0 ∧ a0 ≤ 9223372036854775807) (a1 : Int) (_ : -9223372036854775808 ≤ a1 ∧ a1 ≤ 9223372036854775807) (a2 : Int) (_ : -9223372036854775808 ≤ a2 ∧ a2 ≤ 9223372036854775807) (w : World) :
    Calls Try.prog 7 #[.int .i64 a0, .int .i64 a1, .int .i64 a2] w fun e w' => e = .returned (.bool true) ∧ Below w.heap.size w w' := by
  go_enter Try.func7, Try.ntmps7
  go_wp2_with (first | (go_at_call 23; refine (FirePush_s _ _ _ _).mono ?_; rintro e w' ⟨rfl, _, rfl⟩) | (go_at_call 24; refine (FirePush_i _ _ _ _).mono ?_; rintro e w' ⟨rfl, _, rfl⟩))
  go_ret
  exact ⟨rfl, below_drewN (Below.refl _ _) _⟩

/-! ### The temperature of rock -/
def rockF (s g d : Int) : Int × Int := if inB s 0 400 && (inB g 0 300 && inB d 0 3000) then (if s + divR (g * d) 1000 > 900 then (0, 6) else (s + divR (g * d) 1000, 0)) else (0, 2)
theorem RockAt_i (s g d : Int) (w : World) :
    Calls Try.prog 26 #[.int .i64 s, .int .i64 g, .int .i64 d] w fun e w' => e = .returned (.tuple #[.int .i64 (rockF s g d).1, .int .i64 (rockF s g d).2]) ∧ ∃ n, w.drewN n = w' := by
  unfold rockF
  cases h1 : inB s 0 400
  · go_enter Try.func26, Try.ntmps26
    go_wp2_with (go_at_call 44; refine (within_any _ _ _ _).mono ?_; rintro e w' ⟨rfl, rfl⟩)
    go_ret2
    exact ⟨by simp, 0, rfl⟩
  · cases h2 : inB g 0 300
    · go_enter Try.func26, Try.ntmps26
      go_wp2_with (go_at_call 44; refine (within_any _ _ _ _).mono ?_; rintro e w' ⟨rfl, rfl⟩)
      go_ret2
      exact ⟨by simp, 0, rfl⟩
    · cases h3 : inB d 0 3000
      · go_enter Try.func26, Try.ntmps26
        go_wp2_with (go_at_call 44; refine (within_any _ _ _ _).mono ?_; rintro e w' ⟨rfl, rfl⟩)
        go_ret2
        exact ⟨by simp, 0, rfl⟩
      · obtain ⟨h1a, h1b⟩ := inB_iff.1 h1
        obtain ⟨h2a, h2b⟩ := inB_iff.1 h2
        obtain ⟨h3a, h3b⟩ := inB_iff.1 h3
        have m1 := mul_le h2a h2b h3a h3b
        have m2 := mul_ge h2a h3a
        have m3 := divR_le (a := g * d) (b := 1000) (c := 900) (by omega) (by omega) (by omega)
        have m4 := divR_nonneg' (a := g * d) (b := 1000) (by omega) m2
        by_cases hc : s + divR (g * d) 1000 > 900
        · go_enter Try.func26, Try.ntmps26
          go_wp2_with (first | (go_at_call 44; refine (within_any _ _ _ _).mono ?_; rintro e w' ⟨rfl, rfl⟩) | (go_at_call 54; refine (divRound_any _ _ _ (by omega) (by omega) (by omega) (by omega)).mono ?_; rintro e w' ⟨rfl, _, rfl⟩))
          go_ret2
          exact ⟨by simp, _, rfl⟩
        · go_enter Try.func26, Try.ntmps26
          go_wp2_with (first | (go_at_call 44; refine (within_any _ _ _ _).mono ?_; rintro e w' ⟨rfl, rfl⟩) | (go_at_call 54; refine (divRound_any _ _ _ (by omega) (by omega) (by omega) (by omega)).mono ?_; rintro e w' ⟨rfl, _, rfl⟩))
          go_ret2
          exact ⟨by simp, _, rfl⟩
theorem RockAt_s (s g d : Int) (w : World) :
    Calls Try.prog 25 #[.int .i64 s, .int .i64 g, .int .i64 d] w fun e w' => e = .returned (.tuple #[.int .i64 (rockF s g d).1, .int .i64 (rockF s g d).2]) ∧ ∃ n, w.drewN n = w' := by
  unfold rockF
  cases h1 : inB s 0 400
  · go_enter Try.func25, Try.ntmps25
    go_wp2_with (go_at_call 42; refine (l00In_any _ _ _ _).mono ?_; rintro e w' ⟨rfl, rfl⟩)
    go_ret2
    exact ⟨by simp, 0, rfl⟩
  · cases h2 : inB g 0 300
    · go_enter Try.func25, Try.ntmps25
      go_wp2_with (go_at_call 42; refine (l00In_any _ _ _ _).mono ?_; rintro e w' ⟨rfl, rfl⟩)
      go_ret2
      exact ⟨by simp, 0, rfl⟩
    · cases h3 : inB d 0 3000
      · go_enter Try.func25, Try.ntmps25
        go_wp2_with (go_at_call 42; refine (l00In_any _ _ _ _).mono ?_; rintro e w' ⟨rfl, rfl⟩)
        go_ret2
        exact ⟨by simp, 0, rfl⟩
      · obtain ⟨h1a, h1b⟩ := inB_iff.1 h1
        obtain ⟨h2a, h2b⟩ := inB_iff.1 h2
        obtain ⟨h3a, h3b⟩ := inB_iff.1 h3
        have m1 := mul_le h2a h2b h3a h3b
        have m2 := mul_ge h2a h3a
        have m3 := divR_le (a := g * d) (b := 1000) (c := 900) (by omega) (by omega) (by omega)
        have m4 := divR_nonneg' (a := g * d) (b := 1000) (by omega) m2
        by_cases hc : s + divR (g * d) 1000 > 900
        · go_enter Try.func25, Try.ntmps25
          go_wp2_with (first | (go_at_call 42; refine (l00In_any _ _ _ _).mono ?_; rintro e w' ⟨rfl, rfl⟩) | (go_at_call 52; refine (l01Div_any _ _ _ (by omega) (by omega) (by omega) (by omega)).mono ?_; rintro e w' ⟨rfl, rfl⟩))
          go_ret2
          exact ⟨by simp, 0, rfl⟩
        · go_enter Try.func25, Try.ntmps25
          go_wp2_with (first | (go_at_call 42; refine (l00In_any _ _ _ _).mono ?_; rintro e w' ⟨rfl, rfl⟩) | (go_at_call 52; refine (l01Div_any _ _ _ (by omega) (by omega) (by omega) (by omega)).mono ?_; rintro e w' ⟨rfl, rfl⟩))
          go_ret2
          exact ⟨by simp, 0, rfl⟩
theorem fnExactRockAt_walk (a0 : Int) (_ : -9223372036854775808 ≤ a0 ∧ a0 ≤ 9223372036854775807) (a1 : Int) (_ : -9223372036854775808 ≤ a1 ∧ a1 ≤ 9223372036854775807) (a2 : Int) (_ : -9223372036854775808 ≤ a2 ∧ a2 ≤ 9223372036854775807) (w : World) :
    Calls Try.prog 8 #[.int .i64 a0, .int .i64 a1, .int .i64 a2] w fun e w' => e = .returned (.bool true) ∧ Below w.heap.size w w' := by
  go_enter Try.func8, Try.ntmps8
  go_wp2_with (first | (go_at_call 25; refine (RockAt_s _ _ _ _).mono ?_; rintro e w' ⟨rfl, _, rfl⟩) | (go_at_call 26; refine (RockAt_i _ _ _ _).mono ?_; rintro e w' ⟨rfl, _, rfl⟩))
  go_ret
  exact ⟨rfl, below_drewN (Below.refl _ _) _⟩

/-! ### The dust of a flow -/
def dustOfF (r q : Int) : Int × Int := if inB r 0 1000000 && inB q 1 100000 then (mn 1000000 (divR (100000 * r) q), 0) else (0, 2)
theorem DustOf_i (r q : Int) (w : World) :
    Calls Try.prog 28 #[.int .i64 r, .int .i64 q] w fun e w' => e = .returned (.tuple #[.int .i64 (dustOfF r q).1, .int .i64 (dustOfF r q).2]) ∧ ∃ n, w.drewN n = w' := by
  unfold dustOfF
  cases h1 : inB r 0 1000000
  · go_enter Try.func28, Try.ntmps28
    go_wp2_with (first | (go_at_call 44; refine (within_any _ _ _ _).mono ?_; rintro e w' ⟨rfl, rfl⟩) | (go_at_call 47; refine (dustOk_any _ _).mono ?_; rintro e w' ⟨rfl, rfl⟩))
    go_ret2
    exact ⟨by simp, 0, rfl⟩
  · cases h2 : inB q 1 100000
    · go_enter Try.func28, Try.ntmps28
      go_wp2_with (first | (go_at_call 44; refine (within_any _ _ _ _).mono ?_; rintro e w' ⟨rfl, rfl⟩) | (go_at_call 47; refine (dustOk_any _ _).mono ?_; rintro e w' ⟨rfl, rfl⟩))
      go_ret2
      exact ⟨by simp, 0, rfl⟩
    · obtain ⟨h1a, h1b⟩ := inB_iff.1 h1
      obtain ⟨h2a, h2b⟩ := inB_iff.1 h2
      by_cases hc : divR (100000 * r) q ≤ 1000000
      · rw [mn_eq_right hc]
        go_enter Try.func28, Try.ntmps28
        go_wp2_with (first | (go_at_call 44; refine (within_any _ _ _ _).mono ?_; rintro e w' ⟨rfl, rfl⟩) | (go_at_call 47; refine (dustOk_any _ _).mono ?_; rintro e w' ⟨rfl, rfl⟩) | (go_at_call 54; refine (divRound_any _ _ _ (by omega) (by omega) (by omega) (by omega)).mono ?_; rintro e w' ⟨rfl, _, rfl⟩))
        go_ret2
        exact ⟨by simp, _, rfl⟩
      · rw [mn_eq_left (by omega)]
        go_enter Try.func28, Try.ntmps28
        go_wp2_with (first | (go_at_call 44; refine (within_any _ _ _ _).mono ?_; rintro e w' ⟨rfl, rfl⟩) | (go_at_call 47; refine (dustOk_any _ _).mono ?_; rintro e w' ⟨rfl, rfl⟩) | (go_at_call 54; refine (divRound_any _ _ _ (by omega) (by omega) (by omega) (by omega)).mono ?_; rintro e w' ⟨rfl, _, rfl⟩))
        go_ret2
        exact ⟨by simp, _, rfl⟩
theorem DustOf_s (r q : Int) (w : World) :
    Calls Try.prog 27 #[.int .i64 r, .int .i64 q] w fun e w' => e = .returned (.tuple #[.int .i64 (dustOfF r q).1, .int .i64 (dustOfF r q).2]) ∧ ∃ n, w.drewN n = w' := by
  unfold dustOfF
  cases h1 : inB r 0 1000000
  · go_enter Try.func27, Try.ntmps27
    go_wp2_with (first | (go_at_call 42; refine (l00In_any _ _ _ _).mono ?_; rintro e w' ⟨rfl, rfl⟩) | (go_at_call 55; refine (l14Dust_any _ _).mono ?_; rintro e w' ⟨rfl, rfl⟩))
    go_ret2
    exact ⟨by simp, 0, rfl⟩
  · cases h2 : inB q 1 100000
    · go_enter Try.func27, Try.ntmps27
      go_wp2_with (first | (go_at_call 42; refine (l00In_any _ _ _ _).mono ?_; rintro e w' ⟨rfl, rfl⟩) | (go_at_call 55; refine (l14Dust_any _ _).mono ?_; rintro e w' ⟨rfl, rfl⟩))
      go_ret2
      exact ⟨by simp, 0, rfl⟩
    · obtain ⟨h1a, h1b⟩ := inB_iff.1 h1
      obtain ⟨h2a, h2b⟩ := inB_iff.1 h2
      go_enter Try.func27, Try.ntmps27
      go_wp2_with (first | (go_at_call 42; refine (l00In_any _ _ _ _).mono ?_; rintro e w' ⟨rfl, rfl⟩) | (go_at_call 55; refine (l14Dust_any _ _).mono ?_; rintro e w' ⟨rfl, rfl⟩) | (go_at_call 52; refine (l01Div_any _ _ _ (by omega) (by omega) (by omega) (by omega)).mono ?_; rintro e w' ⟨rfl, rfl⟩) | (go_at_call 56; refine (l00Min_any _ _ _).mono ?_; rintro e w' ⟨rfl, rfl⟩))
      go_ret2
      exact ⟨by simp, 0, rfl⟩
theorem fnExactDustOf_walk (a0 : Int) (_ : -9223372036854775808 ≤ a0 ∧ a0 ≤ 9223372036854775807) (a1 : Int) (_ : -9223372036854775808 ≤ a1 ∧ a1 ≤ 9223372036854775807) (w : World) :
    Calls Try.prog 9 #[.int .i64 a0, .int .i64 a1] w fun e w' => e = .returned (.bool true) ∧ Below w.heap.size w w' := by
  go_enter Try.func9, Try.ntmps9
  go_wp2_with (first | (go_at_call 27; refine (DustOf_s _ _ _).mono ?_; rintro e w' ⟨rfl, _, rfl⟩) | (go_at_call 28; refine (DustOf_i _ _ _).mono ?_; rintro e w' ⟨rfl, _, rfl⟩))
  go_ret
  exact ⟨rfl, below_drewN (Below.refl _ _) _⟩

/-! ### The temperature behind a fire -/
def fireTempF (b p q : Int) : Int × Int := if inB b (-100) 600 && (inB p 0 100000000 && inB q 1 100000) then (mn 12000 (b + divR (2000 * p) (2412 * q)), 0) else (0, 2)
theorem FireTemperature_i (b p q : Int) (w : World) :
    Calls Try.prog 30 #[.int .i64 b, .int .i64 p, .int .i64 q] w fun e w' => e = .returned (.tuple #[.int .i64 (fireTempF b p q).1, .int .i64 (fireTempF b p q).2]) ∧ ∃ n, w.drewN n = w' := by
  unfold fireTempF
  cases h1 : inB b (-100) 600
  · go_enter Try.func30, Try.ntmps30
    go_wp2_with (first | (go_at_call 44; refine (within_any _ _ _ _).mono ?_; rintro e w' ⟨rfl, rfl⟩) | (go_at_call 53; refine (warmthOk_any _ _).mono ?_; rintro e w' ⟨rfl, rfl⟩))
    go_ret2
    exact ⟨by simp, 0, rfl⟩
  · cases h2 : inB p 0 100000000
    · go_enter Try.func30, Try.ntmps30
      go_wp2_with (first | (go_at_call 44; refine (within_any _ _ _ _).mono ?_; rintro e w' ⟨rfl, rfl⟩) | (go_at_call 53; refine (warmthOk_any _ _).mono ?_; rintro e w' ⟨rfl, rfl⟩))
      go_ret2
      exact ⟨by simp, 0, rfl⟩
    · cases h3 : inB q 1 100000
      · go_enter Try.func30, Try.ntmps30
        go_wp2_with (first | (go_at_call 44; refine (within_any _ _ _ _).mono ?_; rintro e w' ⟨rfl, rfl⟩) | (go_at_call 53; refine (warmthOk_any _ _).mono ?_; rintro e w' ⟨rfl, rfl⟩))
        go_ret2
        exact ⟨by simp, 0, rfl⟩
      · obtain ⟨h1a, h1b⟩ := inB_iff.1 h1
        obtain ⟨h2a, h2b⟩ := inB_iff.1 h2
        obtain ⟨h3a, h3b⟩ := inB_iff.1 h3
        have m3 := divR_le (a := 2000 * p) (b := 2412 * q) (c := 200000000000) (by omega) (by omega) (by omega)
        have m4 := divR_nonneg' (a := 2000 * p) (b := 2412 * q) (by omega) (by omega)
        by_cases hc : b + divR (2000 * p) (2412 * q) ≤ 12000
        · rw [mn_eq_right hc]
          go_enter Try.func30, Try.ntmps30
          go_wp2_with (first | (go_at_call 44; refine (within_any _ _ _ _).mono ?_; rintro e w' ⟨rfl, rfl⟩) | (go_at_call 53; refine (warmthOk_any _ _).mono ?_; rintro e w' ⟨rfl, rfl⟩) | (go_at_call 54; refine (divRound_any _ _ _ (by omega) (by omega) (by omega) (by omega)).mono ?_; rintro e w' ⟨rfl, _, rfl⟩))
          go_ret2
          exact ⟨by simp, _, rfl⟩
        · rw [mn_eq_left (by omega)]
          go_enter Try.func30, Try.ntmps30
          go_wp2_with (first | (go_at_call 44; refine (within_any _ _ _ _).mono ?_; rintro e w' ⟨rfl, rfl⟩) | (go_at_call 53; refine (warmthOk_any _ _).mono ?_; rintro e w' ⟨rfl, rfl⟩) | (go_at_call 54; refine (divRound_any _ _ _ (by omega) (by omega) (by omega) (by omega)).mono ?_; rintro e w' ⟨rfl, _, rfl⟩))
          go_ret2
          exact ⟨by simp, _, rfl⟩
theorem FireTemperature_s (b p q : Int) (w : World) :
    Calls Try.prog 29 #[.int .i64 b, .int .i64 p, .int .i64 q] w fun e w' => e = .returned (.tuple #[.int .i64 (fireTempF b p q).1, .int .i64 (fireTempF b p q).2]) ∧ ∃ n, w.drewN n = w' := by
  unfold fireTempF
  cases h1 : inB b (-100) 600
  · go_enter Try.func29, Try.ntmps29
    go_wp2_with (first | (go_at_call 42; refine (l00In_any _ _ _ _).mono ?_; rintro e w' ⟨rfl, rfl⟩) | (go_at_call 51; refine (l02Temperature_any _ _).mono ?_; rintro e w' ⟨rfl, rfl⟩))
    go_ret2
    exact ⟨by simp, 0, rfl⟩
  · cases h2 : inB p 0 100000000
    · go_enter Try.func29, Try.ntmps29
      go_wp2_with (first | (go_at_call 42; refine (l00In_any _ _ _ _).mono ?_; rintro e w' ⟨rfl, rfl⟩) | (go_at_call 51; refine (l02Temperature_any _ _).mono ?_; rintro e w' ⟨rfl, rfl⟩))
      go_ret2
      exact ⟨by simp, 0, rfl⟩
    · cases h3 : inB q 1 100000
      · go_enter Try.func29, Try.ntmps29
        go_wp2_with (first | (go_at_call 42; refine (l00In_any _ _ _ _).mono ?_; rintro e w' ⟨rfl, rfl⟩) | (go_at_call 51; refine (l02Temperature_any _ _).mono ?_; rintro e w' ⟨rfl, rfl⟩))
        go_ret2
        exact ⟨by simp, 0, rfl⟩
      · obtain ⟨h1a, h1b⟩ := inB_iff.1 h1
        obtain ⟨h2a, h2b⟩ := inB_iff.1 h2
        obtain ⟨h3a, h3b⟩ := inB_iff.1 h3
        have m3 := divR_le (a := 2000 * p) (b := 2412 * q) (c := 200000000000) (by omega) (by omega) (by omega)
        have m4 := divR_nonneg' (a := 2000 * p) (b := 2412 * q) (by omega) (by omega)
        go_enter Try.func29, Try.ntmps29
        go_wp2_with (first | (go_at_call 42; refine (l00In_any _ _ _ _).mono ?_; rintro e w' ⟨rfl, rfl⟩) | (go_at_call 51; refine (l02Temperature_any _ _).mono ?_; rintro e w' ⟨rfl, rfl⟩) | (go_at_call 52; refine (l01Div_any _ _ _ (by omega) (by omega) (by omega) (by omega)).mono ?_; rintro e w' ⟨rfl, rfl⟩) | (go_at_call 56; refine (l00Min_any _ _ _).mono ?_; rintro e w' ⟨rfl, rfl⟩))
        go_ret2
        exact ⟨by simp, 0, rfl⟩
theorem fnExactFireTemperature_walk (a0 : Int) (_ : -9223372036854775808 ≤ a0 ∧ a0 ≤ 9223372036854775807) (a1 : Int) (_ : -9223372036854775808 ≤ a1 ∧ a1 ≤ 9223372036854775807) (a2 : Int) (_ : -9223372036854775808 ≤ a2 ∧ a2 ≤ 9223372036854775807) (w : World) :
    Calls Try.prog 10 #[.int .i64 a0, .int .i64 a1, .int .i64 a2] w fun e w' => e = .returned (.bool true) ∧ Below w.heap.size w w' := by
  go_enter Try.func10, Try.ntmps10
  go_wp2_with (first | (go_at_call 29; refine (FireTemperature_s _ _ _ _).mono ?_; rintro e w' ⟨rfl, _, rfl⟩) | (go_at_call 30; refine (FireTemperature_i _ _ _ _).mono ?_; rintro e w' ⟨rfl, _, rfl⟩))
  go_ret
  exact ⟨rfl, below_drewN (Below.refl _ _) _⟩
end Go.Proofs.Ytbdbohcdbpbdkaa
