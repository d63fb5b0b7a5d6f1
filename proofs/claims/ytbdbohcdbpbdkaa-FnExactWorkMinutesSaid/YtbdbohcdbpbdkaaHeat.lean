/- Contracts of the functions on heat and on minutes of work, the program's and the reference's; and the walks of their laws. Conditions: the bounds that each theorem names. -/
import Derived.Test.YtbdbohcdbpbdkaaBase
import Derived.Handy
namespace Go.Proofs.Ytbdbohcdbpbdkaa
open Go.RowKit
open Pl

/-! ### By how much air becomes warmer -/
def heatF (p q d : Int) : Int := divR (2000 * p) (201 * mx 1 (divR (q * d) 100))
theorem heat_div {q d : Int} (h1 : 1 ≤ q) (h2 : q ≤ 100000) (h3 : 1 ≤ d) (h4 : d ≤ 5000) : 0 ≤ divR (q * d) 100 ∧ divR (q * d) 100 ≤ 5000000 := by
  have m1 := mul_le (by omega : 0 ≤ q) h2 (by omega : 0 ≤ d) h4
  have m2 := mul_ge (by omega : 0 ≤ q) (by omega : 0 ≤ d)
  exact ⟨divR_nonneg' (by omega) m2, divR_le (by omega) (by omega) (by omega)⟩
theorem heatFrom_any (p q d : Int) (w : World) (hp1 : -10000000 ≤ p) (hp2 : p ≤ 10000000) (hq1 : 1 ≤ q) (hq2 : q ≤ 100000) (hd1 : 1 ≤ d) (hd2 : d ≤ 5000) :
    Calls Try.prog 64 #[.int .i64 p, .int .i64 q, .int .i64 d] w fun e w' => e = .returned (.int .i64 (heatF p q d)) ∧ ∃ n, w.drewN n = w' := by
  unfold heatF
  have m1 := mul_le (by omega : 0 ≤ q) hq2 (by omega : 0 ≤ d) hd2
  have m2 := mul_ge (by omega : 0 ≤ q) (by omega : 0 ≤ d)
  obtain ⟨m3, m4⟩ := heat_div hq1 hq2 hd1 hd2
  by_cases hc : 1 ≤ divR (q * d) 100
  · rw [mx_eq_right hc]
    go_enter Try.func64, Try.ntmps64
    go_wp2_with (go_at_call 54; refine (divRound_any _ _ _ (by omega) (by omega) (by omega) (by omega)).mono ?_; rintro e w' ⟨rfl, _, rfl⟩)
    go_ret
    exact ⟨rfl, _, rfl⟩
  · rw [mx_eq_left (by omega)]
    go_enter Try.func64, Try.ntmps64
    go_wp2_with (go_at_call 54; refine (divRound_any _ _ _ (by omega) (by omega) (by omega) (by omega)).mono ?_; rintro e w' ⟨rfl, _, rfl⟩)
    go_ret
    exact ⟨rfl, _, rfl⟩
theorem l16Heat_any (p q d : Int) (w : World) (hp1 : -10000000 ≤ p) (hp2 : p ≤ 10000000) (hq1 : 1 ≤ q) (hq2 : q ≤ 100000) (hd1 : 1 ≤ d) (hd2 : d ≤ 5000) :
    Calls Try.prog 62 #[.int .i64 p, .int .i64 q, .int .i64 d] w fun e w' => e = .returned (.int .i64 (heatF p q d)) ∧ w = w' := by
  unfold heatF
  have m1 := mul_le (by omega : 0 ≤ q) hq2 (by omega : 0 ≤ d) hd2
  have m2 := mul_ge (by omega : 0 ≤ q) (by omega : 0 ≤ d)
  obtain ⟨m3, m4⟩ := heat_div hq1 hq2 hd1 hd2
  have m5 := mx_ge_left 1 (divR (q * d) 100)
  have m6 : mx 1 (divR (q * d) 100) ≤ 5000000 := by rcases mx_or 1 (divR (q * d) 100) with e | e <;> omega
  go_enter Try.func62, Try.ntmps62
  go_wp2_with (first | (go_at_call 52; refine (l01Div_any _ _ _ (by omega) (by omega) (by omega) (by omega)).mono ?_; rintro e w' ⟨rfl, rfl⟩) | (go_at_call 70; refine (l00Max_any _ _ _).mono ?_; rintro e w' ⟨rfl, rfl⟩))
  go_ret
  exact ⟨rfl, rfl⟩
def heatFromF (p q d : Int) : Int × Int := if inB p (-10000000) 10000000 && (inB q 1 100000 && inB d 1 5000) then (heatF p q d, 0) else (0, 2)
theorem HeatFrom_i (p q d : Int) (w : World) :
    Calls Try.prog 40 #[.int .i64 p, .int .i64 q, .int .i64 d] w fun e w' => e = .returned (.tuple #[.int .i64 (heatFromF p q d).1, .int .i64 (heatFromF p q d).2]) ∧ ∃ n, w.drewN n = w' := by
  unfold heatFromF
  cases h1 : inB p (-10000000) 10000000
  · go_enter Try.func40, Try.ntmps40
    go_wp2_with (first | (go_at_call 44; refine (within_any _ _ _ _).mono ?_; rintro e w' ⟨rfl, rfl⟩) | (go_at_call 63; refine (densityOk_any _ _).mono ?_; rintro e w' ⟨rfl, rfl⟩))
    go_ret2
    exact ⟨by simp, 0, rfl⟩
  · obtain ⟨h1a, h1b⟩ := inB_iff.1 h1
    cases h2 : inB q 1 100000
    · go_enter Try.func40, Try.ntmps40
      go_wp2_with (first | (go_at_call 44; refine (within_any _ _ _ _).mono ?_; rintro e w' ⟨rfl, rfl⟩) | (go_at_call 63; refine (densityOk_any _ _).mono ?_; rintro e w' ⟨rfl, rfl⟩))
      go_ret2
      exact ⟨by simp, 0, rfl⟩
    · obtain ⟨h2a, h2b⟩ := inB_iff.1 h2
      cases h3 : inB d 1 5000
      · go_enter Try.func40, Try.ntmps40
        go_wp2_with (first | (go_at_call 44; refine (within_any _ _ _ _).mono ?_; rintro e w' ⟨rfl, rfl⟩) | (go_at_call 63; refine (densityOk_any _ _).mono ?_; rintro e w' ⟨rfl, rfl⟩))
        go_ret2
        exact ⟨by simp, 0, rfl⟩
      · obtain ⟨h3a, h3b⟩ := inB_iff.1 h3
        go_enter Try.func40, Try.ntmps40
        go_wp2_with (first | (go_at_call 44; refine (within_any _ _ _ _).mono ?_; rintro e w' ⟨rfl, rfl⟩) | (go_at_call 63; refine (densityOk_any _ _).mono ?_; rintro e w' ⟨rfl, rfl⟩) | (go_at_call 64; refine (heatFrom_any _ _ _ _ (by omega) (by omega) (by omega) (by omega) (by omega) (by omega)).mono ?_; rintro e w' ⟨rfl, _, rfl⟩))
        go_ret2
        exact ⟨by simp, _, rfl⟩
theorem HeatFrom_s (p q d : Int) (w : World) :
    Calls Try.prog 39 #[.int .i64 p, .int .i64 q, .int .i64 d] w fun e w' => e = .returned (.tuple #[.int .i64 (heatFromF p q d).1, .int .i64 (heatFromF p q d).2]) ∧ ∃ n, w.drewN n = w' := by
  unfold heatFromF
  cases h1 : inB p (-10000000) 10000000
  · go_enter Try.func39, Try.ntmps39
    go_wp2_with (first | (go_at_call 42; refine (l00In_any _ _ _ _).mono ?_; rintro e w' ⟨rfl, rfl⟩) | (go_at_call 61; refine (l02Dense_any _ _).mono ?_; rintro e w' ⟨rfl, rfl⟩) | (go_at_call 60; refine (l16Power_any _ _).mono ?_; rintro e w' ⟨rfl, rfl⟩))
    go_ret2
    exact ⟨by simp, 0, rfl⟩
  · obtain ⟨h1a, h1b⟩ := inB_iff.1 h1
    cases h2 : inB q 1 100000
    · go_enter Try.func39, Try.ntmps39
      go_wp2_with (first | (go_at_call 42; refine (l00In_any _ _ _ _).mono ?_; rintro e w' ⟨rfl, rfl⟩) | (go_at_call 61; refine (l02Dense_any _ _).mono ?_; rintro e w' ⟨rfl, rfl⟩) | (go_at_call 60; refine (l16Power_any _ _).mono ?_; rintro e w' ⟨rfl, rfl⟩))
      go_ret2
      exact ⟨by simp, 0, rfl⟩
    · obtain ⟨h2a, h2b⟩ := inB_iff.1 h2
      cases h3 : inB d 1 5000
      · go_enter Try.func39, Try.ntmps39
        go_wp2_with (first | (go_at_call 42; refine (l00In_any _ _ _ _).mono ?_; rintro e w' ⟨rfl, rfl⟩) | (go_at_call 61; refine (l02Dense_any _ _).mono ?_; rintro e w' ⟨rfl, rfl⟩) | (go_at_call 60; refine (l16Power_any _ _).mono ?_; rintro e w' ⟨rfl, rfl⟩))
        go_ret2
        exact ⟨by simp, 0, rfl⟩
      · obtain ⟨h3a, h3b⟩ := inB_iff.1 h3
        go_enter Try.func39, Try.ntmps39
        go_wp2_with (first | (go_at_call 42; refine (l00In_any _ _ _ _).mono ?_; rintro e w' ⟨rfl, rfl⟩) | (go_at_call 61; refine (l02Dense_any _ _).mono ?_; rintro e w' ⟨rfl, rfl⟩) | (go_at_call 60; refine (l16Power_any _ _).mono ?_; rintro e w' ⟨rfl, rfl⟩) | (go_at_call 62; refine (l16Heat_any _ _ _ _ (by omega) (by omega) (by omega) (by omega) (by omega) (by omega)).mono ?_; rintro e w' ⟨rfl, rfl⟩))
        go_ret2
        exact ⟨by simp, 0, rfl⟩
theorem fnExactHeatFrom_walk (a0 : Int) (_ : -9223372036854775808 ≤ a0 ∧ a0 ≤ 9223372036854775807) (a1 : Int) (_ : -9223372036854775808 ≤ a1 ∧ a1 ≤ 9223372036854775807) (a2 : Int) (_ : -9223372036854775808 ≤ a2 ∧ a2 ≤ 9223372036854775807) (w : World) :
    Calls Try.prog 13 #[.int .i64 a0, .int .i64 a1, .int .i64 a2] w fun e w' => e = .returned (.bool true) ∧ Below w.heap.size w w' := by
  go_enter Try.func13, Try.ntmps13
  go_wp2_with (first | (go_at_call 39; refine (HeatFrom_s _ _ _ _).mono ?_; rintro e w' ⟨rfl, _, rfl⟩) | (go_at_call 40; refine (HeatFrom_i _ _ _ _).mono ?_; rintro e w' ⟨rfl, _, rfl⟩))
  go_ret
  exact ⟨rfl, below_drewN (Below.refl _ _) _⟩

/-! ### Minutes of work -/
def minutesF (t : Int) : Int × Int := if inB t (-500) 1000 then (if t ≤ 280 then (60, 0) else if t ≤ 300 then (45, 0) else if t ≤ 320 then (30, 0) else if t ≤ 340 then (15, 0) else (0, 0)) else (0, 2)
theorem WorkMinutes_i (t : Int) (w : World) :
    Calls Try.prog 20 #[.int .i64 t] w fun e w' => e = .returned (.tuple #[.int .i64 (minutesF t).1, .int .i64 (minutesF t).2]) ∧ Below w.heap.size w w' := by
  unfold minutesF
  cases h1 : inB t (-500) 1000
  · go_enter Try.func20, Try.ntmps20
    go_wp2_with (go_at_call 44; refine (within_any _ _ _ _).mono ?_; rintro e w' ⟨rfl, rfl⟩)
    go_ret2
    exact ⟨by simp, Below.refl _ _⟩
  · go_enter Try.func20, Try.ntmps20
    go_wp2_with (go_at_call 44; refine (within_any _ _ _ _).mono ?_; rintro e w' ⟨rfl, rfl⟩)
    all_goals go_ret2
    all_goals refine ⟨?_, Below.refl _ _⟩
    all_goals (simp only; (repeat (first | rw [if_pos (by omega)] | rw [if_neg (by omega)])); try rfl)
theorem WorkMinutes_s (t : Int) (w : World) :
    Calls Try.prog 19 #[.int .i64 t] w fun e w' => e = .returned (.tuple #[.int .i64 (minutesF t).1, .int .i64 (minutesF t).2]) ∧ Below w.heap.size w w' := by
  unfold minutesF
  cases h1 : inB t (-500) 1000
  · go_enter Try.func19, Try.ntmps19
    go_wp2_with (go_at_call 42; refine (l00In_any _ _ _ _).mono ?_; rintro e w' ⟨rfl, rfl⟩)
    go_ret2
    exact ⟨by simp, Below.refl _ _⟩
  · obtain ⟨k1, k2⟩ := inB_iff.1 h1
    go_enter Try.func19, Try.ntmps19
    go_wp2_with (go_at_call 42; refine (l00In_any _ _ _ _).mono ?_; rintro e w' ⟨rfl, rfl⟩)
    go_rounds 5
    all_goals go_ret2
    all_goals refine ⟨?_, by go_grown⟩
    all_goals (simp only; (repeat (first | rw [if_pos (by omega)] | rw [if_neg (by omega)])); try rfl)
theorem fnExactWorkMinutes_walk (t : Int) (_ : -9223372036854775808 ≤ t ∧ t ≤ 9223372036854775807) (w : World) :
    Calls Try.prog 5 #[.int .i64 t] w fun e w' => e = .returned (.bool true) ∧ Below w.heap.size w w' := by
  go_enter Try.func5, Try.ntmps5
  go_wp2_with (first | (go_at_call 19; refine (WorkMinutes_s _ _).mono ?_; rintro e w1 ⟨rfl, hb1⟩) | (go_at_call 20; refine (WorkMinutes_i _ _).mono ?_; rintro e w2 ⟨rfl, hb2⟩))
  go_ret
  exact ⟨rfl, hb1.trans (hb2.mono hb1.size)⟩
end Go.Proofs.Ytbdbohcdbpbdkaa
