/- Contracts of the functions on heat and on minutes of work, the program's and the reference's; and the walks of their laws. Conditions: the bounds that each theorem names. -/
import Derived.Test.YtlgagnbnjfneaaaBase
import Derived.Handy
namespace Go.Proofs.Ytlgagnbnjfneaaa
open Go.RowKit
open Pl

/-! ### By how much air becomes warmer -/
def heatF (p q d : Int) : Int := divR (2000 * p) (201 * mx 1 (divR (q * d) 100))
theorem heat_div {q d : Int} (h1 : 1 ≤ q) (h2 : q ≤ 100000) (h3 : 1 ≤ d) (h4 : d ≤ 5000) : 0 ≤ divR (q * d) 100 ∧ divR (q * d) 100 ≤ 5000000 := by
  have m1 := mul_le (by omega : 0 ≤ q) h2 (by omega : 0 ≤ d) h4
  have m2 := mul_ge (by omega : 0 ≤ q) (by omega : 0 ≤ d)
  exact ⟨divR_nonneg' (by omega) m2, divR_le (by omega) (by omega) (by omega)⟩
theorem heatFrom_any (p q d : Int) (w : World) (hp1 : -10000000 ≤ p) (hp2 : p ≤ 10000000) (hq1 : 1 ≤ q) (hq2 : q ≤ 100000) (hd1 : 1 ≤ d) (hd2 : d ≤ 5000) :
    Calls Try.prog 154 #[.int .i64 p, .int .i64 q, .int .i64 d] w fun e w' => e = .returned (.int .i64 (heatF p q d)) ∧ ∃ n, w.drewN n = w' := by
  unfold heatF
  have m1 := mul_le (by omega : 0 ≤ q) hq2 (by omega : 0 ≤ d) hd2
  have m2 := mul_ge (by omega : 0 ≤ q) (by omega : 0 ≤ d)
  obtain ⟨m3, m4⟩ := heat_div hq1 hq2 hd1 hd2
  by_cases hc : 1 ≤ divR (q * d) 100
  · rw [mx_eq_right hc]
    go_enter Try.func154, Try.ntmps154
    go_wp2_with (go_at_call 94; refine (divRound_any _ _ _ (by omega) (by omega) (by omega) (by omega)).mono ?_; rintro e w' ⟨rfl, _, rfl⟩)
    go_ret
    exact ⟨rfl, _, rfl⟩
  · rw [mx_eq_left (by omega)]
    go_enter Try.func154, Try.ntmps154
    go_wp2_with (go_at_call 94; refine (divRound_any _ _ _ (by omega) (by omega) (by omega) (by omega)).mono ?_; rintro e w' ⟨rfl, _, rfl⟩)
    go_ret
    exact ⟨rfl, _, rfl⟩
theorem l16Heat_any (p q d : Int) (w : World) (hp1 : -10000000 ≤ p) (hp2 : p ≤ 10000000) (hq1 : 1 ≤ q) (hq2 : q ≤ 100000) (hd1 : 1 ≤ d) (hd2 : d ≤ 5000) :
    Calls Try.prog 117 #[.int .i64 p, .int .i64 q, .int .i64 d] w fun e w' => e = .returned (.int .i64 (heatF p q d)) ∧ w = w' := by
  unfold heatF
  have m1 := mul_le (by omega : 0 ≤ q) hq2 (by omega : 0 ≤ d) hd2
  have m2 := mul_ge (by omega : 0 ≤ q) (by omega : 0 ≤ d)
  obtain ⟨m3, m4⟩ := heat_div hq1 hq2 hd1 hd2
  have m5 := mx_ge_left 1 (divR (q * d) 100)
  have m6 : mx 1 (divR (q * d) 100) ≤ 5000000 := by rcases mx_or 1 (divR (q * d) 100) with e | e <;> omega
  go_enter Try.func117, Try.ntmps117
  go_wp2_with (first | (go_at_call 88; refine (l01Div_any _ _ _ (by omega) (by omega) (by omega) (by omega)).mono ?_; rintro e w' ⟨rfl, rfl⟩) | (go_at_call 141; refine (l00Max_any _ _ _).mono ?_; rintro e w' ⟨rfl, rfl⟩))
  go_ret
  exact ⟨rfl, rfl⟩

/-! ### Minutes of work -/
end Go.Proofs.Ytlgagnbnjfneaaa
