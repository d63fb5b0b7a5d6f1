/- Contracts of the functions on a fire's push, shares of gas, dust, rock and heat, the program's and the reference's; and the walks of their laws. Conditions: the bounds that each theorem names. -/
import Derived.Test.YtnjplfcmojeedaaBase
namespace Go.Proofs.Ytnjplfcmojeedaa
open Go.RowKit
open Pl

/-! ### The push that stops the air -/

/-! ### The share of gas -/
def shareF (rate flow : Int) : Int := mn 1000000 (divU (100 * rate) flow)
theorem shareF_nonneg {r q : Int} (h : 0 ≤ r) (h2 : 1 ≤ q) : 0 ≤ shareF r q := by
  unfold shareF
  rcases mn_or 1000000 (divU (100 * r) q) with e | e <;> rw [e]
  · omega
  · exact divU_nonneg (by omega) h2
theorem shareOf_any (r q : Int) (w : World) (h1 : 0 ≤ r) (h2 : r ≤ 10000000) (h3 : 1 ≤ q) (h4 : q ≤ 100000) :
    Calls Try.prog 64 #[.int .i64 r, .int .i64 q] w fun e w' => e = .returned (.int .i64 (shareF r q)) ∧ w = w' := by
  unfold shareF
  by_cases hc : divU (100 * r) q ≤ 1000000
  · rw [mn_eq_right hc]
    go_enter Try.func64, Try.ntmps64
    go_wp2_with (go_at_call 108; refine (divUp_any _ _ _ (by omega) (by omega) (by omega) (by omega)).mono ?_; rintro e w' ⟨rfl, rfl⟩)
    go_ret
    exact ⟨ret_int (by omega), rfl⟩
  · rw [mn_eq_left (by omega)]
    go_enter Try.func64, Try.ntmps64
    go_wp2_with (go_at_call 108; refine (divUp_any _ _ _ (by omega) (by omega) (by omega) (by omega)).mono ?_; rintro e w' ⟨rfl, rfl⟩)
    go_ret
    exact ⟨ret_int (by omega), rfl⟩

/-! ### The push of a fire -/

/-! ### The temperature of rock -/

/-! ### The dust of a flow -/

/-! ### The temperature behind a fire -/
end Go.Proofs.Ytnjplfcmojeedaa
