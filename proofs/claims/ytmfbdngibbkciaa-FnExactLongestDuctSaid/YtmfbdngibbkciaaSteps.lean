/- Steps that repeat: dust that settles, air that warms; the program's loops and the reference's, which may stop early; and the walks of their laws. Conditions: the bounds that each theorem names. -/
import Derived.Test.YtmfbdngibbkciaaBase
import Derived.Handy
import Derived.Lib.Hide
namespace Go.Proofs.Ytmfbdngibbkciaa
open Go.RowKit
open Pl

/-! ### Dust that settles -/
def settleF (d s : Int) : Nat → Int
  | 0 => d
  | n + 1 => settleF d s n - divR (settleF d s n * s) 1000000
theorem settle_step {x s : Int} (h1 : 0 ≤ x) (h2 : x ≤ 1000000) (h3 : 0 ≤ s) (h4 : s ≤ 1000000) : 0 ≤ divR (x * s) 1000000 ∧ divR (x * s) 1000000 ≤ x ∧ 0 ≤ x * s ∧ x * s ≤ 1000000000000 := by
  have m1 := mul_ge h1 h3
  have m2 : x * s ≤ x * 1000000 := Int.mul_le_mul_of_nonneg_left h4 h1
  exact ⟨divR_nonneg' (by omega) m1, divR_le (by omega) (by omega) h1, m1, by omega⟩
theorem settle_bd {d s : Int} (h1 : 0 ≤ d) (h2 : d ≤ 1000000) (h3 : 0 ≤ s) (h4 : s ≤ 1000000) : ∀ n, 0 ≤ settleF d s n ∧ settleF d s n ≤ 1000000
  | 0 => ⟨h1, h2⟩
  | n + 1 => by
    obtain ⟨a, b⟩ := settle_bd h1 h2 h3 h4 n
    obtain ⟨c, e, _⟩ := settle_step a b h3 h4
    show 0 ≤ settleF d s n - divR (settleF d s n * s) 1000000 ∧ settleF d s n - divR (settleF d s n * s) 1000000 ≤ 1000000
    omega
/-- Where nothing settles any more, nothing will. -/
theorem settle_still {d s : Int} {k : Nat} (h : divR (settleF d s k * s) 1000000 = 0) : ∀ m, settleF d s (k + m) = settleF d s k
  | 0 => rfl
  | m + 1 => by
    have ih := settle_still h m
    show settleF d s (k + m) - divR (settleF d s (k + m) * s) 1000000 = settleF d s k
    rw [ih, h, Int.sub_zero]
theorem settle_zero {d s : Int} {k : Nat} (h : settleF d s k = 0) : divR (settleF d s k * s) 1000000 = 0 := by
  rw [h, Int.zero_mul]; rfl

end Go.Proofs.Ytmfbdngibbkciaa
