/- The first number from a number on that has a property. No conditions. -/
import Derived.Test.YtlgagnbnjfneaaaBase
namespace Go.Proofs.Ytlgagnbnjfneaaa
def firstFrom (p : Int → Bool) (lo : Int) : Nat → Int
  | 0 => lo
  | n + 1 => if p lo = true then lo else firstFrom p (lo + 1) n
theorem firstFrom_spec (p : Int → Bool) : ∀ (n : Nat) (lo : Int), lo ≤ firstFrom p lo n ∧ firstFrom p lo n ≤ lo + n ∧ (∀ x, lo ≤ x → x < firstFrom p lo n → p x = false) ∧ (firstFrom p lo n < lo + n → p (firstFrom p lo n) = true)
  | 0, lo => ⟨Int.le_refl _, by simp [firstFrom], fun x h1 h2 => by simp [firstFrom] at h2; omega, fun h => by simp [firstFrom] at h⟩
  | n + 1, lo => by
    unfold firstFrom
    by_cases h : p lo = true
    · rw [if_pos h]; exact ⟨Int.le_refl _, by omega, fun x h1 h2 => by omega, fun _ => h⟩
    · rw [if_neg h]
      obtain ⟨a, b, c, d⟩ := firstFrom_spec p n (lo + 1)
      refine ⟨by omega, by omega, fun x h1 h2 => ?_, fun h2 => d (by omega)⟩
      by_cases e : x = lo
      · subst e; simpa using h
      · exact c x (by omega) h2
end Go.Proofs.Ytlgagnbnjfneaaa
