/- Flows along a duct: their code, what is lost from joint to joint; the program's and the reference's. Conditions: the bounds that each theorem names. -/
import Derived.Test.YtlgagnbnjfneaaaBase
import Derived.Test.YtlgagnbnjfneaaaList
import Derived.Test.YtlgagnbnjfneaaaRes
import Derived.Test.YtlgagnbnjfneaaaHof
import Derived.IntWalk
import Derived.BigQuiet
import Derived.Deep.RegionHeldLaw
import Derived.Deep.AppendLies
import Derived.Deep.DrawnRows
namespace Go.Proofs.Ytlgagnbnjfneaaa
open Go.RowKit
open Pl
attribute [local go_sem ↓] Go.wp_at_zero Go.wp_at_succ
theorem getD_at {xs : List Int} {k : Nat} (h : k < xs.length) : xs.getD k 0 = xs[k] := by simp [List.getD, h]
/-- A property of the numbers below n: all have it, or there is a first that hasn't. -/
theorem two_split (P : Nat → Bool) : ∀ n : Nat, (∀ k, k < n → P k = true) ∨ ∃ b, b < n ∧ P b = false ∧ ∀ k, k < b → P k = true
  | 0 => .inl (fun k h => by omega)
  | n + 1 => by
    rcases two_split P n with h | ⟨b, h1, h2, h3⟩
    · cases hp : P n
      · exact .inr ⟨n, by omega, hp, h⟩
      · exact .inl (fun k hk => by by_cases e : k = n; (subst e; exact hp); exact h k (by omega))
    · exact .inr ⟨b, by omega, h2, h3⟩
/-- The numbers of a list never rise. -/
def falls (xs : List Int) : Bool := (List.range (xs.length - 1)).all fun k => decide (xs.getD (k + 1) 0 ≤ xs.getD k 0)
theorem falls_split (xs : List Int) : (falls xs = true ∧ ∀ k, k < xs.length - 1 → xs.getD (k + 1) 0 ≤ xs.getD k 0) ∨ (falls xs = false ∧ ∃ b, b < xs.length - 1 ∧ xs.getD b 0 < xs.getD (b + 1) 0 ∧ ∀ k, k < b → xs.getD (k + 1) 0 ≤ xs.getD k 0) := by
  rcases two_split (fun k => decide (xs.getD (k + 1) 0 ≤ xs.getD k 0)) (xs.length - 1) with h | ⟨b, h1, h2, h3⟩
  · exact .inl ⟨by unfold falls; rw [List.all_eq_true]; intro k hk; exact h k (List.mem_range.1 hk), fun k hk => of_decide_eq_true (h k hk)⟩
  · refine .inr ⟨?_, b, h1, by have := of_decide_eq_false h2; omega, fun k hk => of_decide_eq_true (h3 k hk)⟩
    cases hf : falls xs
    · rfl
    · unfold falls at hf
      rw [List.all_eq_true] at hf
      rw [hf b (List.mem_range.2 h1)] at h2
      exact absurd h2 (by simp)
end Go.Proofs.Ytlgagnbnjfneaaa
