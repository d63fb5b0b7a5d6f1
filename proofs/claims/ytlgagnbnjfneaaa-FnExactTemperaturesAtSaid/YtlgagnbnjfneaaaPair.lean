/- Two lists of one length, each number in its range: all are, or there is a first place at which one isn't. No conditions. -/
import Derived.Test.YtlgagnbnjfneaaaBase
import Derived.Test.YtlgagnbnjfneaaaList
import Derived.Test.YtlgagnbnjfneaaaHof
namespace Go.Proofs.Ytlgagnbnjfneaaa
open Go.RowKit
open Pl
theorem getD_pr {xs : List Int} {k : Nat} (h : k < xs.length) : xs.getD k 0 = xs[k] := by simp [List.getD, h]
theorem first_no (P : Nat → Bool) : ∀ n : Nat, (∀ k, k < n → P k = true) ∨ ∃ b, b < n ∧ P b = false ∧ ∀ k, k < b → P k = true
  | 0 => .inl (fun k h => by omega)
  | n + 1 => by
    rcases first_no P n with h | ⟨b, h1, h2, h3⟩
    · cases hp : P n
      · exact .inr ⟨n, by omega, hp, h⟩
      · exact .inl (fun k hk => by by_cases e : k = n; (subst e; exact hp); exact h k (by omega))
    · exact .inr ⟨b, by omega, h2, h3⟩
theorem allIn_getD {xs : List Int} {lo hi : Int} : allIn xs lo hi = true ↔ ∀ k, k < xs.length → inB (xs.getD k 0) lo hi = true := by
  rw [allIn_iff]
  constructor
  · intro h k hk; rw [getD_pr hk]; exact inB_iff.2 (h _ (List.getElem_mem hk))
  · intro h x hx
    obtain ⟨k, hk, rfl⟩ := List.getElem_of_mem hx
    have := h k hk
    rw [getD_pr hk] at this
    exact inB_iff.1 this
theorem pair_split (xs ys : List Int) (n : Nat) (hx : xs.length = n) (hy : ys.length = n) (a b c d : Int) :
    ((allIn xs a b && allIn ys c d) = true ∧ ∀ k, k < n → inB (xs.getD k 0) a b = true ∧ inB (ys.getD k 0) c d = true) ∨
    ((allIn xs a b && allIn ys c d) = false ∧ ∃ m, m < n ∧ (inB (xs.getD m 0) a b = false ∨ inB (xs.getD m 0) a b = true ∧ inB (ys.getD m 0) c d = false) ∧ ∀ k, k < m → inB (xs.getD k 0) a b = true ∧ inB (ys.getD k 0) c d = true) := by
  have sp : ∀ k, (inB (xs.getD k 0) a b && inB (ys.getD k 0) c d) = true → inB (xs.getD k 0) a b = true ∧ inB (ys.getD k 0) c d = true := fun k h => by simpa using h
  rcases first_no (fun k => inB (xs.getD k 0) a b && inB (ys.getD k 0) c d) n with h | ⟨m, h1, h2, h3⟩
  · left
    refine ⟨?_, fun k hk => sp k (h k hk)⟩
    rw [Bool.and_eq_true, allIn_getD, allIn_getD]
    exact ⟨fun k hk => (sp k (h k (by omega))).1, fun k hk => (sp k (h k (by omega))).2⟩
  · right
    have hm : inB (xs.getD m 0) a b = false ∨ inB (xs.getD m 0) a b = true ∧ inB (ys.getD m 0) c d = false := by
      cases e : inB (xs.getD m 0) a b
      · exact .inl rfl
      · exact .inr ⟨rfl, by rw [e] at h2; simpa using h2⟩
    refine ⟨?_, m, h1, hm, fun k hk => sp k (h3 k hk)⟩
    cases e : allIn xs a b
    · rfl
    · cases e2 : allIn ys c d
      · rfl
      · rcases hm with q | ⟨_, q⟩
        · rw [allIn_getD.1 e m (by omega)] at q; exact absurd q (by simp)
        · rw [allIn_getD.1 e2 m (by omega)] at q; exact absurd q (by simp)
end Go.Proofs.Ytlgagnbnjfneaaa
