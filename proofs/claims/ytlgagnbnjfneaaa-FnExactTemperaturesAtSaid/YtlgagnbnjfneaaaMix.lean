/- Sums over lists: the share of mixed flows, by the program and by the reference; and the walk of the law. Conditions: the bounds that each theorem names. -/
import Derived.Test.YtlgagnbnjfneaaaBase
import Derived.Test.YtlgagnbnjfneaaaList
import Derived.Test.YtlgagnbnjfneaaaHof
import Derived.Lib.Hide
namespace Go.Proofs.Ytlgagnbnjfneaaa
open Go.RowKit
open Pl

/-- Sums of the first numbers of a list; of products with those of another. -/
def sumN (xs : List Int) : Nat → Int
  | 0 => 0
  | k + 1 => sumN xs k + xs.getD k 0
def dotN (xs ys : List Int) : Nat → Int
  | 0 => 0
  | k + 1 => dotN xs ys k + xs.getD k 0 * ys.getD k 0
theorem getD_eq {xs : List Int} {k : Nat} (h : k < xs.length) : xs.getD k 0 = xs[k] := by simp [List.getD, h]
theorem getD_bd {xs : List Int} {lo hi : Int} (h : ∀ x ∈ xs, lo ≤ x ∧ x ≤ hi) (h0 : lo ≤ 0) (h1 : 0 ≤ hi) (k : Nat) : lo ≤ xs.getD k 0 ∧ xs.getD k 0 ≤ hi := by
  by_cases hk : k < xs.length
  · rw [getD_eq hk]; exact h _ (List.getElem_mem _)
  · rw [List.getD_eq_getElem?_getD, List.getElem?_eq_none (by omega)]; exact ⟨h0, h1⟩
theorem sumN_bd {xs : List Int} {lo hi : Int} (h : ∀ x ∈ xs, lo ≤ x ∧ x ≤ hi) (h0 : lo ≤ 0) (h1 : 0 ≤ hi) : ∀ k : Nat, (k : Int) * lo ≤ sumN xs k ∧ sumN xs k ≤ k * hi
  | 0 => by simp [sumN]
  | k + 1 => by
    obtain ⟨a, b⟩ := sumN_bd h h0 h1 k
    obtain ⟨c, d⟩ := getD_bd h h0 h1 k
    show ((k + 1 : Nat) : Int) * lo ≤ sumN xs k + xs.getD k 0 ∧ sumN xs k + xs.getD k 0 ≤ ((k + 1 : Nat) : Int) * hi
    rw [Int.natCast_succ, Int.add_mul, Int.add_mul, Int.one_mul, Int.one_mul]
    omega
theorem dotN_bd {xs ys : List Int} {X Y : Int} (hx : ∀ x ∈ xs, -X ≤ x ∧ x ≤ X) (hy : ∀ y ∈ ys, -Y ≤ y ∧ y ≤ Y) (h0 : 0 ≤ X) (h1 : 0 ≤ Y) : ∀ k : Nat, -((k : Int) * (X * Y)) ≤ dotN xs ys k ∧ dotN xs ys k ≤ k * (X * Y)
  | 0 => by simp [dotN]
  | k + 1 => by
    obtain ⟨a, b⟩ := dotN_bd hx hy h0 h1 k
    obtain ⟨c, d⟩ := getD_bd hx (by omega) h0 k
    obtain ⟨e, f⟩ := getD_bd hy (by omega) h1 k
    obtain ⟨m1, m2⟩ := mul_abs c d e f
    show -(((k + 1 : Nat) : Int) * (X * Y)) ≤ dotN xs ys k + xs.getD k 0 * ys.getD k 0 ∧ dotN xs ys k + xs.getD k 0 * ys.getD k 0 ≤ ((k + 1 : Nat) : Int) * (X * Y)
    rw [Int.natCast_succ, Int.add_mul, Int.one_mul]
    omega
theorem sumN_nonneg {xs : List Int} (h : ∀ x ∈ xs, 0 ≤ x) : ∀ k, 0 ≤ sumN xs k
  | 0 => Int.le_refl _
  | k + 1 => by
    have a := sumN_nonneg h k
    have b : 0 ≤ xs.getD k 0 := by
      by_cases hk : k < xs.length
      · rw [getD_eq hk]; exact h _ (List.getElem_mem _)
      · rw [List.getD_eq_getElem?_getD, List.getElem?_eq_none (by omega)]; exact Int.le_refl _
    show 0 ≤ sumN xs k + xs.getD k 0
    omega
theorem dotN_nonneg {xs ys : List Int} (h : ∀ x ∈ xs, 0 ≤ x) (h' : ∀ y ∈ ys, 0 ≤ y) : ∀ k, 0 ≤ dotN xs ys k
  | 0 => Int.le_refl _
  | k + 1 => by
    have a := dotN_nonneg h h' k
    have b : ∀ zs : List Int, (∀ z ∈ zs, 0 ≤ z) → 0 ≤ zs.getD k 0 := fun zs hz => by
      by_cases hk : k < zs.length
      · rw [getD_eq hk]; exact hz _ (List.getElem_mem _)
      · rw [List.getD_eq_getElem?_getD, List.getElem?_eq_none (by omega)]; exact Int.le_refl _
    show 0 ≤ dotN xs ys k + xs.getD k 0 * ys.getD k 0
    have := Int.mul_nonneg (b xs h) (b ys h')
    omega

end Go.Proofs.Ytlgagnbnjfneaaa
