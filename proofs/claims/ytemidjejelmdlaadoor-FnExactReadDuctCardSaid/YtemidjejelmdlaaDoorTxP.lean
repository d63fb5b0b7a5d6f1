/- Numbers as decimal text, plainly: the digits from the right, the digits from the left, a list joined. No program in sight. No conditions but those that each theorem names. -/
import Derived.Lib.Join
import Derived.Lib.ItoaNum
import Derived.Lib.LaidTab
import Derived.Test.YtemidjejelmdlaaDoorHof
namespace Go.Proofs.YtemidjejelmdlaaDoor
open Pl
/-- The digits of a number from the right; none for 0. -/
def rdig (u : Nat) : List UInt8 := if h : u = 0 then [] else UInt8.ofNat (48 + u % 10) :: rdig (u / 10)
termination_by u
decreasing_by omega
theorem rdig_zero : rdig 0 = [] := by rw [rdig, dif_pos rfl]
theorem rdig_pos {u : Nat} (h : 1 ≤ u) : rdig u = UInt8.ofNat (48 + u % 10) :: rdig (u / 10) := by rw [rdig, dif_neg (by omega)]
theorem rdig_len : ∀ (k u : Nat), u < 10 ^ k → (rdig u).length ≤ k
  | 0, u, h => by
    have : u = 0 := by simp at h; exact h
    subst this
    rw [rdig_zero]; simp
  | k + 1, u, h => by
    by_cases h0 : u = 0
    · subst h0; rw [rdig_zero]; simp
    · rw [rdig_pos (by omega)]
      have := rdig_len k (u / 10) (Nat.div_lt_of_lt_mul (by rw [Nat.pow_succ, Nat.mul_comm] at h; exact h))
      simp; omega
theorem dec_rdig : ∀ (u : Nat), 1 ≤ u → Lib.decDigits u = (rdig u).reverse := by
  intro u
  induction u using Nat.strongRecOn with
  | _ u ih =>
    intro h
    rw [rdig_pos h, List.reverse_cons]
    by_cases h10 : u < 10
    · rw [Lib.decDigits_one h10, show u / 10 = 0 by omega, rdig_zero, show u % 10 = u by omega]
      rfl
    · rw [Lib.decDigits, dif_neg h10, ih (u / 10) (by omega) (by omega)]
/-- All digits of a number from the right, and its sign. -/
def sdig (n : Int) : List UInt8 := if n < 0 then rdig n.natAbs ++ [45] else rdig n.natAbs
theorem itoa_sdig {n : Int} (h : n ≠ 0) : Lib.itoa n = (sdig n).reverse := by
  unfold Lib.itoa sdig
  by_cases h0 : n < 0
  · rw [if_pos h0, if_pos h0, dec_rdig _ (by omega), List.reverse_append]
    rfl
  · rw [if_neg h0, if_neg h0, show n.toNat = n.natAbs by omega, dec_rdig _ (by omega)]
theorem rdig_len64 {n : Int} (h1 : -9223372036854775808 ≤ n) (h2 : n ≤ 9223372036854775807) : (rdig n.natAbs).length ≤ 19 := rdig_len 19 _ (by show n.natAbs < 10000000000000000000; omega)
theorem sdig_len {n : Int} (h1 : -9223372036854775808 ≤ n) (h2 : n ≤ 9223372036854775807) : (sdig n).length ≤ 20 := by
  have := rdig_len64 h1 h2
  unfold sdig
  split
  · simp; omega
  · omega
theorem itoa_len {n : Int} (h1 : -9223372036854775808 ≤ n) (h2 : n ≤ 9223372036854775807) : (Lib.itoa n).length ≤ 20 := by
  by_cases h : n = 0
  · subst h
    have e : Lib.itoa 0 = [48] := by unfold Lib.itoa; rw [if_neg (by omega)]; exact Lib.decDigits_one (by decide)
    rw [e]
    decide
  · rw [itoa_sdig h, List.length_reverse]
    exact sdig_len h1 h2
/-- The first k numbers of a list as text, a comma between two. -/
def joinUp (xs : List Int) : Nat → List UInt8 | 0 => [] | k + 1 => joinUp xs k ++ ((if k = 0 then [] else [44]) ++ Lib.itoa (xs.getD k 0))
theorem joinUp_eq (xs : List Int) : ∀ k, k ≤ xs.length → joinUp xs k = Lib.join ((xs.take k).map Lib.itoa) [44]
  | 0, _ => by rw [joinUp]; rfl
  | k + 1, hk => by
    rw [joinUp, joinUp_eq xs k (by omega), List.take_succ_eq_append_getElem (by omega : k < xs.length), List.map_append, show xs.getD k 0 = xs[k] by simp [List.getD, show k < xs.length by omega]]
    cases k with
    | zero => rw [if_pos rfl]; simp [Lib.join, List.intercalate]
    | succ k =>
      rw [if_neg (by omega)]
      cases xs with
      | nil => simp at hk
      | cons x xs =>
        simp only [List.take_succ_cons, List.map_cons, List.cons_append]
        rw [Lib.join_cons, Lib.join_cons]
        unfold Lib.joinTail
        simp
theorem joinUp_len (xs : List Int) (h : ∀ x ∈ xs, -9223372036854775808 ≤ x ∧ x ≤ 9223372036854775807) : ∀ k, k ≤ xs.length → (joinUp xs k).length ≤ 21 * k
  | 0, _ => by simp [joinUp]
  | k + 1, hk => by
    have ih := joinUp_len xs h k (by omega)
    have hx := h _ (List.getElem_mem (show k < xs.length by omega))
    have := itoa_len hx.1 hx.2
    rw [joinUp, show xs.getD k 0 = xs[k] by simp [List.getD, show k < xs.length by omega]]
    simp only [List.length_append]
    have h1 : (if k = 0 then [] else [44] : List UInt8).length ≤ 1 := by split <;> simp
    omega
/-- A list of numbers as text. -/
def listT (xs : List Int) : List UInt8 := if xs.length = 0 then [45] else joinUp xs xs.length
def okT (xs : List Int) : Bool := decide ((xs.length : Int) ≤ 64) && allIn xs (-1000000000000) 1000000000000
def textT (xs : List Int) : List UInt8 := if okT xs then listT xs else []
end Go.Proofs.YtemidjejelmdlaaDoor
