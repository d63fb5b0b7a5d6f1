/- A loop that asks each place of a list in turn and stops at the first that fails; whether a list rises: the program's test and the reference's. Conditions: the lengths that each theorem names. -/
import Derived.Test.YtemidjejelmdlaaDoorBase
import Derived.Test.YtemidjejelmdlaaDoorList
import Derived.Test.YtemidjejelmdlaaDoorHof
import Derived.Test.YtemidjejelmdlaaDoorQuiet
import Derived.IntWalk
namespace Go.Proofs.YtemidjejelmdlaaDoor
open Go.RowKit
open Pl
/-- All places below n have a property. -/
def allUp (P : Nat → Bool) : Nat → Bool | 0 => true | n + 1 => allUp P n && P n
theorem allUp_iff (P : Nat → Bool) (n : Nat) : allUp P n = true ↔ ∀ k, k < n → P k = true := by
  induction n with
  | zero => simp [allUp]
  | succ n ih =>
    unfold allUp
    rw [Bool.and_eq_true, ih]
    constructor
    · rintro ⟨h1, h2⟩ k hk
      by_cases e : k = n
      · subst e; exact h2
      · exact h1 k (by omega)
    · intro h; exact ⟨fun k hk => h k (by omega), h n (by omega)⟩
theorem first_stop (P : Nat → Bool) : ∀ n, ∃ m, m ≤ n ∧ (∀ k, k < m → P k = true) ∧ (m < n → P m = false)
  | 0 => ⟨0, by omega, fun k h => by omega, fun h => by omega⟩
  | n + 1 => by
    obtain ⟨m, h1, h2, h3⟩ := first_stop P n
    by_cases e : m < n
    · exact ⟨m, by omega, h2, fun _ => h3 e⟩
    · have e : m = n := by omega
      subst e
      cases hp : P m
      · exact ⟨m, by omega, h2, fun _ => hp⟩
      · exact ⟨m + 1, by omega, fun k hk => by by_cases e : k = m; (subst e; exact hp); exact h2 k (by omega), fun h => by omega⟩
theorem allUp_stop {P : Nat → Bool} {n m : Nat} (h1 : m ≤ n) (h2 : ∀ k, k < m → P k = true) (h3 : m < n → P m = false) : allUp P n = decide (m = n) := by
  rw [Bool.eq_iff_iff, allUp_iff, decide_eq_true_iff]
  constructor
  · intro h
    by_cases e : m < n
    · have := h m e; rw [h3 e] at this; simp at this
    · omega
  · intro e; subst e; exact h2
/-- The first place below n that hasn't a property; n, if all have. -/
def stopAt (P : Nat → Bool) : Nat → Nat | 0 => 0 | n + 1 => if stopAt P n < n then stopAt P n else if P n then n + 1 else n
theorem stopAt_spec (P : Nat → Bool) : ∀ n, stopAt P n ≤ n ∧ (∀ k, k < stopAt P n → P k = true) ∧ (stopAt P n < n → P (stopAt P n) = false)
  | 0 => ⟨by simp [stopAt], fun k h => by simp [stopAt] at h, fun h => by simp [stopAt] at h⟩
  | n + 1 => by
    obtain ⟨h1, h2, h3⟩ := stopAt_spec P n
    unfold stopAt
    by_cases e : stopAt P n < n
    · rw [if_pos e]; exact ⟨by omega, h2, fun _ => h3 e⟩
    · rw [if_neg e]
      have e : stopAt P n = n := by omega
      rw [e] at h2
      cases hp : P n
      · simp only [Bool.false_eq_true, if_false]; exact ⟨by omega, h2, fun _ => hp⟩
      · simp only [if_true]; exact ⟨by omega, fun k hk => by by_cases e : k = n; (subst e; exact hp); exact h2 k (by omega), fun h => by omega⟩
theorem getD_pt {xs : List Int} {k : Nat} (h : k < xs.length) : xs.getD k 0 = xs[k] := by simp [List.getD, h]
theorem Ints.atD {B : Nat} {w : World} {A : Option Addr} {xs : List Int} (h : Ints B w A xs) {k : Nat} (hk : k < xs.length) : ∃ ad, A = some ad ∧ ad.block < B ∧ w.cell? (ad.add k) = some (.int .i64 (xs.getD k 0)) := by
  rw [getD_pt hk]; exact h.at_ hk
theorem Fits.atD {xs : List Int} (h : Fits xs) (k : Nat) : -9223372036854775808 ≤ xs.getD k 0 ∧ xs.getD k 0 ≤ 9223372036854775807 := by
  by_cases hk : k < xs.length
  · rw [getD_pt hk]; exact h _ (List.getElem_mem hk)
  · simp [List.getD, List.getElem?_eq_none (by omega : xs.length ≤ k)]
/-- A list rises. -/
def incP (xs : List Int) (k : Nat) : Bool := decide (k = 0) || decide (xs.getD (k - 1) 0 < xs.getD k 0)
def incB (xs : List Int) : Bool := allUp (incP xs) xs.length
theorem incP_succ (xs : List Int) (k : Nat) : incP xs (k + 1) = decide (xs.getD k 0 < xs.getD (k + 1) 0) := by unfold incP; simp
theorem allIn_up (xs : List Int) (lo hi : Int) : allIn xs lo hi = allUp (fun k => inB (xs.getD k 0) lo hi) xs.length := by
  rw [Bool.eq_iff_iff, allUp_iff, allIn_iff]
  constructor
  · intro h k hk; rw [getD_pt hk]; exact inB_mk (h _ (List.getElem_mem hk))
  · intro h x hx
    obtain ⟨k, hk, rfl⟩ := List.getElem_of_mem hx
    have := h k hk
    rw [getD_pt hk] at this
    exact inB_iff.1 this
theorem allUp_and (P Q : Nat → Bool) (n : Nat) : allUp (fun k => P k && Q k) n = (allUp P n && allUp Q n) := by
  rw [Bool.eq_iff_iff, Bool.and_eq_true, allUp_iff, allUp_iff, allUp_iff]
  constructor
  · intro h; exact ⟨fun k hk => (Bool.and_eq_true _ _ ▸ h k hk).1, fun k hk => (Bool.and_eq_true _ _ ▸ h k hk).2⟩
  · rintro ⟨h1, h2⟩ k hk; rw [Bool.and_eq_true]; exact ⟨h1 k hk, h2 k hk⟩
theorem ret_ii {a b c d : Int} (h : (a, b) = (c, d)) : Ending.returned (.tuple #[.int .i64 a, .int .i64 b]) = .returned (.tuple #[.int .i64 c, .int .i64 d]) := by injection h with h1 h2; rw [h1, h2]
theorem ret_bool {a b : Bool} (h : a = b) : Ending.returned (.bool a) = .returned (.bool b) := by rw [h]
end Go.Proofs.YtemidjejelmdlaaDoor
