/- The laws' own functions on lists of numbers: a copy, a comparison, marks that are laid and asked for. What a list of the call's own is in memory. Conditions: the lengths that each theorem names. -/
import Derived.Test.YtemidjejelmdlaaDoorBase
import Derived.Test.YtemidjejelmdlaaDoorFrame
import Derived.Handy
import Derived.Lib.Hide
import Derived.OwnWalk
import Derived.Maps.AppendAt
import Derived.Laws.OwnMore
import Derived.Deep.AppendLies
namespace Go.Proofs.YtemidjejelmdlaaDoor
open Go.RowKit
open Pl

theorem le_max {n : Nat} (h : n ≤ 1099511627776) : n ≤ maxLen := by unfold maxLen; omega
theorem infoI : (Tryd.prog.info? 2).map (fun i => (i.zero, i.size, i.bytes)) = some (some (.int .i64 0), 1, 8) := by kernel_rfl

/-- The values of numbers. -/
def vals (xs : List Int) : List Value := xs.map (Value.int .i64)
theorem vals_length (xs : List Int) : (vals xs).length = xs.length := List.length_map _
theorem vals_get {xs : List Int} {j : Nat} (h : j < xs.length) : (vals xs)[j]? = some (.int .i64 xs[j]) := by unfold vals; rw [List.getElem?_map, List.getElem?_eq_getElem h]; rfl
theorem vals_append (xs ys : List Int) : vals (xs ++ ys) = vals xs ++ vals ys := List.map_append
theorem vals_set (xs : List Int) (j : Nat) (x : Int) : (vals xs).set j (.int .i64 x) = vals (xs.set j x) := by unfold vals; rw [List.map_set]

/-- 'Own base w v xs': the slice value v owns the numbers xs, in a block from base on (nil, if none). -/
def Own (base : Nat) (w : World) (v : Value) (xs : List Int) : Prop := w.ownsRow base 2 1 v xs.length (vals xs)

theorem Own.nil_ (base : Nat) (w : World) : Own base w (.slice none 0 0) [] := World.ownsRow_nil _ _ _ _
/-- The form of such a value: an address that may be nil, and a capacity. -/
theorem Own.form {base : Nat} {w : World} {v : Value} {xs : List Int} (h : Own base w v xs) :
    (v = .slice none 0 0 ∧ xs = []) ∨ ∃ g c, v = .slice (some ⟨g, 0, none⟩) xs.length c ∧ base ≤ g ∧ g < w.heap.size := by
  rcases h.2 with ⟨rfl, h0⟩ | ⟨g, cap, cur, hv, hb, hg, _⟩
  · exact .inl ⟨rfl, List.eq_nil_of_length_eq_zero h0⟩
  · exact .inr ⟨g, cap, hv, hb, (Array.getElem?_eq_some_iff.1 hg).1⟩
theorem Own.slice {base : Nat} {w : World} {v : Value} {xs : List Int} (h : Own base w v xs) : ∃ A c, v = .slice A xs.length c ∧ Ints w.heap.size w A xs ∧ (∀ ad, A = some ad → ad = ⟨ad.block, 0, none⟩ ∧ base ≤ ad.block ∧ ad.block < w.heap.size) := by
  rcases h.form with ⟨rfl, rfl⟩ | ⟨g, c, rfl, hb, hlt⟩
  · exact ⟨none, 0, rfl, Ints.nil, fun ad h => by cases h⟩
  · refine ⟨some ⟨g, 0, none⟩, c, rfl, fun _ => ⟨_, rfl, hlt, fun k hk => ?_⟩, fun ad h => by cases h; exact ⟨rfl, hb, hlt⟩⟩
    exact World.ownsRow.cells h rfl k _ (vals_get hk)
theorem Own.ints {base : Nat} {w : World} {A : Option Addr} {n c : Nat} {xs : List Int} (h : Own base w (.slice A n c) xs) : Ints w.heap.size w A xs := by
  obtain ⟨A', c', he, hi, _⟩ := h.slice
  injection he with h1 h2 h3
  subst h1
  exact hi
theorem Own.below {base B : Nat} {w w' : World} {v : Value} {xs : List Int} (h : Own base w v xs) (hb : Below B w w') (hB : ∀ g, v.ownBlock = some g → g < B) : Own base w' v xs := by
  refine ⟨h.1, ?_⟩
  rcases h.2 with hn | ⟨g, cap, cur, rfl, h1, h2, rest⟩
  · exact .inl hn
  · exact .inr ⟨g, cap, cur, rfl, h1, (hb.block g (hB g rfl)).trans h2, rest⟩
/-- .. over a call that leaves all that was there. -/
theorem Own.later {base : Nat} {w w' : World} {v : Value} {xs : List Int} (h : Own base w v xs) (hb : Below w.heap.size w w') : Own base w' v xs :=
  h.below hb (fun g hg => (World.ownsRow.lt h g hg).2)
theorem Own.kept {base : Nat} {w w' : World} {v : Value} {xs : List Int} {row : Option Nat} (h : Own base w v xs) (hg : w.grownBy w' row) (hne : v.ownBlock = none ∨ v.ownBlock ≠ row) : Own base w' v xs :=
  World.ownsRow.kept h hg hne
theorem Own.base {b b' : Nat} {w : World} {v : Value} {xs : List Int} (h : Own b w v xs) (hb : ∀ g, v.ownBlock = some g → b' ≤ g) : Own b' w v xs := by
  refine ⟨h.1, ?_⟩
  rcases h.2 with hn | ⟨g, cap, cur, rfl, h1, rest⟩
  · exact .inl hn
  · exact .inr ⟨g, cap, cur, rfl, hb g rfl, rest⟩

theorem take_set_succ {zs xs : List Int} {k : Nat} (hz : zs.length = xs.length) (hk : k < xs.length) (h : zs.take k = xs.take k) : (zs.set k xs[k]).take (k + 1) = xs.take (k + 1) := by
  apply List.ext_getElem?
  intro j
  rw [List.getElem?_take, List.getElem?_take]
  split
  · by_cases e : j = k
    · subst e; rw [List.getElem?_set_self (by omega), List.getElem?_eq_getElem hk]
    · rw [List.getElem?_set_ne (Ne.symm e)]
      have := congrArg (·[j]?) h
      simp only [List.getElem?_take] at this
      rw [if_pos (by omega), if_pos (by omega)] at this
      exact this
  · rfl
theorem take_all_eq {zs xs : List Int} (hz : zs.length = xs.length) (h : zs.take xs.length = xs.take xs.length) : zs = xs := by
  rw [List.take_of_length_le (by omega), List.take_of_length_le (by omega)] at h; exact h

/-! ### Comparison -/

/-! ### Marks -/
def marks (k : Int) (n : Nat) : List Int := (List.range n).map (fun j : Nat => k + (j : Int))
theorem marks_length (k : Int) (n : Nat) : (marks k n).length = n := by unfold marks; simp
theorem marks_get (k : Int) (n j : Nat) (h : j < (marks k n).length) : (marks k n)[j] = k + (j : Int) := by simp [marks]
end Go.Proofs.YtemidjejelmdlaaDoor
