/- Lists of structs of plain cells: what such a list is in memory; a row of the call's own. No conditions. -/
import Derived.Test.YtlgagnbnjfneaaaList
import Derived.Test.YtlgagnbnjfneaaaRes
import Derived.Test.YtlgagnbnjfneaaaDust
namespace Go.Proofs.Ytlgagnbnjfneaaa
open Go.RowKit
open Pl
section
variable {α : Type}
/-- 'Recs enc s B w A xs': from address A on lie the cells of the structs xs, s cells each, in a block below B. -/
def Recs (enc : α → List Value) (s : Nat) (B : Nat) (w : World) (A : Option Addr) (xs : List α) : Prop :=
  0 < xs.length → ∃ b o, A = some ⟨b, o, none⟩ ∧ b < B ∧ ∀ k (h : k < xs.length) j u, (enc xs[k])[j]? = some u → w.cell? ⟨b, o + k * s + j, none⟩ = some u
variable {enc : α → List Value} {s B : Nat} {w w' : World} {A : Option Addr} {xs : List α}
theorem Recs.nil : Recs enc s B w A [] := fun h => by simp at h
theorem Recs.below (h : Recs enc s B w A xs) (hb : Below B w w') : Recs enc s B w' A xs := by
  intro hn
  obtain ⟨b, o, e, hlt, hc⟩ := h hn
  exact ⟨b, o, e, hlt, fun k hk j u hu => (hb.cell (p := ⟨b, o + k * s + j, none⟩) hlt).trans (hc k hk j u hu)⟩
theorem Recs.more {B' : Nat} (h : Recs enc s B w A xs) (hB : B ≤ B') : Recs enc s B' w A xs := by
  intro hn
  obtain ⟨b, o, e, hlt, hc⟩ := h hn
  exact ⟨b, o, e, by omega, hc⟩
theorem Recs.at_ (h : Recs enc s B w A xs) {k : Nat} (hk : k < xs.length) : ∃ b o, A = some ⟨b, o, none⟩ ∧ b < B ∧ ∀ j u, (enc xs[k])[j]? = some u → w.cell? ⟨b, o + k * s + j, none⟩ = some u := by
  obtain ⟨b, o, e, hb, hc⟩ := h (by omega)
  exact ⟨b, o, e, hb, hc k hk⟩
theorem Recs.none_nil (h : Recs enc s B w none xs) : xs = [] := by
  cases xs with
  | nil => rfl
  | cons x xs => obtain ⟨b, o, e, _⟩ := h (by simp); cases e

theorem flat_length (he : ∀ x, (enc x).length = s) : ∀ xs : List α, (xs.flatMap enc).length = xs.length * s
  | [] => by simp
  | x :: xs => by rw [List.flatMap_cons, List.length_append, he, flat_length he xs, List.length_cons, Nat.add_mul]; omega
theorem flat_get (he : ∀ x, (enc x).length = s) : ∀ (xs : List α) (k j : Nat) (hk : k < xs.length), j < s → (xs.flatMap enc)[k * s + j]? = (enc xs[k])[j]?
  | x :: xs, 0, j, _, hj => by
    rw [List.flatMap_cons, Nat.zero_mul, Nat.zero_add, List.getElem?_append_left (by rw [he]; exact hj)]; rfl
  | x :: xs, k + 1, j, hk, hj => by
    rw [List.flatMap_cons, List.getElem?_append_right (by rw [he, Nat.add_mul]; omega), he, show (k + 1) * s + j - s = k * s + j by rw [Nat.add_mul]; omega]
    exact flat_get he xs k j (by simpa using hk) hj
/-- A row of the call's own. -/
def OwnR (T : TypeId) (enc : α → List Value) (s : Nat) (base : Nat) (w : World) (v : Value) (xs : List α) : Prop := w.ownsRow base T s v xs.length (xs.flatMap enc)
variable {T : TypeId} {base : Nat} {v : Value}
theorem OwnR.nil_ (base : Nat) (w : World) : OwnR T enc s base w (.slice none 0 0) ([] : List α) := World.ownsRow_nil _ _ _ _
theorem OwnR.form (h : OwnR T enc s base w v xs) :
    (v = .slice none 0 0 ∧ xs = []) ∨ ∃ g c, v = .slice (some ⟨g, 0, none⟩) xs.length c ∧ base ≤ g ∧ g < w.heap.size := by
  rcases h.2 with ⟨rfl, h0⟩ | ⟨g, cap, cur, hv, hb, hg, _⟩
  · exact .inl ⟨rfl, List.eq_nil_of_length_eq_zero h0⟩
  · exact .inr ⟨g, cap, hv, hb, (Array.getElem?_eq_some_iff.1 hg).1⟩
theorem OwnR.slice (he : ∀ x, (enc x).length = s) (h : OwnR T enc s base w v xs) : ∃ A c, v = .slice A xs.length c ∧ Recs enc s w.heap.size w A xs ∧ (∀ ad, A = some ad → ad = ⟨ad.block, 0, none⟩ ∧ base ≤ ad.block ∧ ad.block < w.heap.size) := by
  rcases h.form with ⟨rfl, rfl⟩ | ⟨g, c, rfl, hb, hlt⟩
  · exact ⟨none, 0, rfl, Recs.nil, fun ad h => by cases h⟩
  · refine ⟨some ⟨g, 0, none⟩, c, rfl, fun _ => ⟨_, _, rfl, hlt, fun k hk j u hu => ?_⟩, fun ad h => by cases h; exact ⟨rfl, hb, hlt⟩⟩
    obtain ⟨hj, _⟩ := List.getElem?_eq_some_iff.1 hu
    rw [he] at hj
    have := World.ownsRow.cells h rfl (k * s + j) u (by rw [flat_get he xs k j hk hj]; exact hu)
    rw [Addr.add_lit] at this
    rw [Nat.add_assoc]
    exact this
theorem OwnR.rows (he : ∀ x, (enc x).length = s) {n c : Nat} (h : OwnR T enc s base w (.slice A n c) xs) : Recs enc s w.heap.size w A xs := by
  obtain ⟨A', c', e, hi, _⟩ := h.slice he
  injection e with h1 h2 h3
  subst h1
  exact hi
theorem OwnR.below {B : Nat} (h : OwnR T enc s base w v xs) (hb : Below B w w') (hB : ∀ g, v.ownBlock = some g → g < B) : OwnR T enc s base w' v xs := by
  refine ⟨h.1, ?_⟩
  rcases h.2 with hn | ⟨g, cap, cur, rfl, h1, h2, rest⟩
  · exact .inl hn
  · exact .inr ⟨g, cap, cur, rfl, h1, (hb.block g (hB g rfl)).trans h2, rest⟩
theorem OwnR.rebase {b' : Nat} (h : OwnR T enc s base w v xs) (hb : b' ≤ base) : OwnR T enc s b' w v xs := by
  refine ⟨h.1, ?_⟩
  rcases h.2 with hn | ⟨g, cap, cur, rfl, h1, rest⟩
  · exact .inl hn
  · exact .inr ⟨g, cap, cur, rfl, Nat.le_trans hb h1, rest⟩
theorem OwnR.kept {row : Option Nat} (h : OwnR T enc s base w v xs) (hg : w.grownBy w' row) (hne : v.ownBlock = none ∨ v.ownBlock ≠ row) : OwnR T enc s base w' v xs :=
  World.ownsRow.kept h hg hne
theorem OwnR.later (h : OwnR T enc s base w v xs) (hb : Below w.heap.size w w') : OwnR T enc s base w' v xs :=
  h.below hb (fun g hg => (World.ownsRow.lt h g hg).2)
end

theorem take_set_succ' {α : Type} {zs xs : List α} {k : Nat} (hz : zs.length = xs.length) (hk : k < xs.length) (h : zs.take k = xs.take k) : (zs.set k xs[k]).take (k + 1) = xs.take (k + 1) := by
  apply List.ext_getElem?
  intro j
  rw [List.getElem?_take, List.getElem?_take]
  split
  · by_cases e : j = k
    · subst e; rw [List.getElem?_set_self (by omega), List.getElem?_eq_getElem hk]
    · rw [List.getElem?_set_ne (Ne.symm e)]
      have := congrArg (·[j]?) h
      simp only [List.getElem?_take] at this
      rw [if_pos (by omega), if_pos (by omega)] at this
      exact this
  · rfl
theorem take_all_eq' {α : Type} {zs xs : List α} (hz : zs.length = xs.length) (h : zs.take xs.length = xs.take xs.length) : zs = xs := by
  rw [List.take_of_length_le (by omega), List.take_of_length_le (by omega)] at h; exact h
/-! ### Tasks that make dust: four numbers -/
end Go.Proofs.Ytlgagnbnjfneaaa
