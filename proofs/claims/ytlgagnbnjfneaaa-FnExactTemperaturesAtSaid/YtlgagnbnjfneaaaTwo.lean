/- Two lists of numbers that a call owns, each in a row of its own: what an append to one of them leaves. Conditions: the facts on memory that each theorem names. -/
import Derived.Test.YtlgagnbnjfneaaaRes
import Derived.Test.YtlgagnbnjfneaaaLater
import Derived.Deep.AppendLies
namespace Go.Proofs.Ytlgagnbnjfneaaa
open Go.RowKit
open Pl
structure Two (base : Nat) (w : World) (u v : Value) (xs ys : List Int) : Prop where
  l : Own base w u xs
  r : Own base w v ys
  ne : ∀ g, u.ownBlock = some g → v.ownBlock ≠ some g
theorem Two.later {base : Nat} {w w' : World} {u v : Value} {xs ys : List Int} (h : Two base w u v xs ys) (hb : Below w.heap.size w w') : Two base w' u v xs ys := ⟨h.l.later hb, h.r.later hb, h.ne⟩
theorem Two.swap {base : Nat} {w : World} {u v : Value} {xs ys : List Int} (h : Two base w u v xs ys) : Two base w v u ys xs := ⟨h.r, h.l, fun g hg hu => h.ne g hu hg⟩
theorem Two.nil (base : Nat) (w : World) : Two base w (.slice none 0 0) (.slice none 0 0) [] [] := ⟨Own.nil_ _ _, Own.nil_ _ _, fun g hg => by simp [Value.ownBlock] at hg⟩
theorem Two.left {base g c : Nat} {W w1 : World} {u v : Value} {xs ys : List Int} {x : Int} (h : Two base W u v xs ys) (hB : base ≤ W.heap.size)
    (hown : w1.ownsRow base 2 1 (.slice (some ⟨g, 0, none⟩) (xs.length + 1) c) (xs.length + 1) (vals xs ++ [.int .i64 x])) (hgrow : W.grownBy w1 u.ownBlock) (hat : u.ownBlock = some g ∨ g = W.heap.size) :
    Two base w1 (.slice (some ⟨g, 0, none⟩) (xs.length + 1) c) v (xs ++ [x]) ys ∧ Below base W w1 := by
  refine ⟨⟨Own.appended hown, h.r.kept hgrow ?_, ?_⟩, Own.grew (Below.refl _ _) h.l (Nat.le_refl _) hB hgrow⟩
  · cases hv : v.ownBlock with
    | none => exact .inl rfl
    | some k => exact .inr (fun e => h.ne k e.symm hv)
  · intro k hk
    have hk : some g = some k := hk
    injection hk with hk
    subst hk
    rcases hat with hat | hat
    · exact h.ne g hat
    · intro hv
      have := (World.ownsRow.lt h.r g hv).2
      omega
theorem Two.right {base g c : Nat} {W w1 : World} {u v : Value} {xs ys : List Int} {x : Int} (h : Two base W u v xs ys) (hB : base ≤ W.heap.size)
    (hown : w1.ownsRow base 2 1 (.slice (some ⟨g, 0, none⟩) (ys.length + 1) c) (ys.length + 1) (vals ys ++ [.int .i64 x])) (hgrow : W.grownBy w1 v.ownBlock) (hat : v.ownBlock = some g ∨ g = W.heap.size) :
    Two base w1 u (.slice (some ⟨g, 0, none⟩) (ys.length + 1) c) xs (ys ++ [x]) ∧ Below base W w1 := by
  obtain ⟨a, b⟩ := h.swap.left hB hown hgrow hat
  exact ⟨a.swap, b⟩
theorem news_one {w : World} {ad : Addr} {x : Value} (h : w.cell? ad = some x) : ∀ j u, [x][j]? = some u → w.cell? (ad.add j) = some u := by
  intro j u hj
  match j, hj with
  | 0, hj =>
    have hj : some x = some u := hj
    rw [← hj]
    exact h
  | j + 1, hj => simp at hj
end Go.Proofs.Ytlgagnbnjfneaaa
