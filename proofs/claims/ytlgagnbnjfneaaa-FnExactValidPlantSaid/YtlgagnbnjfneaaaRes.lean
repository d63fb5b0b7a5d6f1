/- A list as a result: which rows lie apart; marks on a row of the call's own. No conditions but lengths. -/
import Derived.Test.YtlgagnbnjfneaaaList
namespace Go.Proofs.Ytlgagnbnjfneaaa
open Go.RowKit
open Pl
theorem Own.appended {base : Nat} {w : World} {v : Value} {xs : List Int} {x : Int} (h : w.ownsRow base 2 1 v (xs.length + 1) (vals xs ++ [.int .i64 x])) : Own base w v (xs ++ [x]) := by
  unfold Own
  rw [vals_append, List.length_append]
  exact h
theorem Below.appended {B : Nat} {w wd w1 : World} {v : Value} {xs : List Int} {o : Obj} (hb : Below B w wd) (ho : Own B wd v xs) (hB : B ≤ wd.heap.size) (hg : (wd.alloc o).grownBy w1 v.ownBlock) : Below B w w1 :=
  (hb.alloc hB o).grown hg (by simp; omega) (fun g h => (World.ownsRow.lt ho g h).1)
theorem Below.appended2 {B : Nat} {w wd w1 : World} {v : Value} {xs : List Int} {o : Obj} (hb : Below B w wd) (ho : Own B wd v xs) (hB : B ≤ wd.heap.size) (hg : ((wd.alloc o).drew).grownBy w1 v.ownBlock) : Below B w w1 :=
  (Below.drew (hb.alloc hB o)).grown hg (by simp; omega) (fun g h => (World.ownsRow.lt ho g h).1)
theorem Own.empty {base : Nat} {w : World} (h : base ≤ w.heap.size) : Own base (w.alloc (.cells #[] 2)) (.slice (some ⟨w.heap.size, 0, none⟩) 0 0) [] :=
  ⟨rfl, .inr ⟨w.heap.size, 0, #[], rfl, h, heap_alloc_new w _, Nat.le_refl _, by simp [maxLen], rfl, rfl⟩⟩
theorem Own.apart {b b' : Nat} {w w' : World} {v v' : Value} {xs ys : List Int} (h : Own b w v xs) (h' : Own b' w' v' ys) (hs : w.heap.size ≤ b' ∨ w'.heap.size ≤ b) : v.ownBlock = none ∨ v.ownBlock ≠ v'.ownBlock := by
  cases e : v.ownBlock with
  | none => exact .inl rfl
  | some g =>
    refine .inr fun e' => ?_
    have a := World.ownsRow.lt h g e
    have c := World.ownsRow.lt h' g e'.symm
    omega
theorem Own.grew {B b : Nat} {w w1 w2 : World} {v : Value} {xs : List Int} (hb : Below B w w1) (ho : Own b w1 v xs) (hB : B ≤ b) (hs : B ≤ w1.heap.size) (hg : w1.grownBy w2 v.ownBlock) : Below B w w2 :=
  hb.grown hg hs (fun g h => Nat.le_trans hB (World.ownsRow.lt ho g h).1)
theorem markInt64S_own (A : Option Addr) (c n : Nat) (xs : List Int) (k : Int) (base : Nat) (w : World) (hn : n ≤ 1099511627776) (h1 : 0 ≤ k) (h2 : k ≤ 1099511627776) (hl : xs.length = n) (ho : Own base w (.slice A n c) xs) :
    Calls Try.prog 18 #[.slice A n c, .int .i64 k] w fun e w' => e = .returned (.int .i64 (k + n)) ∧ Own base w' (.slice A n c) (marks k n) ∧ w.grownBy w' (Value.ownBlock (.slice A n c)) := by
  rcases ho.form with ⟨he, hx⟩ | ⟨g, c', he, _, _⟩
  · injection he with e1 e2 e3
    subst e1 e2 e3
    refine (markInt64S_nil k w).mono ?_
    rintro e w' ⟨rfl, rfl⟩
    exact ⟨by simp, Own.nil_ _ _, World.grownBy.refl _ _⟩
  · injection he with e1 e2 e3
    subst e1 e3
    refine (markInt64S_row g c n xs k base w hn h1 h2 hl (by have := ho; unfold Own at this; rw [hl] at this; exact this)).mono ?_
    rintro e w' ⟨rfl, h3, h4⟩
    exact ⟨rfl, by unfold Own; rw [marks_length]; exact h3, h4⟩
end Go.Proofs.Ytlgagnbnjfneaaa
