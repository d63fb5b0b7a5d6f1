/- A list as a result: which rows lie apart; marks on a row of the call's own. No conditions but lengths. -/
import Derived.Test.YtemidjejelmdlaaDoorList
namespace Go.Proofs.YtemidjejelmdlaaDoor
open Go.RowKit
open Pl
theorem Own.appended {base : Nat} {w : World} {v : Value} {xs : List Int} {x : Int} (h : w.ownsRow base 2 1 v (xs.length + 1) (vals xs ++ [.int .i64 x])) : Own base w v (xs ++ [x]) := by
  unfold Own
  rw [vals_append, List.length_append]
  exact h
theorem Below.appended {B : Nat} {w wd w1 : World} {v : Value} {xs : List Int} {o : Obj} (hb : Below B w wd) (ho : Own B wd v xs) (hB : B ≤ wd.heap.size) (hg : (wd.alloc o).grownBy w1 v.ownBlock) : Below B w w1 :=
  (hb.alloc hB o).grown hg (by simp; omega) (fun g h => (World.ownsRow.lt ho g h).1)
theorem Below.appended2 {B : Nat} {w wd w1 : World} {v : Value} {xs : List Int} {o : Obj} (hb : Below B w wd) (ho : Own B wd v xs) (hB : B ≤ wd.heap.size) (hg : ((wd.alloc o).drew).grownBy w1 v.ownBlock) : Below B w w1 :=
  (Below.drew (hb.alloc hB o)).grown hg (by simp; omega) (fun g h => (World.ownsRow.lt ho g h).1)
theorem Own.empty {base : Nat} {w : World} (h : base ≤ w.heap.size) : Own base (w.alloc (.cells #[] 2)) (.slice (some ⟨w.heap.size, 0, none⟩) 0 0) [] :=
  ⟨rfl, .inr ⟨w.heap.size, 0, #[], rfl, h, heap_alloc_new w _, Nat.le_refl _, by simp [maxLen], rfl, rfl⟩⟩
end Go.Proofs.YtemidjejelmdlaaDoor
