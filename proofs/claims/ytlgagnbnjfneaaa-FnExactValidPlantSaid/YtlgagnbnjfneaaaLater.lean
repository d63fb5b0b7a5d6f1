/- A region that draws its order, whose own operations only read, and whose callees may lay memory of their own: one walk of the text's order serves every order. No conditions. -/
import Derived.Test.YtlgagnbnjfneaaaBase
import Derived.WalkSpells
namespace Go.Proofs.Ytlgagnbnjfneaaa
open Go.RowKit
/-- A later world: nothing of what lay in w has turned. -/
structure Later (w : World) where
  world : World
  below : Below w.heap.size w world
instance {w : World} : Nonempty (Later w) := ⟨⟨w, Below.refl _ _⟩⟩
theorem Later.cell {w : World} (L : Later w) {p : Addr} {v : Value} (h : w.cell? p = some v) : L.world.cell? p = some v := cell_later L.below h
theorem Later.size {w : World} (L : Later w) : w.heap.size ≤ L.world.heap.size := L.below.size
theorem wp_region_later {P : Program} {id : Nat} {Q : Exit → Act → World → Prop} {a : Act} {w : World} {l : List Oper} (hm : P.follows .mixedOrders = true) (hB : Region.lexB .any l.toArray = true)
    (h : wpQuiet P l.toArray (fun w' => ∃ L : Later w, w' = L.world) (fun a' => ∀ w', (∃ L : Later w, w' = L.world) → Q .normal a' w') l a) : (Code.region id l.toArray true).wp P Q a w :=
  wp_region_quiet (C := fun w' => ∃ L : Later w, w' = L.world) hm hB ⟨⟨_, (Below.refl _ _).drew⟩, rfl⟩ (by simpa using h)
theorem later_b {P : Program} {f : FuncId} {args : Array Value} {w : World} {L : Later w} {v : Value}
    (h : Calls P f args L.world fun e w' => e = .returned v ∧ Below L.world.heap.size L.world w') : Calls P f args L.world fun e w'' => e = .returned v ∧ ∃ L' : Later w, w'' = L'.world :=
  h.mono fun _ w' ⟨he, hb⟩ => ⟨he, ⟨w', L.below.trans (hb.mono L.below.size)⟩, rfl⟩
theorem later_d {P : Program} {f : FuncId} {args : Array Value} {w : World} {L : Later w} {v : Value}
    (h : Calls P f args L.world fun e w' => e = .returned v ∧ ∃ n, L.world.drewN n = w') : Calls P f args L.world fun e w'' => e = .returned v ∧ ∃ L' : Later w, w'' = L'.world :=
  h.mono fun _ w' ⟨he, n, hw⟩ => ⟨he, ⟨w', hw ▸ below_drewN L.below n⟩, rfl⟩
theorem later_s {P : Program} {f : FuncId} {args : Array Value} {w : World} {L : Later w} {v : Value}
    (h : Calls P f args L.world fun e w' => e = .returned v ∧ L.world = w') : Calls P f args L.world fun e w'' => e = .returned v ∧ ∃ L' : Later w, w'' = L'.world :=
  h.mono fun _ _ ⟨he, hw⟩ => ⟨he, L, hw.symm⟩
/-- A store into one cell of a block: the others. -/
theorem setc_ne {w : World} {b i j : Nat} {v x : Value} (h : w.cell? ⟨b, j, none⟩ = some x) (hij : i ≠ j) : (w.setCell ⟨b, i, none⟩ v).cell? ⟨b, j, none⟩ = some x := by
  exact (World.cell?_setCell_other _ _ _ _ (fun e => hij (by injection e))).trans h
theorem setc_eq {w : World} {b i : Nat} {v x : Value} (h : w.cell? ⟨b, i, none⟩ = some x) : (w.setCell ⟨b, i, none⟩ v).cell? ⟨b, i, none⟩ = some v := World.cell?_setCell_same _ _ _ h
end Go.Proofs.Ytlgagnbnjfneaaa
