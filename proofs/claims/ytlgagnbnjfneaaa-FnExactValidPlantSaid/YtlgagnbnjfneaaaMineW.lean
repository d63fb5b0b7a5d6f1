/- What the walks of the mine laws have in common. No conditions. -/
import Derived.Test.YtlgagnbnjfneaaaMark
import Derived.Test.YtlgagnbnjfneaaaBools
import Derived.Deep.RegionHeld3
namespace Go.Proofs.Ytlgagnbnjfneaaa
open Go.RowKit
open Pl
theorem apart_rows {T T' : TypeId} {s s' n n' b b' : Nat} {w w' : World} {v v' : Value} {xs ys : List Value} (h : w.ownsRow b T s v n xs) (h' : w'.ownsRow b' T' s' v' n' ys) (hs : w.heap.size ≤ b' ∨ w'.heap.size ≤ b) : v.ownBlock = none ∨ v.ownBlock ≠ v'.ownBlock := by
  cases e : v.ownBlock with
  | none => exact .inl rfl
  | some g =>
    refine .inr fun e' => ?_
    have a := World.ownsRow.lt h g e
    have c := World.ownsRow.lt h' g e'.symm
    omega
theorem szA_or (xs0 : List Aw) : szA xs0 1048576 < 0 ∨ (0 ≤ szA xs0 1048576 ∧ (xs0.length : Int) ≤ 1048576) := by
  have := idLen_nonneg xs0 xs0.length
  unfold szA
  split <;> omega
end Go.Proofs.Ytlgagnbnjfneaaa
