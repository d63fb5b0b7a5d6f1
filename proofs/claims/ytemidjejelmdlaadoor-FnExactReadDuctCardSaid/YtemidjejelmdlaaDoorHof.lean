/- Contracts of functions that take a function: the least number with a property, by halving and in turn; whether an element of a list has a property. The premise on the function is named: what it returns at each number of the range, in every later world. Conditions: the bounds that each theorem names. -/
import Derived.Test.YtemidjejelmdlaaDoorBase
import Derived.Test.YtemidjejelmdlaaDoorFrame
import Derived.Handy
import Derived.Lib.Hide
import Derived.Deep.LoopGhost
import Derived.Shelf.Abstract
namespace Go.Proofs.YtemidjejelmdlaaDoor
open Go.RowKit
open Pl

/-- What is asked of a function value: at each x from lo to hi, in every later world, it returns p x; it may draw and lay blocks. -/
def Tells (g : FuncId) (cb : Array Value) (lo hi : Int) (p : Int → Bool) (w : World) : Prop :=
  ∀ (W : World) (x : Int), Below w.heap.size w W → lo ≤ x → x ≤ hi → Calls Tryd.prog g (#[.int .i64 x] ++ cb) W fun e w' => e = .returned (.bool (p x)) ∧ Below W.heap.size W w'

theorem ret_ib {a b : Int} {p q : Bool} (h1 : a = b) (h2 : p = q) : Ending.returned (.tuple #[.int .i64 a, .bool p]) = .returned (.tuple #[.int .i64 b, .bool q]) := by rw [h1, h2]

/-- All numbers of a list lie in a range. -/
def allIn (xs : List Int) (lo hi : Int) : Bool := xs.all fun x => inB x lo hi
theorem allIn_iff {xs : List Int} {lo hi : Int} : allIn xs lo hi = true ↔ ∀ x ∈ xs, lo ≤ x ∧ x ≤ hi := by unfold allIn; rw [List.all_eq_true]; exact ⟨fun h x hx => inB_iff.1 (h x hx), fun h x hx => inB_iff.2 (h x hx)⟩
end Go.Proofs.YtemidjejelmdlaaDoor
