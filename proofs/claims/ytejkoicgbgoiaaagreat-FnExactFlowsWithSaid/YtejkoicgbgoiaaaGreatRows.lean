/-
  No cell of these rows narrows 'for every input' (looked for: loops, veiled, ifaces, maps, wideKeys, modest, calm, conditions, laid).
  DERIVED. THE GIVEN ROWS OF THIS SEAT. 4 by the template 'for every input the law returns true; each argument reads behind the call as it read before'; 0 by the template 'total and deterministic' (their statements: YtejkoicgbgoiaaaGreatTotals.lean).
  GIVEN WITH THE SEED: the statements are not yours to turn. If you find one false, say at which input.
  Laid BY PROGRAM, IN A SANDBOX (cutbox-rows.mjs): the forced cells as the released guide's own fill.sh prints them over the translation 6c599f314da4f472… (all of the seat's roots in one cut). By AI agents, Wed Nov 11 2026. No macro, syntax, notation, axiom, sorry.
-/
import Derived.Test.YtejkoicgbgoiaaaGreatChecked
import GoSem.Claim
import GoSem.ClaimJoined
import GoSem.ClaimMapViews
import Derived.JoinedTies
import Derived.KernelRfl
namespace Go.Proofs.YtejkoicgbgoiaaaGreat
/- THE CELL 'sum', in the pinned program and in every row, IS THE sha256 OF THE DUMP (.gsa) THAT YtejkoicgbgoiaaaGreatProg.lean LOADS. Nothing in Lean hashes anything: it is a label: what it is worth is what the hold of that sum in a sandbox is worth. -/
noncomputable def Tryz.pinned : Pinned := { name := "ytejkoicgbgoiaaagreat", sum := "6c599f314da4f472f6c2bd7687f739b15574d446401204031f2a5f8b04e5c22c", checked := Tryz.checked }
namespace Rows
def none {H : Type} : Left H := { results := [], args := [] }

/-- 'laws.FnExactFirstReversal': WHATEVER THE INPUT: true; the input reads as it did. -/
def fnExactFirstReversalSpec : ChangeSpec := { name := "fnExactFirstReversal", fn := fun _ => fun
  | [d1, d2, d3, d4, d5, d6, d7, d8, d9, d10] => { results := [.lit (.bool true)], args := [d1, d2, d3, d4, d5, d6, d7, d8, d9, d10] }
  | _ => none }
def fnExactFirstReversalRow : OpenClaim := { program := "ytejkoicgbgoiaaagreat", sum := "6c599f314da4f472f6c2bd7687f739b15574d446401204031f2a5f8b04e5c22c", func := "loop.example/g01021/laws.FnExactFirstReversal", spec := "fnExactFirstReversal", unfollowed := true, recurses := true, apart := false }
def FnExactFirstReversalSaid : Prop := fnExactFirstReversalRow.holds Tryz.pinned (OpenSpec.ofChange fnExactFirstReversalSpec)

/-- ITS FALSE NEIGHBOUR: 'it returns false'. Refute it at one input. -/
def fnExactFirstReversalWrong : ChangeSpec := { name := "fnExactFirstReversal", fn := fun _ => fun
  | [d1, d2, d3, d4, d5, d6, d7, d8, d9, d10] => { results := [.lit (.bool false)], args := [d1, d2, d3, d4, d5, d6, d7, d8, d9, d10] }
  | _ => none }
def FnExactFirstReversalWrongFalsely : Prop := fnExactFirstReversalRow.holds Tryz.pinned (OpenSpec.ofChange fnExactFirstReversalWrong)

/-- 'laws.FnExactReversalTable': WHATEVER THE INPUT: true; the input reads as it did. -/
def fnExactReversalTableSpec : ChangeSpec := { name := "fnExactReversalTable", fn := fun _ => fun
  | [d1, d2, d3, d4, d5, d6, d7, d8, d9, d10] => { results := [.lit (.bool true)], args := [d1, d2, d3, d4, d5, d6, d7, d8, d9, d10] }
  | _ => none }
def fnExactReversalTableRow : OpenClaim := { program := "ytejkoicgbgoiaaagreat", sum := "6c599f314da4f472f6c2bd7687f739b15574d446401204031f2a5f8b04e5c22c", func := "loop.example/g01021/laws.FnExactReversalTable", spec := "fnExactReversalTable", unfollowed := true, recurses := true, apart := false }
def FnExactReversalTableSaid : Prop := fnExactReversalTableRow.holds Tryz.pinned (OpenSpec.ofChange fnExactReversalTableSpec)

/-- ITS FALSE NEIGHBOUR: 'it returns false'. Refute it at one input. -/
def fnExactReversalTableWrong : ChangeSpec := { name := "fnExactReversalTable", fn := fun _ => fun
  | [d1, d2, d3, d4, d5, d6, d7, d8, d9, d10] => { results := [.lit (.bool false)], args := [d1, d2, d3, d4, d5, d6, d7, d8, d9, d10] }
  | _ => none }
def FnExactReversalTableWrongFalsely : Prop := fnExactReversalTableRow.holds Tryz.pinned (OpenSpec.ofChange fnExactReversalTableWrong)

/-- 'laws.FnExactFlowsWith': WHATEVER THE INPUT: true; the input reads as it did. -/
def fnExactFlowsWithSpec : ChangeSpec := { name := "fnExactFlowsWith", fn := fun _ => fun
  | [d1, d2] => { results := [.lit (.bool true)], args := [d1, d2] }
  | _ => none }
def fnExactFlowsWithRow : OpenClaim := { program := "ytejkoicgbgoiaaagreat", sum := "6c599f314da4f472f6c2bd7687f739b15574d446401204031f2a5f8b04e5c22c", func := "loop.example/g01021/laws.FnExactFlowsWith", spec := "fnExactFlowsWith", unfollowed := true, recurses := true, apart := false }
def FnExactFlowsWithSaid : Prop := fnExactFlowsWithRow.holds Tryz.pinned (OpenSpec.ofChange fnExactFlowsWithSpec)

/-- ITS FALSE NEIGHBOUR: 'it returns false'. Refute it at one input. -/
def fnExactFlowsWithWrong : ChangeSpec := { name := "fnExactFlowsWith", fn := fun _ => fun
  | [d1, d2] => { results := [.lit (.bool false)], args := [d1, d2] }
  | _ => none }
def FnExactFlowsWithWrongFalsely : Prop := fnExactFlowsWithRow.holds Tryz.pinned (OpenSpec.ofChange fnExactFlowsWithWrong)

/-- 'laws.FnExactFlowsWithFire': WHATEVER THE INPUT: true; the input reads as it did. -/
def fnExactFlowsWithFireSpec : ChangeSpec := { name := "fnExactFlowsWithFire", fn := fun _ => fun
  | [d1, d2, d3, d4, d5, d6, d7, d8, d9] => { results := [.lit (.bool true)], args := [d1, d2, d3, d4, d5, d6, d7, d8, d9] }
  | _ => none }
def fnExactFlowsWithFireRow : OpenClaim := { program := "ytejkoicgbgoiaaagreat", sum := "6c599f314da4f472f6c2bd7687f739b15574d446401204031f2a5f8b04e5c22c", func := "loop.example/g01021/laws.FnExactFlowsWithFire", spec := "fnExactFlowsWithFire", unfollowed := true, recurses := true, apart := false }
def FnExactFlowsWithFireSaid : Prop := fnExactFlowsWithFireRow.holds Tryz.pinned (OpenSpec.ofChange fnExactFlowsWithFireSpec)

/-- ITS FALSE NEIGHBOUR: 'it returns false'. Refute it at one input. -/
def fnExactFlowsWithFireWrong : ChangeSpec := { name := "fnExactFlowsWithFire", fn := fun _ => fun
  | [d1, d2, d3, d4, d5, d6, d7, d8, d9] => { results := [.lit (.bool false)], args := [d1, d2, d3, d4, d5, d6, d7, d8, d9] }
  | _ => none }
def FnExactFlowsWithFireWrongFalsely : Prop := fnExactFlowsWithFireRow.holds Tryz.pinned (OpenSpec.ofChange fnExactFlowsWithFireWrong)

/- THE SECOND FORM. 'bulk': how many values and letters a reading holds, each counted each time it is reached (what is shared counts as often as it is met; a slice's spare places count too). A statement '..UptoSaid' is the law's where the arguments, and the package variables that the reading takes, are together of bulk at most 1048576: NARROWER than '..Said'. Prove '..Said' where nothing that the law and all that it calls make is longer than what came in: it says more and counts as full. Else prove '..UptoSaid'. A law counts once. -/
mutual
def uptoBulk {H : Type} : DataW H → Nat
  | .lit (.string bytes) => bytes.length + 1
  | .lit _ => 1
  | .nil => 1
  | .ptr d => uptoBulk d + 1
  | .slice elems spare => uptoBulkAll elems + uptoBulkAll spare + 1
  | .agg parts => uptoBulkAll parts + 1
  | .iface _ d => uptoBulk d + 1
  | .map entries => uptoBulkEntries entries + 1
  | .held _ => 1
def uptoBulkAll {H : Type} : List (DataW H) → Nat
  | [] => 0
  | d :: r => uptoBulk d + uptoBulkAll r
def uptoBulkEntries {H : Type} : List (Lit × DataW H) → Nat
  | [] => 0
  | x :: r => uptoBulkEntry x + uptoBulkEntries r
def uptoBulkEntry {H : Type} : Lit × DataW H → Nat
  | (.string bytes, d) => bytes.length + uptoBulk d + 1
  | (_, d) => uptoBulk d + 1
 end
def uptoSmall : (H : Type) → List (DataW H) → Bool := fun _ ds => decide (uptoBulkAll ds ≤ 1048576)
def OpenSpec.upto (s : _root_.Go.ChangeSpec) : _root_.Go.OpenSpec := { _root_.Go.OpenSpec.ofChange s with cond := some uptoSmall }

/-- 'laws.FnExactFirstReversal', WHERE WHAT IT READS IS OF BULK AT MOST 1048576: true; the input reads as it did. -/
def fnExactFirstReversalUptoRow : OpenClaim := { program := "ytejkoicgbgoiaaagreat", sum := "6c599f314da4f472f6c2bd7687f739b15574d446401204031f2a5f8b04e5c22c", func := "loop.example/g01021/laws.FnExactFirstReversal", spec := "fnExactFirstReversal", unfollowed := true, recurses := true, apart := false, narrowed := true }
def FnExactFirstReversalUptoSaid : Prop := fnExactFirstReversalUptoRow.holds Tryz.pinned (OpenSpec.upto fnExactFirstReversalSpec)

/-- 'laws.FnExactReversalTable', WHERE WHAT IT READS IS OF BULK AT MOST 1048576: true; the input reads as it did. -/
def fnExactReversalTableUptoRow : OpenClaim := { program := "ytejkoicgbgoiaaagreat", sum := "6c599f314da4f472f6c2bd7687f739b15574d446401204031f2a5f8b04e5c22c", func := "loop.example/g01021/laws.FnExactReversalTable", spec := "fnExactReversalTable", unfollowed := true, recurses := true, apart := false, narrowed := true }
def FnExactReversalTableUptoSaid : Prop := fnExactReversalTableUptoRow.holds Tryz.pinned (OpenSpec.upto fnExactReversalTableSpec)

/-- 'laws.FnExactFlowsWith', WHERE WHAT IT READS IS OF BULK AT MOST 1048576: true; the input reads as it did. -/
def fnExactFlowsWithUptoRow : OpenClaim := { program := "ytejkoicgbgoiaaagreat", sum := "6c599f314da4f472f6c2bd7687f739b15574d446401204031f2a5f8b04e5c22c", func := "loop.example/g01021/laws.FnExactFlowsWith", spec := "fnExactFlowsWith", unfollowed := true, recurses := true, apart := false, narrowed := true }
def FnExactFlowsWithUptoSaid : Prop := fnExactFlowsWithUptoRow.holds Tryz.pinned (OpenSpec.upto fnExactFlowsWithSpec)

/-- 'laws.FnExactFlowsWithFire', WHERE WHAT IT READS IS OF BULK AT MOST 1048576: true; the input reads as it did. -/
def fnExactFlowsWithFireUptoRow : OpenClaim := { program := "ytejkoicgbgoiaaagreat", sum := "6c599f314da4f472f6c2bd7687f739b15574d446401204031f2a5f8b04e5c22c", func := "loop.example/g01021/laws.FnExactFlowsWithFire", spec := "fnExactFlowsWithFire", unfollowed := true, recurses := true, apart := false, narrowed := true }
def FnExactFlowsWithFireUptoSaid : Prop := fnExactFlowsWithFireUptoRow.holds Tryz.pinned (OpenSpec.upto fnExactFlowsWithFireSpec)

end Rows
end Go.Proofs.YtejkoicgbgoiaaaGreat
