/-
  No cell of these rows narrows 'for every input' (looked for: loops, veiled, ifaces, maps, wideKeys, modest, calm, conditions, laid).
  DERIVED. THE GIVEN ROWS OF THIS SEAT. 12 by the template 'for every input the law returns true; each argument reads behind the call as it read before'; 0 by the template 'total and deterministic' (their statements: YtnjplfcmojeedaaTotals.lean).
  GIVEN WITH THE SEED: the statements are not yours to turn. If you find one false, say at which input.
  Laid BY PROGRAM, IN A SANDBOX (cutbox-rows.mjs): the forced cells as the released guide's own fill.sh prints them over the translation 4977c504c7329884… (all of the seat's roots in one cut). By AI agents, Wed Nov 11 2026. No macro, syntax, notation, axiom, sorry.
-/
import Derived.Test.YtnjplfcmojeedaaChecked
import GoSem.Claim
import GoSem.ClaimJoined
import GoSem.ClaimMapViews
import Derived.JoinedTies
import Derived.KernelRfl
namespace Go.Proofs.Ytnjplfcmojeedaa
/- THE CELL 'sum', in the pinned program and in every row, IS THE sha256 OF THE DUMP (.gsa) THAT YtnjplfcmojeedaaProg.lean LOADS. Nothing in Lean hashes anything: it is a label: what it is worth is what the hold of that sum in a sandbox is worth. -/
noncomputable def Try.pinned : Pinned := { name := "ytnjplfcmojeedaa", sum := "4977c504c7329884bc3a1f8d347295f2d0380537166ca45a47555200ee7d8406", checked := Try.checked }
namespace Rows
def none {H : Type} : Left H := { results := [], args := [] }

/-- 'laws.FnExactSettledAfter': WHATEVER THE INPUT: true; the input reads as it did. -/
def fnExactSettledAfterSpec : ChangeSpec := { name := "fnExactSettledAfter", fn := fun _ => fun
  | [d1, d2, d3] => { results := [.lit (.bool true)], args := [d1, d2, d3] }
  | _ => none }
def fnExactSettledAfterRow : OpenClaim := { program := "ytnjplfcmojeedaa", sum := "4977c504c7329884bc3a1f8d347295f2d0380537166ca45a47555200ee7d8406", func := "loop.example/g01021/laws.FnExactSettledAfter", spec := "fnExactSettledAfter", apart := false }
def FnExactSettledAfterSaid : Prop := fnExactSettledAfterRow.holds Try.pinned (OpenSpec.ofChange fnExactSettledAfterSpec)

/-- ITS FALSE NEIGHBOUR: 'it returns false'. Refute it at one input. -/
def fnExactSettledAfterWrong : ChangeSpec := { name := "fnExactSettledAfter", fn := fun _ => fun
  | [d1, d2, d3] => { results := [.lit (.bool false)], args := [d1, d2, d3] }
  | _ => none }
def FnExactSettledAfterWrongFalsely : Prop := fnExactSettledAfterRow.holds Try.pinned (OpenSpec.ofChange fnExactSettledAfterWrong)

/-- 'laws.FnExactDiluteFlow': WHATEVER THE INPUT: true; the input reads as it did. -/
def fnExactDiluteFlowSpec : ChangeSpec := { name := "fnExactDiluteFlow", fn := fun _ => fun
  | [d1, d2] => { results := [.lit (.bool true)], args := [d1, d2] }
  | _ => none }
def fnExactDiluteFlowRow : OpenClaim := { program := "ytnjplfcmojeedaa", sum := "4977c504c7329884bc3a1f8d347295f2d0380537166ca45a47555200ee7d8406", func := "loop.example/g01021/laws.FnExactDiluteFlow", spec := "fnExactDiluteFlow", unfollowed := true, recurses := true, apart := false }
def FnExactDiluteFlowSaid : Prop := fnExactDiluteFlowRow.holds Try.pinned (OpenSpec.ofChange fnExactDiluteFlowSpec)

/-- ITS FALSE NEIGHBOUR: 'it returns false'. Refute it at one input. -/
def fnExactDiluteFlowWrong : ChangeSpec := { name := "fnExactDiluteFlow", fn := fun _ => fun
  | [d1, d2] => { results := [.lit (.bool false)], args := [d1, d2] }
  | _ => none }
def FnExactDiluteFlowWrongFalsely : Prop := fnExactDiluteFlowRow.holds Try.pinned (OpenSpec.ofChange fnExactDiluteFlowWrong)

/-- 'laws.FnExactJointsOf': WHATEVER THE INPUT: true; the input reads as it did. -/
def fnExactJointsOfSpec : ChangeSpec := { name := "fnExactJointsOf", fn := fun _ => fun
  | [d] => { results := [.lit (.bool true)], args := [d] }
  | _ => none }
def fnExactJointsOfRow : OpenClaim := { program := "ytnjplfcmojeedaa", sum := "4977c504c7329884bc3a1f8d347295f2d0380537166ca45a47555200ee7d8406", func := "loop.example/g01021/laws.FnExactJointsOf", spec := "fnExactJointsOf", apart := false }
def FnExactJointsOfSaid : Prop := fnExactJointsOfRow.holds Try.pinned (OpenSpec.ofChange fnExactJointsOfSpec)

/-- ITS FALSE NEIGHBOUR: 'it returns false'. Refute it at one input. -/
def fnExactJointsOfWrong : ChangeSpec := { name := "fnExactJointsOf", fn := fun _ => fun
  | [d] => { results := [.lit (.bool false)], args := [d] }
  | _ => none }
def FnExactJointsOfWrongFalsely : Prop := fnExactJointsOfRow.holds Try.pinned (OpenSpec.ofChange fnExactJointsOfWrong)

/-- 'laws.FnExactSwitchesOf': WHATEVER THE INPUT: true; the input reads as it did. -/
def fnExactSwitchesOfSpec : ChangeSpec := { name := "fnExactSwitchesOf", fn := fun _ => fun
  | [d] => { results := [.lit (.bool true)], args := [d] }
  | _ => none }
def fnExactSwitchesOfRow : OpenClaim := { program := "ytnjplfcmojeedaa", sum := "4977c504c7329884bc3a1f8d347295f2d0380537166ca45a47555200ee7d8406", func := "loop.example/g01021/laws.FnExactSwitchesOf", spec := "fnExactSwitchesOf", unfollowed := true, recurses := true, apart := false }
def FnExactSwitchesOfSaid : Prop := fnExactSwitchesOfRow.holds Try.pinned (OpenSpec.ofChange fnExactSwitchesOfSpec)

/-- ITS FALSE NEIGHBOUR: 'it returns false'. Refute it at one input. -/
def fnExactSwitchesOfWrong : ChangeSpec := { name := "fnExactSwitchesOf", fn := fun _ => fun
  | [d] => { results := [.lit (.bool false)], args := [d] }
  | _ => none }
def FnExactSwitchesOfWrongFalsely : Prop := fnExactSwitchesOfRow.holds Try.pinned (OpenSpec.ofChange fnExactSwitchesOfWrong)

/-- 'laws.FnExactTemperatureFor': WHATEVER THE INPUT: true; the input reads as it did. -/
def fnExactTemperatureForSpec : ChangeSpec := { name := "fnExactTemperatureFor", fn := fun _ => fun
  | [d1, d2] => { results := [.lit (.bool true)], args := [d1, d2] }
  | _ => none }
def fnExactTemperatureForRow : OpenClaim := { program := "ytnjplfcmojeedaa", sum := "4977c504c7329884bc3a1f8d347295f2d0380537166ca45a47555200ee7d8406", func := "loop.example/g01021/laws.FnExactTemperatureFor", spec := "fnExactTemperatureFor", unfollowed := true, recurses := true, apart := false }
def FnExactTemperatureForSaid : Prop := fnExactTemperatureForRow.holds Try.pinned (OpenSpec.ofChange fnExactTemperatureForSpec)

/-- ITS FALSE NEIGHBOUR: 'it returns false'. Refute it at one input. -/
def fnExactTemperatureForWrong : ChangeSpec := { name := "fnExactTemperatureFor", fn := fun _ => fun
  | [d1, d2] => { results := [.lit (.bool false)], args := [d1, d2] }
  | _ => none }
def FnExactTemperatureForWrongFalsely : Prop := fnExactTemperatureForRow.holds Try.pinned (OpenSpec.ofChange fnExactTemperatureForWrong)

/-- 'laws.FnExactHottestJunction': WHATEVER THE INPUT: true; the input reads as it did. -/
def fnExactHottestJunctionSpec : ChangeSpec := { name := "fnExactHottestJunction", fn := fun _ => fun
  | [d] => { results := [.lit (.bool true)], args := [d] }
  | _ => none }
def fnExactHottestJunctionRow : OpenClaim := { program := "ytnjplfcmojeedaa", sum := "4977c504c7329884bc3a1f8d347295f2d0380537166ca45a47555200ee7d8406", func := "loop.example/g01021/laws.FnExactHottestJunction", spec := "fnExactHottestJunction", unfollowed := true, recurses := true, apart := false }
def FnExactHottestJunctionSaid : Prop := fnExactHottestJunctionRow.holds Try.pinned (OpenSpec.ofChange fnExactHottestJunctionSpec)

/-- ITS FALSE NEIGHBOUR: 'it returns false'. Refute it at one input. -/
def fnExactHottestJunctionWrong : ChangeSpec := { name := "fnExactHottestJunction", fn := fun _ => fun
  | [d] => { results := [.lit (.bool false)], args := [d] }
  | _ => none }
def FnExactHottestJunctionWrongFalsely : Prop := fnExactHottestJunctionRow.holds Try.pinned (OpenSpec.ofChange fnExactHottestJunctionWrong)

/-- 'laws.FnExactGasShare': WHATEVER THE INPUT: true; the input reads as it did. -/
def fnExactGasShareSpec : ChangeSpec := { name := "fnExactGasShare", fn := fun _ => fun
  | [d1, d2] => { results := [.lit (.bool true)], args := [d1, d2] }
  | _ => none }
def fnExactGasShareRow : OpenClaim := { program := "ytnjplfcmojeedaa", sum := "4977c504c7329884bc3a1f8d347295f2d0380537166ca45a47555200ee7d8406", func := "loop.example/g01021/laws.FnExactGasShare", spec := "fnExactGasShare", apart := false }
def FnExactGasShareSaid : Prop := fnExactGasShareRow.holds Try.pinned (OpenSpec.ofChange fnExactGasShareSpec)

/-- ITS FALSE NEIGHBOUR: 'it returns false'. Refute it at one input. -/
def fnExactGasShareWrong : ChangeSpec := { name := "fnExactGasShare", fn := fun _ => fun
  | [d1, d2] => { results := [.lit (.bool false)], args := [d1, d2] }
  | _ => none }
def FnExactGasShareWrongFalsely : Prop := fnExactGasShareRow.holds Try.pinned (OpenSpec.ofChange fnExactGasShareWrong)

/-- 'laws.FnExactWarmAlong': WHATEVER THE INPUT: true; the input reads as it did. -/
def fnExactWarmAlongSpec : ChangeSpec := { name := "fnExactWarmAlong", fn := fun _ => fun
  | [d1, d2, d3, d4] => { results := [.lit (.bool true)], args := [d1, d2, d3, d4] }
  | _ => none }
def fnExactWarmAlongRow : OpenClaim := { program := "ytnjplfcmojeedaa", sum := "4977c504c7329884bc3a1f8d347295f2d0380537166ca45a47555200ee7d8406", func := "loop.example/g01021/laws.FnExactWarmAlong", spec := "fnExactWarmAlong", apart := false }
def FnExactWarmAlongSaid : Prop := fnExactWarmAlongRow.holds Try.pinned (OpenSpec.ofChange fnExactWarmAlongSpec)

/-- ITS FALSE NEIGHBOUR: 'it returns false'. Refute it at one input. -/
def fnExactWarmAlongWrong : ChangeSpec := { name := "fnExactWarmAlong", fn := fun _ => fun
  | [d1, d2, d3, d4] => { results := [.lit (.bool false)], args := [d1, d2, d3, d4] }
  | _ => none }
def FnExactWarmAlongWrongFalsely : Prop := fnExactWarmAlongRow.holds Try.pinned (OpenSpec.ofChange fnExactWarmAlongWrong)

/-- 'laws.FnExactReversedBy': WHATEVER THE INPUT: true; the input reads as it did. -/
def fnExactReversedBySpec : ChangeSpec := { name := "fnExactReversedBy", fn := fun _ => fun
  | [d1, d2] => { results := [.lit (.bool true)], args := [d1, d2] }
  | _ => none }
def fnExactReversedByRow : OpenClaim := { program := "ytnjplfcmojeedaa", sum := "4977c504c7329884bc3a1f8d347295f2d0380537166ca45a47555200ee7d8406", func := "loop.example/g01021/laws.FnExactReversedBy", spec := "fnExactReversedBy", unfollowed := true, recurses := true, apart := false }
def FnExactReversedBySaid : Prop := fnExactReversedByRow.holds Try.pinned (OpenSpec.ofChange fnExactReversedBySpec)

/-- ITS FALSE NEIGHBOUR: 'it returns false'. Refute it at one input. -/
def fnExactReversedByWrong : ChangeSpec := { name := "fnExactReversedBy", fn := fun _ => fun
  | [d1, d2] => { results := [.lit (.bool false)], args := [d1, d2] }
  | _ => none }
def FnExactReversedByWrongFalsely : Prop := fnExactReversedByRow.holds Try.pinned (OpenSpec.ofChange fnExactReversedByWrong)

/-- 'laws.FnExactWalkTime': WHATEVER THE INPUT: true; the input reads as it did. -/
def fnExactWalkTimeSpec : ChangeSpec := { name := "fnExactWalkTime", fn := fun _ => fun
  | [d1, d2] => { results := [.lit (.bool true)], args := [d1, d2] }
  | _ => none }
def fnExactWalkTimeRow : OpenClaim := { program := "ytnjplfcmojeedaa", sum := "4977c504c7329884bc3a1f8d347295f2d0380537166ca45a47555200ee7d8406", func := "loop.example/g01021/laws.FnExactWalkTime", spec := "fnExactWalkTime", apart := false }
def FnExactWalkTimeSaid : Prop := fnExactWalkTimeRow.holds Try.pinned (OpenSpec.ofChange fnExactWalkTimeSpec)

/-- ITS FALSE NEIGHBOUR: 'it returns false'. Refute it at one input. -/
def fnExactWalkTimeWrong : ChangeSpec := { name := "fnExactWalkTime", fn := fun _ => fun
  | [d1, d2] => { results := [.lit (.bool false)], args := [d1, d2] }
  | _ => none }
def FnExactWalkTimeWrongFalsely : Prop := fnExactWalkTimeRow.holds Try.pinned (OpenSpec.ofChange fnExactWalkTimeWrong)

/-- 'laws.FnExactMixFlows': WHATEVER THE INPUT: true; the input reads as it did. -/
def fnExactMixFlowsSpec : ChangeSpec := { name := "fnExactMixFlows", fn := fun _ => fun
  | [d1, d2] => { results := [.lit (.bool true)], args := [d1, d2] }
  | _ => none }
def fnExactMixFlowsRow : OpenClaim := { program := "ytnjplfcmojeedaa", sum := "4977c504c7329884bc3a1f8d347295f2d0380537166ca45a47555200ee7d8406", func := "loop.example/g01021/laws.FnExactMixFlows", spec := "fnExactMixFlows", unfollowed := true, recurses := true, apart := false }
def FnExactMixFlowsSaid : Prop := fnExactMixFlowsRow.holds Try.pinned (OpenSpec.ofChange fnExactMixFlowsSpec)

/-- ITS FALSE NEIGHBOUR: 'it returns false'. Refute it at one input. -/
def fnExactMixFlowsWrong : ChangeSpec := { name := "fnExactMixFlows", fn := fun _ => fun
  | [d1, d2] => { results := [.lit (.bool false)], args := [d1, d2] }
  | _ => none }
def FnExactMixFlowsWrongFalsely : Prop := fnExactMixFlowsRow.holds Try.pinned (OpenSpec.ofChange fnExactMixFlowsWrong)

/-- 'laws.FnExactValidDustings': WHATEVER THE INPUT: true; the input reads as it did. -/
def fnExactValidDustingsSpec : ChangeSpec := { name := "fnExactValidDustings", fn := fun _ => fun
  | [d] => { results := [.lit (.bool true)], args := [d] }
  | _ => none }
def fnExactValidDustingsRow : OpenClaim := { program := "ytnjplfcmojeedaa", sum := "4977c504c7329884bc3a1f8d347295f2d0380537166ca45a47555200ee7d8406", func := "loop.example/g01021/laws.FnExactValidDustings", spec := "fnExactValidDustings", unfollowed := true, recurses := true, apart := false }
def FnExactValidDustingsSaid : Prop := fnExactValidDustingsRow.holds Try.pinned (OpenSpec.ofChange fnExactValidDustingsSpec)

/-- ITS FALSE NEIGHBOUR: 'it returns false'. Refute it at one input. -/
def fnExactValidDustingsWrong : ChangeSpec := { name := "fnExactValidDustings", fn := fun _ => fun
  | [d] => { results := [.lit (.bool false)], args := [d] }
  | _ => none }
def FnExactValidDustingsWrongFalsely : Prop := fnExactValidDustingsRow.holds Try.pinned (OpenSpec.ofChange fnExactValidDustingsWrong)

/- THE SECOND FORM. 'bulk': how many values and letters a reading holds, each counted each time it is reached (what is shared counts as often as it is met; a slice's spare places count too). A statement '..UptoSaid' is the law's where the arguments, and the package variables that the reading takes, are together of bulk at most 1048576: NARROWER than '..Said'. Prove '..Said' where nothing that the law and all that it calls make is longer than what came in: it says more and counts as full. Else prove '..UptoSaid'. A law counts once. -/
mutual
def uptoBulk {H : Type} : DataW H → Nat
  | .lit (.string bytes) => bytes.length + 1
  | .lit _ => 1
  | .nil => 1
  | .ptr d => uptoBulk d + 1
  | .slice elems spare => uptoBulkAll elems + uptoBulkAll spare + 1
  | .agg parts => uptoBulkAll parts + 1
  | .iface _ d => uptoBulk d + 1
  | .map entries => uptoBulkEntries entries + 1
  | .held _ => 1
def uptoBulkAll {H : Type} : List (DataW H) → Nat
  | [] => 0
  | d :: r => uptoBulk d + uptoBulkAll r
def uptoBulkEntries {H : Type} : List (Lit × DataW H) → Nat
  | [] => 0
  | x :: r => uptoBulkEntry x + uptoBulkEntries r
def uptoBulkEntry {H : Type} : Lit × DataW H → Nat
  | (.string bytes, d) => bytes.length + uptoBulk d + 1
  | (_, d) => uptoBulk d + 1
 end
def uptoSmall : (H : Type) → List (DataW H) → Bool := fun _ ds => decide (uptoBulkAll ds ≤ 1048576)
def OpenSpec.upto (s : _root_.Go.ChangeSpec) : _root_.Go.OpenSpec := { _root_.Go.OpenSpec.ofChange s with cond := some uptoSmall }

/-- 'laws.FnExactSettledAfter', WHERE WHAT IT READS IS OF BULK AT MOST 1048576: true; the input reads as it did. -/
def fnExactSettledAfterUptoRow : OpenClaim := { program := "ytnjplfcmojeedaa", sum := "4977c504c7329884bc3a1f8d347295f2d0380537166ca45a47555200ee7d8406", func := "loop.example/g01021/laws.FnExactSettledAfter", spec := "fnExactSettledAfter", apart := false, narrowed := true }
def FnExactSettledAfterUptoSaid : Prop := fnExactSettledAfterUptoRow.holds Try.pinned (OpenSpec.upto fnExactSettledAfterSpec)

/-- 'laws.FnExactDiluteFlow', WHERE WHAT IT READS IS OF BULK AT MOST 1048576: true; the input reads as it did. -/
def fnExactDiluteFlowUptoRow : OpenClaim := { program := "ytnjplfcmojeedaa", sum := "4977c504c7329884bc3a1f8d347295f2d0380537166ca45a47555200ee7d8406", func := "loop.example/g01021/laws.FnExactDiluteFlow", spec := "fnExactDiluteFlow", unfollowed := true, recurses := true, apart := false, narrowed := true }
def FnExactDiluteFlowUptoSaid : Prop := fnExactDiluteFlowUptoRow.holds Try.pinned (OpenSpec.upto fnExactDiluteFlowSpec)

/-- 'laws.FnExactJointsOf', WHERE WHAT IT READS IS OF BULK AT MOST 1048576: true; the input reads as it did. -/
def fnExactJointsOfUptoRow : OpenClaim := { program := "ytnjplfcmojeedaa", sum := "4977c504c7329884bc3a1f8d347295f2d0380537166ca45a47555200ee7d8406", func := "loop.example/g01021/laws.FnExactJointsOf", spec := "fnExactJointsOf", apart := false, narrowed := true }
def FnExactJointsOfUptoSaid : Prop := fnExactJointsOfUptoRow.holds Try.pinned (OpenSpec.upto fnExactJointsOfSpec)

/-- 'laws.FnExactSwitchesOf', WHERE WHAT IT READS IS OF BULK AT MOST 1048576: true; the input reads as it did. -/
def fnExactSwitchesOfUptoRow : OpenClaim := { program := "ytnjplfcmojeedaa", sum := "4977c504c7329884bc3a1f8d347295f2d0380537166ca45a47555200ee7d8406", func := "loop.example/g01021/laws.FnExactSwitchesOf", spec := "fnExactSwitchesOf", unfollowed := true, recurses := true, apart := false, narrowed := true }
def FnExactSwitchesOfUptoSaid : Prop := fnExactSwitchesOfUptoRow.holds Try.pinned (OpenSpec.upto fnExactSwitchesOfSpec)

/-- 'laws.FnExactTemperatureFor', WHERE WHAT IT READS IS OF BULK AT MOST 1048576: true; the input reads as it did. -/
def fnExactTemperatureForUptoRow : OpenClaim := { program := "ytnjplfcmojeedaa", sum := "4977c504c7329884bc3a1f8d347295f2d0380537166ca45a47555200ee7d8406", func := "loop.example/g01021/laws.FnExactTemperatureFor", spec := "fnExactTemperatureFor", unfollowed := true, recurses := true, apart := false, narrowed := true }
def FnExactTemperatureForUptoSaid : Prop := fnExactTemperatureForUptoRow.holds Try.pinned (OpenSpec.upto fnExactTemperatureForSpec)

/-- 'laws.FnExactHottestJunction', WHERE WHAT IT READS IS OF BULK AT MOST 1048576: true; the input reads as it did. -/
def fnExactHottestJunctionUptoRow : OpenClaim := { program := "ytnjplfcmojeedaa", sum := "4977c504c7329884bc3a1f8d347295f2d0380537166ca45a47555200ee7d8406", func := "loop.example/g01021/laws.FnExactHottestJunction", spec := "fnExactHottestJunction", unfollowed := true, recurses := true, apart := false, narrowed := true }
def FnExactHottestJunctionUptoSaid : Prop := fnExactHottestJunctionUptoRow.holds Try.pinned (OpenSpec.upto fnExactHottestJunctionSpec)

/-- 'laws.FnExactGasShare', WHERE WHAT IT READS IS OF BULK AT MOST 1048576: true; the input reads as it did. -/
def fnExactGasShareUptoRow : OpenClaim := { program := "ytnjplfcmojeedaa", sum := "4977c504c7329884bc3a1f8d347295f2d0380537166ca45a47555200ee7d8406", func := "loop.example/g01021/laws.FnExactGasShare", spec := "fnExactGasShare", apart := false, narrowed := true }
def FnExactGasShareUptoSaid : Prop := fnExactGasShareUptoRow.holds Try.pinned (OpenSpec.upto fnExactGasShareSpec)

/-- 'laws.FnExactWarmAlong', WHERE WHAT IT READS IS OF BULK AT MOST 1048576: true; the input reads as it did. -/
def fnExactWarmAlongUptoRow : OpenClaim := { program := "ytnjplfcmojeedaa", sum := "4977c504c7329884bc3a1f8d347295f2d0380537166ca45a47555200ee7d8406", func := "loop.example/g01021/laws.FnExactWarmAlong", spec := "fnExactWarmAlong", apart := false, narrowed := true }
def FnExactWarmAlongUptoSaid : Prop := fnExactWarmAlongUptoRow.holds Try.pinned (OpenSpec.upto fnExactWarmAlongSpec)

/-- 'laws.FnExactReversedBy', WHERE WHAT IT READS IS OF BULK AT MOST 1048576: true; the input reads as it did. -/
def fnExactReversedByUptoRow : OpenClaim := { program := "ytnjplfcmojeedaa", sum := "4977c504c7329884bc3a1f8d347295f2d0380537166ca45a47555200ee7d8406", func := "loop.example/g01021/laws.FnExactReversedBy", spec := "fnExactReversedBy", unfollowed := true, recurses := true, apart := false, narrowed := true }
def FnExactReversedByUptoSaid : Prop := fnExactReversedByUptoRow.holds Try.pinned (OpenSpec.upto fnExactReversedBySpec)

/-- 'laws.FnExactWalkTime', WHERE WHAT IT READS IS OF BULK AT MOST 1048576: true; the input reads as it did. -/
def fnExactWalkTimeUptoRow : OpenClaim := { program := "ytnjplfcmojeedaa", sum := "4977c504c7329884bc3a1f8d347295f2d0380537166ca45a47555200ee7d8406", func := "loop.example/g01021/laws.FnExactWalkTime", spec := "fnExactWalkTime", apart := false, narrowed := true }
def FnExactWalkTimeUptoSaid : Prop := fnExactWalkTimeUptoRow.holds Try.pinned (OpenSpec.upto fnExactWalkTimeSpec)

/-- 'laws.FnExactMixFlows', WHERE WHAT IT READS IS OF BULK AT MOST 1048576: true; the input reads as it did. -/
def fnExactMixFlowsUptoRow : OpenClaim := { program := "ytnjplfcmojeedaa", sum := "4977c504c7329884bc3a1f8d347295f2d0380537166ca45a47555200ee7d8406", func := "loop.example/g01021/laws.FnExactMixFlows", spec := "fnExactMixFlows", unfollowed := true, recurses := true, apart := false, narrowed := true }
def FnExactMixFlowsUptoSaid : Prop := fnExactMixFlowsUptoRow.holds Try.pinned (OpenSpec.upto fnExactMixFlowsSpec)

/-- 'laws.FnExactValidDustings', WHERE WHAT IT READS IS OF BULK AT MOST 1048576: true; the input reads as it did. -/
def fnExactValidDustingsUptoRow : OpenClaim := { program := "ytnjplfcmojeedaa", sum := "4977c504c7329884bc3a1f8d347295f2d0380537166ca45a47555200ee7d8406", func := "loop.example/g01021/laws.FnExactValidDustings", spec := "fnExactValidDustings", unfollowed := true, recurses := true, apart := false, narrowed := true }
def FnExactValidDustingsUptoSaid : Prop := fnExactValidDustingsUptoRow.holds Try.pinned (OpenSpec.upto fnExactValidDustingsSpec)

end Rows
end Go.Proofs.Ytnjplfcmojeedaa
