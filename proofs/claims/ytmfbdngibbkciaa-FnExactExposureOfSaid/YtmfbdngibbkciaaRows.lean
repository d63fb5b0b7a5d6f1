/-
  No cell of these rows narrows 'for every input' (looked for: loops, veiled, ifaces, maps, wideKeys, modest, calm, conditions, laid).
  DERIVED. THE GIVEN ROWS OF THIS SEAT. 10 by the template 'for every input the law returns true; each argument reads behind the call as it read before'; 0 by the template 'total and deterministic' (their statements: YtmfbdngibbkciaaTotals.lean).
  GIVEN WITH THE SEED: the statements are not yours to turn. If you find one false, say at which input.
  Laid BY PROGRAM, IN A SANDBOX (cutbox-rows.mjs): the forced cells as the released guide's own fill.sh prints them over the translation 0949c8de71945ca0… (all of the seat's roots in one cut). By AI agents, Wed Nov 11 2026. No macro, syntax, notation, axiom, sorry.
-/
import Derived.Test.YtmfbdngibbkciaaChecked
import GoSem.Claim
import GoSem.ClaimJoined
import GoSem.ClaimMapViews
import Derived.JoinedTies
import Derived.KernelRfl
namespace Go.Proofs.Ytmfbdngibbkciaa
/- THE CELL 'sum', in the pinned program and in every row, IS THE sha256 OF THE DUMP (.gsa) THAT YtmfbdngibbkciaaProg.lean LOADS. Nothing in Lean hashes anything: it is a label: what it is worth is what the hold of that sum in a sandbox is worth. -/
noncomputable def Try.pinned : Pinned := { name := "ytmfbdngibbkciaa", sum := "0949c8de71945ca03d7f1fb60a4eec31d59312e4e7416f27846f98730888b1f6", checked := Try.checked }
namespace Rows
def none {H : Type} : Left H := { results := [], args := [] }

/-- 'laws.FnExactWalkTime': WHATEVER THE INPUT: true; the input reads as it did. -/
def fnExactWalkTimeSpec : ChangeSpec := { name := "fnExactWalkTime", fn := fun _ => fun
  | [d1, d2] => { results := [.lit (.bool true)], args := [d1, d2] }
  | _ => none }
def fnExactWalkTimeRow : OpenClaim := { program := "ytmfbdngibbkciaa", sum := "0949c8de71945ca03d7f1fb60a4eec31d59312e4e7416f27846f98730888b1f6", func := "loop.example/g01021/laws.FnExactWalkTime", spec := "fnExactWalkTime", apart := false }
def FnExactWalkTimeSaid : Prop := fnExactWalkTimeRow.holds Try.pinned (OpenSpec.ofChange fnExactWalkTimeSpec)

/-- ITS FALSE NEIGHBOUR: 'it returns false'. Refute it at one input. -/
def fnExactWalkTimeWrong : ChangeSpec := { name := "fnExactWalkTime", fn := fun _ => fun
  | [d1, d2] => { results := [.lit (.bool false)], args := [d1, d2] }
  | _ => none }
def FnExactWalkTimeWrongFalsely : Prop := fnExactWalkTimeRow.holds Try.pinned (OpenSpec.ofChange fnExactWalkTimeWrong)

/-- 'laws.FnExactValidDustings': WHATEVER THE INPUT: true; the input reads as it did. -/
def fnExactValidDustingsSpec : ChangeSpec := { name := "fnExactValidDustings", fn := fun _ => fun
  | [d] => { results := [.lit (.bool true)], args := [d] }
  | _ => none }
def fnExactValidDustingsRow : OpenClaim := { program := "ytmfbdngibbkciaa", sum := "0949c8de71945ca03d7f1fb60a4eec31d59312e4e7416f27846f98730888b1f6", func := "loop.example/g01021/laws.FnExactValidDustings", spec := "fnExactValidDustings", unfollowed := true, recurses := true, apart := false }
def FnExactValidDustingsSaid : Prop := fnExactValidDustingsRow.holds Try.pinned (OpenSpec.ofChange fnExactValidDustingsSpec)

/-- ITS FALSE NEIGHBOUR: 'it returns false'. Refute it at one input. -/
def fnExactValidDustingsWrong : ChangeSpec := { name := "fnExactValidDustings", fn := fun _ => fun
  | [d] => { results := [.lit (.bool false)], args := [d] }
  | _ => none }
def FnExactValidDustingsWrongFalsely : Prop := fnExactValidDustingsRow.holds Try.pinned (OpenSpec.ofChange fnExactValidDustingsWrong)

/-- 'laws.FnExactBoosterPower': WHATEVER THE INPUT: true; the input reads as it did. -/
def fnExactBoosterPowerSpec : ChangeSpec := { name := "fnExactBoosterPower", fn := fun _ => fun
  | [d1, d2, d3] => { results := [.lit (.bool true)], args := [d1, d2, d3] }
  | _ => none }
def fnExactBoosterPowerRow : OpenClaim := { program := "ytmfbdngibbkciaa", sum := "0949c8de71945ca03d7f1fb60a4eec31d59312e4e7416f27846f98730888b1f6", func := "loop.example/g01021/laws.FnExactBoosterPower", spec := "fnExactBoosterPower", unfollowed := true, recurses := true, apart := false }
def FnExactBoosterPowerSaid : Prop := fnExactBoosterPowerRow.holds Try.pinned (OpenSpec.ofChange fnExactBoosterPowerSpec)

/-- ITS FALSE NEIGHBOUR: 'it returns false'. Refute it at one input. -/
def fnExactBoosterPowerWrong : ChangeSpec := { name := "fnExactBoosterPower", fn := fun _ => fun
  | [d1, d2, d3] => { results := [.lit (.bool false)], args := [d1, d2, d3] }
  | _ => none }
def FnExactBoosterPowerWrongFalsely : Prop := fnExactBoosterPowerRow.holds Try.pinned (OpenSpec.ofChange fnExactBoosterPowerWrong)

/-- 'laws.FnExactDustAt': WHATEVER THE INPUT: true; the input reads as it did. -/
def fnExactDustAtSpec : ChangeSpec := { name := "fnExactDustAt", fn := fun _ => fun
  | [d1, d2, d3] => { results := [.lit (.bool true)], args := [d1, d2, d3] }
  | _ => none }
def fnExactDustAtRow : OpenClaim := { program := "ytmfbdngibbkciaa", sum := "0949c8de71945ca03d7f1fb60a4eec31d59312e4e7416f27846f98730888b1f6", func := "loop.example/g01021/laws.FnExactDustAt", spec := "fnExactDustAt", unfollowed := true, recurses := true, apart := false }
def FnExactDustAtSaid : Prop := fnExactDustAtRow.holds Try.pinned (OpenSpec.ofChange fnExactDustAtSpec)

/-- ITS FALSE NEIGHBOUR: 'it returns false'. Refute it at one input. -/
def fnExactDustAtWrong : ChangeSpec := { name := "fnExactDustAt", fn := fun _ => fun
  | [d1, d2, d3] => { results := [.lit (.bool false)], args := [d1, d2, d3] }
  | _ => none }
def FnExactDustAtWrongFalsely : Prop := fnExactDustAtRow.holds Try.pinned (OpenSpec.ofChange fnExactDustAtWrong)

/-- 'laws.FnExactLongestDuct': WHATEVER THE INPUT: true; the input reads as it did. -/
def fnExactLongestDuctSpec : ChangeSpec := { name := "fnExactLongestDuct", fn := fun _ => fun
  | [d1, d2, d3] => { results := [.lit (.bool true)], args := [d1, d2, d3] }
  | _ => none }
def fnExactLongestDuctRow : OpenClaim := { program := "ytmfbdngibbkciaa", sum := "0949c8de71945ca03d7f1fb60a4eec31d59312e4e7416f27846f98730888b1f6", func := "loop.example/g01021/laws.FnExactLongestDuct", spec := "fnExactLongestDuct", apart := false }
def FnExactLongestDuctSaid : Prop := fnExactLongestDuctRow.holds Try.pinned (OpenSpec.ofChange fnExactLongestDuctSpec)

/-- ITS FALSE NEIGHBOUR: 'it returns false'. Refute it at one input. -/
def fnExactLongestDuctWrong : ChangeSpec := { name := "fnExactLongestDuct", fn := fun _ => fun
  | [d1, d2, d3] => { results := [.lit (.bool false)], args := [d1, d2, d3] }
  | _ => none }
def FnExactLongestDuctWrongFalsely : Prop := fnExactLongestDuctRow.holds Try.pinned (OpenSpec.ofChange fnExactLongestDuctWrong)

/-- 'laws.FnExactMendJoint': WHATEVER THE INPUT: true; the input reads as it did. -/
def fnExactMendJointSpec : ChangeSpec := { name := "fnExactMendJoint", fn := fun _ => fun
  | [d1, d2] => { results := [.lit (.bool true)], args := [d1, d2] }
  | _ => none }
def fnExactMendJointRow : OpenClaim := { program := "ytmfbdngibbkciaa", sum := "0949c8de71945ca03d7f1fb60a4eec31d59312e4e7416f27846f98730888b1f6", func := "loop.example/g01021/laws.FnExactMendJoint", spec := "fnExactMendJoint", unfollowed := true, recurses := true, apart := false }
def FnExactMendJointSaid : Prop := fnExactMendJointRow.holds Try.pinned (OpenSpec.ofChange fnExactMendJointSpec)

/-- ITS FALSE NEIGHBOUR: 'it returns false'. Refute it at one input. -/
def fnExactMendJointWrong : ChangeSpec := { name := "fnExactMendJoint", fn := fun _ => fun
  | [d1, d2] => { results := [.lit (.bool false)], args := [d1, d2] }
  | _ => none }
def FnExactMendJointWrongFalsely : Prop := fnExactMendJointRow.holds Try.pinned (OpenSpec.ofChange fnExactMendJointWrong)

/-- 'laws.FnExactWorstMinute': WHATEVER THE INPUT: true; the input reads as it did. -/
def fnExactWorstMinuteSpec : ChangeSpec := { name := "fnExactWorstMinute", fn := fun _ => fun
  | [d1, d2] => { results := [.lit (.bool true)], args := [d1, d2] }
  | _ => none }
def fnExactWorstMinuteRow : OpenClaim := { program := "ytmfbdngibbkciaa", sum := "0949c8de71945ca03d7f1fb60a4eec31d59312e4e7416f27846f98730888b1f6", func := "loop.example/g01021/laws.FnExactWorstMinute", spec := "fnExactWorstMinute", unfollowed := true, recurses := true, apart := false }
def FnExactWorstMinuteSaid : Prop := fnExactWorstMinuteRow.holds Try.pinned (OpenSpec.ofChange fnExactWorstMinuteSpec)

/-- ITS FALSE NEIGHBOUR: 'it returns false'. Refute it at one input. -/
def fnExactWorstMinuteWrong : ChangeSpec := { name := "fnExactWorstMinute", fn := fun _ => fun
  | [d1, d2] => { results := [.lit (.bool false)], args := [d1, d2] }
  | _ => none }
def FnExactWorstMinuteWrongFalsely : Prop := fnExactWorstMinuteRow.holds Try.pinned (OpenSpec.ofChange fnExactWorstMinuteWrong)

/-- 'laws.FnExactLongestStay': WHATEVER THE INPUT: true; the input reads as it did. -/
def fnExactLongestStaySpec : ChangeSpec := { name := "fnExactLongestStay", fn := fun _ => fun
  | [d1, d2, d3, d4] => { results := [.lit (.bool true)], args := [d1, d2, d3, d4] }
  | _ => none }
def fnExactLongestStayRow : OpenClaim := { program := "ytmfbdngibbkciaa", sum := "0949c8de71945ca03d7f1fb60a4eec31d59312e4e7416f27846f98730888b1f6", func := "loop.example/g01021/laws.FnExactLongestStay", spec := "fnExactLongestStay", unfollowed := true, recurses := true, apart := false }
def FnExactLongestStaySaid : Prop := fnExactLongestStayRow.holds Try.pinned (OpenSpec.ofChange fnExactLongestStaySpec)

/-- ITS FALSE NEIGHBOUR: 'it returns false'. Refute it at one input. -/
def fnExactLongestStayWrong : ChangeSpec := { name := "fnExactLongestStay", fn := fun _ => fun
  | [d1, d2, d3, d4] => { results := [.lit (.bool false)], args := [d1, d2, d3, d4] }
  | _ => none }
def FnExactLongestStayWrongFalsely : Prop := fnExactLongestStayRow.holds Try.pinned (OpenSpec.ofChange fnExactLongestStayWrong)

/-- 'laws.FnExactFlowNeeded': WHATEVER THE INPUT: true; the input reads as it did. -/
def fnExactFlowNeededSpec : ChangeSpec := { name := "fnExactFlowNeeded", fn := fun _ => fun
  | [d1, d2] => { results := [.lit (.bool true)], args := [d1, d2] }
  | _ => none }
def fnExactFlowNeededRow : OpenClaim := { program := "ytmfbdngibbkciaa", sum := "0949c8de71945ca03d7f1fb60a4eec31d59312e4e7416f27846f98730888b1f6", func := "loop.example/g01021/laws.FnExactFlowNeeded", spec := "fnExactFlowNeeded", unfollowed := true, recurses := true, apart := false }
def FnExactFlowNeededSaid : Prop := fnExactFlowNeededRow.holds Try.pinned (OpenSpec.ofChange fnExactFlowNeededSpec)

/-- ITS FALSE NEIGHBOUR: 'it returns false'. Refute it at one input. -/
def fnExactFlowNeededWrong : ChangeSpec := { name := "fnExactFlowNeeded", fn := fun _ => fun
  | [d1, d2] => { results := [.lit (.bool false)], args := [d1, d2] }
  | _ => none }
def FnExactFlowNeededWrongFalsely : Prop := fnExactFlowNeededRow.holds Try.pinned (OpenSpec.ofChange fnExactFlowNeededWrong)

/-- 'laws.FnExactExposureOf': WHATEVER THE INPUT: true; the input reads as it did. -/
def fnExactExposureOfSpec : ChangeSpec := { name := "fnExactExposureOf", fn := fun _ => fun
  | [d1, d2] => { results := [.lit (.bool true)], args := [d1, d2] }
  | _ => none }
def fnExactExposureOfRow : OpenClaim := { program := "ytmfbdngibbkciaa", sum := "0949c8de71945ca03d7f1fb60a4eec31d59312e4e7416f27846f98730888b1f6", func := "loop.example/g01021/laws.FnExactExposureOf", spec := "fnExactExposureOf", unfollowed := true, recurses := true, apart := false }
def FnExactExposureOfSaid : Prop := fnExactExposureOfRow.holds Try.pinned (OpenSpec.ofChange fnExactExposureOfSpec)

/-- ITS FALSE NEIGHBOUR: 'it returns false'. Refute it at one input. -/
def fnExactExposureOfWrong : ChangeSpec := { name := "fnExactExposureOf", fn := fun _ => fun
  | [d1, d2] => { results := [.lit (.bool false)], args := [d1, d2] }
  | _ => none }
def FnExactExposureOfWrongFalsely : Prop := fnExactExposureOfRow.holds Try.pinned (OpenSpec.ofChange fnExactExposureOfWrong)

/- THE SECOND FORM. 'bulk': how many values and letters a reading holds, each counted each time it is reached (what is shared counts as often as it is met; a slice's spare places count too). A statement '..UptoSaid' is the law's where the arguments, and the package variables that the reading takes, are together of bulk at most 1048576: NARROWER than '..Said'. Prove '..Said' where nothing that the law and all that it calls make is longer than what came in: it says more and counts as full. Else prove '..UptoSaid'. A law counts once. -/
mutual
def uptoBulk {H : Type} : DataW H → Nat
  | .lit (.string bytes) => bytes.length + 1
  | .lit _ => 1
  | .nil => 1
  | .ptr d => uptoBulk d + 1
  | .slice elems spare => uptoBulkAll elems + uptoBulkAll spare + 1
  | .agg parts => uptoBulkAll parts + 1
  | .iface _ d => uptoBulk d + 1
  | .map entries => uptoBulkEntries entries + 1
  | .held _ => 1
def uptoBulkAll {H : Type} : List (DataW H) → Nat
  | [] => 0
  | d :: r => uptoBulk d + uptoBulkAll r
def uptoBulkEntries {H : Type} : List (Lit × DataW H) → Nat
  | [] => 0
  | x :: r => uptoBulkEntry x + uptoBulkEntries r
def uptoBulkEntry {H : Type} : Lit × DataW H → Nat
  | (.string bytes, d) => bytes.length + uptoBulk d + 1
  | (_, d) => uptoBulk d + 1
 end
def uptoSmall : (H : Type) → List (DataW H) → Bool := fun _ ds => decide (uptoBulkAll ds ≤ 1048576)
def OpenSpec.upto (s : _root_.Go.ChangeSpec) : _root_.Go.OpenSpec := { _root_.Go.OpenSpec.ofChange s with cond := some uptoSmall }

/-- 'laws.FnExactWalkTime', WHERE WHAT IT READS IS OF BULK AT MOST 1048576: true; the input reads as it did. -/
def fnExactWalkTimeUptoRow : OpenClaim := { program := "ytmfbdngibbkciaa", sum := "0949c8de71945ca03d7f1fb60a4eec31d59312e4e7416f27846f98730888b1f6", func := "loop.example/g01021/laws.FnExactWalkTime", spec := "fnExactWalkTime", apart := false, narrowed := true }
def FnExactWalkTimeUptoSaid : Prop := fnExactWalkTimeUptoRow.holds Try.pinned (OpenSpec.upto fnExactWalkTimeSpec)

/-- 'laws.FnExactValidDustings', WHERE WHAT IT READS IS OF BULK AT MOST 1048576: true; the input reads as it did. -/
def fnExactValidDustingsUptoRow : OpenClaim := { program := "ytmfbdngibbkciaa", sum := "0949c8de71945ca03d7f1fb60a4eec31d59312e4e7416f27846f98730888b1f6", func := "loop.example/g01021/laws.FnExactValidDustings", spec := "fnExactValidDustings", unfollowed := true, recurses := true, apart := false, narrowed := true }
def FnExactValidDustingsUptoSaid : Prop := fnExactValidDustingsUptoRow.holds Try.pinned (OpenSpec.upto fnExactValidDustingsSpec)

/-- 'laws.FnExactBoosterPower', WHERE WHAT IT READS IS OF BULK AT MOST 1048576: true; the input reads as it did. -/
def fnExactBoosterPowerUptoRow : OpenClaim := { program := "ytmfbdngibbkciaa", sum := "0949c8de71945ca03d7f1fb60a4eec31d59312e4e7416f27846f98730888b1f6", func := "loop.example/g01021/laws.FnExactBoosterPower", spec := "fnExactBoosterPower", unfollowed := true, recurses := true, apart := false, narrowed := true }
def FnExactBoosterPowerUptoSaid : Prop := fnExactBoosterPowerUptoRow.holds Try.pinned (OpenSpec.upto fnExactBoosterPowerSpec)

/-- 'laws.FnExactDustAt', WHERE WHAT IT READS IS OF BULK AT MOST 1048576: true; the input reads as it did. -/
def fnExactDustAtUptoRow : OpenClaim := { program := "ytmfbdngibbkciaa", sum := "0949c8de71945ca03d7f1fb60a4eec31d59312e4e7416f27846f98730888b1f6", func := "loop.example/g01021/laws.FnExactDustAt", spec := "fnExactDustAt", unfollowed := true, recurses := true, apart := false, narrowed := true }
def FnExactDustAtUptoSaid : Prop := fnExactDustAtUptoRow.holds Try.pinned (OpenSpec.upto fnExactDustAtSpec)

/-- 'laws.FnExactLongestDuct', WHERE WHAT IT READS IS OF BULK AT MOST 1048576: true; the input reads as it did. -/
def fnExactLongestDuctUptoRow : OpenClaim := { program := "ytmfbdngibbkciaa", sum := "0949c8de71945ca03d7f1fb60a4eec31d59312e4e7416f27846f98730888b1f6", func := "loop.example/g01021/laws.FnExactLongestDuct", spec := "fnExactLongestDuct", apart := false, narrowed := true }
def FnExactLongestDuctUptoSaid : Prop := fnExactLongestDuctUptoRow.holds Try.pinned (OpenSpec.upto fnExactLongestDuctSpec)

/-- 'laws.FnExactMendJoint', WHERE WHAT IT READS IS OF BULK AT MOST 1048576: true; the input reads as it did. -/
def fnExactMendJointUptoRow : OpenClaim := { program := "ytmfbdngibbkciaa", sum := "0949c8de71945ca03d7f1fb60a4eec31d59312e4e7416f27846f98730888b1f6", func := "loop.example/g01021/laws.FnExactMendJoint", spec := "fnExactMendJoint", unfollowed := true, recurses := true, apart := false, narrowed := true }
def FnExactMendJointUptoSaid : Prop := fnExactMendJointUptoRow.holds Try.pinned (OpenSpec.upto fnExactMendJointSpec)

/-- 'laws.FnExactWorstMinute', WHERE WHAT IT READS IS OF BULK AT MOST 1048576: true; the input reads as it did. -/
def fnExactWorstMinuteUptoRow : OpenClaim := { program := "ytmfbdngibbkciaa", sum := "0949c8de71945ca03d7f1fb60a4eec31d59312e4e7416f27846f98730888b1f6", func := "loop.example/g01021/laws.FnExactWorstMinute", spec := "fnExactWorstMinute", unfollowed := true, recurses := true, apart := false, narrowed := true }
def FnExactWorstMinuteUptoSaid : Prop := fnExactWorstMinuteUptoRow.holds Try.pinned (OpenSpec.upto fnExactWorstMinuteSpec)

/-- 'laws.FnExactLongestStay', WHERE WHAT IT READS IS OF BULK AT MOST 1048576: true; the input reads as it did. -/
def fnExactLongestStayUptoRow : OpenClaim := { program := "ytmfbdngibbkciaa", sum := "0949c8de71945ca03d7f1fb60a4eec31d59312e4e7416f27846f98730888b1f6", func := "loop.example/g01021/laws.FnExactLongestStay", spec := "fnExactLongestStay", unfollowed := true, recurses := true, apart := false, narrowed := true }
def FnExactLongestStayUptoSaid : Prop := fnExactLongestStayUptoRow.holds Try.pinned (OpenSpec.upto fnExactLongestStaySpec)

/-- 'laws.FnExactFlowNeeded', WHERE WHAT IT READS IS OF BULK AT MOST 1048576: true; the input reads as it did. -/
def fnExactFlowNeededUptoRow : OpenClaim := { program := "ytmfbdngibbkciaa", sum := "0949c8de71945ca03d7f1fb60a4eec31d59312e4e7416f27846f98730888b1f6", func := "loop.example/g01021/laws.FnExactFlowNeeded", spec := "fnExactFlowNeeded", unfollowed := true, recurses := true, apart := false, narrowed := true }
def FnExactFlowNeededUptoSaid : Prop := fnExactFlowNeededUptoRow.holds Try.pinned (OpenSpec.upto fnExactFlowNeededSpec)

/-- 'laws.FnExactExposureOf', WHERE WHAT IT READS IS OF BULK AT MOST 1048576: true; the input reads as it did. -/
def fnExactExposureOfUptoRow : OpenClaim := { program := "ytmfbdngibbkciaa", sum := "0949c8de71945ca03d7f1fb60a4eec31d59312e4e7416f27846f98730888b1f6", func := "loop.example/g01021/laws.FnExactExposureOf", spec := "fnExactExposureOf", unfollowed := true, recurses := true, apart := false, narrowed := true }
def FnExactExposureOfUptoSaid : Prop := fnExactExposureOfUptoRow.holds Try.pinned (OpenSpec.upto fnExactExposureOfSpec)

end Rows
end Go.Proofs.Ytmfbdngibbkciaa
