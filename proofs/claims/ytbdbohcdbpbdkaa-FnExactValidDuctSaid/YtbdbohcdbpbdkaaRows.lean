/-
  No cell of these rows narrows 'for every input' (looked for: loops, veiled, ifaces, maps, wideKeys, modest, calm, conditions, laid).
  DERIVED. THE GIVEN ROWS OF THIS SEAT. 11 by the template 'for every input the law returns true; each argument reads behind the call as it read before'; 0 by the template 'total and deterministic' (their statements: YtbdbohcdbpbdkaaTotals.lean).
  GIVEN WITH THE SEED: the statements are not yours to turn. If you find one false, say at which input.
  Laid BY PROGRAM, IN A SANDBOX (cutbox-rows.mjs): the forced cells as the released guide's own fill.sh prints them over the translation abad63b7976a6c7e… (all of the seat's roots in one cut). By AI agents, Wed Nov 11 2026. No macro, syntax, notation, axiom, sorry.
-/
import Derived.Test.YtbdbohcdbpbdkaaChecked
import GoSem.Claim
import GoSem.ClaimJoined
import GoSem.ClaimMapViews
import Derived.JoinedTies
import Derived.KernelRfl
namespace Go.Proofs.Ytbdbohcdbpbdkaa
/- THE CELL 'sum', in the pinned program and in every row, IS THE sha256 OF THE DUMP (.gsa) THAT YtbdbohcdbpbdkaaProg.lean LOADS. Nothing in Lean hashes anything: it is a label: what it is worth is what the hold of that sum in a sandbox is worth. -/
noncomputable def Try.pinned : Pinned := { name := "ytbdbohcdbpbdkaa", sum := "abad63b7976a6c7e4db52bf9ec7c244c2368ceac9236f9ffc5d7b637bd9215db", checked := Try.checked }
namespace Rows
def none {H : Type} : Left H := { results := [], args := [] }

/-- 'laws.FnExactCriticalPush': WHATEVER THE INPUT: true; the input reads as it did. -/
def fnExactCriticalPushSpec : ChangeSpec := { name := "fnExactCriticalPush", fn := fun _ => fun
  | [d1, d2, d3] => { results := [.lit (.bool true)], args := [d1, d2, d3] }
  | _ => none }
def fnExactCriticalPushRow : OpenClaim := { program := "ytbdbohcdbpbdkaa", sum := "abad63b7976a6c7e4db52bf9ec7c244c2368ceac9236f9ffc5d7b637bd9215db", func := "loop.example/g01021/laws.FnExactCriticalPush", spec := "fnExactCriticalPush", apart := false }
def FnExactCriticalPushSaid : Prop := fnExactCriticalPushRow.holds Try.pinned (OpenSpec.ofChange fnExactCriticalPushSpec)

/-- ITS FALSE NEIGHBOUR: 'it returns false'. Refute it at one input. -/
def fnExactCriticalPushWrong : ChangeSpec := { name := "fnExactCriticalPush", fn := fun _ => fun
  | [d1, d2, d3] => { results := [.lit (.bool false)], args := [d1, d2, d3] }
  | _ => none }
def FnExactCriticalPushWrongFalsely : Prop := fnExactCriticalPushRow.holds Try.pinned (OpenSpec.ofChange fnExactCriticalPushWrong)

/-- 'laws.FnExactValidDusting': WHATEVER THE INPUT: true; the input reads as it did. -/
def fnExactValidDustingSpec : ChangeSpec := { name := "fnExactValidDusting", fn := fun _ => fun
  | [d] => { results := [.lit (.bool true)], args := [d] }
  | _ => none }
def fnExactValidDustingRow : OpenClaim := { program := "ytbdbohcdbpbdkaa", sum := "abad63b7976a6c7e4db52bf9ec7c244c2368ceac9236f9ffc5d7b637bd9215db", func := "loop.example/g01021/laws.FnExactValidDusting", spec := "fnExactValidDusting", apart := false }
def FnExactValidDustingSaid : Prop := fnExactValidDustingRow.holds Try.pinned (OpenSpec.ofChange fnExactValidDustingSpec)

/-- ITS FALSE NEIGHBOUR: 'it returns false'. Refute it at one input. -/
def fnExactValidDustingWrong : ChangeSpec := { name := "fnExactValidDusting", fn := fun _ => fun
  | [d] => { results := [.lit (.bool false)], args := [d] }
  | _ => none }
def FnExactValidDustingWrongFalsely : Prop := fnExactValidDustingRow.holds Try.pinned (OpenSpec.ofChange fnExactValidDustingWrong)

/-- 'laws.FnExactWorkMinutes': WHATEVER THE INPUT: true; the input reads as it did. -/
def fnExactWorkMinutesSpec : ChangeSpec := { name := "fnExactWorkMinutes", fn := fun _ => fun
  | [d] => { results := [.lit (.bool true)], args := [d] }
  | _ => none }
def fnExactWorkMinutesRow : OpenClaim := { program := "ytbdbohcdbpbdkaa", sum := "abad63b7976a6c7e4db52bf9ec7c244c2368ceac9236f9ffc5d7b637bd9215db", func := "loop.example/g01021/laws.FnExactWorkMinutes", spec := "fnExactWorkMinutes", apart := false }
def FnExactWorkMinutesSaid : Prop := fnExactWorkMinutesRow.holds Try.pinned (OpenSpec.ofChange fnExactWorkMinutesSpec)

/-- ITS FALSE NEIGHBOUR: 'it returns false'. Refute it at one input. -/
def fnExactWorkMinutesWrong : ChangeSpec := { name := "fnExactWorkMinutes", fn := fun _ => fun
  | [d] => { results := [.lit (.bool false)], args := [d] }
  | _ => none }
def FnExactWorkMinutesWrongFalsely : Prop := fnExactWorkMinutesRow.holds Try.pinned (OpenSpec.ofChange fnExactWorkMinutesWrong)

/-- 'laws.FnExactShareFor': WHATEVER THE INPUT: true; the input reads as it did. -/
def fnExactShareForSpec : ChangeSpec := { name := "fnExactShareFor", fn := fun _ => fun
  | [d1, d2] => { results := [.lit (.bool true)], args := [d1, d2] }
  | _ => none }
def fnExactShareForRow : OpenClaim := { program := "ytbdbohcdbpbdkaa", sum := "abad63b7976a6c7e4db52bf9ec7c244c2368ceac9236f9ffc5d7b637bd9215db", func := "loop.example/g01021/laws.FnExactShareFor", spec := "fnExactShareFor", apart := false }
def FnExactShareForSaid : Prop := fnExactShareForRow.holds Try.pinned (OpenSpec.ofChange fnExactShareForSpec)

/-- ITS FALSE NEIGHBOUR: 'it returns false'. Refute it at one input. -/
def fnExactShareForWrong : ChangeSpec := { name := "fnExactShareFor", fn := fun _ => fun
  | [d1, d2] => { results := [.lit (.bool false)], args := [d1, d2] }
  | _ => none }
def FnExactShareForWrongFalsely : Prop := fnExactShareForRow.holds Try.pinned (OpenSpec.ofChange fnExactShareForWrong)

/-- 'laws.FnExactFirePush': WHATEVER THE INPUT: true; the input reads as it did. -/
def fnExactFirePushSpec : ChangeSpec := { name := "fnExactFirePush", fn := fun _ => fun
  | [d1, d2, d3] => { results := [.lit (.bool true)], args := [d1, d2, d3] }
  | _ => none }
def fnExactFirePushRow : OpenClaim := { program := "ytbdbohcdbpbdkaa", sum := "abad63b7976a6c7e4db52bf9ec7c244c2368ceac9236f9ffc5d7b637bd9215db", func := "loop.example/g01021/laws.FnExactFirePush", spec := "fnExactFirePush", apart := false }
def FnExactFirePushSaid : Prop := fnExactFirePushRow.holds Try.pinned (OpenSpec.ofChange fnExactFirePushSpec)

/-- ITS FALSE NEIGHBOUR: 'it returns false'. Refute it at one input. -/
def fnExactFirePushWrong : ChangeSpec := { name := "fnExactFirePush", fn := fun _ => fun
  | [d1, d2, d3] => { results := [.lit (.bool false)], args := [d1, d2, d3] }
  | _ => none }
def FnExactFirePushWrongFalsely : Prop := fnExactFirePushRow.holds Try.pinned (OpenSpec.ofChange fnExactFirePushWrong)

/-- 'laws.FnExactRockAt': WHATEVER THE INPUT: true; the input reads as it did. -/
def fnExactRockAtSpec : ChangeSpec := { name := "fnExactRockAt", fn := fun _ => fun
  | [d1, d2, d3] => { results := [.lit (.bool true)], args := [d1, d2, d3] }
  | _ => none }
def fnExactRockAtRow : OpenClaim := { program := "ytbdbohcdbpbdkaa", sum := "abad63b7976a6c7e4db52bf9ec7c244c2368ceac9236f9ffc5d7b637bd9215db", func := "loop.example/g01021/laws.FnExactRockAt", spec := "fnExactRockAt", apart := false }
def FnExactRockAtSaid : Prop := fnExactRockAtRow.holds Try.pinned (OpenSpec.ofChange fnExactRockAtSpec)

/-- ITS FALSE NEIGHBOUR: 'it returns false'. Refute it at one input. -/
def fnExactRockAtWrong : ChangeSpec := { name := "fnExactRockAt", fn := fun _ => fun
  | [d1, d2, d3] => { results := [.lit (.bool false)], args := [d1, d2, d3] }
  | _ => none }
def FnExactRockAtWrongFalsely : Prop := fnExactRockAtRow.holds Try.pinned (OpenSpec.ofChange fnExactRockAtWrong)

/-- 'laws.FnExactDustOf': WHATEVER THE INPUT: true; the input reads as it did. -/
def fnExactDustOfSpec : ChangeSpec := { name := "fnExactDustOf", fn := fun _ => fun
  | [d1, d2] => { results := [.lit (.bool true)], args := [d1, d2] }
  | _ => none }
def fnExactDustOfRow : OpenClaim := { program := "ytbdbohcdbpbdkaa", sum := "abad63b7976a6c7e4db52bf9ec7c244c2368ceac9236f9ffc5d7b637bd9215db", func := "loop.example/g01021/laws.FnExactDustOf", spec := "fnExactDustOf", apart := false }
def FnExactDustOfSaid : Prop := fnExactDustOfRow.holds Try.pinned (OpenSpec.ofChange fnExactDustOfSpec)

/-- ITS FALSE NEIGHBOUR: 'it returns false'. Refute it at one input. -/
def fnExactDustOfWrong : ChangeSpec := { name := "fnExactDustOf", fn := fun _ => fun
  | [d1, d2] => { results := [.lit (.bool false)], args := [d1, d2] }
  | _ => none }
def FnExactDustOfWrongFalsely : Prop := fnExactDustOfRow.holds Try.pinned (OpenSpec.ofChange fnExactDustOfWrong)

/-- 'laws.FnExactFireTemperature': WHATEVER THE INPUT: true; the input reads as it did. -/
def fnExactFireTemperatureSpec : ChangeSpec := { name := "fnExactFireTemperature", fn := fun _ => fun
  | [d1, d2, d3] => { results := [.lit (.bool true)], args := [d1, d2, d3] }
  | _ => none }
def fnExactFireTemperatureRow : OpenClaim := { program := "ytbdbohcdbpbdkaa", sum := "abad63b7976a6c7e4db52bf9ec7c244c2368ceac9236f9ffc5d7b637bd9215db", func := "loop.example/g01021/laws.FnExactFireTemperature", spec := "fnExactFireTemperature", apart := false }
def FnExactFireTemperatureSaid : Prop := fnExactFireTemperatureRow.holds Try.pinned (OpenSpec.ofChange fnExactFireTemperatureSpec)

/-- ITS FALSE NEIGHBOUR: 'it returns false'. Refute it at one input. -/
def fnExactFireTemperatureWrong : ChangeSpec := { name := "fnExactFireTemperature", fn := fun _ => fun
  | [d1, d2, d3] => { results := [.lit (.bool false)], args := [d1, d2, d3] }
  | _ => none }
def FnExactFireTemperatureWrongFalsely : Prop := fnExactFireTemperatureRow.holds Try.pinned (OpenSpec.ofChange fnExactFireTemperatureWrong)

/-- 'laws.FnExactValidHeading': WHATEVER THE INPUT: true; the input reads as it did. -/
def fnExactValidHeadingSpec : ChangeSpec := { name := "fnExactValidHeading", fn := fun _ => fun
  | [d] => { results := [.lit (.bool true)], args := [d] }
  | _ => none }
def fnExactValidHeadingRow : OpenClaim := { program := "ytbdbohcdbpbdkaa", sum := "abad63b7976a6c7e4db52bf9ec7c244c2368ceac9236f9ffc5d7b637bd9215db", func := "loop.example/g01021/laws.FnExactValidHeading", spec := "fnExactValidHeading", apart := false }
def FnExactValidHeadingSaid : Prop := fnExactValidHeadingRow.holds Try.pinned (OpenSpec.ofChange fnExactValidHeadingSpec)

/-- ITS FALSE NEIGHBOUR: 'it returns false'. Refute it at one input. -/
def fnExactValidHeadingWrong : ChangeSpec := { name := "fnExactValidHeading", fn := fun _ => fun
  | [d] => { results := [.lit (.bool false)], args := [d] }
  | _ => none }
def FnExactValidHeadingWrongFalsely : Prop := fnExactValidHeadingRow.holds Try.pinned (OpenSpec.ofChange fnExactValidHeadingWrong)

/-- 'laws.FnExactValidDuct': WHATEVER THE INPUT: true; the input reads as it did. -/
def fnExactValidDuctSpec : ChangeSpec := { name := "fnExactValidDuct", fn := fun _ => fun
  | [d] => { results := [.lit (.bool true)], args := [d] }
  | _ => none }
def fnExactValidDuctRow : OpenClaim := { program := "ytbdbohcdbpbdkaa", sum := "abad63b7976a6c7e4db52bf9ec7c244c2368ceac9236f9ffc5d7b637bd9215db", func := "loop.example/g01021/laws.FnExactValidDuct", spec := "fnExactValidDuct", apart := false }
def FnExactValidDuctSaid : Prop := fnExactValidDuctRow.holds Try.pinned (OpenSpec.ofChange fnExactValidDuctSpec)

/-- ITS FALSE NEIGHBOUR: 'it returns false'. Refute it at one input. -/
def fnExactValidDuctWrong : ChangeSpec := { name := "fnExactValidDuct", fn := fun _ => fun
  | [d] => { results := [.lit (.bool false)], args := [d] }
  | _ => none }
def FnExactValidDuctWrongFalsely : Prop := fnExactValidDuctRow.holds Try.pinned (OpenSpec.ofChange fnExactValidDuctWrong)

/-- 'laws.FnExactHeatFrom': WHATEVER THE INPUT: true; the input reads as it did. -/
def fnExactHeatFromSpec : ChangeSpec := { name := "fnExactHeatFrom", fn := fun _ => fun
  | [d1, d2, d3] => { results := [.lit (.bool true)], args := [d1, d2, d3] }
  | _ => none }
def fnExactHeatFromRow : OpenClaim := { program := "ytbdbohcdbpbdkaa", sum := "abad63b7976a6c7e4db52bf9ec7c244c2368ceac9236f9ffc5d7b637bd9215db", func := "loop.example/g01021/laws.FnExactHeatFrom", spec := "fnExactHeatFrom", apart := false }
def FnExactHeatFromSaid : Prop := fnExactHeatFromRow.holds Try.pinned (OpenSpec.ofChange fnExactHeatFromSpec)

/-- ITS FALSE NEIGHBOUR: 'it returns false'. Refute it at one input. -/
def fnExactHeatFromWrong : ChangeSpec := { name := "fnExactHeatFrom", fn := fun _ => fun
  | [d1, d2, d3] => { results := [.lit (.bool false)], args := [d1, d2, d3] }
  | _ => none }
def FnExactHeatFromWrongFalsely : Prop := fnExactHeatFromRow.holds Try.pinned (OpenSpec.ofChange fnExactHeatFromWrong)

/- THE SECOND FORM. 'bulk': how many values and letters a reading holds, each counted each time it is reached (what is shared counts as often as it is met; a slice's spare places count too). A statement '..UptoSaid' is the law's where the arguments, and the package variables that the reading takes, are together of bulk at most 1048576: NARROWER than '..Said'. Prove '..Said' where nothing that the law and all that it calls make is longer than what came in: it says more and counts as full. Else prove '..UptoSaid'. A law counts once. -/
mutual
def uptoBulk {H : Type} : DataW H → Nat
  | .lit (.string bytes) => bytes.length + 1
  | .lit _ => 1
  | .nil => 1
  | .ptr d => uptoBulk d + 1
  | .slice elems spare => uptoBulkAll elems + uptoBulkAll spare + 1
  | .agg parts => uptoBulkAll parts + 1
  | .iface _ d => uptoBulk d + 1
  | .map entries => uptoBulkEntries entries + 1
  | .held _ => 1
def uptoBulkAll {H : Type} : List (DataW H) → Nat
  | [] => 0
  | d :: r => uptoBulk d + uptoBulkAll r
def uptoBulkEntries {H : Type} : List (Lit × DataW H) → Nat
  | [] => 0
  | x :: r => uptoBulkEntry x + uptoBulkEntries r
def uptoBulkEntry {H : Type} : Lit × DataW H → Nat
  | (.string bytes, d) => bytes.length + uptoBulk d + 1
  | (_, d) => uptoBulk d + 1
 end
def uptoSmall : (H : Type) → List (DataW H) → Bool := fun _ ds => decide (uptoBulkAll ds ≤ 1048576)
def OpenSpec.upto (s : _root_.Go.ChangeSpec) : _root_.Go.OpenSpec := { _root_.Go.OpenSpec.ofChange s with cond := some uptoSmall }

/-- 'laws.FnExactCriticalPush', WHERE WHAT IT READS IS OF BULK AT MOST 1048576: true; the input reads as it did. -/
def fnExactCriticalPushUptoRow : OpenClaim := { program := "ytbdbohcdbpbdkaa", sum := "abad63b7976a6c7e4db52bf9ec7c244c2368ceac9236f9ffc5d7b637bd9215db", func := "loop.example/g01021/laws.FnExactCriticalPush", spec := "fnExactCriticalPush", apart := false, narrowed := true }
def FnExactCriticalPushUptoSaid : Prop := fnExactCriticalPushUptoRow.holds Try.pinned (OpenSpec.upto fnExactCriticalPushSpec)

/-- 'laws.FnExactValidDusting', WHERE WHAT IT READS IS OF BULK AT MOST 1048576: true; the input reads as it did. -/
def fnExactValidDustingUptoRow : OpenClaim := { program := "ytbdbohcdbpbdkaa", sum := "abad63b7976a6c7e4db52bf9ec7c244c2368ceac9236f9ffc5d7b637bd9215db", func := "loop.example/g01021/laws.FnExactValidDusting", spec := "fnExactValidDusting", apart := false, narrowed := true }
def FnExactValidDustingUptoSaid : Prop := fnExactValidDustingUptoRow.holds Try.pinned (OpenSpec.upto fnExactValidDustingSpec)

/-- 'laws.FnExactWorkMinutes', WHERE WHAT IT READS IS OF BULK AT MOST 1048576: true; the input reads as it did. -/
def fnExactWorkMinutesUptoRow : OpenClaim := { program := "ytbdbohcdbpbdkaa", sum := "abad63b7976a6c7e4db52bf9ec7c244c2368ceac9236f9ffc5d7b637bd9215db", func := "loop.example/g01021/laws.FnExactWorkMinutes", spec := "fnExactWorkMinutes", apart := false, narrowed := true }
def FnExactWorkMinutesUptoSaid : Prop := fnExactWorkMinutesUptoRow.holds Try.pinned (OpenSpec.upto fnExactWorkMinutesSpec)

/-- 'laws.FnExactShareFor', WHERE WHAT IT READS IS OF BULK AT MOST 1048576: true; the input reads as it did. -/
def fnExactShareForUptoRow : OpenClaim := { program := "ytbdbohcdbpbdkaa", sum := "abad63b7976a6c7e4db52bf9ec7c244c2368ceac9236f9ffc5d7b637bd9215db", func := "loop.example/g01021/laws.FnExactShareFor", spec := "fnExactShareFor", apart := false, narrowed := true }
def FnExactShareForUptoSaid : Prop := fnExactShareForUptoRow.holds Try.pinned (OpenSpec.upto fnExactShareForSpec)

/-- 'laws.FnExactFirePush', WHERE WHAT IT READS IS OF BULK AT MOST 1048576: true; the input reads as it did. -/
def fnExactFirePushUptoRow : OpenClaim := { program := "ytbdbohcdbpbdkaa", sum := "abad63b7976a6c7e4db52bf9ec7c244c2368ceac9236f9ffc5d7b637bd9215db", func := "loop.example/g01021/laws.FnExactFirePush", spec := "fnExactFirePush", apart := false, narrowed := true }
def FnExactFirePushUptoSaid : Prop := fnExactFirePushUptoRow.holds Try.pinned (OpenSpec.upto fnExactFirePushSpec)

/-- 'laws.FnExactRockAt', WHERE WHAT IT READS IS OF BULK AT MOST 1048576: true; the input reads as it did. -/
def fnExactRockAtUptoRow : OpenClaim := { program := "ytbdbohcdbpbdkaa", sum := "abad63b7976a6c7e4db52bf9ec7c244c2368ceac9236f9ffc5d7b637bd9215db", func := "loop.example/g01021/laws.FnExactRockAt", spec := "fnExactRockAt", apart := false, narrowed := true }
def FnExactRockAtUptoSaid : Prop := fnExactRockAtUptoRow.holds Try.pinned (OpenSpec.upto fnExactRockAtSpec)

/-- 'laws.FnExactDustOf', WHERE WHAT IT READS IS OF BULK AT MOST 1048576: true; the input reads as it did. -/
def fnExactDustOfUptoRow : OpenClaim := { program := "ytbdbohcdbpbdkaa", sum := "abad63b7976a6c7e4db52bf9ec7c244c2368ceac9236f9ffc5d7b637bd9215db", func := "loop.example/g01021/laws.FnExactDustOf", spec := "fnExactDustOf", apart := false, narrowed := true }
def FnExactDustOfUptoSaid : Prop := fnExactDustOfUptoRow.holds Try.pinned (OpenSpec.upto fnExactDustOfSpec)

/-- 'laws.FnExactFireTemperature', WHERE WHAT IT READS IS OF BULK AT MOST 1048576: true; the input reads as it did. -/
def fnExactFireTemperatureUptoRow : OpenClaim := { program := "ytbdbohcdbpbdkaa", sum := "abad63b7976a6c7e4db52bf9ec7c244c2368ceac9236f9ffc5d7b637bd9215db", func := "loop.example/g01021/laws.FnExactFireTemperature", spec := "fnExactFireTemperature", apart := false, narrowed := true }
def FnExactFireTemperatureUptoSaid : Prop := fnExactFireTemperatureUptoRow.holds Try.pinned (OpenSpec.upto fnExactFireTemperatureSpec)

/-- 'laws.FnExactValidHeading', WHERE WHAT IT READS IS OF BULK AT MOST 1048576: true; the input reads as it did. -/
def fnExactValidHeadingUptoRow : OpenClaim := { program := "ytbdbohcdbpbdkaa", sum := "abad63b7976a6c7e4db52bf9ec7c244c2368ceac9236f9ffc5d7b637bd9215db", func := "loop.example/g01021/laws.FnExactValidHeading", spec := "fnExactValidHeading", apart := false, narrowed := true }
def FnExactValidHeadingUptoSaid : Prop := fnExactValidHeadingUptoRow.holds Try.pinned (OpenSpec.upto fnExactValidHeadingSpec)

/-- 'laws.FnExactValidDuct', WHERE WHAT IT READS IS OF BULK AT MOST 1048576: true; the input reads as it did. -/
def fnExactValidDuctUptoRow : OpenClaim := { program := "ytbdbohcdbpbdkaa", sum := "abad63b7976a6c7e4db52bf9ec7c244c2368ceac9236f9ffc5d7b637bd9215db", func := "loop.example/g01021/laws.FnExactValidDuct", spec := "fnExactValidDuct", apart := false, narrowed := true }
def FnExactValidDuctUptoSaid : Prop := fnExactValidDuctUptoRow.holds Try.pinned (OpenSpec.upto fnExactValidDuctSpec)

/-- 'laws.FnExactHeatFrom', WHERE WHAT IT READS IS OF BULK AT MOST 1048576: true; the input reads as it did. -/
def fnExactHeatFromUptoRow : OpenClaim := { program := "ytbdbohcdbpbdkaa", sum := "abad63b7976a6c7e4db52bf9ec7c244c2368ceac9236f9ffc5d7b637bd9215db", func := "loop.example/g01021/laws.FnExactHeatFrom", spec := "fnExactHeatFrom", apart := false, narrowed := true }
def FnExactHeatFromUptoSaid : Prop := fnExactHeatFromUptoRow.holds Try.pinned (OpenSpec.upto fnExactHeatFromSpec)

end Rows
end Go.Proofs.Ytbdbohcdbpbdkaa
