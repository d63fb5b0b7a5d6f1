/-
  No cell of these rows narrows 'for every input' (looked for: loops, veiled, ifaces, maps, wideKeys, modest, calm, conditions, laid).
  DERIVED. THE GIVEN ROWS OF THIS SEAT. 7 by the template 'for every input the law returns true; each argument reads behind the call as it read before'; 0 by the template 'total and deterministic' (their statements: YtlgagnbnjfneaaaTotals.lean).
  GIVEN WITH THE SEED: the statements are not yours to turn. If you find one false, say at which input.
  Laid BY PROGRAM, IN A SANDBOX (cutbox-rows.mjs): the forced cells as the released guide's own fill.sh prints them over the translation b70f690007327603… (all of the seat's roots in one cut). By AI agents, Wed Nov 11 2026. No macro, syntax, notation, axiom, sorry.
-/
import Derived.Test.YtlgagnbnjfneaaaChecked
import GoSem.Claim
import GoSem.ClaimJoined
import GoSem.ClaimMapViews
import Derived.JoinedTies
import Derived.KernelRfl
namespace Go.Proofs.Ytlgagnbnjfneaaa
/- THE CELL 'sum', in the pinned program and in every row, IS THE sha256 OF THE DUMP (.gsa) THAT YtlgagnbnjfneaaaProg.lean LOADS. Nothing in Lean hashes anything: it is a label: what it is worth is what the hold of that sum in a sandbox is worth. -/
noncomputable def Try.pinned : Pinned := { name := "ytlgagnbnjfneaaa", sum := "b70f690007327603a272307aaa5c16688e7644673f31e1128118e77f7a47403e", checked := Try.checked }
namespace Rows
def none {H : Type} : Left H := { results := [], args := [] }

/-- 'laws.FnExactDropsFor': WHATEVER THE INPUT: true; the input reads as it did. -/
def fnExactDropsForSpec : ChangeSpec := { name := "fnExactDropsFor", fn := fun _ => fun
  | [d1, d2, d3] => { results := [.lit (.bool true)], args := [d1, d2, d3] }
  | _ => none }
def fnExactDropsForRow : OpenClaim := { program := "ytlgagnbnjfneaaa", sum := "b70f690007327603a272307aaa5c16688e7644673f31e1128118e77f7a47403e", func := "loop.example/g01021/laws.FnExactDropsFor", spec := "fnExactDropsFor", unfollowed := true, recurses := true, apart := false }
def FnExactDropsForSaid : Prop := fnExactDropsForRow.holds Try.pinned (OpenSpec.ofChange fnExactDropsForSpec)

/-- ITS FALSE NEIGHBOUR: 'it returns false'. Refute it at one input. -/
def fnExactDropsForWrong : ChangeSpec := { name := "fnExactDropsFor", fn := fun _ => fun
  | [d1, d2, d3] => { results := [.lit (.bool false)], args := [d1, d2, d3] }
  | _ => none }
def FnExactDropsForWrongFalsely : Prop := fnExactDropsForRow.holds Try.pinned (OpenSpec.ofChange fnExactDropsForWrong)

/-- 'laws.FnExactWalkTimes': WHATEVER THE INPUT: true; the input reads as it did. -/
def fnExactWalkTimesSpec : ChangeSpec := { name := "fnExactWalkTimes", fn := fun _ => fun
  | [d1, d2, d3] => { results := [.lit (.bool true)], args := [d1, d2, d3] }
  | _ => none }
def fnExactWalkTimesRow : OpenClaim := { program := "ytlgagnbnjfneaaa", sum := "b70f690007327603a272307aaa5c16688e7644673f31e1128118e77f7a47403e", func := "loop.example/g01021/laws.FnExactWalkTimes", spec := "fnExactWalkTimes", apart := false }
def FnExactWalkTimesSaid : Prop := fnExactWalkTimesRow.holds Try.pinned (OpenSpec.ofChange fnExactWalkTimesSpec)

/-- ITS FALSE NEIGHBOUR: 'it returns false'. Refute it at one input. -/
def fnExactWalkTimesWrong : ChangeSpec := { name := "fnExactWalkTimes", fn := fun _ => fun
  | [d1, d2, d3] => { results := [.lit (.bool false)], args := [d1, d2, d3] }
  | _ => none }
def FnExactWalkTimesWrongFalsely : Prop := fnExactWalkTimesRow.holds Try.pinned (OpenSpec.ofChange fnExactWalkTimesWrong)

/-- 'laws.FnExactPotentialsOf': WHATEVER THE INPUT: true; the input reads as it did. -/
def fnExactPotentialsOfSpec : ChangeSpec := { name := "fnExactPotentialsOf", fn := fun _ => fun
  | [d1, d2, d3, d4] => { results := [.lit (.bool true)], args := [d1, d2, d3, d4] }
  | _ => none }
def fnExactPotentialsOfRow : OpenClaim := { program := "ytlgagnbnjfneaaa", sum := "b70f690007327603a272307aaa5c16688e7644673f31e1128118e77f7a47403e", func := "loop.example/g01021/laws.FnExactPotentialsOf", spec := "fnExactPotentialsOf", unfollowed := true, recurses := true, apart := false }
def FnExactPotentialsOfSaid : Prop := fnExactPotentialsOfRow.holds Try.pinned (OpenSpec.ofChange fnExactPotentialsOfSpec)

/-- ITS FALSE NEIGHBOUR: 'it returns false'. Refute it at one input. -/
def fnExactPotentialsOfWrong : ChangeSpec := { name := "fnExactPotentialsOf", fn := fun _ => fun
  | [d1, d2, d3, d4] => { results := [.lit (.bool false)], args := [d1, d2, d3, d4] }
  | _ => none }
def FnExactPotentialsOfWrongFalsely : Prop := fnExactPotentialsOfRow.holds Try.pinned (OpenSpec.ofChange fnExactPotentialsOfWrong)

/-- 'laws.FnExactLeastPush': WHATEVER THE INPUT: true; the input reads as it did. -/
def fnExactLeastPushSpec : ChangeSpec := { name := "fnExactLeastPush", fn := fun _ => fun
  | [d1, d2, d3, d4, d5] => { results := [.lit (.bool true)], args := [d1, d2, d3, d4, d5] }
  | _ => none }
def fnExactLeastPushRow : OpenClaim := { program := "ytlgagnbnjfneaaa", sum := "b70f690007327603a272307aaa5c16688e7644673f31e1128118e77f7a47403e", func := "loop.example/g01021/laws.FnExactLeastPush", spec := "fnExactLeastPush", unfollowed := true, recurses := true, apart := false }
def FnExactLeastPushSaid : Prop := fnExactLeastPushRow.holds Try.pinned (OpenSpec.ofChange fnExactLeastPushSpec)

/-- ITS FALSE NEIGHBOUR: 'it returns false'. Refute it at one input. -/
def fnExactLeastPushWrong : ChangeSpec := { name := "fnExactLeastPush", fn := fun _ => fun
  | [d1, d2, d3, d4, d5] => { results := [.lit (.bool false)], args := [d1, d2, d3, d4, d5] }
  | _ => none }
def FnExactLeastPushWrongFalsely : Prop := fnExactLeastPushRow.holds Try.pinned (OpenSpec.ofChange fnExactLeastPushWrong)

/-- 'laws.FnExactRegulatorDrops': WHATEVER THE INPUT: true; the input reads as it did. -/
def fnExactRegulatorDropsSpec : ChangeSpec := { name := "fnExactRegulatorDrops", fn := fun _ => fun
  | [d1, d2, d3, d4] => { results := [.lit (.bool true)], args := [d1, d2, d3, d4] }
  | _ => none }
def fnExactRegulatorDropsRow : OpenClaim := { program := "ytlgagnbnjfneaaa", sum := "b70f690007327603a272307aaa5c16688e7644673f31e1128118e77f7a47403e", func := "loop.example/g01021/laws.FnExactRegulatorDrops", spec := "fnExactRegulatorDrops", unfollowed := true, recurses := true, apart := false }
def FnExactRegulatorDropsSaid : Prop := fnExactRegulatorDropsRow.holds Try.pinned (OpenSpec.ofChange fnExactRegulatorDropsSpec)

/-- ITS FALSE NEIGHBOUR: 'it returns false'. Refute it at one input. -/
def fnExactRegulatorDropsWrong : ChangeSpec := { name := "fnExactRegulatorDrops", fn := fun _ => fun
  | [d1, d2, d3, d4] => { results := [.lit (.bool false)], args := [d1, d2, d3, d4] }
  | _ => none }
def FnExactRegulatorDropsWrongFalsely : Prop := fnExactRegulatorDropsRow.holds Try.pinned (OpenSpec.ofChange fnExactRegulatorDropsWrong)

/-- 'laws.FnExactTemperaturesAt': WHATEVER THE INPUT: true; the input reads as it did. -/
def fnExactTemperaturesAtSpec : ChangeSpec := { name := "fnExactTemperaturesAt", fn := fun _ => fun
  | [d1, d2, d3, d4, d5, d6, d7] => { results := [.lit (.bool true)], args := [d1, d2, d3, d4, d5, d6, d7] }
  | _ => none }
def fnExactTemperaturesAtRow : OpenClaim := { program := "ytlgagnbnjfneaaa", sum := "b70f690007327603a272307aaa5c16688e7644673f31e1128118e77f7a47403e", func := "loop.example/g01021/laws.FnExactTemperaturesAt", spec := "fnExactTemperaturesAt", unfollowed := true, recurses := true, apart := false }
def FnExactTemperaturesAtSaid : Prop := fnExactTemperaturesAtRow.holds Try.pinned (OpenSpec.ofChange fnExactTemperaturesAtSpec)

/-- ITS FALSE NEIGHBOUR: 'it returns false'. Refute it at one input. -/
def fnExactTemperaturesAtWrong : ChangeSpec := { name := "fnExactTemperaturesAt", fn := fun _ => fun
  | [d1, d2, d3, d4, d5, d6, d7] => { results := [.lit (.bool false)], args := [d1, d2, d3, d4, d5, d6, d7] }
  | _ => none }
def FnExactTemperaturesAtWrongFalsely : Prop := fnExactTemperaturesAtRow.holds Try.pinned (OpenSpec.ofChange fnExactTemperaturesAtWrong)

/-- 'laws.FnExactValidPlant': WHATEVER THE INPUT: true; the input reads as it did. -/
def fnExactValidPlantSpec : ChangeSpec := { name := "fnExactValidPlant", fn := fun _ => fun
  | [d] => { results := [.lit (.bool true)], args := [d] }
  | _ => none }
def fnExactValidPlantRow : OpenClaim := { program := "ytlgagnbnjfneaaa", sum := "b70f690007327603a272307aaa5c16688e7644673f31e1128118e77f7a47403e", func := "loop.example/g01021/laws.FnExactValidPlant", spec := "fnExactValidPlant", unfollowed := true, recurses := true, apart := false }
def FnExactValidPlantSaid : Prop := fnExactValidPlantRow.holds Try.pinned (OpenSpec.ofChange fnExactValidPlantSpec)

/-- ITS FALSE NEIGHBOUR: 'it returns false'. Refute it at one input. -/
def fnExactValidPlantWrong : ChangeSpec := { name := "fnExactValidPlant", fn := fun _ => fun
  | [d] => { results := [.lit (.bool false)], args := [d] }
  | _ => none }
def FnExactValidPlantWrongFalsely : Prop := fnExactValidPlantRow.holds Try.pinned (OpenSpec.ofChange fnExactValidPlantWrong)

/- THE SECOND FORM. 'bulk': how many values and letters a reading holds, each counted each time it is reached (what is shared counts as often as it is met; a slice's spare places count too). A statement '..UptoSaid' is the law's where the arguments, and the package variables that the reading takes, are together of bulk at most 1048576: NARROWER than '..Said'. Prove '..Said' where nothing that the law and all that it calls make is longer than what came in: it says more and counts as full. Else prove '..UptoSaid'. A law counts once. -/
mutual
def uptoBulk {H : Type} : DataW H → Nat
  | .lit (.string bytes) => bytes.length + 1
  | .lit _ => 1
  | .nil => 1
  | .ptr d => uptoBulk d + 1
  | .slice elems spare => uptoBulkAll elems + uptoBulkAll spare + 1
  | .agg parts => uptoBulkAll parts + 1
  | .iface _ d => uptoBulk d + 1
  | .map entries => uptoBulkEntries entries + 1
  | .held _ => 1
def uptoBulkAll {H : Type} : List (DataW H) → Nat
  | [] => 0
  | d :: r => uptoBulk d + uptoBulkAll r
def uptoBulkEntries {H : Type} : List (Lit × DataW H) → Nat
  | [] => 0
  | x :: r => uptoBulkEntry x + uptoBulkEntries r
def uptoBulkEntry {H : Type} : Lit × DataW H → Nat
  | (.string bytes, d) => bytes.length + uptoBulk d + 1
  | (_, d) => uptoBulk d + 1
 end
def uptoSmall : (H : Type) → List (DataW H) → Bool := fun _ ds => decide (uptoBulkAll ds ≤ 1048576)
def OpenSpec.upto (s : _root_.Go.ChangeSpec) : _root_.Go.OpenSpec := { _root_.Go.OpenSpec.ofChange s with cond := some uptoSmall }

/-- 'laws.FnExactDropsFor', WHERE WHAT IT READS IS OF BULK AT MOST 1048576: true; the input reads as it did. -/
def fnExactDropsForUptoRow : OpenClaim := { program := "ytlgagnbnjfneaaa", sum := "b70f690007327603a272307aaa5c16688e7644673f31e1128118e77f7a47403e", func := "loop.example/g01021/laws.FnExactDropsFor", spec := "fnExactDropsFor", unfollowed := true, recurses := true, apart := false, narrowed := true }
def FnExactDropsForUptoSaid : Prop := fnExactDropsForUptoRow.holds Try.pinned (OpenSpec.upto fnExactDropsForSpec)

/-- 'laws.FnExactWalkTimes', WHERE WHAT IT READS IS OF BULK AT MOST 1048576: true; the input reads as it did. -/
def fnExactWalkTimesUptoRow : OpenClaim := { program := "ytlgagnbnjfneaaa", sum := "b70f690007327603a272307aaa5c16688e7644673f31e1128118e77f7a47403e", func := "loop.example/g01021/laws.FnExactWalkTimes", spec := "fnExactWalkTimes", apart := false, narrowed := true }
def FnExactWalkTimesUptoSaid : Prop := fnExactWalkTimesUptoRow.holds Try.pinned (OpenSpec.upto fnExactWalkTimesSpec)

/-- 'laws.FnExactPotentialsOf', WHERE WHAT IT READS IS OF BULK AT MOST 1048576: true; the input reads as it did. -/
def fnExactPotentialsOfUptoRow : OpenClaim := { program := "ytlgagnbnjfneaaa", sum := "b70f690007327603a272307aaa5c16688e7644673f31e1128118e77f7a47403e", func := "loop.example/g01021/laws.FnExactPotentialsOf", spec := "fnExactPotentialsOf", unfollowed := true, recurses := true, apart := false, narrowed := true }
def FnExactPotentialsOfUptoSaid : Prop := fnExactPotentialsOfUptoRow.holds Try.pinned (OpenSpec.upto fnExactPotentialsOfSpec)

/-- 'laws.FnExactLeastPush', WHERE WHAT IT READS IS OF BULK AT MOST 1048576: true; the input reads as it did. -/
def fnExactLeastPushUptoRow : OpenClaim := { program := "ytlgagnbnjfneaaa", sum := "b70f690007327603a272307aaa5c16688e7644673f31e1128118e77f7a47403e", func := "loop.example/g01021/laws.FnExactLeastPush", spec := "fnExactLeastPush", unfollowed := true, recurses := true, apart := false, narrowed := true }
def FnExactLeastPushUptoSaid : Prop := fnExactLeastPushUptoRow.holds Try.pinned (OpenSpec.upto fnExactLeastPushSpec)

/-- 'laws.FnExactRegulatorDrops', WHERE WHAT IT READS IS OF BULK AT MOST 1048576: true; the input reads as it did. -/
def fnExactRegulatorDropsUptoRow : OpenClaim := { program := "ytlgagnbnjfneaaa", sum := "b70f690007327603a272307aaa5c16688e7644673f31e1128118e77f7a47403e", func := "loop.example/g01021/laws.FnExactRegulatorDrops", spec := "fnExactRegulatorDrops", unfollowed := true, recurses := true, apart := false, narrowed := true }
def FnExactRegulatorDropsUptoSaid : Prop := fnExactRegulatorDropsUptoRow.holds Try.pinned (OpenSpec.upto fnExactRegulatorDropsSpec)

/-- 'laws.FnExactTemperaturesAt', WHERE WHAT IT READS IS OF BULK AT MOST 1048576: true; the input reads as it did. -/
def fnExactTemperaturesAtUptoRow : OpenClaim := { program := "ytlgagnbnjfneaaa", sum := "b70f690007327603a272307aaa5c16688e7644673f31e1128118e77f7a47403e", func := "loop.example/g01021/laws.FnExactTemperaturesAt", spec := "fnExactTemperaturesAt", unfollowed := true, recurses := true, apart := false, narrowed := true }
def FnExactTemperaturesAtUptoSaid : Prop := fnExactTemperaturesAtUptoRow.holds Try.pinned (OpenSpec.upto fnExactTemperaturesAtSpec)

/-- 'laws.FnExactValidPlant', WHERE WHAT IT READS IS OF BULK AT MOST 1048576: true; the input reads as it did. -/
def fnExactValidPlantUptoRow : OpenClaim := { program := "ytlgagnbnjfneaaa", sum := "b70f690007327603a272307aaa5c16688e7644673f31e1128118e77f7a47403e", func := "loop.example/g01021/laws.FnExactValidPlant", spec := "fnExactValidPlant", unfollowed := true, recurses := true, apart := false, narrowed := true }
def FnExactValidPlantUptoSaid : Prop := fnExactValidPlantUptoRow.holds Try.pinned (OpenSpec.upto fnExactValidPlantSpec)

end Rows
end Go.Proofs.Ytlgagnbnjfneaaa
