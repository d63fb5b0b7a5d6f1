/-
  No cell of these rows narrows 'for every input' (looked for: loops, veiled, ifaces, maps, wideKeys, modest, calm, conditions, laid).
  DERIVED. THE GIVEN ROWS OF THIS SEAT. 12 by the template 'for every input the law returns true; each argument reads behind the call as it read before'; 0 by the template 'total and deterministic' (their statements: YtiiidloobfimcaaTotals.lean).
  GIVEN WITH THE SEED: the statements are not yours to turn. If you find one false, say at which input.
  Laid BY PROGRAM, IN A SANDBOX (cutbox-rows.mjs): the forced cells as the released guide's own fill.sh prints them over the translation e16e1b14b91d760b… (all of the seat's roots in one cut). By AI agents, Wed Nov 11 2026. No macro, syntax, notation, axiom, sorry.
-/
import Derived.Test.YtiiidloobfimcaaChecked
import GoSem.Claim
import GoSem.ClaimJoined
import GoSem.ClaimMapViews
import Derived.JoinedTies
import Derived.KernelRfl
namespace Go.Proofs.Ytiiidloobfimcaa
/- THE CELL 'sum', in the pinned program and in every row, IS THE sha256 OF THE DUMP (.gsa) THAT YtiiidloobfimcaaProg.lean LOADS. Nothing in Lean hashes anything: it is a label: what it is worth is what the hold of that sum in a sandbox is worth. -/
noncomputable def Try.pinned : Pinned := { name := "ytiiidloobfimcaa", sum := "e16e1b14b91d760b4bfdf025329a713b6f9950382a6b688096fadf3e9c362537", checked := Try.checked }
namespace Rows
def none {H : Type} : Left H := { results := [], args := [] }

/-- 'laws.FnExactGasFor': WHATEVER THE INPUT: true; the input reads as it did. -/
def fnExactGasForSpec : ChangeSpec := { name := "fnExactGasFor", fn := fun _ => fun
  | [d1, d2] => { results := [.lit (.bool true)], args := [d1, d2] }
  | _ => none }
def fnExactGasForRow : OpenClaim := { program := "ytiiidloobfimcaa", sum := "e16e1b14b91d760b4bfdf025329a713b6f9950382a6b688096fadf3e9c362537", func := "loop.example/g01021/laws.FnExactGasFor", spec := "fnExactGasFor", apart := false }
def FnExactGasForSaid : Prop := fnExactGasForRow.holds Try.pinned (OpenSpec.ofChange fnExactGasForSpec)

/-- ITS FALSE NEIGHBOUR: 'it returns false'. Refute it at one input. -/
def fnExactGasForWrong : ChangeSpec := { name := "fnExactGasFor", fn := fun _ => fun
  | [d1, d2] => { results := [.lit (.bool false)], args := [d1, d2] }
  | _ => none }
def FnExactGasForWrongFalsely : Prop := fnExactGasForRow.holds Try.pinned (OpenSpec.ofChange fnExactGasForWrong)

/-- 'laws.FnExactFillTime': WHATEVER THE INPUT: true; the input reads as it did. -/
def fnExactFillTimeSpec : ChangeSpec := { name := "fnExactFillTime", fn := fun _ => fun
  | [d1, d2] => { results := [.lit (.bool true)], args := [d1, d2] }
  | _ => none }
def fnExactFillTimeRow : OpenClaim := { program := "ytiiidloobfimcaa", sum := "e16e1b14b91d760b4bfdf025329a713b6f9950382a6b688096fadf3e9c362537", func := "loop.example/g01021/laws.FnExactFillTime", spec := "fnExactFillTime", apart := false }
def FnExactFillTimeSaid : Prop := fnExactFillTimeRow.holds Try.pinned (OpenSpec.ofChange fnExactFillTimeSpec)

/-- ITS FALSE NEIGHBOUR: 'it returns false'. Refute it at one input. -/
def fnExactFillTimeWrong : ChangeSpec := { name := "fnExactFillTime", fn := fun _ => fun
  | [d1, d2] => { results := [.lit (.bool false)], args := [d1, d2] }
  | _ => none }
def FnExactFillTimeWrongFalsely : Prop := fnExactFillTimeRow.holds Try.pinned (OpenSpec.ofChange fnExactFillTimeWrong)

/-- 'laws.FnExactCoolingFor': WHATEVER THE INPUT: true; the input reads as it did. -/
def fnExactCoolingForSpec : ChangeSpec := { name := "fnExactCoolingFor", fn := fun _ => fun
  | [d1, d2, d3, d4] => { results := [.lit (.bool true)], args := [d1, d2, d3, d4] }
  | _ => none }
def fnExactCoolingForRow : OpenClaim := { program := "ytiiidloobfimcaa", sum := "e16e1b14b91d760b4bfdf025329a713b6f9950382a6b688096fadf3e9c362537", func := "loop.example/g01021/laws.FnExactCoolingFor", spec := "fnExactCoolingFor", unfollowed := true, recurses := true, apart := false }
def FnExactCoolingForSaid : Prop := fnExactCoolingForRow.holds Try.pinned (OpenSpec.ofChange fnExactCoolingForSpec)

/-- ITS FALSE NEIGHBOUR: 'it returns false'. Refute it at one input. -/
def fnExactCoolingForWrong : ChangeSpec := { name := "fnExactCoolingFor", fn := fun _ => fun
  | [d1, d2, d3, d4] => { results := [.lit (.bool false)], args := [d1, d2, d3, d4] }
  | _ => none }
def FnExactCoolingForWrongFalsely : Prop := fnExactCoolingForRow.holds Try.pinned (OpenSpec.ofChange fnExactCoolingForWrong)

/-- 'laws.FnExactMixTemperature': WHATEVER THE INPUT: true; the input reads as it did. -/
def fnExactMixTemperatureSpec : ChangeSpec := { name := "fnExactMixTemperature", fn := fun _ => fun
  | [d1, d2] => { results := [.lit (.bool true)], args := [d1, d2] }
  | _ => none }
def fnExactMixTemperatureRow : OpenClaim := { program := "ytiiidloobfimcaa", sum := "e16e1b14b91d760b4bfdf025329a713b6f9950382a6b688096fadf3e9c362537", func := "loop.example/g01021/laws.FnExactMixTemperature", spec := "fnExactMixTemperature", unfollowed := true, recurses := true, apart := false }
def FnExactMixTemperatureSaid : Prop := fnExactMixTemperatureRow.holds Try.pinned (OpenSpec.ofChange fnExactMixTemperatureSpec)

/-- ITS FALSE NEIGHBOUR: 'it returns false'. Refute it at one input. -/
def fnExactMixTemperatureWrong : ChangeSpec := { name := "fnExactMixTemperature", fn := fun _ => fun
  | [d1, d2] => { results := [.lit (.bool false)], args := [d1, d2] }
  | _ => none }
def FnExactMixTemperatureWrongFalsely : Prop := fnExactMixTemperatureRow.holds Try.pinned (OpenSpec.ofChange fnExactMixTemperatureWrong)

/-- 'laws.FnExactLeakAt': WHATEVER THE INPUT: true; the input reads as it did. -/
def fnExactLeakAtSpec : ChangeSpec := { name := "fnExactLeakAt", fn := fun _ => fun
  | [d] => { results := [.lit (.bool true)], args := [d] }
  | _ => none }
def fnExactLeakAtRow : OpenClaim := { program := "ytiiidloobfimcaa", sum := "e16e1b14b91d760b4bfdf025329a713b6f9950382a6b688096fadf3e9c362537", func := "loop.example/g01021/laws.FnExactLeakAt", spec := "fnExactLeakAt", unfollowed := true, recurses := true, apart := false }
def FnExactLeakAtSaid : Prop := fnExactLeakAtRow.holds Try.pinned (OpenSpec.ofChange fnExactLeakAtSpec)

/-- ITS FALSE NEIGHBOUR: 'it returns false'. Refute it at one input. -/
def fnExactLeakAtWrong : ChangeSpec := { name := "fnExactLeakAt", fn := fun _ => fun
  | [d] => { results := [.lit (.bool false)], args := [d] }
  | _ => none }
def FnExactLeakAtWrongFalsely : Prop := fnExactLeakAtRow.holds Try.pinned (OpenSpec.ofChange fnExactLeakAtWrong)

/-- 'laws.FnExactLossesOf': WHATEVER THE INPUT: true; the input reads as it did. -/
def fnExactLossesOfSpec : ChangeSpec := { name := "fnExactLossesOf", fn := fun _ => fun
  | [d] => { results := [.lit (.bool true)], args := [d] }
  | _ => none }
def fnExactLossesOfRow : OpenClaim := { program := "ytiiidloobfimcaa", sum := "e16e1b14b91d760b4bfdf025329a713b6f9950382a6b688096fadf3e9c362537", func := "loop.example/g01021/laws.FnExactLossesOf", spec := "fnExactLossesOf", unfollowed := true, recurses := true, apart := false }
def FnExactLossesOfSaid : Prop := fnExactLossesOfRow.holds Try.pinned (OpenSpec.ofChange fnExactLossesOfSpec)

/-- ITS FALSE NEIGHBOUR: 'it returns false'. Refute it at one input. -/
def fnExactLossesOfWrong : ChangeSpec := { name := "fnExactLossesOf", fn := fun _ => fun
  | [d] => { results := [.lit (.bool false)], args := [d] }
  | _ => none }
def FnExactLossesOfWrongFalsely : Prop := fnExactLossesOfRow.holds Try.pinned (OpenSpec.ofChange fnExactLossesOfWrong)

/-- 'laws.FnExactBoosterPower': WHATEVER THE INPUT: true; the input reads as it did. -/
def fnExactBoosterPowerSpec : ChangeSpec := { name := "fnExactBoosterPower", fn := fun _ => fun
  | [d1, d2, d3] => { results := [.lit (.bool true)], args := [d1, d2, d3] }
  | _ => none }
def fnExactBoosterPowerRow : OpenClaim := { program := "ytiiidloobfimcaa", sum := "e16e1b14b91d760b4bfdf025329a713b6f9950382a6b688096fadf3e9c362537", func := "loop.example/g01021/laws.FnExactBoosterPower", spec := "fnExactBoosterPower", unfollowed := true, recurses := true, apart := false }
def FnExactBoosterPowerSaid : Prop := fnExactBoosterPowerRow.holds Try.pinned (OpenSpec.ofChange fnExactBoosterPowerSpec)

/-- ITS FALSE NEIGHBOUR: 'it returns false'. Refute it at one input. -/
def fnExactBoosterPowerWrong : ChangeSpec := { name := "fnExactBoosterPower", fn := fun _ => fun
  | [d1, d2, d3] => { results := [.lit (.bool false)], args := [d1, d2, d3] }
  | _ => none }
def FnExactBoosterPowerWrongFalsely : Prop := fnExactBoosterPowerRow.holds Try.pinned (OpenSpec.ofChange fnExactBoosterPowerWrong)

/-- 'laws.FnExactFlowAfter': WHATEVER THE INPUT: true; the input reads as it did. -/
def fnExactFlowAfterSpec : ChangeSpec := { name := "fnExactFlowAfter", fn := fun _ => fun
  | [d1, d2, d3] => { results := [.lit (.bool true)], args := [d1, d2, d3] }
  | _ => none }
def fnExactFlowAfterRow : OpenClaim := { program := "ytiiidloobfimcaa", sum := "e16e1b14b91d760b4bfdf025329a713b6f9950382a6b688096fadf3e9c362537", func := "loop.example/g01021/laws.FnExactFlowAfter", spec := "fnExactFlowAfter", apart := false }
def FnExactFlowAfterSaid : Prop := fnExactFlowAfterRow.holds Try.pinned (OpenSpec.ofChange fnExactFlowAfterSpec)

/-- ITS FALSE NEIGHBOUR: 'it returns false'. Refute it at one input. -/
def fnExactFlowAfterWrong : ChangeSpec := { name := "fnExactFlowAfter", fn := fun _ => fun
  | [d1, d2, d3] => { results := [.lit (.bool false)], args := [d1, d2, d3] }
  | _ => none }
def FnExactFlowAfterWrongFalsely : Prop := fnExactFlowAfterRow.holds Try.pinned (OpenSpec.ofChange fnExactFlowAfterWrong)

/-- 'laws.FnExactFlowAtEnd': WHATEVER THE INPUT: true; the input reads as it did. -/
def fnExactFlowAtEndSpec : ChangeSpec := { name := "fnExactFlowAtEnd", fn := fun _ => fun
  | [d1, d2] => { results := [.lit (.bool true)], args := [d1, d2] }
  | _ => none }
def fnExactFlowAtEndRow : OpenClaim := { program := "ytiiidloobfimcaa", sum := "e16e1b14b91d760b4bfdf025329a713b6f9950382a6b688096fadf3e9c362537", func := "loop.example/g01021/laws.FnExactFlowAtEnd", spec := "fnExactFlowAtEnd", apart := false }
def FnExactFlowAtEndSaid : Prop := fnExactFlowAtEndRow.holds Try.pinned (OpenSpec.ofChange fnExactFlowAtEndSpec)

/-- ITS FALSE NEIGHBOUR: 'it returns false'. Refute it at one input. -/
def fnExactFlowAtEndWrong : ChangeSpec := { name := "fnExactFlowAtEnd", fn := fun _ => fun
  | [d1, d2] => { results := [.lit (.bool false)], args := [d1, d2] }
  | _ => none }
def FnExactFlowAtEndWrongFalsely : Prop := fnExactFlowAtEndRow.holds Try.pinned (OpenSpec.ofChange fnExactFlowAtEndWrong)

/-- 'laws.FnExactMeanLoss': WHATEVER THE INPUT: true; the input reads as it did. -/
def fnExactMeanLossSpec : ChangeSpec := { name := "fnExactMeanLoss", fn := fun _ => fun
  | [d] => { results := [.lit (.bool true)], args := [d] }
  | _ => none }
def fnExactMeanLossRow : OpenClaim := { program := "ytiiidloobfimcaa", sum := "e16e1b14b91d760b4bfdf025329a713b6f9950382a6b688096fadf3e9c362537", func := "loop.example/g01021/laws.FnExactMeanLoss", spec := "fnExactMeanLoss", unfollowed := true, recurses := true, apart := false }
def FnExactMeanLossSaid : Prop := fnExactMeanLossRow.holds Try.pinned (OpenSpec.ofChange fnExactMeanLossSpec)

/-- ITS FALSE NEIGHBOUR: 'it returns false'. Refute it at one input. -/
def fnExactMeanLossWrong : ChangeSpec := { name := "fnExactMeanLoss", fn := fun _ => fun
  | [d] => { results := [.lit (.bool false)], args := [d] }
  | _ => none }
def FnExactMeanLossWrongFalsely : Prop := fnExactMeanLossRow.holds Try.pinned (OpenSpec.ofChange fnExactMeanLossWrong)

/-- 'laws.FnExactDustAt': WHATEVER THE INPUT: true; the input reads as it did. -/
def fnExactDustAtSpec : ChangeSpec := { name := "fnExactDustAt", fn := fun _ => fun
  | [d1, d2, d3] => { results := [.lit (.bool true)], args := [d1, d2, d3] }
  | _ => none }
def fnExactDustAtRow : OpenClaim := { program := "ytiiidloobfimcaa", sum := "e16e1b14b91d760b4bfdf025329a713b6f9950382a6b688096fadf3e9c362537", func := "loop.example/g01021/laws.FnExactDustAt", spec := "fnExactDustAt", unfollowed := true, recurses := true, apart := false }
def FnExactDustAtSaid : Prop := fnExactDustAtRow.holds Try.pinned (OpenSpec.ofChange fnExactDustAtSpec)

/-- ITS FALSE NEIGHBOUR: 'it returns false'. Refute it at one input. -/
def fnExactDustAtWrong : ChangeSpec := { name := "fnExactDustAt", fn := fun _ => fun
  | [d1, d2, d3] => { results := [.lit (.bool false)], args := [d1, d2, d3] }
  | _ => none }
def FnExactDustAtWrongFalsely : Prop := fnExactDustAtRow.holds Try.pinned (OpenSpec.ofChange fnExactDustAtWrong)

/-- 'laws.FnExactDustAlong': WHATEVER THE INPUT: true; the input reads as it did. -/
def fnExactDustAlongSpec : ChangeSpec := { name := "fnExactDustAlong", fn := fun _ => fun
  | [d1, d2, d3] => { results := [.lit (.bool true)], args := [d1, d2, d3] }
  | _ => none }
def fnExactDustAlongRow : OpenClaim := { program := "ytiiidloobfimcaa", sum := "e16e1b14b91d760b4bfdf025329a713b6f9950382a6b688096fadf3e9c362537", func := "loop.example/g01021/laws.FnExactDustAlong", spec := "fnExactDustAlong", unfollowed := true, recurses := true, apart := false }
def FnExactDustAlongSaid : Prop := fnExactDustAlongRow.holds Try.pinned (OpenSpec.ofChange fnExactDustAlongSpec)

/-- ITS FALSE NEIGHBOUR: 'it returns false'. Refute it at one input. -/
def fnExactDustAlongWrong : ChangeSpec := { name := "fnExactDustAlong", fn := fun _ => fun
  | [d1, d2, d3] => { results := [.lit (.bool false)], args := [d1, d2, d3] }
  | _ => none }
def FnExactDustAlongWrongFalsely : Prop := fnExactDustAlongRow.holds Try.pinned (OpenSpec.ofChange fnExactDustAlongWrong)

/- THE SECOND FORM. 'bulk': how many values and letters a reading holds, each counted each time it is reached (what is shared counts as often as it is met; a slice's spare places count too). A statement '..UptoSaid' is the law's where the arguments, and the package variables that the reading takes, are together of bulk at most 1048576: NARROWER than '..Said'. Prove '..Said' where nothing that the law and all that it calls make is longer than what came in: it says more and counts as full. Else prove '..UptoSaid'. A law counts once. -/
mutual
def uptoBulk {H : Type} : DataW H → Nat
  | .lit (.string bytes) => bytes.length + 1
  | .lit _ => 1
  | .nil => 1
  | .ptr d => uptoBulk d + 1
  | .slice elems spare => uptoBulkAll elems + uptoBulkAll spare + 1
  | .agg parts => uptoBulkAll parts + 1
  | .iface _ d => uptoBulk d + 1
  | .map entries => uptoBulkEntries entries + 1
  | .held _ => 1
def uptoBulkAll {H : Type} : List (DataW H) → Nat
  | [] => 0
  | d :: r => uptoBulk d + uptoBulkAll r
def uptoBulkEntries {H : Type} : List (Lit × DataW H) → Nat
  | [] => 0
  | x :: r => uptoBulkEntry x + uptoBulkEntries r
def uptoBulkEntry {H : Type} : Lit × DataW H → Nat
  | (.string bytes, d) => bytes.length + uptoBulk d + 1
  | (_, d) => uptoBulk d + 1
 end
def uptoSmall : (H : Type) → List (DataW H) → Bool := fun _ ds => decide (uptoBulkAll ds ≤ 1048576)
def OpenSpec.upto (s : _root_.Go.ChangeSpec) : _root_.Go.OpenSpec := { _root_.Go.OpenSpec.ofChange s with cond := some uptoSmall }

/-- 'laws.FnExactGasFor', WHERE WHAT IT READS IS OF BULK AT MOST 1048576: true; the input reads as it did. -/
def fnExactGasForUptoRow : OpenClaim := { program := "ytiiidloobfimcaa", sum := "e16e1b14b91d760b4bfdf025329a713b6f9950382a6b688096fadf3e9c362537", func := "loop.example/g01021/laws.FnExactGasFor", spec := "fnExactGasFor", apart := false, narrowed := true }
def FnExactGasForUptoSaid : Prop := fnExactGasForUptoRow.holds Try.pinned (OpenSpec.upto fnExactGasForSpec)

/-- 'laws.FnExactFillTime', WHERE WHAT IT READS IS OF BULK AT MOST 1048576: true; the input reads as it did. -/
def fnExactFillTimeUptoRow : OpenClaim := { program := "ytiiidloobfimcaa", sum := "e16e1b14b91d760b4bfdf025329a713b6f9950382a6b688096fadf3e9c362537", func := "loop.example/g01021/laws.FnExactFillTime", spec := "fnExactFillTime", apart := false, narrowed := true }
def FnExactFillTimeUptoSaid : Prop := fnExactFillTimeUptoRow.holds Try.pinned (OpenSpec.upto fnExactFillTimeSpec)

/-- 'laws.FnExactCoolingFor', WHERE WHAT IT READS IS OF BULK AT MOST 1048576: true; the input reads as it did. -/
def fnExactCoolingForUptoRow : OpenClaim := { program := "ytiiidloobfimcaa", sum := "e16e1b14b91d760b4bfdf025329a713b6f9950382a6b688096fadf3e9c362537", func := "loop.example/g01021/laws.FnExactCoolingFor", spec := "fnExactCoolingFor", unfollowed := true, recurses := true, apart := false, narrowed := true }
def FnExactCoolingForUptoSaid : Prop := fnExactCoolingForUptoRow.holds Try.pinned (OpenSpec.upto fnExactCoolingForSpec)

/-- 'laws.FnExactMixTemperature', WHERE WHAT IT READS IS OF BULK AT MOST 1048576: true; the input reads as it did. -/
def fnExactMixTemperatureUptoRow : OpenClaim := { program := "ytiiidloobfimcaa", sum := "e16e1b14b91d760b4bfdf025329a713b6f9950382a6b688096fadf3e9c362537", func := "loop.example/g01021/laws.FnExactMixTemperature", spec := "fnExactMixTemperature", unfollowed := true, recurses := true, apart := false, narrowed := true }
def FnExactMixTemperatureUptoSaid : Prop := fnExactMixTemperatureUptoRow.holds Try.pinned (OpenSpec.upto fnExactMixTemperatureSpec)

/-- 'laws.FnExactLeakAt', WHERE WHAT IT READS IS OF BULK AT MOST 1048576: true; the input reads as it did. -/
def fnExactLeakAtUptoRow : OpenClaim := { program := "ytiiidloobfimcaa", sum := "e16e1b14b91d760b4bfdf025329a713b6f9950382a6b688096fadf3e9c362537", func := "loop.example/g01021/laws.FnExactLeakAt", spec := "fnExactLeakAt", unfollowed := true, recurses := true, apart := false, narrowed := true }
def FnExactLeakAtUptoSaid : Prop := fnExactLeakAtUptoRow.holds Try.pinned (OpenSpec.upto fnExactLeakAtSpec)

/-- 'laws.FnExactLossesOf', WHERE WHAT IT READS IS OF BULK AT MOST 1048576: true; the input reads as it did. -/
def fnExactLossesOfUptoRow : OpenClaim := { program := "ytiiidloobfimcaa", sum := "e16e1b14b91d760b4bfdf025329a713b6f9950382a6b688096fadf3e9c362537", func := "loop.example/g01021/laws.FnExactLossesOf", spec := "fnExactLossesOf", unfollowed := true, recurses := true, apart := false, narrowed := true }
def FnExactLossesOfUptoSaid : Prop := fnExactLossesOfUptoRow.holds Try.pinned (OpenSpec.upto fnExactLossesOfSpec)

/-- 'laws.FnExactBoosterPower', WHERE WHAT IT READS IS OF BULK AT MOST 1048576: true; the input reads as it did. -/
def fnExactBoosterPowerUptoRow : OpenClaim := { program := "ytiiidloobfimcaa", sum := "e16e1b14b91d760b4bfdf025329a713b6f9950382a6b688096fadf3e9c362537", func := "loop.example/g01021/laws.FnExactBoosterPower", spec := "fnExactBoosterPower", unfollowed := true, recurses := true, apart := false, narrowed := true }
def FnExactBoosterPowerUptoSaid : Prop := fnExactBoosterPowerUptoRow.holds Try.pinned (OpenSpec.upto fnExactBoosterPowerSpec)

/-- 'laws.FnExactFlowAfter', WHERE WHAT IT READS IS OF BULK AT MOST 1048576: true; the input reads as it did. -/
def fnExactFlowAfterUptoRow : OpenClaim := { program := "ytiiidloobfimcaa", sum := "e16e1b14b91d760b4bfdf025329a713b6f9950382a6b688096fadf3e9c362537", func := "loop.example/g01021/laws.FnExactFlowAfter", spec := "fnExactFlowAfter", apart := false, narrowed := true }
def FnExactFlowAfterUptoSaid : Prop := fnExactFlowAfterUptoRow.holds Try.pinned (OpenSpec.upto fnExactFlowAfterSpec)

/-- 'laws.FnExactFlowAtEnd', WHERE WHAT IT READS IS OF BULK AT MOST 1048576: true; the input reads as it did. -/
def fnExactFlowAtEndUptoRow : OpenClaim := { program := "ytiiidloobfimcaa", sum := "e16e1b14b91d760b4bfdf025329a713b6f9950382a6b688096fadf3e9c362537", func := "loop.example/g01021/laws.FnExactFlowAtEnd", spec := "fnExactFlowAtEnd", apart := false, narrowed := true }
def FnExactFlowAtEndUptoSaid : Prop := fnExactFlowAtEndUptoRow.holds Try.pinned (OpenSpec.upto fnExactFlowAtEndSpec)

/-- 'laws.FnExactMeanLoss', WHERE WHAT IT READS IS OF BULK AT MOST 1048576: true; the input reads as it did. -/
def fnExactMeanLossUptoRow : OpenClaim := { program := "ytiiidloobfimcaa", sum := "e16e1b14b91d760b4bfdf025329a713b6f9950382a6b688096fadf3e9c362537", func := "loop.example/g01021/laws.FnExactMeanLoss", spec := "fnExactMeanLoss", unfollowed := true, recurses := true, apart := false, narrowed := true }
def FnExactMeanLossUptoSaid : Prop := fnExactMeanLossUptoRow.holds Try.pinned (OpenSpec.upto fnExactMeanLossSpec)

/-- 'laws.FnExactDustAt', WHERE WHAT IT READS IS OF BULK AT MOST 1048576: true; the input reads as it did. -/
def fnExactDustAtUptoRow : OpenClaim := { program := "ytiiidloobfimcaa", sum := "e16e1b14b91d760b4bfdf025329a713b6f9950382a6b688096fadf3e9c362537", func := "loop.example/g01021/laws.FnExactDustAt", spec := "fnExactDustAt", unfollowed := true, recurses := true, apart := false, narrowed := true }
def FnExactDustAtUptoSaid : Prop := fnExactDustAtUptoRow.holds Try.pinned (OpenSpec.upto fnExactDustAtSpec)

/-- 'laws.FnExactDustAlong', WHERE WHAT IT READS IS OF BULK AT MOST 1048576: true; the input reads as it did. -/
def fnExactDustAlongUptoRow : OpenClaim := { program := "ytiiidloobfimcaa", sum := "e16e1b14b91d760b4bfdf025329a713b6f9950382a6b688096fadf3e9c362537", func := "loop.example/g01021/laws.FnExactDustAlong", spec := "fnExactDustAlong", unfollowed := true, recurses := true, apart := false, narrowed := true }
def FnExactDustAlongUptoSaid : Prop := fnExactDustAlongUptoRow.holds Try.pinned (OpenSpec.upto fnExactDustAlongSpec)

end Rows
end Go.Proofs.Ytiiidloobfimcaa
