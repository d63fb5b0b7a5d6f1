/-
  DERIVED. GIVEN WITH THE SEED: THE CARDS: each row of YtemidjejelmdlaaDoorRows.lean that lists a variable, with what it lists TIED to the program's text (the seventh form; the later family's looks); each row that meets fmt, with fmt's text TOLD by the authors' own Lean function (tested against real Go, not proved from fmt's source: count such statements apart). THE CARD IS WHAT COUNTS. Prove the row's statement (the work); the ties are given (YtemidjejelmdlaaDoorTie.lean); close each card by the builder's one call (the guide's Derived/Test/ToyasCard.lean, 'card_holds'). Laid BY PROGRAM, IN A SANDBOX (cutbox-door.mjs). By AI agents, Wed Nov 11 2026. No macro, syntax, notation, axiom, sorry.
-/
import Derived.Test.YtemidjejelmdlaaDoorRows
import GoSem.ClaimSeven
namespace Go.Proofs.YtemidjejelmdlaaDoor
namespace Rows

/-- THE TIED CARD OF 'laws.FnExactDustingText'. -/
def fnExactDustingTextCard : Claim7 := { stood := { row := fnExactDustingTextRow, standIns := [], harness := (true, "e0271bb422e13f7d75fc1b866f650555f5cdb83081bae29928fc4f68a36b97c2"), looks := true }, kinds := [], alts := [], laidByText := true, laidKinds := [.data, .data, .data], laidTests := true, laidLooks := .later }
def FnExactDustingTextCardSaid : Prop := Claim7.holds Tryd.pinned (.plain (OpenSpec.ofChange fnExactDustingTextSpec)) fnExactDustingTextCard

/-- THE TIED CARD OF 'laws.FnExactHeadingText'. -/
def fnExactHeadingTextCard : Claim7 := { stood := { row := fnExactHeadingTextRow, standIns := [], harness := (true, "e0271bb422e13f7d75fc1b866f650555f5cdb83081bae29928fc4f68a36b97c2"), looks := true }, kinds := [], alts := [], laidByText := true, laidKinds := [.data, .data, .data], laidTests := true, laidLooks := .later }
def FnExactHeadingTextCardSaid : Prop := Claim7.holds Tryd.pinned (.plain (OpenSpec.ofChange fnExactHeadingTextSpec)) fnExactHeadingTextCard

/-- THE TIED CARD OF 'laws.FnExactDuctText'. -/
def fnExactDuctTextCard : Claim7 := { stood := { row := fnExactDuctTextRow, standIns := [], harness := (true, "e0271bb422e13f7d75fc1b866f650555f5cdb83081bae29928fc4f68a36b97c2"), looks := true }, kinds := [], alts := [], laidByText := true, laidKinds := [.data, .data, .data], laidTests := true, laidLooks := .later }
def FnExactDuctTextCardSaid : Prop := Claim7.holds Tryd.pinned (.plain (OpenSpec.ofChange fnExactDuctTextSpec)) fnExactDuctTextCard

/-- THE TIED CARD OF 'laws.FnExactReadDusting'. -/
def fnExactReadDustingCard : Claim7 := { stood := { row := fnExactReadDustingRow, standIns := [], harness := (true, "e0271bb422e13f7d75fc1b866f650555f5cdb83081bae29928fc4f68a36b97c2"), looks := true }, kinds := [], alts := [], laidByText := true, laidKinds := [.data, .data, .data, .data, .sentinel, .sentinel, .pinned], laidTests := true, laidLooks := .later }
def FnExactReadDustingCardSaid : Prop := Claim7.holds Tryd.pinned (.plain (OpenSpec.ofChange fnExactReadDustingSpec)) fnExactReadDustingCard

/-- THE TIED CARD OF 'laws.FnExactReadHeading'. -/
def fnExactReadHeadingCard : Claim7 := { stood := { row := fnExactReadHeadingRow, standIns := [], harness := (true, "e0271bb422e13f7d75fc1b866f650555f5cdb83081bae29928fc4f68a36b97c2"), looks := true }, kinds := [], alts := [], laidByText := true, laidKinds := [.data, .data, .data, .data, .sentinel, .sentinel, .pinned], laidTests := true, laidLooks := .later }
def FnExactReadHeadingCardSaid : Prop := Claim7.holds Tryd.pinned (.plain (OpenSpec.ofChange fnExactReadHeadingSpec)) fnExactReadHeadingCard

/-- THE TIED CARD OF 'laws.FnExactReadDuct'. -/
def fnExactReadDuctCard : Claim7 := { stood := { row := fnExactReadDuctRow, standIns := [], harness := (true, "e0271bb422e13f7d75fc1b866f650555f5cdb83081bae29928fc4f68a36b97c2"), looks := true }, kinds := [], alts := [], laidByText := true, laidKinds := [.data, .data, .data, .data, .sentinel, .sentinel, .pinned], laidTests := true, laidLooks := .later }
def FnExactReadDuctCardSaid : Prop := Claim7.holds Tryd.pinned (.plain (OpenSpec.ofChange fnExactReadDuctSpec)) fnExactReadDuctCard

/-- THE SECOND FORM's CARD OF 'laws.FnExactDustingText'. -/
def fnExactDustingTextUptoCard : Claim7 := { stood := { row := fnExactDustingTextUptoRow, standIns := [], harness := (true, "e0271bb422e13f7d75fc1b866f650555f5cdb83081bae29928fc4f68a36b97c2"), looks := true }, kinds := [], alts := [], laidByText := true, laidKinds := [.data, .data, .data], laidTests := true, laidLooks := .later }
def FnExactDustingTextUptoCardSaid : Prop := Claim7.holds Tryd.pinned (.plain (OpenSpec.upto fnExactDustingTextSpec)) fnExactDustingTextUptoCard

/-- THE SECOND FORM's CARD OF 'laws.FnExactHeadingText'. -/
def fnExactHeadingTextUptoCard : Claim7 := { stood := { row := fnExactHeadingTextUptoRow, standIns := [], harness := (true, "e0271bb422e13f7d75fc1b866f650555f5cdb83081bae29928fc4f68a36b97c2"), looks := true }, kinds := [], alts := [], laidByText := true, laidKinds := [.data, .data, .data], laidTests := true, laidLooks := .later }
def FnExactHeadingTextUptoCardSaid : Prop := Claim7.holds Tryd.pinned (.plain (OpenSpec.upto fnExactHeadingTextSpec)) fnExactHeadingTextUptoCard

/-- THE SECOND FORM's CARD OF 'laws.FnExactDuctText'. -/
def fnExactDuctTextUptoCard : Claim7 := { stood := { row := fnExactDuctTextUptoRow, standIns := [], harness := (true, "e0271bb422e13f7d75fc1b866f650555f5cdb83081bae29928fc4f68a36b97c2"), looks := true }, kinds := [], alts := [], laidByText := true, laidKinds := [.data, .data, .data], laidTests := true, laidLooks := .later }
def FnExactDuctTextUptoCardSaid : Prop := Claim7.holds Tryd.pinned (.plain (OpenSpec.upto fnExactDuctTextSpec)) fnExactDuctTextUptoCard

/-- THE SECOND FORM's CARD OF 'laws.FnExactReadDusting'. -/
def fnExactReadDustingUptoCard : Claim7 := { stood := { row := fnExactReadDustingUptoRow, standIns := [], harness := (true, "e0271bb422e13f7d75fc1b866f650555f5cdb83081bae29928fc4f68a36b97c2"), looks := true }, kinds := [], alts := [], laidByText := true, laidKinds := [.data, .data, .data, .data, .sentinel, .sentinel, .pinned], laidTests := true, laidLooks := .later }
def FnExactReadDustingUptoCardSaid : Prop := Claim7.holds Tryd.pinned (.plain (OpenSpec.upto fnExactReadDustingSpec)) fnExactReadDustingUptoCard

/-- THE SECOND FORM's CARD OF 'laws.FnExactReadHeading'. -/
def fnExactReadHeadingUptoCard : Claim7 := { stood := { row := fnExactReadHeadingUptoRow, standIns := [], harness := (true, "e0271bb422e13f7d75fc1b866f650555f5cdb83081bae29928fc4f68a36b97c2"), looks := true }, kinds := [], alts := [], laidByText := true, laidKinds := [.data, .data, .data, .data, .sentinel, .sentinel, .pinned], laidTests := true, laidLooks := .later }
def FnExactReadHeadingUptoCardSaid : Prop := Claim7.holds Tryd.pinned (.plain (OpenSpec.upto fnExactReadHeadingSpec)) fnExactReadHeadingUptoCard

/-- THE SECOND FORM's CARD OF 'laws.FnExactReadDuct'. -/
def fnExactReadDuctUptoCard : Claim7 := { stood := { row := fnExactReadDuctUptoRow, standIns := [], harness := (true, "e0271bb422e13f7d75fc1b866f650555f5cdb83081bae29928fc4f68a36b97c2"), looks := true }, kinds := [], alts := [], laidByText := true, laidKinds := [.data, .data, .data, .data, .sentinel, .sentinel, .pinned], laidTests := true, laidLooks := .later }
def FnExactReadDuctUptoCardSaid : Prop := Claim7.holds Tryd.pinned (.plain (OpenSpec.upto fnExactReadDuctSpec)) fnExactReadDuctUptoCard
end Rows
end Go.Proofs.YtemidjejelmdlaaDoor
