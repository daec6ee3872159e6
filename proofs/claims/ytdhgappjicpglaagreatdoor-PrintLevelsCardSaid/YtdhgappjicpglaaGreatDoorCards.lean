/-
  DERIVED. GIVEN WITH THE SEED: THE CARDS: each row of YtdhgappjicpglaaGreatDoorRows.lean that lists a variable, with what it lists TIED to the program's text (the seventh form; the later family's looks); each row that meets fmt, with fmt's text TOLD by the authors' own Lean function (tested against real Go, not proved from fmt's source: count such statements apart). THE CARD IS WHAT COUNTS. Prove the row's statement (the work); the ties are given (YtdhgappjicpglaaGreatDoorTie.lean); close each card by the builder's one call (the guide's Derived/Test/ToyasCard.lean, 'card_holds'). Laid BY PROGRAM, IN A SANDBOX (cutbox-door.mjs). By AI agents, Wed Nov 11 2026. No macro, syntax, notation, axiom, sorry.
-/
import Derived.Test.YtdhgappjicpglaaGreatDoorRows
import GoSem.ClaimSeven
namespace Go.Proofs.YtdhgappjicpglaaGreatDoor
namespace Rows

/-- THE TIED CARD OF 'proctorlaw12.PrintExpr'. -/
def printExprCard : Claim7 := { stood := { row := printExprRow, standIns := [], harness := (true, "c8a0bf4ebed8de116789de342c39095210a50c2d00f8b687c38531f0eb387e26"), looks := true }, kinds := [], alts := [], laidByText := true, laidKinds := [.data, .data, .data, .data, .handle, .sentinel, .sentinel, .widerDeep, .widerDeep, .widerDeep, .data, .pinned], laidTests := true, laidLooks := .later }
def PrintExprCardSaid : Prop := Claim7.holds Tryz.pinned (.plain (OpenSpec.ofChange printExprSpec)) printExprCard

/-- THE TIED CARD OF 'proctorlaw12.PrintLevels'. -/
def printLevelsCard : Claim7 := { stood := { row := printLevelsRow, standIns := [], harness := (true, "c8a0bf4ebed8de116789de342c39095210a50c2d00f8b687c38531f0eb387e26"), looks := true }, kinds := [], alts := [], laidByText := true, laidKinds := [.data, .data, .data, .data, .handle, .sentinel, .sentinel, .widerDeep, .widerDeep, .widerDeep, .data, .pinned], laidTests := true, laidLooks := .later }
def PrintLevelsCardSaid : Prop := Claim7.holds Tryz.pinned (.plain (OpenSpec.ofChange printLevelsSpec)) printLevelsCard

/-- THE SECOND FORM's CARD OF 'proctorlaw12.PrintExpr'. -/
def printExprUptoCard : Claim7 := { stood := { row := printExprUptoRow, standIns := [], harness := (true, "c8a0bf4ebed8de116789de342c39095210a50c2d00f8b687c38531f0eb387e26"), looks := true }, kinds := [], alts := [], laidByText := true, laidKinds := [.data, .data, .data, .data, .handle, .sentinel, .sentinel, .widerDeep, .widerDeep, .widerDeep, .data, .pinned], laidTests := true, laidLooks := .later }
def PrintExprUptoCardSaid : Prop := Claim7.holds Tryz.pinned (.plain (OpenSpec.upto printExprSpec)) printExprUptoCard

/-- THE SECOND FORM's CARD OF 'proctorlaw12.PrintLevels'. -/
def printLevelsUptoCard : Claim7 := { stood := { row := printLevelsUptoRow, standIns := [], harness := (true, "c8a0bf4ebed8de116789de342c39095210a50c2d00f8b687c38531f0eb387e26"), looks := true }, kinds := [], alts := [], laidByText := true, laidKinds := [.data, .data, .data, .data, .handle, .sentinel, .sentinel, .widerDeep, .widerDeep, .widerDeep, .data, .pinned], laidTests := true, laidLooks := .later }
def PrintLevelsUptoCardSaid : Prop := Claim7.holds Tryz.pinned (.plain (OpenSpec.upto printLevelsSpec)) printLevelsUptoCard
end Rows
end Go.Proofs.YtdhgappjicpglaaGreatDoor
