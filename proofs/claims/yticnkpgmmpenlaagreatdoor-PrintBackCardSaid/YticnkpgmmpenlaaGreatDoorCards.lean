/-
  DERIVED. GIVEN WITH THE SEED: THE CARDS: each row of YticnkpgmmpenlaaGreatDoorRows.lean that lists a variable, with what it lists TIED to the program's text (the seventh form; the later family's looks); each row that meets fmt, with fmt's text TOLD by the authors' own Lean function (tested against real Go, not proved from fmt's source: count such statements apart). THE CARD IS WHAT COUNTS. Prove the row's statement (the work); the ties are given (YticnkpgmmpenlaaGreatDoorTie.lean); close each card by the builder's one call (the guide's Derived/Test/ToyasCard.lean, 'card_holds'). Laid BY PROGRAM, IN A SANDBOX (cutbox-door.mjs). By AI agents, Wed Nov 11 2026. No macro, syntax, notation, axiom, sorry.
-/
import Derived.Test.YticnkpgmmpenlaaGreatDoorRows
import GoSem.ClaimSeven
namespace Go.Proofs.YticnkpgmmpenlaaGreatDoor
namespace Rows

/-- THE TIED CARD OF 'proctorlaw12.PrintTree'. -/
def printTreeCard : Claim7 := { stood := { row := printTreeRow, standIns := [], harness := (true, "d3cb68a9871b8fa503f06965396d024e4746a86a46a692c47f41910d3a595301"), looks := true }, kinds := [], alts := [], laidByText := true, laidKinds := [.data, .data, .data, .data, .handle, .sentinel, .sentinel, .widerDeep, .widerDeep, .widerDeep, .data, .pinned], laidTests := true, laidLooks := .later }
def PrintTreeCardSaid : Prop := Claim7.holds Tryz.pinned (.plain (OpenSpec.ofChange printTreeSpec)) printTreeCard

/-- THE TIED CARD OF 'proctorlaw12.PrintBack'. -/
def printBackCard : Claim7 := { stood := { row := printBackRow, standIns := [], harness := (true, "d3cb68a9871b8fa503f06965396d024e4746a86a46a692c47f41910d3a595301"), looks := true }, kinds := [], alts := [], laidByText := true, laidKinds := [.data, .data, .data, .data, .handle, .sentinel, .sentinel, .widerDeep, .widerDeep, .widerDeep, .data, .pinned], laidTests := true, laidLooks := .later }
def PrintBackCardSaid : Prop := Claim7.holds Tryz.pinned (.plain (OpenSpec.ofChange printBackSpec)) printBackCard

/-- THE SECOND FORM's CARD OF 'proctorlaw12.PrintTree'. -/
def printTreeUptoCard : Claim7 := { stood := { row := printTreeUptoRow, standIns := [], harness := (true, "d3cb68a9871b8fa503f06965396d024e4746a86a46a692c47f41910d3a595301"), looks := true }, kinds := [], alts := [], laidByText := true, laidKinds := [.data, .data, .data, .data, .handle, .sentinel, .sentinel, .widerDeep, .widerDeep, .widerDeep, .data, .pinned], laidTests := true, laidLooks := .later }
def PrintTreeUptoCardSaid : Prop := Claim7.holds Tryz.pinned (.plain (OpenSpec.upto printTreeSpec)) printTreeUptoCard

/-- THE SECOND FORM's CARD OF 'proctorlaw12.PrintBack'. -/
def printBackUptoCard : Claim7 := { stood := { row := printBackUptoRow, standIns := [], harness := (true, "d3cb68a9871b8fa503f06965396d024e4746a86a46a692c47f41910d3a595301"), looks := true }, kinds := [], alts := [], laidByText := true, laidKinds := [.data, .data, .data, .data, .handle, .sentinel, .sentinel, .widerDeep, .widerDeep, .widerDeep, .data, .pinned], laidTests := true, laidLooks := .later }
def PrintBackUptoCardSaid : Prop := Claim7.holds Tryz.pinned (.plain (OpenSpec.upto printBackSpec)) printBackUptoCard
end Rows
end Go.Proofs.YticnkpgmmpenlaaGreatDoor
