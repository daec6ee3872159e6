/-
  DERIVED. GIVEN WITH THE SEED: THE CARDS: each row of YtecjpdcoghfmiaaGreatDoorRows.lean that lists a variable, with what it lists TIED to the program's text (the seventh form; the later family's looks); each row that meets fmt, with fmt's text TOLD by the authors' own Lean function (tested against real Go, not proved from fmt's source: count such statements apart). THE CARD IS WHAT COUNTS. Prove the row's statement (the work); the ties are given (YtecjpdcoghfmiaaGreatDoorTie.lean); close each card by the builder's one call (the guide's Derived/Test/ToyasCard.lean, 'card_holds'). Laid BY PROGRAM, IN A SANDBOX (cutbox-door.mjs). By AI agents, Wed Nov 11 2026. No macro, syntax, notation, axiom, sorry.
-/
import Derived.Test.YtecjpdcoghfmiaaGreatDoorRows
import GoSem.ClaimSeven
namespace Go.Proofs.YtecjpdcoghfmiaaGreatDoor
namespace Rows

/-- THE TIED CARD OF 'proctorlaw32.VerdictTexts'. -/
def verdictTextsCard : Claim7 := { stood := { row := verdictTextsRow, standIns := [], harness := (true, "1edca6b8a129e4f241b2e7b4ad8339146ab8e931841c128276d1dce39964b8d8"), looks := true }, kinds := [], alts := [], laidByText := true, laidKinds := [.data, .data, .data, .data, .handle, .sentinel, .sentinel, .data, .pinned], laidTests := true, laidLooks := .later }
def VerdictTextsCardSaid : Prop := Claim7.holds Tryz.pinned (.plain (OpenSpec.ofChange verdictTextsSpec)) verdictTextsCard

/-- THE TIED CARD OF 'proctorlaw32.VerdictLists'. -/
def verdictListsCard : Claim7 := { stood := { row := verdictListsRow, standIns := [], harness := (true, "1edca6b8a129e4f241b2e7b4ad8339146ab8e931841c128276d1dce39964b8d8"), looks := true }, kinds := [], alts := [], laidByText := true, laidKinds := [.data, .data, .data, .data, .handle, .sentinel, .sentinel, .data, .pinned], laidTests := true, laidLooks := .later }
def VerdictListsCardSaid : Prop := Claim7.holds Tryz.pinned (.plain (OpenSpec.ofChange verdictListsSpec)) verdictListsCard

/-- THE SECOND FORM's CARD OF 'proctorlaw32.VerdictTexts'. -/
def verdictTextsUptoCard : Claim7 := { stood := { row := verdictTextsUptoRow, standIns := [], harness := (true, "1edca6b8a129e4f241b2e7b4ad8339146ab8e931841c128276d1dce39964b8d8"), looks := true }, kinds := [], alts := [], laidByText := true, laidKinds := [.data, .data, .data, .data, .handle, .sentinel, .sentinel, .data, .pinned], laidTests := true, laidLooks := .later }
def VerdictTextsUptoCardSaid : Prop := Claim7.holds Tryz.pinned (.plain (OpenSpec.upto verdictTextsSpec)) verdictTextsUptoCard

/-- THE SECOND FORM's CARD OF 'proctorlaw32.VerdictLists'. -/
def verdictListsUptoCard : Claim7 := { stood := { row := verdictListsUptoRow, standIns := [], harness := (true, "1edca6b8a129e4f241b2e7b4ad8339146ab8e931841c128276d1dce39964b8d8"), looks := true }, kinds := [], alts := [], laidByText := true, laidKinds := [.data, .data, .data, .data, .handle, .sentinel, .sentinel, .data, .pinned], laidTests := true, laidLooks := .later }
def VerdictListsUptoCardSaid : Prop := Claim7.holds Tryz.pinned (.plain (OpenSpec.upto verdictListsSpec)) verdictListsUptoCard
end Rows
end Go.Proofs.YtecjpdcoghfmiaaGreatDoor
