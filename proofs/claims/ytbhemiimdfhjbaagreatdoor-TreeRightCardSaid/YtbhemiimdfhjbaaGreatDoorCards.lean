/-
  DERIVED. GIVEN WITH THE SEED: THE CARDS: each row of YtbhemiimdfhjbaaGreatDoorRows.lean that lists a variable, with what it lists TIED to the program's text (the seventh form; the later family's looks); each row that meets fmt, with fmt's text TOLD by the authors' own Lean function (tested against real Go, not proved from fmt's source: count such statements apart). THE CARD IS WHAT COUNTS. Prove the row's statement (the work); the ties are given (YtbhemiimdfhjbaaGreatDoorTie.lean); close each card by the builder's one call (the guide's Derived/Test/ToyasCard.lean, 'card_holds'). Laid BY PROGRAM, IN A SANDBOX (cutbox-door.mjs). By AI agents, Wed Nov 11 2026. No macro, syntax, notation, axiom, sorry.
-/
import Derived.Test.YtbhemiimdfhjbaaGreatDoorRows
import GoSem.ClaimSeven
namespace Go.Proofs.YtbhemiimdfhjbaaGreatDoor
namespace Rows

/-- THE TIED CARD OF 'proctorlaw10.TreeRight'. -/
def treeRightCard : Claim7 := { stood := { row := treeRightRow, standIns := [], harness := (true, "7681a6c02d10b6800bcfb861e99f2ee5b36baad8e148f97b0c129fe429adee43"), looks := false }, kinds := [], alts := [], laidByText := true, laidKinds := [.widerDeep], laidTests := true, laidLooks := .later }
def TreeRightCardSaid : Prop := Claim7.holds Tryz.pinned (.plain (OpenSpec.ofChange treeRightSpec)) treeRightCard

/-- THE SECOND FORM's CARD OF 'proctorlaw10.TreeRight'. -/
def treeRightUptoCard : Claim7 := { stood := { row := treeRightUptoRow, standIns := [], harness := (true, "7681a6c02d10b6800bcfb861e99f2ee5b36baad8e148f97b0c129fe429adee43"), looks := false }, kinds := [], alts := [], laidByText := true, laidKinds := [.widerDeep], laidTests := true, laidLooks := .later }
def TreeRightUptoCardSaid : Prop := Claim7.holds Tryz.pinned (.plain (OpenSpec.upto treeRightSpec)) treeRightUptoCard
end Rows
end Go.Proofs.YtbhemiimdfhjbaaGreatDoor
