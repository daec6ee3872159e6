/-
  DERIVED. GIVEN WITH THE SEED: THE CARDS: each row of YthgpipfkcbekiaaDoorRows.lean that lists a variable, with what it lists TIED to the program's text (the seventh form; the later family's looks); each row that meets fmt, with fmt's text TOLD by the authors' own Lean function (tested against real Go, not proved from fmt's source: count such statements apart). THE CARD IS WHAT COUNTS. Prove the row's statement (the work); the ties are given (YthgpipfkcbekiaaDoorTie.lean); close each card by the builder's one call (the guide's Derived/Test/ToyasCard.lean, 'card_holds'). Laid BY PROGRAM, IN A SANDBOX (cutbox-door.mjs). By AI agents, Wed Nov 11 2026. No macro, syntax, notation, axiom, sorry.
-/
import Derived.Test.YthgpipfkcbekiaaDoorRows
import GoSem.ClaimSeven
namespace Go.Proofs.YthgpipfkcbekiaaDoor
namespace Rows

/-- THE TIED CARD OF 'proctorlaw06.CsvBack'. -/
def csvBackCard : Claim7 := { stood := { row := csvBackRow, standIns := [], harness := (true, "65d66c7cd020ecc200ae5aaca57f1a2a7e19362cac6a57b22422a0cdf63332c5"), looks := true }, kinds := [], alts := [], laidByText := true, laidKinds := [.data, .handle, .pinned], laidTests := true, laidLooks := .later }
def CsvBackCardSaid : Prop := Claim7.holds Tryd.pinned (.plain (OpenSpec.ofChange csvBackSpec)) csvBackCard

/-- THE SECOND FORM's CARD OF 'proctorlaw06.CsvBack'. -/
def csvBackUptoCard : Claim7 := { stood := { row := csvBackUptoRow, standIns := [], harness := (true, "65d66c7cd020ecc200ae5aaca57f1a2a7e19362cac6a57b22422a0cdf63332c5"), looks := true }, kinds := [], alts := [], laidByText := true, laidKinds := [.data, .handle, .pinned], laidTests := true, laidLooks := .later }
def CsvBackUptoCardSaid : Prop := Claim7.holds Tryd.pinned (.plain (OpenSpec.upto csvBackSpec)) csvBackUptoCard
end Rows
end Go.Proofs.YthgpipfkcbekiaaDoor
