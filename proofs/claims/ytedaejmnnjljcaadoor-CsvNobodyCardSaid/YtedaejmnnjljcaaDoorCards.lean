/-
  DERIVED. GIVEN WITH THE SEED: THE CARDS: each row of YtedaejmnnjljcaaDoorRows.lean that lists a variable, with what it lists TIED to the program's text (the seventh form; the later family's looks); each row that meets fmt, with fmt's text TOLD by the authors' own Lean function (tested against real Go, not proved from fmt's source: count such statements apart). THE CARD IS WHAT COUNTS. Prove the row's statement (the work); the ties are given (YtedaejmnnjljcaaDoorTie.lean); close each card by the builder's one call (the guide's Derived/Test/ToyasCard.lean, 'card_holds'). Laid BY PROGRAM, IN A SANDBOX (cutbox-door.mjs). By AI agents, Wed Nov 11 2026. No macro, syntax, notation, axiom, sorry.
-/
import Derived.Test.YtedaejmnnjljcaaDoorRows
import GoSem.ClaimSeven
namespace Go.Proofs.YtedaejmnnjljcaaDoor
namespace Rows

/-- THE TIED CARD OF 'proctorlaw06.CsvAll'. -/
def csvAllCard : Claim7 := { stood := { row := csvAllRow, standIns := [], harness := (true, "fbd9dc65c3014989537fddad64ac8f1583d0dd180663fc8a021cbf52ded1734a"), looks := true }, kinds := [], alts := [], laidByText := true, laidKinds := [.handle], laidTests := true, laidLooks := .later }
def CsvAllCardSaid : Prop := Claim7.holds Tryd.pinned (.plain (OpenSpec.ofChange csvAllSpec)) csvAllCard

/-- THE TIED CARD OF 'proctorlaw06.CsvSteps'. -/
def csvStepsCard : Claim7 := { stood := { row := csvStepsRow, standIns := [], harness := (true, "fbd9dc65c3014989537fddad64ac8f1583d0dd180663fc8a021cbf52ded1734a"), looks := true }, kinds := [], alts := [], laidByText := true, laidKinds := [.handle], laidTests := true, laidLooks := .later }
def CsvStepsCardSaid : Prop := Claim7.holds Tryd.pinned (.plain (OpenSpec.ofChange csvStepsSpec)) csvStepsCard

/-- THE TIED CARD OF 'proctorlaw06.CsvNobody'. -/
def csvNobodyCard : Claim7 := { stood := { row := csvNobodyRow, standIns := [], harness := (true, "fbd9dc65c3014989537fddad64ac8f1583d0dd180663fc8a021cbf52ded1734a"), looks := true }, kinds := [], alts := [], laidByText := true, laidKinds := [.handle], laidTests := true, laidLooks := .later }
def CsvNobodyCardSaid : Prop := Claim7.holds Tryd.pinned (.plain (OpenSpec.ofChange csvNobodySpec)) csvNobodyCard

/-- THE TIED CARD OF 'proctorlaw06.CsvBack'. -/
def csvBackCard : Claim7 := { stood := { row := csvBackRow, standIns := [], harness := (true, "fbd9dc65c3014989537fddad64ac8f1583d0dd180663fc8a021cbf52ded1734a"), looks := true }, kinds := [], alts := [], laidByText := true, laidKinds := [.data, .handle, .pinned], laidTests := true, laidLooks := .later }
def CsvBackCardSaid : Prop := Claim7.holds Tryd.pinned (.plain (OpenSpec.ofChange csvBackSpec)) csvBackCard

/-- THE TIED CARD OF 'proctorlaw09.LexAll'. -/
def lexAllCard : Claim7 := { stood := { row := lexAllRow, standIns := [], harness := (true, "fbd9dc65c3014989537fddad64ac8f1583d0dd180663fc8a021cbf52ded1734a"), looks := true }, kinds := [], alts := [], laidByText := true, laidKinds := [.data, .handle, .widerDeep, .widerDeep, .widerDeep, .pinned], laidTests := true, laidLooks := .later }
def LexAllCardSaid : Prop := Claim7.holds Tryd.pinned (.plain (OpenSpec.ofChange lexAllSpec)) lexAllCard

/-- THE TIED CARD OF 'proctorlaw09.LexLong'. -/
def lexLongCard : Claim7 := { stood := { row := lexLongRow, standIns := [], harness := (true, "fbd9dc65c3014989537fddad64ac8f1583d0dd180663fc8a021cbf52ded1734a"), looks := true }, kinds := [], alts := [], laidByText := true, laidKinds := [.data, .handle, .widerDeep, .widerDeep, .widerDeep, .pinned], laidTests := true, laidLooks := .later }
def LexLongCardSaid : Prop := Claim7.holds Tryd.pinned (.plain (OpenSpec.ofChange lexLongSpec)) lexLongCard

/-- THE SECOND FORM's CARD OF 'proctorlaw06.CsvAll'. -/
def csvAllUptoCard : Claim7 := { stood := { row := csvAllUptoRow, standIns := [], harness := (true, "fbd9dc65c3014989537fddad64ac8f1583d0dd180663fc8a021cbf52ded1734a"), looks := true }, kinds := [], alts := [], laidByText := true, laidKinds := [.handle], laidTests := true, laidLooks := .later }
def CsvAllUptoCardSaid : Prop := Claim7.holds Tryd.pinned (.plain (OpenSpec.upto csvAllSpec)) csvAllUptoCard

/-- THE SECOND FORM's CARD OF 'proctorlaw06.CsvSteps'. -/
def csvStepsUptoCard : Claim7 := { stood := { row := csvStepsUptoRow, standIns := [], harness := (true, "fbd9dc65c3014989537fddad64ac8f1583d0dd180663fc8a021cbf52ded1734a"), looks := true }, kinds := [], alts := [], laidByText := true, laidKinds := [.handle], laidTests := true, laidLooks := .later }
def CsvStepsUptoCardSaid : Prop := Claim7.holds Tryd.pinned (.plain (OpenSpec.upto csvStepsSpec)) csvStepsUptoCard

/-- THE SECOND FORM's CARD OF 'proctorlaw06.CsvNobody'. -/
def csvNobodyUptoCard : Claim7 := { stood := { row := csvNobodyUptoRow, standIns := [], harness := (true, "fbd9dc65c3014989537fddad64ac8f1583d0dd180663fc8a021cbf52ded1734a"), looks := true }, kinds := [], alts := [], laidByText := true, laidKinds := [.handle], laidTests := true, laidLooks := .later }
def CsvNobodyUptoCardSaid : Prop := Claim7.holds Tryd.pinned (.plain (OpenSpec.upto csvNobodySpec)) csvNobodyUptoCard

/-- THE SECOND FORM's CARD OF 'proctorlaw06.CsvBack'. -/
def csvBackUptoCard : Claim7 := { stood := { row := csvBackUptoRow, standIns := [], harness := (true, "fbd9dc65c3014989537fddad64ac8f1583d0dd180663fc8a021cbf52ded1734a"), looks := true }, kinds := [], alts := [], laidByText := true, laidKinds := [.data, .handle, .pinned], laidTests := true, laidLooks := .later }
def CsvBackUptoCardSaid : Prop := Claim7.holds Tryd.pinned (.plain (OpenSpec.upto csvBackSpec)) csvBackUptoCard

/-- THE SECOND FORM's CARD OF 'proctorlaw09.LexAll'. -/
def lexAllUptoCard : Claim7 := { stood := { row := lexAllUptoRow, standIns := [], harness := (true, "fbd9dc65c3014989537fddad64ac8f1583d0dd180663fc8a021cbf52ded1734a"), looks := true }, kinds := [], alts := [], laidByText := true, laidKinds := [.data, .handle, .widerDeep, .widerDeep, .widerDeep, .pinned], laidTests := true, laidLooks := .later }
def LexAllUptoCardSaid : Prop := Claim7.holds Tryd.pinned (.plain (OpenSpec.upto lexAllSpec)) lexAllUptoCard

/-- THE SECOND FORM's CARD OF 'proctorlaw09.LexLong'. -/
def lexLongUptoCard : Claim7 := { stood := { row := lexLongUptoRow, standIns := [], harness := (true, "fbd9dc65c3014989537fddad64ac8f1583d0dd180663fc8a021cbf52ded1734a"), looks := true }, kinds := [], alts := [], laidByText := true, laidKinds := [.data, .handle, .widerDeep, .widerDeep, .widerDeep, .pinned], laidTests := true, laidLooks := .later }
def LexLongUptoCardSaid : Prop := Claim7.holds Tryd.pinned (.plain (OpenSpec.upto lexLongSpec)) lexLongUptoCard
end Rows
end Go.Proofs.YtedaejmnnjljcaaDoor
