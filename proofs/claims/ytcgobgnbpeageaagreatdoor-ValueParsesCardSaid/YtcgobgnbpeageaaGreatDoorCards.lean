/-
  DERIVED. GIVEN WITH THE SEED: THE CARDS: each row of YtcgobgnbpeageaaGreatDoorRows.lean that lists a variable, with what it lists TIED to the program's text (the seventh form; the later family's looks); each row that meets fmt, with fmt's text TOLD by the authors' own Lean function (tested against real Go, not proved from fmt's source: count such statements apart). THE CARD IS WHAT COUNTS. Prove the row's statement (the work); the ties are given (YtcgobgnbpeageaaGreatDoorTie.lean); close each card by the builder's one call (the guide's Derived/Test/ToyasCard.lean, 'card_holds'). Laid BY PROGRAM, IN A SANDBOX (cutbox-door.mjs). By AI agents, Wed Nov 11 2026. No macro, syntax, notation, axiom, sorry.
-/
import Derived.Test.YtcgobgnbpeageaaGreatDoorRows
import GoSem.ClaimSeven
namespace Go.Proofs.YtcgobgnbpeageaaGreatDoor
namespace Rows

/-- THE TIED CARD OF 'proctorlaw03.ValueRight'. -/
def valueRightCard : Claim7 := { stood := { row := valueRightRow, standIns := [], harness := (true, "dd59b3b14638a0c12ffebafeeb1cf43fe09037921593c892d2c6efb6317422de"), looks := true }, kinds := [], alts := [], laidByText := true, laidKinds := [.data, .data, .data, .data, .sentinel, .sentinel, .widerDeep, .widerDeep, .pinned], laidTests := true, laidLooks := .later }
def ValueRightCardSaid : Prop := Claim7.holds Tryz.pinned (.plain (OpenSpec.ofChange valueRightSpec)) valueRightCard

/-- THE TIED CARD OF 'proctorlaw03.ValueParses'. -/
def valueParsesCard : Claim7 := { stood := { row := valueParsesRow, standIns := [], harness := (true, "dd59b3b14638a0c12ffebafeeb1cf43fe09037921593c892d2c6efb6317422de"), looks := true }, kinds := [], alts := [], laidByText := true, laidKinds := [.data, .data, .data, .data, .sentinel, .sentinel, .widerDeep, .widerDeep, .pinned], laidTests := true, laidLooks := .later }
def ValueParsesCardSaid : Prop := Claim7.holds Tryz.pinned (.plain (OpenSpec.ofChange valueParsesSpec)) valueParsesCard

/-- THE TIED CARD OF 'proctorlaw03.ValueOrder'. -/
def valueOrderCard : Claim7 := { stood := { row := valueOrderRow, standIns := [], harness := (true, "dd59b3b14638a0c12ffebafeeb1cf43fe09037921593c892d2c6efb6317422de"), looks := true }, kinds := [], alts := [], laidByText := true, laidKinds := [.data, .data, .data, .data, .sentinel, .sentinel, .widerDeep, .widerDeep, .pinned], laidTests := true, laidLooks := .later }
def ValueOrderCardSaid : Prop := Claim7.holds Tryz.pinned (.plain (OpenSpec.ofChange valueOrderSpec)) valueOrderCard

/-- THE TIED CARD OF 'proctorlaw03.ValueLeast'. -/
def valueLeastCard : Claim7 := { stood := { row := valueLeastRow, standIns := [], harness := (true, "dd59b3b14638a0c12ffebafeeb1cf43fe09037921593c892d2c6efb6317422de"), looks := true }, kinds := [], alts := [], laidByText := true, laidKinds := [.data, .data, .data, .data, .sentinel, .sentinel, .widerDeep, .widerDeep, .pinned], laidTests := true, laidLooks := .later }
def ValueLeastCardSaid : Prop := Claim7.holds Tryz.pinned (.plain (OpenSpec.ofChange valueLeastSpec)) valueLeastCard

/-- THE TIED CARD OF 'proctorlaw03.ValueNames'. -/
def valueNamesCard : Claim7 := { stood := { row := valueNamesRow, standIns := [], harness := (true, "dd59b3b14638a0c12ffebafeeb1cf43fe09037921593c892d2c6efb6317422de"), looks := true }, kinds := [], alts := [], laidByText := true, laidKinds := [.data, .data, .data, .data, .sentinel, .sentinel, .widerDeep, .widerDeep, .pinned], laidTests := true, laidLooks := .later }
def ValueNamesCardSaid : Prop := Claim7.holds Tryz.pinned (.plain (OpenSpec.ofChange valueNamesSpec)) valueNamesCard

/-- THE TIED CARD OF 'proctorlaw03.ValueOps'. -/
def valueOpsCard : Claim7 := { stood := { row := valueOpsRow, standIns := [], harness := (true, "dd59b3b14638a0c12ffebafeeb1cf43fe09037921593c892d2c6efb6317422de"), looks := true }, kinds := [], alts := [], laidByText := true, laidKinds := [.data, .data, .data, .data, .sentinel, .sentinel, .widerDeep, .widerDeep, .pinned], laidTests := true, laidLooks := .later }
def ValueOpsCardSaid : Prop := Claim7.holds Tryz.pinned (.plain (OpenSpec.ofChange valueOpsSpec)) valueOpsCard

/-- THE SECOND FORM's CARD OF 'proctorlaw03.ValueRight'. -/
def valueRightUptoCard : Claim7 := { stood := { row := valueRightUptoRow, standIns := [], harness := (true, "dd59b3b14638a0c12ffebafeeb1cf43fe09037921593c892d2c6efb6317422de"), looks := true }, kinds := [], alts := [], laidByText := true, laidKinds := [.data, .data, .data, .data, .sentinel, .sentinel, .widerDeep, .widerDeep, .pinned], laidTests := true, laidLooks := .later }
def ValueRightUptoCardSaid : Prop := Claim7.holds Tryz.pinned (.plain (OpenSpec.upto valueRightSpec)) valueRightUptoCard

/-- THE SECOND FORM's CARD OF 'proctorlaw03.ValueParses'. -/
def valueParsesUptoCard : Claim7 := { stood := { row := valueParsesUptoRow, standIns := [], harness := (true, "dd59b3b14638a0c12ffebafeeb1cf43fe09037921593c892d2c6efb6317422de"), looks := true }, kinds := [], alts := [], laidByText := true, laidKinds := [.data, .data, .data, .data, .sentinel, .sentinel, .widerDeep, .widerDeep, .pinned], laidTests := true, laidLooks := .later }
def ValueParsesUptoCardSaid : Prop := Claim7.holds Tryz.pinned (.plain (OpenSpec.upto valueParsesSpec)) valueParsesUptoCard

/-- THE SECOND FORM's CARD OF 'proctorlaw03.ValueOrder'. -/
def valueOrderUptoCard : Claim7 := { stood := { row := valueOrderUptoRow, standIns := [], harness := (true, "dd59b3b14638a0c12ffebafeeb1cf43fe09037921593c892d2c6efb6317422de"), looks := true }, kinds := [], alts := [], laidByText := true, laidKinds := [.data, .data, .data, .data, .sentinel, .sentinel, .widerDeep, .widerDeep, .pinned], laidTests := true, laidLooks := .later }
def ValueOrderUptoCardSaid : Prop := Claim7.holds Tryz.pinned (.plain (OpenSpec.upto valueOrderSpec)) valueOrderUptoCard

/-- THE SECOND FORM's CARD OF 'proctorlaw03.ValueLeast'. -/
def valueLeastUptoCard : Claim7 := { stood := { row := valueLeastUptoRow, standIns := [], harness := (true, "dd59b3b14638a0c12ffebafeeb1cf43fe09037921593c892d2c6efb6317422de"), looks := true }, kinds := [], alts := [], laidByText := true, laidKinds := [.data, .data, .data, .data, .sentinel, .sentinel, .widerDeep, .widerDeep, .pinned], laidTests := true, laidLooks := .later }
def ValueLeastUptoCardSaid : Prop := Claim7.holds Tryz.pinned (.plain (OpenSpec.upto valueLeastSpec)) valueLeastUptoCard

/-- THE SECOND FORM's CARD OF 'proctorlaw03.ValueNames'. -/
def valueNamesUptoCard : Claim7 := { stood := { row := valueNamesUptoRow, standIns := [], harness := (true, "dd59b3b14638a0c12ffebafeeb1cf43fe09037921593c892d2c6efb6317422de"), looks := true }, kinds := [], alts := [], laidByText := true, laidKinds := [.data, .data, .data, .data, .sentinel, .sentinel, .widerDeep, .widerDeep, .pinned], laidTests := true, laidLooks := .later }
def ValueNamesUptoCardSaid : Prop := Claim7.holds Tryz.pinned (.plain (OpenSpec.upto valueNamesSpec)) valueNamesUptoCard

/-- THE SECOND FORM's CARD OF 'proctorlaw03.ValueOps'. -/
def valueOpsUptoCard : Claim7 := { stood := { row := valueOpsUptoRow, standIns := [], harness := (true, "dd59b3b14638a0c12ffebafeeb1cf43fe09037921593c892d2c6efb6317422de"), looks := true }, kinds := [], alts := [], laidByText := true, laidKinds := [.data, .data, .data, .data, .sentinel, .sentinel, .widerDeep, .widerDeep, .pinned], laidTests := true, laidLooks := .later }
def ValueOpsUptoCardSaid : Prop := Claim7.holds Tryz.pinned (.plain (OpenSpec.upto valueOpsSpec)) valueOpsUptoCard
end Rows
end Go.Proofs.YtcgobgnbpeageaaGreatDoor
