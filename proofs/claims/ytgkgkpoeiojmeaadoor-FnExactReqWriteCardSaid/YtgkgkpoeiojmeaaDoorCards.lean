/-
  DERIVED. GIVEN WITH THE SEED: THE CARDS: each row of YtgkgkpoeiojmeaaDoorRows.lean that lists a variable, with what it lists TIED to the program's text (the seventh form; the later family's looks); each row that meets fmt, with fmt's text TOLD by the authors' own Lean function (tested against real Go, not proved from fmt's source: count such statements apart). THE CARD IS WHAT COUNTS. Prove the row's statement (the work); the ties are given (YtgkgkpoeiojmeaaDoorTie.lean); close each card by the builder's one call (the guide's Derived/Test/ToyasCard.lean, 'card_holds'). Laid BY PROGRAM, IN A SANDBOX (cutbox-door.mjs). By AI agents, Wed Nov 11 2026. No macro, syntax, notation, axiom, sorry.
-/
import Derived.Test.YtgkgkpoeiojmeaaDoorRows
import GoSem.ClaimSeven
namespace Go.Proofs.YtgkgkpoeiojmeaaDoor
namespace Rows

/-- THE TIED CARD OF 'laws.FnExactWirePut'. -/
def fnExactWirePutCard : Claim7 := { stood := { row := fnExactWirePutRow, standIns := [], harness := (true, "7e58f977150493c98ce4b42d837a1b149fe0c0343d31915e19b0ad51015ab6ef"), looks := true }, kinds := [], alts := [], laidByText := true, laidKinds := [.data, .data, .data], laidTests := true, laidLooks := .later }
def FnExactWirePutCardSaid : Prop := Claim7.holds Tryd.pinned (.plain (OpenSpec.ofChange fnExactWirePutSpec)) fnExactWirePutCard

/-- THE TIED CARD OF 'laws.FnExactNameOk'. -/
def fnExactNameOkCard : Claim7 := { stood := { row := fnExactNameOkRow, standIns := [], harness := (true, "7e58f977150493c98ce4b42d837a1b149fe0c0343d31915e19b0ad51015ab6ef"), looks := true }, kinds := [], alts := [], laidByText := true, laidKinds := [.data, .pinned], laidTests := true, laidLooks := .later }
def FnExactNameOkCardSaid : Prop := Claim7.holds Tryd.pinned (.plain (OpenSpec.ofChange fnExactNameOkSpec)) fnExactNameOkCard

/-- THE TIED CARD OF 'laws.FnExactThingKey'. -/
def fnExactThingKeyCard : Claim7 := { stood := { row := fnExactThingKeyRow, standIns := [], harness := (true, "7e58f977150493c98ce4b42d837a1b149fe0c0343d31915e19b0ad51015ab6ef"), looks := true }, kinds := [], alts := [], laidByText := true, laidKinds := [.data, .pinned], laidTests := true, laidLooks := .later }
def FnExactThingKeyCardSaid : Prop := Claim7.holds Tryd.pinned (.plain (OpenSpec.ofChange fnExactThingKeySpec)) fnExactThingKeyCard

/-- THE TIED CARD OF 'laws.FnNameOk'. -/
def fnNameOkCard : Claim7 := { stood := { row := fnNameOkRow, standIns := [], harness := (true, "7e58f977150493c98ce4b42d837a1b149fe0c0343d31915e19b0ad51015ab6ef"), looks := true }, kinds := [], alts := [], laidByText := true, laidKinds := [.data, .pinned], laidTests := true, laidLooks := .later }
def FnNameOkCardSaid : Prop := Claim7.holds Tryd.pinned (.plain (OpenSpec.ofChange fnNameOkSpec)) fnNameOkCard

/-- THE TIED CARD OF 'laws.FnThingKey'. -/
def fnThingKeyCard : Claim7 := { stood := { row := fnThingKeyRow, standIns := [], harness := (true, "7e58f977150493c98ce4b42d837a1b149fe0c0343d31915e19b0ad51015ab6ef"), looks := true }, kinds := [], alts := [], laidByText := true, laidKinds := [.data, .pinned], laidTests := true, laidLooks := .later }
def FnThingKeyCardSaid : Prop := Claim7.holds Tryd.pinned (.plain (OpenSpec.ofChange fnThingKeySpec)) fnThingKeyCard

/-- THE TIED CARD OF 'laws.FnExactReqOk'. -/
def fnExactReqOkCard : Claim7 := { stood := { row := fnExactReqOkRow, standIns := [], harness := (true, "7e58f977150493c98ce4b42d837a1b149fe0c0343d31915e19b0ad51015ab6ef"), looks := true }, kinds := [], alts := [], laidByText := true, laidKinds := [.data, .pinned], laidTests := true, laidLooks := .later }
def FnExactReqOkCardSaid : Prop := Claim7.holds Tryd.pinned (.plain (OpenSpec.ofChange fnExactReqOkSpec)) fnExactReqOkCard

/-- THE TIED CARD OF 'laws.FnExactThingOk'. -/
def fnExactThingOkCard : Claim7 := { stood := { row := fnExactThingOkRow, standIns := [], harness := (true, "7e58f977150493c98ce4b42d837a1b149fe0c0343d31915e19b0ad51015ab6ef"), looks := true }, kinds := [], alts := [], laidByText := true, laidKinds := [.data, .pinned], laidTests := true, laidLooks := .later }
def FnExactThingOkCardSaid : Prop := Claim7.holds Tryd.pinned (.plain (OpenSpec.ofChange fnExactThingOkSpec)) fnExactThingOkCard

/-- THE TIED CARD OF 'laws.FnThingCost'. -/
def fnThingCostCard : Claim7 := { stood := { row := fnThingCostRow, standIns := [], harness := (true, "7e58f977150493c98ce4b42d837a1b149fe0c0343d31915e19b0ad51015ab6ef"), looks := true }, kinds := [], alts := [], laidByText := true, laidKinds := [.data, .pinned], laidTests := true, laidLooks := .later }
def FnThingCostCardSaid : Prop := Claim7.holds Tryd.pinned (.plain (OpenSpec.ofChange fnThingCostSpec)) fnThingCostCard

/-- THE TIED CARD OF 'laws.FnExactThingCost'. -/
def fnExactThingCostCard : Claim7 := { stood := { row := fnExactThingCostRow, standIns := [], harness := (true, "7e58f977150493c98ce4b42d837a1b149fe0c0343d31915e19b0ad51015ab6ef"), looks := true }, kinds := [], alts := [], laidByText := true, laidKinds := [.data, .pinned], laidTests := true, laidLooks := .later }
def FnExactThingCostCardSaid : Prop := Claim7.holds Tryd.pinned (.plain (OpenSpec.ofChange fnExactThingCostSpec)) fnExactThingCostCard

/-- THE TIED CARD OF 'laws.FnExactReqWrite'. -/
def fnExactReqWriteCard : Claim7 := { stood := { row := fnExactReqWriteRow, standIns := [], harness := (true, "7e58f977150493c98ce4b42d837a1b149fe0c0343d31915e19b0ad51015ab6ef"), looks := true }, kinds := [], alts := [], laidByText := true, laidKinds := [.data, .data, .data, .data, .pinned], laidTests := true, laidLooks := .later }
def FnExactReqWriteCardSaid : Prop := Claim7.holds Tryd.pinned (.plain (OpenSpec.ofChange fnExactReqWriteSpec)) fnExactReqWriteCard

/-- THE TIED CARD OF 'laws.FnExactWireGet'. -/
def fnExactWireGetCard : Claim7 := { stood := { row := fnExactWireGetRow, standIns := [], harness := (true, "7e58f977150493c98ce4b42d837a1b149fe0c0343d31915e19b0ad51015ab6ef"), looks := true }, kinds := [], alts := [], laidByText := true, laidKinds := [.data, .data, .data, .data, .sentinel, .sentinel, .pinned], laidTests := true, laidLooks := .later }
def FnExactWireGetCardSaid : Prop := Claim7.holds Tryd.pinned (.plain (OpenSpec.ofChange fnExactWireGetSpec)) fnExactWireGetCard

/-- THE SECOND FORM's CARD OF 'laws.FnExactWirePut'. -/
def fnExactWirePutUptoCard : Claim7 := { stood := { row := fnExactWirePutUptoRow, standIns := [], harness := (true, "7e58f977150493c98ce4b42d837a1b149fe0c0343d31915e19b0ad51015ab6ef"), looks := true }, kinds := [], alts := [], laidByText := true, laidKinds := [.data, .data, .data], laidTests := true, laidLooks := .later }
def FnExactWirePutUptoCardSaid : Prop := Claim7.holds Tryd.pinned (.plain (OpenSpec.upto fnExactWirePutSpec)) fnExactWirePutUptoCard

/-- THE SECOND FORM's CARD OF 'laws.FnExactNameOk'. -/
def fnExactNameOkUptoCard : Claim7 := { stood := { row := fnExactNameOkUptoRow, standIns := [], harness := (true, "7e58f977150493c98ce4b42d837a1b149fe0c0343d31915e19b0ad51015ab6ef"), looks := true }, kinds := [], alts := [], laidByText := true, laidKinds := [.data, .pinned], laidTests := true, laidLooks := .later }
def FnExactNameOkUptoCardSaid : Prop := Claim7.holds Tryd.pinned (.plain (OpenSpec.upto fnExactNameOkSpec)) fnExactNameOkUptoCard

/-- THE SECOND FORM's CARD OF 'laws.FnExactThingKey'. -/
def fnExactThingKeyUptoCard : Claim7 := { stood := { row := fnExactThingKeyUptoRow, standIns := [], harness := (true, "7e58f977150493c98ce4b42d837a1b149fe0c0343d31915e19b0ad51015ab6ef"), looks := true }, kinds := [], alts := [], laidByText := true, laidKinds := [.data, .pinned], laidTests := true, laidLooks := .later }
def FnExactThingKeyUptoCardSaid : Prop := Claim7.holds Tryd.pinned (.plain (OpenSpec.upto fnExactThingKeySpec)) fnExactThingKeyUptoCard

/-- THE SECOND FORM's CARD OF 'laws.FnNameOk'. -/
def fnNameOkUptoCard : Claim7 := { stood := { row := fnNameOkUptoRow, standIns := [], harness := (true, "7e58f977150493c98ce4b42d837a1b149fe0c0343d31915e19b0ad51015ab6ef"), looks := true }, kinds := [], alts := [], laidByText := true, laidKinds := [.data, .pinned], laidTests := true, laidLooks := .later }
def FnNameOkUptoCardSaid : Prop := Claim7.holds Tryd.pinned (.plain (OpenSpec.upto fnNameOkSpec)) fnNameOkUptoCard

/-- THE SECOND FORM's CARD OF 'laws.FnThingKey'. -/
def fnThingKeyUptoCard : Claim7 := { stood := { row := fnThingKeyUptoRow, standIns := [], harness := (true, "7e58f977150493c98ce4b42d837a1b149fe0c0343d31915e19b0ad51015ab6ef"), looks := true }, kinds := [], alts := [], laidByText := true, laidKinds := [.data, .pinned], laidTests := true, laidLooks := .later }
def FnThingKeyUptoCardSaid : Prop := Claim7.holds Tryd.pinned (.plain (OpenSpec.upto fnThingKeySpec)) fnThingKeyUptoCard

/-- THE SECOND FORM's CARD OF 'laws.FnExactReqOk'. -/
def fnExactReqOkUptoCard : Claim7 := { stood := { row := fnExactReqOkUptoRow, standIns := [], harness := (true, "7e58f977150493c98ce4b42d837a1b149fe0c0343d31915e19b0ad51015ab6ef"), looks := true }, kinds := [], alts := [], laidByText := true, laidKinds := [.data, .pinned], laidTests := true, laidLooks := .later }
def FnExactReqOkUptoCardSaid : Prop := Claim7.holds Tryd.pinned (.plain (OpenSpec.upto fnExactReqOkSpec)) fnExactReqOkUptoCard

/-- THE SECOND FORM's CARD OF 'laws.FnExactThingOk'. -/
def fnExactThingOkUptoCard : Claim7 := { stood := { row := fnExactThingOkUptoRow, standIns := [], harness := (true, "7e58f977150493c98ce4b42d837a1b149fe0c0343d31915e19b0ad51015ab6ef"), looks := true }, kinds := [], alts := [], laidByText := true, laidKinds := [.data, .pinned], laidTests := true, laidLooks := .later }
def FnExactThingOkUptoCardSaid : Prop := Claim7.holds Tryd.pinned (.plain (OpenSpec.upto fnExactThingOkSpec)) fnExactThingOkUptoCard

/-- THE SECOND FORM's CARD OF 'laws.FnThingCost'. -/
def fnThingCostUptoCard : Claim7 := { stood := { row := fnThingCostUptoRow, standIns := [], harness := (true, "7e58f977150493c98ce4b42d837a1b149fe0c0343d31915e19b0ad51015ab6ef"), looks := true }, kinds := [], alts := [], laidByText := true, laidKinds := [.data, .pinned], laidTests := true, laidLooks := .later }
def FnThingCostUptoCardSaid : Prop := Claim7.holds Tryd.pinned (.plain (OpenSpec.upto fnThingCostSpec)) fnThingCostUptoCard

/-- THE SECOND FORM's CARD OF 'laws.FnExactThingCost'. -/
def fnExactThingCostUptoCard : Claim7 := { stood := { row := fnExactThingCostUptoRow, standIns := [], harness := (true, "7e58f977150493c98ce4b42d837a1b149fe0c0343d31915e19b0ad51015ab6ef"), looks := true }, kinds := [], alts := [], laidByText := true, laidKinds := [.data, .pinned], laidTests := true, laidLooks := .later }
def FnExactThingCostUptoCardSaid : Prop := Claim7.holds Tryd.pinned (.plain (OpenSpec.upto fnExactThingCostSpec)) fnExactThingCostUptoCard

/-- THE SECOND FORM's CARD OF 'laws.FnExactReqWrite'. -/
def fnExactReqWriteUptoCard : Claim7 := { stood := { row := fnExactReqWriteUptoRow, standIns := [], harness := (true, "7e58f977150493c98ce4b42d837a1b149fe0c0343d31915e19b0ad51015ab6ef"), looks := true }, kinds := [], alts := [], laidByText := true, laidKinds := [.data, .data, .data, .data, .pinned], laidTests := true, laidLooks := .later }
def FnExactReqWriteUptoCardSaid : Prop := Claim7.holds Tryd.pinned (.plain (OpenSpec.upto fnExactReqWriteSpec)) fnExactReqWriteUptoCard

/-- THE SECOND FORM's CARD OF 'laws.FnExactWireGet'. -/
def fnExactWireGetUptoCard : Claim7 := { stood := { row := fnExactWireGetUptoRow, standIns := [], harness := (true, "7e58f977150493c98ce4b42d837a1b149fe0c0343d31915e19b0ad51015ab6ef"), looks := true }, kinds := [], alts := [], laidByText := true, laidKinds := [.data, .data, .data, .data, .sentinel, .sentinel, .pinned], laidTests := true, laidLooks := .later }
def FnExactWireGetUptoCardSaid : Prop := Claim7.holds Tryd.pinned (.plain (OpenSpec.upto fnExactWireGetSpec)) fnExactWireGetUptoCard
end Rows
end Go.Proofs.YtgkgkpoeiojmeaaDoor
