/-
  DERIVED. GIVEN WITH THE SEED: THE CARDS: each row of YtlmpmlcjlioeaaaDoorRows.lean that lists a variable, with what it lists TIED to the program's text (the seventh form; the later family's looks); each row that meets fmt, with fmt's text TOLD by the authors' own Lean function (tested against real Go, not proved from fmt's source: count such statements apart). THE CARD IS WHAT COUNTS. Prove the row's statement (the work); the ties are given (YtlmpmlcjlioeaaaDoorTie.lean); close each card by the builder's one call (the guide's Derived/Test/ToyasCard.lean, 'card_holds'). Laid BY PROGRAM, IN A SANDBOX (cutbox-door.mjs). By AI agents, Wed Nov 11 2026. No macro, syntax, notation, axiom, sorry.
-/
import Derived.Test.YtlmpmlcjlioeaaaDoorRows
import GoSem.ClaimSeven
namespace Go.Proofs.YtlmpmlcjlioeaaaDoor
namespace Rows

/-- THE TIED CARD OF 'laws.FnExactSpacesOk'. -/
def fnExactSpacesOkCard : Claim7 := { stood := { row := fnExactSpacesOkRow, standIns := [], harness := (true, "eb04dcb6eaa44f046c8574988d5e23988cd0d04e9c67a99553e40fcb9d78c244"), looks := false }, kinds := [], alts := [], laidByText := true, laidKinds := [.data, .pinned], laidTests := true, laidLooks := .later }
def FnExactSpacesOkCardSaid : Prop := Claim7.holds Tryd.pinned (.plain (OpenSpec.ofChange fnExactSpacesOkSpec)) fnExactSpacesOkCard

/-- THE TIED CARD OF 'laws.FnExactSpaceGoing'. -/
def fnExactSpaceGoingCard : Claim7 := { stood := { row := fnExactSpaceGoingRow, standIns := [], harness := (true, "eb04dcb6eaa44f046c8574988d5e23988cd0d04e9c67a99553e40fcb9d78c244"), looks := false }, kinds := [], alts := [], laidByText := true, laidKinds := [.data, .pinned], laidTests := true, laidLooks := .later }
def FnExactSpaceGoingCardSaid : Prop := Claim7.holds Tryd.pinned (.plain (OpenSpec.ofChange fnExactSpaceGoingSpec)) fnExactSpaceGoingCard

/-- THE TIED CARD OF 'laws.FnExactSpaceIn'. -/
def fnExactSpaceInCard : Claim7 := { stood := { row := fnExactSpaceInRow, standIns := [], harness := (true, "eb04dcb6eaa44f046c8574988d5e23988cd0d04e9c67a99553e40fcb9d78c244"), looks := false }, kinds := [], alts := [], laidByText := true, laidKinds := [.data, .pinned], laidTests := true, laidLooks := .later }
def FnExactSpaceInCardSaid : Prop := Claim7.holds Tryd.pinned (.plain (OpenSpec.ofChange fnExactSpaceInSpec)) fnExactSpaceInCard

/-- THE TIED CARD OF 'laws.FnExactSpaceUp'. -/
def fnExactSpaceUpCard : Claim7 := { stood := { row := fnExactSpaceUpRow, standIns := [], harness := (true, "eb04dcb6eaa44f046c8574988d5e23988cd0d04e9c67a99553e40fcb9d78c244"), looks := false }, kinds := [], alts := [], laidByText := true, laidKinds := [.data, .pinned], laidTests := true, laidLooks := .later }
def FnExactSpaceUpCardSaid : Prop := Claim7.holds Tryd.pinned (.plain (OpenSpec.ofChange fnExactSpaceUpSpec)) fnExactSpaceUpCard

/-- THE TIED CARD OF 'laws.FnSpaceUp'. -/
def fnSpaceUpCard : Claim7 := { stood := { row := fnSpaceUpRow, standIns := [], harness := (true, "eb04dcb6eaa44f046c8574988d5e23988cd0d04e9c67a99553e40fcb9d78c244"), looks := false }, kinds := [], alts := [], laidByText := true, laidKinds := [.data, .pinned], laidTests := true, laidLooks := .later }
def FnSpaceUpCardSaid : Prop := Claim7.holds Tryd.pinned (.plain (OpenSpec.ofChange fnSpaceUpSpec)) fnSpaceUpCard

/-- THE TIED CARD OF 'laws.FnSpaceIn'. -/
def fnSpaceInCard : Claim7 := { stood := { row := fnSpaceInRow, standIns := [], harness := (true, "eb04dcb6eaa44f046c8574988d5e23988cd0d04e9c67a99553e40fcb9d78c244"), looks := false }, kinds := [], alts := [], laidByText := true, laidKinds := [.data, .pinned], laidTests := true, laidLooks := .later }
def FnSpaceInCardSaid : Prop := Claim7.holds Tryd.pinned (.plain (OpenSpec.ofChange fnSpaceInSpec)) fnSpaceInCard

/-- THE TIED CARD OF 'laws.FnSpaceGoing'. -/
def fnSpaceGoingCard : Claim7 := { stood := { row := fnSpaceGoingRow, standIns := [], harness := (true, "eb04dcb6eaa44f046c8574988d5e23988cd0d04e9c67a99553e40fcb9d78c244"), looks := false }, kinds := [], alts := [], laidByText := true, laidKinds := [.data, .pinned], laidTests := true, laidLooks := .later }
def FnSpaceGoingCardSaid : Prop := Claim7.holds Tryd.pinned (.plain (OpenSpec.ofChange fnSpaceGoingSpec)) fnSpaceGoingCard

/-- THE TIED CARD OF 'laws.FnUseMay'. -/
def fnUseMayCard : Claim7 := { stood := { row := fnUseMayRow, standIns := [], harness := (true, "eb04dcb6eaa44f046c8574988d5e23988cd0d04e9c67a99553e40fcb9d78c244"), looks := false }, kinds := [], alts := [], laidByText := true, laidKinds := [.data, .pinned], laidTests := true, laidLooks := .later }
def FnUseMayCardSaid : Prop := Claim7.holds Tryd.pinned (.plain (OpenSpec.ofChange fnUseMaySpec)) fnUseMayCard

/-- THE TIED CARD OF 'laws.FnUseAdd'. -/
def fnUseAddCard : Claim7 := { stood := { row := fnUseAddRow, standIns := [], harness := (true, "eb04dcb6eaa44f046c8574988d5e23988cd0d04e9c67a99553e40fcb9d78c244"), looks := false }, kinds := [], alts := [], laidByText := true, laidKinds := [.data, .pinned], laidTests := true, laidLooks := .later }
def FnUseAddCardSaid : Prop := Claim7.holds Tryd.pinned (.plain (OpenSpec.ofChange fnUseAddSpec)) fnUseAddCard

/-- THE TIED CARD OF 'laws.FnExactUseMay'. -/
def fnExactUseMayCard : Claim7 := { stood := { row := fnExactUseMayRow, standIns := [], harness := (true, "eb04dcb6eaa44f046c8574988d5e23988cd0d04e9c67a99553e40fcb9d78c244"), looks := false }, kinds := [], alts := [], laidByText := true, laidKinds := [.data, .pinned], laidTests := true, laidLooks := .later }
def FnExactUseMayCardSaid : Prop := Claim7.holds Tryd.pinned (.plain (OpenSpec.ofChange fnExactUseMaySpec)) fnExactUseMayCard

/-- THE TIED CARD OF 'laws.FnExactUseAdd'. -/
def fnExactUseAddCard : Claim7 := { stood := { row := fnExactUseAddRow, standIns := [], harness := (true, "eb04dcb6eaa44f046c8574988d5e23988cd0d04e9c67a99553e40fcb9d78c244"), looks := false }, kinds := [], alts := [], laidByText := true, laidKinds := [.data, .pinned], laidTests := true, laidLooks := .later }
def FnExactUseAddCardSaid : Prop := Claim7.holds Tryd.pinned (.plain (OpenSpec.ofChange fnExactUseAddSpec)) fnExactUseAddCard

/-- THE TIED CARD OF 'laws.FnUseSum'. -/
def fnUseSumCard : Claim7 := { stood := { row := fnUseSumRow, standIns := [], harness := (true, "eb04dcb6eaa44f046c8574988d5e23988cd0d04e9c67a99553e40fcb9d78c244"), looks := false }, kinds := [], alts := [], laidByText := true, laidKinds := [.data, .pinned], laidTests := true, laidLooks := .later }
def FnUseSumCardSaid : Prop := Claim7.holds Tryd.pinned (.plain (OpenSpec.ofChange fnUseSumSpec)) fnUseSumCard

/-- THE SECOND FORM's CARD OF 'laws.FnExactSpacesOk'. -/
def fnExactSpacesOkUptoCard : Claim7 := { stood := { row := fnExactSpacesOkUptoRow, standIns := [], harness := (true, "eb04dcb6eaa44f046c8574988d5e23988cd0d04e9c67a99553e40fcb9d78c244"), looks := false }, kinds := [], alts := [], laidByText := true, laidKinds := [.data, .pinned], laidTests := true, laidLooks := .later }
def FnExactSpacesOkUptoCardSaid : Prop := Claim7.holds Tryd.pinned (.plain (OpenSpec.upto fnExactSpacesOkSpec)) fnExactSpacesOkUptoCard

/-- THE SECOND FORM's CARD OF 'laws.FnExactSpaceGoing'. -/
def fnExactSpaceGoingUptoCard : Claim7 := { stood := { row := fnExactSpaceGoingUptoRow, standIns := [], harness := (true, "eb04dcb6eaa44f046c8574988d5e23988cd0d04e9c67a99553e40fcb9d78c244"), looks := false }, kinds := [], alts := [], laidByText := true, laidKinds := [.data, .pinned], laidTests := true, laidLooks := .later }
def FnExactSpaceGoingUptoCardSaid : Prop := Claim7.holds Tryd.pinned (.plain (OpenSpec.upto fnExactSpaceGoingSpec)) fnExactSpaceGoingUptoCard

/-- THE SECOND FORM's CARD OF 'laws.FnExactSpaceIn'. -/
def fnExactSpaceInUptoCard : Claim7 := { stood := { row := fnExactSpaceInUptoRow, standIns := [], harness := (true, "eb04dcb6eaa44f046c8574988d5e23988cd0d04e9c67a99553e40fcb9d78c244"), looks := false }, kinds := [], alts := [], laidByText := true, laidKinds := [.data, .pinned], laidTests := true, laidLooks := .later }
def FnExactSpaceInUptoCardSaid : Prop := Claim7.holds Tryd.pinned (.plain (OpenSpec.upto fnExactSpaceInSpec)) fnExactSpaceInUptoCard

/-- THE SECOND FORM's CARD OF 'laws.FnExactSpaceUp'. -/
def fnExactSpaceUpUptoCard : Claim7 := { stood := { row := fnExactSpaceUpUptoRow, standIns := [], harness := (true, "eb04dcb6eaa44f046c8574988d5e23988cd0d04e9c67a99553e40fcb9d78c244"), looks := false }, kinds := [], alts := [], laidByText := true, laidKinds := [.data, .pinned], laidTests := true, laidLooks := .later }
def FnExactSpaceUpUptoCardSaid : Prop := Claim7.holds Tryd.pinned (.plain (OpenSpec.upto fnExactSpaceUpSpec)) fnExactSpaceUpUptoCard

/-- THE SECOND FORM's CARD OF 'laws.FnSpaceUp'. -/
def fnSpaceUpUptoCard : Claim7 := { stood := { row := fnSpaceUpUptoRow, standIns := [], harness := (true, "eb04dcb6eaa44f046c8574988d5e23988cd0d04e9c67a99553e40fcb9d78c244"), looks := false }, kinds := [], alts := [], laidByText := true, laidKinds := [.data, .pinned], laidTests := true, laidLooks := .later }
def FnSpaceUpUptoCardSaid : Prop := Claim7.holds Tryd.pinned (.plain (OpenSpec.upto fnSpaceUpSpec)) fnSpaceUpUptoCard

/-- THE SECOND FORM's CARD OF 'laws.FnSpaceIn'. -/
def fnSpaceInUptoCard : Claim7 := { stood := { row := fnSpaceInUptoRow, standIns := [], harness := (true, "eb04dcb6eaa44f046c8574988d5e23988cd0d04e9c67a99553e40fcb9d78c244"), looks := false }, kinds := [], alts := [], laidByText := true, laidKinds := [.data, .pinned], laidTests := true, laidLooks := .later }
def FnSpaceInUptoCardSaid : Prop := Claim7.holds Tryd.pinned (.plain (OpenSpec.upto fnSpaceInSpec)) fnSpaceInUptoCard

/-- THE SECOND FORM's CARD OF 'laws.FnSpaceGoing'. -/
def fnSpaceGoingUptoCard : Claim7 := { stood := { row := fnSpaceGoingUptoRow, standIns := [], harness := (true, "eb04dcb6eaa44f046c8574988d5e23988cd0d04e9c67a99553e40fcb9d78c244"), looks := false }, kinds := [], alts := [], laidByText := true, laidKinds := [.data, .pinned], laidTests := true, laidLooks := .later }
def FnSpaceGoingUptoCardSaid : Prop := Claim7.holds Tryd.pinned (.plain (OpenSpec.upto fnSpaceGoingSpec)) fnSpaceGoingUptoCard

/-- THE SECOND FORM's CARD OF 'laws.FnUseMay'. -/
def fnUseMayUptoCard : Claim7 := { stood := { row := fnUseMayUptoRow, standIns := [], harness := (true, "eb04dcb6eaa44f046c8574988d5e23988cd0d04e9c67a99553e40fcb9d78c244"), looks := false }, kinds := [], alts := [], laidByText := true, laidKinds := [.data, .pinned], laidTests := true, laidLooks := .later }
def FnUseMayUptoCardSaid : Prop := Claim7.holds Tryd.pinned (.plain (OpenSpec.upto fnUseMaySpec)) fnUseMayUptoCard

/-- THE SECOND FORM's CARD OF 'laws.FnUseAdd'. -/
def fnUseAddUptoCard : Claim7 := { stood := { row := fnUseAddUptoRow, standIns := [], harness := (true, "eb04dcb6eaa44f046c8574988d5e23988cd0d04e9c67a99553e40fcb9d78c244"), looks := false }, kinds := [], alts := [], laidByText := true, laidKinds := [.data, .pinned], laidTests := true, laidLooks := .later }
def FnUseAddUptoCardSaid : Prop := Claim7.holds Tryd.pinned (.plain (OpenSpec.upto fnUseAddSpec)) fnUseAddUptoCard

/-- THE SECOND FORM's CARD OF 'laws.FnExactUseMay'. -/
def fnExactUseMayUptoCard : Claim7 := { stood := { row := fnExactUseMayUptoRow, standIns := [], harness := (true, "eb04dcb6eaa44f046c8574988d5e23988cd0d04e9c67a99553e40fcb9d78c244"), looks := false }, kinds := [], alts := [], laidByText := true, laidKinds := [.data, .pinned], laidTests := true, laidLooks := .later }
def FnExactUseMayUptoCardSaid : Prop := Claim7.holds Tryd.pinned (.plain (OpenSpec.upto fnExactUseMaySpec)) fnExactUseMayUptoCard

/-- THE SECOND FORM's CARD OF 'laws.FnExactUseAdd'. -/
def fnExactUseAddUptoCard : Claim7 := { stood := { row := fnExactUseAddUptoRow, standIns := [], harness := (true, "eb04dcb6eaa44f046c8574988d5e23988cd0d04e9c67a99553e40fcb9d78c244"), looks := false }, kinds := [], alts := [], laidByText := true, laidKinds := [.data, .pinned], laidTests := true, laidLooks := .later }
def FnExactUseAddUptoCardSaid : Prop := Claim7.holds Tryd.pinned (.plain (OpenSpec.upto fnExactUseAddSpec)) fnExactUseAddUptoCard

/-- THE SECOND FORM's CARD OF 'laws.FnUseSum'. -/
def fnUseSumUptoCard : Claim7 := { stood := { row := fnUseSumUptoRow, standIns := [], harness := (true, "eb04dcb6eaa44f046c8574988d5e23988cd0d04e9c67a99553e40fcb9d78c244"), looks := false }, kinds := [], alts := [], laidByText := true, laidKinds := [.data, .pinned], laidTests := true, laidLooks := .later }
def FnUseSumUptoCardSaid : Prop := Claim7.holds Tryd.pinned (.plain (OpenSpec.upto fnUseSumSpec)) fnUseSumUptoCard
end Rows
end Go.Proofs.YtlmpmlcjlioeaaaDoor
