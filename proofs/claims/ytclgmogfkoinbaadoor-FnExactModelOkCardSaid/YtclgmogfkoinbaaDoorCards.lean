/-
  DERIVED. GIVEN WITH THE SEED: THE CARDS: each row of YtclgmogfkoinbaaDoorRows.lean that lists a variable, with what it lists TIED to the program's text (the seventh form; the later family's looks); each row that meets fmt, with fmt's text TOLD by the authors' own Lean function (tested against real Go, not proved from fmt's source: count such statements apart). THE CARD IS WHAT COUNTS. Prove the row's statement (the work); the ties are given (YtclgmogfkoinbaaDoorTie.lean); close each card by the builder's one call (the guide's Derived/Test/ToyasCard.lean, 'card_holds'). Laid BY PROGRAM, IN A SANDBOX (cutbox-door.mjs). By AI agents, Wed Nov 11 2026. No macro, syntax, notation, axiom, sorry.
-/
import Derived.Test.YtclgmogfkoinbaaDoorRows
import GoSem.ClaimSeven
namespace Go.Proofs.YtclgmogfkoinbaaDoor
namespace Rows

/-- THE TIED CARD OF 'laws.FnExactModelOk'. -/
def fnExactModelOkCard : Claim7 := { stood := { row := fnExactModelOkRow, standIns := [], harness := (true, "a368ac0e265a4083e8b9a35e5b5d8d8082f17c71f85ca4fd7e55197a5507fd71"), looks := false }, kinds := [], alts := [], laidByText := true, laidKinds := [.data, .pinned], laidTests := true, laidLooks := .later }
def FnExactModelOkCardSaid : Prop := Claim7.holds Tryd.pinned (.plain (OpenSpec.ofChange fnExactModelOkSpec)) fnExactModelOkCard

/-- THE SECOND FORM's CARD OF 'laws.FnExactModelOk'. -/
def fnExactModelOkUptoCard : Claim7 := { stood := { row := fnExactModelOkUptoRow, standIns := [], harness := (true, "a368ac0e265a4083e8b9a35e5b5d8d8082f17c71f85ca4fd7e55197a5507fd71"), looks := false }, kinds := [], alts := [], laidByText := true, laidKinds := [.data, .pinned], laidTests := true, laidLooks := .later }
def FnExactModelOkUptoCardSaid : Prop := Claim7.holds Tryd.pinned (.plain (OpenSpec.upto fnExactModelOkSpec)) fnExactModelOkUptoCard
end Rows
end Go.Proofs.YtclgmogfkoinbaaDoor
