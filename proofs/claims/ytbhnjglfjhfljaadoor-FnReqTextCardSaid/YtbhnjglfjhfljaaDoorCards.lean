/-
  DERIVED. GIVEN WITH THE SEED: THE CARDS: each row of YtbhnjglfjhfljaaDoorRows.lean that lists a variable, with what it lists TIED to the program's text (the seventh form; the later family's looks); each row that meets fmt, with fmt's text TOLD by the authors' own Lean function (tested against real Go, not proved from fmt's source: count such statements apart). THE CARD IS WHAT COUNTS. Prove the row's statement (the work); the ties are given (YtbhnjglfjhfljaaDoorTie.lean); close each card by the builder's one call (the guide's Derived/Test/ToyasCard.lean, 'card_holds'). Laid BY PROGRAM, IN A SANDBOX (cutbox-door.mjs). By AI agents, Wed Nov 11 2026. No macro, syntax, notation, axiom, sorry.
-/
import Derived.Test.YtbhnjglfjhfljaaDoorRows
import GoSem.ClaimSeven
namespace Go.Proofs.YtbhnjglfjhfljaaDoor
namespace Rows

/-- THE TIED CARD OF 'laws.FnReqText'. -/
def fnReqTextCard : Claim7 := { stood := { row := fnReqTextRow, standIns := [], harness := (true, "9aca204f91cf002a25c11038e86c54b91a78020320a172d455937798d4f0bf3b"), looks := true }, kinds := [], alts := [], laidByText := true, laidKinds := [.data, .data, .data, .data, .sentinel, .sentinel, .pinned], laidTests := true, laidLooks := .later }
def FnReqTextCardSaid : Prop := Claim7.holds Tryd.pinned (.plain (OpenSpec.ofChange fnReqTextSpec)) fnReqTextCard

/-- THE TIED CARD OF 'laws.FnExactReqRead'. -/
def fnExactReqReadCard : Claim7 := { stood := { row := fnExactReqReadRow, standIns := [], harness := (true, "9aca204f91cf002a25c11038e86c54b91a78020320a172d455937798d4f0bf3b"), looks := true }, kinds := [], alts := [], laidByText := true, laidKinds := [.data, .data, .data, .data, .sentinel, .sentinel, .pinned], laidTests := true, laidLooks := .later }
def FnExactReqReadCardSaid : Prop := Claim7.holds Tryd.pinned (.plain (OpenSpec.ofChange fnExactReqReadSpec)) fnExactReqReadCard

/-- THE SECOND FORM's CARD OF 'laws.FnReqText'. -/
def fnReqTextUptoCard : Claim7 := { stood := { row := fnReqTextUptoRow, standIns := [], harness := (true, "9aca204f91cf002a25c11038e86c54b91a78020320a172d455937798d4f0bf3b"), looks := true }, kinds := [], alts := [], laidByText := true, laidKinds := [.data, .data, .data, .data, .sentinel, .sentinel, .pinned], laidTests := true, laidLooks := .later }
def FnReqTextUptoCardSaid : Prop := Claim7.holds Tryd.pinned (.plain (OpenSpec.upto fnReqTextSpec)) fnReqTextUptoCard

/-- THE SECOND FORM's CARD OF 'laws.FnExactReqRead'. -/
def fnExactReqReadUptoCard : Claim7 := { stood := { row := fnExactReqReadUptoRow, standIns := [], harness := (true, "9aca204f91cf002a25c11038e86c54b91a78020320a172d455937798d4f0bf3b"), looks := true }, kinds := [], alts := [], laidByText := true, laidKinds := [.data, .data, .data, .data, .sentinel, .sentinel, .pinned], laidTests := true, laidLooks := .later }
def FnExactReqReadUptoCardSaid : Prop := Claim7.holds Tryd.pinned (.plain (OpenSpec.upto fnExactReqReadSpec)) fnExactReqReadUptoCard
end Rows
end Go.Proofs.YtbhnjglfjhfljaaDoor
