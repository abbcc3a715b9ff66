/-
  DERIVED. GIVEN WITH THE SEED: THE CARDS: each row of YtkcmbjmipncpiaaDoorRows.lean that lists a variable, with what it lists TIED to the program's text (the seventh form; the later family's looks); each row that meets fmt, with fmt's text TOLD by the authors' own Lean function (tested against real Go, not proved from fmt's source: count such statements apart). THE CARD IS WHAT COUNTS. Prove the row's statement (the work); the ties are given (YtkcmbjmipncpiaaDoorTie.lean); close each card by the builder's one call (the guide's Derived/Test/ToyasCard.lean, 'card_holds'). Laid BY PROGRAM, IN A SANDBOX (cutbox-door.mjs). By AI agents, Wed Nov 11 2026. No macro, syntax, notation, axiom, sorry.
-/
import Derived.Test.YtkcmbjmipncpiaaDoorRows
import GoSem.ClaimSeven
namespace Go.Proofs.YtkcmbjmipncpiaaDoor
namespace Rows

/-- THE TIED CARD OF 'laws.FnExactUseSum'. -/
def fnExactUseSumCard : Claim7 := { stood := { row := fnExactUseSumRow, standIns := [], harness := (true, "3c5b6b4618c2780362c90b851e41f01c3b715315f7f1f7eabb24380598e4727b"), looks := true }, kinds := [], alts := [], laidByText := true, laidKinds := [.data, .pinned], laidTests := true, laidLooks := .later }
def FnExactUseSumCardSaid : Prop := Claim7.holds Tryd.pinned (.plain (OpenSpec.ofChange fnExactUseSumSpec)) fnExactUseSumCard

/-- THE TIED CARD OF 'laws.FnWireText'. -/
def fnWireTextCard : Claim7 := { stood := { row := fnWireTextRow, standIns := [], harness := (true, "3c5b6b4618c2780362c90b851e41f01c3b715315f7f1f7eabb24380598e4727b"), looks := true }, kinds := [], alts := [], laidByText := true, laidKinds := [.data, .data, .data, .data, .sentinel, .sentinel, .pinned], laidTests := true, laidLooks := .later }
def FnWireTextCardSaid : Prop := Claim7.holds Tryd.pinned (.plain (OpenSpec.ofChange fnWireTextSpec)) fnWireTextCard

/-- THE SECOND FORM's CARD OF 'laws.FnExactUseSum'. -/
def fnExactUseSumUptoCard : Claim7 := { stood := { row := fnExactUseSumUptoRow, standIns := [], harness := (true, "3c5b6b4618c2780362c90b851e41f01c3b715315f7f1f7eabb24380598e4727b"), looks := true }, kinds := [], alts := [], laidByText := true, laidKinds := [.data, .pinned], laidTests := true, laidLooks := .later }
def FnExactUseSumUptoCardSaid : Prop := Claim7.holds Tryd.pinned (.plain (OpenSpec.upto fnExactUseSumSpec)) fnExactUseSumUptoCard

/-- THE SECOND FORM's CARD OF 'laws.FnWireText'. -/
def fnWireTextUptoCard : Claim7 := { stood := { row := fnWireTextUptoRow, standIns := [], harness := (true, "3c5b6b4618c2780362c90b851e41f01c3b715315f7f1f7eabb24380598e4727b"), looks := true }, kinds := [], alts := [], laidByText := true, laidKinds := [.data, .data, .data, .data, .sentinel, .sentinel, .pinned], laidTests := true, laidLooks := .later }
def FnWireTextUptoCardSaid : Prop := Claim7.holds Tryd.pinned (.plain (OpenSpec.upto fnWireTextSpec)) fnWireTextUptoCard
end Rows
end Go.Proofs.YtkcmbjmipncpiaaDoor
