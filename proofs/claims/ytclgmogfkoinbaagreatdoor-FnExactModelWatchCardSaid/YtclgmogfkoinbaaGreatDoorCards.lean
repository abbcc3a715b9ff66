/-
  DERIVED. GIVEN WITH THE SEED: THE CARDS: each row of YtclgmogfkoinbaaGreatDoorRows.lean that lists a variable, with what it lists TIED to the program's text (the seventh form; the later family's looks); each row that meets fmt, with fmt's text TOLD by the authors' own Lean function (tested against real Go, not proved from fmt's source: count such statements apart). THE CARD IS WHAT COUNTS. Prove the row's statement (the work); the ties are given (YtclgmogfkoinbaaGreatDoorTie.lean); close each card by the builder's one call (the guide's Derived/Test/ToyasCard.lean, 'card_holds'). Laid BY PROGRAM, IN A SANDBOX (cutbox-door.mjs). By AI agents, Wed Nov 11 2026. No macro, syntax, notation, axiom, sorry.
-/
import Derived.Test.YtclgmogfkoinbaaGreatDoorRows
import GoSem.ClaimSeven
namespace Go.Proofs.YtclgmogfkoinbaaGreatDoor
namespace Rows

/-- THE TIED CARD OF 'laws.FnModelWatch'. -/
def fnModelWatchCard : Claim7 := { stood := { row := fnModelWatchRow, standIns := [], harness := (true, "91748f6b3a20f1a3b7dbceb66d16396b6fc5f5c0f02d1f90cec1227fb912a722"), looks := false }, kinds := [], alts := [], laidByText := true, laidKinds := [.data, .pinned], laidTests := true, laidLooks := .later }
def FnModelWatchCardSaid : Prop := Claim7.holds Tryz.pinned (.plain (OpenSpec.ofChange fnModelWatchSpec)) fnModelWatchCard

/-- THE TIED CARD OF 'laws.FnModelList'. -/
def fnModelListCard : Claim7 := { stood := { row := fnModelListRow, standIns := [], harness := (true, "91748f6b3a20f1a3b7dbceb66d16396b6fc5f5c0f02d1f90cec1227fb912a722"), looks := false }, kinds := [], alts := [], laidByText := true, laidKinds := [.data, .pinned], laidTests := true, laidLooks := .later }
def FnModelListCardSaid : Prop := Claim7.holds Tryz.pinned (.plain (OpenSpec.ofChange fnModelListSpec)) fnModelListCard

/-- THE TIED CARD OF 'laws.FnExactModelList'. -/
def fnExactModelListCard : Claim7 := { stood := { row := fnExactModelListRow, standIns := [], harness := (true, "91748f6b3a20f1a3b7dbceb66d16396b6fc5f5c0f02d1f90cec1227fb912a722"), looks := false }, kinds := [], alts := [], laidByText := true, laidKinds := [.data, .pinned], laidTests := true, laidLooks := .later }
def FnExactModelListCardSaid : Prop := Claim7.holds Tryz.pinned (.plain (OpenSpec.ofChange fnExactModelListSpec)) fnExactModelListCard

/-- THE TIED CARD OF 'laws.FnExactModelWatch'. -/
def fnExactModelWatchCard : Claim7 := { stood := { row := fnExactModelWatchRow, standIns := [], harness := (true, "91748f6b3a20f1a3b7dbceb66d16396b6fc5f5c0f02d1f90cec1227fb912a722"), looks := false }, kinds := [], alts := [], laidByText := true, laidKinds := [.data, .pinned], laidTests := true, laidLooks := .later }
def FnExactModelWatchCardSaid : Prop := Claim7.holds Tryz.pinned (.plain (OpenSpec.ofChange fnExactModelWatchSpec)) fnExactModelWatchCard

/-- THE SECOND FORM's CARD OF 'laws.FnModelWatch'. -/
def fnModelWatchUptoCard : Claim7 := { stood := { row := fnModelWatchUptoRow, standIns := [], harness := (true, "91748f6b3a20f1a3b7dbceb66d16396b6fc5f5c0f02d1f90cec1227fb912a722"), looks := false }, kinds := [], alts := [], laidByText := true, laidKinds := [.data, .pinned], laidTests := true, laidLooks := .later }
def FnModelWatchUptoCardSaid : Prop := Claim7.holds Tryz.pinned (.plain (OpenSpec.upto fnModelWatchSpec)) fnModelWatchUptoCard

/-- THE SECOND FORM's CARD OF 'laws.FnModelList'. -/
def fnModelListUptoCard : Claim7 := { stood := { row := fnModelListUptoRow, standIns := [], harness := (true, "91748f6b3a20f1a3b7dbceb66d16396b6fc5f5c0f02d1f90cec1227fb912a722"), looks := false }, kinds := [], alts := [], laidByText := true, laidKinds := [.data, .pinned], laidTests := true, laidLooks := .later }
def FnModelListUptoCardSaid : Prop := Claim7.holds Tryz.pinned (.plain (OpenSpec.upto fnModelListSpec)) fnModelListUptoCard

/-- THE SECOND FORM's CARD OF 'laws.FnExactModelList'. -/
def fnExactModelListUptoCard : Claim7 := { stood := { row := fnExactModelListUptoRow, standIns := [], harness := (true, "91748f6b3a20f1a3b7dbceb66d16396b6fc5f5c0f02d1f90cec1227fb912a722"), looks := false }, kinds := [], alts := [], laidByText := true, laidKinds := [.data, .pinned], laidTests := true, laidLooks := .later }
def FnExactModelListUptoCardSaid : Prop := Claim7.holds Tryz.pinned (.plain (OpenSpec.upto fnExactModelListSpec)) fnExactModelListUptoCard

/-- THE SECOND FORM's CARD OF 'laws.FnExactModelWatch'. -/
def fnExactModelWatchUptoCard : Claim7 := { stood := { row := fnExactModelWatchUptoRow, standIns := [], harness := (true, "91748f6b3a20f1a3b7dbceb66d16396b6fc5f5c0f02d1f90cec1227fb912a722"), looks := false }, kinds := [], alts := [], laidByText := true, laidKinds := [.data, .pinned], laidTests := true, laidLooks := .later }
def FnExactModelWatchUptoCardSaid : Prop := Claim7.holds Tryz.pinned (.plain (OpenSpec.upto fnExactModelWatchSpec)) fnExactModelWatchUptoCard
end Rows
end Go.Proofs.YtclgmogfkoinbaaGreatDoor
