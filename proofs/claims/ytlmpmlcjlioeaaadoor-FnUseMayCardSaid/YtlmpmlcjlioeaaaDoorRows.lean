/-
  NARROWER THAN 'FOR EVERY INPUT', by the rows' own cells (each row's printed sentence says how): FnExactSpacesOk: laid · FnExactSpaceGoing: laid · FnExactSpaceIn: laid · FnExactSpaceUp: laid · FnSpaceUp: laid · FnSpaceIn: laid · FnSpaceGoing: laid · FnUseMay: laid · FnUseAdd: laid · FnExactUseMay: laid · FnExactUseAdd: laid · FnUseSum: laid.
  DERIVED. THE GIVEN ROWS OF THIS SEAT. 12 by the template 'for every input the law returns true; each argument reads behind the call as it read before'; 0 by the template 'total and deterministic' (their statements: YtlmpmlcjlioeaaaDoorTotals.lean).
  GIVEN WITH THE SEED: the statements are not yours to turn. If you find one false, say at which input.
  Laid BY PROGRAM, IN A SANDBOX (cutbox-rows.mjs): the forced cells as the released guide's own fill.sh prints them over the translation b186489da811a393… (all of the seat's roots in one cut). By AI agents, Wed Nov 11 2026. No macro, syntax, notation, axiom, sorry.
-/
import Derived.Test.YtlmpmlcjlioeaaaDoorChecked
import GoSem.PinnedTables
import GoSem.Claim
import GoSem.ClaimJoined
import GoSem.ClaimMapViews
import Derived.JoinedTies
import Derived.KernelRfl
namespace Go.Proofs.YtlmpmlcjlioeaaaDoor
/- THE CELL 'sum', in the pinned program and in every row, IS THE sha256 OF THE DUMP (.gsa) THAT YtlmpmlcjlioeaaaDoorProg.lean LOADS. Nothing in Lean hashes anything: it is a label: what it is worth is what the hold of that sum in a sandbox is worth. -/
noncomputable def Tryd.pinned : Pinned := { name := "ytlmpmlcjlioeaaadoor", sum := "b186489da811a393e15418580b8cb1c2de9852def0517c406fec31b03490512a", checked := Tryd.checked }
namespace Rows
def none {H : Type} : Left H := { results := [], args := [] }

/- WHAT THE LISTED PACKAGE-LEVEL VARIABLES READ AS WHEN THE CALL BEGINS. Each datum BY PROGRAM (the guide's laid-datum.mjs) off the statement by which the dump's own 'gosem.cut.vars' lays the variable. In a bare row this is a premise. The card (YtlmpmlcjlioeaaaDoorCards.lean) ties it to the program's text. -/
def laid_unicode_utf8_acceptRanges {H : Type} : DataW H := .agg [.agg [.lit (.int .u8 128), .lit (.int .u8 191)], .agg [.lit (.int .u8 160), .lit (.int .u8 191)], .agg [.lit (.int .u8 128), .lit (.int .u8 159)], .agg [.lit (.int .u8 144), .lit (.int .u8 191)], .agg [.lit (.int .u8 128), .lit (.int .u8 143)], .agg [.lit (.int .u8 0), .lit (.int .u8 0)], .agg [.lit (.int .u8 0), .lit (.int .u8 0)], .agg [.lit (.int .u8 0), .lit (.int .u8 0)], .agg [.lit (.int .u8 0), .lit (.int .u8 0)], .agg [.lit (.int .u8 0), .lit (.int .u8 0)], .agg [.lit (.int .u8 0), .lit (.int .u8 0)], .agg [.lit (.int .u8 0), .lit (.int .u8 0)], .agg [.lit (.int .u8 0), .lit (.int .u8 0)], .agg [.lit (.int .u8 0), .lit (.int .u8 0)], .agg [.lit (.int .u8 0), .lit (.int .u8 0)], .agg [.lit (.int .u8 0), .lit (.int .u8 0)]]
/-- One of Go's own tables, pinned by name: the form's constant. -/
def laid_unicode_utf8_first : DataW Unit := Go.Pinned.utf8First

/-- 'laws.FnExactSpacesOk': WHATEVER THE INPUT: true; the input reads as it did. -/
def fnExactSpacesOkSpec : ChangeSpec := { name := "fnExactSpacesOk", fn := fun _ => fun
  | [d] => { results := [.lit (.bool true)], args := [d] }
  | _ => none }
def fnExactSpacesOkRow : OpenClaim := { program := "ytlmpmlcjlioeaaadoor", sum := "b186489da811a393e15418580b8cb1c2de9852def0517c406fec31b03490512a", func := "loop.example/muniment/laws.FnExactSpacesOk", spec := "fnExactSpacesOk", inPlace := ["internal/bytealg.IndexByteString", "internal/bytealg.IndexString"], unfollowed := true, recurses := true, named := ["unicode/utf8.first", "unicode/utf8.acceptRanges", "internal/bytealg.MaxLen"], apart := false, laid := [("unicode/utf8.acceptRanges", laid_unicode_utf8_acceptRanges), ("unicode/utf8.first", laid_unicode_utf8_first)] }
def FnExactSpacesOkSaid : Prop := fnExactSpacesOkRow.holds Tryd.pinned (OpenSpec.ofChange fnExactSpacesOkSpec)

/-- ITS FALSE NEIGHBOUR: 'it returns false'. Refute it at one input. -/
def fnExactSpacesOkWrong : ChangeSpec := { name := "fnExactSpacesOk", fn := fun _ => fun
  | [d] => { results := [.lit (.bool false)], args := [d] }
  | _ => none }
def FnExactSpacesOkWrongFalsely : Prop := fnExactSpacesOkRow.holds Tryd.pinned (OpenSpec.ofChange fnExactSpacesOkWrong)

/-- 'laws.FnExactSpaceGoing': WHATEVER THE INPUT: true; the input reads as it did. -/
def fnExactSpaceGoingSpec : ChangeSpec := { name := "fnExactSpaceGoing", fn := fun _ => fun
  | [d1, d2] => { results := [.lit (.bool true)], args := [d1, d2] }
  | _ => none }
def fnExactSpaceGoingRow : OpenClaim := { program := "ytlmpmlcjlioeaaadoor", sum := "b186489da811a393e15418580b8cb1c2de9852def0517c406fec31b03490512a", func := "loop.example/muniment/laws.FnExactSpaceGoing", spec := "fnExactSpaceGoing", inPlace := ["internal/bytealg.IndexByteString", "internal/bytealg.IndexString"], unfollowed := true, recurses := true, named := ["unicode/utf8.first", "unicode/utf8.acceptRanges", "internal/bytealg.MaxLen"], apart := false, laid := [("unicode/utf8.acceptRanges", laid_unicode_utf8_acceptRanges), ("unicode/utf8.first", laid_unicode_utf8_first)] }
def FnExactSpaceGoingSaid : Prop := fnExactSpaceGoingRow.holds Tryd.pinned (OpenSpec.ofChange fnExactSpaceGoingSpec)

/-- ITS FALSE NEIGHBOUR: 'it returns false'. Refute it at one input. -/
def fnExactSpaceGoingWrong : ChangeSpec := { name := "fnExactSpaceGoing", fn := fun _ => fun
  | [d1, d2] => { results := [.lit (.bool false)], args := [d1, d2] }
  | _ => none }
def FnExactSpaceGoingWrongFalsely : Prop := fnExactSpaceGoingRow.holds Tryd.pinned (OpenSpec.ofChange fnExactSpaceGoingWrong)

/-- 'laws.FnExactSpaceIn': WHATEVER THE INPUT: true; the input reads as it did. -/
def fnExactSpaceInSpec : ChangeSpec := { name := "fnExactSpaceIn", fn := fun _ => fun
  | [d1, d2, d3] => { results := [.lit (.bool true)], args := [d1, d2, d3] }
  | _ => none }
def fnExactSpaceInRow : OpenClaim := { program := "ytlmpmlcjlioeaaadoor", sum := "b186489da811a393e15418580b8cb1c2de9852def0517c406fec31b03490512a", func := "loop.example/muniment/laws.FnExactSpaceIn", spec := "fnExactSpaceIn", inPlace := ["internal/bytealg.IndexByteString", "internal/bytealg.IndexString"], unfollowed := true, recurses := true, named := ["unicode/utf8.first", "unicode/utf8.acceptRanges", "internal/bytealg.MaxLen"], apart := false, laid := [("unicode/utf8.acceptRanges", laid_unicode_utf8_acceptRanges), ("unicode/utf8.first", laid_unicode_utf8_first)] }
def FnExactSpaceInSaid : Prop := fnExactSpaceInRow.holds Tryd.pinned (OpenSpec.ofChange fnExactSpaceInSpec)

/-- ITS FALSE NEIGHBOUR: 'it returns false'. Refute it at one input. -/
def fnExactSpaceInWrong : ChangeSpec := { name := "fnExactSpaceIn", fn := fun _ => fun
  | [d1, d2, d3] => { results := [.lit (.bool false)], args := [d1, d2, d3] }
  | _ => none }
def FnExactSpaceInWrongFalsely : Prop := fnExactSpaceInRow.holds Tryd.pinned (OpenSpec.ofChange fnExactSpaceInWrong)

/-- 'laws.FnExactSpaceUp': WHATEVER THE INPUT: true; the input reads as it did. -/
def fnExactSpaceUpSpec : ChangeSpec := { name := "fnExactSpaceUp", fn := fun _ => fun
  | [d1, d2] => { results := [.lit (.bool true)], args := [d1, d2] }
  | _ => none }
def fnExactSpaceUpRow : OpenClaim := { program := "ytlmpmlcjlioeaaadoor", sum := "b186489da811a393e15418580b8cb1c2de9852def0517c406fec31b03490512a", func := "loop.example/muniment/laws.FnExactSpaceUp", spec := "fnExactSpaceUp", inPlace := ["internal/bytealg.IndexByteString", "internal/bytealg.IndexString"], unfollowed := true, recurses := true, named := ["unicode/utf8.first", "unicode/utf8.acceptRanges", "internal/bytealg.MaxLen"], apart := false, laid := [("unicode/utf8.acceptRanges", laid_unicode_utf8_acceptRanges), ("unicode/utf8.first", laid_unicode_utf8_first)] }
def FnExactSpaceUpSaid : Prop := fnExactSpaceUpRow.holds Tryd.pinned (OpenSpec.ofChange fnExactSpaceUpSpec)

/-- ITS FALSE NEIGHBOUR: 'it returns false'. Refute it at one input. -/
def fnExactSpaceUpWrong : ChangeSpec := { name := "fnExactSpaceUp", fn := fun _ => fun
  | [d1, d2] => { results := [.lit (.bool false)], args := [d1, d2] }
  | _ => none }
def FnExactSpaceUpWrongFalsely : Prop := fnExactSpaceUpRow.holds Tryd.pinned (OpenSpec.ofChange fnExactSpaceUpWrong)

/-- 'laws.FnSpaceUp': WHATEVER THE INPUT: true; the input reads as it did. -/
def fnSpaceUpSpec : ChangeSpec := { name := "fnSpaceUp", fn := fun _ => fun
  | [d] => { results := [.lit (.bool true)], args := [d] }
  | _ => none }
def fnSpaceUpRow : OpenClaim := { program := "ytlmpmlcjlioeaaadoor", sum := "b186489da811a393e15418580b8cb1c2de9852def0517c406fec31b03490512a", func := "loop.example/muniment/laws.FnSpaceUp", spec := "fnSpaceUp", inPlace := ["internal/bytealg.IndexByteString", "internal/bytealg.IndexString"], unfollowed := true, recurses := true, named := ["unicode/utf8.first", "unicode/utf8.acceptRanges", "internal/bytealg.MaxLen"], apart := false, laid := [("unicode/utf8.acceptRanges", laid_unicode_utf8_acceptRanges), ("unicode/utf8.first", laid_unicode_utf8_first)] }
def FnSpaceUpSaid : Prop := fnSpaceUpRow.holds Tryd.pinned (OpenSpec.ofChange fnSpaceUpSpec)

/-- ITS FALSE NEIGHBOUR: 'it returns false'. Refute it at one input. -/
def fnSpaceUpWrong : ChangeSpec := { name := "fnSpaceUp", fn := fun _ => fun
  | [d] => { results := [.lit (.bool false)], args := [d] }
  | _ => none }
def FnSpaceUpWrongFalsely : Prop := fnSpaceUpRow.holds Tryd.pinned (OpenSpec.ofChange fnSpaceUpWrong)

/-- 'laws.FnSpaceIn': WHATEVER THE INPUT: true; the input reads as it did. -/
def fnSpaceInSpec : ChangeSpec := { name := "fnSpaceIn", fn := fun _ => fun
  | [d1, d2] => { results := [.lit (.bool true)], args := [d1, d2] }
  | _ => none }
def fnSpaceInRow : OpenClaim := { program := "ytlmpmlcjlioeaaadoor", sum := "b186489da811a393e15418580b8cb1c2de9852def0517c406fec31b03490512a", func := "loop.example/muniment/laws.FnSpaceIn", spec := "fnSpaceIn", inPlace := ["internal/bytealg.IndexByteString", "internal/bytealg.IndexString"], unfollowed := true, recurses := true, named := ["unicode/utf8.first", "unicode/utf8.acceptRanges", "internal/bytealg.MaxLen"], apart := false, laid := [("unicode/utf8.acceptRanges", laid_unicode_utf8_acceptRanges), ("unicode/utf8.first", laid_unicode_utf8_first)] }
def FnSpaceInSaid : Prop := fnSpaceInRow.holds Tryd.pinned (OpenSpec.ofChange fnSpaceInSpec)

/-- ITS FALSE NEIGHBOUR: 'it returns false'. Refute it at one input. -/
def fnSpaceInWrong : ChangeSpec := { name := "fnSpaceIn", fn := fun _ => fun
  | [d1, d2] => { results := [.lit (.bool false)], args := [d1, d2] }
  | _ => none }
def FnSpaceInWrongFalsely : Prop := fnSpaceInRow.holds Tryd.pinned (OpenSpec.ofChange fnSpaceInWrong)

/-- 'laws.FnSpaceGoing': WHATEVER THE INPUT: true; the input reads as it did. -/
def fnSpaceGoingSpec : ChangeSpec := { name := "fnSpaceGoing", fn := fun _ => fun
  | [d] => { results := [.lit (.bool true)], args := [d] }
  | _ => none }
def fnSpaceGoingRow : OpenClaim := { program := "ytlmpmlcjlioeaaadoor", sum := "b186489da811a393e15418580b8cb1c2de9852def0517c406fec31b03490512a", func := "loop.example/muniment/laws.FnSpaceGoing", spec := "fnSpaceGoing", inPlace := ["internal/bytealg.IndexByteString", "internal/bytealg.IndexString"], unfollowed := true, recurses := true, named := ["unicode/utf8.first", "unicode/utf8.acceptRanges", "internal/bytealg.MaxLen"], apart := false, laid := [("unicode/utf8.acceptRanges", laid_unicode_utf8_acceptRanges), ("unicode/utf8.first", laid_unicode_utf8_first)] }
def FnSpaceGoingSaid : Prop := fnSpaceGoingRow.holds Tryd.pinned (OpenSpec.ofChange fnSpaceGoingSpec)

/-- ITS FALSE NEIGHBOUR: 'it returns false'. Refute it at one input. -/
def fnSpaceGoingWrong : ChangeSpec := { name := "fnSpaceGoing", fn := fun _ => fun
  | [d] => { results := [.lit (.bool false)], args := [d] }
  | _ => none }
def FnSpaceGoingWrongFalsely : Prop := fnSpaceGoingRow.holds Tryd.pinned (OpenSpec.ofChange fnSpaceGoingWrong)

/-- 'laws.FnUseMay': WHATEVER THE INPUT: true; the input reads as it did. -/
def fnUseMaySpec : ChangeSpec := { name := "fnUseMay", fn := fun _ => fun
  | [d] => { results := [.lit (.bool true)], args := [d] }
  | _ => none }
def fnUseMayRow : OpenClaim := { program := "ytlmpmlcjlioeaaadoor", sum := "b186489da811a393e15418580b8cb1c2de9852def0517c406fec31b03490512a", func := "loop.example/muniment/laws.FnUseMay", spec := "fnUseMay", inPlace := ["internal/bytealg.IndexByteString", "internal/bytealg.IndexString"], unfollowed := true, recurses := true, named := ["unicode/utf8.first", "unicode/utf8.acceptRanges", "internal/bytealg.MaxLen"], apart := false, laid := [("unicode/utf8.acceptRanges", laid_unicode_utf8_acceptRanges), ("unicode/utf8.first", laid_unicode_utf8_first)] }
def FnUseMaySaid : Prop := fnUseMayRow.holds Tryd.pinned (OpenSpec.ofChange fnUseMaySpec)

/-- ITS FALSE NEIGHBOUR: 'it returns false'. Refute it at one input. -/
def fnUseMayWrong : ChangeSpec := { name := "fnUseMay", fn := fun _ => fun
  | [d] => { results := [.lit (.bool false)], args := [d] }
  | _ => none }
def FnUseMayWrongFalsely : Prop := fnUseMayRow.holds Tryd.pinned (OpenSpec.ofChange fnUseMayWrong)

/-- 'laws.FnUseAdd': WHATEVER THE INPUT: true; the input reads as it did. -/
def fnUseAddSpec : ChangeSpec := { name := "fnUseAdd", fn := fun _ => fun
  | [d] => { results := [.lit (.bool true)], args := [d] }
  | _ => none }
def fnUseAddRow : OpenClaim := { program := "ytlmpmlcjlioeaaadoor", sum := "b186489da811a393e15418580b8cb1c2de9852def0517c406fec31b03490512a", func := "loop.example/muniment/laws.FnUseAdd", spec := "fnUseAdd", inPlace := ["internal/bytealg.IndexByteString", "internal/bytealg.IndexString"], unfollowed := true, recurses := true, named := ["unicode/utf8.first", "unicode/utf8.acceptRanges", "internal/bytealg.MaxLen"], apart := false, laid := [("unicode/utf8.acceptRanges", laid_unicode_utf8_acceptRanges), ("unicode/utf8.first", laid_unicode_utf8_first)] }
def FnUseAddSaid : Prop := fnUseAddRow.holds Tryd.pinned (OpenSpec.ofChange fnUseAddSpec)

/-- ITS FALSE NEIGHBOUR: 'it returns false'. Refute it at one input. -/
def fnUseAddWrong : ChangeSpec := { name := "fnUseAdd", fn := fun _ => fun
  | [d] => { results := [.lit (.bool false)], args := [d] }
  | _ => none }
def FnUseAddWrongFalsely : Prop := fnUseAddRow.holds Tryd.pinned (OpenSpec.ofChange fnUseAddWrong)

/-- 'laws.FnExactUseMay': WHATEVER THE INPUT: true; the input reads as it did. -/
def fnExactUseMaySpec : ChangeSpec := { name := "fnExactUseMay", fn := fun _ => fun
  | [d1, d2, d3, d4] => { results := [.lit (.bool true)], args := [d1, d2, d3, d4] }
  | _ => none }
def fnExactUseMayRow : OpenClaim := { program := "ytlmpmlcjlioeaaadoor", sum := "b186489da811a393e15418580b8cb1c2de9852def0517c406fec31b03490512a", func := "loop.example/muniment/laws.FnExactUseMay", spec := "fnExactUseMay", inPlace := ["internal/bytealg.IndexByteString", "internal/bytealg.IndexString"], unfollowed := true, recurses := true, named := ["unicode/utf8.first", "unicode/utf8.acceptRanges", "internal/bytealg.MaxLen"], apart := false, laid := [("unicode/utf8.acceptRanges", laid_unicode_utf8_acceptRanges), ("unicode/utf8.first", laid_unicode_utf8_first)] }
def FnExactUseMaySaid : Prop := fnExactUseMayRow.holds Tryd.pinned (OpenSpec.ofChange fnExactUseMaySpec)

/-- ITS FALSE NEIGHBOUR: 'it returns false'. Refute it at one input. -/
def fnExactUseMayWrong : ChangeSpec := { name := "fnExactUseMay", fn := fun _ => fun
  | [d1, d2, d3, d4] => { results := [.lit (.bool false)], args := [d1, d2, d3, d4] }
  | _ => none }
def FnExactUseMayWrongFalsely : Prop := fnExactUseMayRow.holds Tryd.pinned (OpenSpec.ofChange fnExactUseMayWrong)

/-- 'laws.FnExactUseAdd': WHATEVER THE INPUT: true; the input reads as it did. -/
def fnExactUseAddSpec : ChangeSpec := { name := "fnExactUseAdd", fn := fun _ => fun
  | [d1, d2, d3, d4] => { results := [.lit (.bool true)], args := [d1, d2, d3, d4] }
  | _ => none }
def fnExactUseAddRow : OpenClaim := { program := "ytlmpmlcjlioeaaadoor", sum := "b186489da811a393e15418580b8cb1c2de9852def0517c406fec31b03490512a", func := "loop.example/muniment/laws.FnExactUseAdd", spec := "fnExactUseAdd", inPlace := ["internal/bytealg.IndexByteString", "internal/bytealg.IndexString"], unfollowed := true, recurses := true, named := ["unicode/utf8.first", "unicode/utf8.acceptRanges", "internal/bytealg.MaxLen"], apart := false, laid := [("unicode/utf8.acceptRanges", laid_unicode_utf8_acceptRanges), ("unicode/utf8.first", laid_unicode_utf8_first)] }
def FnExactUseAddSaid : Prop := fnExactUseAddRow.holds Tryd.pinned (OpenSpec.ofChange fnExactUseAddSpec)

/-- ITS FALSE NEIGHBOUR: 'it returns false'. Refute it at one input. -/
def fnExactUseAddWrong : ChangeSpec := { name := "fnExactUseAdd", fn := fun _ => fun
  | [d1, d2, d3, d4] => { results := [.lit (.bool false)], args := [d1, d2, d3, d4] }
  | _ => none }
def FnExactUseAddWrongFalsely : Prop := fnExactUseAddRow.holds Tryd.pinned (OpenSpec.ofChange fnExactUseAddWrong)

/-- 'laws.FnUseSum': WHATEVER THE INPUT: true; the input reads as it did. -/
def fnUseSumSpec : ChangeSpec := { name := "fnUseSum", fn := fun _ => fun
  | [d] => { results := [.lit (.bool true)], args := [d] }
  | _ => none }
def fnUseSumRow : OpenClaim := { program := "ytlmpmlcjlioeaaadoor", sum := "b186489da811a393e15418580b8cb1c2de9852def0517c406fec31b03490512a", func := "loop.example/muniment/laws.FnUseSum", spec := "fnUseSum", inPlace := ["internal/bytealg.IndexByteString", "internal/bytealg.IndexString"], unfollowed := true, recurses := true, named := ["unicode/utf8.first", "unicode/utf8.acceptRanges", "internal/bytealg.MaxLen"], apart := false, laid := [("unicode/utf8.acceptRanges", laid_unicode_utf8_acceptRanges), ("unicode/utf8.first", laid_unicode_utf8_first)] }
def FnUseSumSaid : Prop := fnUseSumRow.holds Tryd.pinned (OpenSpec.ofChange fnUseSumSpec)

/-- ITS FALSE NEIGHBOUR: 'it returns false'. Refute it at one input. -/
def fnUseSumWrong : ChangeSpec := { name := "fnUseSum", fn := fun _ => fun
  | [d] => { results := [.lit (.bool false)], args := [d] }
  | _ => none }
def FnUseSumWrongFalsely : Prop := fnUseSumRow.holds Tryd.pinned (OpenSpec.ofChange fnUseSumWrong)

/- THE SECOND FORM. 'bulk': how many values and letters a reading holds, each counted each time it is reached (what is shared counts as often as it is met; a slice's spare places count too). A statement '..UptoSaid' is the law's where the arguments, and the package variables that the reading takes, are together of bulk at most 1048576: NARROWER than '..Said'. Prove '..Said' where nothing that the law and all that it calls make is longer than what came in: it says more and counts as full. Else prove '..UptoSaid'. A law counts once. -/
mutual
def uptoBulk {H : Type} : DataW H → Nat
  | .lit (.string bytes) => bytes.length + 1
  | .lit _ => 1
  | .nil => 1
  | .ptr d => uptoBulk d + 1
  | .slice elems spare => uptoBulkAll elems + uptoBulkAll spare + 1
  | .agg parts => uptoBulkAll parts + 1
  | .iface _ d => uptoBulk d + 1
  | .map entries => uptoBulkEntries entries + 1
  | .held _ => 1
def uptoBulkAll {H : Type} : List (DataW H) → Nat
  | [] => 0
  | d :: r => uptoBulk d + uptoBulkAll r
def uptoBulkEntries {H : Type} : List (Lit × DataW H) → Nat
  | [] => 0
  | x :: r => uptoBulkEntry x + uptoBulkEntries r
def uptoBulkEntry {H : Type} : Lit × DataW H → Nat
  | (.string bytes, d) => bytes.length + uptoBulk d + 1
  | (_, d) => uptoBulk d + 1
 end
def uptoSmall : (H : Type) → List (DataW H) → Bool := fun _ ds => decide (uptoBulkAll ds ≤ 1048576)
def OpenSpec.upto (s : _root_.Go.ChangeSpec) : _root_.Go.OpenSpec := { _root_.Go.OpenSpec.ofChange s with cond := some uptoSmall }

/-- 'laws.FnExactSpacesOk', WHERE WHAT IT READS IS OF BULK AT MOST 1048576: true; the input reads as it did. -/
def fnExactSpacesOkUptoRow : OpenClaim := { program := "ytlmpmlcjlioeaaadoor", sum := "b186489da811a393e15418580b8cb1c2de9852def0517c406fec31b03490512a", func := "loop.example/muniment/laws.FnExactSpacesOk", spec := "fnExactSpacesOk", inPlace := ["internal/bytealg.IndexByteString", "internal/bytealg.IndexString"], unfollowed := true, recurses := true, named := ["unicode/utf8.first", "unicode/utf8.acceptRanges", "internal/bytealg.MaxLen"], apart := false, laid := [("unicode/utf8.acceptRanges", laid_unicode_utf8_acceptRanges), ("unicode/utf8.first", laid_unicode_utf8_first)], narrowed := true }
def FnExactSpacesOkUptoSaid : Prop := fnExactSpacesOkUptoRow.holds Tryd.pinned (OpenSpec.upto fnExactSpacesOkSpec)

/-- 'laws.FnExactSpaceGoing', WHERE WHAT IT READS IS OF BULK AT MOST 1048576: true; the input reads as it did. -/
def fnExactSpaceGoingUptoRow : OpenClaim := { program := "ytlmpmlcjlioeaaadoor", sum := "b186489da811a393e15418580b8cb1c2de9852def0517c406fec31b03490512a", func := "loop.example/muniment/laws.FnExactSpaceGoing", spec := "fnExactSpaceGoing", inPlace := ["internal/bytealg.IndexByteString", "internal/bytealg.IndexString"], unfollowed := true, recurses := true, named := ["unicode/utf8.first", "unicode/utf8.acceptRanges", "internal/bytealg.MaxLen"], apart := false, laid := [("unicode/utf8.acceptRanges", laid_unicode_utf8_acceptRanges), ("unicode/utf8.first", laid_unicode_utf8_first)], narrowed := true }
def FnExactSpaceGoingUptoSaid : Prop := fnExactSpaceGoingUptoRow.holds Tryd.pinned (OpenSpec.upto fnExactSpaceGoingSpec)

/-- 'laws.FnExactSpaceIn', WHERE WHAT IT READS IS OF BULK AT MOST 1048576: true; the input reads as it did. -/
def fnExactSpaceInUptoRow : OpenClaim := { program := "ytlmpmlcjlioeaaadoor", sum := "b186489da811a393e15418580b8cb1c2de9852def0517c406fec31b03490512a", func := "loop.example/muniment/laws.FnExactSpaceIn", spec := "fnExactSpaceIn", inPlace := ["internal/bytealg.IndexByteString", "internal/bytealg.IndexString"], unfollowed := true, recurses := true, named := ["unicode/utf8.first", "unicode/utf8.acceptRanges", "internal/bytealg.MaxLen"], apart := false, laid := [("unicode/utf8.acceptRanges", laid_unicode_utf8_acceptRanges), ("unicode/utf8.first", laid_unicode_utf8_first)], narrowed := true }
def FnExactSpaceInUptoSaid : Prop := fnExactSpaceInUptoRow.holds Tryd.pinned (OpenSpec.upto fnExactSpaceInSpec)

/-- 'laws.FnExactSpaceUp', WHERE WHAT IT READS IS OF BULK AT MOST 1048576: true; the input reads as it did. -/
def fnExactSpaceUpUptoRow : OpenClaim := { program := "ytlmpmlcjlioeaaadoor", sum := "b186489da811a393e15418580b8cb1c2de9852def0517c406fec31b03490512a", func := "loop.example/muniment/laws.FnExactSpaceUp", spec := "fnExactSpaceUp", inPlace := ["internal/bytealg.IndexByteString", "internal/bytealg.IndexString"], unfollowed := true, recurses := true, named := ["unicode/utf8.first", "unicode/utf8.acceptRanges", "internal/bytealg.MaxLen"], apart := false, laid := [("unicode/utf8.acceptRanges", laid_unicode_utf8_acceptRanges), ("unicode/utf8.first", laid_unicode_utf8_first)], narrowed := true }
def FnExactSpaceUpUptoSaid : Prop := fnExactSpaceUpUptoRow.holds Tryd.pinned (OpenSpec.upto fnExactSpaceUpSpec)

/-- 'laws.FnSpaceUp', WHERE WHAT IT READS IS OF BULK AT MOST 1048576: true; the input reads as it did. -/
def fnSpaceUpUptoRow : OpenClaim := { program := "ytlmpmlcjlioeaaadoor", sum := "b186489da811a393e15418580b8cb1c2de9852def0517c406fec31b03490512a", func := "loop.example/muniment/laws.FnSpaceUp", spec := "fnSpaceUp", inPlace := ["internal/bytealg.IndexByteString", "internal/bytealg.IndexString"], unfollowed := true, recurses := true, named := ["unicode/utf8.first", "unicode/utf8.acceptRanges", "internal/bytealg.MaxLen"], apart := false, laid := [("unicode/utf8.acceptRanges", laid_unicode_utf8_acceptRanges), ("unicode/utf8.first", laid_unicode_utf8_first)], narrowed := true }
def FnSpaceUpUptoSaid : Prop := fnSpaceUpUptoRow.holds Tryd.pinned (OpenSpec.upto fnSpaceUpSpec)

/-- 'laws.FnSpaceIn', WHERE WHAT IT READS IS OF BULK AT MOST 1048576: true; the input reads as it did. -/
def fnSpaceInUptoRow : OpenClaim := { program := "ytlmpmlcjlioeaaadoor", sum := "b186489da811a393e15418580b8cb1c2de9852def0517c406fec31b03490512a", func := "loop.example/muniment/laws.FnSpaceIn", spec := "fnSpaceIn", inPlace := ["internal/bytealg.IndexByteString", "internal/bytealg.IndexString"], unfollowed := true, recurses := true, named := ["unicode/utf8.first", "unicode/utf8.acceptRanges", "internal/bytealg.MaxLen"], apart := false, laid := [("unicode/utf8.acceptRanges", laid_unicode_utf8_acceptRanges), ("unicode/utf8.first", laid_unicode_utf8_first)], narrowed := true }
def FnSpaceInUptoSaid : Prop := fnSpaceInUptoRow.holds Tryd.pinned (OpenSpec.upto fnSpaceInSpec)

/-- 'laws.FnSpaceGoing', WHERE WHAT IT READS IS OF BULK AT MOST 1048576: true; the input reads as it did. -/
def fnSpaceGoingUptoRow : OpenClaim := { program := "ytlmpmlcjlioeaaadoor", sum := "b186489da811a393e15418580b8cb1c2de9852def0517c406fec31b03490512a", func := "loop.example/muniment/laws.FnSpaceGoing", spec := "fnSpaceGoing", inPlace := ["internal/bytealg.IndexByteString", "internal/bytealg.IndexString"], unfollowed := true, recurses := true, named := ["unicode/utf8.first", "unicode/utf8.acceptRanges", "internal/bytealg.MaxLen"], apart := false, laid := [("unicode/utf8.acceptRanges", laid_unicode_utf8_acceptRanges), ("unicode/utf8.first", laid_unicode_utf8_first)], narrowed := true }
def FnSpaceGoingUptoSaid : Prop := fnSpaceGoingUptoRow.holds Tryd.pinned (OpenSpec.upto fnSpaceGoingSpec)

/-- 'laws.FnUseMay', WHERE WHAT IT READS IS OF BULK AT MOST 1048576: true; the input reads as it did. -/
def fnUseMayUptoRow : OpenClaim := { program := "ytlmpmlcjlioeaaadoor", sum := "b186489da811a393e15418580b8cb1c2de9852def0517c406fec31b03490512a", func := "loop.example/muniment/laws.FnUseMay", spec := "fnUseMay", inPlace := ["internal/bytealg.IndexByteString", "internal/bytealg.IndexString"], unfollowed := true, recurses := true, named := ["unicode/utf8.first", "unicode/utf8.acceptRanges", "internal/bytealg.MaxLen"], apart := false, laid := [("unicode/utf8.acceptRanges", laid_unicode_utf8_acceptRanges), ("unicode/utf8.first", laid_unicode_utf8_first)], narrowed := true }
def FnUseMayUptoSaid : Prop := fnUseMayUptoRow.holds Tryd.pinned (OpenSpec.upto fnUseMaySpec)

/-- 'laws.FnUseAdd', WHERE WHAT IT READS IS OF BULK AT MOST 1048576: true; the input reads as it did. -/
def fnUseAddUptoRow : OpenClaim := { program := "ytlmpmlcjlioeaaadoor", sum := "b186489da811a393e15418580b8cb1c2de9852def0517c406fec31b03490512a", func := "loop.example/muniment/laws.FnUseAdd", spec := "fnUseAdd", inPlace := ["internal/bytealg.IndexByteString", "internal/bytealg.IndexString"], unfollowed := true, recurses := true, named := ["unicode/utf8.first", "unicode/utf8.acceptRanges", "internal/bytealg.MaxLen"], apart := false, laid := [("unicode/utf8.acceptRanges", laid_unicode_utf8_acceptRanges), ("unicode/utf8.first", laid_unicode_utf8_first)], narrowed := true }
def FnUseAddUptoSaid : Prop := fnUseAddUptoRow.holds Tryd.pinned (OpenSpec.upto fnUseAddSpec)

/-- 'laws.FnExactUseMay', WHERE WHAT IT READS IS OF BULK AT MOST 1048576: true; the input reads as it did. -/
def fnExactUseMayUptoRow : OpenClaim := { program := "ytlmpmlcjlioeaaadoor", sum := "b186489da811a393e15418580b8cb1c2de9852def0517c406fec31b03490512a", func := "loop.example/muniment/laws.FnExactUseMay", spec := "fnExactUseMay", inPlace := ["internal/bytealg.IndexByteString", "internal/bytealg.IndexString"], unfollowed := true, recurses := true, named := ["unicode/utf8.first", "unicode/utf8.acceptRanges", "internal/bytealg.MaxLen"], apart := false, laid := [("unicode/utf8.acceptRanges", laid_unicode_utf8_acceptRanges), ("unicode/utf8.first", laid_unicode_utf8_first)], narrowed := true }
def FnExactUseMayUptoSaid : Prop := fnExactUseMayUptoRow.holds Tryd.pinned (OpenSpec.upto fnExactUseMaySpec)

/-- 'laws.FnExactUseAdd', WHERE WHAT IT READS IS OF BULK AT MOST 1048576: true; the input reads as it did. -/
def fnExactUseAddUptoRow : OpenClaim := { program := "ytlmpmlcjlioeaaadoor", sum := "b186489da811a393e15418580b8cb1c2de9852def0517c406fec31b03490512a", func := "loop.example/muniment/laws.FnExactUseAdd", spec := "fnExactUseAdd", inPlace := ["internal/bytealg.IndexByteString", "internal/bytealg.IndexString"], unfollowed := true, recurses := true, named := ["unicode/utf8.first", "unicode/utf8.acceptRanges", "internal/bytealg.MaxLen"], apart := false, laid := [("unicode/utf8.acceptRanges", laid_unicode_utf8_acceptRanges), ("unicode/utf8.first", laid_unicode_utf8_first)], narrowed := true }
def FnExactUseAddUptoSaid : Prop := fnExactUseAddUptoRow.holds Tryd.pinned (OpenSpec.upto fnExactUseAddSpec)

/-- 'laws.FnUseSum', WHERE WHAT IT READS IS OF BULK AT MOST 1048576: true; the input reads as it did. -/
def fnUseSumUptoRow : OpenClaim := { program := "ytlmpmlcjlioeaaadoor", sum := "b186489da811a393e15418580b8cb1c2de9852def0517c406fec31b03490512a", func := "loop.example/muniment/laws.FnUseSum", spec := "fnUseSum", inPlace := ["internal/bytealg.IndexByteString", "internal/bytealg.IndexString"], unfollowed := true, recurses := true, named := ["unicode/utf8.first", "unicode/utf8.acceptRanges", "internal/bytealg.MaxLen"], apart := false, laid := [("unicode/utf8.acceptRanges", laid_unicode_utf8_acceptRanges), ("unicode/utf8.first", laid_unicode_utf8_first)], narrowed := true }
def FnUseSumUptoSaid : Prop := fnUseSumUptoRow.holds Tryd.pinned (OpenSpec.upto fnUseSumSpec)

end Rows
end Go.Proofs.YtlmpmlcjlioeaaaDoor
