/-
  No cell of these rows narrows 'for every input' (looked for: loops, veiled, ifaces, maps, wideKeys, modest, calm, conditions, laid).
  DERIVED. THE GIVEN ROWS OF THIS SEAT. 11 by the template 'for every input the law returns true; each argument reads behind the call as it read before'; 0 by the template 'total and deterministic' (their statements: YtjmdinhobhoojaaTotals.lean).
  GIVEN WITH THE SEED: the statements are not yours to turn. If you find one false, say at which input.
  Laid BY PROGRAM, IN A SANDBOX (cutbox-rows.mjs): the forced cells as the released guide's own fill.sh prints them over the translation 95addd32259174dd… (all of the seat's roots in one cut). By AI agents, Wed Nov 11 2026. No macro, syntax, notation, axiom, sorry.
-/
import Derived.Test.YtjmdinhobhoojaaChecked
import GoSem.Claim
import GoSem.ClaimJoined
import GoSem.ClaimMapViews
import Derived.JoinedTies
import Derived.KernelRfl
namespace Go.Proofs.Ytjmdinhobhoojaa
/- THE CELL 'sum', in the pinned program and in every row, IS THE sha256 OF THE DUMP (.gsa) THAT YtjmdinhobhoojaaProg.lean LOADS. Nothing in Lean hashes anything: it is a label: what it is worth is what the hold of that sum in a sandbox is worth. -/
noncomputable def Try.pinned : Pinned := { name := "ytjmdinhobhoojaa", sum := "95addd32259174dd1f3ce34557f7e93f4c26838d21965525fc550b243ac9daa9", checked := Try.checked }
namespace Rows
def none {H : Type} : Left H := { results := [], args := [] }

/-- 'laws.FnExactConstants': WHATEVER THE INPUT: true; the input reads as it did. -/
def fnExactConstantsSpec : ChangeSpec := { name := "fnExactConstants", fn := fun _ => fun
  | [] => { results := [.lit (.bool true)], args := [] }
  | _ => none }
def fnExactConstantsRow : OpenClaim := { program := "ytjmdinhobhoojaa", sum := "95addd32259174dd1f3ce34557f7e93f4c26838d21965525fc550b243ac9daa9", func := "loop.example/muniment/laws.FnExactConstants", spec := "fnExactConstants", apart := false }
def FnExactConstantsSaid : Prop := fnExactConstantsRow.holds Try.pinned (OpenSpec.ofChange fnExactConstantsSpec)

/-- ITS FALSE NEIGHBOUR: 'it returns false'. Refute it at one input. -/
def fnExactConstantsWrong : ChangeSpec := { name := "fnExactConstants", fn := fun _ => fun
  | [] => { results := [.lit (.bool false)], args := [] }
  | _ => none }
def FnExactConstantsWrongFalsely : Prop := fnExactConstantsRow.holds Try.pinned (OpenSpec.ofChange fnExactConstantsWrong)

/-- 'laws.FnExactDiskNew': WHATEVER THE INPUT: true; the input reads as it did. -/
def fnExactDiskNewSpec : ChangeSpec := { name := "fnExactDiskNew", fn := fun _ => fun
  | [] => { results := [.lit (.bool true)], args := [] }
  | _ => none }
def fnExactDiskNewRow : OpenClaim := { program := "ytjmdinhobhoojaa", sum := "95addd32259174dd1f3ce34557f7e93f4c26838d21965525fc550b243ac9daa9", func := "loop.example/muniment/laws.FnExactDiskNew", spec := "fnExactDiskNew", apart := false }
def FnExactDiskNewSaid : Prop := fnExactDiskNewRow.holds Try.pinned (OpenSpec.ofChange fnExactDiskNewSpec)

/-- ITS FALSE NEIGHBOUR: 'it returns false'. Refute it at one input. -/
def fnExactDiskNewWrong : ChangeSpec := { name := "fnExactDiskNew", fn := fun _ => fun
  | [] => { results := [.lit (.bool false)], args := [] }
  | _ => none }
def FnExactDiskNewWrongFalsely : Prop := fnExactDiskNewRow.holds Try.pinned (OpenSpec.ofChange fnExactDiskNewWrong)

/-- 'laws.FnExactDiskOk': WHATEVER THE INPUT: true; the input reads as it did. -/
def fnExactDiskOkSpec : ChangeSpec := { name := "fnExactDiskOk", fn := fun _ => fun
  | [d] => { results := [.lit (.bool true)], args := [d] }
  | _ => none }
def fnExactDiskOkRow : OpenClaim := { program := "ytjmdinhobhoojaa", sum := "95addd32259174dd1f3ce34557f7e93f4c26838d21965525fc550b243ac9daa9", func := "loop.example/muniment/laws.FnExactDiskOk", spec := "fnExactDiskOk", apart := false }
def FnExactDiskOkSaid : Prop := fnExactDiskOkRow.holds Try.pinned (OpenSpec.ofChange fnExactDiskOkSpec)

/-- ITS FALSE NEIGHBOUR: 'it returns false'. Refute it at one input. -/
def fnExactDiskOkWrong : ChangeSpec := { name := "fnExactDiskOk", fn := fun _ => fun
  | [d] => { results := [.lit (.bool false)], args := [d] }
  | _ => none }
def FnExactDiskOkWrongFalsely : Prop := fnExactDiskOkRow.holds Try.pinned (OpenSpec.ofChange fnExactDiskOkWrong)

/-- 'laws.FnExactDiskRead': WHATEVER THE INPUT: true; the input reads as it did. -/
def fnExactDiskReadSpec : ChangeSpec := { name := "fnExactDiskRead", fn := fun _ => fun
  | [d1, d2] => { results := [.lit (.bool true)], args := [d1, d2] }
  | _ => none }
def fnExactDiskReadRow : OpenClaim := { program := "ytjmdinhobhoojaa", sum := "95addd32259174dd1f3ce34557f7e93f4c26838d21965525fc550b243ac9daa9", func := "loop.example/muniment/laws.FnExactDiskRead", spec := "fnExactDiskRead", apart := false }
def FnExactDiskReadSaid : Prop := fnExactDiskReadRow.holds Try.pinned (OpenSpec.ofChange fnExactDiskReadSpec)

/-- ITS FALSE NEIGHBOUR: 'it returns false'. Refute it at one input. -/
def fnExactDiskReadWrong : ChangeSpec := { name := "fnExactDiskRead", fn := fun _ => fun
  | [d1, d2] => { results := [.lit (.bool false)], args := [d1, d2] }
  | _ => none }
def FnExactDiskReadWrongFalsely : Prop := fnExactDiskReadRow.holds Try.pinned (OpenSpec.ofChange fnExactDiskReadWrong)

/-- 'laws.FnDiskStop': WHATEVER THE INPUT: true; the input reads as it did. -/
def fnDiskStopSpec : ChangeSpec := { name := "fnDiskStop", fn := fun _ => fun
  | [d1, d2] => { results := [.lit (.bool true)], args := [d1, d2] }
  | _ => none }
def fnDiskStopRow : OpenClaim := { program := "ytjmdinhobhoojaa", sum := "95addd32259174dd1f3ce34557f7e93f4c26838d21965525fc550b243ac9daa9", func := "loop.example/muniment/laws.FnDiskStop", spec := "fnDiskStop", apart := false }
def FnDiskStopSaid : Prop := fnDiskStopRow.holds Try.pinned (OpenSpec.ofChange fnDiskStopSpec)

/-- ITS FALSE NEIGHBOUR: 'it returns false'. Refute it at one input. -/
def fnDiskStopWrong : ChangeSpec := { name := "fnDiskStop", fn := fun _ => fun
  | [d1, d2] => { results := [.lit (.bool false)], args := [d1, d2] }
  | _ => none }
def FnDiskStopWrongFalsely : Prop := fnDiskStopRow.holds Try.pinned (OpenSpec.ofChange fnDiskStopWrong)

/-- 'laws.FnDiskCrash': WHATEVER THE INPUT: true; the input reads as it did. -/
def fnDiskCrashSpec : ChangeSpec := { name := "fnDiskCrash", fn := fun _ => fun
  | [d] => { results := [.lit (.bool true)], args := [d] }
  | _ => none }
def fnDiskCrashRow : OpenClaim := { program := "ytjmdinhobhoojaa", sum := "95addd32259174dd1f3ce34557f7e93f4c26838d21965525fc550b243ac9daa9", func := "loop.example/muniment/laws.FnDiskCrash", spec := "fnDiskCrash", apart := false }
def FnDiskCrashSaid : Prop := fnDiskCrashRow.holds Try.pinned (OpenSpec.ofChange fnDiskCrashSpec)

/-- ITS FALSE NEIGHBOUR: 'it returns false'. Refute it at one input. -/
def fnDiskCrashWrong : ChangeSpec := { name := "fnDiskCrash", fn := fun _ => fun
  | [d] => { results := [.lit (.bool false)], args := [d] }
  | _ => none }
def FnDiskCrashWrongFalsely : Prop := fnDiskCrashRow.holds Try.pinned (OpenSpec.ofChange fnDiskCrashWrong)

/-- 'laws.FnDiskWrite': WHATEVER THE INPUT: true; the input reads as it did. -/
def fnDiskWriteSpec : ChangeSpec := { name := "fnDiskWrite", fn := fun _ => fun
  | [d] => { results := [.lit (.bool true)], args := [d] }
  | _ => none }
def fnDiskWriteRow : OpenClaim := { program := "ytjmdinhobhoojaa", sum := "95addd32259174dd1f3ce34557f7e93f4c26838d21965525fc550b243ac9daa9", func := "loop.example/muniment/laws.FnDiskWrite", spec := "fnDiskWrite", apart := false }
def FnDiskWriteSaid : Prop := fnDiskWriteRow.holds Try.pinned (OpenSpec.ofChange fnDiskWriteSpec)

/-- ITS FALSE NEIGHBOUR: 'it returns false'. Refute it at one input. -/
def fnDiskWriteWrong : ChangeSpec := { name := "fnDiskWrite", fn := fun _ => fun
  | [d] => { results := [.lit (.bool false)], args := [d] }
  | _ => none }
def FnDiskWriteWrongFalsely : Prop := fnDiskWriteRow.holds Try.pinned (OpenSpec.ofChange fnDiskWriteWrong)

/-- 'laws.FnDiskFlush': WHATEVER THE INPUT: true; the input reads as it did. -/
def fnDiskFlushSpec : ChangeSpec := { name := "fnDiskFlush", fn := fun _ => fun
  | [d1, d2] => { results := [.lit (.bool true)], args := [d1, d2] }
  | _ => none }
def fnDiskFlushRow : OpenClaim := { program := "ytjmdinhobhoojaa", sum := "95addd32259174dd1f3ce34557f7e93f4c26838d21965525fc550b243ac9daa9", func := "loop.example/muniment/laws.FnDiskFlush", spec := "fnDiskFlush", apart := false }
def FnDiskFlushSaid : Prop := fnDiskFlushRow.holds Try.pinned (OpenSpec.ofChange fnDiskFlushSpec)

/-- ITS FALSE NEIGHBOUR: 'it returns false'. Refute it at one input. -/
def fnDiskFlushWrong : ChangeSpec := { name := "fnDiskFlush", fn := fun _ => fun
  | [d1, d2] => { results := [.lit (.bool false)], args := [d1, d2] }
  | _ => none }
def FnDiskFlushWrongFalsely : Prop := fnDiskFlushRow.holds Try.pinned (OpenSpec.ofChange fnDiskFlushWrong)

/-- 'laws.FnExactDiskCrash': WHATEVER THE INPUT: true; the input reads as it did. -/
def fnExactDiskCrashSpec : ChangeSpec := { name := "fnExactDiskCrash", fn := fun _ => fun
  | [d1, d2] => { results := [.lit (.bool true)], args := [d1, d2] }
  | _ => none }
def fnExactDiskCrashRow : OpenClaim := { program := "ytjmdinhobhoojaa", sum := "95addd32259174dd1f3ce34557f7e93f4c26838d21965525fc550b243ac9daa9", func := "loop.example/muniment/laws.FnExactDiskCrash", spec := "fnExactDiskCrash", apart := false }
def FnExactDiskCrashSaid : Prop := fnExactDiskCrashRow.holds Try.pinned (OpenSpec.ofChange fnExactDiskCrashSpec)

/-- ITS FALSE NEIGHBOUR: 'it returns false'. Refute it at one input. -/
def fnExactDiskCrashWrong : ChangeSpec := { name := "fnExactDiskCrash", fn := fun _ => fun
  | [d1, d2] => { results := [.lit (.bool false)], args := [d1, d2] }
  | _ => none }
def FnExactDiskCrashWrongFalsely : Prop := fnExactDiskCrashRow.holds Try.pinned (OpenSpec.ofChange fnExactDiskCrashWrong)

/-- 'laws.FnExactDiskWrite': WHATEVER THE INPUT: true; the input reads as it did. -/
def fnExactDiskWriteSpec : ChangeSpec := { name := "fnExactDiskWrite", fn := fun _ => fun
  | [d1, d2, d3] => { results := [.lit (.bool true)], args := [d1, d2, d3] }
  | _ => none }
def fnExactDiskWriteRow : OpenClaim := { program := "ytjmdinhobhoojaa", sum := "95addd32259174dd1f3ce34557f7e93f4c26838d21965525fc550b243ac9daa9", func := "loop.example/muniment/laws.FnExactDiskWrite", spec := "fnExactDiskWrite", apart := false }
def FnExactDiskWriteSaid : Prop := fnExactDiskWriteRow.holds Try.pinned (OpenSpec.ofChange fnExactDiskWriteSpec)

/-- ITS FALSE NEIGHBOUR: 'it returns false'. Refute it at one input. -/
def fnExactDiskWriteWrong : ChangeSpec := { name := "fnExactDiskWrite", fn := fun _ => fun
  | [d1, d2, d3] => { results := [.lit (.bool false)], args := [d1, d2, d3] }
  | _ => none }
def FnExactDiskWriteWrongFalsely : Prop := fnExactDiskWriteRow.holds Try.pinned (OpenSpec.ofChange fnExactDiskWriteWrong)

/-- 'laws.FnExactDiskFlush': WHATEVER THE INPUT: true; the input reads as it did. -/
def fnExactDiskFlushSpec : ChangeSpec := { name := "fnExactDiskFlush", fn := fun _ => fun
  | [d] => { results := [.lit (.bool true)], args := [d] }
  | _ => none }
def fnExactDiskFlushRow : OpenClaim := { program := "ytjmdinhobhoojaa", sum := "95addd32259174dd1f3ce34557f7e93f4c26838d21965525fc550b243ac9daa9", func := "loop.example/muniment/laws.FnExactDiskFlush", spec := "fnExactDiskFlush", apart := false }
def FnExactDiskFlushSaid : Prop := fnExactDiskFlushRow.holds Try.pinned (OpenSpec.ofChange fnExactDiskFlushSpec)

/-- ITS FALSE NEIGHBOUR: 'it returns false'. Refute it at one input. -/
def fnExactDiskFlushWrong : ChangeSpec := { name := "fnExactDiskFlush", fn := fun _ => fun
  | [d] => { results := [.lit (.bool false)], args := [d] }
  | _ => none }
def FnExactDiskFlushWrongFalsely : Prop := fnExactDiskFlushRow.holds Try.pinned (OpenSpec.ofChange fnExactDiskFlushWrong)

/- THE SECOND FORM. 'bulk': how many values and letters a reading holds, each counted each time it is reached (what is shared counts as often as it is met; a slice's spare places count too). A statement '..UptoSaid' is the law's where the arguments, and the package variables that the reading takes, are together of bulk at most 1048576: NARROWER than '..Said'. Prove '..Said' where nothing that the law and all that it calls make is longer than what came in: it says more and counts as full. Else prove '..UptoSaid'. A law counts once. -/
mutual
def uptoBulk {H : Type} : DataW H → Nat
  | .lit (.string bytes) => bytes.length + 1
  | .lit _ => 1
  | .nil => 1
  | .ptr d => uptoBulk d + 1
  | .slice elems spare => uptoBulkAll elems + uptoBulkAll spare + 1
  | .agg parts => uptoBulkAll parts + 1
  | .iface _ d => uptoBulk d + 1
  | .map entries => uptoBulkEntries entries + 1
  | .held _ => 1
def uptoBulkAll {H : Type} : List (DataW H) → Nat
  | [] => 0
  | d :: r => uptoBulk d + uptoBulkAll r
def uptoBulkEntries {H : Type} : List (Lit × DataW H) → Nat
  | [] => 0
  | x :: r => uptoBulkEntry x + uptoBulkEntries r
def uptoBulkEntry {H : Type} : Lit × DataW H → Nat
  | (.string bytes, d) => bytes.length + uptoBulk d + 1
  | (_, d) => uptoBulk d + 1
 end
def uptoSmall : (H : Type) → List (DataW H) → Bool := fun _ ds => decide (uptoBulkAll ds ≤ 1048576)
def OpenSpec.upto (s : _root_.Go.ChangeSpec) : _root_.Go.OpenSpec := { _root_.Go.OpenSpec.ofChange s with cond := some uptoSmall }

/-- 'laws.FnExactConstants', WHERE WHAT IT READS IS OF BULK AT MOST 1048576: true; the input reads as it did. -/
def fnExactConstantsUptoRow : OpenClaim := { program := "ytjmdinhobhoojaa", sum := "95addd32259174dd1f3ce34557f7e93f4c26838d21965525fc550b243ac9daa9", func := "loop.example/muniment/laws.FnExactConstants", spec := "fnExactConstants", apart := false, narrowed := true }
def FnExactConstantsUptoSaid : Prop := fnExactConstantsUptoRow.holds Try.pinned (OpenSpec.upto fnExactConstantsSpec)

/-- 'laws.FnExactDiskNew', WHERE WHAT IT READS IS OF BULK AT MOST 1048576: true; the input reads as it did. -/
def fnExactDiskNewUptoRow : OpenClaim := { program := "ytjmdinhobhoojaa", sum := "95addd32259174dd1f3ce34557f7e93f4c26838d21965525fc550b243ac9daa9", func := "loop.example/muniment/laws.FnExactDiskNew", spec := "fnExactDiskNew", apart := false, narrowed := true }
def FnExactDiskNewUptoSaid : Prop := fnExactDiskNewUptoRow.holds Try.pinned (OpenSpec.upto fnExactDiskNewSpec)

/-- 'laws.FnExactDiskOk', WHERE WHAT IT READS IS OF BULK AT MOST 1048576: true; the input reads as it did. -/
def fnExactDiskOkUptoRow : OpenClaim := { program := "ytjmdinhobhoojaa", sum := "95addd32259174dd1f3ce34557f7e93f4c26838d21965525fc550b243ac9daa9", func := "loop.example/muniment/laws.FnExactDiskOk", spec := "fnExactDiskOk", apart := false, narrowed := true }
def FnExactDiskOkUptoSaid : Prop := fnExactDiskOkUptoRow.holds Try.pinned (OpenSpec.upto fnExactDiskOkSpec)

/-- 'laws.FnExactDiskRead', WHERE WHAT IT READS IS OF BULK AT MOST 1048576: true; the input reads as it did. -/
def fnExactDiskReadUptoRow : OpenClaim := { program := "ytjmdinhobhoojaa", sum := "95addd32259174dd1f3ce34557f7e93f4c26838d21965525fc550b243ac9daa9", func := "loop.example/muniment/laws.FnExactDiskRead", spec := "fnExactDiskRead", apart := false, narrowed := true }
def FnExactDiskReadUptoSaid : Prop := fnExactDiskReadUptoRow.holds Try.pinned (OpenSpec.upto fnExactDiskReadSpec)

/-- 'laws.FnDiskStop', WHERE WHAT IT READS IS OF BULK AT MOST 1048576: true; the input reads as it did. -/
def fnDiskStopUptoRow : OpenClaim := { program := "ytjmdinhobhoojaa", sum := "95addd32259174dd1f3ce34557f7e93f4c26838d21965525fc550b243ac9daa9", func := "loop.example/muniment/laws.FnDiskStop", spec := "fnDiskStop", apart := false, narrowed := true }
def FnDiskStopUptoSaid : Prop := fnDiskStopUptoRow.holds Try.pinned (OpenSpec.upto fnDiskStopSpec)

/-- 'laws.FnDiskCrash', WHERE WHAT IT READS IS OF BULK AT MOST 1048576: true; the input reads as it did. -/
def fnDiskCrashUptoRow : OpenClaim := { program := "ytjmdinhobhoojaa", sum := "95addd32259174dd1f3ce34557f7e93f4c26838d21965525fc550b243ac9daa9", func := "loop.example/muniment/laws.FnDiskCrash", spec := "fnDiskCrash", apart := false, narrowed := true }
def FnDiskCrashUptoSaid : Prop := fnDiskCrashUptoRow.holds Try.pinned (OpenSpec.upto fnDiskCrashSpec)

/-- 'laws.FnDiskWrite', WHERE WHAT IT READS IS OF BULK AT MOST 1048576: true; the input reads as it did. -/
def fnDiskWriteUptoRow : OpenClaim := { program := "ytjmdinhobhoojaa", sum := "95addd32259174dd1f3ce34557f7e93f4c26838d21965525fc550b243ac9daa9", func := "loop.example/muniment/laws.FnDiskWrite", spec := "fnDiskWrite", apart := false, narrowed := true }
def FnDiskWriteUptoSaid : Prop := fnDiskWriteUptoRow.holds Try.pinned (OpenSpec.upto fnDiskWriteSpec)

/-- 'laws.FnDiskFlush', WHERE WHAT IT READS IS OF BULK AT MOST 1048576: true; the input reads as it did. -/
def fnDiskFlushUptoRow : OpenClaim := { program := "ytjmdinhobhoojaa", sum := "95addd32259174dd1f3ce34557f7e93f4c26838d21965525fc550b243ac9daa9", func := "loop.example/muniment/laws.FnDiskFlush", spec := "fnDiskFlush", apart := false, narrowed := true }
def FnDiskFlushUptoSaid : Prop := fnDiskFlushUptoRow.holds Try.pinned (OpenSpec.upto fnDiskFlushSpec)

/-- 'laws.FnExactDiskCrash', WHERE WHAT IT READS IS OF BULK AT MOST 1048576: true; the input reads as it did. -/
def fnExactDiskCrashUptoRow : OpenClaim := { program := "ytjmdinhobhoojaa", sum := "95addd32259174dd1f3ce34557f7e93f4c26838d21965525fc550b243ac9daa9", func := "loop.example/muniment/laws.FnExactDiskCrash", spec := "fnExactDiskCrash", apart := false, narrowed := true }
def FnExactDiskCrashUptoSaid : Prop := fnExactDiskCrashUptoRow.holds Try.pinned (OpenSpec.upto fnExactDiskCrashSpec)

/-- 'laws.FnExactDiskWrite', WHERE WHAT IT READS IS OF BULK AT MOST 1048576: true; the input reads as it did. -/
def fnExactDiskWriteUptoRow : OpenClaim := { program := "ytjmdinhobhoojaa", sum := "95addd32259174dd1f3ce34557f7e93f4c26838d21965525fc550b243ac9daa9", func := "loop.example/muniment/laws.FnExactDiskWrite", spec := "fnExactDiskWrite", apart := false, narrowed := true }
def FnExactDiskWriteUptoSaid : Prop := fnExactDiskWriteUptoRow.holds Try.pinned (OpenSpec.upto fnExactDiskWriteSpec)

/-- 'laws.FnExactDiskFlush', WHERE WHAT IT READS IS OF BULK AT MOST 1048576: true; the input reads as it did. -/
def fnExactDiskFlushUptoRow : OpenClaim := { program := "ytjmdinhobhoojaa", sum := "95addd32259174dd1f3ce34557f7e93f4c26838d21965525fc550b243ac9daa9", func := "loop.example/muniment/laws.FnExactDiskFlush", spec := "fnExactDiskFlush", apart := false, narrowed := true }
def FnExactDiskFlushUptoSaid : Prop := fnExactDiskFlushUptoRow.holds Try.pinned (OpenSpec.upto fnExactDiskFlushSpec)

end Rows
end Go.Proofs.Ytjmdinhobhoojaa
