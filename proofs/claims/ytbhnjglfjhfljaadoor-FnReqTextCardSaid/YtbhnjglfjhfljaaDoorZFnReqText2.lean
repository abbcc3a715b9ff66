/- Functions of the law FnReqText as_ plain Lean functions, and that the machine's calls do what they say. -/
import Derived.Test.YtbhnjglfjhfljaaDoorZFnReqText0
import Derived.Great.BuildSlice
import Derived.Shelf.Strings.Trim
import Derived.Shelf.Small.Utf8
import Derived.Shelf.Small.Strs
import Derived.Shelf.Strconv.Atoi
import Derived.Shelf.Strconv.Itoa0
import Derived.Shelf.Strconv.Itoa1
import Derived.Shelf.LaysM
import Derived.Shelf.Strconv.Itoa2
import Derived.Shelf.Strconv.Itoa3
import Derived.Shelf.Strconv.AtoiErrFast
import Derived.Shelf.Strconv.ParseIntEmpty
import Derived.Shelf.Strconv.AtoiFail
import Derived.Shelf.Strconv.Clone
import Derived.Shelf.Strconv.SyntaxError
import Derived.Shelf.LaysC
import Derived.Shelf.Strconv.ToError
import Derived.Shelf.Strconv.AtoiErr
import Derived.Shelf.Strconv.ErrVar
import Derived.Shelf.Strconv.Lower
import Derived.Shelf.Strconv.ParseUint10
import Derived.Shelf.Strconv.ParseUint10Empty
import Derived.Shelf.Strconv.ParseUint10Any
import Derived.Shelf.Strconv.ParseInt10
import Derived.Shelf.Strconv.AtoiLong
import Derived.Shelf.Strconv.AtoiInnerAll
import Derived.Shelf.Strconv.RangeError
import Derived.Shelf.Strconv.ToErrorRange
import Derived.Shelf.Strconv.AtoiAll
import Derived.Shelf.Strconv.ErrVarAll
import Derived.Shelf.Strconv.ParseUintEmpty
import Derived.Shelf.Strconv.ParseUint10b64
import Derived.Shelf.Strconv.ParseUint10b32
import Derived.Shelf.Strconv.ParseUint10b16
import Derived.Shelf.Strconv.ParseUint10b8
import Derived.Shelf.Strconv.ParseUint10At
import Derived.Shelf.Strconv.ParseInt10At64
import Derived.Shelf.Strconv.ParseInt10At32
import Derived.Shelf.Strconv.ParseInt10At16
import Derived.Shelf.Strconv.ParseInt10At8
import Derived.Shelf.Strconv.ParseInt10All
import Derived.Shelf.Strings.Search1
import Derived.Shelf.Strings.Search2
import Derived.Shelf.Strings.Cut
import Derived.Shelf.Strings.Shaped
import Derived.Shelf.Unicode.Decode
import Derived.Shelf.Strings.Runes
import Derived.Shelf.Strings.AsciiSet
import Derived.Shelf.Unicode.DecodeSlow
import Derived.Shelf.Unicode.DecodeAny
import Derived.Shelf.Unicode.DecodeLast
import Derived.Test.YtbhnjglfjhfljaaDoorProg
import Derived.Shelf.Strings.SlTrimAscii
namespace Go.Proofs.YtbhnjglfjhfljaaDoor.P
open Go.RowKit Go.Proofs.YtbhnjglfjhfljaaDoorW.PrintWords Go.Proofs.YtbhnjglfjhfljaaDoorW.PrintLast Go.Proofs.YtbhnjglfjhfljaaDoorW.PrintMore
attribute [local go_sem] max2_int min2_int max_two min_two max_three min_three max_four min_four
set_option linter.unusedVariables false
set_option linter.unusedSimpArgs false
section
variable {P:Program} {ops:Array Oper} {rest:List Oper} {o:Oper} {a:Act} {w:World} {Q:Exit → Act → World → Prop}
theorem form_alloc (hgd:o.guard = none) (t:TypeId) (ho:o.op = .alloc t) (d:Option Tmp) (hd:o.dst = d) (z:Value) (hz:(P.info? t).bind (·.zero) = some z) (cs:Array Value) (hcs:z.cells = cs) (g:Nat) (hg:w.heap.size = g)
 (h:wpList P ops Q rest (a.put d (.pointer (some ⟨g,0,none⟩))) (w.alloc (.cells cs t (0,0)))):wpList P ops Q (o :: rest) a w:=
 wpList_plain hgd fun _ hK=>by
  subst hd hcs hg;obtain ⟨it,hi,hz⟩:=Option.bind_eq_some_iff.1 hz
  have hr:(Instr.alloc t true (.tuple #[])).run P w = .ok (.pointer (some ⟨w.heap.size,0,none⟩)) (w.alloc (.cells z.cells t (0,0))):=by
   simp [Instr.alloc,zeroValue,typeInfo,newVar,hi,hz,go_sem]
  unfold Oper.wp execOp;simp only [ho,Sem.run_bind,hr,Result.andThen_ok]
  exact hK _ _ h
theorem form_assign (hgd:o.guard = none) (v:Value) (ho:o.op = .assign (.const v)) (d:Option Tmp) (hd:o.dst = d) (h:wpList P ops Q rest (a.put d v) w):wpList P ops Q (o :: rest) a w:=
 wpList_plain hgd fun _ hK=>by
  subst hd;unfold Oper.wp execOp;simp only [ho,Act.eval]
  exact hK _ _ h
end
def impl_formOf.FC:Array Value:=#[.string (⟨#[115,112,97,99,101]⟩:ByteArray),.bool true,.bool true,.bool true,.bool false,.string (⟨#[108,105,109,105,116]⟩:ByteArray),.bool true,.bool false,.bool true,.bool false,.string (⟨#[99,108,111,115,101]⟩:ByteArray),.bool true,.bool false,.bool false,.bool false,.string (⟨#[112,117,116]⟩:ByteArray),.bool true,.bool true,.bool false,.bool true,.string (⟨#[115,101,116]⟩:ByteArray),.bool true,.bool true,.bool true,.bool true,.string (⟨#[109,97,114,107]⟩:ByteArray),.bool true,.bool true,.bool false,.bool true,.string (⟨#[117,110,109,97,114,107]⟩:ByteArray),.bool true,.bool true,.bool false,.bool true,.string (⟨#[100,114,111,112]⟩:ByteArray),.bool true,.bool true,.bool false,.bool false,.string (⟨#[103,101,116]⟩:ByteArray),.bool true,.bool true,.bool false,.bool false,.string (⟨#[108,105,115,116]⟩:ByteArray),.bool true,.bool false,.bool false,.bool false,.string (⟨#[119,97,116,99,104]⟩:ByteArray),.bool true,.bool false,.bool true,.bool false,.string (⟨#[115,116,101,112]⟩:ByteArray),.bool false,.bool false,.bool false,.bool false]
def impl_formOf.ZC:Array Value:=#[.string ⟨#[]⟩,.bool false,.bool false,.bool false,.bool false,.string ⟨#[]⟩,.bool false,.bool false,.bool false,.bool false,.string ⟨#[]⟩,.bool false,.bool false,.bool false,.bool false,.string ⟨#[]⟩,.bool false,.bool false,.bool false,.bool false,.string ⟨#[]⟩,.bool false,.bool false,.bool false,.bool false,.string ⟨#[]⟩,.bool false,.bool false,.bool false,.bool false,.string ⟨#[]⟩,.bool false,.bool false,.bool false,.bool false,.string ⟨#[]⟩,.bool false,.bool false,.bool false,.bool false,.string ⟨#[]⟩,.bool false,.bool false,.bool false,.bool false,.string ⟨#[]⟩,.bool false,.bool false,.bool false,.bool false,.string ⟨#[]⟩,.bool false,.bool false,.bool false,.bool false,.string ⟨#[]⟩,.bool false,.bool false,.bool false,.bool false]
def impl_formOf.f (a0:Int):Option (ByteArray × Bool × Bool × Bool × Bool × Bool):=some (if a0 = 1 then ((⟨#[115,112,97,99,101]⟩:ByteArray),true,true,true,false,true) else if a0 = 2 then ((⟨#[108,105,109,105,116]⟩:ByteArray),true,false,true,false,true) else if a0 = 3 then ((⟨#[99,108,111,115,101]⟩:ByteArray),true,false,false,false,true) else if a0 = 4 then ((⟨#[112,117,116]⟩:ByteArray),true,true,false,true,true) else if a0 = 5 then ((⟨#[115,101,116]⟩:ByteArray),true,true,true,true,true) else if a0 = 6 then ((⟨#[109,97,114,107]⟩:ByteArray),true,true,false,true,true) else if a0 = 7 then ((⟨#[117,110,109,97,114,107]⟩:ByteArray),true,true,false,true,true) else if a0 = 8 then ((⟨#[100,114,111,112]⟩:ByteArray),true,true,false,false,true) else if a0 = 9 then ((⟨#[103,101,116]⟩:ByteArray),true,true,false,false,true) else if a0 = 10 then ((⟨#[108,105,115,116]⟩:ByteArray),true,false,false,false,true) else if a0 = 11 then ((⟨#[119,97,116,99,104]⟩:ByteArray),true,false,true,false,true) else if a0 = 12 then ((⟨#[115,116,101,112]⟩:ByteArray),false,false,false,false,true) else ((⟨#[]⟩:ByteArray),false,false,false,false,false))
structure impl_formOf.St (gb g1:Nat) (w:World):Prop where
 ne:gb ≠ g1
 box:w.heap[gb]? = some (.cells #[.string ⟨#[]⟩,.bool false,.bool false,.bool false,.bool false] 53 (0,0))
 tab:w.heap[g1]? = some (.cells impl_formOf.FC 63 (0,0))
theorem impl_formOf.St.cell {gb g1:Nat} {w:World} (h:impl_formOf.St gb g1 w) (i:Nat) (v:Value) (hv:impl_formOf.FC[i]? = some v):w.cell? ⟨g1,i,none⟩ = some v:=by
 simp [World.cell?,h.tab,hv]
noncomputable def impl_formOf.rest:Code:=match Tryd.f33.body with
 |some (.seq _ (.seq _ c))=>c
 |_=>.ret
set_option maxHeartbeats 40000000 in
set_option maxRecDepth 100000 in
theorem impl_formOf.table (a0:Int) (R:World → Ending → World → Prop) (w:World)
 (H:∀ (w2:World) (g1:Nat),As0 (impl_formOf.St w.heap.size g1 w2) → As0 (Below w.heap.size w w2) → Code.wp Tryd.prog impl_formOf.rest (bodyPost Tryd.prog Tryd.f33 (R w)) { tmps:=#[.int .i64 a0,undef,.pointer (some ⟨w.heap.size,0,none⟩),.bool false,.pointer (some ⟨g1,0,none⟩),.agg #[.string (⟨#[115,112,97,99,101]⟩:ByteArray),.bool true,.bool true,.bool true,.bool false],.agg #[.string (⟨#[108,105,109,105,116]⟩:ByteArray),.bool true,.bool false,.bool true,.bool false],.agg #[.string (⟨#[99,108,111,115,101]⟩:ByteArray),.bool true,.bool false,.bool false,.bool false],.agg #[.string (⟨#[112,117,116]⟩:ByteArray),.bool true,.bool true,.bool false,.bool true],.agg #[.string (⟨#[115,101,116]⟩:ByteArray),.bool true,.bool true,.bool true,.bool true],.agg #[.string (⟨#[109,97,114,107]⟩:ByteArray),.bool true,.bool true,.bool false,.bool true],.agg #[.string (⟨#[117,110,109,97,114,107]⟩:ByteArray),.bool true,.bool true,.bool false,.bool true],.agg #[.string (⟨#[100,114,111,112]⟩:ByteArray),.bool true,.bool true,.bool false,.bool false],.agg #[.string (⟨#[103,101,116]⟩:ByteArray),.bool true,.bool true,.bool false,.bool false],.agg #[.string (⟨#[108,105,115,116]⟩:ByteArray),.bool true,.bool false,.bool false,.bool false],.agg #[.string (⟨#[119,97,116,99,104]⟩:ByteArray),.bool true,.bool false,.bool true,.bool false],.agg #[.string (⟨#[115,116,101,112]⟩:ByteArray),.bool false,.bool false,.bool false,.bool false],.agg impl_formOf.FC,undef,undef,undef,undef,undef,undef,undef,undef,undef,undef,undef],defers:=[] } w2) :
 Calls Tryd.prog 33 #[.int .i64 a0] w (R w):=by
 go_enter Tryd.func33,Tryd.ntmps33
 apply wp_seq_k;intro K0 hK0;apply wp_region_lit
 refine form_alloc rfl 53 rfl (some 2) rfl (.agg #[.string ⟨#[]⟩,.bool false,.bool false,.bool false,.bool false]) (by kernel_rfl) #[.string ⟨#[]⟩,.bool false,.bool false,.bool false,.bool false] rfl w.heap.size rfl ?_;refine wpList_frame (a':={ tmps:=#[.int .i64 a0,undef,.pointer (some ⟨w.heap.size,0,none⟩),undef,undef,undef,undef,undef,undef,undef,undef,undef,undef,undef,undef,undef,undef,undef,undef,undef,undef,undef,undef,undef,undef,undef,undef,undef,undef],defers:=[] }) (by kernel_rfl) ?_;obtain ⟨w1,hw1⟩:∃ x,x = w.alloc (.cells #[.string ⟨#[]⟩,.bool false,.bool false,.bool false,.bool false] 53 (0,0)):=⟨_,rfl⟩;rw [← hw1];have hB1:Below w.heap.size w w1:=by rw [hw1];exact bal (Below.refl _ _) _
 have hs1:w1.heap.size = w.heap.size + 1:=by rw [hw1];exact World.size_alloc _ _
 have hg1:w1.heap[w.heap.size]? = some (.cells #[.string ⟨#[]⟩,.bool false,.bool false,.bool false,.bool false] 53 (0,0)):=by rw [hw1];exact blk_new _ _
 clear hw1;refine form_assign rfl (.bool false) rfl (some 3) rfl ?_;refine wpList_frame (a':={ tmps:=#[.int .i64 a0,undef,.pointer (some ⟨w.heap.size,0,none⟩),.bool false,undef,undef,undef,undef,undef,undef,undef,undef,undef,undef,undef,undef,undef,undef,undef,undef,undef,undef,undef,undef,undef,undef,undef,undef,undef],defers:=[] }) (by kernel_rfl) ?_;apply wpList_nil;refine hK0 _ _ ?_;clear hK0 K0
 apply wp_seq_k;intro K1 hK1;apply wp_region_lit
 refine wpList_buildTo rfl 53 _ rfl (some 5) rfl #[.string (⟨#[115,112,97,99,101]⟩:ByteArray),.bool true,.bool true,.bool true,.bool false] (by kernel_rfl) ?_;refine wpList_frame (a':={ tmps:=#[.int .i64 a0,undef,.pointer (some ⟨w.heap.size,0,none⟩),.bool false,undef,.agg #[.string (⟨#[115,112,97,99,101]⟩:ByteArray),.bool true,.bool true,.bool true,.bool false],undef,undef,undef,undef,undef,undef,undef,undef,undef,undef,undef,undef,undef,undef,undef,undef,undef,undef,undef,undef,undef,undef,undef],defers:=[] }) (by kernel_rfl) ?_;refine wpList_buildTo rfl 53 _ rfl (some 6) rfl #[.string (⟨#[108,105,109,105,116]⟩:ByteArray),.bool true,.bool false,.bool true,.bool false] (by kernel_rfl) ?_;refine wpList_frame (a':={ tmps:=#[.int .i64 a0,undef,.pointer (some ⟨w.heap.size,0,none⟩),.bool false,undef,.agg #[.string (⟨#[115,112,97,99,101]⟩:ByteArray),.bool true,.bool true,.bool true,.bool false],.agg #[.string (⟨#[108,105,109,105,116]⟩:ByteArray),.bool true,.bool false,.bool true,.bool false],undef,undef,undef,undef,undef,undef,undef,undef,undef,undef,undef,undef,undef,undef,undef,undef,undef,undef,undef,undef,undef,undef],defers:=[] }) (by kernel_rfl) ?_;refine wpList_buildTo rfl 53 _ rfl (some 7) rfl #[.string (⟨#[99,108,111,115,101]⟩:ByteArray),.bool true,.bool false,.bool false,.bool false] (by kernel_rfl) ?_;refine wpList_frame (a':={ tmps:=#[.int .i64 a0,undef,.pointer (some ⟨w.heap.size,0,none⟩),.bool false,undef,.agg #[.string (⟨#[115,112,97,99,101]⟩:ByteArray),.bool true,.bool true,.bool true,.bool false],.agg #[.string (⟨#[108,105,109,105,116]⟩:ByteArray),.bool true,.bool false,.bool true,.bool false],.agg #[.string (⟨#[99,108,111,115,101]⟩:ByteArray),.bool true,.bool false,.bool false,.bool false],undef,undef,undef,undef,undef,undef,undef,undef,undef,undef,undef,undef,undef,undef,undef,undef,undef,undef,undef,undef,undef],defers:=[] }) (by kernel_rfl) ?_;refine wpList_buildTo rfl 53 _ rfl (some 8) rfl #[.string (⟨#[112,117,116]⟩:ByteArray),.bool true,.bool true,.bool false,.bool true] (by kernel_rfl) ?_;refine wpList_frame (a':={ tmps:=#[.int .i64 a0,undef,.pointer (some ⟨w.heap.size,0,none⟩),.bool false,undef,.agg #[.string (⟨#[115,112,97,99,101]⟩:ByteArray),.bool true,.bool true,.bool true,.bool false],.agg #[.string (⟨#[108,105,109,105,116]⟩:ByteArray),.bool true,.bool false,.bool true,.bool false],.agg #[.string (⟨#[99,108,111,115,101]⟩:ByteArray),.bool true,.bool false,.bool false,.bool false],.agg #[.string (⟨#[112,117,116]⟩:ByteArray),.bool true,.bool true,.bool false,.bool true],undef,undef,undef,undef,undef,undef,undef,undef,undef,undef,undef,undef,undef,undef,undef,undef,undef,undef,undef,undef],defers:=[] }) (by kernel_rfl) ?_;refine wpList_buildTo rfl 53 _ rfl (some 9) rfl #[.string (⟨#[115,101,116]⟩:ByteArray),.bool true,.bool true,.bool true,.bool true] (by kernel_rfl) ?_;refine wpList_frame (a':={ tmps:=#[.int .i64 a0,undef,.pointer (some ⟨w.heap.size,0,none⟩),.bool false,undef,.agg #[.string (⟨#[115,112,97,99,101]⟩:ByteArray),.bool true,.bool true,.bool true,.bool false],.agg #[.string (⟨#[108,105,109,105,116]⟩:ByteArray),.bool true,.bool false,.bool true,.bool false],.agg #[.string (⟨#[99,108,111,115,101]⟩:ByteArray),.bool true,.bool false,.bool false,.bool false],.agg #[.string (⟨#[112,117,116]⟩:ByteArray),.bool true,.bool true,.bool false,.bool true],.agg #[.string (⟨#[115,101,116]⟩:ByteArray),.bool true,.bool true,.bool true,.bool true],undef,undef,undef,undef,undef,undef,undef,undef,undef,undef,undef,undef,undef,undef,undef,undef,undef,undef,undef],defers:=[] }) (by kernel_rfl) ?_;refine wpList_buildTo rfl 53 _ rfl (some 10) rfl #[.string (⟨#[109,97,114,107]⟩:ByteArray),.bool true,.bool true,.bool false,.bool true] (by kernel_rfl) ?_;refine wpList_frame (a':={ tmps:=#[.int .i64 a0,undef,.pointer (some ⟨w.heap.size,0,none⟩),.bool false,undef,.agg #[.string (⟨#[115,112,97,99,101]⟩:ByteArray),.bool true,.bool true,.bool true,.bool false],.agg #[.string (⟨#[108,105,109,105,116]⟩:ByteArray),.bool true,.bool false,.bool true,.bool false],.agg #[.string (⟨#[99,108,111,115,101]⟩:ByteArray),.bool true,.bool false,.bool false,.bool false],.agg #[.string (⟨#[112,117,116]⟩:ByteArray),.bool true,.bool true,.bool false,.bool true],.agg #[.string (⟨#[115,101,116]⟩:ByteArray),.bool true,.bool true,.bool true,.bool true],.agg #[.string (⟨#[109,97,114,107]⟩:ByteArray),.bool true,.bool true,.bool false,.bool true],undef,undef,undef,undef,undef,undef,undef,undef,undef,undef,undef,undef,undef,undef,undef,undef,undef,undef],defers:=[] }) (by kernel_rfl) ?_;refine wpList_buildTo rfl 53 _ rfl (some 11) rfl #[.string (⟨#[117,110,109,97,114,107]⟩:ByteArray),.bool true,.bool true,.bool false,.bool true] (by kernel_rfl) ?_;refine wpList_frame (a':={ tmps:=#[.int .i64 a0,undef,.pointer (some ⟨w.heap.size,0,none⟩),.bool false,undef,.agg #[.string (⟨#[115,112,97,99,101]⟩:ByteArray),.bool true,.bool true,.bool true,.bool false],.agg #[.string (⟨#[108,105,109,105,116]⟩:ByteArray),.bool true,.bool false,.bool true,.bool false],.agg #[.string (⟨#[99,108,111,115,101]⟩:ByteArray),.bool true,.bool false,.bool false,.bool false],.agg #[.string (⟨#[112,117,116]⟩:ByteArray),.bool true,.bool true,.bool false,.bool true],.agg #[.string (⟨#[115,101,116]⟩:ByteArray),.bool true,.bool true,.bool true,.bool true],.agg #[.string (⟨#[109,97,114,107]⟩:ByteArray),.bool true,.bool true,.bool false,.bool true],.agg #[.string (⟨#[117,110,109,97,114,107]⟩:ByteArray),.bool true,.bool true,.bool false,.bool true],undef,undef,undef,undef,undef,undef,undef,undef,undef,undef,undef,undef,undef,undef,undef,undef,undef],defers:=[] }) (by kernel_rfl) ?_;refine wpList_buildTo rfl 53 _ rfl (some 12) rfl #[.string (⟨#[100,114,111,112]⟩:ByteArray),.bool true,.bool true,.bool false,.bool false] (by kernel_rfl) ?_;refine wpList_frame (a':={ tmps:=#[.int .i64 a0,undef,.pointer (some ⟨w.heap.size,0,none⟩),.bool false,undef,.agg #[.string (⟨#[115,112,97,99,101]⟩:ByteArray),.bool true,.bool true,.bool true,.bool false],.agg #[.string (⟨#[108,105,109,105,116]⟩:ByteArray),.bool true,.bool false,.bool true,.bool false],.agg #[.string (⟨#[99,108,111,115,101]⟩:ByteArray),.bool true,.bool false,.bool false,.bool false],.agg #[.string (⟨#[112,117,116]⟩:ByteArray),.bool true,.bool true,.bool false,.bool true],.agg #[.string (⟨#[115,101,116]⟩:ByteArray),.bool true,.bool true,.bool true,.bool true],.agg #[.string (⟨#[109,97,114,107]⟩:ByteArray),.bool true,.bool true,.bool false,.bool true],.agg #[.string (⟨#[117,110,109,97,114,107]⟩:ByteArray),.bool true,.bool true,.bool false,.bool true],.agg #[.string (⟨#[100,114,111,112]⟩:ByteArray),.bool true,.bool true,.bool false,.bool false],undef,undef,undef,undef,undef,undef,undef,undef,undef,undef,undef,undef,undef,undef,undef,undef],defers:=[] }) (by kernel_rfl) ?_;refine wpList_buildTo rfl 53 _ rfl (some 13) rfl #[.string (⟨#[103,101,116]⟩:ByteArray),.bool true,.bool true,.bool false,.bool false] (by kernel_rfl) ?_;refine wpList_frame (a':={ tmps:=#[.int .i64 a0,undef,.pointer (some ⟨w.heap.size,0,none⟩),.bool false,undef,.agg #[.string (⟨#[115,112,97,99,101]⟩:ByteArray),.bool true,.bool true,.bool true,.bool false],.agg #[.string (⟨#[108,105,109,105,116]⟩:ByteArray),.bool true,.bool false,.bool true,.bool false],.agg #[.string (⟨#[99,108,111,115,101]⟩:ByteArray),.bool true,.bool false,.bool false,.bool false],.agg #[.string (⟨#[112,117,116]⟩:ByteArray),.bool true,.bool true,.bool false,.bool true],.agg #[.string (⟨#[115,101,116]⟩:ByteArray),.bool true,.bool true,.bool true,.bool true],.agg #[.string (⟨#[109,97,114,107]⟩:ByteArray),.bool true,.bool true,.bool false,.bool true],.agg #[.string (⟨#[117,110,109,97,114,107]⟩:ByteArray),.bool true,.bool true,.bool false,.bool true],.agg #[.string (⟨#[100,114,111,112]⟩:ByteArray),.bool true,.bool true,.bool false,.bool false],.agg #[.string (⟨#[103,101,116]⟩:ByteArray),.bool true,.bool true,.bool false,.bool false],undef,undef,undef,undef,undef,undef,undef,undef,undef,undef,undef,undef,undef,undef,undef],defers:=[] }) (by kernel_rfl) ?_;refine wpList_buildTo rfl 53 _ rfl (some 14) rfl #[.string (⟨#[108,105,115,116]⟩:ByteArray),.bool true,.bool false,.bool false,.bool false] (by kernel_rfl) ?_;refine wpList_frame (a':={ tmps:=#[.int .i64 a0,undef,.pointer (some ⟨w.heap.size,0,none⟩),.bool false,undef,.agg #[.string (⟨#[115,112,97,99,101]⟩:ByteArray),.bool true,.bool true,.bool true,.bool false],.agg #[.string (⟨#[108,105,109,105,116]⟩:ByteArray),.bool true,.bool false,.bool true,.bool false],.agg #[.string (⟨#[99,108,111,115,101]⟩:ByteArray),.bool true,.bool false,.bool false,.bool false],.agg #[.string (⟨#[112,117,116]⟩:ByteArray),.bool true,.bool true,.bool false,.bool true],.agg #[.string (⟨#[115,101,116]⟩:ByteArray),.bool true,.bool true,.bool true,.bool true],.agg #[.string (⟨#[109,97,114,107]⟩:ByteArray),.bool true,.bool true,.bool false,.bool true],.agg #[.string (⟨#[117,110,109,97,114,107]⟩:ByteArray),.bool true,.bool true,.bool false,.bool true],.agg #[.string (⟨#[100,114,111,112]⟩:ByteArray),.bool true,.bool true,.bool false,.bool false],.agg #[.string (⟨#[103,101,116]⟩:ByteArray),.bool true,.bool true,.bool false,.bool false],.agg #[.string (⟨#[108,105,115,116]⟩:ByteArray),.bool true,.bool false,.bool false,.bool false],undef,undef,undef,undef,undef,undef,undef,undef,undef,undef,undef,undef,undef,undef],defers:=[] }) (by kernel_rfl) ?_;refine wpList_buildTo rfl 53 _ rfl (some 15) rfl #[.string (⟨#[119,97,116,99,104]⟩:ByteArray),.bool true,.bool false,.bool true,.bool false] (by kernel_rfl) ?_;refine wpList_frame (a':={ tmps:=#[.int .i64 a0,undef,.pointer (some ⟨w.heap.size,0,none⟩),.bool false,undef,.agg #[.string (⟨#[115,112,97,99,101]⟩:ByteArray),.bool true,.bool true,.bool true,.bool false],.agg #[.string (⟨#[108,105,109,105,116]⟩:ByteArray),.bool true,.bool false,.bool true,.bool false],.agg #[.string (⟨#[99,108,111,115,101]⟩:ByteArray),.bool true,.bool false,.bool false,.bool false],.agg #[.string (⟨#[112,117,116]⟩:ByteArray),.bool true,.bool true,.bool false,.bool true],.agg #[.string (⟨#[115,101,116]⟩:ByteArray),.bool true,.bool true,.bool true,.bool true],.agg #[.string (⟨#[109,97,114,107]⟩:ByteArray),.bool true,.bool true,.bool false,.bool true],.agg #[.string (⟨#[117,110,109,97,114,107]⟩:ByteArray),.bool true,.bool true,.bool false,.bool true],.agg #[.string (⟨#[100,114,111,112]⟩:ByteArray),.bool true,.bool true,.bool false,.bool false],.agg #[.string (⟨#[103,101,116]⟩:ByteArray),.bool true,.bool true,.bool false,.bool false],.agg #[.string (⟨#[108,105,115,116]⟩:ByteArray),.bool true,.bool false,.bool false,.bool false],.agg #[.string (⟨#[119,97,116,99,104]⟩:ByteArray),.bool true,.bool false,.bool true,.bool false],undef,undef,undef,undef,undef,undef,undef,undef,undef,undef,undef,undef,undef],defers:=[] }) (by kernel_rfl) ?_;refine wpList_buildTo rfl 53 _ rfl (some 16) rfl #[.string (⟨#[115,116,101,112]⟩:ByteArray),.bool false,.bool false,.bool false,.bool false] (by kernel_rfl) ?_;refine wpList_frame (a':={ tmps:=#[.int .i64 a0,undef,.pointer (some ⟨w.heap.size,0,none⟩),.bool false,undef,.agg #[.string (⟨#[115,112,97,99,101]⟩:ByteArray),.bool true,.bool true,.bool true,.bool false],.agg #[.string (⟨#[108,105,109,105,116]⟩:ByteArray),.bool true,.bool false,.bool true,.bool false],.agg #[.string (⟨#[99,108,111,115,101]⟩:ByteArray),.bool true,.bool false,.bool false,.bool false],.agg #[.string (⟨#[112,117,116]⟩:ByteArray),.bool true,.bool true,.bool false,.bool true],.agg #[.string (⟨#[115,101,116]⟩:ByteArray),.bool true,.bool true,.bool true,.bool true],.agg #[.string (⟨#[109,97,114,107]⟩:ByteArray),.bool true,.bool true,.bool false,.bool true],.agg #[.string (⟨#[117,110,109,97,114,107]⟩:ByteArray),.bool true,.bool true,.bool false,.bool true],.agg #[.string (⟨#[100,114,111,112]⟩:ByteArray),.bool true,.bool true,.bool false,.bool false],.agg #[.string (⟨#[103,101,116]⟩:ByteArray),.bool true,.bool true,.bool false,.bool false],.agg #[.string (⟨#[108,105,115,116]⟩:ByteArray),.bool true,.bool false,.bool false,.bool false],.agg #[.string (⟨#[119,97,116,99,104]⟩:ByteArray),.bool true,.bool false,.bool true,.bool false],.agg #[.string (⟨#[115,116,101,112]⟩:ByteArray),.bool false,.bool false,.bool false,.bool false],undef,undef,undef,undef,undef,undef,undef,undef,undef,undef,undef,undef],defers:=[] }) (by kernel_rfl) ?_;refine wpList_buildTo rfl 63 _ rfl (some 17) rfl impl_formOf.FC (by kernel_rfl) ?_;refine wpList_frame (a':={ tmps:=#[.int .i64 a0,undef,.pointer (some ⟨w.heap.size,0,none⟩),.bool false,undef,.agg #[.string (⟨#[115,112,97,99,101]⟩:ByteArray),.bool true,.bool true,.bool true,.bool false],.agg #[.string (⟨#[108,105,109,105,116]⟩:ByteArray),.bool true,.bool false,.bool true,.bool false],.agg #[.string (⟨#[99,108,111,115,101]⟩:ByteArray),.bool true,.bool false,.bool false,.bool false],.agg #[.string (⟨#[112,117,116]⟩:ByteArray),.bool true,.bool true,.bool false,.bool true],.agg #[.string (⟨#[115,101,116]⟩:ByteArray),.bool true,.bool true,.bool true,.bool true],.agg #[.string (⟨#[109,97,114,107]⟩:ByteArray),.bool true,.bool true,.bool false,.bool true],.agg #[.string (⟨#[117,110,109,97,114,107]⟩:ByteArray),.bool true,.bool true,.bool false,.bool true],.agg #[.string (⟨#[100,114,111,112]⟩:ByteArray),.bool true,.bool true,.bool false,.bool false],.agg #[.string (⟨#[103,101,116]⟩:ByteArray),.bool true,.bool true,.bool false,.bool false],.agg #[.string (⟨#[108,105,115,116]⟩:ByteArray),.bool true,.bool false,.bool false,.bool false],.agg #[.string (⟨#[119,97,116,99,104]⟩:ByteArray),.bool true,.bool false,.bool true,.bool false],.agg #[.string (⟨#[115,116,101,112]⟩:ByteArray),.bool false,.bool false,.bool false,.bool false],.agg impl_formOf.FC,undef,undef,undef,undef,undef,undef,undef,undef,undef,undef,undef],defers:=[] }) (by kernel_rfl) ?_;refine form_alloc rfl 63 rfl (some 4) rfl (.agg impl_formOf.ZC) (by kernel_rfl) impl_formOf.ZC rfl w1.heap.size rfl ?_;refine wpList_frame (a':={ tmps:=#[.int .i64 a0,undef,.pointer (some ⟨w.heap.size,0,none⟩),.bool false,.pointer (some ⟨w1.heap.size,0,none⟩),.agg #[.string (⟨#[115,112,97,99,101]⟩:ByteArray),.bool true,.bool true,.bool true,.bool false],.agg #[.string (⟨#[108,105,109,105,116]⟩:ByteArray),.bool true,.bool false,.bool true,.bool false],.agg #[.string (⟨#[99,108,111,115,101]⟩:ByteArray),.bool true,.bool false,.bool false,.bool false],.agg #[.string (⟨#[112,117,116]⟩:ByteArray),.bool true,.bool true,.bool false,.bool true],.agg #[.string (⟨#[115,101,116]⟩:ByteArray),.bool true,.bool true,.bool true,.bool true],.agg #[.string (⟨#[109,97,114,107]⟩:ByteArray),.bool true,.bool true,.bool false,.bool true],.agg #[.string (⟨#[117,110,109,97,114,107]⟩:ByteArray),.bool true,.bool true,.bool false,.bool true],.agg #[.string (⟨#[100,114,111,112]⟩:ByteArray),.bool true,.bool true,.bool false,.bool false],.agg #[.string (⟨#[103,101,116]⟩:ByteArray),.bool true,.bool true,.bool false,.bool false],.agg #[.string (⟨#[108,105,115,116]⟩:ByteArray),.bool true,.bool false,.bool false,.bool false],.agg #[.string (⟨#[119,97,116,99,104]⟩:ByteArray),.bool true,.bool false,.bool true,.bool false],.agg #[.string (⟨#[115,116,101,112]⟩:ByteArray),.bool false,.bool false,.bool false,.bool false],.agg impl_formOf.FC,undef,undef,undef,undef,undef,undef,undef,undef,undef,undef,undef],defers:=[] }) (by kernel_rfl) ?_;refine wpList_store_rowTo rfl 63 _ _ rfl rfl w1.heap.size impl_formOf.FC (by kernel_rfl) (by kernel_rfl) 63 impl_formOf.ZC (blk_new _ _) (by kernel_rfl) (by kernel_rfl) (by kernel_rfl) ?_;obtain ⟨w2,hw2⟩:∃ x,x = (w1.alloc (.cells impl_formOf.ZC 63 (0,0))).setRow w1.heap.size impl_formOf.FC:=⟨_,rfl⟩;rw [← hw2]
 have hB:Below w.heap.size w w2:=by
  have h0:Below w.heap.size w (w1.alloc (.cells impl_formOf.ZC 63 (0,0))):=bal hB1 _;rw [hw2];refine ⟨h0.os,h0.tape,h0.output,?_,fun i hi=>?_⟩
  · rw [setRow_size];exact h0.size
  · rw [setRow_other _ _ _ _ (by omega)];exact h0.block i hi
 have hS:impl_formOf.St w.heap.size w1.heap.size w2:=by
  refine ⟨by omega,?_,?_⟩
  · rw [hw2,setRow_other _ _ _ _ (by omega)];exact bkA hg1 _
  · rw [hw2];exact setRow_heap _ _ _ _ _ _ (blk_new _ _)
 clear hw2 hB1 hg1;apply wpList_nil;refine hK1 _ _ ?_;clear hK1 K1
 generalize w1.heap.size = g1 at hS hs1 ⊢
 have hH_:=As0.mk hS;clear hs1 hS
 exact H w2 g1 hH_ ⟨hB⟩
set_option maxHeartbeats 40000000 in
set_option maxRecDepth 100000 in
theorem impl_formOf.lo (a0:Int) (hlo:a0 < 1) (w:World) :
 Calls Tryd.prog 33 #[.int .i64 a0] w fun e w'=>e = .returned (.tuple #[.agg #[.string ⟨#[]⟩,.bool false,.bool false,.bool false,.bool false],.bool false]) ∧ Below w.heap.size w w':=by
 refine impl_formOf.table a0 (fun w e w'=>e = .returned (.tuple #[.agg #[.string ⟨#[]⟩,.bool false,.bool false,.bool false,.bool false],.bool false]) ∧ Below w.heap.size w w') w ?_;intro w2 g1 hS hB;have t0:decide (a0 < 1) = true:=decide_eq_true hlo;clear hlo;have hb0:w2.cell? ⟨w.heap.size,0,none⟩ = some (.string ⟨#[]⟩):=(bkC hS.out.box 0).trans rfl;have hf0:w2.frozen? ⟨w.heap.size,0,none⟩ = false:=bkF hS.out.box 0;have hb1:w2.cell? ⟨w.heap.size,1,none⟩ = some (.bool false):=(bkC hS.out.box 1).trans rfl;have hf1:w2.frozen? ⟨w.heap.size,1,none⟩ = false:=bkF hS.out.box 1;have hb2:w2.cell? ⟨w.heap.size,2,none⟩ = some (.bool false):=(bkC hS.out.box 2).trans rfl;have hf2:w2.frozen? ⟨w.heap.size,2,none⟩ = false:=bkF hS.out.box 2;have hb3:w2.cell? ⟨w.heap.size,3,none⟩ = some (.bool false):=(bkC hS.out.box 3).trans rfl;have hf3:w2.frozen? ⟨w.heap.size,3,none⟩ = false:=bkF hS.out.box 3;have hb4:w2.cell? ⟨w.heap.size,4,none⟩ = some (.bool false):=(bkC hS.out.box 4).trans rfl;have hf4:w2.frozen? ⟨w.heap.size,4,none⟩ = false:=bkF hS.out.box 4;have hne:=hS.out.ne;simp only [impl_formOf.rest,Tryd.f33]
 go_wp2
 refine bodyPost_ret (results_ct rfl _ _ w.heap.size 53 #[.string ⟨#[]⟩,.bool false,.bool false,.bool false,.bool false] (0,0) _ rfl ?hg Tryd.underlying53 rfl (by kernel_rfl)) rfl ?_
 case hg=>refine blk_put (cs:=#[.string ⟨#[]⟩,.bool false,.bool false,.bool false,.bool false]) ?_ 4 _ rfl;refine blk_put (cs:=#[.string ⟨#[]⟩,.bool false,.bool false,.bool false,.bool false]) ?_ 3 _ rfl;refine blk_put (cs:=#[.string ⟨#[]⟩,.bool false,.bool false,.bool false,.bool false]) ?_ 2 _ rfl;refine blk_put (cs:=#[.string ⟨#[]⟩,.bool false,.bool false,.bool false,.bool false]) ?_ 1 _ rfl;refine blk_put (cs:=#[.string ⟨#[]⟩,.bool false,.bool false,.bool false,.bool false]) ?_ 0 _ rfl;exact hS.out.box
 exact ⟨rfl,by repeat (first|exact hB.out|refine bst ?_ (Nat.le_refl _))⟩
set_option maxHeartbeats 40000000 in
set_option maxRecDepth 100000 in
theorem impl_formOf.hi (a0:Int) (hhi:a0 > 12) (w:World) :
 Calls Tryd.prog 33 #[.int .i64 a0] w fun e w'=>e = .returned (.tuple #[.agg #[.string ⟨#[]⟩,.bool false,.bool false,.bool false,.bool false],.bool false]) ∧ Below w.heap.size w w':=by
 refine impl_formOf.table a0 (fun w e w'=>e = .returned (.tuple #[.agg #[.string ⟨#[]⟩,.bool false,.bool false,.bool false,.bool false],.bool false]) ∧ Below w.heap.size w w') w ?_;intro w2 g1 hS hB;have t0:decide (a0 < 1) = false:=decide_eq_false (by omega);have t1:decide (12 < a0) = true:=decide_eq_true hhi;clear hhi;have hb0:w2.cell? ⟨w.heap.size,0,none⟩ = some (.string ⟨#[]⟩):=(bkC hS.out.box 0).trans rfl;have hf0:w2.frozen? ⟨w.heap.size,0,none⟩ = false:=bkF hS.out.box 0;have hb1:w2.cell? ⟨w.heap.size,1,none⟩ = some (.bool false):=(bkC hS.out.box 1).trans rfl;have hf1:w2.frozen? ⟨w.heap.size,1,none⟩ = false:=bkF hS.out.box 1;have hb2:w2.cell? ⟨w.heap.size,2,none⟩ = some (.bool false):=(bkC hS.out.box 2).trans rfl;have hf2:w2.frozen? ⟨w.heap.size,2,none⟩ = false:=bkF hS.out.box 2;have hb3:w2.cell? ⟨w.heap.size,3,none⟩ = some (.bool false):=(bkC hS.out.box 3).trans rfl;have hf3:w2.frozen? ⟨w.heap.size,3,none⟩ = false:=bkF hS.out.box 3;have hb4:w2.cell? ⟨w.heap.size,4,none⟩ = some (.bool false):=(bkC hS.out.box 4).trans rfl;have hf4:w2.frozen? ⟨w.heap.size,4,none⟩ = false:=bkF hS.out.box 4;have hne:=hS.out.ne;simp only [impl_formOf.rest,Tryd.f33]
 go_wp2
 refine bodyPost_ret (results_ct rfl _ _ w.heap.size 53 #[.string ⟨#[]⟩,.bool false,.bool false,.bool false,.bool false] (0,0) _ rfl ?hg Tryd.underlying53 rfl (by kernel_rfl)) rfl ?_
 case hg=>refine blk_put (cs:=#[.string ⟨#[]⟩,.bool false,.bool false,.bool false,.bool false]) ?_ 4 _ rfl;refine blk_put (cs:=#[.string ⟨#[]⟩,.bool false,.bool false,.bool false,.bool false]) ?_ 3 _ rfl;refine blk_put (cs:=#[.string ⟨#[]⟩,.bool false,.bool false,.bool false,.bool false]) ?_ 2 _ rfl;refine blk_put (cs:=#[.string ⟨#[]⟩,.bool false,.bool false,.bool false,.bool false]) ?_ 1 _ rfl;refine blk_put (cs:=#[.string ⟨#[]⟩,.bool false,.bool false,.bool false,.bool false]) ?_ 0 _ rfl;exact hS.out.box
 exact ⟨rfl,by repeat (first|exact hB.out|refine bst ?_ (Nat.le_refl _))⟩
set_option maxHeartbeats 40000000 in
set_option maxRecDepth 100000 in
theorem impl_formOf.at1 (w:World) :
 Calls Tryd.prog 33 #[.int .i64 1] w fun e w'=>e = .returned (.tuple #[.agg #[.string (⟨#[115,112,97,99,101]⟩:ByteArray),.bool true,.bool true,.bool true,.bool false],.bool true]) ∧ Below w.heap.size w w':=by
 refine impl_formOf.table 1 (fun w e w'=>e = .returned (.tuple #[.agg #[.string (⟨#[115,112,97,99,101]⟩:ByteArray),.bool true,.bool true,.bool true,.bool false],.bool true]) ∧ Below w.heap.size w w') w ?_;intro w2 g1 hS hB;have hb0:w2.cell? ⟨w.heap.size,0,none⟩ = some (.string ⟨#[]⟩):=(bkC hS.out.box 0).trans rfl;have hf0:w2.frozen? ⟨w.heap.size,0,none⟩ = false:=bkF hS.out.box 0;have hb1:w2.cell? ⟨w.heap.size,1,none⟩ = some (.bool false):=(bkC hS.out.box 1).trans rfl;have hf1:w2.frozen? ⟨w.heap.size,1,none⟩ = false:=bkF hS.out.box 1;have hb2:w2.cell? ⟨w.heap.size,2,none⟩ = some (.bool false):=(bkC hS.out.box 2).trans rfl;have hf2:w2.frozen? ⟨w.heap.size,2,none⟩ = false:=bkF hS.out.box 2;have hb3:w2.cell? ⟨w.heap.size,3,none⟩ = some (.bool false):=(bkC hS.out.box 3).trans rfl;have hf3:w2.frozen? ⟨w.heap.size,3,none⟩ = false:=bkF hS.out.box 3;have hb4:w2.cell? ⟨w.heap.size,4,none⟩ = some (.bool false):=(bkC hS.out.box 4).trans rfl;have hf4:w2.frozen? ⟨w.heap.size,4,none⟩ = false:=bkF hS.out.box 4;have hx0:w2.cell? ⟨g1,0,none⟩ = some (.string (⟨#[115,112,97,99,101]⟩:ByteArray)):=hS.out.cell 0 _ (by kernel_rfl);have hx1:w2.cell? ⟨g1,1,none⟩ = some (.bool true):=hS.out.cell 1 _ (by kernel_rfl);have hx2:w2.cell? ⟨g1,2,none⟩ = some (.bool true):=hS.out.cell 2 _ (by kernel_rfl);have hx3:w2.cell? ⟨g1,3,none⟩ = some (.bool true):=hS.out.cell 3 _ (by kernel_rfl);have hx4:w2.cell? ⟨g1,4,none⟩ = some (.bool false):=hS.out.cell 4 _ (by kernel_rfl);have hne:=hS.out.ne;simp only [impl_formOf.rest,Tryd.f33]
 go_wp2
 refine bodyPost_ret (results_ct rfl _ _ w.heap.size 53 #[.string (⟨#[115,112,97,99,101]⟩:ByteArray),.bool true,.bool true,.bool true,.bool false] (0,0) _ rfl ?hg Tryd.underlying53 rfl (by kernel_rfl)) rfl ?_
 case hg=>refine blk_put (cs:=#[.string (⟨#[115,112,97,99,101]⟩:ByteArray),.bool true,.bool true,.bool true,.bool false]) ?_ 4 _ rfl;refine blk_put (cs:=#[.string (⟨#[115,112,97,99,101]⟩:ByteArray),.bool true,.bool true,.bool false,.bool false]) ?_ 3 _ rfl;refine blk_put (cs:=#[.string (⟨#[115,112,97,99,101]⟩:ByteArray),.bool true,.bool false,.bool false,.bool false]) ?_ 2 _ rfl;refine blk_put (cs:=#[.string (⟨#[115,112,97,99,101]⟩:ByteArray),.bool false,.bool false,.bool false,.bool false]) ?_ 1 _ rfl;refine blk_put (cs:=#[.string ⟨#[]⟩,.bool false,.bool false,.bool false,.bool false]) ?_ 0 _ rfl;exact hS.out.box
 exact ⟨rfl,by repeat (first|exact hB.out|refine bst ?_ (Nat.le_refl _))⟩
set_option maxHeartbeats 40000000 in
set_option maxRecDepth 100000 in
theorem impl_formOf.at2 (w:World) :
 Calls Tryd.prog 33 #[.int .i64 2] w fun e w'=>e = .returned (.tuple #[.agg #[.string (⟨#[108,105,109,105,116]⟩:ByteArray),.bool true,.bool false,.bool true,.bool false],.bool true]) ∧ Below w.heap.size w w':=by
 refine impl_formOf.table 2 (fun w e w'=>e = .returned (.tuple #[.agg #[.string (⟨#[108,105,109,105,116]⟩:ByteArray),.bool true,.bool false,.bool true,.bool false],.bool true]) ∧ Below w.heap.size w w') w ?_;intro w2 g1 hS hB;have hb0:w2.cell? ⟨w.heap.size,0,none⟩ = some (.string ⟨#[]⟩):=(bkC hS.out.box 0).trans rfl;have hf0:w2.frozen? ⟨w.heap.size,0,none⟩ = false:=bkF hS.out.box 0;have hb1:w2.cell? ⟨w.heap.size,1,none⟩ = some (.bool false):=(bkC hS.out.box 1).trans rfl;have hf1:w2.frozen? ⟨w.heap.size,1,none⟩ = false:=bkF hS.out.box 1;have hb2:w2.cell? ⟨w.heap.size,2,none⟩ = some (.bool false):=(bkC hS.out.box 2).trans rfl;have hf2:w2.frozen? ⟨w.heap.size,2,none⟩ = false:=bkF hS.out.box 2;have hb3:w2.cell? ⟨w.heap.size,3,none⟩ = some (.bool false):=(bkC hS.out.box 3).trans rfl;have hf3:w2.frozen? ⟨w.heap.size,3,none⟩ = false:=bkF hS.out.box 3;have hb4:w2.cell? ⟨w.heap.size,4,none⟩ = some (.bool false):=(bkC hS.out.box 4).trans rfl;have hf4:w2.frozen? ⟨w.heap.size,4,none⟩ = false:=bkF hS.out.box 4;have hx0:w2.cell? ⟨g1,5,none⟩ = some (.string (⟨#[108,105,109,105,116]⟩:ByteArray)):=hS.out.cell 5 _ (by kernel_rfl);have hx1:w2.cell? ⟨g1,6,none⟩ = some (.bool true):=hS.out.cell 6 _ (by kernel_rfl);have hx2:w2.cell? ⟨g1,7,none⟩ = some (.bool false):=hS.out.cell 7 _ (by kernel_rfl);have hx3:w2.cell? ⟨g1,8,none⟩ = some (.bool true):=hS.out.cell 8 _ (by kernel_rfl);have hx4:w2.cell? ⟨g1,9,none⟩ = some (.bool false):=hS.out.cell 9 _ (by kernel_rfl);have hne:=hS.out.ne;simp only [impl_formOf.rest,Tryd.f33]
 go_wp2
 refine bodyPost_ret (results_ct rfl _ _ w.heap.size 53 #[.string (⟨#[108,105,109,105,116]⟩:ByteArray),.bool true,.bool false,.bool true,.bool false] (0,0) _ rfl ?hg Tryd.underlying53 rfl (by kernel_rfl)) rfl ?_
 case hg=>refine blk_put (cs:=#[.string (⟨#[108,105,109,105,116]⟩:ByteArray),.bool true,.bool false,.bool true,.bool false]) ?_ 4 _ rfl;refine blk_put (cs:=#[.string (⟨#[108,105,109,105,116]⟩:ByteArray),.bool true,.bool false,.bool false,.bool false]) ?_ 3 _ rfl;refine blk_put (cs:=#[.string (⟨#[108,105,109,105,116]⟩:ByteArray),.bool true,.bool false,.bool false,.bool false]) ?_ 2 _ rfl;refine blk_put (cs:=#[.string (⟨#[108,105,109,105,116]⟩:ByteArray),.bool false,.bool false,.bool false,.bool false]) ?_ 1 _ rfl;refine blk_put (cs:=#[.string ⟨#[]⟩,.bool false,.bool false,.bool false,.bool false]) ?_ 0 _ rfl;exact hS.out.box
 exact ⟨rfl,by repeat (first|exact hB.out|refine bst ?_ (Nat.le_refl _))⟩
set_option maxHeartbeats 40000000 in
set_option maxRecDepth 100000 in
theorem impl_formOf.at3 (w:World) :
 Calls Tryd.prog 33 #[.int .i64 3] w fun e w'=>e = .returned (.tuple #[.agg #[.string (⟨#[99,108,111,115,101]⟩:ByteArray),.bool true,.bool false,.bool false,.bool false],.bool true]) ∧ Below w.heap.size w w':=by
 refine impl_formOf.table 3 (fun w e w'=>e = .returned (.tuple #[.agg #[.string (⟨#[99,108,111,115,101]⟩:ByteArray),.bool true,.bool false,.bool false,.bool false],.bool true]) ∧ Below w.heap.size w w') w ?_;intro w2 g1 hS hB;have hb0:w2.cell? ⟨w.heap.size,0,none⟩ = some (.string ⟨#[]⟩):=(bkC hS.out.box 0).trans rfl;have hf0:w2.frozen? ⟨w.heap.size,0,none⟩ = false:=bkF hS.out.box 0;have hb1:w2.cell? ⟨w.heap.size,1,none⟩ = some (.bool false):=(bkC hS.out.box 1).trans rfl;have hf1:w2.frozen? ⟨w.heap.size,1,none⟩ = false:=bkF hS.out.box 1;have hb2:w2.cell? ⟨w.heap.size,2,none⟩ = some (.bool false):=(bkC hS.out.box 2).trans rfl;have hf2:w2.frozen? ⟨w.heap.size,2,none⟩ = false:=bkF hS.out.box 2;have hb3:w2.cell? ⟨w.heap.size,3,none⟩ = some (.bool false):=(bkC hS.out.box 3).trans rfl;have hf3:w2.frozen? ⟨w.heap.size,3,none⟩ = false:=bkF hS.out.box 3;have hb4:w2.cell? ⟨w.heap.size,4,none⟩ = some (.bool false):=(bkC hS.out.box 4).trans rfl;have hf4:w2.frozen? ⟨w.heap.size,4,none⟩ = false:=bkF hS.out.box 4;have hx0:w2.cell? ⟨g1,10,none⟩ = some (.string (⟨#[99,108,111,115,101]⟩:ByteArray)):=hS.out.cell 10 _ (by kernel_rfl);have hx1:w2.cell? ⟨g1,11,none⟩ = some (.bool true):=hS.out.cell 11 _ (by kernel_rfl);have hx2:w2.cell? ⟨g1,12,none⟩ = some (.bool false):=hS.out.cell 12 _ (by kernel_rfl);have hx3:w2.cell? ⟨g1,13,none⟩ = some (.bool false):=hS.out.cell 13 _ (by kernel_rfl);have hx4:w2.cell? ⟨g1,14,none⟩ = some (.bool false):=hS.out.cell 14 _ (by kernel_rfl);have hne:=hS.out.ne;simp only [impl_formOf.rest,Tryd.f33]
 go_wp2
 refine bodyPost_ret (results_ct rfl _ _ w.heap.size 53 #[.string (⟨#[99,108,111,115,101]⟩:ByteArray),.bool true,.bool false,.bool false,.bool false] (0,0) _ rfl ?hg Tryd.underlying53 rfl (by kernel_rfl)) rfl ?_
 case hg=>refine blk_put (cs:=#[.string (⟨#[99,108,111,115,101]⟩:ByteArray),.bool true,.bool false,.bool false,.bool false]) ?_ 4 _ rfl;refine blk_put (cs:=#[.string (⟨#[99,108,111,115,101]⟩:ByteArray),.bool true,.bool false,.bool false,.bool false]) ?_ 3 _ rfl;refine blk_put (cs:=#[.string (⟨#[99,108,111,115,101]⟩:ByteArray),.bool true,.bool false,.bool false,.bool false]) ?_ 2 _ rfl;refine blk_put (cs:=#[.string (⟨#[99,108,111,115,101]⟩:ByteArray),.bool false,.bool false,.bool false,.bool false]) ?_ 1 _ rfl;refine blk_put (cs:=#[.string ⟨#[]⟩,.bool false,.bool false,.bool false,.bool false]) ?_ 0 _ rfl;exact hS.out.box
 exact ⟨rfl,by repeat (first|exact hB.out|refine bst ?_ (Nat.le_refl _))⟩
set_option maxHeartbeats 40000000 in
set_option maxRecDepth 100000 in
theorem impl_formOf.at4 (w:World) :
 Calls Tryd.prog 33 #[.int .i64 4] w fun e w'=>e = .returned (.tuple #[.agg #[.string (⟨#[112,117,116]⟩:ByteArray),.bool true,.bool true,.bool false,.bool true],.bool true]) ∧ Below w.heap.size w w':=by
 refine impl_formOf.table 4 (fun w e w'=>e = .returned (.tuple #[.agg #[.string (⟨#[112,117,116]⟩:ByteArray),.bool true,.bool true,.bool false,.bool true],.bool true]) ∧ Below w.heap.size w w') w ?_;intro w2 g1 hS hB;have hb0:w2.cell? ⟨w.heap.size,0,none⟩ = some (.string ⟨#[]⟩):=(bkC hS.out.box 0).trans rfl;have hf0:w2.frozen? ⟨w.heap.size,0,none⟩ = false:=bkF hS.out.box 0;have hb1:w2.cell? ⟨w.heap.size,1,none⟩ = some (.bool false):=(bkC hS.out.box 1).trans rfl;have hf1:w2.frozen? ⟨w.heap.size,1,none⟩ = false:=bkF hS.out.box 1;have hb2:w2.cell? ⟨w.heap.size,2,none⟩ = some (.bool false):=(bkC hS.out.box 2).trans rfl;have hf2:w2.frozen? ⟨w.heap.size,2,none⟩ = false:=bkF hS.out.box 2;have hb3:w2.cell? ⟨w.heap.size,3,none⟩ = some (.bool false):=(bkC hS.out.box 3).trans rfl;have hf3:w2.frozen? ⟨w.heap.size,3,none⟩ = false:=bkF hS.out.box 3;have hb4:w2.cell? ⟨w.heap.size,4,none⟩ = some (.bool false):=(bkC hS.out.box 4).trans rfl;have hf4:w2.frozen? ⟨w.heap.size,4,none⟩ = false:=bkF hS.out.box 4;have hx0:w2.cell? ⟨g1,15,none⟩ = some (.string (⟨#[112,117,116]⟩:ByteArray)):=hS.out.cell 15 _ (by kernel_rfl);have hx1:w2.cell? ⟨g1,16,none⟩ = some (.bool true):=hS.out.cell 16 _ (by kernel_rfl);have hx2:w2.cell? ⟨g1,17,none⟩ = some (.bool true):=hS.out.cell 17 _ (by kernel_rfl);have hx3:w2.cell? ⟨g1,18,none⟩ = some (.bool false):=hS.out.cell 18 _ (by kernel_rfl);have hx4:w2.cell? ⟨g1,19,none⟩ = some (.bool true):=hS.out.cell 19 _ (by kernel_rfl);have hne:=hS.out.ne;simp only [impl_formOf.rest,Tryd.f33]
 go_wp2
 refine bodyPost_ret (results_ct rfl _ _ w.heap.size 53 #[.string (⟨#[112,117,116]⟩:ByteArray),.bool true,.bool true,.bool false,.bool true] (0,0) _ rfl ?hg Tryd.underlying53 rfl (by kernel_rfl)) rfl ?_
 case hg=>refine blk_put (cs:=#[.string (⟨#[112,117,116]⟩:ByteArray),.bool true,.bool true,.bool false,.bool false]) ?_ 4 _ rfl;refine blk_put (cs:=#[.string (⟨#[112,117,116]⟩:ByteArray),.bool true,.bool true,.bool false,.bool false]) ?_ 3 _ rfl;refine blk_put (cs:=#[.string (⟨#[112,117,116]⟩:ByteArray),.bool true,.bool false,.bool false,.bool false]) ?_ 2 _ rfl;refine blk_put (cs:=#[.string (⟨#[112,117,116]⟩:ByteArray),.bool false,.bool false,.bool false,.bool false]) ?_ 1 _ rfl;refine blk_put (cs:=#[.string ⟨#[]⟩,.bool false,.bool false,.bool false,.bool false]) ?_ 0 _ rfl;exact hS.out.box
 exact ⟨rfl,by repeat (first|exact hB.out|refine bst ?_ (Nat.le_refl _))⟩
set_option maxHeartbeats 40000000 in
set_option maxRecDepth 100000 in
theorem impl_formOf.at5 (w:World) :
 Calls Tryd.prog 33 #[.int .i64 5] w fun e w'=>e = .returned (.tuple #[.agg #[.string (⟨#[115,101,116]⟩:ByteArray),.bool true,.bool true,.bool true,.bool true],.bool true]) ∧ Below w.heap.size w w':=by
 refine impl_formOf.table 5 (fun w e w'=>e = .returned (.tuple #[.agg #[.string (⟨#[115,101,116]⟩:ByteArray),.bool true,.bool true,.bool true,.bool true],.bool true]) ∧ Below w.heap.size w w') w ?_;intro w2 g1 hS hB;have hb0:w2.cell? ⟨w.heap.size,0,none⟩ = some (.string ⟨#[]⟩):=(bkC hS.out.box 0).trans rfl;have hf0:w2.frozen? ⟨w.heap.size,0,none⟩ = false:=bkF hS.out.box 0;have hb1:w2.cell? ⟨w.heap.size,1,none⟩ = some (.bool false):=(bkC hS.out.box 1).trans rfl;have hf1:w2.frozen? ⟨w.heap.size,1,none⟩ = false:=bkF hS.out.box 1;have hb2:w2.cell? ⟨w.heap.size,2,none⟩ = some (.bool false):=(bkC hS.out.box 2).trans rfl;have hf2:w2.frozen? ⟨w.heap.size,2,none⟩ = false:=bkF hS.out.box 2;have hb3:w2.cell? ⟨w.heap.size,3,none⟩ = some (.bool false):=(bkC hS.out.box 3).trans rfl;have hf3:w2.frozen? ⟨w.heap.size,3,none⟩ = false:=bkF hS.out.box 3;have hb4:w2.cell? ⟨w.heap.size,4,none⟩ = some (.bool false):=(bkC hS.out.box 4).trans rfl;have hf4:w2.frozen? ⟨w.heap.size,4,none⟩ = false:=bkF hS.out.box 4;have hx0:w2.cell? ⟨g1,20,none⟩ = some (.string (⟨#[115,101,116]⟩:ByteArray)):=hS.out.cell 20 _ (by kernel_rfl);have hx1:w2.cell? ⟨g1,21,none⟩ = some (.bool true):=hS.out.cell 21 _ (by kernel_rfl);have hx2:w2.cell? ⟨g1,22,none⟩ = some (.bool true):=hS.out.cell 22 _ (by kernel_rfl);have hx3:w2.cell? ⟨g1,23,none⟩ = some (.bool true):=hS.out.cell 23 _ (by kernel_rfl);have hx4:w2.cell? ⟨g1,24,none⟩ = some (.bool true):=hS.out.cell 24 _ (by kernel_rfl);have hne:=hS.out.ne;simp only [impl_formOf.rest,Tryd.f33]
 go_wp2
 refine bodyPost_ret (results_ct rfl _ _ w.heap.size 53 #[.string (⟨#[115,101,116]⟩:ByteArray),.bool true,.bool true,.bool true,.bool true] (0,0) _ rfl ?hg Tryd.underlying53 rfl (by kernel_rfl)) rfl ?_
 case hg=>refine blk_put (cs:=#[.string (⟨#[115,101,116]⟩:ByteArray),.bool true,.bool true,.bool true,.bool false]) ?_ 4 _ rfl;refine blk_put (cs:=#[.string (⟨#[115,101,116]⟩:ByteArray),.bool true,.bool true,.bool false,.bool false]) ?_ 3 _ rfl;refine blk_put (cs:=#[.string (⟨#[115,101,116]⟩:ByteArray),.bool true,.bool false,.bool false,.bool false]) ?_ 2 _ rfl;refine blk_put (cs:=#[.string (⟨#[115,101,116]⟩:ByteArray),.bool false,.bool false,.bool false,.bool false]) ?_ 1 _ rfl;refine blk_put (cs:=#[.string ⟨#[]⟩,.bool false,.bool false,.bool false,.bool false]) ?_ 0 _ rfl;exact hS.out.box
 exact ⟨rfl,by repeat (first|exact hB.out|refine bst ?_ (Nat.le_refl _))⟩
set_option maxHeartbeats 40000000 in
set_option maxRecDepth 100000 in
theorem impl_formOf.at6 (w:World) :
 Calls Tryd.prog 33 #[.int .i64 6] w fun e w'=>e = .returned (.tuple #[.agg #[.string (⟨#[109,97,114,107]⟩:ByteArray),.bool true,.bool true,.bool false,.bool true],.bool true]) ∧ Below w.heap.size w w':=by
 refine impl_formOf.table 6 (fun w e w'=>e = .returned (.tuple #[.agg #[.string (⟨#[109,97,114,107]⟩:ByteArray),.bool true,.bool true,.bool false,.bool true],.bool true]) ∧ Below w.heap.size w w') w ?_;intro w2 g1 hS hB;have hb0:w2.cell? ⟨w.heap.size,0,none⟩ = some (.string ⟨#[]⟩):=(bkC hS.out.box 0).trans rfl;have hf0:w2.frozen? ⟨w.heap.size,0,none⟩ = false:=bkF hS.out.box 0;have hb1:w2.cell? ⟨w.heap.size,1,none⟩ = some (.bool false):=(bkC hS.out.box 1).trans rfl;have hf1:w2.frozen? ⟨w.heap.size,1,none⟩ = false:=bkF hS.out.box 1;have hb2:w2.cell? ⟨w.heap.size,2,none⟩ = some (.bool false):=(bkC hS.out.box 2).trans rfl;have hf2:w2.frozen? ⟨w.heap.size,2,none⟩ = false:=bkF hS.out.box 2;have hb3:w2.cell? ⟨w.heap.size,3,none⟩ = some (.bool false):=(bkC hS.out.box 3).trans rfl;have hf3:w2.frozen? ⟨w.heap.size,3,none⟩ = false:=bkF hS.out.box 3;have hb4:w2.cell? ⟨w.heap.size,4,none⟩ = some (.bool false):=(bkC hS.out.box 4).trans rfl;have hf4:w2.frozen? ⟨w.heap.size,4,none⟩ = false:=bkF hS.out.box 4;have hx0:w2.cell? ⟨g1,25,none⟩ = some (.string (⟨#[109,97,114,107]⟩:ByteArray)):=hS.out.cell 25 _ (by kernel_rfl);have hx1:w2.cell? ⟨g1,26,none⟩ = some (.bool true):=hS.out.cell 26 _ (by kernel_rfl);have hx2:w2.cell? ⟨g1,27,none⟩ = some (.bool true):=hS.out.cell 27 _ (by kernel_rfl);have hx3:w2.cell? ⟨g1,28,none⟩ = some (.bool false):=hS.out.cell 28 _ (by kernel_rfl);have hx4:w2.cell? ⟨g1,29,none⟩ = some (.bool true):=hS.out.cell 29 _ (by kernel_rfl);have hne:=hS.out.ne;simp only [impl_formOf.rest,Tryd.f33]
 go_wp2
 refine bodyPost_ret (results_ct rfl _ _ w.heap.size 53 #[.string (⟨#[109,97,114,107]⟩:ByteArray),.bool true,.bool true,.bool false,.bool true] (0,0) _ rfl ?hg Tryd.underlying53 rfl (by kernel_rfl)) rfl ?_
 case hg=>refine blk_put (cs:=#[.string (⟨#[109,97,114,107]⟩:ByteArray),.bool true,.bool true,.bool false,.bool false]) ?_ 4 _ rfl;refine blk_put (cs:=#[.string (⟨#[109,97,114,107]⟩:ByteArray),.bool true,.bool true,.bool false,.bool false]) ?_ 3 _ rfl;refine blk_put (cs:=#[.string (⟨#[109,97,114,107]⟩:ByteArray),.bool true,.bool false,.bool false,.bool false]) ?_ 2 _ rfl;refine blk_put (cs:=#[.string (⟨#[109,97,114,107]⟩:ByteArray),.bool false,.bool false,.bool false,.bool false]) ?_ 1 _ rfl;refine blk_put (cs:=#[.string ⟨#[]⟩,.bool false,.bool false,.bool false,.bool false]) ?_ 0 _ rfl;exact hS.out.box
 exact ⟨rfl,by repeat (first|exact hB.out|refine bst ?_ (Nat.le_refl _))⟩
set_option maxHeartbeats 40000000 in
set_option maxRecDepth 100000 in
theorem impl_formOf.at7 (w:World) :
 Calls Tryd.prog 33 #[.int .i64 7] w fun e w'=>e = .returned (.tuple #[.agg #[.string (⟨#[117,110,109,97,114,107]⟩:ByteArray),.bool true,.bool true,.bool false,.bool true],.bool true]) ∧ Below w.heap.size w w':=by
 refine impl_formOf.table 7 (fun w e w'=>e = .returned (.tuple #[.agg #[.string (⟨#[117,110,109,97,114,107]⟩:ByteArray),.bool true,.bool true,.bool false,.bool true],.bool true]) ∧ Below w.heap.size w w') w ?_;intro w2 g1 hS hB;have hb0:w2.cell? ⟨w.heap.size,0,none⟩ = some (.string ⟨#[]⟩):=(bkC hS.out.box 0).trans rfl;have hf0:w2.frozen? ⟨w.heap.size,0,none⟩ = false:=bkF hS.out.box 0;have hb1:w2.cell? ⟨w.heap.size,1,none⟩ = some (.bool false):=(bkC hS.out.box 1).trans rfl;have hf1:w2.frozen? ⟨w.heap.size,1,none⟩ = false:=bkF hS.out.box 1;have hb2:w2.cell? ⟨w.heap.size,2,none⟩ = some (.bool false):=(bkC hS.out.box 2).trans rfl;have hf2:w2.frozen? ⟨w.heap.size,2,none⟩ = false:=bkF hS.out.box 2;have hb3:w2.cell? ⟨w.heap.size,3,none⟩ = some (.bool false):=(bkC hS.out.box 3).trans rfl;have hf3:w2.frozen? ⟨w.heap.size,3,none⟩ = false:=bkF hS.out.box 3;have hb4:w2.cell? ⟨w.heap.size,4,none⟩ = some (.bool false):=(bkC hS.out.box 4).trans rfl;have hf4:w2.frozen? ⟨w.heap.size,4,none⟩ = false:=bkF hS.out.box 4;have hx0:w2.cell? ⟨g1,30,none⟩ = some (.string (⟨#[117,110,109,97,114,107]⟩:ByteArray)):=hS.out.cell 30 _ (by kernel_rfl);have hx1:w2.cell? ⟨g1,31,none⟩ = some (.bool true):=hS.out.cell 31 _ (by kernel_rfl);have hx2:w2.cell? ⟨g1,32,none⟩ = some (.bool true):=hS.out.cell 32 _ (by kernel_rfl);have hx3:w2.cell? ⟨g1,33,none⟩ = some (.bool false):=hS.out.cell 33 _ (by kernel_rfl);have hx4:w2.cell? ⟨g1,34,none⟩ = some (.bool true):=hS.out.cell 34 _ (by kernel_rfl);have hne:=hS.out.ne;simp only [impl_formOf.rest,Tryd.f33]
 go_wp2
 refine bodyPost_ret (results_ct rfl _ _ w.heap.size 53 #[.string (⟨#[117,110,109,97,114,107]⟩:ByteArray),.bool true,.bool true,.bool false,.bool true] (0,0) _ rfl ?hg Tryd.underlying53 rfl (by kernel_rfl)) rfl ?_
 case hg=>refine blk_put (cs:=#[.string (⟨#[117,110,109,97,114,107]⟩:ByteArray),.bool true,.bool true,.bool false,.bool false]) ?_ 4 _ rfl;refine blk_put (cs:=#[.string (⟨#[117,110,109,97,114,107]⟩:ByteArray),.bool true,.bool true,.bool false,.bool false]) ?_ 3 _ rfl;refine blk_put (cs:=#[.string (⟨#[117,110,109,97,114,107]⟩:ByteArray),.bool true,.bool false,.bool false,.bool false]) ?_ 2 _ rfl;refine blk_put (cs:=#[.string (⟨#[117,110,109,97,114,107]⟩:ByteArray),.bool false,.bool false,.bool false,.bool false]) ?_ 1 _ rfl;refine blk_put (cs:=#[.string ⟨#[]⟩,.bool false,.bool false,.bool false,.bool false]) ?_ 0 _ rfl;exact hS.out.box
 exact ⟨rfl,by repeat (first|exact hB.out|refine bst ?_ (Nat.le_refl _))⟩
set_option maxHeartbeats 40000000 in
set_option maxRecDepth 100000 in
theorem impl_formOf.at8 (w:World) :
 Calls Tryd.prog 33 #[.int .i64 8] w fun e w'=>e = .returned (.tuple #[.agg #[.string (⟨#[100,114,111,112]⟩:ByteArray),.bool true,.bool true,.bool false,.bool false],.bool true]) ∧ Below w.heap.size w w':=by
 refine impl_formOf.table 8 (fun w e w'=>e = .returned (.tuple #[.agg #[.string (⟨#[100,114,111,112]⟩:ByteArray),.bool true,.bool true,.bool false,.bool false],.bool true]) ∧ Below w.heap.size w w') w ?_;intro w2 g1 hS hB;have hb0:w2.cell? ⟨w.heap.size,0,none⟩ = some (.string ⟨#[]⟩):=(bkC hS.out.box 0).trans rfl;have hf0:w2.frozen? ⟨w.heap.size,0,none⟩ = false:=bkF hS.out.box 0;have hb1:w2.cell? ⟨w.heap.size,1,none⟩ = some (.bool false):=(bkC hS.out.box 1).trans rfl;have hf1:w2.frozen? ⟨w.heap.size,1,none⟩ = false:=bkF hS.out.box 1;have hb2:w2.cell? ⟨w.heap.size,2,none⟩ = some (.bool false):=(bkC hS.out.box 2).trans rfl;have hf2:w2.frozen? ⟨w.heap.size,2,none⟩ = false:=bkF hS.out.box 2;have hb3:w2.cell? ⟨w.heap.size,3,none⟩ = some (.bool false):=(bkC hS.out.box 3).trans rfl;have hf3:w2.frozen? ⟨w.heap.size,3,none⟩ = false:=bkF hS.out.box 3;have hb4:w2.cell? ⟨w.heap.size,4,none⟩ = some (.bool false):=(bkC hS.out.box 4).trans rfl;have hf4:w2.frozen? ⟨w.heap.size,4,none⟩ = false:=bkF hS.out.box 4;have hx0:w2.cell? ⟨g1,35,none⟩ = some (.string (⟨#[100,114,111,112]⟩:ByteArray)):=hS.out.cell 35 _ (by kernel_rfl);have hx1:w2.cell? ⟨g1,36,none⟩ = some (.bool true):=hS.out.cell 36 _ (by kernel_rfl);have hx2:w2.cell? ⟨g1,37,none⟩ = some (.bool true):=hS.out.cell 37 _ (by kernel_rfl);have hx3:w2.cell? ⟨g1,38,none⟩ = some (.bool false):=hS.out.cell 38 _ (by kernel_rfl);have hx4:w2.cell? ⟨g1,39,none⟩ = some (.bool false):=hS.out.cell 39 _ (by kernel_rfl);have hne:=hS.out.ne;simp only [impl_formOf.rest,Tryd.f33]
 go_wp2
 refine bodyPost_ret (results_ct rfl _ _ w.heap.size 53 #[.string (⟨#[100,114,111,112]⟩:ByteArray),.bool true,.bool true,.bool false,.bool false] (0,0) _ rfl ?hg Tryd.underlying53 rfl (by kernel_rfl)) rfl ?_
 case hg=>refine blk_put (cs:=#[.string (⟨#[100,114,111,112]⟩:ByteArray),.bool true,.bool true,.bool false,.bool false]) ?_ 4 _ rfl;refine blk_put (cs:=#[.string (⟨#[100,114,111,112]⟩:ByteArray),.bool true,.bool true,.bool false,.bool false]) ?_ 3 _ rfl;refine blk_put (cs:=#[.string (⟨#[100,114,111,112]⟩:ByteArray),.bool true,.bool false,.bool false,.bool false]) ?_ 2 _ rfl;refine blk_put (cs:=#[.string (⟨#[100,114,111,112]⟩:ByteArray),.bool false,.bool false,.bool false,.bool false]) ?_ 1 _ rfl;refine blk_put (cs:=#[.string ⟨#[]⟩,.bool false,.bool false,.bool false,.bool false]) ?_ 0 _ rfl;exact hS.out.box
 exact ⟨rfl,by repeat (first|exact hB.out|refine bst ?_ (Nat.le_refl _))⟩
set_option maxHeartbeats 40000000 in
set_option maxRecDepth 100000 in
theorem impl_formOf.at9 (w:World) :
 Calls Tryd.prog 33 #[.int .i64 9] w fun e w'=>e = .returned (.tuple #[.agg #[.string (⟨#[103,101,116]⟩:ByteArray),.bool true,.bool true,.bool false,.bool false],.bool true]) ∧ Below w.heap.size w w':=by
 refine impl_formOf.table 9 (fun w e w'=>e = .returned (.tuple #[.agg #[.string (⟨#[103,101,116]⟩:ByteArray),.bool true,.bool true,.bool false,.bool false],.bool true]) ∧ Below w.heap.size w w') w ?_;intro w2 g1 hS hB;have hb0:w2.cell? ⟨w.heap.size,0,none⟩ = some (.string ⟨#[]⟩):=(bkC hS.out.box 0).trans rfl;have hf0:w2.frozen? ⟨w.heap.size,0,none⟩ = false:=bkF hS.out.box 0;have hb1:w2.cell? ⟨w.heap.size,1,none⟩ = some (.bool false):=(bkC hS.out.box 1).trans rfl;have hf1:w2.frozen? ⟨w.heap.size,1,none⟩ = false:=bkF hS.out.box 1;have hb2:w2.cell? ⟨w.heap.size,2,none⟩ = some (.bool false):=(bkC hS.out.box 2).trans rfl;have hf2:w2.frozen? ⟨w.heap.size,2,none⟩ = false:=bkF hS.out.box 2;have hb3:w2.cell? ⟨w.heap.size,3,none⟩ = some (.bool false):=(bkC hS.out.box 3).trans rfl;have hf3:w2.frozen? ⟨w.heap.size,3,none⟩ = false:=bkF hS.out.box 3;have hb4:w2.cell? ⟨w.heap.size,4,none⟩ = some (.bool false):=(bkC hS.out.box 4).trans rfl;have hf4:w2.frozen? ⟨w.heap.size,4,none⟩ = false:=bkF hS.out.box 4;have hx0:w2.cell? ⟨g1,40,none⟩ = some (.string (⟨#[103,101,116]⟩:ByteArray)):=hS.out.cell 40 _ (by kernel_rfl);have hx1:w2.cell? ⟨g1,41,none⟩ = some (.bool true):=hS.out.cell 41 _ (by kernel_rfl);have hx2:w2.cell? ⟨g1,42,none⟩ = some (.bool true):=hS.out.cell 42 _ (by kernel_rfl);have hx3:w2.cell? ⟨g1,43,none⟩ = some (.bool false):=hS.out.cell 43 _ (by kernel_rfl);have hx4:w2.cell? ⟨g1,44,none⟩ = some (.bool false):=hS.out.cell 44 _ (by kernel_rfl);have hne:=hS.out.ne;simp only [impl_formOf.rest,Tryd.f33]
 go_wp2
 refine bodyPost_ret (results_ct rfl _ _ w.heap.size 53 #[.string (⟨#[103,101,116]⟩:ByteArray),.bool true,.bool true,.bool false,.bool false] (0,0) _ rfl ?hg Tryd.underlying53 rfl (by kernel_rfl)) rfl ?_
 case hg=>refine blk_put (cs:=#[.string (⟨#[103,101,116]⟩:ByteArray),.bool true,.bool true,.bool false,.bool false]) ?_ 4 _ rfl;refine blk_put (cs:=#[.string (⟨#[103,101,116]⟩:ByteArray),.bool true,.bool true,.bool false,.bool false]) ?_ 3 _ rfl;refine blk_put (cs:=#[.string (⟨#[103,101,116]⟩:ByteArray),.bool true,.bool false,.bool false,.bool false]) ?_ 2 _ rfl;refine blk_put (cs:=#[.string (⟨#[103,101,116]⟩:ByteArray),.bool false,.bool false,.bool false,.bool false]) ?_ 1 _ rfl;refine blk_put (cs:=#[.string ⟨#[]⟩,.bool false,.bool false,.bool false,.bool false]) ?_ 0 _ rfl;exact hS.out.box
 exact ⟨rfl,by repeat (first|exact hB.out|refine bst ?_ (Nat.le_refl _))⟩
set_option maxHeartbeats 40000000 in
set_option maxRecDepth 100000 in
theorem impl_formOf.at10 (w:World) :
 Calls Tryd.prog 33 #[.int .i64 10] w fun e w'=>e = .returned (.tuple #[.agg #[.string (⟨#[108,105,115,116]⟩:ByteArray),.bool true,.bool false,.bool false,.bool false],.bool true]) ∧ Below w.heap.size w w':=by
 refine impl_formOf.table 10 (fun w e w'=>e = .returned (.tuple #[.agg #[.string (⟨#[108,105,115,116]⟩:ByteArray),.bool true,.bool false,.bool false,.bool false],.bool true]) ∧ Below w.heap.size w w') w ?_;intro w2 g1 hS hB;have hb0:w2.cell? ⟨w.heap.size,0,none⟩ = some (.string ⟨#[]⟩):=(bkC hS.out.box 0).trans rfl;have hf0:w2.frozen? ⟨w.heap.size,0,none⟩ = false:=bkF hS.out.box 0;have hb1:w2.cell? ⟨w.heap.size,1,none⟩ = some (.bool false):=(bkC hS.out.box 1).trans rfl;have hf1:w2.frozen? ⟨w.heap.size,1,none⟩ = false:=bkF hS.out.box 1;have hb2:w2.cell? ⟨w.heap.size,2,none⟩ = some (.bool false):=(bkC hS.out.box 2).trans rfl;have hf2:w2.frozen? ⟨w.heap.size,2,none⟩ = false:=bkF hS.out.box 2;have hb3:w2.cell? ⟨w.heap.size,3,none⟩ = some (.bool false):=(bkC hS.out.box 3).trans rfl;have hf3:w2.frozen? ⟨w.heap.size,3,none⟩ = false:=bkF hS.out.box 3;have hb4:w2.cell? ⟨w.heap.size,4,none⟩ = some (.bool false):=(bkC hS.out.box 4).trans rfl;have hf4:w2.frozen? ⟨w.heap.size,4,none⟩ = false:=bkF hS.out.box 4;have hx0:w2.cell? ⟨g1,45,none⟩ = some (.string (⟨#[108,105,115,116]⟩:ByteArray)):=hS.out.cell 45 _ (by kernel_rfl);have hx1:w2.cell? ⟨g1,46,none⟩ = some (.bool true):=hS.out.cell 46 _ (by kernel_rfl);have hx2:w2.cell? ⟨g1,47,none⟩ = some (.bool false):=hS.out.cell 47 _ (by kernel_rfl);have hx3:w2.cell? ⟨g1,48,none⟩ = some (.bool false):=hS.out.cell 48 _ (by kernel_rfl);have hx4:w2.cell? ⟨g1,49,none⟩ = some (.bool false):=hS.out.cell 49 _ (by kernel_rfl);have hne:=hS.out.ne;simp only [impl_formOf.rest,Tryd.f33]
 go_wp2
 refine bodyPost_ret (results_ct rfl _ _ w.heap.size 53 #[.string (⟨#[108,105,115,116]⟩:ByteArray),.bool true,.bool false,.bool false,.bool false] (0,0) _ rfl ?hg Tryd.underlying53 rfl (by kernel_rfl)) rfl ?_
 case hg=>refine blk_put (cs:=#[.string (⟨#[108,105,115,116]⟩:ByteArray),.bool true,.bool false,.bool false,.bool false]) ?_ 4 _ rfl;refine blk_put (cs:=#[.string (⟨#[108,105,115,116]⟩:ByteArray),.bool true,.bool false,.bool false,.bool false]) ?_ 3 _ rfl;refine blk_put (cs:=#[.string (⟨#[108,105,115,116]⟩:ByteArray),.bool true,.bool false,.bool false,.bool false]) ?_ 2 _ rfl;refine blk_put (cs:=#[.string (⟨#[108,105,115,116]⟩:ByteArray),.bool false,.bool false,.bool false,.bool false]) ?_ 1 _ rfl;refine blk_put (cs:=#[.string ⟨#[]⟩,.bool false,.bool false,.bool false,.bool false]) ?_ 0 _ rfl;exact hS.out.box
 exact ⟨rfl,by repeat (first|exact hB.out|refine bst ?_ (Nat.le_refl _))⟩
set_option maxHeartbeats 40000000 in
set_option maxRecDepth 100000 in
theorem impl_formOf.at11 (w:World) :
 Calls Tryd.prog 33 #[.int .i64 11] w fun e w'=>e = .returned (.tuple #[.agg #[.string (⟨#[119,97,116,99,104]⟩:ByteArray),.bool true,.bool false,.bool true,.bool false],.bool true]) ∧ Below w.heap.size w w':=by
 refine impl_formOf.table 11 (fun w e w'=>e = .returned (.tuple #[.agg #[.string (⟨#[119,97,116,99,104]⟩:ByteArray),.bool true,.bool false,.bool true,.bool false],.bool true]) ∧ Below w.heap.size w w') w ?_;intro w2 g1 hS hB;have hb0:w2.cell? ⟨w.heap.size,0,none⟩ = some (.string ⟨#[]⟩):=(bkC hS.out.box 0).trans rfl;have hf0:w2.frozen? ⟨w.heap.size,0,none⟩ = false:=bkF hS.out.box 0;have hb1:w2.cell? ⟨w.heap.size,1,none⟩ = some (.bool false):=(bkC hS.out.box 1).trans rfl;have hf1:w2.frozen? ⟨w.heap.size,1,none⟩ = false:=bkF hS.out.box 1;have hb2:w2.cell? ⟨w.heap.size,2,none⟩ = some (.bool false):=(bkC hS.out.box 2).trans rfl;have hf2:w2.frozen? ⟨w.heap.size,2,none⟩ = false:=bkF hS.out.box 2;have hb3:w2.cell? ⟨w.heap.size,3,none⟩ = some (.bool false):=(bkC hS.out.box 3).trans rfl;have hf3:w2.frozen? ⟨w.heap.size,3,none⟩ = false:=bkF hS.out.box 3;have hb4:w2.cell? ⟨w.heap.size,4,none⟩ = some (.bool false):=(bkC hS.out.box 4).trans rfl;have hf4:w2.frozen? ⟨w.heap.size,4,none⟩ = false:=bkF hS.out.box 4;have hx0:w2.cell? ⟨g1,50,none⟩ = some (.string (⟨#[119,97,116,99,104]⟩:ByteArray)):=hS.out.cell 50 _ (by kernel_rfl);have hx1:w2.cell? ⟨g1,51,none⟩ = some (.bool true):=hS.out.cell 51 _ (by kernel_rfl);have hx2:w2.cell? ⟨g1,52,none⟩ = some (.bool false):=hS.out.cell 52 _ (by kernel_rfl);have hx3:w2.cell? ⟨g1,53,none⟩ = some (.bool true):=hS.out.cell 53 _ (by kernel_rfl);have hx4:w2.cell? ⟨g1,54,none⟩ = some (.bool false):=hS.out.cell 54 _ (by kernel_rfl);have hne:=hS.out.ne;simp only [impl_formOf.rest,Tryd.f33]
 go_wp2
 refine bodyPost_ret (results_ct rfl _ _ w.heap.size 53 #[.string (⟨#[119,97,116,99,104]⟩:ByteArray),.bool true,.bool false,.bool true,.bool false] (0,0) _ rfl ?hg Tryd.underlying53 rfl (by kernel_rfl)) rfl ?_
 case hg=>refine blk_put (cs:=#[.string (⟨#[119,97,116,99,104]⟩:ByteArray),.bool true,.bool false,.bool true,.bool false]) ?_ 4 _ rfl;refine blk_put (cs:=#[.string (⟨#[119,97,116,99,104]⟩:ByteArray),.bool true,.bool false,.bool false,.bool false]) ?_ 3 _ rfl;refine blk_put (cs:=#[.string (⟨#[119,97,116,99,104]⟩:ByteArray),.bool true,.bool false,.bool false,.bool false]) ?_ 2 _ rfl;refine blk_put (cs:=#[.string (⟨#[119,97,116,99,104]⟩:ByteArray),.bool false,.bool false,.bool false,.bool false]) ?_ 1 _ rfl;refine blk_put (cs:=#[.string ⟨#[]⟩,.bool false,.bool false,.bool false,.bool false]) ?_ 0 _ rfl;exact hS.out.box
 exact ⟨rfl,by repeat (first|exact hB.out|refine bst ?_ (Nat.le_refl _))⟩
set_option maxHeartbeats 40000000 in
set_option maxRecDepth 100000 in
theorem impl_formOf.at12 (w:World) :
 Calls Tryd.prog 33 #[.int .i64 12] w fun e w'=>e = .returned (.tuple #[.agg #[.string (⟨#[115,116,101,112]⟩:ByteArray),.bool false,.bool false,.bool false,.bool false],.bool true]) ∧ Below w.heap.size w w':=by
 refine impl_formOf.table 12 (fun w e w'=>e = .returned (.tuple #[.agg #[.string (⟨#[115,116,101,112]⟩:ByteArray),.bool false,.bool false,.bool false,.bool false],.bool true]) ∧ Below w.heap.size w w') w ?_;intro w2 g1 hS hB;have hb0:w2.cell? ⟨w.heap.size,0,none⟩ = some (.string ⟨#[]⟩):=(bkC hS.out.box 0).trans rfl;have hf0:w2.frozen? ⟨w.heap.size,0,none⟩ = false:=bkF hS.out.box 0;have hb1:w2.cell? ⟨w.heap.size,1,none⟩ = some (.bool false):=(bkC hS.out.box 1).trans rfl;have hf1:w2.frozen? ⟨w.heap.size,1,none⟩ = false:=bkF hS.out.box 1;have hb2:w2.cell? ⟨w.heap.size,2,none⟩ = some (.bool false):=(bkC hS.out.box 2).trans rfl;have hf2:w2.frozen? ⟨w.heap.size,2,none⟩ = false:=bkF hS.out.box 2;have hb3:w2.cell? ⟨w.heap.size,3,none⟩ = some (.bool false):=(bkC hS.out.box 3).trans rfl;have hf3:w2.frozen? ⟨w.heap.size,3,none⟩ = false:=bkF hS.out.box 3;have hb4:w2.cell? ⟨w.heap.size,4,none⟩ = some (.bool false):=(bkC hS.out.box 4).trans rfl;have hf4:w2.frozen? ⟨w.heap.size,4,none⟩ = false:=bkF hS.out.box 4;have hx0:w2.cell? ⟨g1,55,none⟩ = some (.string (⟨#[115,116,101,112]⟩:ByteArray)):=hS.out.cell 55 _ (by kernel_rfl);have hx1:w2.cell? ⟨g1,56,none⟩ = some (.bool false):=hS.out.cell 56 _ (by kernel_rfl);have hx2:w2.cell? ⟨g1,57,none⟩ = some (.bool false):=hS.out.cell 57 _ (by kernel_rfl);have hx3:w2.cell? ⟨g1,58,none⟩ = some (.bool false):=hS.out.cell 58 _ (by kernel_rfl);have hx4:w2.cell? ⟨g1,59,none⟩ = some (.bool false):=hS.out.cell 59 _ (by kernel_rfl);have hne:=hS.out.ne;simp only [impl_formOf.rest,Tryd.f33]
 go_wp2
 refine bodyPost_ret (results_ct rfl _ _ w.heap.size 53 #[.string (⟨#[115,116,101,112]⟩:ByteArray),.bool false,.bool false,.bool false,.bool false] (0,0) _ rfl ?hg Tryd.underlying53 rfl (by kernel_rfl)) rfl ?_
 case hg=>refine blk_put (cs:=#[.string (⟨#[115,116,101,112]⟩:ByteArray),.bool false,.bool false,.bool false,.bool false]) ?_ 4 _ rfl;refine blk_put (cs:=#[.string (⟨#[115,116,101,112]⟩:ByteArray),.bool false,.bool false,.bool false,.bool false]) ?_ 3 _ rfl;refine blk_put (cs:=#[.string (⟨#[115,116,101,112]⟩:ByteArray),.bool false,.bool false,.bool false,.bool false]) ?_ 2 _ rfl;refine blk_put (cs:=#[.string (⟨#[115,116,101,112]⟩:ByteArray),.bool false,.bool false,.bool false,.bool false]) ?_ 1 _ rfl;refine blk_put (cs:=#[.string ⟨#[]⟩,.bool false,.bool false,.bool false,.bool false]) ?_ 0 _ rfl;exact hS.out.box
 exact ⟨rfl,by repeat (first|exact hB.out|refine bst ?_ (Nat.le_refl _))⟩
theorem impl_formOf.calls (a0:Int) (r1:ByteArray) (r2 r3 r4 r5 r6:Bool) (w:World) (h:impl_formOf.f a0 = some (r1,r2,r3,r4,r5,r6)) :
 Calls Tryd.prog 33 #[.int .i64 a0] w fun e w'=>e = .returned (.tuple #[.agg #[.string r1,.bool r2,.bool r3,.bool r4,.bool r5],.bool r6]) ∧ Below w.heap.size w w':=by
 unfold impl_formOf.f at h;replace h:=Option.some.inj h;by_cases hlo:a0 < 1
 · rw [if_neg (by omega),if_neg (by omega),if_neg (by omega),if_neg (by omega),if_neg (by omega),if_neg (by omega),if_neg (by omega),if_neg (by omega),if_neg (by omega),if_neg (by omega),if_neg (by omega),if_neg (by omega)] at h
   simp only [Prod.mk.injEq] at h;obtain ⟨rfl,rfl,rfl,rfl,rfl,rfl⟩:=h
   exact impl_formOf.lo a0 hlo w
 by_cases hhi:a0 > 12
 · rw [if_neg (by omega),if_neg (by omega),if_neg (by omega),if_neg (by omega),if_neg (by omega),if_neg (by omega),if_neg (by omega),if_neg (by omega),if_neg (by omega),if_neg (by omega),if_neg (by omega),if_neg (by omega)] at h
   simp only [Prod.mk.injEq] at h;obtain ⟨rfl,rfl,rfl,rfl,rfl,rfl⟩:=h
   exact impl_formOf.hi a0 hhi w
 have hc:a0 = 1 ∨ a0 = 2 ∨ a0 = 3 ∨ a0 = 4 ∨ a0 = 5 ∨ a0 = 6 ∨ a0 = 7 ∨ a0 = 8 ∨ a0 = 9 ∨ a0 = 10 ∨ a0 = 11 ∨ a0 = 12:=by omega
 rcases hc with rfl|rfl|rfl|rfl|rfl|rfl|rfl|rfl|rfl|rfl|rfl|rfl
 · rw [if_pos rfl] at h
   simp only [Prod.mk.injEq] at h;obtain ⟨rfl,rfl,rfl,rfl,rfl,rfl⟩:=h
   exact impl_formOf.at1 w
 · rw [if_neg (by omega),if_pos rfl] at h
   simp only [Prod.mk.injEq] at h;obtain ⟨rfl,rfl,rfl,rfl,rfl,rfl⟩:=h
   exact impl_formOf.at2 w
 · rw [if_neg (by omega),if_neg (by omega),if_pos rfl] at h
   simp only [Prod.mk.injEq] at h;obtain ⟨rfl,rfl,rfl,rfl,rfl,rfl⟩:=h
   exact impl_formOf.at3 w
 · rw [if_neg (by omega),if_neg (by omega),if_neg (by omega),if_pos rfl] at h
   simp only [Prod.mk.injEq] at h;obtain ⟨rfl,rfl,rfl,rfl,rfl,rfl⟩:=h
   exact impl_formOf.at4 w
 · rw [if_neg (by omega),if_neg (by omega),if_neg (by omega),if_neg (by omega),if_pos rfl] at h
   simp only [Prod.mk.injEq] at h;obtain ⟨rfl,rfl,rfl,rfl,rfl,rfl⟩:=h
   exact impl_formOf.at5 w
 · rw [if_neg (by omega),if_neg (by omega),if_neg (by omega),if_neg (by omega),if_neg (by omega),if_pos rfl] at h
   simp only [Prod.mk.injEq] at h;obtain ⟨rfl,rfl,rfl,rfl,rfl,rfl⟩:=h
   exact impl_formOf.at6 w
 · rw [if_neg (by omega),if_neg (by omega),if_neg (by omega),if_neg (by omega),if_neg (by omega),if_neg (by omega),if_pos rfl] at h
   simp only [Prod.mk.injEq] at h;obtain ⟨rfl,rfl,rfl,rfl,rfl,rfl⟩:=h
   exact impl_formOf.at7 w
 · rw [if_neg (by omega),if_neg (by omega),if_neg (by omega),if_neg (by omega),if_neg (by omega),if_neg (by omega),if_neg (by omega),if_pos rfl] at h
   simp only [Prod.mk.injEq] at h;obtain ⟨rfl,rfl,rfl,rfl,rfl,rfl⟩:=h
   exact impl_formOf.at8 w
 · rw [if_neg (by omega),if_neg (by omega),if_neg (by omega),if_neg (by omega),if_neg (by omega),if_neg (by omega),if_neg (by omega),if_neg (by omega),if_pos rfl] at h
   simp only [Prod.mk.injEq] at h;obtain ⟨rfl,rfl,rfl,rfl,rfl,rfl⟩:=h
   exact impl_formOf.at9 w
 · rw [if_neg (by omega),if_neg (by omega),if_neg (by omega),if_neg (by omega),if_neg (by omega),if_neg (by omega),if_neg (by omega),if_neg (by omega),if_neg (by omega),if_pos rfl] at h
   simp only [Prod.mk.injEq] at h;obtain ⟨rfl,rfl,rfl,rfl,rfl,rfl⟩:=h
   exact impl_formOf.at10 w
 · rw [if_neg (by omega),if_neg (by omega),if_neg (by omega),if_neg (by omega),if_neg (by omega),if_neg (by omega),if_neg (by omega),if_neg (by omega),if_neg (by omega),if_neg (by omega),if_pos rfl] at h
   simp only [Prod.mk.injEq] at h;obtain ⟨rfl,rfl,rfl,rfl,rfl,rfl⟩:=h
   exact impl_formOf.at11 w
 · rw [if_neg (by omega),if_neg (by omega),if_neg (by omega),if_neg (by omega),if_neg (by omega),if_neg (by omega),if_neg (by omega),if_neg (by omega),if_neg (by omega),if_neg (by omega),if_neg (by omega),if_pos rfl] at h
   simp only [Prod.mk.injEq] at h;obtain ⟨rfl,rfl,rfl,rfl,rfl,rfl⟩:=h
   exact impl_formOf.at12 w
end Go.Proofs.YtbhnjglfjhfljaaDoor.P
/-
 DERIVED: THE SHELF's CONTRACTS AT THIS DUMP, IN PLAIN WORDS (tools/lay-plain.mjs out of 'TrydShelf.lean', which tools/lay-shelf.mjs wrote): THE SAME DECLARATIONS UNDER THE SAME NAMES: 'import', 'namespace', 'open', 'def', 'theorem' AND NOTHING ELSE: no command of the shelf's: FOR A HAND-IN. Each laying: the table of numbers ('.._ren') and one theorem, a field a fact of the dump's own or the kernel's comparison; each contract: ONE APPLICATION.
-/
namespace Go.Proofs
open Go.Shelf
def Tryd.lays160_ren:Go.Shelf.Ren:=⟨fun|160=>46|232=>52|231=>51|227=>53|234=>55|233=>54|236=>57|235=>56|228=>65|271=>68|151=>67|197=>66|120=>82|152=>81|260=>80|137=>91|119=>92|224=>61|225=>60|217=>59|266=>73|n=>n,fun|9=>9|4=>4|3=>3|5=>5|117=>74|116=>73|0=>0|124=>77|21=>21|105=>83|46=>80|119=>113|139=>116|138=>115|n=>n,fun|3=>4|4=>5|n=>n⟩
theorem Tryd.lays160:Go.Proofs.Lays.n160 Tryd.prog Tryd.lays160_ren:={
 mixed:=by kernel_rfl
 f119:=Tryd.func92.trans (congrArg some (by kernel_rfl))
 f120:=Tryd.func82.trans (congrArg some (by kernel_rfl))
 f137:=Tryd.func91.trans (congrArg some (by kernel_rfl))
 f151:=Tryd.func67.trans (congrArg some (by kernel_rfl))
 f152:=Tryd.func81.trans (congrArg some (by kernel_rfl))
 f160:=Tryd.func46.trans (congrArg some (by kernel_rfl))
 f197:=Tryd.func66.trans (congrArg some (by kernel_rfl))
 f217:=Tryd.func59.trans (congrArg some (by kernel_rfl))
 f224:=Tryd.func61.trans (congrArg some (by kernel_rfl))
 f225:=Tryd.func60.trans (congrArg some (by kernel_rfl))
 f227:=Tryd.func53.trans (congrArg some (by kernel_rfl))
 f228:=Tryd.func65.trans (congrArg some (by kernel_rfl))
 f231:=Tryd.func51.trans (congrArg some (by kernel_rfl))
 f232:=Tryd.func52.trans (congrArg some (by kernel_rfl))
 f233:=Tryd.func54.trans (congrArg some (by kernel_rfl))
 f234:=Tryd.func55.trans (congrArg some (by kernel_rfl))
 f235:=Tryd.func56.trans (congrArg some (by kernel_rfl))
 f236:=Tryd.func57.trans (congrArg some (by kernel_rfl))
 f260:=Tryd.func80.trans (congrArg some (by kernel_rfl))
 f266:=Tryd.func73.trans (congrArg some (by kernel_rfl))
 f271:=Tryd.func68.trans (congrArg some (by kernel_rfl))
 t0:=Tryd.underlying0
 a0:=Tryd.isAgg0
 z0:=Tryd.sizeOf0
 v0:=Tryd.zeroValue0
 t3:=Tryd.underlying3
 a3:=Tryd.isAgg3
 z3:=Tryd.sizeOf3
 v3:=Tryd.zeroValue3
 t4:=Tryd.underlying4
 a4:=Tryd.isAgg4
 z4:=Tryd.sizeOf4
 v4:=Tryd.zeroValue4
 t5:=Tryd.underlying5
 a5:=Tryd.isAgg5
 z5:=Tryd.sizeOf5
 v5:=Tryd.zeroValue5
 t9:=Tryd.underlying9
 a9:=Tryd.isAgg9
 z9:=Tryd.sizeOf9
 v9:=Tryd.zeroValue9
 t21:=Tryd.underlying21
 a21:=Tryd.isAgg21
 z21:=Tryd.sizeOf21
 v21:=Tryd.zeroValue21
 t46:=Tryd.underlying80
 a46:=Tryd.isAgg80
 z46:=Tryd.sizeOf80
 v46:=Tryd.zeroValue80
 t105:=Tryd.underlying83
 a105:=Tryd.isAgg83
 z105:=Tryd.sizeOf83
 v105:=Tryd.zeroValue83
 t116:=Tryd.underlying73
 a116:=Tryd.isAgg73
 z116:=Tryd.sizeOf73
 t117:=Tryd.underlying74
 a117:=Tryd.isAgg74
 z117:=Tryd.sizeOf74
 v117:=Tryd.zeroValue74
 t119:=Tryd.underlying113
 a119:=Tryd.isAgg113
 z119:=Tryd.sizeOf113
 t124:=Tryd.underlying77
 a124:=Tryd.isAgg77
 z124:=Tryd.sizeOf77
 v124:=Tryd.zeroValue77
 t138:=Tryd.underlying115
 a138:=Tryd.isAgg115
 z138:=Tryd.sizeOf115
 v138:=Tryd.zeroValue115
 t139:=Tryd.underlying116
 a139:=Tryd.isAgg116
 z139:=Tryd.sizeOf116
 v139:=Tryd.zeroValue116
 g3:=by kernel_rfl
 g4:=by kernel_rfl }
def Tryd.lays172_ren:Go.Shelf.Ren:=⟨fun|172=>50|244=>63|245=>64|247=>75|279=>76|280=>77|281=>78|282=>79|287=>88|316=>89|171=>40|205=>90|321=>95|322=>96|243=>48|246=>58|283=>69|284=>70|285=>71|286=>72|129=>84|317=>83|318=>85|319=>86|320=>87|337=>93|338=>94|n=>n,fun|9=>9|3=>3|75=>68|76=>69|4=>4|5=>5|167=>95|37=>22|0=>0|85=>96|2=>2|168=>98|53=>87|175=>107|46=>80|210=>111|127=>120|145=>123|143=>121|21=>21|171=>86|173=>90|212=>103|51=>92|20=>20|213=>104|232=>124|233=>125|80=>58|n=>n,fun|15=>2|16=>3|17=>1|18=>6|19=>7|n=>n⟩
theorem Tryd.lays172:Go.Proofs.Lays.n172 Tryd.prog Tryd.lays172_ren:={
 mixed:=by kernel_rfl
 f129:=Tryd.func84.trans (congrArg some (by kernel_rfl))
 f171:=Tryd.func40.trans (congrArg some (by kernel_rfl))
 f172:=Tryd.func50.trans (congrArg some (by kernel_rfl))
 f205:=Tryd.func90.trans (congrArg some (by kernel_rfl))
 f243:=Tryd.func48.trans (congrArg some (by kernel_rfl))
 f244:=Tryd.func63.trans (congrArg some (by kernel_rfl))
 f245:=Tryd.func64.trans (congrArg some (by kernel_rfl))
 f246:=Tryd.func58.trans (congrArg some (by kernel_rfl))
 f247:=Tryd.func75.trans (congrArg some (by kernel_rfl))
 f279:=Tryd.func76.trans (congrArg some (by kernel_rfl))
 f280:=Tryd.func77.trans (congrArg some (by kernel_rfl))
 f281:=Tryd.func78.trans (congrArg some (by kernel_rfl))
 f282:=Tryd.func79.trans (congrArg some (by kernel_rfl))
 f283:=Tryd.func69.trans (congrArg some (by kernel_rfl))
 f284:=Tryd.func70.trans (congrArg some (by kernel_rfl))
 f285:=Tryd.func71.trans (congrArg some (by kernel_rfl))
 f286:=Tryd.func72.trans (congrArg some (by kernel_rfl))
 f287:=Tryd.func88.trans (congrArg some (by kernel_rfl))
 f316:=Tryd.func89.trans (congrArg some (by kernel_rfl))
 f317:=Tryd.func83.trans (congrArg some (by kernel_rfl))
 f318:=Tryd.func85.trans (congrArg some (by kernel_rfl))
 f319:=Tryd.func86.trans (congrArg some (by kernel_rfl))
 f320:=Tryd.func87.trans (congrArg some (by kernel_rfl))
 f321:=Tryd.func95.trans (congrArg some (by kernel_rfl))
 f322:=Tryd.func96.trans (congrArg some (by kernel_rfl))
 f337:=Tryd.func93.trans (congrArg some (by kernel_rfl))
 f338:=Tryd.func94.trans (congrArg some (by kernel_rfl))
 t0:=Tryd.underlying0
 a0:=Tryd.isAgg0
 z0:=Tryd.sizeOf0
 v0:=Tryd.zeroValue0
 t2:=Tryd.underlying2
 a2:=Tryd.isAgg2
 z2:=Tryd.sizeOf2
 v2:=Tryd.zeroValue2
 t3:=Tryd.underlying3
 a3:=Tryd.isAgg3
 z3:=Tryd.sizeOf3
 v3:=Tryd.zeroValue3
 t4:=Tryd.underlying4
 a4:=Tryd.isAgg4
 z4:=Tryd.sizeOf4
 v4:=Tryd.zeroValue4
 t5:=Tryd.underlying5
 a5:=Tryd.isAgg5
 z5:=Tryd.sizeOf5
 v5:=Tryd.zeroValue5
 t9:=Tryd.underlying9
 a9:=Tryd.isAgg9
 z9:=Tryd.sizeOf9
 v9:=Tryd.zeroValue9
 t20:=Tryd.underlying20
 a20:=Tryd.isAgg20
 z20:=Tryd.sizeOf20
 v20:=Tryd.zeroValue20
 t21:=Tryd.underlying21
 a21:=Tryd.isAgg21
 z21:=Tryd.sizeOf21
 v21:=Tryd.zeroValue21
 t37:=Tryd.underlying22
 a37:=Tryd.isAgg22
 z37:=Tryd.sizeOf22
 v37:=Tryd.zeroValue22
 t46:=Tryd.underlying80
 a46:=Tryd.isAgg80
 z46:=Tryd.sizeOf80
 v46:=Tryd.zeroValue80
 t51:=Tryd.underlying92
 a51:=Tryd.isAgg92
 z51:=Tryd.sizeOf92
 v51:=Tryd.zeroValue92
 t53:=Tryd.underlying87
 a53:=Tryd.isAgg87
 z53:=Tryd.sizeOf87
 v53:=Tryd.zeroValue87
 t75:=Tryd.underlying68
 a75:=Tryd.isAgg68
 z75:=Tryd.sizeOf68
 v75:=Tryd.zeroValue68
 t76:=Tryd.underlying69
 a76:=Tryd.isAgg69
 z76:=Tryd.sizeOf69
 v76:=Tryd.zeroValue69
 t85:=Tryd.underlying96
 a85:=Tryd.isAgg96
 z85:=Tryd.sizeOf96
 v85:=Tryd.zeroValue96
 t127:=Tryd.underlying120
 a127:=Tryd.isAgg120
 z127:=Tryd.sizeOf120
 v127:=Tryd.zeroValue120
 t143:=Tryd.underlying121
 a143:=Tryd.isAgg121
 z143:=Tryd.sizeOf121
 v143:=Tryd.zeroValue121
 t145:=Tryd.underlying123
 a145:=Tryd.isAgg123
 z145:=Tryd.sizeOf123
 v145:=Tryd.zeroValue123
 t167:=Tryd.underlying95
 a167:=Tryd.isAgg95
 z167:=Tryd.sizeOf95
 v167:=Tryd.zeroValue95
 t168:=Tryd.underlying98
 a168:=Tryd.isAgg98
 z168:=Tryd.sizeOf98
 v168:=Tryd.zeroValue98
 t171:=Tryd.underlying86
 a171:=Tryd.isAgg86
 z171:=Tryd.sizeOf86
 v171:=Tryd.zeroValue86
 t173:=Tryd.underlying90
 a173:=Tryd.isAgg90
 z173:=Tryd.sizeOf90
 v173:=Tryd.zeroValue90
 t175:=Tryd.underlying107
 a175:=Tryd.isAgg107
 z175:=Tryd.sizeOf107
 v175:=Tryd.zeroValue107
 t210:=Tryd.underlying111
 a210:=Tryd.isAgg111
 z210:=Tryd.sizeOf111
 v210:=Tryd.zeroValue111
 t212:=Tryd.underlying103
 a212:=Tryd.isAgg103
 z212:=Tryd.sizeOf103
 v212:=Tryd.zeroValue103
 t213:=Tryd.underlying104
 a213:=Tryd.isAgg104
 z213:=Tryd.sizeOf104
 t232:=Tryd.underlying124
 a232:=Tryd.isAgg124
 z232:=Tryd.sizeOf124
 v232:=Tryd.zeroValue124
 t233:=Tryd.underlying125
 a233:=Tryd.isAgg125
 z233:=Tryd.sizeOf125
 v233:=Tryd.zeroValue125
 g15:=by kernel_rfl
 g16:=by kernel_rfl
 g17:=by kernel_rfl
 g18:=by kernel_rfl
 g19:=by kernel_rfl }
open Go.RowKit in
theorem Tryd.strconv_Atoi (s:ByteArray) (n:Int) (hl:s.size ≤ 18) (h:Lib.atoi s.data.toList = some n) (w:World) :
 Calls Tryd.prog 50 #[.string s] w fun e w'=>e = .returned (.tuple #[.int .i64 n,.nilIface]) ∧ ∃ t,w' = Lib.bytesWorld w 5 t:=Any.strconv_Atoi Tryd.lays172 s n hl h w
def Tryd.laysM171_ren:Go.Shelf.Ren:=⟨fun|171=>40|243=>48|246=>58|283=>69|284=>70|285=>71|286=>72|129=>84|317=>83|318=>85|319=>86|320=>87|337=>93|338=>94|n=>n,fun|3=>3|9=>9|2=>2|4=>4|171=>86|0=>0|53=>87|37=>22|5=>5|173=>90|212=>103|51=>92|20=>20|213=>104|46=>80|232=>124|233=>125|n=>n,fun|17=>1|18=>6|19=>7|n=>n⟩
theorem Tryd.laysM171:Go.Proofs.LaysM.n171 Tryd.prog Tryd.laysM171_ren:={
 mixed:=by kernel_rfl
 f129:=Tryd.func84.trans (congrArg some (by kernel_rfl))
 f171:=Tryd.func40.trans (congrArg some (by kernel_rfl))
 f243:=Tryd.func48.trans (congrArg some (by kernel_rfl))
 f246:=Tryd.func58.trans (congrArg some (by kernel_rfl))
 f283:=Tryd.func69.trans (congrArg some (by kernel_rfl))
 f284:=Tryd.func70.trans (congrArg some (by kernel_rfl))
 f285:=Tryd.func71.trans (congrArg some (by kernel_rfl))
 f286:=Tryd.func72.trans (congrArg some (by kernel_rfl))
 f317:=Tryd.func83.trans (congrArg some (by kernel_rfl))
 f318:=Tryd.func85.trans (congrArg some (by kernel_rfl))
 f319:=Tryd.func86.trans (congrArg some (by kernel_rfl))
 f320:=Tryd.func87.trans (congrArg some (by kernel_rfl))
 f337:=Tryd.func93.trans (congrArg some (by kernel_rfl))
 f338:=Tryd.func94.trans (congrArg some (by kernel_rfl))
 t0:=Tryd.underlying0
 a0:=Tryd.isAgg0
 z0:=Tryd.sizeOf0
 v0:=Tryd.zeroValue0
 t2:=Tryd.underlying2
 a2:=Tryd.isAgg2
 z2:=Tryd.sizeOf2
 v2:=Tryd.zeroValue2
 t3:=Tryd.underlying3
 a3:=Tryd.isAgg3
 z3:=Tryd.sizeOf3
 v3:=Tryd.zeroValue3
 t4:=Tryd.underlying4
 a4:=Tryd.isAgg4
 z4:=Tryd.sizeOf4
 v4:=Tryd.zeroValue4
 t5:=Tryd.underlying5
 a5:=Tryd.isAgg5
 z5:=Tryd.sizeOf5
 v5:=Tryd.zeroValue5
 t9:=Tryd.underlying9
 a9:=Tryd.isAgg9
 z9:=Tryd.sizeOf9
 v9:=Tryd.zeroValue9
 t20:=Tryd.underlying20
 a20:=Tryd.isAgg20
 z20:=Tryd.sizeOf20
 v20:=Tryd.zeroValue20
 t37:=Tryd.underlying22
 a37:=Tryd.isAgg22
 z37:=Tryd.sizeOf22
 v37:=Tryd.zeroValue22
 t46:=Tryd.underlying80
 a46:=Tryd.isAgg80
 z46:=Tryd.sizeOf80
 v46:=Tryd.zeroValue80
 t51:=Tryd.underlying92
 a51:=Tryd.isAgg92
 z51:=Tryd.sizeOf92
 v51:=Tryd.zeroValue92
 t53:=Tryd.underlying87
 a53:=Tryd.isAgg87
 z53:=Tryd.sizeOf87
 v53:=Tryd.zeroValue87
 t171:=Tryd.underlying86
 a171:=Tryd.isAgg86
 z171:=Tryd.sizeOf86
 v171:=Tryd.zeroValue86
 t173:=Tryd.underlying90
 a173:=Tryd.isAgg90
 z173:=Tryd.sizeOf90
 v173:=Tryd.zeroValue90
 t212:=Tryd.underlying103
 a212:=Tryd.isAgg103
 z212:=Tryd.sizeOf103
 v212:=Tryd.zeroValue103
 t213:=Tryd.underlying104
 a213:=Tryd.isAgg104
 z213:=Tryd.sizeOf104
 t232:=Tryd.underlying124
 a232:=Tryd.isAgg124
 z232:=Tryd.sizeOf124
 v232:=Tryd.zeroValue124
 t233:=Tryd.underlying125
 a233:=Tryd.isAgg125
 z233:=Tryd.sizeOf125
 v233:=Tryd.zeroValue125
 g17:=by kernel_rfl
 g18:=by kernel_rfl
 g19:=by kernel_rfl
 i0:=by kernel_rfl
 i2:=by kernel_rfl
 i3:=by kernel_rfl
 i4:=by kernel_rfl
 i5:=by kernel_rfl
 i9:=by kernel_rfl
 i20:=by kernel_rfl
 i37:=by kernel_rfl
 i46:=by kernel_rfl
 i51:=by kernel_rfl
 i53:=by kernel_rfl
 i171:=by kernel_rfl
 i173:=by kernel_rfl
 i212:=by kernel_rfl
 i232:=by kernel_rfl
 i233:=by kernel_rfl
 m17:=by kernel_rfl
 m18:=by kernel_rfl
 m19:=by kernel_rfl }
open Go.RowKit Go.Sort Go.Lib in
theorem Tryd.strconv_Itoa (n : Int) (h0 : -9223372036854775808 ≤ n) (h1 : n ≤ 9223372036854775807) (w : World) (htab : Lib.TabIs Tryd.prog w "internal/strconv.uint64pow10" .u64 Lib.pow10Tab) :
 Calls Tryd.prog 40 #[.int .i64 n] w fun e w'=>e = .returned (.string ⟨(Lib.itoa n).toArray⟩) ∧ ∃ k os,w' = grow (w.drewN k) os:=Any.strconv_Itoa Tryd.laysM171 n h0 h1 w htab
def Tryd.lays219_ren:Go.Shelf.Ren:=⟨fun|219=>49|217=>59|225=>60|224=>61|267=>62|266=>73|314=>74|n=>n,fun|9=>9|3=>3|4=>4|5=>5|46=>80|146=>93|51=>92|n=>n,fun|1=>0|n=>n⟩
theorem Tryd.lays219:Go.Proofs.Lays.n219 Tryd.prog Tryd.lays219_ren:={
 mixed:=by kernel_rfl
 f217:=Tryd.func59.trans (congrArg some (by kernel_rfl))
 f219:=Tryd.func49.trans (congrArg some (by kernel_rfl))
 f224:=Tryd.func61.trans (congrArg some (by kernel_rfl))
 f225:=Tryd.func60.trans (congrArg some (by kernel_rfl))
 f266:=Tryd.func73.trans (congrArg some (by kernel_rfl))
 f267:=Tryd.func62.trans (congrArg some (by kernel_rfl))
 f314:=Tryd.func74.trans (congrArg some (by kernel_rfl))
 t3:=Tryd.underlying3
 a3:=Tryd.isAgg3
 z3:=Tryd.sizeOf3
 v3:=Tryd.zeroValue3
 t4:=Tryd.underlying4
 a4:=Tryd.isAgg4
 z4:=Tryd.sizeOf4
 v4:=Tryd.zeroValue4
 t5:=Tryd.underlying5
 a5:=Tryd.isAgg5
 z5:=Tryd.sizeOf5
 v5:=Tryd.zeroValue5
 t9:=Tryd.underlying9
 a9:=Tryd.isAgg9
 z9:=Tryd.sizeOf9
 v9:=Tryd.zeroValue9
 t46:=Tryd.underlying80
 a46:=Tryd.isAgg80
 z46:=Tryd.sizeOf80
 v46:=Tryd.zeroValue80
 t51:=Tryd.underlying92
 a51:=Tryd.isAgg92
 z51:=Tryd.sizeOf92
 v51:=Tryd.zeroValue92
 t146:=Tryd.underlying93
 a146:=Tryd.isAgg93
 z146:=Tryd.sizeOf93
 v146:=Tryd.zeroValue93
 g1:=by kernel_rfl }
open Go.RowKit Go.Lib in
theorem Tryd.stringslite_Index_one (s:ByteArray) (c:UInt8) (w:World) :
 Calls Tryd.prog 49 #[.string s,.string ⟨#[c]⟩] w fun e w'=>e = .returned (.int .i64 (Lib.indexByte s.data.toList c)) ∧ w' = w:=Any.stringslite_Index_one Tryd.lays219 s c w
end Go.Proofs
namespace Go.Proofs.YtbhnjglfjhfljaaDoor.P
open Go.RowKit Go.Proofs.YtbhnjglfjhfljaaDoorW.PrintWords Go.Proofs.YtbhnjglfjhfljaaDoorW.PrintLast Go.Proofs.YtbhnjglfjhfljaaDoorW.PrintMore
attribute [local go_sem] max2_int min2_int max_two min_two max_three min_three max_four min_four
set_option linter.unusedVariables false
set_option linter.unusedSimpArgs false
def strings_Trim.f (a0:ByteArray) (a1:ByteArray):Option (ByteArray):=if a0.size ≤ 9223372036854775807 ∧ a1.size < 4294967281 ∧ a1.data.toList.all (fun b=>decide (b.toNat < 128)) = true then some ⟨(Lib.trimS a0.data.toList a1.data.toList).toArray⟩ else none
theorem strings_Trim.calls (a0:ByteArray) (a1:ByteArray) (r:ByteArray) (w:World) (h:strings_Trim.f a0 a1 = some r) :
 Calls Tryd.prog 46 #[.string a0,.string a1] w fun e w'=>e = .returned (.string r) ∧ Below w.heap.size w w':=by
 unfold strings_Trim.f at h;by_cases hc:a0.size ≤ 9223372036854775807 ∧ a1.size < 4294967281 ∧ a1.data.toList.all (fun b=>decide (b.toNat < 128)) = true
 · rw [if_pos hc] at h
   obtain rfl:=Option.some.inj h
   exact Any.strings_Trim_laid Tryd.lays160 (by kernel_rfl) a0 a1 w hc.1 hc.2.1 (ascii_of_all hc.2.2)
 · rw [if_neg hc] at h
   cases h
def impl_isName.f (a0:ByteArray):Option (Bool):=if (a0.size:Int) ≥ 1 then (if (a0.size:Int) ≤ 6 then ((strings_Trim.f a0 (⟨#[97,98,99,100,101,102,103,104,105,106,107,108,109,110,111,112,113,114,115,116,117,118,119,120,121,122]⟩:ByteArray)).bind fun t240=>(some (t240.toList == ([]:List UInt8)))) else (some false)) else (some false)
set_option maxHeartbeats 40000000 in
set_option maxRecDepth 100000 in
theorem impl_isName.calls (a0:ByteArray) (r:Bool) (w:World) (h:impl_isName.f a0 = some r) :
 Calls Tryd.prog 38 #[.string a0] w fun e w'=>e = .returned (.bool r) ∧ Below w.heap.size w w':=by
 have HB:=As0.mk (Below.refl w.heap.size w);have H:(if (a0.size:Int) ≥ 1 then (if (a0.size:Int) ≤ 6 then ((strings_Trim.f a0 (⟨#[97,98,99,100,101,102,103,104,105,106,107,108,109,110,111,112,113,114,115,116,117,118,119,120,121,122]⟩:ByteArray)).bind fun t240=>(some (t240.toList == ([]:List UInt8)))) else (some false)) else (some false)) = some r:=h;clear h;by_cases c2:(a0.size:Int) ≥ 1
 · rw [if_pos c2] at H
   have c2b0:decide (1 ≤ (a0.size:Int)) = true:=decide_eq_true c2;have c2b1:decide (1 ≤ a0.size) = true:=decide_eq_true (by omega);clear c2;by_cases c3:(a0.size:Int) ≤ 6
   · rw [if_pos c3] at H
     have c3b0:decide ((a0.size:Int) ≤ 6) = true:=decide_eq_true c3;have c3b1:decide (a0.size ≤ 6) = true:=decide_eq_true (by omega);clear c3;replace H:=Option.bind_eq_some_iff.mp H;obtain ⟨t240,A40,H⟩:=H;(try dsimp only at H);have A4:=As0.mk A40;clear A40;obtain rfl:=Option.some.inj H
     go_enter Tryd.func38,Tryd.ntmps38
     go_wp2_with (first|(go_at_call 46;(with_reducible refine (strings_Trim.calls a0 (⟨#[97,98,99,100,101,102,103,104,105,106,107,108,109,110,111,112,113,114,115,116,117,118,119,120,121,122]⟩:ByteArray) t240 _ A4.out).mono ?_);rintro e w5 ⟨rfl,hb⟩;replace HB:=As0.mk (b3 HB.out hb);clear hb))
     go_ret
     exact ⟨eW,by repeat (first|(with_reducible first|exact HB.out|apply bal|apply pbN|apply bd1)|exact HB.out)⟩
   · rw [if_neg c3] at H
     have c3b0:decide ((a0.size:Int) ≤ 6) = false:=decide_eq_false c3;have c3b1:decide (a0.size ≤ 6) = false:=decide_eq_false (by omega);clear c3;obtain rfl:=Option.some.inj H
     go_enter Tryd.func38,Tryd.ntmps38
     go_wp2
     go_ret
     exact ⟨eW,by repeat (first|(with_reducible first|exact HB.out|apply bal|apply pbN|apply bd1)|exact HB.out)⟩
 · rw [if_neg c2] at H
   have c2b0:decide (1 ≤ (a0.size:Int)) = false:=decide_eq_false c2;have c2b1:decide (1 ≤ a0.size) = false:=decide_eq_false (by omega);clear c2;obtain rfl:=Option.some.inj H
   go_enter Tryd.func38,Tryd.ntmps38
   go_wp2
   go_ret
   exact ⟨eW,by repeat (first|(with_reducible first|exact HB.out|apply bal|apply pbN|apply bd1)|exact HB.out)⟩
def impl_isBetween.l0:Nat → ByteArray → Int → Int → Int → Int → Option (Bool)
 |0,_,_,_,_,_=>none
 |k + 1,x0,x1,x2,x9,x10=>if x10 < x9 then (if 0 ≤ x10 then (if x10 < (x0.size:Int) then (if (bt x0 x10) < x1 then (some false) else (if (bt x0 x10) > x2 then (some false) else (impl_isBetween.l0 k x0 x1 x2 x9 (wrap64 (x10 + 1))))) else (none)) else (none)) else (some true)
def impl_isBetween.f (k:Nat) (a0:ByteArray) (a1:Int) (a2:Int):Option (Bool):=impl_isBetween.l0 k a0 a1 a2 (a0.size:Int) 0
set_option maxHeartbeats 40000000 in
set_option maxRecDepth 100000 in
theorem impl_isBetween.calls (k:Nat) (a0:ByteArray) (a1:Int) (a2:Int) (r:Bool) (w:World) (h:impl_isBetween.f k a0 a1 a2 = some r) :
 Calls Tryd.prog 47 #[.string a0,.int .u8 a1,.int .u8 a2] w fun e w'=>e = .returned (.bool r) ∧ Drawn0 w w':=by
 have H:(impl_isBetween.l0 k a0 a1 a2 (a0.size:Int) 0) = some r:=h;clear h;have H':=As0.mk H;clear H
 go_enter Tryd.func47,Tryd.ntmps47
 go_wp2
 show _;go_loopg [10] k (fun kq v10 w'=>∃ (x10_1:Int),v10 = .int .i64 x10_1 ∧ As0 (impl_isBetween.l0 kq a0 a1 a2 (a0.size:Int) x10_1 = some r) ∧ As0 (kq ≤ k) ∧ Drawn0 w w')
 case atStart=>exact ⟨(0),(by first|rfl|(simp;done)|(simp [*];done)),H',⟨Nat.le_refl _⟩,by repeat (first|exact Drawn0.refl _|apply Drawn0.step)⟩
 case round=>
  clear H'
  try clear p2
  obtain ⟨x10_1,rfl,HA,HK1,⟨m1,rfl⟩⟩:=hrel
  cases gk with
  |zero=>exact absurd HA.out (by simp [impl_isBetween.l0])
  |succ k1=>
   have H:=HA.out;clear HA;simp only [impl_isBetween.l0] at H;by_cases c4:x10_1 < (a0.size:Int)
   · rw [if_pos c4] at H
     have c4b0:decide (x10_1 < (a0.size:Int)) = true:=decide_eq_true c4;clear c4;by_cases c5:0 ≤ x10_1
     · rw [if_pos c5] at H
       have c5b0:decide (0 ≤ x10_1) = true:=decide_eq_true c5;clear c5;by_cases c6:x10_1 < (a0.size:Int)
       · rw [if_pos c6] at H
         have c6b0:decide (x10_1 < (a0.size:Int)) = true:=decide_eq_true c6;clear c6;by_cases c8:(bt a0 x10_1) < a1
         · rw [if_pos c8] at H
           have c8b0:decide ((bt a0 x10_1) < a1) = true:=decide_eq_true c8;clear c8;obtain rfl:=Option.some.inj H;have p7:0 ≤ (x10_1:Int):=odt;have q7:x10_1 < (a0.size:Int):=odt;have hx7:=bt_at a0 x10_1;replace p7:=eq_true p7;replace q7:=eq_true q7
           go_wp2
           go_ret
           exact ⟨by first|rfl|(simp;done)|(simp [*];done),by repeat (first|exact Drawn0.refl _|apply Drawn0.step)⟩
         · rw [if_neg c8] at H
           have c8b0:decide ((bt a0 x10_1) < a1) = false:=decide_eq_false c8;clear c8;by_cases c10:(bt a0 x10_1) > a2
           · rw [if_pos c10] at H
             have c10b0:decide (a2 < (bt a0 x10_1)) = true:=decide_eq_true c10;clear c10;obtain rfl:=Option.some.inj H;have p7:0 ≤ (x10_1:Int):=odt;have q7:x10_1 < (a0.size:Int):=odt;have hx7:=bt_at a0 x10_1;replace p7:=eq_true p7;replace q7:=eq_true q7;have p9:0 ≤ (x10_1:Int):=odt;have q9:x10_1 < (a0.size:Int):=odt;have hx9:=bt_at a0 x10_1;replace p9:=eq_true p9;replace q9:=eq_true q9
             go_wp2
             go_ret
             exact ⟨by first|rfl|(simp;done)|(simp [*];done),by repeat (first|exact Drawn0.refl _|apply Drawn0.step)⟩
           · rw [if_neg c10] at H
             have c10b0:decide (a2 < (bt a0 x10_1)) = false:=decide_eq_false c10;clear c10;have H':=As0.mk H;clear H;have p7:0 ≤ (x10_1:Int):=odt;have q7:x10_1 < (a0.size:Int):=odt;have hx7:=bt_at a0 x10_1;replace p7:=eq_true p7;replace q7:=eq_true q7;have p9:0 ≤ (x10_1:Int):=odt;have q9:x10_1 < (a0.size:Int):=odt;have hx9:=bt_at a0 x10_1;replace p9:=eq_true p9;replace q9:=eq_true q9
             go_wp2
             show _;go_roundg k1
             case measure=>have:=HK1.out;omega
             case rel=>exact ⟨(wrap64 (x10_1 + 1)),(by first|rfl|(simp;done)|(simp [*];done)),H',⟨by have:=HK1.out;omega⟩,by repeat (first|exact Drawn0.refl _|apply Drawn0.step)⟩
       · rw [if_neg c6] at H
         exact absurd H (by simp)
     · rw [if_neg c5] at H
       exact absurd H (by simp)
   · rw [if_neg c4] at H
     have c4b0:decide (x10_1 < (a0.size:Int)) = false:=decide_eq_false c4;clear c4;obtain rfl:=Option.some.inj H
     go_wp2
     go_ret
     exact ⟨by first|rfl|(simp;done)|(simp [*];done),by repeat (first|exact Drawn0.refl _|apply Drawn0.step)⟩
def impl_isBody.f (k:Nat) (a0:ByteArray):Option (Bool):=if (a0.size:Int) ≤ 40 then ((impl_isBetween.f k a0 32 126).bind fun t241=>(some t241)) else (some false)
set_option maxHeartbeats 40000000 in
set_option maxRecDepth 100000 in
theorem impl_isBody.calls (k:Nat) (a0:ByteArray) (r:Bool) (w:World) (h:impl_isBody.f k a0 = some r) :
 Calls Tryd.prog 39 #[.string a0] w fun e w'=>e = .returned (.bool r) ∧ Drawn0 w w':=by
 have H:(if (a0.size:Int) ≤ 40 then ((impl_isBetween.f k a0 32 126).bind fun t241=>(some t241)) else (some false)) = some r:=h;clear h;by_cases c2:(a0.size:Int) ≤ 40
 · rw [if_pos c2] at H
   have c2b0:decide ((a0.size:Int) ≤ 40) = true:=decide_eq_true c2;have c2b1:decide (a0.size ≤ 40) = true:=decide_eq_true (by omega);clear c2;replace H:=Option.bind_eq_some_iff.mp H;obtain ⟨t241,A30,H⟩:=H;(try dsimp only at H);have A3:=As0.mk A30;clear A30;obtain rfl:=Option.some.inj H
   go_enter Tryd.func39,Tryd.ntmps39
   go_wp2_with (first|(go_at_call 47;(with_reducible refine (impl_isBetween.calls k a0 32 126 t241 _ A3.out).mono ?_);rintro e w' ⟨rfl,⟨nd,rfl⟩⟩))
   go_ret
   exact ⟨by first|rfl|(simp;done)|(simp [*];done),by repeat (first|exact Drawn0.refl _|apply Drawn0.step)⟩
 · rw [if_neg c2] at H
   have c2b0:decide ((a0.size:Int) ≤ 40) = false:=decide_eq_false c2;have c2b1:decide (a0.size ≤ 40) = false:=decide_eq_false (by omega);clear c2;obtain rfl:=Option.some.inj H
   go_enter Tryd.func39,Tryd.ntmps39
   go_wp2
   go_ret
   exact ⟨by first|rfl|(simp;done)|(simp [*];done),by repeat (first|exact Drawn0.refl _|apply Drawn0.step)⟩
end Go.Proofs.YtbhnjglfjhfljaaDoor.P
