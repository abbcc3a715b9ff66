/- Functions of the law FnExactModelOk as_ plain Lean functions, and that the machine's calls do what they say. -/
import Derived.Test.YtclgmogfkoinbaaDoorZFnExactModelOkW0
import Derived.Deep.Slices
import Derived.ChangeArms
import Derived.Test.YtclgmogfkoinbaaDoorProg
import Derived.Below
import Derived.Deep.Draws
import Derived.Deep.AppendLies
import Derived.Maps.AppendAt
import Derived.OwnWalk
import Derived.Laws.BytesArg
import Derived.Laws.MakeOwn
import Derived.Laws.OwnMore
import Derived.Deep.OwnRows
import Derived.Tactics
import Derived.Lib.ConvBytes
import Derived.Laws.Slices
import Derived.WalkKit
import Derived.KernelRfl
import Derived.RowKit3
import Derived.Deep.LoopGhost
import Derived.Deep.QuietTactic
import Derived.BigQuiet
import Derived.WideLaws
import Derived.Deep.DeepCutAuto
import Derived.Deep.CutBlock
import Derived.Deep.RegionHeld3
import Derived.Laws.Rows
import Derived.Lib.AppendStr
import Derived.ArgAppend
import Derived.Laws.IdiomCopy
import Derived.OrdersHeld
import Derived.Laws.BitsLemmas
import Derived.RowKit
/- What an argument reads as_ is of the printed kind: whole numbers, bools, strings, slices, structs. -/
namespace Go.Proofs.YtclgmogfkoinbaaDoor.Opens
open Go.RowKit Go.Proofs.YtclgmogfkoinbaaDoorW.PrintWords Go.ChangeShapes Go.WideShapes
structure Opens {α:Type} (P:Program) (d:Kd α) (t:TypeId) (G:α → Prop):Prop where
 out:∀ {H:Type} {enc:TypeId × Value → H} {w:World} {base:Nat} {spare:Nat → Bool} {held:Bool} {fuel:Nat} {cs:List Value} {x:DataW H × List MemPlace},DataW.trod enc P w base spare held fuel t cs = some x → ∃ a,d.K w a cs ∧ G a
section
variable {P:Program} {t:TypeId}
theorem opens_int {k:IntKind} (ht:P.underlying t = some (.int k)):Opens P (Kd.int k) t (fun n=>(Lit.int k n).wf = true):=⟨fun h=>by
 obtain ⟨n,rfl,_,hw⟩:=DataW.trod_int ht h
 exact ⟨n,rfl,hw⟩⟩
theorem opens_bool (ht:P.underlying t = some .bool):Opens P Kd.bool t (fun _=>True):=⟨fun h=>by
 obtain ⟨b,rfl,_⟩:=DataW.trod_bool ht h
 exact ⟨b,rfl,trivial⟩⟩
theorem opens_string (ht:P.underlying t = some .string):Opens P Kd.string t (fun s=>s.size ≤ 9223372036854775807):=⟨fun h=>by
 obtain ⟨s,rfl,_,hs⟩:=DataW.trod_string ht h
 exact ⟨s,rfl,hs⟩⟩
theorem opens_slice {α:Type} {d:Kd α} {e:TypeId} {G:α → Prop} (ht:P.underlying t = some (.slice e)) (hc:P.cellsOf e = d.sz) (ho:Opens P d e G) :
 Opens P (Kd.slice e d) t (fun l=>l.length ≤ 9223372036854775807 ∧ ∀ y ∈ l,G y):=⟨by
 intro H enc w base spare held fuel cs x h;rcases Go.Deep.open_slice ht h with ⟨rfl,_⟩|⟨a,len,cap,m,n,D,Pl,rfl,hba,hl,hm,hmm,hxe,hx⟩
 · exact ⟨[],⟨none,0,rfl,Nat.le_refl _,rfl,by simp,fun hp=>absurd hp (by simp)⟩,by simp,fun y hy=>by cases hy⟩
 · clear hxe hba
   have hlm:len ≤ m:=by rw [hmm];split <;> omega
   have key:∀ i,i < len → ∃ y:α,(∃ c,c.length = d.sz ∧ d.K w y c ∧ ∀ j u,c[j]? = some u → w.cell? (a.add (i * d.sz + j)) = some u) ∧ G y:=by
    intro i hi;obtain ⟨cs',h1,h2⟩:=hx i (by omega);obtain ⟨y,hy,hg⟩:=ho.out h2;obtain ⟨_,h3,h4⟩:=World.cells?_some h1;rw [hc] at h3 h4;refine ⟨y,⟨cs',h3,hy,fun j u hu=>?_⟩,hg⟩
    have hj:j < d.sz:=by
     have:=(List.getElem?_eq_some_iff.1 hu).1;omega
    have h5:=h4 j hj;rw [Go.Deep.add_add,hu] at h5
    exact h5
   obtain ⟨l,hlen,hall⟩:∃ l:List α,l.length = len ∧ ∀ i y,l[i]? = some y → (∃ c,c.length = d.sz ∧ d.K w y c ∧ ∀ j u,c[j]? = some u → w.cell? (a.add (i * d.sz + j)) = some u) ∧ G y:=by
    clear hx hlm hmm h hl;induction len with
    |zero=>exact ⟨[],rfl,fun i y hy=>by simp at hy⟩
    |succ k ih=>
     obtain ⟨l,h1,h2⟩:=ih (fun i hi=>key i (by omega));obtain ⟨y,hy⟩:=key k (by omega);refine ⟨l ++ [y],by simp [h1],fun i z hz=>?_⟩;rcases Nat.lt_trichotomy i k with hik|hik|hik
     · rw [List.getElem?_append_left (by omega)] at hz
       exact h2 i z hz
     · subst hik
       rw [List.getElem?_append_right (by omega),h1] at hz;simp at hz
       subst hz
       exact hy
     · rw [List.getElem?_eq_none (by simp;omega)] at hz
       cases hz
   subst hlen;have hb:l.length ≤ 9223372036854775807:=Nat.le_trans hl (by unfold maxLen at hm;exact hm);refine ⟨l,⟨some a,cap,rfl,hl,rfl,hb,fun _=>⟨a,rfl,fun j p hj=>(hall j p hj).1⟩⟩,hb,fun y hy=>?_⟩;obtain ⟨i,hi,rfl⟩:=List.getElem_of_mem hy
   exact (hall i _ (List.getElem?_eq_getElem hi)).2⟩
theorem seg_split {cs:List Value} {a n b:Nat} (h:a + n = b):cs.drop a = (cs.drop a).take n ++ cs.drop b:=by
 subst h;rw [← List.drop_drop,List.take_append_drop]
theorem seg_last {cs:List Value} {a n:Nat} (h:cs.length = a + n):(cs.drop a).take n = cs.drop a:=List.take_of_length_le (by simp;omega)
end
theorem arg_agg {α:Type} {P:Program} {d:Kd α} {t:TypeId} {G:α → Prop} (ho:Opens P d t G) {H:Type} {enc:TypeId × Value → H} {w:World} {base:Nat} {spare:Nat → Bool} {held:Bool} {cs:Array Value} {dd:DataW H} {ps:List MemPlace}
 (h:DataW.Trod enc P w base spare held t (.agg cs) dd ps):∃ x:α,d.K w x cs.toList ∧ G x:=by
 obtain ⟨n,hn⟩:=h
 exact ho.out hn
theorem bytesLess_not:∀ a b:List UInt8,(!(Op.bytesLess a b || a == b)) = Op.bytesLess b a
 |[],[]=>rfl
 |[],_ :: _=>rfl
 |_ :: _,[]=>rfl
 |a :: x,b :: y=>by
  have ih:=bytesLess_not x y;simp only [Op.bytesLess,List.cons_beq_cons];rcases Nat.lt_trichotomy a.toNat b.toNat with h|h|h
  · have h1:(a < b) = True:=by simp [UInt8.lt_iff_toNat_lt,h]
    have h2:(b < a) = False:=by simp [UInt8.lt_iff_toNat_lt];omega
    have h3:(b == a) = false:=by rw [beq_eq_false_iff_ne];rintro rfl;omega
    simp [h1,h2,h3]
  · obtain rfl:=UInt8.toNat_inj.1 h
    simpa using ih
  · have h1:(a < b) = False:=by simp [UInt8.lt_iff_toNat_lt];omega
    have h2:(b < a) = True:=by simp [UInt8.lt_iff_toNat_lt,h]
    have h3:(a == b) = false:=by rw [beq_eq_false_iff_ne];rintro rfl;omega
    simp [h1,h2,h3]
@[go_sem] theorem string_gtr (t:TypeId) (a b:ByteArray):binOp .gtr t (.string a) (.string b) = pure (.bool (Op.bytesLess b.toList a.toList)):=by rw [← bytesLess_not];simp [binOp,Op.stringOp]
@[go_sem] theorem string_leq (t:TypeId) (a b:ByteArray):binOp .leq t (.string a) (.string b) = pure (.bool !(Op.bytesLess b.toList a.toList)):=by rw [← bytesLess_not,Bool.not_not];simp [binOp,Op.stringOp]
@[go_sem] theorem string_geq (t:TypeId) (a b:ByteArray):binOp .geq t (.string a) (.string b) = pure (.bool !(Op.bytesLess a.toList b.toList)):=by simp [binOp,Op.stringOp]
end Go.Proofs.YtclgmogfkoinbaaDoor.Opens
namespace Go.Proofs.YtclgmogfkoinbaaDoor.P
open Go.RowKit Go.Proofs.YtclgmogfkoinbaaDoorW.PrintWords Go.Proofs.YtclgmogfkoinbaaDoorW.PrintLast Go.Proofs.YtclgmogfkoinbaaDoorW.PrintMore
attribute [local go_sem] max2_int min2_int max_two min_two max_three min_three max_four min_four
set_option linter.unusedVariables false
set_option linter.unusedSimpArgs false
def errW:Option Int → Value
 |none=>.nilIface
 |some c=>.iface 0 (.int .i64 c)
theorem errW_none:errW none = .nilIface:=rfl
theorem errW_some (c:Int):errW (some c) = .iface 0 (.int .i64 c):=rfl
theorem info9:(Tryd.prog.info? 9).map (fun i=>(i.zero,i.size,i.bytes)) = some (some (.string ⟨#[]⟩),1,16):=by kernel_rfl
theorem info47:(Tryd.prog.info? 47).map (fun i=>(i.zero,i.size,i.bytes)) = some (some (.agg #[(.string ⟨#[]⟩),(.string ⟨#[]⟩),(.int .i64 0),(.bool false),(.int .i64 0)]),5,56):=by kernel_rfl
theorem info49:(Tryd.prog.info? 49).map (fun i=>(i.zero,i.size,i.bytes)) = some (some (.agg #[(.string ⟨#[]⟩),(.int .i64 0)]),2,24):=by kernel_rfl
theorem info73:(Tryd.prog.info? 73).map (fun i=>(i.zero,i.size,i.bytes)) = some (some (.agg #[(.string ⟨#[]⟩),(.string ⟨#[]⟩),(.int .i64 0),(.int .i64 0),(.bool false),(.slice none 0 0),(.string ⟨#[]⟩)]),7,96):=by kernel_rfl
theorem info77:(Tryd.prog.info? 77).map (fun i=>(i.zero,i.size,i.bytes)) = some (some (.agg #[(.int .i64 0),(.string ⟨#[]⟩),(.string ⟨#[]⟩),(.string ⟨#[]⟩)]),4,56):=by kernel_rfl
structure SlS33 where
 f0:ByteArray
 f1:ByteArray
 f2:Int
 f3:Bool
 f4:Int
def zlS49:SlS33:=⟨(⟨#[]⟩:ByteArray),(⟨#[]⟩:ByteArray),(0:Int),false,(0:Int)⟩
def k60:Kd SlS33:=Kd.iso (Kd.pair Kd.string (Kd.pair Kd.string (Kd.pair (Kd.int .i64) (Kd.pair Kd.bool (Kd.int .i64))))) (fun x:SlS33=>(x.f0,x.f1,x.f2,x.f3,x.f4))
theorem k60_open {w:World} {x:SlS33} {cs:List Value} (h:k60.K w x cs):cs = [.string x.f0,.string x.f1,.int .i64 x.f2,.bool x.f3,.int .i64 x.f4]:=by
 obtain ⟨_,_,rfl,rfl,⟨_,_,rfl,rfl,⟨_,_,rfl,rfl,⟨_,_,rfl,rfl,rfl⟩⟩⟩⟩:=h
 exact rfl
def rlS41 (xs:List SlS33) (i:Int):SlS33:=xs.getD i.toNat zlS49
theorem at_T60 {w:World} {A:Option Addr} {n:Nat} {xs:List SlS33} (h:Kd.C k60 w A n xs) (i:Int) (h0:0 ≤ i) (h1:i < n):∃ ad,A = some ad ∧ w.cell? (ad.add (i.toNat * 5)) = some (.string (rlS41 xs i).f0) ∧ w.cell? ⟨(ad.add (i.toNat * 5)).block,(ad.add (i.toNat * 5)).off + 1,none⟩ = some (.string (rlS41 xs i).f1) ∧ w.cell? ⟨(ad.add (i.toNat * 5)).block,(ad.add (i.toNat * 5)).off + 2,none⟩ = some (.int .i64 (rlS41 xs i).f2) ∧ w.cell? ⟨(ad.add (i.toNat * 5)).block,(ad.add (i.toNat * 5)).off + 3,none⟩ = some (.bool (rlS41 xs i).f3) ∧ w.cell? ⟨(ad.add (i.toNat * 5)).block,(ad.add (i.toNat * 5)).off + 4,none⟩ = some (.int .i64 (rlS41 xs i).f4):=by
 obtain ⟨ad,c,e,_,hK,hc0⟩:=Kd.C_get h zlS49 i h0 h1;have hc:∀ j u,c[j]? = some u → w.cell? (ad.add (i.toNat * 5 + j)) = some u:=hc0;obtain rfl:=k60_open hK
 exact ⟨ad,e,hc 0 _ rfl,by rw [← add_field _ _ 1 (by omega)];exact hc 1 _ rfl,by rw [← add_field _ _ 2 (by omega)];exact hc 2 _ rfl,by rw [← add_field _ _ 3 (by omega)];exact hc 3 _ rfl,by rw [← add_field _ _ 4 (by omega)];exact hc 4 _ rfl⟩
structure SlU35 where
 f0:ByteArray
 f1:Int
def zlU51:SlU35:=⟨(⟨#[]⟩:ByteArray),(0:Int)⟩
def k62:Kd SlU35:=Kd.iso (Kd.pair Kd.string (Kd.int .i64)) (fun x:SlU35=>(x.f0,x.f1))
theorem k62_open {w:World} {x:SlU35} {cs:List Value} (h:k62.K w x cs):cs = [.string x.f0,.int .i64 x.f1]:=by
 obtain ⟨_,_,rfl,rfl,rfl⟩:=h
 exact rfl
def rlU43 (xs:List SlU35) (i:Int):SlU35:=xs.getD i.toNat zlU51
theorem at_T62 {w:World} {A:Option Addr} {n:Nat} {xs:List SlU35} (h:Kd.C k62 w A n xs) (i:Int) (h0:0 ≤ i) (h1:i < n):∃ ad,A = some ad ∧ w.cell? (ad.add (i.toNat * 2)) = some (.string (rlU43 xs i).f0) ∧ w.cell? ⟨(ad.add (i.toNat * 2)).block,(ad.add (i.toNat * 2)).off + 1,none⟩ = some (.int .i64 (rlU43 xs i).f1):=by
 obtain ⟨ad,c,e,_,hK,hc0⟩:=Kd.C_get h zlU51 i h0 h1;have hc:∀ j u,c[j]? = some u → w.cell? (ad.add (i.toNat * 2 + j)) = some u:=hc0;obtain rfl:=k62_open hK
 exact ⟨ad,e,hc 0 _ rfl,by rw [← add_field _ _ 1 (by omega)];exact hc 1 _ rfl⟩
structure SlT34 where
 f0:ByteArray
 f1:ByteArray
 f2:Int
 f3:Int
 f4:Bool
 f5:(List ByteArray)
 f6:ByteArray
def zlT50:SlT34:=⟨(⟨#[]⟩:ByteArray),(⟨#[]⟩:ByteArray),(0:Int),(0:Int),false,([]:List ByteArray),(⟨#[]⟩:ByteArray)⟩
def k66:Kd SlT34:=Kd.iso (Kd.pair Kd.string (Kd.pair Kd.string (Kd.pair (Kd.int .i64) (Kd.pair (Kd.int .i64) (Kd.pair Kd.bool (Kd.pair (Kd.slice 9 Kd.string) Kd.string)))))) (fun x:SlT34=>(x.f0,x.f1,x.f2,x.f3,x.f4,x.f5,x.f6))
theorem k66_open {w:World} {x:SlT34} {cs:List Value} (h:k66.K w x cs):∃ A5 c5,cs = [.string x.f0,.string x.f1,.int .i64 x.f2,.int .i64 x.f3,.bool x.f4,.slice A5 x.f5.length c5,.string x.f6] ∧ x.f5.length ≤ c5 ∧ Kd.string.C w A5 x.f5.length x.f5:=by
 obtain ⟨_,_,rfl,rfl,⟨_,_,rfl,rfl,⟨_,_,rfl,rfl,⟨_,_,rfl,rfl,⟨_,_,rfl,rfl,⟨_,_,rfl,⟨A5,c5,rfl,l5,g5⟩,rfl⟩⟩⟩⟩⟩⟩:=h
 exact ⟨A5,c5,rfl,l5,g5⟩
def rlT42 (xs:List SlT34) (i:Int):SlT34:=xs.getD i.toNat zlT50
theorem at_T66 {w:World} {A:Option Addr} {n:Nat} {xs:List SlT34} (h:Kd.C k66 w A n xs) (i:Int) (h0:0 ≤ i) (h1:i < n):∃ ad A5 c5,A = some ad ∧ w.cell? (ad.add (i.toNat * 7)) = some (.string (rlT42 xs i).f0) ∧ w.cell? ⟨(ad.add (i.toNat * 7)).block,(ad.add (i.toNat * 7)).off + 1,none⟩ = some (.string (rlT42 xs i).f1) ∧ w.cell? ⟨(ad.add (i.toNat * 7)).block,(ad.add (i.toNat * 7)).off + 2,none⟩ = some (.int .i64 (rlT42 xs i).f2) ∧ w.cell? ⟨(ad.add (i.toNat * 7)).block,(ad.add (i.toNat * 7)).off + 3,none⟩ = some (.int .i64 (rlT42 xs i).f3) ∧ w.cell? ⟨(ad.add (i.toNat * 7)).block,(ad.add (i.toNat * 7)).off + 4,none⟩ = some (.bool (rlT42 xs i).f4) ∧ w.cell? ⟨(ad.add (i.toNat * 7)).block,(ad.add (i.toNat * 7)).off + 5,none⟩ = some (.slice A5 (rlT42 xs i).f5.length c5) ∧ w.cell? ⟨(ad.add (i.toNat * 7)).block,(ad.add (i.toNat * 7)).off + 6,none⟩ = some (.string (rlT42 xs i).f6) ∧ (rlT42 xs i).f5.length ≤ c5 ∧ Kd.string.C w A5 (rlT42 xs i).f5.length (rlT42 xs i).f5:=by
 obtain ⟨ad,c,e,_,hK,hc0⟩:=Kd.C_get h zlT50 i h0 h1;have hc:∀ j u,c[j]? = some u → w.cell? (ad.add (i.toNat * 7 + j)) = some u:=hc0;obtain ⟨A5,c5,rfl,l5,g5⟩:=k66_open hK
 exact ⟨ad,A5,c5,e,hc 0 _ rfl,by rw [← add_field _ _ 1 (by omega)];exact hc 1 _ rfl,by rw [← add_field _ _ 2 (by omega)];exact hc 2 _ rfl,by rw [← add_field _ _ 3 (by omega)];exact hc 3 _ rfl,by rw [← add_field _ _ 4 (by omega)];exact hc 4 _ rfl,by rw [← add_field _ _ 5 (by omega)];exact hc 5 _ rfl,by rw [← add_field _ _ 6 (by omega)];exact hc 6 _ rfl,l5,g5⟩
structure SlP32 where
 f0:Int
 f1:ByteArray
 f2:ByteArray
 f3:ByteArray
def zlP48:SlP32:=⟨(0:Int),(⟨#[]⟩:ByteArray),(⟨#[]⟩:ByteArray),(⟨#[]⟩:ByteArray)⟩
def k69:Kd SlP32:=Kd.iso (Kd.pair (Kd.int .i64) (Kd.pair Kd.string (Kd.pair Kd.string Kd.string))) (fun x:SlP32=>(x.f0,x.f1,x.f2,x.f3))
theorem k69_open {w:World} {x:SlP32} {cs:List Value} (h:k69.K w x cs):cs = [.int .i64 x.f0,.string x.f1,.string x.f2,.string x.f3]:=by
 obtain ⟨_,_,rfl,rfl,⟨_,_,rfl,rfl,⟨_,_,rfl,rfl,rfl⟩⟩⟩:=h
 exact rfl
def rlP40 (xs:List SlP32) (i:Int):SlP32:=xs.getD i.toNat zlP48
theorem at_T69 {w:World} {A:Option Addr} {n:Nat} {xs:List SlP32} (h:Kd.C k69 w A n xs) (i:Int) (h0:0 ≤ i) (h1:i < n):∃ ad,A = some ad ∧ w.cell? (ad.add (i.toNat * 4)) = some (.int .i64 (rlP40 xs i).f0) ∧ w.cell? ⟨(ad.add (i.toNat * 4)).block,(ad.add (i.toNat * 4)).off + 1,none⟩ = some (.string (rlP40 xs i).f1) ∧ w.cell? ⟨(ad.add (i.toNat * 4)).block,(ad.add (i.toNat * 4)).off + 2,none⟩ = some (.string (rlP40 xs i).f2) ∧ w.cell? ⟨(ad.add (i.toNat * 4)).block,(ad.add (i.toNat * 4)).off + 3,none⟩ = some (.string (rlP40 xs i).f3):=by
 obtain ⟨ad,c,e,_,hK,hc0⟩:=Kd.C_get h zlP48 i h0 h1;have hc:∀ j u,c[j]? = some u → w.cell? (ad.add (i.toNat * 4 + j)) = some u:=hc0;obtain rfl:=k69_open hK
 exact ⟨ad,e,hc 0 _ rfl,by rw [← add_field _ _ 1 (by omega)];exact hc 1 _ rfl,by rw [← add_field _ _ 2 (by omega)];exact hc 2 _ rfl,by rw [← add_field _ _ 3 (by omega)];exact hc 3 _ rfl⟩
structure SiS28 where
 f0:ByteArray
 f1:ByteArray
 f2:Int
 f3:Bool
 f4:Int
def ziS45:SiS28:=⟨(⟨#[]⟩:ByteArray),(⟨#[]⟩:ByteArray),(0:Int),false,(0:Int)⟩
def k47:Kd SiS28:=Kd.iso (Kd.pair Kd.string (Kd.pair Kd.string (Kd.pair (Kd.int .i64) (Kd.pair Kd.bool (Kd.int .i64))))) (fun x:SiS28=>(x.f0,x.f1,x.f2,x.f3,x.f4))
theorem k47_open {w:World} {x:SiS28} {cs:List Value} (h:k47.K w x cs):cs = [.string x.f0,.string x.f1,.int .i64 x.f2,.bool x.f3,.int .i64 x.f4]:=by
 obtain ⟨_,_,rfl,rfl,⟨_,_,rfl,rfl,⟨_,_,rfl,rfl,⟨_,_,rfl,rfl,rfl⟩⟩⟩⟩:=h
 exact rfl
theorem k47_openM {w:World} {base:Nat} {ok:Nat → Prop} {x:SiS28} {cs:List Value} (h:k47.M w base ok x cs):cs = [.string x.f0,.string x.f1,.int .i64 x.f2,.bool x.f3,.int .i64 x.f4]:=by
 obtain ⟨_,_,rfl,rfl,⟨_,_,rfl,rfl,⟨_,_,rfl,rfl,⟨_,_,rfl,rfl,rfl⟩⟩⟩⟩:=h
 exact rfl
theorem k47_mkM (w:World) (base:Nat) (ok:Nat → Prop) (x:SiS28)  : k47.M w base ok x [.string x.f0,.string x.f1,.int .i64 x.f2,.bool x.f3,.int .i64 x.f4]:=⟨[.string x.f0],[.string x.f1,.int .i64 x.f2,.bool x.f3,.int .i64 x.f4],rfl,rfl,⟨[.string x.f1],[.int .i64 x.f2,.bool x.f3,.int .i64 x.f4],rfl,rfl,⟨[.int .i64 x.f2],[.bool x.f3,.int .i64 x.f4],rfl,rfl,⟨[.bool x.f3],[.int .i64 x.f4],rfl,rfl,rfl⟩⟩⟩⟩
def riS37 (xs:List SiS28) (i:Int):SiS28:=xs.getD i.toNat ziS45
theorem at_T47 {w:World} {A:Option Addr} {n:Nat} {xs:List SiS28} (h:Kd.C k47 w A n xs) (i:Int) (h0:0 ≤ i) (h1:i < n):∃ ad,A = some ad ∧ w.cell? (ad.add (i.toNat * 5)) = some (.string (riS37 xs i).f0) ∧ w.cell? ⟨(ad.add (i.toNat * 5)).block,(ad.add (i.toNat * 5)).off + 1,none⟩ = some (.string (riS37 xs i).f1) ∧ w.cell? ⟨(ad.add (i.toNat * 5)).block,(ad.add (i.toNat * 5)).off + 2,none⟩ = some (.int .i64 (riS37 xs i).f2) ∧ w.cell? ⟨(ad.add (i.toNat * 5)).block,(ad.add (i.toNat * 5)).off + 3,none⟩ = some (.bool (riS37 xs i).f3) ∧ w.cell? ⟨(ad.add (i.toNat * 5)).block,(ad.add (i.toNat * 5)).off + 4,none⟩ = some (.int .i64 (riS37 xs i).f4):=by
 obtain ⟨ad,c,e,_,hK,hc0⟩:=Kd.C_get h ziS45 i h0 h1;have hc:∀ j u,c[j]? = some u → w.cell? (ad.add (i.toNat * 5 + j)) = some u:=hc0;obtain rfl:=k47_open hK
 exact ⟨ad,e,hc 0 _ rfl,by rw [← add_field _ _ 1 (by omega)];exact hc 1 _ rfl,by rw [← add_field _ _ 2 (by omega)];exact hc 2 _ rfl,by rw [← add_field _ _ 3 (by omega)];exact hc 3 _ rfl,by rw [← add_field _ _ 4 (by omega)];exact hc 4 _ rfl⟩
structure SiU30 where
 f0:ByteArray
 f1:Int
def ziU47:SiU30:=⟨(⟨#[]⟩:ByteArray),(0:Int)⟩
def k49:Kd SiU30:=Kd.iso (Kd.pair Kd.string (Kd.int .i64)) (fun x:SiU30=>(x.f0,x.f1))
theorem k49_open {w:World} {x:SiU30} {cs:List Value} (h:k49.K w x cs):cs = [.string x.f0,.int .i64 x.f1]:=by
 obtain ⟨_,_,rfl,rfl,rfl⟩:=h
 exact rfl
theorem k49_openM {w:World} {base:Nat} {ok:Nat → Prop} {x:SiU30} {cs:List Value} (h:k49.M w base ok x cs):cs = [.string x.f0,.int .i64 x.f1]:=by
 obtain ⟨_,_,rfl,rfl,rfl⟩:=h
 exact rfl
theorem k49_mkM (w:World) (base:Nat) (ok:Nat → Prop) (x:SiU30)  : k49.M w base ok x [.string x.f0,.int .i64 x.f1]:=⟨[.string x.f0],[.int .i64 x.f1],rfl,rfl,rfl⟩
def riU39 (xs:List SiU30) (i:Int):SiU30:=xs.getD i.toNat ziU47
theorem at_T49 {w:World} {A:Option Addr} {n:Nat} {xs:List SiU30} (h:Kd.C k49 w A n xs) (i:Int) (h0:0 ≤ i) (h1:i < n):∃ ad,A = some ad ∧ w.cell? (ad.add (i.toNat * 2)) = some (.string (riU39 xs i).f0) ∧ w.cell? ⟨(ad.add (i.toNat * 2)).block,(ad.add (i.toNat * 2)).off + 1,none⟩ = some (.int .i64 (riU39 xs i).f1):=by
 obtain ⟨ad,c,e,_,hK,hc0⟩:=Kd.C_get h ziU47 i h0 h1;have hc:∀ j u,c[j]? = some u → w.cell? (ad.add (i.toNat * 2 + j)) = some u:=hc0;obtain rfl:=k49_open hK
 exact ⟨ad,e,hc 0 _ rfl,by rw [← add_field _ _ 1 (by omega)];exact hc 1 _ rfl⟩
structure SiT29 where
 f0:ByteArray
 f1:ByteArray
 f2:Int
 f3:Int
 f4:Bool
 f5:(List ByteArray)
 f6:ByteArray
def ziT46:SiT29:=⟨(⟨#[]⟩:ByteArray),(⟨#[]⟩:ByteArray),(0:Int),(0:Int),false,([]:List ByteArray),(⟨#[]⟩:ByteArray)⟩
def k73:Kd SiT29:=Kd.iso (Kd.pair Kd.string (Kd.pair Kd.string (Kd.pair (Kd.int .i64) (Kd.pair (Kd.int .i64) (Kd.pair Kd.bool (Kd.pair (Kd.slice 9 Kd.string) Kd.string)))))) (fun x:SiT29=>(x.f0,x.f1,x.f2,x.f3,x.f4,x.f5,x.f6))
theorem k73_open {w:World} {x:SiT29} {cs:List Value} (h:k73.K w x cs):∃ A5 c5,cs = [.string x.f0,.string x.f1,.int .i64 x.f2,.int .i64 x.f3,.bool x.f4,.slice A5 x.f5.length c5,.string x.f6] ∧ x.f5.length ≤ c5 ∧ Kd.string.C w A5 x.f5.length x.f5:=by
 obtain ⟨_,_,rfl,rfl,⟨_,_,rfl,rfl,⟨_,_,rfl,rfl,⟨_,_,rfl,rfl,⟨_,_,rfl,rfl,⟨_,_,rfl,⟨A5,c5,rfl,l5,g5⟩,rfl⟩⟩⟩⟩⟩⟩:=h
 exact ⟨A5,c5,rfl,l5,g5⟩
theorem k73_openM {w:World} {base:Nat} {ok:Nat → Prop} {x:SiT29} {cs:List Value} (h:k73.M w base ok x cs):∃ v5,cs = [.string x.f0,.string x.f1,.int .i64 x.f2,.int .i64 x.f3,.bool x.f4,v5,.string x.f6] ∧ Kd.string.R 9 w base ok v5 x.f5:=by
 obtain ⟨_,_,rfl,rfl,⟨_,_,rfl,rfl,⟨_,_,rfl,rfl,⟨_,_,rfl,rfl,⟨_,_,rfl,rfl,⟨_,_,rfl,⟨v5,rfl,g5⟩,rfl⟩⟩⟩⟩⟩⟩:=h
 exact ⟨v5,rfl,g5⟩
theorem k73_mkM (w:World) (base:Nat) (ok:Nat → Prop) (x:SiT29) {v5:Value} (g5:Kd.string.R 9 w base ok v5 x.f5):k73.M w base ok x [.string x.f0,.string x.f1,.int .i64 x.f2,.int .i64 x.f3,.bool x.f4,v5,.string x.f6]:=⟨[.string x.f0],[.string x.f1,.int .i64 x.f2,.int .i64 x.f3,.bool x.f4,v5,.string x.f6],rfl,rfl,⟨[.string x.f1],[.int .i64 x.f2,.int .i64 x.f3,.bool x.f4,v5,.string x.f6],rfl,rfl,⟨[.int .i64 x.f2],[.int .i64 x.f3,.bool x.f4,v5,.string x.f6],rfl,rfl,⟨[.int .i64 x.f3],[.bool x.f4,v5,.string x.f6],rfl,rfl,⟨[.bool x.f4],[v5,.string x.f6],rfl,rfl,⟨[v5],[.string x.f6],rfl,⟨v5,rfl,g5⟩,rfl⟩⟩⟩⟩⟩⟩
def riT38 (xs:List SiT29) (i:Int):SiT29:=xs.getD i.toNat ziT46
theorem at_T73 {w:World} {A:Option Addr} {n:Nat} {xs:List SiT29} (h:Kd.C k73 w A n xs) (i:Int) (h0:0 ≤ i) (h1:i < n):∃ ad A5 c5,A = some ad ∧ w.cell? (ad.add (i.toNat * 7)) = some (.string (riT38 xs i).f0) ∧ w.cell? ⟨(ad.add (i.toNat * 7)).block,(ad.add (i.toNat * 7)).off + 1,none⟩ = some (.string (riT38 xs i).f1) ∧ w.cell? ⟨(ad.add (i.toNat * 7)).block,(ad.add (i.toNat * 7)).off + 2,none⟩ = some (.int .i64 (riT38 xs i).f2) ∧ w.cell? ⟨(ad.add (i.toNat * 7)).block,(ad.add (i.toNat * 7)).off + 3,none⟩ = some (.int .i64 (riT38 xs i).f3) ∧ w.cell? ⟨(ad.add (i.toNat * 7)).block,(ad.add (i.toNat * 7)).off + 4,none⟩ = some (.bool (riT38 xs i).f4) ∧ w.cell? ⟨(ad.add (i.toNat * 7)).block,(ad.add (i.toNat * 7)).off + 5,none⟩ = some (.slice A5 (riT38 xs i).f5.length c5) ∧ w.cell? ⟨(ad.add (i.toNat * 7)).block,(ad.add (i.toNat * 7)).off + 6,none⟩ = some (.string (riT38 xs i).f6) ∧ (riT38 xs i).f5.length ≤ c5 ∧ Kd.string.C w A5 (riT38 xs i).f5.length (riT38 xs i).f5:=by
 obtain ⟨ad,c,e,_,hK,hc0⟩:=Kd.C_get h ziT46 i h0 h1;have hc:∀ j u,c[j]? = some u → w.cell? (ad.add (i.toNat * 7 + j)) = some u:=hc0;obtain ⟨A5,c5,rfl,l5,g5⟩:=k73_open hK
 exact ⟨ad,A5,c5,e,hc 0 _ rfl,by rw [← add_field _ _ 1 (by omega)];exact hc 1 _ rfl,by rw [← add_field _ _ 2 (by omega)];exact hc 2 _ rfl,by rw [← add_field _ _ 3 (by omega)];exact hc 3 _ rfl,by rw [← add_field _ _ 4 (by omega)];exact hc 4 _ rfl,by rw [← add_field _ _ 5 (by omega)];exact hc 5 _ rfl,by rw [← add_field _ _ 6 (by omega)];exact hc 6 _ rfl,l5,g5⟩
structure SiP27 where
 f0:Int
 f1:ByteArray
 f2:ByteArray
 f3:ByteArray
def ziP44:SiP27:=⟨(0:Int),(⟨#[]⟩:ByteArray),(⟨#[]⟩:ByteArray),(⟨#[]⟩:ByteArray)⟩
def k77:Kd SiP27:=Kd.iso (Kd.pair (Kd.int .i64) (Kd.pair Kd.string (Kd.pair Kd.string Kd.string))) (fun x:SiP27=>(x.f0,x.f1,x.f2,x.f3))
theorem k77_open {w:World} {x:SiP27} {cs:List Value} (h:k77.K w x cs):cs = [.int .i64 x.f0,.string x.f1,.string x.f2,.string x.f3]:=by
 obtain ⟨_,_,rfl,rfl,⟨_,_,rfl,rfl,⟨_,_,rfl,rfl,rfl⟩⟩⟩:=h
 exact rfl
theorem k77_openM {w:World} {base:Nat} {ok:Nat → Prop} {x:SiP27} {cs:List Value} (h:k77.M w base ok x cs):cs = [.int .i64 x.f0,.string x.f1,.string x.f2,.string x.f3]:=by
 obtain ⟨_,_,rfl,rfl,⟨_,_,rfl,rfl,⟨_,_,rfl,rfl,rfl⟩⟩⟩:=h
 exact rfl
theorem k77_mkM (w:World) (base:Nat) (ok:Nat → Prop) (x:SiP27)  : k77.M w base ok x [.int .i64 x.f0,.string x.f1,.string x.f2,.string x.f3]:=⟨[.int .i64 x.f0],[.string x.f1,.string x.f2,.string x.f3],rfl,rfl,⟨[.string x.f1],[.string x.f2,.string x.f3],rfl,rfl,⟨[.string x.f2],[.string x.f3],rfl,rfl,rfl⟩⟩⟩
def riP36 (xs:List SiP27) (i:Int):SiP27:=xs.getD i.toNat ziP44
theorem at_T77 {w:World} {A:Option Addr} {n:Nat} {xs:List SiP27} (h:Kd.C k77 w A n xs) (i:Int) (h0:0 ≤ i) (h1:i < n):∃ ad,A = some ad ∧ w.cell? (ad.add (i.toNat * 4)) = some (.int .i64 (riP36 xs i).f0) ∧ w.cell? ⟨(ad.add (i.toNat * 4)).block,(ad.add (i.toNat * 4)).off + 1,none⟩ = some (.string (riP36 xs i).f1) ∧ w.cell? ⟨(ad.add (i.toNat * 4)).block,(ad.add (i.toNat * 4)).off + 2,none⟩ = some (.string (riP36 xs i).f2) ∧ w.cell? ⟨(ad.add (i.toNat * 4)).block,(ad.add (i.toNat * 4)).off + 3,none⟩ = some (.string (riP36 xs i).f3):=by
 obtain ⟨ad,c,e,_,hK,hc0⟩:=Kd.C_get h ziP44 i h0 h1;have hc:∀ j u,c[j]? = some u → w.cell? (ad.add (i.toNat * 4 + j)) = some u:=hc0;obtain rfl:=k77_open hK
 exact ⟨ad,e,hc 0 _ rfl,by rw [← add_field _ _ 1 (by omega)];exact hc 1 _ rfl,by rw [← add_field _ _ 2 (by omega)];exact hc 2 _ rfl,by rw [← add_field _ _ 3 (by omega)];exact hc 3 _ rfl⟩
structure SlM31 where
 f0:Int
 f1:Int
 f2:Int
 f3:(List SlS33)
 f4:(List SlU35)
 f5:(List SlT34)
 f6:(List SlP32)
def k27:Kd SlM31:=Kd.iso (Kd.pair (Kd.int .i64) (Kd.pair (Kd.int .i64) (Kd.pair (Kd.int .i64) (Kd.pair (Kd.slice 60 k60) (Kd.pair (Kd.slice 62 k62) (Kd.pair (Kd.slice 66 k66) (Kd.slice 69 k69))))))) (fun x:SlM31=>(x.f0,x.f1,x.f2,x.f3,x.f4,x.f5,x.f6))
theorem k27_open {w:World} {x:SlM31} {cs:List Value} (h:k27.K w x cs):∃ A3 c3 A4 c4 A5 c5 A6 c6,cs = [.int .i64 x.f0,.int .i64 x.f1,.int .i64 x.f2,.slice A3 x.f3.length c3,.slice A4 x.f4.length c4,.slice A5 x.f5.length c5,.slice A6 x.f6.length c6] ∧ x.f3.length ≤ c3 ∧ k60.C w A3 x.f3.length x.f3 ∧ x.f4.length ≤ c4 ∧ k62.C w A4 x.f4.length x.f4 ∧ x.f5.length ≤ c5 ∧ k66.C w A5 x.f5.length x.f5 ∧ x.f6.length ≤ c6 ∧ k69.C w A6 x.f6.length x.f6:=by
 obtain ⟨_,_,rfl,rfl,⟨_,_,rfl,rfl,⟨_,_,rfl,rfl,⟨_,_,rfl,⟨A3,c3,rfl,l3,g3⟩,⟨_,_,rfl,⟨A4,c4,rfl,l4,g4⟩,⟨_,_,rfl,⟨A5,c5,rfl,l5,g5⟩,⟨A6,c6,rfl,l6,g6⟩⟩⟩⟩⟩⟩⟩:=h
 exact ⟨A3,c3,A4,c4,A5,c5,A6,c6,rfl,l3,g3,l4,g4,l5,g5,l6,g6⟩
def GlS24 (x:SlS33):Prop:=(x.f0.size ≤ 9223372036854775807) ∧ (x.f1.size ≤ 9223372036854775807) ∧ ((Lit.int .i64 x.f2).wf = true) ∧ (True) ∧ ((Lit.int .i64 x.f4).wf = true)
set_option maxRecDepth 100000 in
theorem opens60:Opens.Opens Tryd.prog k60 60 GlS24:=⟨by
 intro H enc w base spare held fuel cs x h;obtain ⟨xs,n,_,_,hl,hlen,hf⟩:=DataW.trod_struct Tryd.underlying60 h;have hc:cs.length = 5:=hl.trans (by kernel_rfl);have h0:=hf 0 _ rfl;rw [List.getElem?_eq_getElem (by rw [hlen];first|exact of_decide_eq_true (by kernel_rfl)|decide)] at h0;obtain ⟨a0,k0,g0⟩:=(Opens.opens_string Tryd.underlying9).out h0;have k0:(Kd.string).K w a0 ((cs.drop 0).take 1):=k0;have h1:=hf 1 _ rfl;rw [List.getElem?_eq_getElem (by rw [hlen];first|exact of_decide_eq_true (by kernel_rfl)|decide)] at h1;obtain ⟨a1,k1,g1⟩:=(Opens.opens_string Tryd.underlying9).out h1;have k1:(Kd.string).K w a1 ((cs.drop 1).take 1):=k1;have h2:=hf 2 _ rfl;rw [List.getElem?_eq_getElem (by rw [hlen];first|exact of_decide_eq_true (by kernel_rfl)|decide)] at h2;obtain ⟨a2,k2,g2⟩:=(Opens.opens_int Tryd.underlying3).out h2;have k2:((Kd.int .i64)).K w a2 ((cs.drop 2).take 1):=k2;have h3:=hf 3 _ rfl;rw [List.getElem?_eq_getElem (by rw [hlen];first|exact of_decide_eq_true (by kernel_rfl)|decide)] at h3;obtain ⟨a3,k3,g3⟩:=(Opens.opens_bool Tryd.underlying4).out h3;have k3:(Kd.bool).K w a3 ((cs.drop 3).take 1):=k3;have h4:=hf 4 _ rfl;rw [List.getElem?_eq_getElem (by rw [hlen];first|exact of_decide_eq_true (by kernel_rfl)|decide)] at h4;obtain ⟨a4,k4,g4⟩:=(Opens.opens_int Tryd.underlying3).out h4;have k4:((Kd.int .i64)).K w a4 ((cs.drop 4).take 1):=k4;have q4:((Kd.int .i64)).K w a4 (cs.drop 4):=by rw [Opens.seg_last (n:=1) (by omega)] at k4;exact k4
 exact ⟨⟨a0,a1,a2,a3,a4⟩,⟨(cs.drop 0).take 1,cs.drop 1,Opens.seg_split (a:=0) (n:=1) rfl,k0,⟨(cs.drop 1).take 1,cs.drop 2,Opens.seg_split (a:=1) (n:=1) rfl,k1,⟨(cs.drop 2).take 1,cs.drop 3,Opens.seg_split (a:=2) (n:=1) rfl,k2,⟨(cs.drop 3).take 1,cs.drop 4,Opens.seg_split (a:=3) (n:=1) rfl,k3,q4⟩⟩⟩⟩,g0,g1,g2,g3,g4⟩⟩
def GlU26 (x:SlU35):Prop:=(x.f0.size ≤ 9223372036854775807) ∧ ((Lit.int .i64 x.f1).wf = true)
set_option maxRecDepth 100000 in
theorem opens62:Opens.Opens Tryd.prog k62 62 GlU26:=⟨by
 intro H enc w base spare held fuel cs x h;obtain ⟨xs,n,_,_,hl,hlen,hf⟩:=DataW.trod_struct Tryd.underlying62 h;have hc:cs.length = 2:=hl.trans (by kernel_rfl);have h0:=hf 0 _ rfl;rw [List.getElem?_eq_getElem (by rw [hlen];first|exact of_decide_eq_true (by kernel_rfl)|decide)] at h0;obtain ⟨a0,k0,g0⟩:=(Opens.opens_string Tryd.underlying9).out h0;have k0:(Kd.string).K w a0 ((cs.drop 0).take 1):=k0;have h1:=hf 1 _ rfl;rw [List.getElem?_eq_getElem (by rw [hlen];first|exact of_decide_eq_true (by kernel_rfl)|decide)] at h1;obtain ⟨a1,k1,g1⟩:=(Opens.opens_int Tryd.underlying3).out h1;have k1:((Kd.int .i64)).K w a1 ((cs.drop 1).take 1):=k1;have q1:((Kd.int .i64)).K w a1 (cs.drop 1):=by rw [Opens.seg_last (n:=1) (by omega)] at k1;exact k1
 exact ⟨⟨a0,a1⟩,⟨(cs.drop 0).take 1,cs.drop 1,Opens.seg_split (a:=0) (n:=1) rfl,k0,q1⟩,g0,g1⟩⟩
def GlT25 (x:SlT34):Prop:=(x.f0.size ≤ 9223372036854775807) ∧ (x.f1.size ≤ 9223372036854775807) ∧ ((Lit.int .i64 x.f2).wf = true) ∧ ((Lit.int .i64 x.f3).wf = true) ∧ (True) ∧ ((x.f5.length ≤ 9223372036854775807 ∧ ∀ y_ ∈ x.f5,y_.size ≤ 9223372036854775807)) ∧ (x.f6.size ≤ 9223372036854775807)
set_option maxRecDepth 100000 in
theorem opens66:Opens.Opens Tryd.prog k66 66 GlT25:=⟨by
 intro H enc w base spare held fuel cs x h;obtain ⟨xs,n,_,_,hl,hlen,hf⟩:=DataW.trod_struct Tryd.underlying66 h;have hc:cs.length = 7:=hl.trans (by kernel_rfl);have h0:=hf 0 _ rfl;rw [List.getElem?_eq_getElem (by rw [hlen];first|exact of_decide_eq_true (by kernel_rfl)|decide)] at h0;obtain ⟨a0,k0,g0⟩:=(Opens.opens_string Tryd.underlying9).out h0;have k0:(Kd.string).K w a0 ((cs.drop 0).take 1):=k0;have h1:=hf 1 _ rfl;rw [List.getElem?_eq_getElem (by rw [hlen];first|exact of_decide_eq_true (by kernel_rfl)|decide)] at h1;obtain ⟨a1,k1,g1⟩:=(Opens.opens_string Tryd.underlying9).out h1;have k1:(Kd.string).K w a1 ((cs.drop 1).take 1):=k1;have h2:=hf 2 _ rfl;rw [List.getElem?_eq_getElem (by rw [hlen];first|exact of_decide_eq_true (by kernel_rfl)|decide)] at h2;obtain ⟨a2,k2,g2⟩:=(Opens.opens_int Tryd.underlying3).out h2;have k2:((Kd.int .i64)).K w a2 ((cs.drop 2).take 1):=k2;have h3:=hf 3 _ rfl;rw [List.getElem?_eq_getElem (by rw [hlen];first|exact of_decide_eq_true (by kernel_rfl)|decide)] at h3;obtain ⟨a3,k3,g3⟩:=(Opens.opens_int Tryd.underlying3).out h3;have k3:((Kd.int .i64)).K w a3 ((cs.drop 3).take 1):=k3;have h4:=hf 4 _ rfl;rw [List.getElem?_eq_getElem (by rw [hlen];first|exact of_decide_eq_true (by kernel_rfl)|decide)] at h4;obtain ⟨a4,k4,g4⟩:=(Opens.opens_bool Tryd.underlying4).out h4;have k4:(Kd.bool).K w a4 ((cs.drop 4).take 1):=k4;have h5:=hf 5 _ rfl;rw [List.getElem?_eq_getElem (by rw [hlen];first|exact of_decide_eq_true (by kernel_rfl)|decide)] at h5;obtain ⟨a5,k5,g5⟩:=(Opens.opens_slice Tryd.underlying64 (by kernel_rfl) (Opens.opens_string Tryd.underlying9)).out h5;have k5:((Kd.slice 9 Kd.string)).K w a5 ((cs.drop 5).take 1):=k5;have h6:=hf 6 _ rfl;rw [List.getElem?_eq_getElem (by rw [hlen];first|exact of_decide_eq_true (by kernel_rfl)|decide)] at h6;obtain ⟨a6,k6,g6⟩:=(Opens.opens_string Tryd.underlying9).out h6;have k6:(Kd.string).K w a6 ((cs.drop 6).take 1):=k6;have q6:(Kd.string).K w a6 (cs.drop 6):=by rw [Opens.seg_last (n:=1) (by omega)] at k6;exact k6
 exact ⟨⟨a0,a1,a2,a3,a4,a5,a6⟩,⟨(cs.drop 0).take 1,cs.drop 1,Opens.seg_split (a:=0) (n:=1) rfl,k0,⟨(cs.drop 1).take 1,cs.drop 2,Opens.seg_split (a:=1) (n:=1) rfl,k1,⟨(cs.drop 2).take 1,cs.drop 3,Opens.seg_split (a:=2) (n:=1) rfl,k2,⟨(cs.drop 3).take 1,cs.drop 4,Opens.seg_split (a:=3) (n:=1) rfl,k3,⟨(cs.drop 4).take 1,cs.drop 5,Opens.seg_split (a:=4) (n:=1) rfl,k4,⟨(cs.drop 5).take 1,cs.drop 6,Opens.seg_split (a:=5) (n:=1) rfl,k5,q6⟩⟩⟩⟩⟩⟩,g0,g1,g2,g3,g4,g5,g6⟩⟩
def GlP23 (x:SlP32):Prop:=((Lit.int .i64 x.f0).wf = true) ∧ (x.f1.size ≤ 9223372036854775807) ∧ (x.f2.size ≤ 9223372036854775807) ∧ (x.f3.size ≤ 9223372036854775807)
set_option maxRecDepth 100000 in
theorem opens69:Opens.Opens Tryd.prog k69 69 GlP23:=⟨by
 intro H enc w base spare held fuel cs x h;obtain ⟨xs,n,_,_,hl,hlen,hf⟩:=DataW.trod_struct Tryd.underlying69 h;have hc:cs.length = 4:=hl.trans (by kernel_rfl);have h0:=hf 0 _ rfl;rw [List.getElem?_eq_getElem (by rw [hlen];first|exact of_decide_eq_true (by kernel_rfl)|decide)] at h0;obtain ⟨a0,k0,g0⟩:=(Opens.opens_int Tryd.underlying3).out h0;have k0:((Kd.int .i64)).K w a0 ((cs.drop 0).take 1):=k0;have h1:=hf 1 _ rfl;rw [List.getElem?_eq_getElem (by rw [hlen];first|exact of_decide_eq_true (by kernel_rfl)|decide)] at h1;obtain ⟨a1,k1,g1⟩:=(Opens.opens_string Tryd.underlying9).out h1;have k1:(Kd.string).K w a1 ((cs.drop 1).take 1):=k1;have h2:=hf 2 _ rfl;rw [List.getElem?_eq_getElem (by rw [hlen];first|exact of_decide_eq_true (by kernel_rfl)|decide)] at h2;obtain ⟨a2,k2,g2⟩:=(Opens.opens_string Tryd.underlying9).out h2;have k2:(Kd.string).K w a2 ((cs.drop 2).take 1):=k2;have h3:=hf 3 _ rfl;rw [List.getElem?_eq_getElem (by rw [hlen];first|exact of_decide_eq_true (by kernel_rfl)|decide)] at h3;obtain ⟨a3,k3,g3⟩:=(Opens.opens_string Tryd.underlying9).out h3;have k3:(Kd.string).K w a3 ((cs.drop 3).take 1):=k3;have q3:(Kd.string).K w a3 (cs.drop 3):=by rw [Opens.seg_last (n:=1) (by omega)] at k3;exact k3
 exact ⟨⟨a0,a1,a2,a3⟩,⟨(cs.drop 0).take 1,cs.drop 1,Opens.seg_split (a:=0) (n:=1) rfl,k0,⟨(cs.drop 1).take 1,cs.drop 2,Opens.seg_split (a:=1) (n:=1) rfl,k1,⟨(cs.drop 2).take 1,cs.drop 3,Opens.seg_split (a:=2) (n:=1) rfl,k2,q3⟩⟩⟩,g0,g1,g2,g3⟩⟩
def GlM22 (x:SlM31):Prop:=((Lit.int .i64 x.f0).wf = true) ∧ ((Lit.int .i64 x.f1).wf = true) ∧ ((Lit.int .i64 x.f2).wf = true) ∧ ((x.f3.length ≤ 9223372036854775807 ∧ ∀ y_ ∈ x.f3,GlS24 y_)) ∧ ((x.f4.length ≤ 9223372036854775807 ∧ ∀ y_ ∈ x.f4,GlU26 y_)) ∧ ((x.f5.length ≤ 9223372036854775807 ∧ ∀ y_ ∈ x.f5,GlT25 y_)) ∧ ((x.f6.length ≤ 9223372036854775807 ∧ ∀ y_ ∈ x.f6,GlP23 y_))
set_option maxRecDepth 100000 in
theorem opens27:Opens.Opens Tryd.prog k27 27 GlM22:=⟨by
 intro H enc w base spare held fuel cs x h;obtain ⟨xs,n,_,_,hl,hlen,hf⟩:=DataW.trod_struct Tryd.underlying27 h;have hc:cs.length = 7:=hl.trans (by kernel_rfl);have h0:=hf 0 _ rfl;rw [List.getElem?_eq_getElem (by rw [hlen];first|exact of_decide_eq_true (by kernel_rfl)|decide)] at h0;obtain ⟨a0,k0,g0⟩:=(Opens.opens_int Tryd.underlying3).out h0;have k0:((Kd.int .i64)).K w a0 ((cs.drop 0).take 1):=k0;have h1:=hf 1 _ rfl;rw [List.getElem?_eq_getElem (by rw [hlen];first|exact of_decide_eq_true (by kernel_rfl)|decide)] at h1;obtain ⟨a1,k1,g1⟩:=(Opens.opens_int Tryd.underlying3).out h1;have k1:((Kd.int .i64)).K w a1 ((cs.drop 1).take 1):=k1;have h2:=hf 2 _ rfl;rw [List.getElem?_eq_getElem (by rw [hlen];first|exact of_decide_eq_true (by kernel_rfl)|decide)] at h2;obtain ⟨a2,k2,g2⟩:=(Opens.opens_int Tryd.underlying3).out h2;have k2:((Kd.int .i64)).K w a2 ((cs.drop 2).take 1):=k2;have h3:=hf 3 _ rfl;rw [List.getElem?_eq_getElem (by rw [hlen];first|exact of_decide_eq_true (by kernel_rfl)|decide)] at h3;obtain ⟨a3,k3,g3⟩:=(Opens.opens_slice Tryd.underlying22 (by kernel_rfl) opens60).out h3;have k3:((Kd.slice 60 k60)).K w a3 ((cs.drop 3).take 1):=k3;have h4:=hf 4 _ rfl;rw [List.getElem?_eq_getElem (by rw [hlen];first|exact of_decide_eq_true (by kernel_rfl)|decide)] at h4;obtain ⟨a4,k4,g4⟩:=(Opens.opens_slice Tryd.underlying23 (by kernel_rfl) opens62).out h4;have k4:((Kd.slice 62 k62)).K w a4 ((cs.drop 4).take 1):=k4;have h5:=hf 5 _ rfl;rw [List.getElem?_eq_getElem (by rw [hlen];first|exact of_decide_eq_true (by kernel_rfl)|decide)] at h5;obtain ⟨a5,k5,g5⟩:=(Opens.opens_slice Tryd.underlying24 (by kernel_rfl) opens66).out h5;have k5:((Kd.slice 66 k66)).K w a5 ((cs.drop 5).take 1):=k5;have h6:=hf 6 _ rfl;rw [List.getElem?_eq_getElem (by rw [hlen];first|exact of_decide_eq_true (by kernel_rfl)|decide)] at h6;obtain ⟨a6,k6,g6⟩:=(Opens.opens_slice Tryd.underlying25 (by kernel_rfl) opens69).out h6;have k6:((Kd.slice 69 k69)).K w a6 ((cs.drop 6).take 1):=k6;have q6:((Kd.slice 69 k69)).K w a6 (cs.drop 6):=by rw [Opens.seg_last (n:=1) (by omega)] at k6;exact k6
 exact ⟨⟨a0,a1,a2,a3,a4,a5,a6⟩,⟨(cs.drop 0).take 1,cs.drop 1,Opens.seg_split (a:=0) (n:=1) rfl,k0,⟨(cs.drop 1).take 1,cs.drop 2,Opens.seg_split (a:=1) (n:=1) rfl,k1,⟨(cs.drop 2).take 1,cs.drop 3,Opens.seg_split (a:=2) (n:=1) rfl,k2,⟨(cs.drop 3).take 1,cs.drop 4,Opens.seg_split (a:=3) (n:=1) rfl,k3,⟨(cs.drop 4).take 1,cs.drop 5,Opens.seg_split (a:=4) (n:=1) rfl,k4,⟨(cs.drop 5).take 1,cs.drop 6,Opens.seg_split (a:=5) (n:=1) rfl,k5,q6⟩⟩⟩⟩⟩⟩,g0,g1,g2,g3,g4,g5,g6⟩⟩
def laws_szSpace.f (a0_0:ByteArray) (a0_1:ByteArray) (a0_2:Int) (a0_3:Bool) (a0_4:Int) (a1:Int):Option (Int):=if (wrap64 (a1 - (a0_0.size:Int))) < 0 then (some (-1)) else (if (wrap64 ((wrap64 (a1 - (a0_0.size:Int))) - (a0_1.size:Int))) < 0 then (some (-1)) else (some (wrap64 ((wrap64 (a1 - (a0_0.size:Int))) - (a0_1.size:Int)))))
set_option maxHeartbeats 40000000 in
set_option maxRecDepth 100000 in
theorem laws_szSpace.calls (a0_0:ByteArray) (a0_1:ByteArray) (a0_2:Int) (a0_3:Bool) (a0_4:Int) (a1:Int) (r:Int) (w:World) (h:laws_szSpace.f a0_0 a0_1 a0_2 a0_3 a0_4 a1 = some r) :
 Calls Tryd.prog 28 #[.agg #[.string a0_0,.string a0_1,.int .i64 a0_2,.bool a0_3,.int .i64 a0_4],.int .i64 a1] w fun e w'=>e = .returned (.int .i64 r) ∧ Below w.heap.size w w':=by
 have hu60:=Tryd.underlying60;have HB:=As0.mk (Below.refl w.heap.size w);have H:(if (wrap64 (a1 - (a0_0.size:Int))) < 0 then (some (-1)) else (if (wrap64 ((wrap64 (a1 - (a0_0.size:Int))) - (a0_1.size:Int))) < 0 then (some (-1)) else (some (wrap64 ((wrap64 (a1 - (a0_0.size:Int))) - (a0_1.size:Int)))))) = some r:=h;clear h;by_cases c3:(wrap64 (a1 - (a0_0.size:Int))) < 0
 · rw [if_pos c3] at H
   have c3b0:decide ((wrap64 (a1 - (a0_0.size:Int))) < 0) = true:=decide_eq_true c3;clear c3;obtain rfl:=Option.some.inj H
   go_enter Tryd.func28,Tryd.ntmps28
   go_wp2_with (first|((with_reducible refine gate_dst (N:=2) rfl ?_);refine bE 2 #[.string a0_0,.string a0_1,.int .i64 a0_2,.bool a0_3,.int .i64 a0_4] 60 ?_;intro gb101 hg w4 hbox hb;have BK101:=As0.mk (hbox);have GW101:=As0.mk ((by rw [hg];exact (bsz (by repeat (first|(with_reducible first|exact HB.out|apply bal|apply pbN|apply bd1)|exact HB.out))):w.heap.size ≤ gb101));have GE101:=GW101;replace HB:=As0.mk (b3 HB.out hb);clear hb hbox hg;obtain ⟨hcz5_0,hcz5_1,hcz5_2,hcz5_3,hcz5_4⟩:=qc5 BK101.out;obtain ⟨hfz5_0,hfz5_1,hfz5_2,hfz5_3,hfz5_4⟩:=qz5 BK101.out))
   go_ret
   exact ⟨eW,by repeat (first|(with_reducible first|exact HB.out|apply bal|apply pbN|apply bd1|refine bst ?_ GE101.out)|exact HB.out)⟩
 · rw [if_neg c3] at H
   have c3b0:decide ((wrap64 (a1 - (a0_0.size:Int))) < 0) = false:=decide_eq_false c3;clear c3;by_cases c6:(wrap64 ((wrap64 (a1 - (a0_0.size:Int))) - (a0_1.size:Int))) < 0
   · rw [if_pos c6] at H
     have c6b0:decide ((wrap64 ((wrap64 (a1 - (a0_0.size:Int))) - (a0_1.size:Int))) < 0) = true:=decide_eq_true c6;clear c6;obtain rfl:=Option.some.inj H
     go_enter Tryd.func28,Tryd.ntmps28
     go_wp2_with (first|((with_reducible refine gate_dst (N:=2) rfl ?_);refine bE 2 #[.string a0_0,.string a0_1,.int .i64 a0_2,.bool a0_3,.int .i64 a0_4] 60 ?_;intro gb101 hg w7 hbox hb;have BK101:=As0.mk (hbox);have GW101:=As0.mk ((by rw [hg];exact (bsz (by repeat (first|(with_reducible first|exact HB.out|apply bal|apply pbN|apply bd1)|exact HB.out))):w.heap.size ≤ gb101));have GE101:=GW101;replace HB:=As0.mk (b3 HB.out hb);clear hb hbox hg;obtain ⟨hcz8_0,hcz8_1,hcz8_2,hcz8_3,hcz8_4⟩:=qc5 BK101.out;obtain ⟨hfz8_0,hfz8_1,hfz8_2,hfz8_3,hfz8_4⟩:=qz5 BK101.out))
     go_ret
     exact ⟨eW,by repeat (first|(with_reducible first|exact HB.out|apply bal|apply pbN|apply bd1|refine bst ?_ GE101.out)|exact HB.out)⟩
   · rw [if_neg c6] at H
     have c6b0:decide ((wrap64 ((wrap64 (a1 - (a0_0.size:Int))) - (a0_1.size:Int))) < 0) = false:=decide_eq_false c6;clear c6;obtain rfl:=Option.some.inj H
     go_enter Tryd.func28,Tryd.ntmps28
     go_wp2_with (first|((with_reducible refine gate_dst (N:=2) rfl ?_);refine bE 2 #[.string a0_0,.string a0_1,.int .i64 a0_2,.bool a0_3,.int .i64 a0_4] 60 ?_;intro gb101 hg w9 hbox hb;have BK101:=As0.mk (hbox);have GW101:=As0.mk ((by rw [hg];exact (bsz (by repeat (first|(with_reducible first|exact HB.out|apply bal|apply pbN|apply bd1)|exact HB.out))):w.heap.size ≤ gb101));have GE101:=GW101;replace HB:=As0.mk (b3 HB.out hb);clear hb hbox hg;obtain ⟨hcz10_0,hcz10_1,hcz10_2,hcz10_3,hcz10_4⟩:=qc5 BK101.out;obtain ⟨hfz10_0,hfz10_1,hfz10_2,hfz10_3,hfz10_4⟩:=qz5 BK101.out))
     go_ret
     exact ⟨eW,by repeat (first|(with_reducible first|exact HB.out|apply bal|apply pbN|apply bd1|refine bst ?_ GE101.out)|exact HB.out)⟩
def laws_szSpaceS.l0:Nat → List (SlS33) → Int → Int → Option (Int)
 |0,_,_,_=>none
 |k + 1,x0,x1,x5=>if x5 < (x0.length:Int) then (if 0 ≤ x5 then ((laws_szSpace.f ((rlS41 x0 x5).f0) ((rlS41 x0 x5).f1) ((rlS41 x0 x5).f2) ((rlS41 x0 x5).f3) ((rlS41 x0 x5).f4) x1).bind fun t103=>(if t103 < 0 then (some (-1)) else (laws_szSpaceS.l0 k x0 t103 (wrap64 (x5 + 1))))) else (none)) else (some x1)
def laws_szSpaceS.f (k:Nat) (l0:List (SlS33)) (a1:Int):Option (Int):=if (wrap64 (a1 - (l0.length:Int))) < 0 then (some (-1)) else (laws_szSpaceS.l0 k l0 (wrap64 (a1 - (l0.length:Int))) 0)
set_option maxHeartbeats 40000000 in
set_option maxRecDepth 100000 in
theorem laws_szSpaceS.calls (k:Nat) (A0:Option Addr) (c0:Nat) (l0:List (SlS33)) (a1:Int) (r:Int) (w:World) (hr0:Kd.C k60 w A0 l0.length l0) (hc0:l0.length ≤ c0) (h:laws_szSpaceS.f k l0 a1 = some r) :
 Calls Tryd.prog 9 #[.slice A0 l0.length c0,.int .i64 a1] w fun e w'=>e = .returned (.int .i64 r) ∧ Below w.heap.size w w':=by
 have hu60:=Tryd.underlying60;have HR0:=As0.mk hr0;have HC0:=As0.mk hc0;clear hr0 hc0;have HB:=As0.mk (Below.refl w.heap.size w);have H:(if (wrap64 (a1 - (l0.length:Int))) < 0 then (some (-1)) else (laws_szSpaceS.l0 k l0 (wrap64 (a1 - (l0.length:Int))) 0)) = some r:=h;clear h;by_cases c3:(wrap64 (a1 - (l0.length:Int))) < 0
 · rw [if_pos c3] at H
   have c3b0:decide ((wrap64 (a1 - (l0.length:Int))) < 0) = true:=decide_eq_true c3;clear c3;obtain rfl:=Option.some.inj H
   go_enter Tryd.func9,Tryd.ntmps9
   go_wp2
   go_ret
   exact ⟨eW,by repeat (first|(with_reducible first|exact HB.out|apply bal|apply pbN|apply bd1)|exact HB.out)⟩
 · rw [if_neg c3] at H
   have c3b0:decide ((wrap64 (a1 - (l0.length:Int))) < 0) = false:=decide_eq_false c3;clear c3;have H':=As0.mk H;clear H
   go_enter Tryd.func9,Tryd.ntmps9
   go_wp2
   show _;go_loopg [1,5] k (fun kq v1 v5 w'=>∃ (x1_1:Int) (x5_1:Int),v1 = .int .i64 x1_1 ∧ v5 = .int .i64 x5_1 ∧ As0 (laws_szSpaceS.l0 kq l0 x1_1 x5_1 = some r) ∧ As0 (kq ≤ k) ∧ As0 (Below w.heap.size w w'))
   case atStart=>exact ⟨(wrap64 (a1 - (l0.length:Int))),(0),(by first|rfl|(simp;done)|(simp [*];done)),(by first|rfl|(simp;done)|(simp [*];done)),H',⟨Nat.le_refl _⟩,⟨by repeat (first|(with_reducible first|exact HB.out|apply bal|apply pbN|apply bd1)|exact HB.out)⟩⟩
   case round=>
    clear H'
    try clear p2
    try clear c3
    try clear c3b0
    obtain ⟨x1_1,x5_1,rfl,rfl,HA,HK1,HB⟩:=hrel
    cases gk with
    |zero=>exact absurd HA.out (by simp [laws_szSpaceS.l0])
    |succ k1=>
     have H:=HA.out;clear HA;simp only [laws_szSpaceS.l0] at H;by_cases c4:x5_1 < (l0.length:Int)
     · rw [if_pos c4] at H
       have c4b0:decide (x5_1 < (l0.length:Int)) = true:=decide_eq_true c4;clear c4;by_cases c5:0 ≤ x5_1
       · rw [if_pos c5] at H
         have c5b0:decide (0 ≤ x5_1) = true:=decide_eq_true c5;clear c5;replace H:=Option.bind_eq_some_iff.mp H;obtain ⟨t103,A60,H⟩:=H;(try dsimp only at H);have A6:=As0.mk A60;clear A60;by_cases c7:t103 < 0
         · rw [if_pos c7] at H
           have c7b0:decide (t103 < 0) = true:=decide_eq_true c7;clear c7;obtain rfl:=Option.some.inj H;have p102:0 ≤ (x5_1:Int):=odt;have q102:x5_1 < (l0.length:Int):=odt;obtain ⟨ad102,e102,hx102_0,hx102_1,hx102_2,hx102_3,hx102_4⟩:=at_T60 HR0.out x5_1 p102 q102
           cases e102
           replace hx102_0:=bx HB.out rfl hx102_0;replace hx102_1:=bx HB.out rfl hx102_1;replace hx102_2:=bx HB.out rfl hx102_2;replace hx102_3:=bx HB.out rfl hx102_3;replace hx102_4:=bx HB.out rfl hx102_4;replace p102:=eq_true p102;replace q102:=eq_true q102
           go_wp2_with (first|((with_reducible refine gca (f:=28) rfl ?_);refine gL (some 23) Tryd.func28 #[.agg #[.string ((rlS41 l0 x5_1).f0),.string ((rlS41 l0 x5_1).f1),.int .i64 ((rlS41 l0 x5_1).f2),.bool ((rlS41 l0 x5_1).f3),.int .i64 ((rlS41 l0 x5_1).f4)],.int .i64 x1_1] ?_;(with_reducible refine (laws_szSpace.calls ((rlS41 l0 x5_1).f0) ((rlS41 l0 x5_1).f1) ((rlS41 l0 x5_1).f2) ((rlS41 l0 x5_1).f3) ((rlS41 l0 x5_1).f4) x1_1 t103 _ A6.out).mono ?_);rintro e w8 ⟨rfl,hb⟩;refine ⟨_,rfl,?_⟩;replace HB:=As0.mk (b3 HB.out hb);clear hb))
           go_ret
           exact ⟨eW,by repeat (first|(with_reducible first|exact HB.out|apply bal|apply pbN|apply bd1)|exact HB.out)⟩
         · rw [if_neg c7] at H
           have c7b0:decide (t103 < 0) = false:=decide_eq_false c7;clear c7;have H':=As0.mk H;clear H;have p102:0 ≤ (x5_1:Int):=odt;have q102:x5_1 < (l0.length:Int):=odt;obtain ⟨ad102,e102,hx102_0,hx102_1,hx102_2,hx102_3,hx102_4⟩:=at_T60 HR0.out x5_1 p102 q102
           cases e102
           replace hx102_0:=bx HB.out rfl hx102_0;replace hx102_1:=bx HB.out rfl hx102_1;replace hx102_2:=bx HB.out rfl hx102_2;replace hx102_3:=bx HB.out rfl hx102_3;replace hx102_4:=bx HB.out rfl hx102_4;replace p102:=eq_true p102;replace q102:=eq_true q102
           go_wp2_with (first|((with_reducible refine gca (f:=28) rfl ?_);refine gL (some 23) Tryd.func28 #[.agg #[.string ((rlS41 l0 x5_1).f0),.string ((rlS41 l0 x5_1).f1),.int .i64 ((rlS41 l0 x5_1).f2),.bool ((rlS41 l0 x5_1).f3),.int .i64 ((rlS41 l0 x5_1).f4)],.int .i64 x1_1] ?_;(with_reducible refine (laws_szSpace.calls ((rlS41 l0 x5_1).f0) ((rlS41 l0 x5_1).f1) ((rlS41 l0 x5_1).f2) ((rlS41 l0 x5_1).f3) ((rlS41 l0 x5_1).f4) x1_1 t103 _ A6.out).mono ?_);rintro e w9 ⟨rfl,hb⟩;refine ⟨_,rfl,?_⟩;replace HB:=As0.mk (b3 HB.out hb);clear hb))
           show _;go_roundg k1
           case measure=>have:=HK1.out;omega
           case rel=>exact ⟨(t103),(wrap64 (x5_1 + 1)),(by first|rfl|(simp;done)|(simp [*];done)),(by first|rfl|(simp;done)|(simp [*];done)),H',⟨by have:=HK1.out;omega⟩,⟨by repeat (first|(with_reducible first|exact HB.out|apply bal|apply pbN|apply bd1)|exact HB.out)⟩⟩
       · rw [if_neg c5] at H
         exact absurd H (by simp)
     · rw [if_neg c4] at H
       have c4b0:decide (x5_1 < (l0.length:Int)) = false:=decide_eq_false c4;clear c4;obtain rfl:=Option.some.inj H
       go_wp2
       go_ret
       exact ⟨eW,by repeat (first|(with_reducible first|exact HB.out|apply bal|apply pbN|apply bd1)|exact HB.out)⟩
def laws_szUse.f (a0_0:ByteArray) (a0_1:Int) (a1:Int):Option (Int):=if (wrap64 (a1 - (a0_0.size:Int))) < 0 then (some (-1)) else (some (wrap64 (a1 - (a0_0.size:Int))))
set_option maxHeartbeats 40000000 in
set_option maxRecDepth 100000 in
theorem laws_szUse.calls (a0_0:ByteArray) (a0_1:Int) (a1:Int) (r:Int) (w:World) (h:laws_szUse.f a0_0 a0_1 a1 = some r) :
 Calls Tryd.prog 29 #[.agg #[.string a0_0,.int .i64 a0_1],.int .i64 a1] w fun e w'=>e = .returned (.int .i64 r) ∧ Below w.heap.size w w':=by
 have hu62:=Tryd.underlying62;have HB:=As0.mk (Below.refl w.heap.size w);have H:(if (wrap64 (a1 - (a0_0.size:Int))) < 0 then (some (-1)) else (some (wrap64 (a1 - (a0_0.size:Int))))) = some r:=h;clear h;by_cases c3:(wrap64 (a1 - (a0_0.size:Int))) < 0
 · rw [if_pos c3] at H
   have c3b0:decide ((wrap64 (a1 - (a0_0.size:Int))) < 0) = true:=decide_eq_true c3;clear c3;obtain rfl:=Option.some.inj H
   go_enter Tryd.func29,Tryd.ntmps29
   go_wp2_with (first|((with_reducible refine gate_dst (N:=2) rfl ?_);refine bE 2 #[.string a0_0,.int .i64 a0_1] 62 ?_;intro gb104 hg w4 hbox hb;have BK104:=As0.mk (hbox);have GW104:=As0.mk ((by rw [hg];exact (bsz (by repeat (first|(with_reducible first|exact HB.out|apply bal|apply pbN|apply bd1)|exact HB.out))):w.heap.size ≤ gb104));have GE104:=GW104;replace HB:=As0.mk (b3 HB.out hb);clear hb hbox hg;obtain ⟨hcz5_0,hcz5_1⟩:=qc2 BK104.out;obtain ⟨hfz5_0,hfz5_1⟩:=qz2 BK104.out))
   go_ret
   exact ⟨eW,by repeat (first|(with_reducible first|exact HB.out|apply bal|apply pbN|apply bd1|refine bst ?_ GE104.out)|exact HB.out)⟩
 · rw [if_neg c3] at H
   have c3b0:decide ((wrap64 (a1 - (a0_0.size:Int))) < 0) = false:=decide_eq_false c3;clear c3;obtain rfl:=Option.some.inj H
   go_enter Tryd.func29,Tryd.ntmps29
   go_wp2_with (first|((with_reducible refine gate_dst (N:=2) rfl ?_);refine bE 2 #[.string a0_0,.int .i64 a0_1] 62 ?_;intro gb104 hg w6 hbox hb;have BK104:=As0.mk (hbox);have GW104:=As0.mk ((by rw [hg];exact (bsz (by repeat (first|(with_reducible first|exact HB.out|apply bal|apply pbN|apply bd1)|exact HB.out))):w.heap.size ≤ gb104));have GE104:=GW104;replace HB:=As0.mk (b3 HB.out hb);clear hb hbox hg;obtain ⟨hcz7_0,hcz7_1⟩:=qc2 BK104.out;obtain ⟨hfz7_0,hfz7_1⟩:=qz2 BK104.out))
   go_ret
   exact ⟨eW,by repeat (first|(with_reducible first|exact HB.out|apply bal|apply pbN|apply bd1|refine bst ?_ GE104.out)|exact HB.out)⟩
def laws_szUseS.l0:Nat → List (SlU35) → Int → Int → Option (Int)
 |0,_,_,_=>none
 |k + 1,x0,x1,x5=>if x5 < (x0.length:Int) then (if 0 ≤ x5 then ((laws_szUse.f ((rlU43 x0 x5).f0) ((rlU43 x0 x5).f1) x1).bind fun t106=>(if t106 < 0 then (some (-1)) else (laws_szUseS.l0 k x0 t106 (wrap64 (x5 + 1))))) else (none)) else (some x1)
def laws_szUseS.f (k:Nat) (l0:List (SlU35)) (a1:Int):Option (Int):=if (wrap64 (a1 - (l0.length:Int))) < 0 then (some (-1)) else (laws_szUseS.l0 k l0 (wrap64 (a1 - (l0.length:Int))) 0)
set_option maxHeartbeats 40000000 in
set_option maxRecDepth 100000 in
theorem laws_szUseS.calls (k:Nat) (A0:Option Addr) (c0:Nat) (l0:List (SlU35)) (a1:Int) (r:Int) (w:World) (hr0:Kd.C k62 w A0 l0.length l0) (hc0:l0.length ≤ c0) (h:laws_szUseS.f k l0 a1 = some r) :
 Calls Tryd.prog 10 #[.slice A0 l0.length c0,.int .i64 a1] w fun e w'=>e = .returned (.int .i64 r) ∧ Below w.heap.size w w':=by
 have hu62:=Tryd.underlying62;have HR0:=As0.mk hr0;have HC0:=As0.mk hc0;clear hr0 hc0;have HB:=As0.mk (Below.refl w.heap.size w);have H:(if (wrap64 (a1 - (l0.length:Int))) < 0 then (some (-1)) else (laws_szUseS.l0 k l0 (wrap64 (a1 - (l0.length:Int))) 0)) = some r:=h;clear h;by_cases c3:(wrap64 (a1 - (l0.length:Int))) < 0
 · rw [if_pos c3] at H
   have c3b0:decide ((wrap64 (a1 - (l0.length:Int))) < 0) = true:=decide_eq_true c3;clear c3;obtain rfl:=Option.some.inj H
   go_enter Tryd.func10,Tryd.ntmps10
   go_wp2
   go_ret
   exact ⟨eW,by repeat (first|(with_reducible first|exact HB.out|apply bal|apply pbN|apply bd1)|exact HB.out)⟩
 · rw [if_neg c3] at H
   have c3b0:decide ((wrap64 (a1 - (l0.length:Int))) < 0) = false:=decide_eq_false c3;clear c3;have H':=As0.mk H;clear H
   go_enter Tryd.func10,Tryd.ntmps10
   go_wp2
   show _;go_loopg [1,5] k (fun kq v1 v5 w'=>∃ (x1_1:Int) (x5_1:Int),v1 = .int .i64 x1_1 ∧ v5 = .int .i64 x5_1 ∧ As0 (laws_szUseS.l0 kq l0 x1_1 x5_1 = some r) ∧ As0 (kq ≤ k) ∧ As0 (Below w.heap.size w w'))
   case atStart=>exact ⟨(wrap64 (a1 - (l0.length:Int))),(0),(by first|rfl|(simp;done)|(simp [*];done)),(by first|rfl|(simp;done)|(simp [*];done)),H',⟨Nat.le_refl _⟩,⟨by repeat (first|(with_reducible first|exact HB.out|apply bal|apply pbN|apply bd1)|exact HB.out)⟩⟩
   case round=>
    clear H'
    try clear c1
    try clear p2
    try clear c3
    try clear c3b0
    obtain ⟨x1_1,x5_1,rfl,rfl,HA,HK1,HB⟩:=hrel
    cases gk with
    |zero=>exact absurd HA.out (by simp [laws_szUseS.l0])
    |succ k1=>
     have H:=HA.out;clear HA;simp only [laws_szUseS.l0] at H;by_cases c4:x5_1 < (l0.length:Int)
     · rw [if_pos c4] at H
       have c4b0:decide (x5_1 < (l0.length:Int)) = true:=decide_eq_true c4;clear c4;by_cases c5:0 ≤ x5_1
       · rw [if_pos c5] at H
         have c5b0:decide (0 ≤ x5_1) = true:=decide_eq_true c5;clear c5;replace H:=Option.bind_eq_some_iff.mp H;obtain ⟨t106,A60,H⟩:=H;(try dsimp only at H);have A6:=As0.mk A60;clear A60;by_cases c7:t106 < 0
         · rw [if_pos c7] at H
           have c7b0:decide (t106 < 0) = true:=decide_eq_true c7;clear c7;obtain rfl:=Option.some.inj H;have p105:0 ≤ (x5_1:Int):=odt;have q105:x5_1 < (l0.length:Int):=odt;obtain ⟨ad105,e105,hx105_0,hx105_1⟩:=at_T62 HR0.out x5_1 p105 q105
           cases e105
           replace hx105_0:=bx HB.out rfl hx105_0;replace hx105_1:=bx HB.out rfl hx105_1;replace p105:=eq_true p105;replace q105:=eq_true q105
           go_wp2_with (first|((with_reducible refine gca (f:=29) rfl ?_);refine gL (some 23) Tryd.func29 #[.agg #[.string ((rlU43 l0 x5_1).f0),.int .i64 ((rlU43 l0 x5_1).f1)],.int .i64 x1_1] ?_;(with_reducible refine (laws_szUse.calls ((rlU43 l0 x5_1).f0) ((rlU43 l0 x5_1).f1) x1_1 t106 _ A6.out).mono ?_);rintro e w8 ⟨rfl,hb⟩;refine ⟨_,rfl,?_⟩;replace HB:=As0.mk (b3 HB.out hb);clear hb))
           go_ret
           exact ⟨eW,by repeat (first|(with_reducible first|exact HB.out|apply bal|apply pbN|apply bd1)|exact HB.out)⟩
         · rw [if_neg c7] at H
           have c7b0:decide (t106 < 0) = false:=decide_eq_false c7;clear c7;have H':=As0.mk H;clear H;have p105:0 ≤ (x5_1:Int):=odt;have q105:x5_1 < (l0.length:Int):=odt;obtain ⟨ad105,e105,hx105_0,hx105_1⟩:=at_T62 HR0.out x5_1 p105 q105
           cases e105
           replace hx105_0:=bx HB.out rfl hx105_0;replace hx105_1:=bx HB.out rfl hx105_1;replace p105:=eq_true p105;replace q105:=eq_true q105
           go_wp2_with (first|((with_reducible refine gca (f:=29) rfl ?_);refine gL (some 23) Tryd.func29 #[.agg #[.string ((rlU43 l0 x5_1).f0),.int .i64 ((rlU43 l0 x5_1).f1)],.int .i64 x1_1] ?_;(with_reducible refine (laws_szUse.calls ((rlU43 l0 x5_1).f0) ((rlU43 l0 x5_1).f1) x1_1 t106 _ A6.out).mono ?_);rintro e w9 ⟨rfl,hb⟩;refine ⟨_,rfl,?_⟩;replace HB:=As0.mk (b3 HB.out hb);clear hb))
           show _;go_roundg k1
           case measure=>have:=HK1.out;omega
           case rel=>exact ⟨(t106),(wrap64 (x5_1 + 1)),(by first|rfl|(simp;done)|(simp [*];done)),(by first|rfl|(simp;done)|(simp [*];done)),H',⟨by have:=HK1.out;omega⟩,⟨by repeat (first|(with_reducible first|exact HB.out|apply bal|apply pbN|apply bd1)|exact HB.out)⟩⟩
       · rw [if_neg c5] at H
         exact absurd H (by simp)
     · rw [if_neg c4] at H
       have c4b0:decide (x5_1 < (l0.length:Int)) = false:=decide_eq_false c4;clear c4;obtain rfl:=Option.some.inj H
       go_wp2
       go_ret
       exact ⟨eW,by repeat (first|(with_reducible first|exact HB.out|apply bal|apply pbN|apply bd1)|exact HB.out)⟩
def laws_szStringS.l0:Nat → List ByteArray → Int → Int → Option (Int)
 |0,_,_,_=>none
 |k + 1,x0,x1,x5=>if x5 < (x0.length:Int) then (if 0 ≤ x5 then (if (wrap64 (x1 - ((rdOf ByteArray.empty x0 x5).size:Int))) < 0 then (some (-1)) else (laws_szStringS.l0 k x0 (wrap64 (x1 - ((rdOf ByteArray.empty x0 x5).size:Int))) (wrap64 (x5 + 1)))) else (none)) else (some x1)
def laws_szStringS.f (k:Nat) (l0:List ByteArray) (a1:Int):Option (Int):=if (wrap64 (a1 - (l0.length:Int))) < 0 then (some (-1)) else (laws_szStringS.l0 k l0 (wrap64 (a1 - (l0.length:Int))) 0)
set_option maxHeartbeats 40000000 in
set_option maxRecDepth 100000 in
theorem laws_szStringS.calls (k:Nat) (A0:Option Addr) (c0:Nat) (l0:List ByteArray) (a1:Int) (r:Int) (w:World) (hr0:Kd.C Kd.string w A0 l0.length l0) (hc0:l0.length ≤ c0) (h:laws_szStringS.f k l0 a1 = some r) :
 Calls Tryd.prog 58 #[.slice A0 l0.length c0,.int .i64 a1] w fun e w'=>e = .returned (.int .i64 r) ∧ Drawn0 w w':=by
 have HR0:=As0.mk hr0;have HC0:=As0.mk hc0;clear hr0 hc0;have H:(if (wrap64 (a1 - (l0.length:Int))) < 0 then (some (-1)) else (laws_szStringS.l0 k l0 (wrap64 (a1 - (l0.length:Int))) 0)) = some r:=h;clear h;by_cases c3:(wrap64 (a1 - (l0.length:Int))) < 0
 · rw [if_pos c3] at H
   have c3b0:decide ((wrap64 (a1 - (l0.length:Int))) < 0) = true:=decide_eq_true c3;clear c3;obtain rfl:=Option.some.inj H
   go_enter Tryd.func58,Tryd.ntmps58
   go_wp2
   go_ret
   exact ⟨by first|rfl|(simp;done)|(simp [*];done),by repeat (first|exact Drawn0.refl _|apply Drawn0.step)⟩
 · rw [if_neg c3] at H
   have c3b0:decide ((wrap64 (a1 - (l0.length:Int))) < 0) = false:=decide_eq_false c3;clear c3;have H':=As0.mk H;clear H
   go_enter Tryd.func58,Tryd.ntmps58
   go_wp2
   show _;go_loopg [1,5] k (fun kq v1 v5 w'=>∃ (x1_1:Int) (x5_1:Int),v1 = .int .i64 x1_1 ∧ v5 = .int .i64 x5_1 ∧ As0 (laws_szStringS.l0 kq l0 x1_1 x5_1 = some r) ∧ As0 (kq ≤ k) ∧ Drawn0 w w')
   case atStart=>exact ⟨(wrap64 (a1 - (l0.length:Int))),(0),(by first|rfl|(simp;done)|(simp [*];done)),(by first|rfl|(simp;done)|(simp [*];done)),H',⟨Nat.le_refl _⟩,by repeat (first|exact Drawn0.refl _|apply Drawn0.step)⟩
   case round=>
    clear H'
    try clear p2
    try clear c3
    try clear c3b0
    obtain ⟨x1_1,x5_1,rfl,rfl,HA,HK1,⟨m1,rfl⟩⟩:=hrel
    cases gk with
    |zero=>exact absurd HA.out (by simp [laws_szStringS.l0])
    |succ k1=>
     have H:=HA.out;clear HA;simp only [laws_szStringS.l0] at H;by_cases c4:x5_1 < (l0.length:Int)
     · rw [if_pos c4] at H
       have c4b0:decide (x5_1 < (l0.length:Int)) = true:=decide_eq_true c4;clear c4;by_cases c5:0 ≤ x5_1
       · rw [if_pos c5] at H
         have c5b0:decide (0 ≤ x5_1) = true:=decide_eq_true c5;clear c5;by_cases c6:(wrap64 (x1_1 - ((rdOf ByteArray.empty l0 x5_1).size:Int))) < 0
         · rw [if_pos c6] at H
           have c6b0:decide ((wrap64 (x1_1 - ((rdOf ByteArray.empty l0 x5_1).size:Int))) < 0) = true:=decide_eq_true c6;clear c6;obtain rfl:=Option.some.inj H;have p107:0 ≤ (x5_1:Int):=odt;have q107:x5_1 < (l0.length:Int):=odt;obtain ⟨ad107,e107,hx107_0⟩:=Kd.at_string HR0.out x5_1 p107 q107
           cases e107
           replace p107:=eq_true p107;replace q107:=eq_true q107
           go_wp2
           go_ret
           exact ⟨by first|rfl|(simp;done)|(simp [*];done),by repeat (first|exact Drawn0.refl _|apply Drawn0.step)⟩
         · rw [if_neg c6] at H
           have c6b0:decide ((wrap64 (x1_1 - ((rdOf ByteArray.empty l0 x5_1).size:Int))) < 0) = false:=decide_eq_false c6;clear c6;have H':=As0.mk H;clear H;have p107:0 ≤ (x5_1:Int):=odt;have q107:x5_1 < (l0.length:Int):=odt;obtain ⟨ad107,e107,hx107_0⟩:=Kd.at_string HR0.out x5_1 p107 q107
           cases e107
           replace p107:=eq_true p107;replace q107:=eq_true q107
           go_wp2
           show _;go_roundg k1
           case measure=>have:=HK1.out;omega
           case rel=>exact ⟨(wrap64 (x1_1 - ((rdOf ByteArray.empty l0 x5_1).size:Int))),(wrap64 (x5_1 + 1)),(by first|rfl|(simp;done)|(simp [*];done)),(by first|rfl|(simp;done)|(simp [*];done)),H',⟨by have:=HK1.out;omega⟩,by repeat (first|exact Drawn0.refl _|apply Drawn0.step)⟩
       · rw [if_neg c5] at H
         exact absurd H (by simp)
     · rw [if_neg c4] at H
       have c4b0:decide (x5_1 < (l0.length:Int)) = false:=decide_eq_false c4;clear c4;obtain rfl:=Option.some.inj H
       go_wp2
       go_ret
       exact ⟨by first|rfl|(simp;done)|(simp [*];done),by repeat (first|exact Drawn0.refl _|apply Drawn0.step)⟩
def laws_szThing.f (k:Nat) (a0_0:ByteArray) (a0_1:ByteArray) (a0_2:Int) (a0_3:Int) (a0_4:Bool) (l0_5:List ByteArray) (a0_6:ByteArray) (a1:Int):Option (Int):=if (wrap64 (a1 - (a0_0.size:Int))) < 0 then (some (-1)) else (if (wrap64 ((wrap64 (a1 - (a0_0.size:Int))) - (a0_1.size:Int))) < 0 then (some (-1)) else ((laws_szStringS.f k l0_5 (wrap64 ((wrap64 (a1 - (a0_0.size:Int))) - (a0_1.size:Int)))).bind fun t109=>(if t109 < 0 then (some (-1)) else (if (wrap64 (t109 - (a0_6.size:Int))) < 0 then (some (-1)) else (some (wrap64 (t109 - (a0_6.size:Int))))))))
set_option maxHeartbeats 40000000 in
set_option maxRecDepth 100000 in
theorem laws_szThing.calls (k:Nat) (a0_0:ByteArray) (a0_1:ByteArray) (a0_2:Int) (a0_3:Int) (a0_4:Bool) (A0_5:Option Addr) (c0_5:Nat) (l0_5:List ByteArray) (a0_6:ByteArray) (a1:Int) (r:Int) (w:World) (hr0_5:Kd.C Kd.string w A0_5 l0_5.length l0_5) (hc0_5:l0_5.length ≤ c0_5) (h:laws_szThing.f k a0_0 a0_1 a0_2 a0_3 a0_4 l0_5 a0_6 a1 = some r) :
 Calls Tryd.prog 30 #[.agg #[.string a0_0,.string a0_1,.int .i64 a0_2,.int .i64 a0_3,.bool a0_4,.slice A0_5 l0_5.length c0_5,.string a0_6],.int .i64 a1] w fun e w'=>e = .returned (.int .i64 r) ∧ Below w.heap.size w w':=by
 have hu66:=Tryd.underlying66;have HR0_5:=As0.mk hr0_5;have HC0_5:=As0.mk hc0_5;clear hr0_5 hc0_5;have HB:=As0.mk (Below.refl w.heap.size w);have H:(if (wrap64 (a1 - (a0_0.size:Int))) < 0 then (some (-1)) else (if (wrap64 ((wrap64 (a1 - (a0_0.size:Int))) - (a0_1.size:Int))) < 0 then (some (-1)) else ((laws_szStringS.f k l0_5 (wrap64 ((wrap64 (a1 - (a0_0.size:Int))) - (a0_1.size:Int)))).bind fun t109=>(if t109 < 0 then (some (-1)) else (if (wrap64 (t109 - (a0_6.size:Int))) < 0 then (some (-1)) else (some (wrap64 (t109 - (a0_6.size:Int))))))))) = some r:=h;clear h;by_cases c3:(wrap64 (a1 - (a0_0.size:Int))) < 0
 · rw [if_pos c3] at H
   have c3b0:decide ((wrap64 (a1 - (a0_0.size:Int))) < 0) = true:=decide_eq_true c3;clear c3;obtain rfl:=Option.some.inj H
   go_enter Tryd.func30,Tryd.ntmps30
   go_wp2_with (first|((with_reducible refine gate_dst (N:=2) rfl ?_);refine bE 2 #[.string a0_0,.string a0_1,.int .i64 a0_2,.int .i64 a0_3,.bool a0_4,.slice A0_5 l0_5.length c0_5,.string a0_6] 66 ?_;intro gb108 hg w4 hbox hb;have BK108:=As0.mk (hbox);have GW108:=As0.mk ((by rw [hg];exact (bsz (by repeat (first|(with_reducible first|exact HB.out|apply bal|apply pbN|apply bd1)|exact HB.out))):w.heap.size ≤ gb108));have GE108:=GW108;replace HB:=As0.mk (b3 HB.out hb);clear hb hbox hg;obtain ⟨hcz5_0,hcz5_1,hcz5_2,hcz5_3,hcz5_4,hcz5_5,hcz5_6⟩:=qc7 BK108.out;obtain ⟨hfz5_0,hfz5_1,hfz5_2,hfz5_3,hfz5_4,hfz5_5,hfz5_6⟩:=qz7 BK108.out))
   go_ret
   exact ⟨eW,by repeat (first|(with_reducible first|exact HB.out|apply bal|apply pbN|apply bd1|refine bst ?_ GE108.out)|exact HB.out)⟩
 · rw [if_neg c3] at H
   have c3b0:decide ((wrap64 (a1 - (a0_0.size:Int))) < 0) = false:=decide_eq_false c3;clear c3;by_cases c6:(wrap64 ((wrap64 (a1 - (a0_0.size:Int))) - (a0_1.size:Int))) < 0
   · rw [if_pos c6] at H
     have c6b0:decide ((wrap64 ((wrap64 (a1 - (a0_0.size:Int))) - (a0_1.size:Int))) < 0) = true:=decide_eq_true c6;clear c6;obtain rfl:=Option.some.inj H
     go_enter Tryd.func30,Tryd.ntmps30
     go_wp2_with (first|((with_reducible refine gate_dst (N:=2) rfl ?_);refine bE 2 #[.string a0_0,.string a0_1,.int .i64 a0_2,.int .i64 a0_3,.bool a0_4,.slice A0_5 l0_5.length c0_5,.string a0_6] 66 ?_;intro gb108 hg w7 hbox hb;have BK108:=As0.mk (hbox);have GW108:=As0.mk ((by rw [hg];exact (bsz (by repeat (first|(with_reducible first|exact HB.out|apply bal|apply pbN|apply bd1)|exact HB.out))):w.heap.size ≤ gb108));have GE108:=GW108;replace HB:=As0.mk (b3 HB.out hb);clear hb hbox hg;obtain ⟨hcz8_0,hcz8_1,hcz8_2,hcz8_3,hcz8_4,hcz8_5,hcz8_6⟩:=qc7 BK108.out;obtain ⟨hfz8_0,hfz8_1,hfz8_2,hfz8_3,hfz8_4,hfz8_5,hfz8_6⟩:=qz7 BK108.out))
     go_ret
     exact ⟨eW,by repeat (first|(with_reducible first|exact HB.out|apply bal|apply pbN|apply bd1|refine bst ?_ GE108.out)|exact HB.out)⟩
   · rw [if_neg c6] at H
     have c6b0:decide ((wrap64 ((wrap64 (a1 - (a0_0.size:Int))) - (a0_1.size:Int))) < 0) = false:=decide_eq_false c6;clear c6;replace H:=Option.bind_eq_some_iff.mp H;obtain ⟨t109,A90,H⟩:=H;(try dsimp only at H);have A9:=As0.mk A90;clear A90;by_cases c10:t109 < 0
     · rw [if_pos c10] at H
       have c10b0:decide (t109 < 0) = true:=decide_eq_true c10;clear c10;obtain rfl:=Option.some.inj H
       go_enter Tryd.func30,Tryd.ntmps30
       go_wp2_with (first|((with_reducible refine gate_dst (N:=2) rfl ?_);refine bE 2 #[.string a0_0,.string a0_1,.int .i64 a0_2,.int .i64 a0_3,.bool a0_4,.slice A0_5 l0_5.length c0_5,.string a0_6] 66 ?_;intro gb108 hg w11 hbox hb;have BK108:=As0.mk (hbox);have GW108:=As0.mk ((by rw [hg];exact (bsz (by repeat (first|(with_reducible first|exact HB.out|apply bal|apply pbN|apply bd1)|exact HB.out))):w.heap.size ≤ gb108));have GE108:=GW108;replace HB:=As0.mk (b3 HB.out hb);clear hb hbox hg;obtain ⟨hcz12_0,hcz12_1,hcz12_2,hcz12_3,hcz12_4,hcz12_5,hcz12_6⟩:=qc7 BK108.out;obtain ⟨hfz12_0,hfz12_1,hfz12_2,hfz12_3,hfz12_4,hfz12_5,hfz12_6⟩:=qz7 BK108.out)|((with_reducible refine gca (f:=58) rfl ?_);refine gL (some 22) Tryd.func58 #[.slice A0_5 l0_5.length c0_5,.int .i64 (wrap64 ((wrap64 (a1 - (a0_0.size:Int))) - (a0_1.size:Int)))] ?_;(with_reducible refine (laws_szStringS.calls k _ _ l0_5 (wrap64 ((wrap64 (a1 - (a0_0.size:Int))) - (a0_1.size:Int))) t109 _ ?side1 ?side2 A9.out).mono ?_);(case side1=>repeat (first|exact (Kd.C_below HR0_5.out HB.out)|(with_reducible first|refine Kd.C_alloc ?_ _|refine Kd.C_drewN ?_ _|refine Kd.C_drew ?_)));(case side2=>exact HC0_5.out);rintro e w' ⟨rfl,⟨nd,rfl⟩⟩;refine ⟨_,rfl,?_⟩))
       go_ret
       exact ⟨eW,by repeat (first|(with_reducible first|exact HB.out|apply bal|apply pbN|apply bd1|refine bst ?_ GE108.out)|exact HB.out)⟩
     · rw [if_neg c10] at H
       have c10b0:decide (t109 < 0) = false:=decide_eq_false c10;clear c10;by_cases c13:(wrap64 (t109 - (a0_6.size:Int))) < 0
       · rw [if_pos c13] at H
         have c13b0:decide ((wrap64 (t109 - (a0_6.size:Int))) < 0) = true:=decide_eq_true c13;clear c13;obtain rfl:=Option.some.inj H
         go_enter Tryd.func30,Tryd.ntmps30
         go_wp2_with (first|((with_reducible refine gate_dst (N:=2) rfl ?_);refine bE 2 #[.string a0_0,.string a0_1,.int .i64 a0_2,.int .i64 a0_3,.bool a0_4,.slice A0_5 l0_5.length c0_5,.string a0_6] 66 ?_;intro gb108 hg w14 hbox hb;have BK108:=As0.mk (hbox);have GW108:=As0.mk ((by rw [hg];exact (bsz (by repeat (first|(with_reducible first|exact HB.out|apply bal|apply pbN|apply bd1)|exact HB.out))):w.heap.size ≤ gb108));have GE108:=GW108;replace HB:=As0.mk (b3 HB.out hb);clear hb hbox hg;obtain ⟨hcz15_0,hcz15_1,hcz15_2,hcz15_3,hcz15_4,hcz15_5,hcz15_6⟩:=qc7 BK108.out;obtain ⟨hfz15_0,hfz15_1,hfz15_2,hfz15_3,hfz15_4,hfz15_5,hfz15_6⟩:=qz7 BK108.out)|((with_reducible refine gca (f:=58) rfl ?_);refine gL (some 22) Tryd.func58 #[.slice A0_5 l0_5.length c0_5,.int .i64 (wrap64 ((wrap64 (a1 - (a0_0.size:Int))) - (a0_1.size:Int)))] ?_;(with_reducible refine (laws_szStringS.calls k _ _ l0_5 (wrap64 ((wrap64 (a1 - (a0_0.size:Int))) - (a0_1.size:Int))) t109 _ ?side1 ?side2 A9.out).mono ?_);(case side1=>repeat (first|exact (Kd.C_below HR0_5.out HB.out)|(with_reducible first|refine Kd.C_alloc ?_ _|refine Kd.C_drewN ?_ _|refine Kd.C_drew ?_)));(case side2=>exact HC0_5.out);rintro e w' ⟨rfl,⟨nd,rfl⟩⟩;refine ⟨_,rfl,?_⟩))
         go_ret
         exact ⟨eW,by repeat (first|(with_reducible first|exact HB.out|apply bal|apply pbN|apply bd1|refine bst ?_ GE108.out)|exact HB.out)⟩
       · rw [if_neg c13] at H
         have c13b0:decide ((wrap64 (t109 - (a0_6.size:Int))) < 0) = false:=decide_eq_false c13;clear c13;obtain rfl:=Option.some.inj H
         go_enter Tryd.func30,Tryd.ntmps30
         go_wp2_with (first|((with_reducible refine gate_dst (N:=2) rfl ?_);refine bE 2 #[.string a0_0,.string a0_1,.int .i64 a0_2,.int .i64 a0_3,.bool a0_4,.slice A0_5 l0_5.length c0_5,.string a0_6] 66 ?_;intro gb108 hg w16 hbox hb;have BK108:=As0.mk (hbox);have GW108:=As0.mk ((by rw [hg];exact (bsz (by repeat (first|(with_reducible first|exact HB.out|apply bal|apply pbN|apply bd1)|exact HB.out))):w.heap.size ≤ gb108));have GE108:=GW108;replace HB:=As0.mk (b3 HB.out hb);clear hb hbox hg;obtain ⟨hcz17_0,hcz17_1,hcz17_2,hcz17_3,hcz17_4,hcz17_5,hcz17_6⟩:=qc7 BK108.out;obtain ⟨hfz17_0,hfz17_1,hfz17_2,hfz17_3,hfz17_4,hfz17_5,hfz17_6⟩:=qz7 BK108.out)|((with_reducible refine gca (f:=58) rfl ?_);refine gL (some 22) Tryd.func58 #[.slice A0_5 l0_5.length c0_5,.int .i64 (wrap64 ((wrap64 (a1 - (a0_0.size:Int))) - (a0_1.size:Int)))] ?_;(with_reducible refine (laws_szStringS.calls k _ _ l0_5 (wrap64 ((wrap64 (a1 - (a0_0.size:Int))) - (a0_1.size:Int))) t109 _ ?side1 ?side2 A9.out).mono ?_);(case side1=>repeat (first|exact (Kd.C_below HR0_5.out HB.out)|(with_reducible first|refine Kd.C_alloc ?_ _|refine Kd.C_drewN ?_ _|refine Kd.C_drew ?_)));(case side2=>exact HC0_5.out);rintro e w' ⟨rfl,⟨nd,rfl⟩⟩;refine ⟨_,rfl,?_⟩))
         go_ret
         exact ⟨eW,by repeat (first|(with_reducible first|exact HB.out|apply bal|apply pbN|apply bd1|refine bst ?_ GE108.out)|exact HB.out)⟩
def laws_szThingS.l0:Nat → List (SlT34) → Int → Int → Option (Int)
 |0,_,_,_=>none
 |k + 1,x0,x1,x5=>if x5 < (x0.length:Int) then (if 0 ≤ x5 then ((laws_szThing.f k ((rlT42 x0 x5).f0) ((rlT42 x0 x5).f1) ((rlT42 x0 x5).f2) ((rlT42 x0 x5).f3) ((rlT42 x0 x5).f4) ((rlT42 x0 x5).f5) ((rlT42 x0 x5).f6) x1).bind fun t111=>(if t111 < 0 then (some (-1)) else (laws_szThingS.l0 k x0 t111 (wrap64 (x5 + 1))))) else (none)) else (some x1)
def laws_szThingS.f (k:Nat) (l0:List (SlT34)) (a1:Int):Option (Int):=if (wrap64 (a1 - (l0.length:Int))) < 0 then (some (-1)) else (laws_szThingS.l0 k l0 (wrap64 (a1 - (l0.length:Int))) 0)
set_option maxHeartbeats 40000000 in
set_option maxRecDepth 100000 in
theorem laws_szThingS.calls (k:Nat) (A0:Option Addr) (c0:Nat) (l0:List (SlT34)) (a1:Int) (r:Int) (w:World) (hr0:Kd.C k66 w A0 l0.length l0) (hc0:l0.length ≤ c0) (h:laws_szThingS.f k l0 a1 = some r) :
 Calls Tryd.prog 11 #[.slice A0 l0.length c0,.int .i64 a1] w fun e w'=>e = .returned (.int .i64 r) ∧ Below w.heap.size w w':=by
 have hu66:=Tryd.underlying66;have HR0:=As0.mk hr0;have HC0:=As0.mk hc0;clear hr0 hc0;have HB:=As0.mk (Below.refl w.heap.size w);have H:(if (wrap64 (a1 - (l0.length:Int))) < 0 then (some (-1)) else (laws_szThingS.l0 k l0 (wrap64 (a1 - (l0.length:Int))) 0)) = some r:=h;clear h;by_cases c3:(wrap64 (a1 - (l0.length:Int))) < 0
 · rw [if_pos c3] at H
   have c3b0:decide ((wrap64 (a1 - (l0.length:Int))) < 0) = true:=decide_eq_true c3;clear c3;obtain rfl:=Option.some.inj H
   go_enter Tryd.func11,Tryd.ntmps11
   go_wp2
   go_ret
   exact ⟨eW,by repeat (first|(with_reducible first|exact HB.out|apply bal|apply pbN|apply bd1)|exact HB.out)⟩
 · rw [if_neg c3] at H
   have c3b0:decide ((wrap64 (a1 - (l0.length:Int))) < 0) = false:=decide_eq_false c3;clear c3;have H':=As0.mk H;clear H
   go_enter Tryd.func11,Tryd.ntmps11
   go_wp2
   show _;go_loopg [1,5] k (fun kq v1 v5 w'=>∃ (x1_1:Int) (x5_1:Int),v1 = .int .i64 x1_1 ∧ v5 = .int .i64 x5_1 ∧ As0 (laws_szThingS.l0 kq l0 x1_1 x5_1 = some r) ∧ As0 (kq ≤ k) ∧ As0 (Below w.heap.size w w'))
   case atStart=>exact ⟨(wrap64 (a1 - (l0.length:Int))),(0),(by first|rfl|(simp;done)|(simp [*];done)),(by first|rfl|(simp;done)|(simp [*];done)),H',⟨Nat.le_refl _⟩,⟨by repeat (first|(with_reducible first|exact HB.out|apply bal|apply pbN|apply bd1)|exact HB.out)⟩⟩
   case round=>
    clear H'
    try clear c1
    try clear p2
    try clear c3
    try clear c3b0
    obtain ⟨x1_1,x5_1,rfl,rfl,HA,HK1,HB⟩:=hrel
    cases gk with
    |zero=>exact absurd HA.out (by simp [laws_szThingS.l0])
    |succ k1=>
     have H:=HA.out;clear HA;simp only [laws_szThingS.l0] at H;by_cases c4:x5_1 < (l0.length:Int)
     · rw [if_pos c4] at H
       have c4b0:decide (x5_1 < (l0.length:Int)) = true:=decide_eq_true c4;clear c4;by_cases c5:0 ≤ x5_1
       · rw [if_pos c5] at H
         have c5b0:decide (0 ≤ x5_1) = true:=decide_eq_true c5;clear c5;replace H:=Option.bind_eq_some_iff.mp H;obtain ⟨t111,A60,H⟩:=H;(try dsimp only at H);have A6:=As0.mk A60;clear A60;by_cases c7:t111 < 0
         · rw [if_pos c7] at H
           have c7b0:decide (t111 < 0) = true:=decide_eq_true c7;clear c7;obtain rfl:=Option.some.inj H;have p110:0 ≤ (x5_1:Int):=odt;have q110:x5_1 < (l0.length:Int):=odt;obtain ⟨ad110,A110_5,c110_5,e110,hx110_0,hx110_1,hx110_2,hx110_3,hx110_4,hx110_5,hx110_6,hl110_5,hi110_5⟩:=at_T66 HR0.out x5_1 p110 q110
           cases e110
           replace hx110_0:=bx HB.out rfl hx110_0;replace hx110_1:=bx HB.out rfl hx110_1;replace hx110_2:=bx HB.out rfl hx110_2;replace hx110_3:=bx HB.out rfl hx110_3;replace hx110_4:=bx HB.out rfl hx110_4;replace hx110_5:=bx HB.out rfl hx110_5;replace hx110_6:=bx HB.out rfl hx110_6;have HR110_5:=As0.mk hi110_5;have HC110_5:=As0.mk hl110_5;clear hi110_5 hl110_5;replace p110:=eq_true p110;replace q110:=eq_true q110
           go_wp2_with (first|((with_reducible refine gca (f:=30) rfl ?_);refine gL (some 23) Tryd.func30 #[.agg #[.string ((rlT42 l0 x5_1).f0),.string ((rlT42 l0 x5_1).f1),.int .i64 ((rlT42 l0 x5_1).f2),.int .i64 ((rlT42 l0 x5_1).f3),.bool ((rlT42 l0 x5_1).f4),.slice A110_5 ((rlT42 l0 x5_1).f5).length c110_5,.string ((rlT42 l0 x5_1).f6)],.int .i64 x1_1] ?_;(with_reducible refine (laws_szThing.calls k1 ((rlT42 l0 x5_1).f0) ((rlT42 l0 x5_1).f1) ((rlT42 l0 x5_1).f2) ((rlT42 l0 x5_1).f3) ((rlT42 l0 x5_1).f4) _ _ ((rlT42 l0 x5_1).f5) ((rlT42 l0 x5_1).f6) x1_1 t111 _ ?side1 ?side2 A6.out).mono ?_);(case side1=>repeat (first|exact (Kd.C_below HR110_5.out HB.out)|(with_reducible first|refine Kd.C_alloc ?_ _|refine Kd.C_drewN ?_ _|refine Kd.C_drew ?_)));(case side2=>exact HC110_5.out);rintro e w8 ⟨rfl,hb⟩;refine ⟨_,rfl,?_⟩;replace HB:=As0.mk (b3 HB.out hb);clear hb))
           go_ret
           exact ⟨eW,by repeat (first|(with_reducible first|exact HB.out|apply bal|apply pbN|apply bd1)|exact HB.out)⟩
         · rw [if_neg c7] at H
           have c7b0:decide (t111 < 0) = false:=decide_eq_false c7;clear c7;have H':=As0.mk H;clear H;have p110:0 ≤ (x5_1:Int):=odt;have q110:x5_1 < (l0.length:Int):=odt;obtain ⟨ad110,A110_5,c110_5,e110,hx110_0,hx110_1,hx110_2,hx110_3,hx110_4,hx110_5,hx110_6,hl110_5,hi110_5⟩:=at_T66 HR0.out x5_1 p110 q110
           cases e110
           replace hx110_0:=bx HB.out rfl hx110_0;replace hx110_1:=bx HB.out rfl hx110_1;replace hx110_2:=bx HB.out rfl hx110_2;replace hx110_3:=bx HB.out rfl hx110_3;replace hx110_4:=bx HB.out rfl hx110_4;replace hx110_5:=bx HB.out rfl hx110_5;replace hx110_6:=bx HB.out rfl hx110_6;have HR110_5:=As0.mk hi110_5;have HC110_5:=As0.mk hl110_5;clear hi110_5 hl110_5;replace p110:=eq_true p110;replace q110:=eq_true q110
           go_wp2_with (first|((with_reducible refine gca (f:=30) rfl ?_);refine gL (some 23) Tryd.func30 #[.agg #[.string ((rlT42 l0 x5_1).f0),.string ((rlT42 l0 x5_1).f1),.int .i64 ((rlT42 l0 x5_1).f2),.int .i64 ((rlT42 l0 x5_1).f3),.bool ((rlT42 l0 x5_1).f4),.slice A110_5 ((rlT42 l0 x5_1).f5).length c110_5,.string ((rlT42 l0 x5_1).f6)],.int .i64 x1_1] ?_;(with_reducible refine (laws_szThing.calls k1 ((rlT42 l0 x5_1).f0) ((rlT42 l0 x5_1).f1) ((rlT42 l0 x5_1).f2) ((rlT42 l0 x5_1).f3) ((rlT42 l0 x5_1).f4) _ _ ((rlT42 l0 x5_1).f5) ((rlT42 l0 x5_1).f6) x1_1 t111 _ ?side1 ?side2 A6.out).mono ?_);(case side1=>repeat (first|exact (Kd.C_below HR110_5.out HB.out)|(with_reducible first|refine Kd.C_alloc ?_ _|refine Kd.C_drewN ?_ _|refine Kd.C_drew ?_)));(case side2=>exact HC110_5.out);rintro e w9 ⟨rfl,hb⟩;refine ⟨_,rfl,?_⟩;replace HB:=As0.mk (b3 HB.out hb);clear hb))
           show _;go_roundg k1
           case measure=>have:=HK1.out;omega
           case rel=>exact ⟨(t111),(wrap64 (x5_1 + 1)),(by first|rfl|(simp;done)|(simp [*];done)),(by first|rfl|(simp;done)|(simp [*];done)),H',⟨by have:=HK1.out;omega⟩,⟨by repeat (first|(with_reducible first|exact HB.out|apply bal|apply pbN|apply bd1)|exact HB.out)⟩⟩
       · rw [if_neg c5] at H
         exact absurd H (by simp)
     · rw [if_neg c4] at H
       have c4b0:decide (x5_1 < (l0.length:Int)) = false:=decide_eq_false c4;clear c4;obtain rfl:=Option.some.inj H
       go_wp2
       go_ret
       exact ⟨eW,by repeat (first|(with_reducible first|exact HB.out|apply bal|apply pbN|apply bd1)|exact HB.out)⟩
def laws_szPast.f (a0_0:Int) (a0_1:ByteArray) (a0_2:ByteArray) (a0_3:ByteArray) (a1:Int):Option (Int):=if (wrap64 (a1 - (a0_1.size:Int))) < 0 then (some (-1)) else (if (wrap64 ((wrap64 (a1 - (a0_1.size:Int))) - (a0_2.size:Int))) < 0 then (some (-1)) else (if (wrap64 ((wrap64 ((wrap64 (a1 - (a0_1.size:Int))) - (a0_2.size:Int))) - (a0_3.size:Int))) < 0 then (some (-1)) else (some (wrap64 ((wrap64 ((wrap64 (a1 - (a0_1.size:Int))) - (a0_2.size:Int))) - (a0_3.size:Int))))))
set_option maxHeartbeats 40000000 in
set_option maxRecDepth 100000 in
theorem laws_szPast.calls (a0_0:Int) (a0_1:ByteArray) (a0_2:ByteArray) (a0_3:ByteArray) (a1:Int) (r:Int) (w:World) (h:laws_szPast.f a0_0 a0_1 a0_2 a0_3 a1 = some r) :
 Calls Tryd.prog 31 #[.agg #[.int .i64 a0_0,.string a0_1,.string a0_2,.string a0_3],.int .i64 a1] w fun e w'=>e = .returned (.int .i64 r) ∧ Below w.heap.size w w':=by
 have hu69:=Tryd.underlying69;have HB:=As0.mk (Below.refl w.heap.size w);have H:(if (wrap64 (a1 - (a0_1.size:Int))) < 0 then (some (-1)) else (if (wrap64 ((wrap64 (a1 - (a0_1.size:Int))) - (a0_2.size:Int))) < 0 then (some (-1)) else (if (wrap64 ((wrap64 ((wrap64 (a1 - (a0_1.size:Int))) - (a0_2.size:Int))) - (a0_3.size:Int))) < 0 then (some (-1)) else (some (wrap64 ((wrap64 ((wrap64 (a1 - (a0_1.size:Int))) - (a0_2.size:Int))) - (a0_3.size:Int))))))) = some r:=h;clear h;by_cases c3:(wrap64 (a1 - (a0_1.size:Int))) < 0
 · rw [if_pos c3] at H
   have c3b0:decide ((wrap64 (a1 - (a0_1.size:Int))) < 0) = true:=decide_eq_true c3;clear c3;obtain rfl:=Option.some.inj H
   go_enter Tryd.func31,Tryd.ntmps31
   go_wp2_with (first|((with_reducible refine gate_dst (N:=2) rfl ?_);refine bE 2 #[.int .i64 a0_0,.string a0_1,.string a0_2,.string a0_3] 69 ?_;intro gb112 hg w4 hbox hb;have BK112:=As0.mk (hbox);have GW112:=As0.mk ((by rw [hg];exact (bsz (by repeat (first|(with_reducible first|exact HB.out|apply bal|apply pbN|apply bd1)|exact HB.out))):w.heap.size ≤ gb112));have GE112:=GW112;replace HB:=As0.mk (b3 HB.out hb);clear hb hbox hg;obtain ⟨hcz5_0,hcz5_1,hcz5_2,hcz5_3⟩:=qc4 BK112.out;obtain ⟨hfz5_0,hfz5_1,hfz5_2,hfz5_3⟩:=qz4 BK112.out))
   go_ret
   exact ⟨eW,by repeat (first|(with_reducible first|exact HB.out|apply bal|apply pbN|apply bd1|refine bst ?_ GE112.out)|exact HB.out)⟩
 · rw [if_neg c3] at H
   have c3b0:decide ((wrap64 (a1 - (a0_1.size:Int))) < 0) = false:=decide_eq_false c3;clear c3;by_cases c6:(wrap64 ((wrap64 (a1 - (a0_1.size:Int))) - (a0_2.size:Int))) < 0
   · rw [if_pos c6] at H
     have c6b0:decide ((wrap64 ((wrap64 (a1 - (a0_1.size:Int))) - (a0_2.size:Int))) < 0) = true:=decide_eq_true c6;clear c6;obtain rfl:=Option.some.inj H
     go_enter Tryd.func31,Tryd.ntmps31
     go_wp2_with (first|((with_reducible refine gate_dst (N:=2) rfl ?_);refine bE 2 #[.int .i64 a0_0,.string a0_1,.string a0_2,.string a0_3] 69 ?_;intro gb112 hg w7 hbox hb;have BK112:=As0.mk (hbox);have GW112:=As0.mk ((by rw [hg];exact (bsz (by repeat (first|(with_reducible first|exact HB.out|apply bal|apply pbN|apply bd1)|exact HB.out))):w.heap.size ≤ gb112));have GE112:=GW112;replace HB:=As0.mk (b3 HB.out hb);clear hb hbox hg;obtain ⟨hcz8_0,hcz8_1,hcz8_2,hcz8_3⟩:=qc4 BK112.out;obtain ⟨hfz8_0,hfz8_1,hfz8_2,hfz8_3⟩:=qz4 BK112.out))
     go_ret
     exact ⟨eW,by repeat (first|(with_reducible first|exact HB.out|apply bal|apply pbN|apply bd1|refine bst ?_ GE112.out)|exact HB.out)⟩
   · rw [if_neg c6] at H
     have c6b0:decide ((wrap64 ((wrap64 (a1 - (a0_1.size:Int))) - (a0_2.size:Int))) < 0) = false:=decide_eq_false c6;clear c6;by_cases c9:(wrap64 ((wrap64 ((wrap64 (a1 - (a0_1.size:Int))) - (a0_2.size:Int))) - (a0_3.size:Int))) < 0
     · rw [if_pos c9] at H
       have c9b0:decide ((wrap64 ((wrap64 ((wrap64 (a1 - (a0_1.size:Int))) - (a0_2.size:Int))) - (a0_3.size:Int))) < 0) = true:=decide_eq_true c9;clear c9;obtain rfl:=Option.some.inj H
       go_enter Tryd.func31,Tryd.ntmps31
       go_wp2_with (first|((with_reducible refine gate_dst (N:=2) rfl ?_);refine bE 2 #[.int .i64 a0_0,.string a0_1,.string a0_2,.string a0_3] 69 ?_;intro gb112 hg w10 hbox hb;have BK112:=As0.mk (hbox);have GW112:=As0.mk ((by rw [hg];exact (bsz (by repeat (first|(with_reducible first|exact HB.out|apply bal|apply pbN|apply bd1)|exact HB.out))):w.heap.size ≤ gb112));have GE112:=GW112;replace HB:=As0.mk (b3 HB.out hb);clear hb hbox hg;obtain ⟨hcz11_0,hcz11_1,hcz11_2,hcz11_3⟩:=qc4 BK112.out;obtain ⟨hfz11_0,hfz11_1,hfz11_2,hfz11_3⟩:=qz4 BK112.out))
       go_ret
       exact ⟨eW,by repeat (first|(with_reducible first|exact HB.out|apply bal|apply pbN|apply bd1|refine bst ?_ GE112.out)|exact HB.out)⟩
     · rw [if_neg c9] at H
       have c9b0:decide ((wrap64 ((wrap64 ((wrap64 (a1 - (a0_1.size:Int))) - (a0_2.size:Int))) - (a0_3.size:Int))) < 0) = false:=decide_eq_false c9;clear c9;obtain rfl:=Option.some.inj H
       go_enter Tryd.func31,Tryd.ntmps31
       go_wp2_with (first|((with_reducible refine gate_dst (N:=2) rfl ?_);refine bE 2 #[.int .i64 a0_0,.string a0_1,.string a0_2,.string a0_3] 69 ?_;intro gb112 hg w12 hbox hb;have BK112:=As0.mk (hbox);have GW112:=As0.mk ((by rw [hg];exact (bsz (by repeat (first|(with_reducible first|exact HB.out|apply bal|apply pbN|apply bd1)|exact HB.out))):w.heap.size ≤ gb112));have GE112:=GW112;replace HB:=As0.mk (b3 HB.out hb);clear hb hbox hg;obtain ⟨hcz13_0,hcz13_1,hcz13_2,hcz13_3⟩:=qc4 BK112.out;obtain ⟨hfz13_0,hfz13_1,hfz13_2,hfz13_3⟩:=qz4 BK112.out))
       go_ret
       exact ⟨eW,by repeat (first|(with_reducible first|exact HB.out|apply bal|apply pbN|apply bd1|refine bst ?_ GE112.out)|exact HB.out)⟩
def laws_szPastS.l0:Nat → List (SlP32) → Int → Int → Option (Int)
 |0,_,_,_=>none
 |k + 1,x0,x1,x5=>if x5 < (x0.length:Int) then (if 0 ≤ x5 then ((laws_szPast.f ((rlP40 x0 x5).f0) ((rlP40 x0 x5).f1) ((rlP40 x0 x5).f2) ((rlP40 x0 x5).f3) x1).bind fun t114=>(if t114 < 0 then (some (-1)) else (laws_szPastS.l0 k x0 t114 (wrap64 (x5 + 1))))) else (none)) else (some x1)
def laws_szPastS.f (k:Nat) (l0:List (SlP32)) (a1:Int):Option (Int):=if (wrap64 (a1 - (l0.length:Int))) < 0 then (some (-1)) else (laws_szPastS.l0 k l0 (wrap64 (a1 - (l0.length:Int))) 0)
set_option maxHeartbeats 40000000 in
set_option maxRecDepth 100000 in
theorem laws_szPastS.calls (k:Nat) (A0:Option Addr) (c0:Nat) (l0:List (SlP32)) (a1:Int) (r:Int) (w:World) (hr0:Kd.C k69 w A0 l0.length l0) (hc0:l0.length ≤ c0) (h:laws_szPastS.f k l0 a1 = some r) :
 Calls Tryd.prog 12 #[.slice A0 l0.length c0,.int .i64 a1] w fun e w'=>e = .returned (.int .i64 r) ∧ Below w.heap.size w w':=by
 have hu69:=Tryd.underlying69;have HR0:=As0.mk hr0;have HC0:=As0.mk hc0;clear hr0 hc0;have HB:=As0.mk (Below.refl w.heap.size w);have H:(if (wrap64 (a1 - (l0.length:Int))) < 0 then (some (-1)) else (laws_szPastS.l0 k l0 (wrap64 (a1 - (l0.length:Int))) 0)) = some r:=h;clear h;by_cases c3:(wrap64 (a1 - (l0.length:Int))) < 0
 · rw [if_pos c3] at H
   have c3b0:decide ((wrap64 (a1 - (l0.length:Int))) < 0) = true:=decide_eq_true c3;clear c3;obtain rfl:=Option.some.inj H
   go_enter Tryd.func12,Tryd.ntmps12
   go_wp2
   go_ret
   exact ⟨eW,by repeat (first|(with_reducible first|exact HB.out|apply bal|apply pbN|apply bd1)|exact HB.out)⟩
 · rw [if_neg c3] at H
   have c3b0:decide ((wrap64 (a1 - (l0.length:Int))) < 0) = false:=decide_eq_false c3;clear c3;have H':=As0.mk H;clear H
   go_enter Tryd.func12,Tryd.ntmps12
   go_wp2
   show _;go_loopg [1,5] k (fun kq v1 v5 w'=>∃ (x1_1:Int) (x5_1:Int),v1 = .int .i64 x1_1 ∧ v5 = .int .i64 x5_1 ∧ As0 (laws_szPastS.l0 kq l0 x1_1 x5_1 = some r) ∧ As0 (kq ≤ k) ∧ As0 (Below w.heap.size w w'))
   case atStart=>exact ⟨(wrap64 (a1 - (l0.length:Int))),(0),(by first|rfl|(simp;done)|(simp [*];done)),(by first|rfl|(simp;done)|(simp [*];done)),H',⟨Nat.le_refl _⟩,⟨by repeat (first|(with_reducible first|exact HB.out|apply bal|apply pbN|apply bd1)|exact HB.out)⟩⟩
   case round=>
    clear H'
    try clear c1
    try clear p2
    try clear c3
    try clear c3b0
    obtain ⟨x1_1,x5_1,rfl,rfl,HA,HK1,HB⟩:=hrel
    cases gk with
    |zero=>exact absurd HA.out (by simp [laws_szPastS.l0])
    |succ k1=>
     have H:=HA.out;clear HA;simp only [laws_szPastS.l0] at H;by_cases c4:x5_1 < (l0.length:Int)
     · rw [if_pos c4] at H
       have c4b0:decide (x5_1 < (l0.length:Int)) = true:=decide_eq_true c4;clear c4;by_cases c5:0 ≤ x5_1
       · rw [if_pos c5] at H
         have c5b0:decide (0 ≤ x5_1) = true:=decide_eq_true c5;clear c5;replace H:=Option.bind_eq_some_iff.mp H;obtain ⟨t114,A60,H⟩:=H;(try dsimp only at H);have A6:=As0.mk A60;clear A60;by_cases c7:t114 < 0
         · rw [if_pos c7] at H
           have c7b0:decide (t114 < 0) = true:=decide_eq_true c7;clear c7;obtain rfl:=Option.some.inj H;have p113:0 ≤ (x5_1:Int):=odt;have q113:x5_1 < (l0.length:Int):=odt;obtain ⟨ad113,e113,hx113_0,hx113_1,hx113_2,hx113_3⟩:=at_T69 HR0.out x5_1 p113 q113
           cases e113
           replace hx113_0:=bx HB.out rfl hx113_0;replace hx113_1:=bx HB.out rfl hx113_1;replace hx113_2:=bx HB.out rfl hx113_2;replace hx113_3:=bx HB.out rfl hx113_3;replace p113:=eq_true p113;replace q113:=eq_true q113
           go_wp2_with (first|((with_reducible refine gca (f:=31) rfl ?_);refine gL (some 23) Tryd.func31 #[.agg #[.int .i64 ((rlP40 l0 x5_1).f0),.string ((rlP40 l0 x5_1).f1),.string ((rlP40 l0 x5_1).f2),.string ((rlP40 l0 x5_1).f3)],.int .i64 x1_1] ?_;(with_reducible refine (laws_szPast.calls ((rlP40 l0 x5_1).f0) ((rlP40 l0 x5_1).f1) ((rlP40 l0 x5_1).f2) ((rlP40 l0 x5_1).f3) x1_1 t114 _ A6.out).mono ?_);rintro e w8 ⟨rfl,hb⟩;refine ⟨_,rfl,?_⟩;replace HB:=As0.mk (b3 HB.out hb);clear hb))
           go_ret
           exact ⟨eW,by repeat (first|(with_reducible first|exact HB.out|apply bal|apply pbN|apply bd1)|exact HB.out)⟩
         · rw [if_neg c7] at H
           have c7b0:decide (t114 < 0) = false:=decide_eq_false c7;clear c7;have H':=As0.mk H;clear H;have p113:0 ≤ (x5_1:Int):=odt;have q113:x5_1 < (l0.length:Int):=odt;obtain ⟨ad113,e113,hx113_0,hx113_1,hx113_2,hx113_3⟩:=at_T69 HR0.out x5_1 p113 q113
           cases e113
           replace hx113_0:=bx HB.out rfl hx113_0;replace hx113_1:=bx HB.out rfl hx113_1;replace hx113_2:=bx HB.out rfl hx113_2;replace hx113_3:=bx HB.out rfl hx113_3;replace p113:=eq_true p113;replace q113:=eq_true q113
           go_wp2_with (first|((with_reducible refine gca (f:=31) rfl ?_);refine gL (some 23) Tryd.func31 #[.agg #[.int .i64 ((rlP40 l0 x5_1).f0),.string ((rlP40 l0 x5_1).f1),.string ((rlP40 l0 x5_1).f2),.string ((rlP40 l0 x5_1).f3)],.int .i64 x1_1] ?_;(with_reducible refine (laws_szPast.calls ((rlP40 l0 x5_1).f0) ((rlP40 l0 x5_1).f1) ((rlP40 l0 x5_1).f2) ((rlP40 l0 x5_1).f3) x1_1 t114 _ A6.out).mono ?_);rintro e w9 ⟨rfl,hb⟩;refine ⟨_,rfl,?_⟩;replace HB:=As0.mk (b3 HB.out hb);clear hb))
           show _;go_roundg k1
           case measure=>have:=HK1.out;omega
           case rel=>exact ⟨(t114),(wrap64 (x5_1 + 1)),(by first|rfl|(simp;done)|(simp [*];done)),(by first|rfl|(simp;done)|(simp [*];done)),H',⟨by have:=HK1.out;omega⟩,⟨by repeat (first|(with_reducible first|exact HB.out|apply bal|apply pbN|apply bd1)|exact HB.out)⟩⟩
       · rw [if_neg c5] at H
         exact absurd H (by simp)
     · rw [if_neg c4] at H
       have c4b0:decide (x5_1 < (l0.length:Int)) = false:=decide_eq_false c4;clear c4;obtain rfl:=Option.some.inj H
       go_wp2
       go_ret
       exact ⟨eW,by repeat (first|(with_reducible first|exact HB.out|apply bal|apply pbN|apply bd1)|exact HB.out)⟩
def laws_szModel.f (k:Nat) (a0_0:Int) (a0_1:Int) (a0_2:Int) (l0_3:List (SlS33)) (l0_4:List (SlU35)) (l0_5:List (SlT34)) (l0_6:List (SlP32)) (a1:Int):Option (Int):=(laws_szSpaceS.f k l0_3 a1).bind fun t116=>(if t116 < 0 then (some (-1)) else ((laws_szUseS.f k l0_4 t116).bind fun t117=>(if t117 < 0 then (some (-1)) else ((laws_szThingS.f k l0_5 t117).bind fun t118=>(if t118 < 0 then (some (-1)) else ((laws_szPastS.f k l0_6 t118).bind fun t119=>(if t119 < 0 then (some (-1)) else (some t119))))))))
set_option maxHeartbeats 40000000 in
set_option maxRecDepth 100000 in
theorem laws_szModel.calls (k:Nat) (a0_0:Int) (a0_1:Int) (a0_2:Int) (A0_3:Option Addr) (c0_3:Nat) (l0_3:List (SlS33)) (A0_4:Option Addr) (c0_4:Nat) (l0_4:List (SlU35)) (A0_5:Option Addr) (c0_5:Nat) (l0_5:List (SlT34)) (A0_6:Option Addr) (c0_6:Nat) (l0_6:List (SlP32)) (a1:Int) (r:Int) (w:World) (hr0_3:Kd.C k60 w A0_3 l0_3.length l0_3) (hc0_3:l0_3.length ≤ c0_3) (hr0_4:Kd.C k62 w A0_4 l0_4.length l0_4) (hc0_4:l0_4.length ≤ c0_4) (hr0_5:Kd.C k66 w A0_5 l0_5.length l0_5) (hc0_5:l0_5.length ≤ c0_5) (hr0_6:Kd.C k69 w A0_6 l0_6.length l0_6) (hc0_6:l0_6.length ≤ c0_6) (h:laws_szModel.f k a0_0 a0_1 a0_2 l0_3 l0_4 l0_5 l0_6 a1 = some r) :
 Calls Tryd.prog 4 #[.agg #[.int .i64 a0_0,.int .i64 a0_1,.int .i64 a0_2,.slice A0_3 l0_3.length c0_3,.slice A0_4 l0_4.length c0_4,.slice A0_5 l0_5.length c0_5,.slice A0_6 l0_6.length c0_6],.int .i64 a1] w fun e w'=>e = .returned (.int .i64 r) ∧ Below w.heap.size w w':=by
 have hu27:=Tryd.underlying27;have HR0_3:=As0.mk hr0_3;have HC0_3:=As0.mk hc0_3;clear hr0_3 hc0_3;have HR0_4:=As0.mk hr0_4;have HC0_4:=As0.mk hc0_4;clear hr0_4 hc0_4;have HR0_5:=As0.mk hr0_5;have HC0_5:=As0.mk hc0_5;clear hr0_5 hc0_5;have HR0_6:=As0.mk hr0_6;have HC0_6:=As0.mk hc0_6;clear hr0_6 hc0_6;have HB:=As0.mk (Below.refl w.heap.size w);have H:((laws_szSpaceS.f k l0_3 a1).bind fun t116=>(if t116 < 0 then (some (-1)) else ((laws_szUseS.f k l0_4 t116).bind fun t117=>(if t117 < 0 then (some (-1)) else ((laws_szThingS.f k l0_5 t117).bind fun t118=>(if t118 < 0 then (some (-1)) else ((laws_szPastS.f k l0_6 t118).bind fun t119=>(if t119 < 0 then (some (-1)) else (some t119))))))))) = some r:=h;clear h;replace H:=Option.bind_eq_some_iff.mp H;obtain ⟨t116,A30,H⟩:=H;(try dsimp only at H);have A3:=As0.mk A30;clear A30;by_cases c4:t116 < 0
 · rw [if_pos c4] at H
   have c4b0:decide (t116 < 0) = true:=decide_eq_true c4;clear c4;obtain rfl:=Option.some.inj H
   go_enter Tryd.func4,Tryd.ntmps4
   go_wp2_with (first|((with_reducible refine gate_dst (N:=2) rfl ?_);refine bE 2 #[.int .i64 a0_0,.int .i64 a0_1,.int .i64 a0_2,.slice A0_3 l0_3.length c0_3,.slice A0_4 l0_4.length c0_4,.slice A0_5 l0_5.length c0_5,.slice A0_6 l0_6.length c0_6] 27 ?_;intro gb115 hg w5 hbox hb;have BK115:=As0.mk (hbox);have GW115:=As0.mk ((by rw [hg];exact (bsz (by repeat (first|(with_reducible first|exact HB.out|apply bal|apply pbN|apply bd1)|exact HB.out))):w.heap.size ≤ gb115));have GE115:=GW115;replace HB:=As0.mk (b3 HB.out hb);clear hb hbox hg;obtain ⟨hcz6_0,hcz6_1,hcz6_2,hcz6_3,hcz6_4,hcz6_5,hcz6_6⟩:=qc7 BK115.out;obtain ⟨hfz6_0,hfz6_1,hfz6_2,hfz6_3,hfz6_4,hfz6_5,hfz6_6⟩:=qz7 BK115.out)|((with_reducible refine gca (f:=9) rfl ?_);refine gL (some 8) Tryd.func9 #[.slice A0_3 l0_3.length c0_3,.int .i64 a1] ?_;(with_reducible refine (laws_szSpaceS.calls k _ _ l0_3 a1 t116 _ ?side1 ?side2 A3.out).mono ?_);(case side1=>repeat (first|exact (Kd.C_below HR0_3.out HB.out)|(with_reducible first|refine Kd.C_alloc ?_ _|refine Kd.C_drewN ?_ _|refine Kd.C_drew ?_)));(case side2=>exact HC0_3.out);rintro e w7 ⟨rfl,hb⟩;refine ⟨_,rfl,?_⟩;replace BK115:=As0.mk (bb hb BK115.out);replace HB:=As0.mk (bsp (by repeat (first|(with_reducible first|exact HB.out|apply bal|apply pbN|apply bd1|refine bst ?_ GE115.out)|exact HB.out)) hb);clear hb))
   go_ret
   exact ⟨eW,by repeat (first|(with_reducible first|exact HB.out|apply bal|apply pbN|apply bd1|refine bst ?_ GE115.out)|exact HB.out)⟩
 · rw [if_neg c4] at H
   have c4b0:decide (t116 < 0) = false:=decide_eq_false c4;clear c4;replace H:=Option.bind_eq_some_iff.mp H;obtain ⟨t117,A80,H⟩:=H;(try dsimp only at H);have A8:=As0.mk A80;clear A80;by_cases c9:t117 < 0
   · rw [if_pos c9] at H
     have c9b0:decide (t117 < 0) = true:=decide_eq_true c9;clear c9;obtain rfl:=Option.some.inj H
     go_enter Tryd.func4,Tryd.ntmps4
     go_wp2_with (first|((with_reducible refine gate_dst (N:=2) rfl ?_);refine bE 2 #[.int .i64 a0_0,.int .i64 a0_1,.int .i64 a0_2,.slice A0_3 l0_3.length c0_3,.slice A0_4 l0_4.length c0_4,.slice A0_5 l0_5.length c0_5,.slice A0_6 l0_6.length c0_6] 27 ?_;intro gb115 hg w10 hbox hb;have BK115:=As0.mk (hbox);have GW115:=As0.mk ((by rw [hg];exact (bsz (by repeat (first|(with_reducible first|exact HB.out|apply bal|apply pbN|apply bd1)|exact HB.out))):w.heap.size ≤ gb115));have GE115:=GW115;replace HB:=As0.mk (b3 HB.out hb);clear hb hbox hg;obtain ⟨hcz11_0,hcz11_1,hcz11_2,hcz11_3,hcz11_4,hcz11_5,hcz11_6⟩:=qc7 BK115.out;obtain ⟨hfz11_0,hfz11_1,hfz11_2,hfz11_3,hfz11_4,hfz11_5,hfz11_6⟩:=qz7 BK115.out)|((with_reducible refine gca (f:=9) rfl ?_);refine gL (some 8) Tryd.func9 #[.slice A0_3 l0_3.length c0_3,.int .i64 a1] ?_;(with_reducible refine (laws_szSpaceS.calls k _ _ l0_3 a1 t116 _ ?side1 ?side2 A3.out).mono ?_);(case side1=>repeat (first|exact (Kd.C_below HR0_3.out HB.out)|(with_reducible first|refine Kd.C_alloc ?_ _|refine Kd.C_drewN ?_ _|refine Kd.C_drew ?_)));(case side2=>exact HC0_3.out);rintro e w12 ⟨rfl,hb⟩;refine ⟨_,rfl,?_⟩;replace BK115:=As0.mk (bb hb BK115.out);replace HB:=As0.mk (bsp (by repeat (first|(with_reducible first|exact HB.out|apply bal|apply pbN|apply bd1|refine bst ?_ GE115.out)|exact HB.out)) hb);clear hb;obtain ⟨hcz13_0,hcz13_1,hcz13_2,hcz13_3,hcz13_4,hcz13_5,hcz13_6⟩:=qc7 BK115.out;obtain ⟨hfz13_0,hfz13_1,hfz13_2,hfz13_3,hfz13_4,hfz13_5,hfz13_6⟩:=qz7 BK115.out)|((with_reducible refine gca (f:=10) rfl ?_);refine gL (some 14) Tryd.func10 #[.slice A0_4 l0_4.length c0_4,.int .i64 t116] ?_;(with_reducible refine (laws_szUseS.calls k _ _ l0_4 t116 t117 _ ?side1 ?side2 A8.out).mono ?_);(case side1=>repeat (first|exact (Kd.C_below HR0_4.out HB.out)|(with_reducible first|refine Kd.C_alloc ?_ _|refine Kd.C_drewN ?_ _|refine Kd.C_drew ?_)));(case side2=>exact HC0_4.out);rintro e w14 ⟨rfl,hb⟩;refine ⟨_,rfl,?_⟩;replace BK115:=As0.mk (bb hb BK115.out);replace HB:=As0.mk (bsp (by repeat (first|(with_reducible first|exact HB.out|apply bal|apply pbN|apply bd1|refine bst ?_ GE115.out)|exact HB.out)) hb);clear hb))
     go_ret
     exact ⟨eW,by repeat (first|(with_reducible first|exact HB.out|apply bal|apply pbN|apply bd1|refine bst ?_ GE115.out)|exact HB.out)⟩
   · rw [if_neg c9] at H
     have c9b0:decide (t117 < 0) = false:=decide_eq_false c9;clear c9;replace H:=Option.bind_eq_some_iff.mp H;obtain ⟨t118,A150,H⟩:=H;(try dsimp only at H);have A15:=As0.mk A150;clear A150;by_cases c16:t118 < 0
     · rw [if_pos c16] at H
       have c16b0:decide (t118 < 0) = true:=decide_eq_true c16;clear c16;obtain rfl:=Option.some.inj H
       go_enter Tryd.func4,Tryd.ntmps4
       go_wp2_with (first|((with_reducible refine gate_dst (N:=2) rfl ?_);refine bE 2 #[.int .i64 a0_0,.int .i64 a0_1,.int .i64 a0_2,.slice A0_3 l0_3.length c0_3,.slice A0_4 l0_4.length c0_4,.slice A0_5 l0_5.length c0_5,.slice A0_6 l0_6.length c0_6] 27 ?_;intro gb115 hg w17 hbox hb;have BK115:=As0.mk (hbox);have GW115:=As0.mk ((by rw [hg];exact (bsz (by repeat (first|(with_reducible first|exact HB.out|apply bal|apply pbN|apply bd1)|exact HB.out))):w.heap.size ≤ gb115));have GE115:=GW115;replace HB:=As0.mk (b3 HB.out hb);clear hb hbox hg;obtain ⟨hcz18_0,hcz18_1,hcz18_2,hcz18_3,hcz18_4,hcz18_5,hcz18_6⟩:=qc7 BK115.out;obtain ⟨hfz18_0,hfz18_1,hfz18_2,hfz18_3,hfz18_4,hfz18_5,hfz18_6⟩:=qz7 BK115.out)|((with_reducible refine gca (f:=9) rfl ?_);refine gL (some 8) Tryd.func9 #[.slice A0_3 l0_3.length c0_3,.int .i64 a1] ?_;(with_reducible refine (laws_szSpaceS.calls k _ _ l0_3 a1 t116 _ ?side1 ?side2 A3.out).mono ?_);(case side1=>repeat (first|exact (Kd.C_below HR0_3.out HB.out)|(with_reducible first|refine Kd.C_alloc ?_ _|refine Kd.C_drewN ?_ _|refine Kd.C_drew ?_)));(case side2=>exact HC0_3.out);rintro e w19 ⟨rfl,hb⟩;refine ⟨_,rfl,?_⟩;replace BK115:=As0.mk (bb hb BK115.out);replace HB:=As0.mk (bsp (by repeat (first|(with_reducible first|exact HB.out|apply bal|apply pbN|apply bd1|refine bst ?_ GE115.out)|exact HB.out)) hb);clear hb;obtain ⟨hcz20_0,hcz20_1,hcz20_2,hcz20_3,hcz20_4,hcz20_5,hcz20_6⟩:=qc7 BK115.out;obtain ⟨hfz20_0,hfz20_1,hfz20_2,hfz20_3,hfz20_4,hfz20_5,hfz20_6⟩:=qz7 BK115.out)|((with_reducible refine gca (f:=10) rfl ?_);refine gL (some 14) Tryd.func10 #[.slice A0_4 l0_4.length c0_4,.int .i64 t116] ?_;(with_reducible refine (laws_szUseS.calls k _ _ l0_4 t116 t117 _ ?side1 ?side2 A8.out).mono ?_);(case side1=>repeat (first|exact (Kd.C_below HR0_4.out HB.out)|(with_reducible first|refine Kd.C_alloc ?_ _|refine Kd.C_drewN ?_ _|refine Kd.C_drew ?_)));(case side2=>exact HC0_4.out);rintro e w21 ⟨rfl,hb⟩;refine ⟨_,rfl,?_⟩;replace BK115:=As0.mk (bb hb BK115.out);replace HB:=As0.mk (bsp (by repeat (first|(with_reducible first|exact HB.out|apply bal|apply pbN|apply bd1|refine bst ?_ GE115.out)|exact HB.out)) hb);clear hb;obtain ⟨hcz22_0,hcz22_1,hcz22_2,hcz22_3,hcz22_4,hcz22_5,hcz22_6⟩:=qc7 BK115.out;obtain ⟨hfz22_0,hfz22_1,hfz22_2,hfz22_3,hfz22_4,hfz22_5,hfz22_6⟩:=qz7 BK115.out)|((with_reducible refine gca (f:=11) rfl ?_);refine gL (some 20) Tryd.func11 #[.slice A0_5 l0_5.length c0_5,.int .i64 t117] ?_;(with_reducible refine (laws_szThingS.calls k _ _ l0_5 t117 t118 _ ?side1 ?side2 A15.out).mono ?_);(case side1=>repeat (first|exact (Kd.C_below HR0_5.out HB.out)|(with_reducible first|refine Kd.C_alloc ?_ _|refine Kd.C_drewN ?_ _|refine Kd.C_drew ?_)));(case side2=>exact HC0_5.out);rintro e w23 ⟨rfl,hb⟩;refine ⟨_,rfl,?_⟩;replace BK115:=As0.mk (bb hb BK115.out);replace HB:=As0.mk (bsp (by repeat (first|(with_reducible first|exact HB.out|apply bal|apply pbN|apply bd1|refine bst ?_ GE115.out)|exact HB.out)) hb);clear hb))
       go_ret
       exact ⟨eW,by repeat (first|(with_reducible first|exact HB.out|apply bal|apply pbN|apply bd1|refine bst ?_ GE115.out)|exact HB.out)⟩
     · rw [if_neg c16] at H
       have c16b0:decide (t118 < 0) = false:=decide_eq_false c16;clear c16;replace H:=Option.bind_eq_some_iff.mp H;obtain ⟨t119,A240,H⟩:=H;(try dsimp only at H);have A24:=As0.mk A240;clear A240;by_cases c25:t119 < 0
       · rw [if_pos c25] at H
         have c25b0:decide (t119 < 0) = true:=decide_eq_true c25;clear c25;obtain rfl:=Option.some.inj H
         go_enter Tryd.func4,Tryd.ntmps4
         go_wp2_with (first|((with_reducible refine gate_dst (N:=2) rfl ?_);refine bE 2 #[.int .i64 a0_0,.int .i64 a0_1,.int .i64 a0_2,.slice A0_3 l0_3.length c0_3,.slice A0_4 l0_4.length c0_4,.slice A0_5 l0_5.length c0_5,.slice A0_6 l0_6.length c0_6] 27 ?_;intro gb115 hg w26 hbox hb;have BK115:=As0.mk (hbox);have GW115:=As0.mk ((by rw [hg];exact (bsz (by repeat (first|(with_reducible first|exact HB.out|apply bal|apply pbN|apply bd1)|exact HB.out))):w.heap.size ≤ gb115));have GE115:=GW115;replace HB:=As0.mk (b3 HB.out hb);clear hb hbox hg;obtain ⟨hcz27_0,hcz27_1,hcz27_2,hcz27_3,hcz27_4,hcz27_5,hcz27_6⟩:=qc7 BK115.out;obtain ⟨hfz27_0,hfz27_1,hfz27_2,hfz27_3,hfz27_4,hfz27_5,hfz27_6⟩:=qz7 BK115.out)|((with_reducible refine gca (f:=9) rfl ?_);refine gL (some 8) Tryd.func9 #[.slice A0_3 l0_3.length c0_3,.int .i64 a1] ?_;(with_reducible refine (laws_szSpaceS.calls k _ _ l0_3 a1 t116 _ ?side1 ?side2 A3.out).mono ?_);(case side1=>repeat (first|exact (Kd.C_below HR0_3.out HB.out)|(with_reducible first|refine Kd.C_alloc ?_ _|refine Kd.C_drewN ?_ _|refine Kd.C_drew ?_)));(case side2=>exact HC0_3.out);rintro e w28 ⟨rfl,hb⟩;refine ⟨_,rfl,?_⟩;replace BK115:=As0.mk (bb hb BK115.out);replace HB:=As0.mk (bsp (by repeat (first|(with_reducible first|exact HB.out|apply bal|apply pbN|apply bd1|refine bst ?_ GE115.out)|exact HB.out)) hb);clear hb;obtain ⟨hcz29_0,hcz29_1,hcz29_2,hcz29_3,hcz29_4,hcz29_5,hcz29_6⟩:=qc7 BK115.out;obtain ⟨hfz29_0,hfz29_1,hfz29_2,hfz29_3,hfz29_4,hfz29_5,hfz29_6⟩:=qz7 BK115.out)|((with_reducible refine gca (f:=10) rfl ?_);refine gL (some 14) Tryd.func10 #[.slice A0_4 l0_4.length c0_4,.int .i64 t116] ?_;(with_reducible refine (laws_szUseS.calls k _ _ l0_4 t116 t117 _ ?side1 ?side2 A8.out).mono ?_);(case side1=>repeat (first|exact (Kd.C_below HR0_4.out HB.out)|(with_reducible first|refine Kd.C_alloc ?_ _|refine Kd.C_drewN ?_ _|refine Kd.C_drew ?_)));(case side2=>exact HC0_4.out);rintro e w30 ⟨rfl,hb⟩;refine ⟨_,rfl,?_⟩;replace BK115:=As0.mk (bb hb BK115.out);replace HB:=As0.mk (bsp (by repeat (first|(with_reducible first|exact HB.out|apply bal|apply pbN|apply bd1|refine bst ?_ GE115.out)|exact HB.out)) hb);clear hb;obtain ⟨hcz31_0,hcz31_1,hcz31_2,hcz31_3,hcz31_4,hcz31_5,hcz31_6⟩:=qc7 BK115.out;obtain ⟨hfz31_0,hfz31_1,hfz31_2,hfz31_3,hfz31_4,hfz31_5,hfz31_6⟩:=qz7 BK115.out)|((with_reducible refine gca (f:=11) rfl ?_);refine gL (some 20) Tryd.func11 #[.slice A0_5 l0_5.length c0_5,.int .i64 t117] ?_;(with_reducible refine (laws_szThingS.calls k _ _ l0_5 t117 t118 _ ?side1 ?side2 A15.out).mono ?_);(case side1=>repeat (first|exact (Kd.C_below HR0_5.out HB.out)|(with_reducible first|refine Kd.C_alloc ?_ _|refine Kd.C_drewN ?_ _|refine Kd.C_drew ?_)));(case side2=>exact HC0_5.out);rintro e w32 ⟨rfl,hb⟩;refine ⟨_,rfl,?_⟩;replace BK115:=As0.mk (bb hb BK115.out);replace HB:=As0.mk (bsp (by repeat (first|(with_reducible first|exact HB.out|apply bal|apply pbN|apply bd1|refine bst ?_ GE115.out)|exact HB.out)) hb);clear hb;obtain ⟨hcz33_0,hcz33_1,hcz33_2,hcz33_3,hcz33_4,hcz33_5,hcz33_6⟩:=qc7 BK115.out;obtain ⟨hfz33_0,hfz33_1,hfz33_2,hfz33_3,hfz33_4,hfz33_5,hfz33_6⟩:=qz7 BK115.out)|((with_reducible refine gca (f:=12) rfl ?_);refine gL (some 26) Tryd.func12 #[.slice A0_6 l0_6.length c0_6,.int .i64 t118] ?_;(with_reducible refine (laws_szPastS.calls k _ _ l0_6 t118 t119 _ ?side1 ?side2 A24.out).mono ?_);(case side1=>repeat (first|exact (Kd.C_below HR0_6.out HB.out)|(with_reducible first|refine Kd.C_alloc ?_ _|refine Kd.C_drewN ?_ _|refine Kd.C_drew ?_)));(case side2=>exact HC0_6.out);rintro e w34 ⟨rfl,hb⟩;refine ⟨_,rfl,?_⟩;replace BK115:=As0.mk (bb hb BK115.out);replace HB:=As0.mk (bsp (by repeat (first|(with_reducible first|exact HB.out|apply bal|apply pbN|apply bd1|refine bst ?_ GE115.out)|exact HB.out)) hb);clear hb))
         go_ret
         exact ⟨eW,by repeat (first|(with_reducible first|exact HB.out|apply bal|apply pbN|apply bd1|refine bst ?_ GE115.out)|exact HB.out)⟩
       · rw [if_neg c25] at H
         have c25b0:decide (t119 < 0) = false:=decide_eq_false c25;clear c25;obtain rfl:=Option.some.inj H
         go_enter Tryd.func4,Tryd.ntmps4
         go_wp2_with (first|((with_reducible refine gate_dst (N:=2) rfl ?_);refine bE 2 #[.int .i64 a0_0,.int .i64 a0_1,.int .i64 a0_2,.slice A0_3 l0_3.length c0_3,.slice A0_4 l0_4.length c0_4,.slice A0_5 l0_5.length c0_5,.slice A0_6 l0_6.length c0_6] 27 ?_;intro gb115 hg w35 hbox hb;have BK115:=As0.mk (hbox);have GW115:=As0.mk ((by rw [hg];exact (bsz (by repeat (first|(with_reducible first|exact HB.out|apply bal|apply pbN|apply bd1)|exact HB.out))):w.heap.size ≤ gb115));have GE115:=GW115;replace HB:=As0.mk (b3 HB.out hb);clear hb hbox hg;obtain ⟨hcz36_0,hcz36_1,hcz36_2,hcz36_3,hcz36_4,hcz36_5,hcz36_6⟩:=qc7 BK115.out;obtain ⟨hfz36_0,hfz36_1,hfz36_2,hfz36_3,hfz36_4,hfz36_5,hfz36_6⟩:=qz7 BK115.out)|((with_reducible refine gca (f:=9) rfl ?_);refine gL (some 8) Tryd.func9 #[.slice A0_3 l0_3.length c0_3,.int .i64 a1] ?_;(with_reducible refine (laws_szSpaceS.calls k _ _ l0_3 a1 t116 _ ?side1 ?side2 A3.out).mono ?_);(case side1=>repeat (first|exact (Kd.C_below HR0_3.out HB.out)|(with_reducible first|refine Kd.C_alloc ?_ _|refine Kd.C_drewN ?_ _|refine Kd.C_drew ?_)));(case side2=>exact HC0_3.out);rintro e w37 ⟨rfl,hb⟩;refine ⟨_,rfl,?_⟩;replace BK115:=As0.mk (bb hb BK115.out);replace HB:=As0.mk (bsp (by repeat (first|(with_reducible first|exact HB.out|apply bal|apply pbN|apply bd1|refine bst ?_ GE115.out)|exact HB.out)) hb);clear hb;obtain ⟨hcz38_0,hcz38_1,hcz38_2,hcz38_3,hcz38_4,hcz38_5,hcz38_6⟩:=qc7 BK115.out;obtain ⟨hfz38_0,hfz38_1,hfz38_2,hfz38_3,hfz38_4,hfz38_5,hfz38_6⟩:=qz7 BK115.out)|((with_reducible refine gca (f:=10) rfl ?_);refine gL (some 14) Tryd.func10 #[.slice A0_4 l0_4.length c0_4,.int .i64 t116] ?_;(with_reducible refine (laws_szUseS.calls k _ _ l0_4 t116 t117 _ ?side1 ?side2 A8.out).mono ?_);(case side1=>repeat (first|exact (Kd.C_below HR0_4.out HB.out)|(with_reducible first|refine Kd.C_alloc ?_ _|refine Kd.C_drewN ?_ _|refine Kd.C_drew ?_)));(case side2=>exact HC0_4.out);rintro e w39 ⟨rfl,hb⟩;refine ⟨_,rfl,?_⟩;replace BK115:=As0.mk (bb hb BK115.out);replace HB:=As0.mk (bsp (by repeat (first|(with_reducible first|exact HB.out|apply bal|apply pbN|apply bd1|refine bst ?_ GE115.out)|exact HB.out)) hb);clear hb;obtain ⟨hcz40_0,hcz40_1,hcz40_2,hcz40_3,hcz40_4,hcz40_5,hcz40_6⟩:=qc7 BK115.out;obtain ⟨hfz40_0,hfz40_1,hfz40_2,hfz40_3,hfz40_4,hfz40_5,hfz40_6⟩:=qz7 BK115.out)|((with_reducible refine gca (f:=11) rfl ?_);refine gL (some 20) Tryd.func11 #[.slice A0_5 l0_5.length c0_5,.int .i64 t117] ?_;(with_reducible refine (laws_szThingS.calls k _ _ l0_5 t117 t118 _ ?side1 ?side2 A15.out).mono ?_);(case side1=>repeat (first|exact (Kd.C_below HR0_5.out HB.out)|(with_reducible first|refine Kd.C_alloc ?_ _|refine Kd.C_drewN ?_ _|refine Kd.C_drew ?_)));(case side2=>exact HC0_5.out);rintro e w41 ⟨rfl,hb⟩;refine ⟨_,rfl,?_⟩;replace BK115:=As0.mk (bb hb BK115.out);replace HB:=As0.mk (bsp (by repeat (first|(with_reducible first|exact HB.out|apply bal|apply pbN|apply bd1|refine bst ?_ GE115.out)|exact HB.out)) hb);clear hb;obtain ⟨hcz42_0,hcz42_1,hcz42_2,hcz42_3,hcz42_4,hcz42_5,hcz42_6⟩:=qc7 BK115.out;obtain ⟨hfz42_0,hfz42_1,hfz42_2,hfz42_3,hfz42_4,hfz42_5,hfz42_6⟩:=qz7 BK115.out)|((with_reducible refine gca (f:=12) rfl ?_);refine gL (some 26) Tryd.func12 #[.slice A0_6 l0_6.length c0_6,.int .i64 t118] ?_;(with_reducible refine (laws_szPastS.calls k _ _ l0_6 t118 t119 _ ?side1 ?side2 A24.out).mono ?_);(case side1=>repeat (first|exact (Kd.C_below HR0_6.out HB.out)|(with_reducible first|refine Kd.C_alloc ?_ _|refine Kd.C_drewN ?_ _|refine Kd.C_drew ?_)));(case side2=>exact HC0_6.out);rintro e w43 ⟨rfl,hb⟩;refine ⟨_,rfl,?_⟩;replace BK115:=As0.mk (bb hb BK115.out);replace HB:=As0.mk (bsp (by repeat (first|(with_reducible first|exact HB.out|apply bal|apply pbN|apply bd1|refine bst ?_ GE115.out)|exact HB.out)) hb);clear hb))
         go_ret
         exact ⟨eW,by repeat (first|(with_reducible first|exact HB.out|apply bal|apply pbN|apply bd1|refine bst ?_ GE115.out)|exact HB.out)⟩
def spec_l1In.f (a0:Int) (a1:Int) (a2:Int):Option (Bool):=if a0 ≥ a1 then (some (decide (a0 ≤ a2))) else (some false)
set_option maxHeartbeats 40000000 in
set_option maxRecDepth 100000 in
theorem spec_l1In.calls (a0:Int) (a1:Int) (a2:Int) (r:Bool) (w:World) (h:spec_l1In.f a0 a1 a2 = some r) :
 Calls Tryd.prog 13 #[.int .i64 a0,.int .i64 a1,.int .i64 a2] w fun e w'=>e = .returned (.bool r) ∧ Drawn0 w w':=by
 have H:(if a0 ≥ a1 then (some (decide (a0 ≤ a2))) else (some false)) = some r:=h;clear h;by_cases c4:a0 ≥ a1
 · rw [if_pos c4] at H
   have c4b0:decide (a1 ≤ a0) = true:=decide_eq_true c4;clear c4;obtain rfl:=Option.some.inj H
   go_enter Tryd.func13,Tryd.ntmps13
   go_wp2
   go_ret
   exact ⟨by first|rfl|(simp;done)|(simp [*];done),by repeat (first|exact Drawn0.refl _|apply Drawn0.step)⟩
 · rw [if_neg c4] at H
   have c4b0:decide (a1 ≤ a0) = false:=decide_eq_false c4;clear c4;obtain rfl:=Option.some.inj H
   go_enter Tryd.func13,Tryd.ntmps13
   go_wp2
   go_ret
   exact ⟨by first|rfl|(simp;done)|(simp [*];done),by repeat (first|exact Drawn0.refl _|apply Drawn0.step)⟩
def spec_NameOk.l0:Nat → ByteArray → Int → Option (Bool)
 |0,_,_=>none
 |k + 1,x0,x3=>if x3 < (x0.size:Int) then (if 0 ≤ x3 then (if (bt x0 x3) < 97 then (some false) else (if (bt x0 x3) > 122 then (some false) else (spec_NameOk.l0 k x0 (wrap64 (x3 + 1))))) else (none)) else ((spec_l1In.f (x0.size:Int) 1 6).bind fun t120=>(some t120))
def spec_NameOk.f (k:Nat) (a0:ByteArray):Option (Bool):=spec_NameOk.l0 k a0 0
set_option maxHeartbeats 40000000 in
set_option maxRecDepth 100000 in
theorem spec_NameOk.calls (k:Nat) (a0:ByteArray) (r:Bool) (w:World) (h:spec_NameOk.f k a0 = some r) :
 Calls Tryd.prog 59 #[.string a0] w fun e w'=>e = .returned (.bool r) ∧ Drawn0 w w':=by
 have H:(spec_NameOk.l0 k a0 0) = some r:=h;clear h;have H':=As0.mk H;clear H
 go_enter Tryd.func59,Tryd.ntmps59
 go_wp2
 show _;go_loopg [3] k (fun kq v3 w'=>∃ (x3_1:Int),v3 = .int .i64 x3_1 ∧ As0 (spec_NameOk.l0 kq a0 x3_1 = some r) ∧ As0 (kq ≤ k) ∧ Drawn0 w w')
 case atStart=>exact ⟨(0),(by first|rfl|(simp;done)|(simp [*];done)),H',⟨Nat.le_refl _⟩,by repeat (first|exact Drawn0.refl _|apply Drawn0.step)⟩
 case round=>
  clear H';obtain ⟨x3_1,rfl,HA,HK1,⟨m1,rfl⟩⟩:=hrel
  cases gk with
  |zero=>exact absurd HA.out (by simp [spec_NameOk.l0])
  |succ k1=>
   have H:=HA.out;clear HA;simp only [spec_NameOk.l0] at H;by_cases c2:x3_1 < (a0.size:Int)
   · rw [if_pos c2] at H
     have c2b0:decide (x3_1 < (a0.size:Int)) = true:=decide_eq_true c2;clear c2;by_cases c3:0 ≤ x3_1
     · rw [if_pos c3] at H
       have c3b0:decide (0 ≤ x3_1) = true:=decide_eq_true c3;clear c3;by_cases c5:(bt a0 x3_1) < 97
       · rw [if_pos c5] at H
         have c5b0:decide ((bt a0 x3_1) < 97) = true:=decide_eq_true c5;clear c5;obtain rfl:=Option.some.inj H;have p4:0 ≤ (x3_1:Int):=odt;have q4:x3_1 < (a0.size:Int):=odt;have hx4:=bt_at a0 x3_1;replace p4:=eq_true p4;replace q4:=eq_true q4
         go_wp2
         go_ret
         exact ⟨by first|rfl|(simp;done)|(simp [*];done),by repeat (first|exact Drawn0.refl _|apply Drawn0.step)⟩
       · rw [if_neg c5] at H
         have c5b0:decide ((bt a0 x3_1) < 97) = false:=decide_eq_false c5;clear c5;by_cases c7:(bt a0 x3_1) > 122
         · rw [if_pos c7] at H
           have c7b0:decide (122 < (bt a0 x3_1)) = true:=decide_eq_true c7;clear c7;obtain rfl:=Option.some.inj H;have p4:0 ≤ (x3_1:Int):=odt;have q4:x3_1 < (a0.size:Int):=odt;have hx4:=bt_at a0 x3_1;replace p4:=eq_true p4;replace q4:=eq_true q4;have p6:0 ≤ (x3_1:Int):=odt;have q6:x3_1 < (a0.size:Int):=odt;have hx6:=bt_at a0 x3_1;replace p6:=eq_true p6;replace q6:=eq_true q6
           go_wp2
           go_ret
           exact ⟨by first|rfl|(simp;done)|(simp [*];done),by repeat (first|exact Drawn0.refl _|apply Drawn0.step)⟩
         · rw [if_neg c7] at H
           have c7b0:decide (122 < (bt a0 x3_1)) = false:=decide_eq_false c7;clear c7;have H':=As0.mk H;clear H;have p4:0 ≤ (x3_1:Int):=odt;have q4:x3_1 < (a0.size:Int):=odt;have hx4:=bt_at a0 x3_1;replace p4:=eq_true p4;replace q4:=eq_true q4;have p6:0 ≤ (x3_1:Int):=odt;have q6:x3_1 < (a0.size:Int):=odt;have hx6:=bt_at a0 x3_1;replace p6:=eq_true p6;replace q6:=eq_true q6
           go_wp2
           show _;go_roundg k1
           case measure=>have:=HK1.out;omega
           case rel=>exact ⟨(wrap64 (x3_1 + 1)),(by first|rfl|(simp;done)|(simp [*];done)),H',⟨by have:=HK1.out;omega⟩,by repeat (first|exact Drawn0.refl _|apply Drawn0.step)⟩
     · rw [if_neg c3] at H
       exact absurd H (by simp)
   · rw [if_neg c2] at H
     have c2b0:decide (x3_1 < (a0.size:Int)) = false:=decide_eq_false c2;clear c2;replace H:=Option.bind_eq_some_iff.mp H;obtain ⟨t120,A80,H⟩:=H;(try dsimp only at H);have A8:=As0.mk A80;clear A80;obtain rfl:=Option.some.inj H
     go_wp2_with (first|((with_reducible refine gca (f:=13) rfl ?_);refine gL (some 22) Tryd.func13 #[.int .i64 (a0.size:Int),.int .i64 1,.int .i64 6] ?_;(with_reducible refine (spec_l1In.calls (a0.size:Int) 1 6 t120 _ A8.out).mono ?_);rintro e w' ⟨rfl,⟨nd,rfl⟩⟩;refine ⟨_,rfl,?_⟩))
     go_ret
     exact ⟨by first|rfl|(simp;done)|(simp [*];done),by repeat (first|exact Drawn0.refl _|apply Drawn0.step)⟩
def spec_l8Ok.f (k:Nat) (a0_0:ByteArray) (a0_1:ByteArray) (a0_2:Int) (a0_3:Bool) (a0_4:Int):Option (Bool):=(spec_NameOk.f k a0_0).bind fun t122=>(if t122 = true then (if a0_1.toList = ([]:List UInt8) then (if ((a0_1.toList == ([]:List UInt8)) == (a0_0.toList == ([97,108,108]:List UInt8))) = true then ((spec_l1In.f a0_2 (-1) 99999).bind fun t123=>(if t123 = true then ((spec_l1In.f a0_4 0 99999).bind fun t124=>(if t124 = true then (some (!a0_3)) else (some false))) else (some false))) else (some false)) else ((spec_NameOk.f k a0_1).bind fun t125=>(if t125 = true then (if ((a0_1.toList == ([]:List UInt8)) == (a0_0.toList == ([97,108,108]:List UInt8))) = true then ((spec_l1In.f a0_2 (-1) 99999).bind fun t126=>(if t126 = true then ((spec_l1In.f a0_4 0 99999).bind fun t127=>(if t127 = true then (some true) else (some false))) else (some false))) else (some false)) else (some false)))) else (some false))
set_option maxHeartbeats 40000000 in
set_option maxRecDepth 100000 in
theorem spec_l8Ok.calls (k:Nat) (a0_0:ByteArray) (a0_1:ByteArray) (a0_2:Int) (a0_3:Bool) (a0_4:Int) (r:Bool) (w:World) (h:spec_l8Ok.f k a0_0 a0_1 a0_2 a0_3 a0_4 = some r) :
 Calls Tryd.prog 32 #[.agg #[.string a0_0,.string a0_1,.int .i64 a0_2,.bool a0_3,.int .i64 a0_4]] w fun e w'=>e = .returned (.bool r) ∧ Below w.heap.size w w':=by
 have hu47:=Tryd.underlying47;have HB:=As0.mk (Below.refl w.heap.size w);have H:((spec_NameOk.f k a0_0).bind fun t122=>(if t122 = true then (if a0_1.toList = ([]:List UInt8) then (if ((a0_1.toList == ([]:List UInt8)) == (a0_0.toList == ([97,108,108]:List UInt8))) = true then ((spec_l1In.f a0_2 (-1) 99999).bind fun t123=>(if t123 = true then ((spec_l1In.f a0_4 0 99999).bind fun t124=>(if t124 = true then (some (!a0_3)) else (some false))) else (some false))) else (some false)) else ((spec_NameOk.f k a0_1).bind fun t125=>(if t125 = true then (if ((a0_1.toList == ([]:List UInt8)) == (a0_0.toList == ([97,108,108]:List UInt8))) = true then ((spec_l1In.f a0_2 (-1) 99999).bind fun t126=>(if t126 = true then ((spec_l1In.f a0_4 0 99999).bind fun t127=>(if t127 = true then (some true) else (some false))) else (some false))) else (some false)) else (some false)))) else (some false))) = some r:=h;clear h;replace H:=Option.bind_eq_some_iff.mp H;obtain ⟨t122,A20,H⟩:=H;(try dsimp only at H);have A2:=As0.mk A20;clear A20;by_cases c3:t122 = true
 · subst c3
   have H1:(if a0_1.toList = ([]:List UInt8) then (if ((a0_1.toList == ([]:List UInt8)) == (a0_0.toList == ([97,108,108]:List UInt8))) = true then ((spec_l1In.f a0_2 (-1) 99999).bind fun t123=>(if t123 = true then ((spec_l1In.f a0_4 0 99999).bind fun t124=>(if t124 = true then (some (!a0_3)) else (some false))) else (some false))) else (some false)) else ((spec_NameOk.f k a0_1).bind fun t125=>(if t125 = true then (if ((a0_1.toList == ([]:List UInt8)) == (a0_0.toList == ([97,108,108]:List UInt8))) = true then ((spec_l1In.f a0_2 (-1) 99999).bind fun t126=>(if t126 = true then ((spec_l1In.f a0_4 0 99999).bind fun t127=>(if t127 = true then (some true) else (some false))) else (some false))) else (some false)) else (some false)))) = some r:=by rw [if_pos rfl] at H;exact H
   clear H;have H:=H1;clear H1;by_cases c4:a0_1.toList = ([]:List UInt8)
   · rw [if_pos c4] at H
     have c4b0:(a0_1.toList == ([]:List UInt8)) = true:=beq_iff_eq.mpr c4;have c4b1:(a0_1.toList != ([]:List UInt8)) = false:=bne_eq_false_iff_eq.mpr c4;clear c4;by_cases c5:((a0_1.toList == ([]:List UInt8)) == (a0_0.toList == ([97,108,108]:List UInt8))) = true
     · rw [if_pos c5] at H
       have c5b0:((a0_1.toList == ([]:List UInt8)) == (a0_0.toList == ([97,108,108]:List UInt8))) = true:=c5
       (try (have c5s0a:¬ (a0_1.toList = ([]:List UInt8)):=by simpa using c5b0))
       (try (have c5s0b:(a0_1.toList == ([]:List UInt8)) = false:=by simpa using c5b0))
       (try (have c5s0c:(a0_1.toList == ([]:List UInt8)) = true:=by simpa using c5b0))
       (try (have c5s0d:a0_1.toList.isEmpty = false:=by simpa using c5b0))
       (try (have c5s0e:a0_1.toList.isEmpty = true:=by simpa using c5b0))
       (try (have c5wc4t:(a0_0.toList == ([97,108,108]:List UInt8)) = true:=by have h_:=c5b0;(first|rw [c4b0] at h_|rw [c4b1] at h_);simpa using h_))
       (try (have c5wc4f:(a0_0.toList == ([97,108,108]:List UInt8)) = false:=by have h_:=c5b0;(first|rw [c4b0] at h_|rw [c4b1] at h_);simpa using h_))
       (try (have c5b1:decide ((a0_1.toList == ([]:List UInt8)) = (a0_0.toList == ([97,108,108]:List UInt8))) = true:=by simpa using c5))
       (try (have c5b2:((a0_1.toList == ([]:List UInt8)) == (a0_0.toList == ([97,108,108]:List UInt8))) = true:=by simpa using c5))
       clear c5;replace H:=Option.bind_eq_some_iff.mp H;obtain ⟨t123,A60,H⟩:=H;(try dsimp only at H);have A6:=As0.mk A60;clear A60;by_cases c7:t123 = true
       · subst c7
         have H1:((spec_l1In.f a0_4 0 99999).bind fun t124=>(if t124 = true then (some (!a0_3)) else (some false))) = some r:=by rw [if_pos rfl] at H;exact H
         clear H;have H:=H1;clear H1;replace H:=Option.bind_eq_some_iff.mp H;obtain ⟨t124,A80,H⟩:=H;(try dsimp only at H);have A8:=As0.mk A80;clear A80;by_cases c9:t124 = true
         · subst c9
           have H1:(some (!a0_3)) = some r:=by rw [if_pos rfl] at H;exact H
           clear H;have H:=H1;clear H1;obtain rfl:=Option.some.inj H
           go_enter Tryd.func32,Tryd.ntmps32
           go_wp2_with (first|((with_reducible refine gate_dst (N:=1) rfl ?_);refine bE 1 #[.string a0_0,.string a0_1,.int .i64 a0_2,.bool a0_3,.int .i64 a0_4] 47 ?_;intro gb121 hg w10 hbox hb;have BK121:=As0.mk (hbox);have GW121:=As0.mk ((by rw [hg];exact (bsz (by repeat (first|(with_reducible first|exact HB.out|apply bal|apply pbN|apply bd1)|exact HB.out))):w.heap.size ≤ gb121));have GE121:=GW121;replace HB:=As0.mk (b3 HB.out hb);clear hb hbox hg;obtain ⟨hcz11_0,hcz11_1,hcz11_2,hcz11_3,hcz11_4⟩:=qc5 BK121.out;obtain ⟨hfz11_0,hfz11_1,hfz11_2,hfz11_3,hfz11_4⟩:=qz5 BK121.out)|((with_reducible refine gca (f:=59) rfl ?_);refine gL (some 5) Tryd.func59 #[.string a0_0] ?_;(with_reducible refine (spec_NameOk.calls k a0_0 true _ A2.out).mono ?_);rintro e w' ⟨rfl,⟨nd,rfl⟩⟩;refine ⟨_,rfl,?_⟩)|(go_at_call 13;(with_reducible refine (spec_l1In.calls a0_2 (-1) 99999 true _ A6.out).mono ?_);rintro e w' ⟨rfl,⟨nd,rfl⟩⟩)|(go_at_call 13;(with_reducible refine (spec_l1In.calls a0_4 0 99999 true _ A8.out).mono ?_);rintro e w' ⟨rfl,⟨nd,rfl⟩⟩))
           go_ret
           exact ⟨eW,by repeat (first|(with_reducible first|exact HB.out|apply bal|apply pbN|apply bd1|refine bst ?_ GE121.out)|exact HB.out)⟩
         · replace c9:=Bool.eq_false_iff.mpr c9
           subst c9;have H1:(some false) = some r:=by rw [if_neg (show ¬ (false = true) by decide)] at H;exact H
           clear H;have H:=H1;clear H1;obtain rfl:=Option.some.inj H
           go_enter Tryd.func32,Tryd.ntmps32
           go_wp2_with (first|((with_reducible refine gate_dst (N:=1) rfl ?_);refine bE 1 #[.string a0_0,.string a0_1,.int .i64 a0_2,.bool a0_3,.int .i64 a0_4] 47 ?_;intro gb121 hg w12 hbox hb;have BK121:=As0.mk (hbox);have GW121:=As0.mk ((by rw [hg];exact (bsz (by repeat (first|(with_reducible first|exact HB.out|apply bal|apply pbN|apply bd1)|exact HB.out))):w.heap.size ≤ gb121));have GE121:=GW121;replace HB:=As0.mk (b3 HB.out hb);clear hb hbox hg;obtain ⟨hcz13_0,hcz13_1,hcz13_2,hcz13_3,hcz13_4⟩:=qc5 BK121.out;obtain ⟨hfz13_0,hfz13_1,hfz13_2,hfz13_3,hfz13_4⟩:=qz5 BK121.out)|((with_reducible refine gca (f:=59) rfl ?_);refine gL (some 5) Tryd.func59 #[.string a0_0] ?_;(with_reducible refine (spec_NameOk.calls k a0_0 true _ A2.out).mono ?_);rintro e w' ⟨rfl,⟨nd,rfl⟩⟩;refine ⟨_,rfl,?_⟩)|(go_at_call 13;(with_reducible refine (spec_l1In.calls a0_2 (-1) 99999 true _ A6.out).mono ?_);rintro e w' ⟨rfl,⟨nd,rfl⟩⟩)|(go_at_call 13;(with_reducible refine (spec_l1In.calls a0_4 0 99999 false _ A8.out).mono ?_);rintro e w' ⟨rfl,⟨nd,rfl⟩⟩))
           go_ret
           exact ⟨eW,by repeat (first|(with_reducible first|exact HB.out|apply bal|apply pbN|apply bd1|refine bst ?_ GE121.out)|exact HB.out)⟩
       · replace c7:=Bool.eq_false_iff.mpr c7
         subst c7;have H1:(some false) = some r:=by rw [if_neg (show ¬ (false = true) by decide)] at H;exact H
         clear H;have H:=H1;clear H1;obtain rfl:=Option.some.inj H
         go_enter Tryd.func32,Tryd.ntmps32
         go_wp2_with (first|((with_reducible refine gate_dst (N:=1) rfl ?_);refine bE 1 #[.string a0_0,.string a0_1,.int .i64 a0_2,.bool a0_3,.int .i64 a0_4] 47 ?_;intro gb121 hg w14 hbox hb;have BK121:=As0.mk (hbox);have GW121:=As0.mk ((by rw [hg];exact (bsz (by repeat (first|(with_reducible first|exact HB.out|apply bal|apply pbN|apply bd1)|exact HB.out))):w.heap.size ≤ gb121));have GE121:=GW121;replace HB:=As0.mk (b3 HB.out hb);clear hb hbox hg;obtain ⟨hcz15_0,hcz15_1,hcz15_2,hcz15_3,hcz15_4⟩:=qc5 BK121.out;obtain ⟨hfz15_0,hfz15_1,hfz15_2,hfz15_3,hfz15_4⟩:=qz5 BK121.out)|((with_reducible refine gca (f:=59) rfl ?_);refine gL (some 5) Tryd.func59 #[.string a0_0] ?_;(with_reducible refine (spec_NameOk.calls k a0_0 true _ A2.out).mono ?_);rintro e w' ⟨rfl,⟨nd,rfl⟩⟩;refine ⟨_,rfl,?_⟩)|(go_at_call 13;(with_reducible refine (spec_l1In.calls a0_2 (-1) 99999 false _ A6.out).mono ?_);rintro e w' ⟨rfl,⟨nd,rfl⟩⟩))
         go_ret
         exact ⟨eW,by repeat (first|(with_reducible first|exact HB.out|apply bal|apply pbN|apply bd1|refine bst ?_ GE121.out)|exact HB.out)⟩
     · rw [if_neg c5] at H
       have c5b0:((a0_1.toList == ([]:List UInt8)) == (a0_0.toList == ([97,108,108]:List UInt8))) = false:=by simpa using c5
       (try (have c5s0a:¬ (a0_1.toList = ([]:List UInt8)):=by simpa using c5b0))
       (try (have c5s0b:(a0_1.toList == ([]:List UInt8)) = false:=by simpa using c5b0))
       (try (have c5s0c:(a0_1.toList == ([]:List UInt8)) = true:=by simpa using c5b0))
       (try (have c5s0d:a0_1.toList.isEmpty = false:=by simpa using c5b0))
       (try (have c5s0e:a0_1.toList.isEmpty = true:=by simpa using c5b0))
       (try (have c5wc4t:(a0_0.toList == ([97,108,108]:List UInt8)) = true:=by have h_:=c5b0;(first|rw [c4b0] at h_|rw [c4b1] at h_);simpa using h_))
       (try (have c5wc4f:(a0_0.toList == ([97,108,108]:List UInt8)) = false:=by have h_:=c5b0;(first|rw [c4b0] at h_|rw [c4b1] at h_);simpa using h_))
       (try (have c5b1:decide ((a0_1.toList == ([]:List UInt8)) = (a0_0.toList == ([97,108,108]:List UInt8))) = false:=by simpa using c5))
       (try (have c5b2:((a0_1.toList == ([]:List UInt8)) == (a0_0.toList == ([97,108,108]:List UInt8))) = false:=by simpa using c5))
       (try (have c5b3:¬ ((a0_1.toList == ([]:List UInt8)) = (a0_0.toList == ([97,108,108]:List UInt8))):=by simpa using c5))
       clear c5;obtain rfl:=Option.some.inj H
       go_enter Tryd.func32,Tryd.ntmps32
       go_wp2_with (first|((with_reducible refine gate_dst (N:=1) rfl ?_);refine bE 1 #[.string a0_0,.string a0_1,.int .i64 a0_2,.bool a0_3,.int .i64 a0_4] 47 ?_;intro gb121 hg w16 hbox hb;have BK121:=As0.mk (hbox);have GW121:=As0.mk ((by rw [hg];exact (bsz (by repeat (first|(with_reducible first|exact HB.out|apply bal|apply pbN|apply bd1)|exact HB.out))):w.heap.size ≤ gb121));have GE121:=GW121;replace HB:=As0.mk (b3 HB.out hb);clear hb hbox hg;obtain ⟨hcz17_0,hcz17_1,hcz17_2,hcz17_3,hcz17_4⟩:=qc5 BK121.out;obtain ⟨hfz17_0,hfz17_1,hfz17_2,hfz17_3,hfz17_4⟩:=qz5 BK121.out)|((with_reducible refine gca (f:=59) rfl ?_);refine gL (some 5) Tryd.func59 #[.string a0_0] ?_;(with_reducible refine (spec_NameOk.calls k a0_0 true _ A2.out).mono ?_);rintro e w' ⟨rfl,⟨nd,rfl⟩⟩;refine ⟨_,rfl,?_⟩))
       go_ret
       exact ⟨eW,by repeat (first|(with_reducible first|exact HB.out|apply bal|apply pbN|apply bd1|refine bst ?_ GE121.out)|exact HB.out)⟩
   · rw [if_neg c4] at H
     have c4b0:(a0_1.toList == ([]:List UInt8)) = false:=beq_eq_false_iff_ne.mpr c4;have c4b1:(a0_1.toList != ([]:List UInt8)) = true:=bne_iff_ne.mpr c4;replace H:=Option.bind_eq_some_iff.mp H;obtain ⟨t125,A180,H⟩:=H;(try dsimp only at H);have A18:=As0.mk A180;clear A180;by_cases c19:t125 = true
     · subst c19
       have H1:(if ((a0_1.toList == ([]:List UInt8)) == (a0_0.toList == ([97,108,108]:List UInt8))) = true then ((spec_l1In.f a0_2 (-1) 99999).bind fun t126=>(if t126 = true then ((spec_l1In.f a0_4 0 99999).bind fun t127=>(if t127 = true then (some true) else (some false))) else (some false))) else (some false)) = some r:=by rw [if_pos rfl] at H;exact H
       clear H;have H:=H1;clear H1;by_cases c20:((a0_1.toList == ([]:List UInt8)) == (a0_0.toList == ([97,108,108]:List UInt8))) = true
       · rw [if_pos c20] at H
         have c20b0:((a0_1.toList == ([]:List UInt8)) == (a0_0.toList == ([97,108,108]:List UInt8))) = true:=c20
         (try (have c20s0a:¬ (a0_1.toList = ([]:List UInt8)):=by simpa using c20b0))
         (try (have c20s0b:(a0_1.toList == ([]:List UInt8)) = false:=by simpa using c20b0))
         (try (have c20s0c:(a0_1.toList == ([]:List UInt8)) = true:=by simpa using c20b0))
         (try (have c20s0d:a0_1.toList.isEmpty = false:=by simpa using c20b0))
         (try (have c20s0e:a0_1.toList.isEmpty = true:=by simpa using c20b0))
         (try (have c20wc4t:(a0_0.toList == ([97,108,108]:List UInt8)) = true:=by have h_:=c20b0;(first|rw [c4b0] at h_|rw [c4b1] at h_);simpa using h_))
         (try (have c20wc4f:(a0_0.toList == ([97,108,108]:List UInt8)) = false:=by have h_:=c20b0;(first|rw [c4b0] at h_|rw [c4b1] at h_);simpa using h_))
         (try (have c20b1:decide ((a0_1.toList == ([]:List UInt8)) = (a0_0.toList == ([97,108,108]:List UInt8))) = true:=by simpa using c20))
         (try (have c20b2:((a0_1.toList == ([]:List UInt8)) == (a0_0.toList == ([97,108,108]:List UInt8))) = true:=by simpa using c20))
         clear c20;replace H:=Option.bind_eq_some_iff.mp H;obtain ⟨t126,A210,H⟩:=H;(try dsimp only at H);have A21:=As0.mk A210;clear A210;by_cases c22:t126 = true
         · subst c22
           have H1:((spec_l1In.f a0_4 0 99999).bind fun t127=>(if t127 = true then (some true) else (some false))) = some r:=by rw [if_pos rfl] at H;exact H
           clear H;have H:=H1;clear H1;replace H:=Option.bind_eq_some_iff.mp H;obtain ⟨t127,A230,H⟩:=H;(try dsimp only at H);have A23:=As0.mk A230;clear A230;by_cases c24:t127 = true
           · subst c24
             have H1:(some true) = some r:=by rw [if_pos rfl] at H;exact H
             clear H;have H:=H1;clear H1;obtain rfl:=Option.some.inj H
             go_enter Tryd.func32,Tryd.ntmps32
             go_wp2_with (first|((with_reducible refine gate_dst (N:=1) rfl ?_);refine bE 1 #[.string a0_0,.string a0_1,.int .i64 a0_2,.bool a0_3,.int .i64 a0_4] 47 ?_;intro gb121 hg w25 hbox hb;have BK121:=As0.mk (hbox);have GW121:=As0.mk ((by rw [hg];exact (bsz (by repeat (first|(with_reducible first|exact HB.out|apply bal|apply pbN|apply bd1)|exact HB.out))):w.heap.size ≤ gb121));have GE121:=GW121;replace HB:=As0.mk (b3 HB.out hb);clear hb hbox hg;obtain ⟨hcz26_0,hcz26_1,hcz26_2,hcz26_3,hcz26_4⟩:=qc5 BK121.out;obtain ⟨hfz26_0,hfz26_1,hfz26_2,hfz26_3,hfz26_4⟩:=qz5 BK121.out)|((with_reducible refine gca (f:=59) rfl ?_);refine gL (some 5) Tryd.func59 #[.string a0_0] ?_;(with_reducible refine (spec_NameOk.calls k a0_0 true _ A2.out).mono ?_);rintro e w' ⟨rfl,⟨nd,rfl⟩⟩;refine ⟨_,rfl,?_⟩)|(go_at_call 59;(with_reducible refine (spec_NameOk.calls k a0_1 true _ A18.out).mono ?_);rintro e w' ⟨rfl,⟨nd,rfl⟩⟩)|(go_at_call 13;(with_reducible refine (spec_l1In.calls a0_2 (-1) 99999 true _ A21.out).mono ?_);rintro e w' ⟨rfl,⟨nd,rfl⟩⟩)|(go_at_call 13;(with_reducible refine (spec_l1In.calls a0_4 0 99999 true _ A23.out).mono ?_);rintro e w' ⟨rfl,⟨nd,rfl⟩⟩))
             go_ret
             exact ⟨eW,by repeat (first|(with_reducible first|exact HB.out|apply bal|apply pbN|apply bd1|refine bst ?_ GE121.out)|exact HB.out)⟩
           · replace c24:=Bool.eq_false_iff.mpr c24
             subst c24;have H1:(some false) = some r:=by rw [if_neg (show ¬ (false = true) by decide)] at H;exact H
             clear H;have H:=H1;clear H1;obtain rfl:=Option.some.inj H
             go_enter Tryd.func32,Tryd.ntmps32
             go_wp2_with (first|((with_reducible refine gate_dst (N:=1) rfl ?_);refine bE 1 #[.string a0_0,.string a0_1,.int .i64 a0_2,.bool a0_3,.int .i64 a0_4] 47 ?_;intro gb121 hg w27 hbox hb;have BK121:=As0.mk (hbox);have GW121:=As0.mk ((by rw [hg];exact (bsz (by repeat (first|(with_reducible first|exact HB.out|apply bal|apply pbN|apply bd1)|exact HB.out))):w.heap.size ≤ gb121));have GE121:=GW121;replace HB:=As0.mk (b3 HB.out hb);clear hb hbox hg;obtain ⟨hcz28_0,hcz28_1,hcz28_2,hcz28_3,hcz28_4⟩:=qc5 BK121.out;obtain ⟨hfz28_0,hfz28_1,hfz28_2,hfz28_3,hfz28_4⟩:=qz5 BK121.out)|((with_reducible refine gca (f:=59) rfl ?_);refine gL (some 5) Tryd.func59 #[.string a0_0] ?_;(with_reducible refine (spec_NameOk.calls k a0_0 true _ A2.out).mono ?_);rintro e w' ⟨rfl,⟨nd,rfl⟩⟩;refine ⟨_,rfl,?_⟩)|(go_at_call 59;(with_reducible refine (spec_NameOk.calls k a0_1 true _ A18.out).mono ?_);rintro e w' ⟨rfl,⟨nd,rfl⟩⟩)|(go_at_call 13;(with_reducible refine (spec_l1In.calls a0_2 (-1) 99999 true _ A21.out).mono ?_);rintro e w' ⟨rfl,⟨nd,rfl⟩⟩)|(go_at_call 13;(with_reducible refine (spec_l1In.calls a0_4 0 99999 false _ A23.out).mono ?_);rintro e w' ⟨rfl,⟨nd,rfl⟩⟩))
             go_ret
             exact ⟨eW,by repeat (first|(with_reducible first|exact HB.out|apply bal|apply pbN|apply bd1|refine bst ?_ GE121.out)|exact HB.out)⟩
         · replace c22:=Bool.eq_false_iff.mpr c22
           subst c22;have H1:(some false) = some r:=by rw [if_neg (show ¬ (false = true) by decide)] at H;exact H
           clear H;have H:=H1;clear H1;obtain rfl:=Option.some.inj H
           go_enter Tryd.func32,Tryd.ntmps32
           go_wp2_with (first|((with_reducible refine gate_dst (N:=1) rfl ?_);refine bE 1 #[.string a0_0,.string a0_1,.int .i64 a0_2,.bool a0_3,.int .i64 a0_4] 47 ?_;intro gb121 hg w29 hbox hb;have BK121:=As0.mk (hbox);have GW121:=As0.mk ((by rw [hg];exact (bsz (by repeat (first|(with_reducible first|exact HB.out|apply bal|apply pbN|apply bd1)|exact HB.out))):w.heap.size ≤ gb121));have GE121:=GW121;replace HB:=As0.mk (b3 HB.out hb);clear hb hbox hg;obtain ⟨hcz30_0,hcz30_1,hcz30_2,hcz30_3,hcz30_4⟩:=qc5 BK121.out;obtain ⟨hfz30_0,hfz30_1,hfz30_2,hfz30_3,hfz30_4⟩:=qz5 BK121.out)|((with_reducible refine gca (f:=59) rfl ?_);refine gL (some 5) Tryd.func59 #[.string a0_0] ?_;(with_reducible refine (spec_NameOk.calls k a0_0 true _ A2.out).mono ?_);rintro e w' ⟨rfl,⟨nd,rfl⟩⟩;refine ⟨_,rfl,?_⟩)|(go_at_call 59;(with_reducible refine (spec_NameOk.calls k a0_1 true _ A18.out).mono ?_);rintro e w' ⟨rfl,⟨nd,rfl⟩⟩)|(go_at_call 13;(with_reducible refine (spec_l1In.calls a0_2 (-1) 99999 false _ A21.out).mono ?_);rintro e w' ⟨rfl,⟨nd,rfl⟩⟩))
           go_ret
           exact ⟨eW,by repeat (first|(with_reducible first|exact HB.out|apply bal|apply pbN|apply bd1|refine bst ?_ GE121.out)|exact HB.out)⟩
       · rw [if_neg c20] at H
         have c20b0:((a0_1.toList == ([]:List UInt8)) == (a0_0.toList == ([97,108,108]:List UInt8))) = false:=by simpa using c20
         (try (have c20s0a:¬ (a0_1.toList = ([]:List UInt8)):=by simpa using c20b0))
         (try (have c20s0b:(a0_1.toList == ([]:List UInt8)) = false:=by simpa using c20b0))
         (try (have c20s0c:(a0_1.toList == ([]:List UInt8)) = true:=by simpa using c20b0))
         (try (have c20s0d:a0_1.toList.isEmpty = false:=by simpa using c20b0))
         (try (have c20s0e:a0_1.toList.isEmpty = true:=by simpa using c20b0))
         (try (have c20wc4t:(a0_0.toList == ([97,108,108]:List UInt8)) = true:=by have h_:=c20b0;(first|rw [c4b0] at h_|rw [c4b1] at h_);simpa using h_))
         (try (have c20wc4f:(a0_0.toList == ([97,108,108]:List UInt8)) = false:=by have h_:=c20b0;(first|rw [c4b0] at h_|rw [c4b1] at h_);simpa using h_))
         (try (have c20b1:decide ((a0_1.toList == ([]:List UInt8)) = (a0_0.toList == ([97,108,108]:List UInt8))) = false:=by simpa using c20))
         (try (have c20b2:((a0_1.toList == ([]:List UInt8)) == (a0_0.toList == ([97,108,108]:List UInt8))) = false:=by simpa using c20))
         (try (have c20b3:¬ ((a0_1.toList == ([]:List UInt8)) = (a0_0.toList == ([97,108,108]:List UInt8))):=by simpa using c20))
         clear c20;obtain rfl:=Option.some.inj H
         go_enter Tryd.func32,Tryd.ntmps32
         go_wp2_with (first|((with_reducible refine gate_dst (N:=1) rfl ?_);refine bE 1 #[.string a0_0,.string a0_1,.int .i64 a0_2,.bool a0_3,.int .i64 a0_4] 47 ?_;intro gb121 hg w31 hbox hb;have BK121:=As0.mk (hbox);have GW121:=As0.mk ((by rw [hg];exact (bsz (by repeat (first|(with_reducible first|exact HB.out|apply bal|apply pbN|apply bd1)|exact HB.out))):w.heap.size ≤ gb121));have GE121:=GW121;replace HB:=As0.mk (b3 HB.out hb);clear hb hbox hg;obtain ⟨hcz32_0,hcz32_1,hcz32_2,hcz32_3,hcz32_4⟩:=qc5 BK121.out;obtain ⟨hfz32_0,hfz32_1,hfz32_2,hfz32_3,hfz32_4⟩:=qz5 BK121.out)|((with_reducible refine gca (f:=59) rfl ?_);refine gL (some 5) Tryd.func59 #[.string a0_0] ?_;(with_reducible refine (spec_NameOk.calls k a0_0 true _ A2.out).mono ?_);rintro e w' ⟨rfl,⟨nd,rfl⟩⟩;refine ⟨_,rfl,?_⟩)|(go_at_call 59;(with_reducible refine (spec_NameOk.calls k a0_1 true _ A18.out).mono ?_);rintro e w' ⟨rfl,⟨nd,rfl⟩⟩))
         go_ret
         exact ⟨eW,by repeat (first|(with_reducible first|exact HB.out|apply bal|apply pbN|apply bd1|refine bst ?_ GE121.out)|exact HB.out)⟩
     · replace c19:=Bool.eq_false_iff.mpr c19
       subst c19;have H1:(some false) = some r:=by rw [if_neg (show ¬ (false = true) by decide)] at H;exact H
       clear H;have H:=H1;clear H1;obtain rfl:=Option.some.inj H
       go_enter Tryd.func32,Tryd.ntmps32
       go_wp2_with (first|((with_reducible refine gate_dst (N:=1) rfl ?_);refine bE 1 #[.string a0_0,.string a0_1,.int .i64 a0_2,.bool a0_3,.int .i64 a0_4] 47 ?_;intro gb121 hg w33 hbox hb;have BK121:=As0.mk (hbox);have GW121:=As0.mk ((by rw [hg];exact (bsz (by repeat (first|(with_reducible first|exact HB.out|apply bal|apply pbN|apply bd1)|exact HB.out))):w.heap.size ≤ gb121));have GE121:=GW121;replace HB:=As0.mk (b3 HB.out hb);clear hb hbox hg;obtain ⟨hcz34_0,hcz34_1,hcz34_2,hcz34_3,hcz34_4⟩:=qc5 BK121.out;obtain ⟨hfz34_0,hfz34_1,hfz34_2,hfz34_3,hfz34_4⟩:=qz5 BK121.out)|((with_reducible refine gca (f:=59) rfl ?_);refine gL (some 5) Tryd.func59 #[.string a0_0] ?_;(with_reducible refine (spec_NameOk.calls k a0_0 true _ A2.out).mono ?_);rintro e w' ⟨rfl,⟨nd,rfl⟩⟩;refine ⟨_,rfl,?_⟩)|(go_at_call 59;(with_reducible refine (spec_NameOk.calls k a0_1 false _ A18.out).mono ?_);rintro e w' ⟨rfl,⟨nd,rfl⟩⟩))
       go_ret
       exact ⟨eW,by repeat (first|(with_reducible first|exact HB.out|apply bal|apply pbN|apply bd1|refine bst ?_ GE121.out)|exact HB.out)⟩
 · replace c3:=Bool.eq_false_iff.mpr c3
   subst c3;have H1:(some false) = some r:=by rw [if_neg (show ¬ (false = true) by decide)] at H;exact H
   clear H;have H:=H1;clear H1;obtain rfl:=Option.some.inj H
   go_enter Tryd.func32,Tryd.ntmps32
   go_wp2_with (first|((with_reducible refine gate_dst (N:=1) rfl ?_);refine bE 1 #[.string a0_0,.string a0_1,.int .i64 a0_2,.bool a0_3,.int .i64 a0_4] 47 ?_;intro gb121 hg w35 hbox hb;have BK121:=As0.mk (hbox);have GW121:=As0.mk ((by rw [hg];exact (bsz (by repeat (first|(with_reducible first|exact HB.out|apply bal|apply pbN|apply bd1)|exact HB.out))):w.heap.size ≤ gb121));have GE121:=GW121;replace HB:=As0.mk (b3 HB.out hb);clear hb hbox hg;obtain ⟨hcz36_0,hcz36_1,hcz36_2,hcz36_3,hcz36_4⟩:=qc5 BK121.out;obtain ⟨hfz36_0,hfz36_1,hfz36_2,hfz36_3,hfz36_4⟩:=qz5 BK121.out)|((with_reducible refine gca (f:=59) rfl ?_);refine gL (some 5) Tryd.func59 #[.string a0_0] ?_;(with_reducible refine (spec_NameOk.calls k a0_0 false _ A2.out).mono ?_);rintro e w' ⟨rfl,⟨nd,rfl⟩⟩;refine ⟨_,rfl,?_⟩))
   go_ret
   exact ⟨eW,by repeat (first|(with_reducible first|exact HB.out|apply bal|apply pbN|apply bd1|refine bst ?_ GE121.out)|exact HB.out)⟩
def spec_l8At.l0:Nat → List (SiS28) → ByteArray → Int → Option (Int)
 |0,_,_,_=>none
 |k + 1,x0,x1,x5=>if x5 < (x0.length:Int) then (if 0 ≤ x5 then (if ((riS37 x0 x5).f0).toList = x1.toList then (some x5) else (spec_l8At.l0 k x0 x1 (wrap64 (x5 + 1)))) else (none)) else (some (-1))
def spec_l8At.f (k:Nat) (l0:List (SiS28)) (a1:ByteArray):Option (Int):=spec_l8At.l0 k l0 a1 0
set_option maxHeartbeats 40000000 in
set_option maxRecDepth 100000 in
theorem spec_l8At.calls (k:Nat) (A0:Option Addr) (c0:Nat) (l0:List (SiS28)) (a1:ByteArray) (r:Int) (w:World) (hr0:Kd.C k47 w A0 l0.length l0) (hc0:l0.length ≤ c0) (h:spec_l8At.f k l0 a1 = some r) :
 Calls Tryd.prog 34 #[.slice A0 l0.length c0,.string a1] w fun e w'=>e = .returned (.int .i64 r) ∧ Drawn0 w w':=by
 have HR0:=As0.mk hr0;have HC0:=As0.mk hc0;clear hr0 hc0;have H:(spec_l8At.l0 k l0 a1 0) = some r:=h;clear h;have H':=As0.mk H;clear H
 go_enter Tryd.func34,Tryd.ntmps34
 go_wp2
 show _;go_loopg [5] k (fun kq v5 w'=>∃ (x5_1:Int),v5 = .int .i64 x5_1 ∧ As0 (spec_l8At.l0 kq l0 a1 x5_1 = some r) ∧ As0 (kq ≤ k) ∧ Drawn0 w w')
 case atStart=>exact ⟨(0),(by first|rfl|(simp;done)|(simp [*];done)),H',⟨Nat.le_refl _⟩,by repeat (first|exact Drawn0.refl _|apply Drawn0.step)⟩
 case round=>
  clear H'
  try clear p2
  obtain ⟨x5_1,rfl,HA,HK1,⟨m1,rfl⟩⟩:=hrel
  cases gk with
  |zero=>exact absurd HA.out (by simp [spec_l8At.l0])
  |succ k1=>
   have H:=HA.out;clear HA;simp only [spec_l8At.l0] at H;by_cases c3:x5_1 < (l0.length:Int)
   · rw [if_pos c3] at H
     have c3b0:decide (x5_1 < (l0.length:Int)) = true:=decide_eq_true c3;clear c3;by_cases c4:0 ≤ x5_1
     · rw [if_pos c4] at H
       have c4b0:decide (0 ≤ x5_1) = true:=decide_eq_true c4;clear c4;by_cases c5:((riS37 l0 x5_1).f0).toList = a1.toList
       · rw [if_pos c5] at H
         have c5b0:(((riS37 l0 x5_1).f0).toList == a1.toList) = true:=beq_iff_eq.mpr c5;have c5b1:(((riS37 l0 x5_1).f0).toList != a1.toList) = false:=bne_eq_false_iff_eq.mpr c5;clear c5;obtain rfl:=Option.some.inj H;have p128:0 ≤ (x5_1:Int):=odt;have q128:x5_1 < (l0.length:Int):=odt;obtain ⟨ad128,e128,hx128_0,hx128_1,hx128_2,hx128_3,hx128_4⟩:=at_T47 HR0.out x5_1 p128 q128
         cases e128
         replace p128:=eq_true p128;replace q128:=eq_true q128
         go_wp2
         go_ret
         exact ⟨by first|rfl|(simp;done)|(simp [*];done),by repeat (first|exact Drawn0.refl _|apply Drawn0.step)⟩
       · rw [if_neg c5] at H
         have c5b0:(((riS37 l0 x5_1).f0).toList == a1.toList) = false:=beq_eq_false_iff_ne.mpr c5;have c5b1:(((riS37 l0 x5_1).f0).toList != a1.toList) = true:=bne_iff_ne.mpr c5;have H':=As0.mk H;clear H;have p128:0 ≤ (x5_1:Int):=odt;have q128:x5_1 < (l0.length:Int):=odt;obtain ⟨ad128,e128,hx128_0,hx128_1,hx128_2,hx128_3,hx128_4⟩:=at_T47 HR0.out x5_1 p128 q128
         cases e128
         replace p128:=eq_true p128;replace q128:=eq_true q128
         go_wp2
         show _;go_roundg k1
         case measure=>have:=HK1.out;omega
         case rel=>exact ⟨(wrap64 (x5_1 + 1)),(by first|rfl|(simp;done)|(simp [*];done)),H',⟨by have:=HK1.out;omega⟩,by repeat (first|exact Drawn0.refl _|apply Drawn0.step)⟩
     · rw [if_neg c4] at H
       exact absurd H (by simp)
   · rw [if_neg c3] at H
     have c3b0:decide (x5_1 < (l0.length:Int)) = false:=decide_eq_false c3;clear c3;obtain rfl:=Option.some.inj H
     go_wp2
     go_ret
     exact ⟨by first|rfl|(simp;done)|(simp [*];done),by repeat (first|exact Drawn0.refl _|apply Drawn0.step)⟩
def spec_l8Up.l0:Nat → List (SiS28) → List ByteArray → Int → Option (List ByteArray)
 |0,_,_,_=>none
 |k + 1,x0,x5,x6=>if x6 ≥ 0 then (if (x5.length:Int) ≤ 7 then (if 0 ≤ x6 then (if x6 < (x0.length:Int) then (if x5.length < 8796093022208 then ((spec_l8At.f k x0 ((riS37 x0 x6).f1)).bind fun t138=>(spec_l8Up.l0 k x0 (x5 ++ [(riS37 x0 x6).f0]) t138)) else (none)) else (none)) else (none)) else (some x5)) else (some x5)
def spec_l8Up.f (k:Nat) (l0:List (SiS28)) (a1:ByteArray):Option (List ByteArray):=(spec_l8At.f k l0 a1).bind fun t132=>(spec_l8Up.l0 k l0 (([]:List ByteArray)) t132)
set_option maxHeartbeats 40000000 in
set_option maxRecDepth 100000 in
theorem spec_l8Up.calls (k:Nat) (A0:Option Addr) (c0:Nat) (l0:List (SiS28)) (a1:ByteArray) (r:List ByteArray) (w:World) (hr0:Kd.C k47 w A0 l0.length l0) (hc0:l0.length ≤ c0) (h:spec_l8Up.f k l0 a1 = some r) :
 Calls Tryd.prog 33 #[.slice A0 l0.length c0,.string a1] w fun e w'=>∃ v0_:Value,e = .returned (v0_) ∧ Kd.R Kd.string 9 w' w.heap.size (fun _=>True) v0_ r ∧ Below w.heap.size w w':=by
 have HR0:=As0.mk hr0;have HC0:=As0.mk hc0;clear hr0 hc0;have HB:=As0.mk (Below.refl w.heap.size w);have H:((spec_l8At.f k l0 a1).bind fun t132=>(spec_l8Up.l0 k l0 (([]:List ByteArray)) t132)) = some r:=h;clear h;obtain ⟨y129,hy129⟩:∃ y_:List ByteArray,y_ = (([]:List ByteArray)):=⟨_,rfl⟩;replace H:((spec_l8At.f k l0 a1).bind fun t132=>(spec_l8Up.l0 k l0 y129 t132)) = some r:=by first|(rw [hy129];with_reducible exact H)|(have H2_:=(Option.bind_some _ _).symm.trans H;rw [hy129];with_reducible exact H2_)|(have H2_:=(Option.bind_some _ _).symm.trans H;with_reducible exact H2_)|with_reducible exact H|(rw [hy129];exact H)|exact H
 have Ny129:=As0.mk hy129;clear hy129;replace H:=Option.bind_eq_some_iff.mp H;obtain ⟨t132,A30,H⟩:=H;(try dsimp only at H);have A3:=As0.mk A30;clear A30;have H':=As0.mk H;clear H
 go_enter Tryd.func33,Tryd.ntmps33
 go_wp2_with (first|((with_reducible refine gate_dst (N:=7) rfl ?_);(try (refine gate_guard (by rfl) ?_;dsimp only));refine Kd.R_lit Kd.string _ 9 ?hg (N:=7) ?hd (xs:=([]:List ByteArray)) (inner:=[]) (ok:=fun _=>True) (okp:=fun _=>True) ?hr ?hp (fun _ hk=>hk) trivial (Below.refl _ _) (Nat.le_refl _) (by simp) ?_;(case hd=>rfl);(case hg=>rfl);(case hr=>first|(go_simp;done)|(go_simp;rfl));(case hp=>exact (Reps.none _ _));intro v130 w4 ho5 hb hg_ hnew_;clear hg_ hnew_;(first|rw [← Ny129.out] at ho5|(simp only [Int.reduceToNat] at ho5;rw [← Ny129.out] at ho5));have HO131:=As0.mk (Kd.R_lower ho5 (bsz (by repeat (first|(with_reducible first|exact HB.out|apply bal|apply pbN|apply bd1)|exact HB.out))));replace HB:=As0.mk (b3 HB.out hb);clear hb ho5)|((with_reducible refine gca (f:=34) rfl ?_);refine gL (some 10) Tryd.func34 #[.slice A0 l0.length c0,.string a1] ?_;(with_reducible refine (spec_l8At.calls k _ _ l0 a1 t132 _ ?side1 ?side2 A3.out).mono ?_);(case side1=>repeat (first|exact (Kd.C_below HR0.out HB.out)|(with_reducible first|refine Kd.C_alloc ?_ _|refine Kd.C_drewN ?_ _|refine Kd.C_drew ?_)));(case side2=>exact HC0.out);rintro e w' ⟨rfl,⟨nd,rfl⟩⟩;refine ⟨_,rfl,?_⟩))
 show _;go_loopg [5,6] k (fun kq v5 v6 w'=>∃ (x5_1:List ByteArray) (x6_1:Int),v6 = .int .i64 x6_1 ∧ As0 (spec_l8Up.l0 kq l0 x5_1 x6_1 = some r) ∧ As0 (kq ≤ k) ∧ As0 (Kd.R Kd.string 9 w' w.heap.size (fun _=>True) v5 x5_1) ∧ As0 (Below w.heap.size w w'))
 case atStart=>exact ⟨(y129),(t132),(by first|rfl|(simp;done)|(simp [*];done)),H',⟨Nat.le_refl _⟩,⟨by (with_reducible repeat (first|apply Kd.Ral|apply Kd.RdN|apply Kd.R_drew));exact HO131.out⟩,⟨by repeat (first|(with_reducible first|exact HB.out|apply bal|apply pbN|apply bd1)|exact HB.out)⟩⟩
 case round=>
  clear H'
  try clear p2
  try clear c3
  obtain ⟨x5_1,x6_1,rfl,HA,HK1,HO_5,HB⟩:=hrel
  cases gk with
  |zero=>exact absurd HA.out (by simp [spec_l8Up.l0])
  |succ k1=>
   have H:=HA.out;clear HA;simp only [spec_l8Up.l0] at H;by_cases c6:x6_1 ≥ 0
   · rw [if_pos c6] at H
     have c6b0:decide (0 ≤ x6_1) = true:=decide_eq_true c6;clear c6;by_cases c7:(x5_1.length:Int) ≤ 7
     · rw [if_pos c7] at H
       have c7b0:decide ((x5_1.length:Int) ≤ 7) = true:=decide_eq_true c7;have c7b1:decide (x5_1.length ≤ 7) = true:=decide_eq_true (by omega);clear c7;by_cases c8:0 ≤ x6_1
       · rw [if_pos c8] at H
         have c8b0:decide (0 ≤ x6_1) = true:=decide_eq_true c8;clear c8;by_cases c9:x6_1 < (l0.length:Int)
         · rw [if_pos c9] at H
           have c9b0:decide (x6_1 < (l0.length:Int)) = true:=decide_eq_true c9;clear c9;by_cases c10:x5_1.length < 8796093022208
           · rw [if_pos c10] at H
             have LMc10:=As0.mk c10;clear c10;obtain ⟨y134,hy134⟩:∃ y_:List ByteArray,y_ = (x5_1 ++ [(riS37 l0 x6_1).f0]):=⟨_,rfl⟩;replace H:((spec_l8At.f k1 l0 ((riS37 l0 x6_1).f1)).bind fun t138=>(spec_l8Up.l0 k1 l0 y134 t138)) = some r:=by first|(rw [hy134];with_reducible exact H)|(have H2_:=(Option.bind_some _ _).symm.trans H;rw [hy134];with_reducible exact H2_)|(have H2_:=(Option.bind_some _ _).symm.trans H;with_reducible exact H2_)|with_reducible exact H|(rw [hy134];exact H)|exact H
             have Ny134:=As0.mk hy134;clear hy134;replace H:=Option.bind_eq_some_iff.mp H;obtain ⟨t138,A110,H⟩:=H;(try dsimp only at H);have A11:=As0.mk A110;clear A110;have H':=As0.mk H;clear H;obtain ⟨Ao12,co12,eo12⟩:=Kd.R_slice HO_5.out;subst eo12;have p133:0 ≤ (x6_1:Int):=odt;have q133:x6_1 < (l0.length:Int):=odt;obtain ⟨ad133,e133,hx133_0,hx133_1,hx133_2,hx133_3,hx133_4⟩:=at_T47 HR0.out x6_1 p133 q133
             cases e133
             replace hx133_0:=bx HB.out rfl hx133_0;replace hx133_1:=bx HB.out rfl hx133_1;replace hx133_2:=bx HB.out rfl hx133_2;replace hx133_3:=bx HB.out rfl hx133_3;replace hx133_4:=bx HB.out rfl hx133_4;replace p133:=eq_true p133;replace q133:=eq_true q133
             go_wp2_with (first|((with_reducible refine gbi (b:=.append) (xs:=#[.tmp 25,.tmp 31]) rfl ?_);(try (refine gate_guard (by rfl) ?_;dsimp only));at_builtin;refine Kd.R_append Kd.string (w0:=w) w.heap.size rfl (.tmp 25) (.tmp 31) 64 9 (.string ⟨#[]⟩) 16 rfl Tryd.underlying64 info9 rfl (by decide) (by omega) (.slice Ao12 x5_1.length co12) x5_1 ((riS37 l0 x6_1).f0) [.string ((riS37 l0 x6_1).f0)] (fun _=>True) (fun _=>False) rfl rfl ?aP (fun _ hk=>hk.elim) ?aF ?aO ?aB ?aS ?aL ?_;(case aP=>exact rfl);(case aB=>exact (by repeat (first|(with_reducible first|exact HB.out|apply bal|apply pbN|apply bd1)|exact HB.out)));(case aF=>exact (fun _ _=>trivial));(case aO=>exact (by (with_reducible repeat (first|apply Kd.Ral|apply Kd.RdN|apply Kd.R_drew));exact HO_5.out));(case aS=>exact (bsz (by repeat (first|(with_reducible first|exact HB.out|apply bal|apply pbN|apply bd1)|exact HB.out))));(case aL=>have:=LMc10.out;omega);intro v135 w13 ho hb hg hat;rw [← Ny134.out] at ho;replace HB:=As0.mk (hb);have HO136:=As0.mk (ho);clear HO_5 ho hb hg hat;have p137:0 ≤ (x6_1:Int):=odt;have q137:x6_1 < (l0.length:Int):=odt;obtain ⟨ad137,e137,hx137_0,hx137_1,hx137_2,hx137_3,hx137_4⟩:=at_T47 HR0.out x6_1 p137 q137;obtain rfl:ad133 = ad137:=(by injection e137);replace hx137_0:=bx HB.out rfl hx137_0;replace hx137_1:=bx HB.out rfl hx137_1;replace hx137_2:=bx HB.out rfl hx137_2;replace hx137_3:=bx HB.out rfl hx137_3;replace hx137_4:=bx HB.out rfl hx137_4;replace p137:=eq_true p137;replace q137:=eq_true q137)|((with_reducible refine gca (f:=34) rfl ?_);refine gL (some 24) Tryd.func34 #[.slice (some ad133) l0.length c0,.string ((riS37 l0 x6_1).f1)] ?_;(with_reducible refine (spec_l8At.calls k1 _ _ l0 ((riS37 l0 x6_1).f1) t138 _ ?side1 ?side2 A11.out).mono ?_);(case side1=>repeat (first|exact (Kd.C_below HR0.out HB.out)|(with_reducible first|refine Kd.C_alloc ?_ _|refine Kd.C_drewN ?_ _|refine Kd.C_drew ?_)));(case side2=>exact HC0.out);rintro e w' ⟨rfl,⟨nd,rfl⟩⟩;refine ⟨_,rfl,?_⟩))
             show _;go_roundg k1
             case measure=>have:=HK1.out;omega
             case rel=>exact ⟨(y134),(t138),(by first|rfl|(simp;done)|(simp [*];done)),H',⟨by have:=HK1.out;omega⟩,⟨by (with_reducible repeat (first|apply Kd.Ral|apply Kd.RdN|apply Kd.R_drew));exact HO136.out⟩,⟨by repeat (first|(with_reducible first|exact HB.out|apply bal|apply pbN|apply bd1)|exact HB.out)⟩⟩
           · rw [if_neg c10] at H
             exact absurd H (by simp)
         · rw [if_neg c9] at H
           exact absurd H (by simp)
       · rw [if_neg c8] at H
         exact absurd H (by simp)
     · rw [if_neg c7] at H
       have c7b0:decide ((x5_1.length:Int) ≤ 7) = false:=decide_eq_false c7;have c7b1:decide (x5_1.length ≤ 7) = false:=decide_eq_false (by omega);clear c7;obtain rfl:=Option.some.inj H;obtain ⟨Ao14,co14,eo14⟩:=Kd.R_slice HO_5.out;subst eo14
       go_wp2
       go_ret
       exact ⟨_,by first|rfl|(simp [errW_none,errW_some] <;> rfl)|(simp [*,errW_none,errW_some] <;> rfl),by (with_reducible repeat (first|apply Kd.Ral|apply Kd.RdN|apply Kd.R_drew));exact HO_5.out,by repeat (first|(with_reducible first|exact HB.out|apply bal|apply pbN|apply bd1)|exact HB.out)⟩
   · rw [if_neg c6] at H
     have c6b0:decide (0 ≤ x6_1) = false:=decide_eq_false c6;clear c6;obtain rfl:=Option.some.inj H
     go_wp2
     go_ret
     exact ⟨_,by first|rfl|(simp [errW_none,errW_some] <;> rfl)|(simp [*,errW_none,errW_some] <;> rfl),by (with_reducible repeat (first|apply Kd.Ral|apply Kd.RdN|apply Kd.R_drew));exact HO_5.out,by repeat (first|(with_reducible first|exact HB.out|apply bal|apply pbN|apply bd1)|exact HB.out)⟩
end Go.Proofs.YtclgmogfkoinbaaDoor.P
