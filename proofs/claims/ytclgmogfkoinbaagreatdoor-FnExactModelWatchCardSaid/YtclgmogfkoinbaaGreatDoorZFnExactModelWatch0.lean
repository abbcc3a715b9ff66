/- Functions of the law FnExactModelWatch as_ plain Lean functions, and that the machine's calls do what they say. -/
import Derived.Test.YtclgmogfkoinbaaGreatDoorZFnExactModelWatchW0
import Derived.Deep.Slices
import Derived.ChangeArms
import Derived.Test.YtclgmogfkoinbaaGreatDoorProg
import Derived.Below
import Derived.Deep.Draws
import Derived.Deep.AppendLies
import Derived.Maps.AppendAt
import Derived.OwnWalk
import Derived.Laws.BytesArg
import Derived.Laws.MakeOwn
import Derived.Laws.OwnMore
import Derived.Deep.OwnRows
import Derived.Tactics
import Derived.Lib.ConvBytes
import Derived.Laws.Slices
import Derived.WalkKit
import Derived.KernelRfl
import Derived.RowKit3
import Derived.Deep.LoopGhost
import Derived.Deep.QuietTactic
import Derived.BigQuiet
import Derived.WideLaws
import Derived.Deep.DeepCutAuto
import Derived.Deep.CutBlock
import Derived.Deep.RegionHeld3
import Derived.Laws.Rows
import Derived.Lib.AppendStr
import Derived.ArgAppend
import Derived.Laws.IdiomCopy
import Derived.OrdersHeld
import Derived.Laws.BitsLemmas
import Derived.RowKit
/- What an argument reads as_ is of the printed kind: whole numbers, bools, strings, slices, structs. -/
namespace Go.Proofs.YtclgmogfkoinbaaGreatDoor.Opens
open Go.RowKit Go.Proofs.YtclgmogfkoinbaaGreatDoorW.PrintWords Go.ChangeShapes Go.WideShapes
structure Opens {α:Type} (P:Program) (d:Kd α) (t:TypeId) (G:α → Prop):Prop where
 out:∀ {H:Type} {enc:TypeId × Value → H} {w:World} {base:Nat} {spare:Nat → Bool} {held:Bool} {fuel:Nat} {cs:List Value} {x:DataW H × List MemPlace},DataW.trod enc P w base spare held fuel t cs = some x → ∃ a,d.K w a cs ∧ G a
section
variable {P:Program} {t:TypeId}
theorem opens_int {k:IntKind} (ht:P.underlying t = some (.int k)):Opens P (Kd.int k) t (fun n=>(Lit.int k n).wf = true):=⟨fun h=>by
 obtain ⟨n,rfl,_,hw⟩:=DataW.trod_int ht h
 exact ⟨n,rfl,hw⟩⟩
theorem opens_bool (ht:P.underlying t = some .bool):Opens P Kd.bool t (fun _=>True):=⟨fun h=>by
 obtain ⟨b,rfl,_⟩:=DataW.trod_bool ht h
 exact ⟨b,rfl,trivial⟩⟩
theorem opens_string (ht:P.underlying t = some .string):Opens P Kd.string t (fun s=>s.size ≤ 9223372036854775807):=⟨fun h=>by
 obtain ⟨s,rfl,_,hs⟩:=DataW.trod_string ht h
 exact ⟨s,rfl,hs⟩⟩
theorem opens_slice {α:Type} {d:Kd α} {e:TypeId} {G:α → Prop} (ht:P.underlying t = some (.slice e)) (hc:P.cellsOf e = d.sz) (ho:Opens P d e G) :
 Opens P (Kd.slice e d) t (fun l=>l.length ≤ 9223372036854775807 ∧ ∀ y ∈ l,G y):=⟨by
 intro H enc w base spare held fuel cs x h;rcases Go.Deep.open_slice ht h with ⟨rfl,_⟩|⟨a,len,cap,m,n,D,Pl,rfl,hba,hl,hm,hmm,hxe,hx⟩
 · exact ⟨[],⟨none,0,rfl,Nat.le_refl _,rfl,by simp,fun hp=>absurd hp (by simp)⟩,by simp,fun y hy=>by cases hy⟩
 · clear hxe hba
   have hlm:len ≤ m:=by rw [hmm];split <;> omega
   have key:∀ i,i < len → ∃ y:α,(∃ c,c.length = d.sz ∧ d.K w y c ∧ ∀ j u,c[j]? = some u → w.cell? (a.add (i * d.sz + j)) = some u) ∧ G y:=by
    intro i hi;obtain ⟨cs',h1,h2⟩:=hx i (by omega);obtain ⟨y,hy,hg⟩:=ho.out h2;obtain ⟨_,h3,h4⟩:=World.cells?_some h1;rw [hc] at h3 h4;refine ⟨y,⟨cs',h3,hy,fun j u hu=>?_⟩,hg⟩
    have hj:j < d.sz:=by
     have:=(List.getElem?_eq_some_iff.1 hu).1;omega
    have h5:=h4 j hj;rw [Go.Deep.add_add,hu] at h5
    exact h5
   obtain ⟨l,hlen,hall⟩:∃ l:List α,l.length = len ∧ ∀ i y,l[i]? = some y → (∃ c,c.length = d.sz ∧ d.K w y c ∧ ∀ j u,c[j]? = some u → w.cell? (a.add (i * d.sz + j)) = some u) ∧ G y:=by
    clear hx hlm hmm h hl;induction len with
    |zero=>exact ⟨[],rfl,fun i y hy=>by simp at hy⟩
    |succ k ih=>
     obtain ⟨l,h1,h2⟩:=ih (fun i hi=>key i (by omega));obtain ⟨y,hy⟩:=key k (by omega);refine ⟨l ++ [y],by simp [h1],fun i z hz=>?_⟩;rcases Nat.lt_trichotomy i k with hik|hik|hik
     · rw [List.getElem?_append_left (by omega)] at hz
       exact h2 i z hz
     · subst hik
       rw [List.getElem?_append_right (by omega),h1] at hz;simp at hz
       subst hz
       exact hy
     · rw [List.getElem?_eq_none (by simp;omega)] at hz
       cases hz
   subst hlen;have hb:l.length ≤ 9223372036854775807:=Nat.le_trans hl (by unfold maxLen at hm;exact hm);refine ⟨l,⟨some a,cap,rfl,hl,rfl,hb,fun _=>⟨a,rfl,fun j p hj=>(hall j p hj).1⟩⟩,hb,fun y hy=>?_⟩;obtain ⟨i,hi,rfl⟩:=List.getElem_of_mem hy
   exact (hall i _ (List.getElem?_eq_getElem hi)).2⟩
theorem seg_split {cs:List Value} {a n b:Nat} (h:a + n = b):cs.drop a = (cs.drop a).take n ++ cs.drop b:=by
 subst h;rw [← List.drop_drop,List.take_append_drop]
theorem seg_last {cs:List Value} {a n:Nat} (h:cs.length = a + n):(cs.drop a).take n = cs.drop a:=List.take_of_length_le (by simp;omega)
end
theorem arg_agg {α:Type} {P:Program} {d:Kd α} {t:TypeId} {G:α → Prop} (ho:Opens P d t G) {H:Type} {enc:TypeId × Value → H} {w:World} {base:Nat} {spare:Nat → Bool} {held:Bool} {cs:Array Value} {dd:DataW H} {ps:List MemPlace}
 (h:DataW.Trod enc P w base spare held t (.agg cs) dd ps):∃ x:α,d.K w x cs.toList ∧ G x:=by
 obtain ⟨n,hn⟩:=h
 exact ho.out hn
theorem bytesLess_not:∀ a b:List UInt8,(!(Op.bytesLess a b || a == b)) = Op.bytesLess b a
 |[],[]=>rfl
 |[],_ :: _=>rfl
 |_ :: _,[]=>rfl
 |a :: x,b :: y=>by
  have ih:=bytesLess_not x y;simp only [Op.bytesLess,List.cons_beq_cons];rcases Nat.lt_trichotomy a.toNat b.toNat with h|h|h
  · have h1:(a < b) = True:=by simp [UInt8.lt_iff_toNat_lt,h]
    have h2:(b < a) = False:=by simp [UInt8.lt_iff_toNat_lt];omega
    have h3:(b == a) = false:=by rw [beq_eq_false_iff_ne];rintro rfl;omega
    simp [h1,h2,h3]
  · obtain rfl:=UInt8.toNat_inj.1 h
    simpa using ih
  · have h1:(a < b) = False:=by simp [UInt8.lt_iff_toNat_lt];omega
    have h2:(b < a) = True:=by simp [UInt8.lt_iff_toNat_lt,h]
    have h3:(a == b) = false:=by rw [beq_eq_false_iff_ne];rintro rfl;omega
    simp [h1,h2,h3]
@[go_sem] theorem string_gtr (t:TypeId) (a b:ByteArray):binOp .gtr t (.string a) (.string b) = pure (.bool (Op.bytesLess b.toList a.toList)):=by rw [← bytesLess_not];simp [binOp,Op.stringOp]
@[go_sem] theorem string_leq (t:TypeId) (a b:ByteArray):binOp .leq t (.string a) (.string b) = pure (.bool !(Op.bytesLess b.toList a.toList)):=by rw [← bytesLess_not,Bool.not_not];simp [binOp,Op.stringOp]
@[go_sem] theorem string_geq (t:TypeId) (a b:ByteArray):binOp .geq t (.string a) (.string b) = pure (.bool !(Op.bytesLess a.toList b.toList)):=by simp [binOp,Op.stringOp]
end Go.Proofs.YtclgmogfkoinbaaGreatDoor.Opens
namespace Go.Proofs.YtclgmogfkoinbaaGreatDoor.P
open Go.RowKit Go.Proofs.YtclgmogfkoinbaaGreatDoorW.PrintWords Go.Proofs.YtclgmogfkoinbaaGreatDoorW.PrintLast Go.Proofs.YtclgmogfkoinbaaGreatDoorW.PrintMore
attribute [local go_sem] max2_int min2_int max_two min_two max_three min_three max_four min_four
set_option linter.unusedVariables false
set_option linter.unusedSimpArgs false
def errW:Option Int → Value
 |none=>.nilIface
 |some c=>.iface 0 (.int .i64 c)
theorem errW_none:errW none = .nilIface:=rfl
theorem errW_some (c:Int):errW (some c) = .iface 0 (.int .i64 c):=rfl
theorem info9:(Tryz.prog.info? 9).map (fun i=>(i.zero,i.size,i.bytes)) = some (some (.string ⟨#[]⟩),1,16):=by kernel_rfl
theorem info36:(Tryz.prog.info? 36).map (fun i=>(i.zero,i.size,i.bytes)) = some (some (.agg #[(.int .i64 0),(.string ⟨#[]⟩),(.string ⟨#[]⟩),(.string ⟨#[]⟩)]),4,56):=by kernel_rfl
theorem info44:(Tryz.prog.info? 44).map (fun i=>(i.zero,i.size,i.bytes)) = some (some (.agg #[(.string ⟨#[]⟩),(.string ⟨#[]⟩),(.int .i64 0),(.int .i64 0),(.bool false),(.slice none 0 0),(.string ⟨#[]⟩)]),7,96):=by kernel_rfl
theorem info70:(Tryz.prog.info? 70).map (fun i=>(i.zero,i.size,i.bytes)) = some (some (.agg #[(.string ⟨#[]⟩),(.string ⟨#[]⟩),(.int .i64 0),(.bool false),(.int .i64 0)]),5,56):=by kernel_rfl
theorem info72:(Tryz.prog.info? 72).map (fun i=>(i.zero,i.size,i.bytes)) = some (some (.agg #[(.string ⟨#[]⟩),(.int .i64 0)]),2,24):=by kernel_rfl
structure SiS28 where
 f0:ByteArray
 f1:ByteArray
 f2:Int
 f3:Bool
 f4:Int
def ziS45:SiS28:=⟨(⟨#[]⟩:ByteArray),(⟨#[]⟩:ByteArray),(0:Int),false,(0:Int)⟩
def k70:Kd SiS28:=Kd.iso (Kd.pair Kd.string (Kd.pair Kd.string (Kd.pair (Kd.int .i64) (Kd.pair Kd.bool (Kd.int .i64))))) (fun x:SiS28=>(x.f0,x.f1,x.f2,x.f3,x.f4))
theorem k70_open {w:World} {x:SiS28} {cs:List Value} (h:k70.K w x cs):cs = [.string x.f0,.string x.f1,.int .i64 x.f2,.bool x.f3,.int .i64 x.f4]:=by
 obtain ⟨_,_,rfl,rfl,⟨_,_,rfl,rfl,⟨_,_,rfl,rfl,⟨_,_,rfl,rfl,rfl⟩⟩⟩⟩:=h
 exact rfl
theorem k70_openM {w:World} {base:Nat} {ok:Nat → Prop} {x:SiS28} {cs:List Value} (h:k70.M w base ok x cs):cs = [.string x.f0,.string x.f1,.int .i64 x.f2,.bool x.f3,.int .i64 x.f4]:=by
 obtain ⟨_,_,rfl,rfl,⟨_,_,rfl,rfl,⟨_,_,rfl,rfl,⟨_,_,rfl,rfl,rfl⟩⟩⟩⟩:=h
 exact rfl
theorem k70_mkM (w:World) (base:Nat) (ok:Nat → Prop) (x:SiS28)  : k70.M w base ok x [.string x.f0,.string x.f1,.int .i64 x.f2,.bool x.f3,.int .i64 x.f4]:=⟨[.string x.f0],[.string x.f1,.int .i64 x.f2,.bool x.f3,.int .i64 x.f4],rfl,rfl,⟨[.string x.f1],[.int .i64 x.f2,.bool x.f3,.int .i64 x.f4],rfl,rfl,⟨[.int .i64 x.f2],[.bool x.f3,.int .i64 x.f4],rfl,rfl,⟨[.bool x.f3],[.int .i64 x.f4],rfl,rfl,rfl⟩⟩⟩⟩
def riS37 (xs:List SiS28) (i:Int):SiS28:=xs.getD i.toNat ziS45
theorem at_T70 {w:World} {A:Option Addr} {n:Nat} {xs:List SiS28} (h:Kd.C k70 w A n xs) (i:Int) (h0:0 ≤ i) (h1:i < n):∃ ad,A = some ad ∧ w.cell? (ad.add (i.toNat * 5)) = some (.string (riS37 xs i).f0) ∧ w.cell? ⟨(ad.add (i.toNat * 5)).block,(ad.add (i.toNat * 5)).off + 1,none⟩ = some (.string (riS37 xs i).f1) ∧ w.cell? ⟨(ad.add (i.toNat * 5)).block,(ad.add (i.toNat * 5)).off + 2,none⟩ = some (.int .i64 (riS37 xs i).f2) ∧ w.cell? ⟨(ad.add (i.toNat * 5)).block,(ad.add (i.toNat * 5)).off + 3,none⟩ = some (.bool (riS37 xs i).f3) ∧ w.cell? ⟨(ad.add (i.toNat * 5)).block,(ad.add (i.toNat * 5)).off + 4,none⟩ = some (.int .i64 (riS37 xs i).f4):=by
 obtain ⟨ad,c,e,_,hK,hc0⟩:=Kd.C_get h ziS45 i h0 h1;have hc:∀ j u,c[j]? = some u → w.cell? (ad.add (i.toNat * 5 + j)) = some u:=hc0;obtain rfl:=k70_open hK
 exact ⟨ad,e,hc 0 _ rfl,by rw [← add_field _ _ 1 (by omega)];exact hc 1 _ rfl,by rw [← add_field _ _ 2 (by omega)];exact hc 2 _ rfl,by rw [← add_field _ _ 3 (by omega)];exact hc 3 _ rfl,by rw [← add_field _ _ 4 (by omega)];exact hc 4 _ rfl⟩
structure SiU30 where
 f0:ByteArray
 f1:Int
def ziU47:SiU30:=⟨(⟨#[]⟩:ByteArray),(0:Int)⟩
def k72:Kd SiU30:=Kd.iso (Kd.pair Kd.string (Kd.int .i64)) (fun x:SiU30=>(x.f0,x.f1))
theorem k72_open {w:World} {x:SiU30} {cs:List Value} (h:k72.K w x cs):cs = [.string x.f0,.int .i64 x.f1]:=by
 obtain ⟨_,_,rfl,rfl,rfl⟩:=h
 exact rfl
theorem k72_openM {w:World} {base:Nat} {ok:Nat → Prop} {x:SiU30} {cs:List Value} (h:k72.M w base ok x cs):cs = [.string x.f0,.int .i64 x.f1]:=by
 obtain ⟨_,_,rfl,rfl,rfl⟩:=h
 exact rfl
theorem k72_mkM (w:World) (base:Nat) (ok:Nat → Prop) (x:SiU30)  : k72.M w base ok x [.string x.f0,.int .i64 x.f1]:=⟨[.string x.f0],[.int .i64 x.f1],rfl,rfl,rfl⟩
def riU39 (xs:List SiU30) (i:Int):SiU30:=xs.getD i.toNat ziU47
theorem at_T72 {w:World} {A:Option Addr} {n:Nat} {xs:List SiU30} (h:Kd.C k72 w A n xs) (i:Int) (h0:0 ≤ i) (h1:i < n):∃ ad,A = some ad ∧ w.cell? (ad.add (i.toNat * 2)) = some (.string (riU39 xs i).f0) ∧ w.cell? ⟨(ad.add (i.toNat * 2)).block,(ad.add (i.toNat * 2)).off + 1,none⟩ = some (.int .i64 (riU39 xs i).f1):=by
 obtain ⟨ad,c,e,_,hK,hc0⟩:=Kd.C_get h ziU47 i h0 h1;have hc:∀ j u,c[j]? = some u → w.cell? (ad.add (i.toNat * 2 + j)) = some u:=hc0;obtain rfl:=k72_open hK
 exact ⟨ad,e,hc 0 _ rfl,by rw [← add_field _ _ 1 (by omega)];exact hc 1 _ rfl⟩
structure SiT29 where
 f0:ByteArray
 f1:ByteArray
 f2:Int
 f3:Int
 f4:Bool
 f5:(List ByteArray)
 f6:ByteArray
def ziT46:SiT29:=⟨(⟨#[]⟩:ByteArray),(⟨#[]⟩:ByteArray),(0:Int),(0:Int),false,([]:List ByteArray),(⟨#[]⟩:ByteArray)⟩
def k44:Kd SiT29:=Kd.iso (Kd.pair Kd.string (Kd.pair Kd.string (Kd.pair (Kd.int .i64) (Kd.pair (Kd.int .i64) (Kd.pair Kd.bool (Kd.pair (Kd.slice 9 Kd.string) Kd.string)))))) (fun x:SiT29=>(x.f0,x.f1,x.f2,x.f3,x.f4,x.f5,x.f6))
theorem k44_open {w:World} {x:SiT29} {cs:List Value} (h:k44.K w x cs):∃ A5 c5,cs = [.string x.f0,.string x.f1,.int .i64 x.f2,.int .i64 x.f3,.bool x.f4,.slice A5 x.f5.length c5,.string x.f6] ∧ x.f5.length ≤ c5 ∧ Kd.string.C w A5 x.f5.length x.f5:=by
 obtain ⟨_,_,rfl,rfl,⟨_,_,rfl,rfl,⟨_,_,rfl,rfl,⟨_,_,rfl,rfl,⟨_,_,rfl,rfl,⟨_,_,rfl,⟨A5,c5,rfl,l5,g5⟩,rfl⟩⟩⟩⟩⟩⟩:=h
 exact ⟨A5,c5,rfl,l5,g5⟩
theorem k44_openM {w:World} {base:Nat} {ok:Nat → Prop} {x:SiT29} {cs:List Value} (h:k44.M w base ok x cs):∃ v5,cs = [.string x.f0,.string x.f1,.int .i64 x.f2,.int .i64 x.f3,.bool x.f4,v5,.string x.f6] ∧ Kd.string.R 9 w base ok v5 x.f5:=by
 obtain ⟨_,_,rfl,rfl,⟨_,_,rfl,rfl,⟨_,_,rfl,rfl,⟨_,_,rfl,rfl,⟨_,_,rfl,rfl,⟨_,_,rfl,⟨v5,rfl,g5⟩,rfl⟩⟩⟩⟩⟩⟩:=h
 exact ⟨v5,rfl,g5⟩
theorem k44_mkM (w:World) (base:Nat) (ok:Nat → Prop) (x:SiT29) {v5:Value} (g5:Kd.string.R 9 w base ok v5 x.f5):k44.M w base ok x [.string x.f0,.string x.f1,.int .i64 x.f2,.int .i64 x.f3,.bool x.f4,v5,.string x.f6]:=⟨[.string x.f0],[.string x.f1,.int .i64 x.f2,.int .i64 x.f3,.bool x.f4,v5,.string x.f6],rfl,rfl,⟨[.string x.f1],[.int .i64 x.f2,.int .i64 x.f3,.bool x.f4,v5,.string x.f6],rfl,rfl,⟨[.int .i64 x.f2],[.int .i64 x.f3,.bool x.f4,v5,.string x.f6],rfl,rfl,⟨[.int .i64 x.f3],[.bool x.f4,v5,.string x.f6],rfl,rfl,⟨[.bool x.f4],[v5,.string x.f6],rfl,rfl,⟨[v5],[.string x.f6],rfl,⟨v5,rfl,g5⟩,rfl⟩⟩⟩⟩⟩⟩
def riT38 (xs:List SiT29) (i:Int):SiT29:=xs.getD i.toNat ziT46
theorem at_T44 {w:World} {A:Option Addr} {n:Nat} {xs:List SiT29} (h:Kd.C k44 w A n xs) (i:Int) (h0:0 ≤ i) (h1:i < n):∃ ad A5 c5,A = some ad ∧ w.cell? (ad.add (i.toNat * 7)) = some (.string (riT38 xs i).f0) ∧ w.cell? ⟨(ad.add (i.toNat * 7)).block,(ad.add (i.toNat * 7)).off + 1,none⟩ = some (.string (riT38 xs i).f1) ∧ w.cell? ⟨(ad.add (i.toNat * 7)).block,(ad.add (i.toNat * 7)).off + 2,none⟩ = some (.int .i64 (riT38 xs i).f2) ∧ w.cell? ⟨(ad.add (i.toNat * 7)).block,(ad.add (i.toNat * 7)).off + 3,none⟩ = some (.int .i64 (riT38 xs i).f3) ∧ w.cell? ⟨(ad.add (i.toNat * 7)).block,(ad.add (i.toNat * 7)).off + 4,none⟩ = some (.bool (riT38 xs i).f4) ∧ w.cell? ⟨(ad.add (i.toNat * 7)).block,(ad.add (i.toNat * 7)).off + 5,none⟩ = some (.slice A5 (riT38 xs i).f5.length c5) ∧ w.cell? ⟨(ad.add (i.toNat * 7)).block,(ad.add (i.toNat * 7)).off + 6,none⟩ = some (.string (riT38 xs i).f6) ∧ (riT38 xs i).f5.length ≤ c5 ∧ Kd.string.C w A5 (riT38 xs i).f5.length (riT38 xs i).f5:=by
 obtain ⟨ad,c,e,_,hK,hc0⟩:=Kd.C_get h ziT46 i h0 h1;have hc:∀ j u,c[j]? = some u → w.cell? (ad.add (i.toNat * 7 + j)) = some u:=hc0;obtain ⟨A5,c5,rfl,l5,g5⟩:=k44_open hK
 exact ⟨ad,A5,c5,e,hc 0 _ rfl,by rw [← add_field _ _ 1 (by omega)];exact hc 1 _ rfl,by rw [← add_field _ _ 2 (by omega)];exact hc 2 _ rfl,by rw [← add_field _ _ 3 (by omega)];exact hc 3 _ rfl,by rw [← add_field _ _ 4 (by omega)];exact hc 4 _ rfl,by rw [← add_field _ _ 5 (by omega)];exact hc 5 _ rfl,by rw [← add_field _ _ 6 (by omega)];exact hc 6 _ rfl,l5,g5⟩
structure SiP27 where
 f0:Int
 f1:ByteArray
 f2:ByteArray
 f3:ByteArray
def ziP44:SiP27:=⟨(0:Int),(⟨#[]⟩:ByteArray),(⟨#[]⟩:ByteArray),(⟨#[]⟩:ByteArray)⟩
def k36:Kd SiP27:=Kd.iso (Kd.pair (Kd.int .i64) (Kd.pair Kd.string (Kd.pair Kd.string Kd.string))) (fun x:SiP27=>(x.f0,x.f1,x.f2,x.f3))
theorem k36_open {w:World} {x:SiP27} {cs:List Value} (h:k36.K w x cs):cs = [.int .i64 x.f0,.string x.f1,.string x.f2,.string x.f3]:=by
 obtain ⟨_,_,rfl,rfl,⟨_,_,rfl,rfl,⟨_,_,rfl,rfl,rfl⟩⟩⟩:=h
 exact rfl
theorem k36_openM {w:World} {base:Nat} {ok:Nat → Prop} {x:SiP27} {cs:List Value} (h:k36.M w base ok x cs):cs = [.int .i64 x.f0,.string x.f1,.string x.f2,.string x.f3]:=by
 obtain ⟨_,_,rfl,rfl,⟨_,_,rfl,rfl,⟨_,_,rfl,rfl,rfl⟩⟩⟩:=h
 exact rfl
theorem k36_mkM (w:World) (base:Nat) (ok:Nat → Prop) (x:SiP27)  : k36.M w base ok x [.int .i64 x.f0,.string x.f1,.string x.f2,.string x.f3]:=⟨[.int .i64 x.f0],[.string x.f1,.string x.f2,.string x.f3],rfl,rfl,⟨[.string x.f1],[.string x.f2,.string x.f3],rfl,rfl,⟨[.string x.f2],[.string x.f3],rfl,rfl,rfl⟩⟩⟩
def riP36 (xs:List SiP27) (i:Int):SiP27:=xs.getD i.toNat ziP44
theorem at_T36 {w:World} {A:Option Addr} {n:Nat} {xs:List SiP27} (h:Kd.C k36 w A n xs) (i:Int) (h0:0 ≤ i) (h1:i < n):∃ ad,A = some ad ∧ w.cell? (ad.add (i.toNat * 4)) = some (.int .i64 (riP36 xs i).f0) ∧ w.cell? ⟨(ad.add (i.toNat * 4)).block,(ad.add (i.toNat * 4)).off + 1,none⟩ = some (.string (riP36 xs i).f1) ∧ w.cell? ⟨(ad.add (i.toNat * 4)).block,(ad.add (i.toNat * 4)).off + 2,none⟩ = some (.string (riP36 xs i).f2) ∧ w.cell? ⟨(ad.add (i.toNat * 4)).block,(ad.add (i.toNat * 4)).off + 3,none⟩ = some (.string (riP36 xs i).f3):=by
 obtain ⟨ad,c,e,_,hK,hc0⟩:=Kd.C_get h ziP44 i h0 h1;have hc:∀ j u,c[j]? = some u → w.cell? (ad.add (i.toNat * 4 + j)) = some u:=hc0;obtain rfl:=k36_open hK
 exact ⟨ad,e,hc 0 _ rfl,by rw [← add_field _ _ 1 (by omega)];exact hc 1 _ rfl,by rw [← add_field _ _ 2 (by omega)];exact hc 2 _ rfl,by rw [← add_field _ _ 3 (by omega)];exact hc 3 _ rfl⟩
structure SlS33 where
 f0:ByteArray
 f1:ByteArray
 f2:Int
 f3:Bool
 f4:Int
def zlS49:SlS33:=⟨(⟨#[]⟩:ByteArray),(⟨#[]⟩:ByteArray),(0:Int),false,(0:Int)⟩
def k105:Kd SlS33:=Kd.iso (Kd.pair Kd.string (Kd.pair Kd.string (Kd.pair (Kd.int .i64) (Kd.pair Kd.bool (Kd.int .i64))))) (fun x:SlS33=>(x.f0,x.f1,x.f2,x.f3,x.f4))
theorem k105_open {w:World} {x:SlS33} {cs:List Value} (h:k105.K w x cs):cs = [.string x.f0,.string x.f1,.int .i64 x.f2,.bool x.f3,.int .i64 x.f4]:=by
 obtain ⟨_,_,rfl,rfl,⟨_,_,rfl,rfl,⟨_,_,rfl,rfl,⟨_,_,rfl,rfl,rfl⟩⟩⟩⟩:=h
 exact rfl
def rlS41 (xs:List SlS33) (i:Int):SlS33:=xs.getD i.toNat zlS49
theorem at_T105 {w:World} {A:Option Addr} {n:Nat} {xs:List SlS33} (h:Kd.C k105 w A n xs) (i:Int) (h0:0 ≤ i) (h1:i < n):∃ ad,A = some ad ∧ w.cell? (ad.add (i.toNat * 5)) = some (.string (rlS41 xs i).f0) ∧ w.cell? ⟨(ad.add (i.toNat * 5)).block,(ad.add (i.toNat * 5)).off + 1,none⟩ = some (.string (rlS41 xs i).f1) ∧ w.cell? ⟨(ad.add (i.toNat * 5)).block,(ad.add (i.toNat * 5)).off + 2,none⟩ = some (.int .i64 (rlS41 xs i).f2) ∧ w.cell? ⟨(ad.add (i.toNat * 5)).block,(ad.add (i.toNat * 5)).off + 3,none⟩ = some (.bool (rlS41 xs i).f3) ∧ w.cell? ⟨(ad.add (i.toNat * 5)).block,(ad.add (i.toNat * 5)).off + 4,none⟩ = some (.int .i64 (rlS41 xs i).f4):=by
 obtain ⟨ad,c,e,_,hK,hc0⟩:=Kd.C_get h zlS49 i h0 h1;have hc:∀ j u,c[j]? = some u → w.cell? (ad.add (i.toNat * 5 + j)) = some u:=hc0;obtain rfl:=k105_open hK
 exact ⟨ad,e,hc 0 _ rfl,by rw [← add_field _ _ 1 (by omega)];exact hc 1 _ rfl,by rw [← add_field _ _ 2 (by omega)];exact hc 2 _ rfl,by rw [← add_field _ _ 3 (by omega)];exact hc 3 _ rfl,by rw [← add_field _ _ 4 (by omega)];exact hc 4 _ rfl⟩
structure SlU35 where
 f0:ByteArray
 f1:Int
def zlU51:SlU35:=⟨(⟨#[]⟩:ByteArray),(0:Int)⟩
def k107:Kd SlU35:=Kd.iso (Kd.pair Kd.string (Kd.int .i64)) (fun x:SlU35=>(x.f0,x.f1))
theorem k107_open {w:World} {x:SlU35} {cs:List Value} (h:k107.K w x cs):cs = [.string x.f0,.int .i64 x.f1]:=by
 obtain ⟨_,_,rfl,rfl,rfl⟩:=h
 exact rfl
def rlU43 (xs:List SlU35) (i:Int):SlU35:=xs.getD i.toNat zlU51
theorem at_T107 {w:World} {A:Option Addr} {n:Nat} {xs:List SlU35} (h:Kd.C k107 w A n xs) (i:Int) (h0:0 ≤ i) (h1:i < n):∃ ad,A = some ad ∧ w.cell? (ad.add (i.toNat * 2)) = some (.string (rlU43 xs i).f0) ∧ w.cell? ⟨(ad.add (i.toNat * 2)).block,(ad.add (i.toNat * 2)).off + 1,none⟩ = some (.int .i64 (rlU43 xs i).f1):=by
 obtain ⟨ad,c,e,_,hK,hc0⟩:=Kd.C_get h zlU51 i h0 h1;have hc:∀ j u,c[j]? = some u → w.cell? (ad.add (i.toNat * 2 + j)) = some u:=hc0;obtain rfl:=k107_open hK
 exact ⟨ad,e,hc 0 _ rfl,by rw [← add_field _ _ 1 (by omega)];exact hc 1 _ rfl⟩
structure SlT34 where
 f0:ByteArray
 f1:ByteArray
 f2:Int
 f3:Int
 f4:Bool
 f5:(List ByteArray)
 f6:ByteArray
def zlT50:SlT34:=⟨(⟨#[]⟩:ByteArray),(⟨#[]⟩:ByteArray),(0:Int),(0:Int),false,([]:List ByteArray),(⟨#[]⟩:ByteArray)⟩
def k109:Kd SlT34:=Kd.iso (Kd.pair Kd.string (Kd.pair Kd.string (Kd.pair (Kd.int .i64) (Kd.pair (Kd.int .i64) (Kd.pair Kd.bool (Kd.pair (Kd.slice 9 Kd.string) Kd.string)))))) (fun x:SlT34=>(x.f0,x.f1,x.f2,x.f3,x.f4,x.f5,x.f6))
theorem k109_open {w:World} {x:SlT34} {cs:List Value} (h:k109.K w x cs):∃ A5 c5,cs = [.string x.f0,.string x.f1,.int .i64 x.f2,.int .i64 x.f3,.bool x.f4,.slice A5 x.f5.length c5,.string x.f6] ∧ x.f5.length ≤ c5 ∧ Kd.string.C w A5 x.f5.length x.f5:=by
 obtain ⟨_,_,rfl,rfl,⟨_,_,rfl,rfl,⟨_,_,rfl,rfl,⟨_,_,rfl,rfl,⟨_,_,rfl,rfl,⟨_,_,rfl,⟨A5,c5,rfl,l5,g5⟩,rfl⟩⟩⟩⟩⟩⟩:=h
 exact ⟨A5,c5,rfl,l5,g5⟩
def rlT42 (xs:List SlT34) (i:Int):SlT34:=xs.getD i.toNat zlT50
theorem at_T109 {w:World} {A:Option Addr} {n:Nat} {xs:List SlT34} (h:Kd.C k109 w A n xs) (i:Int) (h0:0 ≤ i) (h1:i < n):∃ ad A5 c5,A = some ad ∧ w.cell? (ad.add (i.toNat * 7)) = some (.string (rlT42 xs i).f0) ∧ w.cell? ⟨(ad.add (i.toNat * 7)).block,(ad.add (i.toNat * 7)).off + 1,none⟩ = some (.string (rlT42 xs i).f1) ∧ w.cell? ⟨(ad.add (i.toNat * 7)).block,(ad.add (i.toNat * 7)).off + 2,none⟩ = some (.int .i64 (rlT42 xs i).f2) ∧ w.cell? ⟨(ad.add (i.toNat * 7)).block,(ad.add (i.toNat * 7)).off + 3,none⟩ = some (.int .i64 (rlT42 xs i).f3) ∧ w.cell? ⟨(ad.add (i.toNat * 7)).block,(ad.add (i.toNat * 7)).off + 4,none⟩ = some (.bool (rlT42 xs i).f4) ∧ w.cell? ⟨(ad.add (i.toNat * 7)).block,(ad.add (i.toNat * 7)).off + 5,none⟩ = some (.slice A5 (rlT42 xs i).f5.length c5) ∧ w.cell? ⟨(ad.add (i.toNat * 7)).block,(ad.add (i.toNat * 7)).off + 6,none⟩ = some (.string (rlT42 xs i).f6) ∧ (rlT42 xs i).f5.length ≤ c5 ∧ Kd.string.C w A5 (rlT42 xs i).f5.length (rlT42 xs i).f5:=by
 obtain ⟨ad,c,e,_,hK,hc0⟩:=Kd.C_get h zlT50 i h0 h1;have hc:∀ j u,c[j]? = some u → w.cell? (ad.add (i.toNat * 7 + j)) = some u:=hc0;obtain ⟨A5,c5,rfl,l5,g5⟩:=k109_open hK
 exact ⟨ad,A5,c5,e,hc 0 _ rfl,by rw [← add_field _ _ 1 (by omega)];exact hc 1 _ rfl,by rw [← add_field _ _ 2 (by omega)];exact hc 2 _ rfl,by rw [← add_field _ _ 3 (by omega)];exact hc 3 _ rfl,by rw [← add_field _ _ 4 (by omega)];exact hc 4 _ rfl,by rw [← add_field _ _ 5 (by omega)];exact hc 5 _ rfl,by rw [← add_field _ _ 6 (by omega)];exact hc 6 _ rfl,l5,g5⟩
structure SlP32 where
 f0:Int
 f1:ByteArray
 f2:ByteArray
 f3:ByteArray
def zlP48:SlP32:=⟨(0:Int),(⟨#[]⟩:ByteArray),(⟨#[]⟩:ByteArray),(⟨#[]⟩:ByteArray)⟩
def k111:Kd SlP32:=Kd.iso (Kd.pair (Kd.int .i64) (Kd.pair Kd.string (Kd.pair Kd.string Kd.string))) (fun x:SlP32=>(x.f0,x.f1,x.f2,x.f3))
theorem k111_open {w:World} {x:SlP32} {cs:List Value} (h:k111.K w x cs):cs = [.int .i64 x.f0,.string x.f1,.string x.f2,.string x.f3]:=by
 obtain ⟨_,_,rfl,rfl,⟨_,_,rfl,rfl,⟨_,_,rfl,rfl,rfl⟩⟩⟩:=h
 exact rfl
def rlP40 (xs:List SlP32) (i:Int):SlP32:=xs.getD i.toNat zlP48
theorem at_T111 {w:World} {A:Option Addr} {n:Nat} {xs:List SlP32} (h:Kd.C k111 w A n xs) (i:Int) (h0:0 ≤ i) (h1:i < n):∃ ad,A = some ad ∧ w.cell? (ad.add (i.toNat * 4)) = some (.int .i64 (rlP40 xs i).f0) ∧ w.cell? ⟨(ad.add (i.toNat * 4)).block,(ad.add (i.toNat * 4)).off + 1,none⟩ = some (.string (rlP40 xs i).f1) ∧ w.cell? ⟨(ad.add (i.toNat * 4)).block,(ad.add (i.toNat * 4)).off + 2,none⟩ = some (.string (rlP40 xs i).f2) ∧ w.cell? ⟨(ad.add (i.toNat * 4)).block,(ad.add (i.toNat * 4)).off + 3,none⟩ = some (.string (rlP40 xs i).f3):=by
 obtain ⟨ad,c,e,_,hK,hc0⟩:=Kd.C_get h zlP48 i h0 h1;have hc:∀ j u,c[j]? = some u → w.cell? (ad.add (i.toNat * 4 + j)) = some u:=hc0;obtain rfl:=k111_open hK
 exact ⟨ad,e,hc 0 _ rfl,by rw [← add_field _ _ 1 (by omega)];exact hc 1 _ rfl,by rw [← add_field _ _ 2 (by omega)];exact hc 2 _ rfl,by rw [← add_field _ _ 3 (by omega)];exact hc 3 _ rfl⟩
structure SlM31 where
 f0:Int
 f1:Int
 f2:Int
 f3:(List SlS33)
 f4:(List SlU35)
 f5:(List SlT34)
 f6:(List SlP32)
def k51:Kd SlM31:=Kd.iso (Kd.pair (Kd.int .i64) (Kd.pair (Kd.int .i64) (Kd.pair (Kd.int .i64) (Kd.pair (Kd.slice 105 k105) (Kd.pair (Kd.slice 107 k107) (Kd.pair (Kd.slice 109 k109) (Kd.slice 111 k111))))))) (fun x:SlM31=>(x.f0,x.f1,x.f2,x.f3,x.f4,x.f5,x.f6))
theorem k51_open {w:World} {x:SlM31} {cs:List Value} (h:k51.K w x cs):∃ A3 c3 A4 c4 A5 c5 A6 c6,cs = [.int .i64 x.f0,.int .i64 x.f1,.int .i64 x.f2,.slice A3 x.f3.length c3,.slice A4 x.f4.length c4,.slice A5 x.f5.length c5,.slice A6 x.f6.length c6] ∧ x.f3.length ≤ c3 ∧ k105.C w A3 x.f3.length x.f3 ∧ x.f4.length ≤ c4 ∧ k107.C w A4 x.f4.length x.f4 ∧ x.f5.length ≤ c5 ∧ k109.C w A5 x.f5.length x.f5 ∧ x.f6.length ≤ c6 ∧ k111.C w A6 x.f6.length x.f6:=by
 obtain ⟨_,_,rfl,rfl,⟨_,_,rfl,rfl,⟨_,_,rfl,rfl,⟨_,_,rfl,⟨A3,c3,rfl,l3,g3⟩,⟨_,_,rfl,⟨A4,c4,rfl,l4,g4⟩,⟨_,_,rfl,⟨A5,c5,rfl,l5,g5⟩,⟨A6,c6,rfl,l6,g6⟩⟩⟩⟩⟩⟩⟩:=h
 exact ⟨A3,c3,A4,c4,A5,c5,A6,c6,rfl,l3,g3,l4,g4,l5,g5,l6,g6⟩
def GlS24 (x:SlS33):Prop:=(x.f0.size ≤ 9223372036854775807) ∧ (x.f1.size ≤ 9223372036854775807) ∧ ((Lit.int .i64 x.f2).wf = true) ∧ (True) ∧ ((Lit.int .i64 x.f4).wf = true)
set_option maxRecDepth 100000 in
theorem opens105:Opens.Opens Tryz.prog k105 105 GlS24:=⟨by
 intro H enc w base spare held fuel cs x h;obtain ⟨xs,n,_,_,hl,hlen,hf⟩:=DataW.trod_struct Tryz.underlying105 h;have hc:cs.length = 5:=hl.trans (by kernel_rfl);have h0:=hf 0 _ rfl;rw [List.getElem?_eq_getElem (by rw [hlen];first|exact of_decide_eq_true (by kernel_rfl)|decide)] at h0;obtain ⟨a0,k0,g0⟩:=(Opens.opens_string Tryz.underlying9).out h0;have k0:(Kd.string).K w a0 ((cs.drop 0).take 1):=k0;have h1:=hf 1 _ rfl;rw [List.getElem?_eq_getElem (by rw [hlen];first|exact of_decide_eq_true (by kernel_rfl)|decide)] at h1;obtain ⟨a1,k1,g1⟩:=(Opens.opens_string Tryz.underlying9).out h1;have k1:(Kd.string).K w a1 ((cs.drop 1).take 1):=k1;have h2:=hf 2 _ rfl;rw [List.getElem?_eq_getElem (by rw [hlen];first|exact of_decide_eq_true (by kernel_rfl)|decide)] at h2;obtain ⟨a2,k2,g2⟩:=(Opens.opens_int Tryz.underlying3).out h2;have k2:((Kd.int .i64)).K w a2 ((cs.drop 2).take 1):=k2;have h3:=hf 3 _ rfl;rw [List.getElem?_eq_getElem (by rw [hlen];first|exact of_decide_eq_true (by kernel_rfl)|decide)] at h3;obtain ⟨a3,k3,g3⟩:=(Opens.opens_bool Tryz.underlying4).out h3;have k3:(Kd.bool).K w a3 ((cs.drop 3).take 1):=k3;have h4:=hf 4 _ rfl;rw [List.getElem?_eq_getElem (by rw [hlen];first|exact of_decide_eq_true (by kernel_rfl)|decide)] at h4;obtain ⟨a4,k4,g4⟩:=(Opens.opens_int Tryz.underlying3).out h4;have k4:((Kd.int .i64)).K w a4 ((cs.drop 4).take 1):=k4;have q4:((Kd.int .i64)).K w a4 (cs.drop 4):=by rw [Opens.seg_last (n:=1) (by omega)] at k4;exact k4
 exact ⟨⟨a0,a1,a2,a3,a4⟩,⟨(cs.drop 0).take 1,cs.drop 1,Opens.seg_split (a:=0) (n:=1) rfl,k0,⟨(cs.drop 1).take 1,cs.drop 2,Opens.seg_split (a:=1) (n:=1) rfl,k1,⟨(cs.drop 2).take 1,cs.drop 3,Opens.seg_split (a:=2) (n:=1) rfl,k2,⟨(cs.drop 3).take 1,cs.drop 4,Opens.seg_split (a:=3) (n:=1) rfl,k3,q4⟩⟩⟩⟩,g0,g1,g2,g3,g4⟩⟩
def GlU26 (x:SlU35):Prop:=(x.f0.size ≤ 9223372036854775807) ∧ ((Lit.int .i64 x.f1).wf = true)
set_option maxRecDepth 100000 in
theorem opens107:Opens.Opens Tryz.prog k107 107 GlU26:=⟨by
 intro H enc w base spare held fuel cs x h;obtain ⟨xs,n,_,_,hl,hlen,hf⟩:=DataW.trod_struct Tryz.underlying107 h;have hc:cs.length = 2:=hl.trans (by kernel_rfl);have h0:=hf 0 _ rfl;rw [List.getElem?_eq_getElem (by rw [hlen];first|exact of_decide_eq_true (by kernel_rfl)|decide)] at h0;obtain ⟨a0,k0,g0⟩:=(Opens.opens_string Tryz.underlying9).out h0;have k0:(Kd.string).K w a0 ((cs.drop 0).take 1):=k0;have h1:=hf 1 _ rfl;rw [List.getElem?_eq_getElem (by rw [hlen];first|exact of_decide_eq_true (by kernel_rfl)|decide)] at h1;obtain ⟨a1,k1,g1⟩:=(Opens.opens_int Tryz.underlying3).out h1;have k1:((Kd.int .i64)).K w a1 ((cs.drop 1).take 1):=k1;have q1:((Kd.int .i64)).K w a1 (cs.drop 1):=by rw [Opens.seg_last (n:=1) (by omega)] at k1;exact k1
 exact ⟨⟨a0,a1⟩,⟨(cs.drop 0).take 1,cs.drop 1,Opens.seg_split (a:=0) (n:=1) rfl,k0,q1⟩,g0,g1⟩⟩
def GlT25 (x:SlT34):Prop:=(x.f0.size ≤ 9223372036854775807) ∧ (x.f1.size ≤ 9223372036854775807) ∧ ((Lit.int .i64 x.f2).wf = true) ∧ ((Lit.int .i64 x.f3).wf = true) ∧ (True) ∧ ((x.f5.length ≤ 9223372036854775807 ∧ ∀ y_ ∈ x.f5,y_.size ≤ 9223372036854775807)) ∧ (x.f6.size ≤ 9223372036854775807)
set_option maxRecDepth 100000 in
theorem opens109:Opens.Opens Tryz.prog k109 109 GlT25:=⟨by
 intro H enc w base spare held fuel cs x h;obtain ⟨xs,n,_,_,hl,hlen,hf⟩:=DataW.trod_struct Tryz.underlying109 h;have hc:cs.length = 7:=hl.trans (by kernel_rfl);have h0:=hf 0 _ rfl;rw [List.getElem?_eq_getElem (by rw [hlen];first|exact of_decide_eq_true (by kernel_rfl)|decide)] at h0;obtain ⟨a0,k0,g0⟩:=(Opens.opens_string Tryz.underlying9).out h0;have k0:(Kd.string).K w a0 ((cs.drop 0).take 1):=k0;have h1:=hf 1 _ rfl;rw [List.getElem?_eq_getElem (by rw [hlen];first|exact of_decide_eq_true (by kernel_rfl)|decide)] at h1;obtain ⟨a1,k1,g1⟩:=(Opens.opens_string Tryz.underlying9).out h1;have k1:(Kd.string).K w a1 ((cs.drop 1).take 1):=k1;have h2:=hf 2 _ rfl;rw [List.getElem?_eq_getElem (by rw [hlen];first|exact of_decide_eq_true (by kernel_rfl)|decide)] at h2;obtain ⟨a2,k2,g2⟩:=(Opens.opens_int Tryz.underlying3).out h2;have k2:((Kd.int .i64)).K w a2 ((cs.drop 2).take 1):=k2;have h3:=hf 3 _ rfl;rw [List.getElem?_eq_getElem (by rw [hlen];first|exact of_decide_eq_true (by kernel_rfl)|decide)] at h3;obtain ⟨a3,k3,g3⟩:=(Opens.opens_int Tryz.underlying3).out h3;have k3:((Kd.int .i64)).K w a3 ((cs.drop 3).take 1):=k3;have h4:=hf 4 _ rfl;rw [List.getElem?_eq_getElem (by rw [hlen];first|exact of_decide_eq_true (by kernel_rfl)|decide)] at h4;obtain ⟨a4,k4,g4⟩:=(Opens.opens_bool Tryz.underlying4).out h4;have k4:(Kd.bool).K w a4 ((cs.drop 4).take 1):=k4;have h5:=hf 5 _ rfl;rw [List.getElem?_eq_getElem (by rw [hlen];first|exact of_decide_eq_true (by kernel_rfl)|decide)] at h5;obtain ⟨a5,k5,g5⟩:=(Opens.opens_slice Tryz.underlying40 (by kernel_rfl) (Opens.opens_string Tryz.underlying9)).out h5;have k5:((Kd.slice 9 Kd.string)).K w a5 ((cs.drop 5).take 1):=k5;have h6:=hf 6 _ rfl;rw [List.getElem?_eq_getElem (by rw [hlen];first|exact of_decide_eq_true (by kernel_rfl)|decide)] at h6;obtain ⟨a6,k6,g6⟩:=(Opens.opens_string Tryz.underlying9).out h6;have k6:(Kd.string).K w a6 ((cs.drop 6).take 1):=k6;have q6:(Kd.string).K w a6 (cs.drop 6):=by rw [Opens.seg_last (n:=1) (by omega)] at k6;exact k6
 exact ⟨⟨a0,a1,a2,a3,a4,a5,a6⟩,⟨(cs.drop 0).take 1,cs.drop 1,Opens.seg_split (a:=0) (n:=1) rfl,k0,⟨(cs.drop 1).take 1,cs.drop 2,Opens.seg_split (a:=1) (n:=1) rfl,k1,⟨(cs.drop 2).take 1,cs.drop 3,Opens.seg_split (a:=2) (n:=1) rfl,k2,⟨(cs.drop 3).take 1,cs.drop 4,Opens.seg_split (a:=3) (n:=1) rfl,k3,⟨(cs.drop 4).take 1,cs.drop 5,Opens.seg_split (a:=4) (n:=1) rfl,k4,⟨(cs.drop 5).take 1,cs.drop 6,Opens.seg_split (a:=5) (n:=1) rfl,k5,q6⟩⟩⟩⟩⟩⟩,g0,g1,g2,g3,g4,g5,g6⟩⟩
def GlP23 (x:SlP32):Prop:=((Lit.int .i64 x.f0).wf = true) ∧ (x.f1.size ≤ 9223372036854775807) ∧ (x.f2.size ≤ 9223372036854775807) ∧ (x.f3.size ≤ 9223372036854775807)
set_option maxRecDepth 100000 in
theorem opens111:Opens.Opens Tryz.prog k111 111 GlP23:=⟨by
 intro H enc w base spare held fuel cs x h;obtain ⟨xs,n,_,_,hl,hlen,hf⟩:=DataW.trod_struct Tryz.underlying111 h;have hc:cs.length = 4:=hl.trans (by kernel_rfl);have h0:=hf 0 _ rfl;rw [List.getElem?_eq_getElem (by rw [hlen];first|exact of_decide_eq_true (by kernel_rfl)|decide)] at h0;obtain ⟨a0,k0,g0⟩:=(Opens.opens_int Tryz.underlying3).out h0;have k0:((Kd.int .i64)).K w a0 ((cs.drop 0).take 1):=k0;have h1:=hf 1 _ rfl;rw [List.getElem?_eq_getElem (by rw [hlen];first|exact of_decide_eq_true (by kernel_rfl)|decide)] at h1;obtain ⟨a1,k1,g1⟩:=(Opens.opens_string Tryz.underlying9).out h1;have k1:(Kd.string).K w a1 ((cs.drop 1).take 1):=k1;have h2:=hf 2 _ rfl;rw [List.getElem?_eq_getElem (by rw [hlen];first|exact of_decide_eq_true (by kernel_rfl)|decide)] at h2;obtain ⟨a2,k2,g2⟩:=(Opens.opens_string Tryz.underlying9).out h2;have k2:(Kd.string).K w a2 ((cs.drop 2).take 1):=k2;have h3:=hf 3 _ rfl;rw [List.getElem?_eq_getElem (by rw [hlen];first|exact of_decide_eq_true (by kernel_rfl)|decide)] at h3;obtain ⟨a3,k3,g3⟩:=(Opens.opens_string Tryz.underlying9).out h3;have k3:(Kd.string).K w a3 ((cs.drop 3).take 1):=k3;have q3:(Kd.string).K w a3 (cs.drop 3):=by rw [Opens.seg_last (n:=1) (by omega)] at k3;exact k3
 exact ⟨⟨a0,a1,a2,a3⟩,⟨(cs.drop 0).take 1,cs.drop 1,Opens.seg_split (a:=0) (n:=1) rfl,k0,⟨(cs.drop 1).take 1,cs.drop 2,Opens.seg_split (a:=1) (n:=1) rfl,k1,⟨(cs.drop 2).take 1,cs.drop 3,Opens.seg_split (a:=2) (n:=1) rfl,k2,q3⟩⟩⟩,g0,g1,g2,g3⟩⟩
def GlM22 (x:SlM31):Prop:=((Lit.int .i64 x.f0).wf = true) ∧ ((Lit.int .i64 x.f1).wf = true) ∧ ((Lit.int .i64 x.f2).wf = true) ∧ ((x.f3.length ≤ 9223372036854775807 ∧ ∀ y_ ∈ x.f3,GlS24 y_)) ∧ ((x.f4.length ≤ 9223372036854775807 ∧ ∀ y_ ∈ x.f4,GlU26 y_)) ∧ ((x.f5.length ≤ 9223372036854775807 ∧ ∀ y_ ∈ x.f5,GlT25 y_)) ∧ ((x.f6.length ≤ 9223372036854775807 ∧ ∀ y_ ∈ x.f6,GlP23 y_))
set_option maxRecDepth 100000 in
theorem opens51:Opens.Opens Tryz.prog k51 51 GlM22:=⟨by
 intro H enc w base spare held fuel cs x h;obtain ⟨xs,n,_,_,hl,hlen,hf⟩:=DataW.trod_struct Tryz.underlying51 h;have hc:cs.length = 7:=hl.trans (by kernel_rfl);have h0:=hf 0 _ rfl;rw [List.getElem?_eq_getElem (by rw [hlen];first|exact of_decide_eq_true (by kernel_rfl)|decide)] at h0;obtain ⟨a0,k0,g0⟩:=(Opens.opens_int Tryz.underlying3).out h0;have k0:((Kd.int .i64)).K w a0 ((cs.drop 0).take 1):=k0;have h1:=hf 1 _ rfl;rw [List.getElem?_eq_getElem (by rw [hlen];first|exact of_decide_eq_true (by kernel_rfl)|decide)] at h1;obtain ⟨a1,k1,g1⟩:=(Opens.opens_int Tryz.underlying3).out h1;have k1:((Kd.int .i64)).K w a1 ((cs.drop 1).take 1):=k1;have h2:=hf 2 _ rfl;rw [List.getElem?_eq_getElem (by rw [hlen];first|exact of_decide_eq_true (by kernel_rfl)|decide)] at h2;obtain ⟨a2,k2,g2⟩:=(Opens.opens_int Tryz.underlying3).out h2;have k2:((Kd.int .i64)).K w a2 ((cs.drop 2).take 1):=k2;have h3:=hf 3 _ rfl;rw [List.getElem?_eq_getElem (by rw [hlen];first|exact of_decide_eq_true (by kernel_rfl)|decide)] at h3;obtain ⟨a3,k3,g3⟩:=(Opens.opens_slice Tryz.underlying46 (by kernel_rfl) opens105).out h3;have k3:((Kd.slice 105 k105)).K w a3 ((cs.drop 3).take 1):=k3;have h4:=hf 4 _ rfl;rw [List.getElem?_eq_getElem (by rw [hlen];first|exact of_decide_eq_true (by kernel_rfl)|decide)] at h4;obtain ⟨a4,k4,g4⟩:=(Opens.opens_slice Tryz.underlying47 (by kernel_rfl) opens107).out h4;have k4:((Kd.slice 107 k107)).K w a4 ((cs.drop 4).take 1):=k4;have h5:=hf 5 _ rfl;rw [List.getElem?_eq_getElem (by rw [hlen];first|exact of_decide_eq_true (by kernel_rfl)|decide)] at h5;obtain ⟨a5,k5,g5⟩:=(Opens.opens_slice Tryz.underlying48 (by kernel_rfl) opens109).out h5;have k5:((Kd.slice 109 k109)).K w a5 ((cs.drop 5).take 1):=k5;have h6:=hf 6 _ rfl;rw [List.getElem?_eq_getElem (by rw [hlen];first|exact of_decide_eq_true (by kernel_rfl)|decide)] at h6;obtain ⟨a6,k6,g6⟩:=(Opens.opens_slice Tryz.underlying49 (by kernel_rfl) opens111).out h6;have k6:((Kd.slice 111 k111)).K w a6 ((cs.drop 6).take 1):=k6;have q6:((Kd.slice 111 k111)).K w a6 (cs.drop 6):=by rw [Opens.seg_last (n:=1) (by omega)] at k6;exact k6
 exact ⟨⟨a0,a1,a2,a3,a4,a5,a6⟩,⟨(cs.drop 0).take 1,cs.drop 1,Opens.seg_split (a:=0) (n:=1) rfl,k0,⟨(cs.drop 1).take 1,cs.drop 2,Opens.seg_split (a:=1) (n:=1) rfl,k1,⟨(cs.drop 2).take 1,cs.drop 3,Opens.seg_split (a:=2) (n:=1) rfl,k2,⟨(cs.drop 3).take 1,cs.drop 4,Opens.seg_split (a:=3) (n:=1) rfl,k3,⟨(cs.drop 4).take 1,cs.drop 5,Opens.seg_split (a:=4) (n:=1) rfl,k4,⟨(cs.drop 5).take 1,cs.drop 6,Opens.seg_split (a:=5) (n:=1) rfl,k5,q6⟩⟩⟩⟩⟩⟩,g0,g1,g2,g3,g4,g5,g6⟩⟩
def laws_szSpace.f (a0_0:ByteArray) (a0_1:ByteArray) (a0_2:Int) (a0_3:Bool) (a0_4:Int) (a1:Int):Option (Int):=if (wrap64 (a1 - (a0_0.size:Int))) < 0 then (some (-1)) else (if (wrap64 ((wrap64 (a1 - (a0_0.size:Int))) - (a0_1.size:Int))) < 0 then (some (-1)) else (some (wrap64 ((wrap64 (a1 - (a0_0.size:Int))) - (a0_1.size:Int)))))
set_option maxHeartbeats 40000000 in
set_option maxRecDepth 100000 in
theorem laws_szSpace.calls (a0_0:ByteArray) (a0_1:ByteArray) (a0_2:Int) (a0_3:Bool) (a0_4:Int) (a1:Int) (r:Int) (w:World) (h:laws_szSpace.f a0_0 a0_1 a0_2 a0_3 a0_4 a1 = some r) :
 Calls Tryz.prog 79 #[.agg #[.string a0_0,.string a0_1,.int .i64 a0_2,.bool a0_3,.int .i64 a0_4],.int .i64 a1] w fun e w'=>e = .returned (.int .i64 r) ∧ Below w.heap.size w w':=by
 have hu105:=Tryz.underlying105;have HB:=As0.mk (Below.refl w.heap.size w);have H:(if (wrap64 (a1 - (a0_0.size:Int))) < 0 then (some (-1)) else (if (wrap64 ((wrap64 (a1 - (a0_0.size:Int))) - (a0_1.size:Int))) < 0 then (some (-1)) else (some (wrap64 ((wrap64 (a1 - (a0_0.size:Int))) - (a0_1.size:Int)))))) = some r:=h;clear h;by_cases c3:(wrap64 (a1 - (a0_0.size:Int))) < 0
 · rw [if_pos c3] at H
   have c3b0:decide ((wrap64 (a1 - (a0_0.size:Int))) < 0) = true:=decide_eq_true c3;clear c3;obtain rfl:=Option.some.inj H
   go_enter Tryz.func79,Tryz.ntmps79
   go_wp2_with (first|((with_reducible refine gate_dst (N:=2) rfl ?_);refine bE 2 #[.string a0_0,.string a0_1,.int .i64 a0_2,.bool a0_3,.int .i64 a0_4] 105 ?_;intro gb254 hg w4 hbox hb;have BK254:=As0.mk (hbox);have GW254:=As0.mk ((by rw [hg];exact (bsz (by repeat (first|(with_reducible first|exact HB.out|apply bal|apply pbN|apply bd1)|exact HB.out))):w.heap.size ≤ gb254));have GE254:=GW254;replace HB:=As0.mk (b3 HB.out hb);clear hb hbox hg;obtain ⟨hcz5_0,hcz5_1,hcz5_2,hcz5_3,hcz5_4⟩:=qc5 BK254.out;obtain ⟨hfz5_0,hfz5_1,hfz5_2,hfz5_3,hfz5_4⟩:=qz5 BK254.out))
   go_ret
   exact ⟨eW,by repeat (first|(with_reducible first|exact HB.out|apply bal|apply pbN|apply bd1|refine bst ?_ GE254.out)|exact HB.out)⟩
 · rw [if_neg c3] at H
   have c3b0:decide ((wrap64 (a1 - (a0_0.size:Int))) < 0) = false:=decide_eq_false c3;clear c3;by_cases c6:(wrap64 ((wrap64 (a1 - (a0_0.size:Int))) - (a0_1.size:Int))) < 0
   · rw [if_pos c6] at H
     have c6b0:decide ((wrap64 ((wrap64 (a1 - (a0_0.size:Int))) - (a0_1.size:Int))) < 0) = true:=decide_eq_true c6;clear c6;obtain rfl:=Option.some.inj H
     go_enter Tryz.func79,Tryz.ntmps79
     go_wp2_with (first|((with_reducible refine gate_dst (N:=2) rfl ?_);refine bE 2 #[.string a0_0,.string a0_1,.int .i64 a0_2,.bool a0_3,.int .i64 a0_4] 105 ?_;intro gb254 hg w7 hbox hb;have BK254:=As0.mk (hbox);have GW254:=As0.mk ((by rw [hg];exact (bsz (by repeat (first|(with_reducible first|exact HB.out|apply bal|apply pbN|apply bd1)|exact HB.out))):w.heap.size ≤ gb254));have GE254:=GW254;replace HB:=As0.mk (b3 HB.out hb);clear hb hbox hg;obtain ⟨hcz8_0,hcz8_1,hcz8_2,hcz8_3,hcz8_4⟩:=qc5 BK254.out;obtain ⟨hfz8_0,hfz8_1,hfz8_2,hfz8_3,hfz8_4⟩:=qz5 BK254.out))
     go_ret
     exact ⟨eW,by repeat (first|(with_reducible first|exact HB.out|apply bal|apply pbN|apply bd1|refine bst ?_ GE254.out)|exact HB.out)⟩
   · rw [if_neg c6] at H
     have c6b0:decide ((wrap64 ((wrap64 (a1 - (a0_0.size:Int))) - (a0_1.size:Int))) < 0) = false:=decide_eq_false c6;clear c6;obtain rfl:=Option.some.inj H
     go_enter Tryz.func79,Tryz.ntmps79
     go_wp2_with (first|((with_reducible refine gate_dst (N:=2) rfl ?_);refine bE 2 #[.string a0_0,.string a0_1,.int .i64 a0_2,.bool a0_3,.int .i64 a0_4] 105 ?_;intro gb254 hg w9 hbox hb;have BK254:=As0.mk (hbox);have GW254:=As0.mk ((by rw [hg];exact (bsz (by repeat (first|(with_reducible first|exact HB.out|apply bal|apply pbN|apply bd1)|exact HB.out))):w.heap.size ≤ gb254));have GE254:=GW254;replace HB:=As0.mk (b3 HB.out hb);clear hb hbox hg;obtain ⟨hcz10_0,hcz10_1,hcz10_2,hcz10_3,hcz10_4⟩:=qc5 BK254.out;obtain ⟨hfz10_0,hfz10_1,hfz10_2,hfz10_3,hfz10_4⟩:=qz5 BK254.out))
     go_ret
     exact ⟨eW,by repeat (first|(with_reducible first|exact HB.out|apply bal|apply pbN|apply bd1|refine bst ?_ GE254.out)|exact HB.out)⟩
def laws_szSpaceS.l0:Nat → List (SlS33) → Int → Int → Option (Int)
 |0,_,_,_=>none
 |k + 1,x0,x1,x5=>if x5 < (x0.length:Int) then (if 0 ≤ x5 then ((laws_szSpace.f ((rlS41 x0 x5).f0) ((rlS41 x0 x5).f1) ((rlS41 x0 x5).f2) ((rlS41 x0 x5).f3) ((rlS41 x0 x5).f4) x1).bind fun t256=>(if t256 < 0 then (some (-1)) else (laws_szSpaceS.l0 k x0 t256 (wrap64 (x5 + 1))))) else (none)) else (some x1)
def laws_szSpaceS.f (k:Nat) (l0:List (SlS33)) (a1:Int):Option (Int):=if (wrap64 (a1 - (l0.length:Int))) < 0 then (some (-1)) else (laws_szSpaceS.l0 k l0 (wrap64 (a1 - (l0.length:Int))) 0)
set_option maxHeartbeats 40000000 in
set_option maxRecDepth 100000 in
theorem laws_szSpaceS.calls (k:Nat) (A0:Option Addr) (c0:Nat) (l0:List (SlS33)) (a1:Int) (r:Int) (w:World) (hr0:Kd.C k105 w A0 l0.length l0) (hc0:l0.length ≤ c0) (h:laws_szSpaceS.f k l0 a1 = some r) :
 Calls Tryz.prog 43 #[.slice A0 l0.length c0,.int .i64 a1] w fun e w'=>e = .returned (.int .i64 r) ∧ Below w.heap.size w w':=by
 have hu105:=Tryz.underlying105;have HR0:=As0.mk hr0;have HC0:=As0.mk hc0;clear hr0 hc0;have HB:=As0.mk (Below.refl w.heap.size w);have H:(if (wrap64 (a1 - (l0.length:Int))) < 0 then (some (-1)) else (laws_szSpaceS.l0 k l0 (wrap64 (a1 - (l0.length:Int))) 0)) = some r:=h;clear h;by_cases c3:(wrap64 (a1 - (l0.length:Int))) < 0
 · rw [if_pos c3] at H
   have c3b0:decide ((wrap64 (a1 - (l0.length:Int))) < 0) = true:=decide_eq_true c3;clear c3;obtain rfl:=Option.some.inj H
   go_enter Tryz.func43,Tryz.ntmps43
   go_wp2
   go_ret
   exact ⟨eW,by repeat (first|(with_reducible first|exact HB.out|apply bal|apply pbN|apply bd1)|exact HB.out)⟩
 · rw [if_neg c3] at H
   have c3b0:decide ((wrap64 (a1 - (l0.length:Int))) < 0) = false:=decide_eq_false c3;clear c3;have H':=As0.mk H;clear H
   go_enter Tryz.func43,Tryz.ntmps43
   go_wp2
   show _;go_loopg [1,5] k (fun kq v1 v5 w'=>∃ (x1_1:Int) (x5_1:Int),v1 = .int .i64 x1_1 ∧ v5 = .int .i64 x5_1 ∧ As0 (laws_szSpaceS.l0 kq l0 x1_1 x5_1 = some r) ∧ As0 (kq ≤ k) ∧ As0 (Below w.heap.size w w'))
   case atStart=>exact ⟨(wrap64 (a1 - (l0.length:Int))),(0),(by first|rfl|(simp;done)|(simp [*];done)),(by first|rfl|(simp;done)|(simp [*];done)),H',⟨Nat.le_refl _⟩,⟨by repeat (first|(with_reducible first|exact HB.out|apply bal|apply pbN|apply bd1)|exact HB.out)⟩⟩
   case round=>
    clear H'
    try clear p2
    try clear c3
    try clear c3b0
    obtain ⟨x1_1,x5_1,rfl,rfl,HA,HK1,HB⟩:=hrel
    cases gk with
    |zero=>exact absurd HA.out (by simp [laws_szSpaceS.l0])
    |succ k1=>
     have H:=HA.out;clear HA;simp only [laws_szSpaceS.l0] at H;by_cases c4:x5_1 < (l0.length:Int)
     · rw [if_pos c4] at H
       have c4b0:decide (x5_1 < (l0.length:Int)) = true:=decide_eq_true c4;clear c4;by_cases c5:0 ≤ x5_1
       · rw [if_pos c5] at H
         have c5b0:decide (0 ≤ x5_1) = true:=decide_eq_true c5;clear c5;replace H:=Option.bind_eq_some_iff.mp H;obtain ⟨t256,A60,H⟩:=H;(try dsimp only at H);have A6:=As0.mk A60;clear A60;by_cases c7:t256 < 0
         · rw [if_pos c7] at H
           have c7b0:decide (t256 < 0) = true:=decide_eq_true c7;clear c7;obtain rfl:=Option.some.inj H;have p255:0 ≤ (x5_1:Int):=odt;have q255:x5_1 < (l0.length:Int):=odt;obtain ⟨ad255,e255,hx255_0,hx255_1,hx255_2,hx255_3,hx255_4⟩:=at_T105 HR0.out x5_1 p255 q255
           cases e255
           replace hx255_0:=bx HB.out rfl hx255_0;replace hx255_1:=bx HB.out rfl hx255_1;replace hx255_2:=bx HB.out rfl hx255_2;replace hx255_3:=bx HB.out rfl hx255_3;replace hx255_4:=bx HB.out rfl hx255_4;replace p255:=eq_true p255;replace q255:=eq_true q255
           go_wp2_with (first|((with_reducible refine gca (f:=79) rfl ?_);refine gL (some 23) Tryz.func79 #[.agg #[.string ((rlS41 l0 x5_1).f0),.string ((rlS41 l0 x5_1).f1),.int .i64 ((rlS41 l0 x5_1).f2),.bool ((rlS41 l0 x5_1).f3),.int .i64 ((rlS41 l0 x5_1).f4)],.int .i64 x1_1] ?_;(with_reducible refine (laws_szSpace.calls ((rlS41 l0 x5_1).f0) ((rlS41 l0 x5_1).f1) ((rlS41 l0 x5_1).f2) ((rlS41 l0 x5_1).f3) ((rlS41 l0 x5_1).f4) x1_1 t256 _ A6.out).mono ?_);rintro e w8 ⟨rfl,hb⟩;refine ⟨_,rfl,?_⟩;replace HB:=As0.mk (b3 HB.out hb);clear hb))
           go_ret
           exact ⟨eW,by repeat (first|(with_reducible first|exact HB.out|apply bal|apply pbN|apply bd1)|exact HB.out)⟩
         · rw [if_neg c7] at H
           have c7b0:decide (t256 < 0) = false:=decide_eq_false c7;clear c7;have H':=As0.mk H;clear H;have p255:0 ≤ (x5_1:Int):=odt;have q255:x5_1 < (l0.length:Int):=odt;obtain ⟨ad255,e255,hx255_0,hx255_1,hx255_2,hx255_3,hx255_4⟩:=at_T105 HR0.out x5_1 p255 q255
           cases e255
           replace hx255_0:=bx HB.out rfl hx255_0;replace hx255_1:=bx HB.out rfl hx255_1;replace hx255_2:=bx HB.out rfl hx255_2;replace hx255_3:=bx HB.out rfl hx255_3;replace hx255_4:=bx HB.out rfl hx255_4;replace p255:=eq_true p255;replace q255:=eq_true q255
           go_wp2_with (first|((with_reducible refine gca (f:=79) rfl ?_);refine gL (some 23) Tryz.func79 #[.agg #[.string ((rlS41 l0 x5_1).f0),.string ((rlS41 l0 x5_1).f1),.int .i64 ((rlS41 l0 x5_1).f2),.bool ((rlS41 l0 x5_1).f3),.int .i64 ((rlS41 l0 x5_1).f4)],.int .i64 x1_1] ?_;(with_reducible refine (laws_szSpace.calls ((rlS41 l0 x5_1).f0) ((rlS41 l0 x5_1).f1) ((rlS41 l0 x5_1).f2) ((rlS41 l0 x5_1).f3) ((rlS41 l0 x5_1).f4) x1_1 t256 _ A6.out).mono ?_);rintro e w9 ⟨rfl,hb⟩;refine ⟨_,rfl,?_⟩;replace HB:=As0.mk (b3 HB.out hb);clear hb))
           show _;go_roundg k1
           case measure=>have:=HK1.out;omega
           case rel=>exact ⟨(t256),(wrap64 (x5_1 + 1)),(by first|rfl|(simp;done)|(simp [*];done)),(by first|rfl|(simp;done)|(simp [*];done)),H',⟨by have:=HK1.out;omega⟩,⟨by repeat (first|(with_reducible first|exact HB.out|apply bal|apply pbN|apply bd1)|exact HB.out)⟩⟩
       · rw [if_neg c5] at H
         exact absurd H (by simp)
     · rw [if_neg c4] at H
       have c4b0:decide (x5_1 < (l0.length:Int)) = false:=decide_eq_false c4;clear c4;obtain rfl:=Option.some.inj H
       go_wp2
       go_ret
       exact ⟨eW,by repeat (first|(with_reducible first|exact HB.out|apply bal|apply pbN|apply bd1)|exact HB.out)⟩
def laws_szUse.f (a0_0:ByteArray) (a0_1:Int) (a1:Int):Option (Int):=if (wrap64 (a1 - (a0_0.size:Int))) < 0 then (some (-1)) else (some (wrap64 (a1 - (a0_0.size:Int))))
set_option maxHeartbeats 40000000 in
set_option maxRecDepth 100000 in
theorem laws_szUse.calls (a0_0:ByteArray) (a0_1:Int) (a1:Int) (r:Int) (w:World) (h:laws_szUse.f a0_0 a0_1 a1 = some r) :
 Calls Tryz.prog 80 #[.agg #[.string a0_0,.int .i64 a0_1],.int .i64 a1] w fun e w'=>e = .returned (.int .i64 r) ∧ Below w.heap.size w w':=by
 have hu107:=Tryz.underlying107;have HB:=As0.mk (Below.refl w.heap.size w);have H:(if (wrap64 (a1 - (a0_0.size:Int))) < 0 then (some (-1)) else (some (wrap64 (a1 - (a0_0.size:Int))))) = some r:=h;clear h;by_cases c3:(wrap64 (a1 - (a0_0.size:Int))) < 0
 · rw [if_pos c3] at H
   have c3b0:decide ((wrap64 (a1 - (a0_0.size:Int))) < 0) = true:=decide_eq_true c3;clear c3;obtain rfl:=Option.some.inj H
   go_enter Tryz.func80,Tryz.ntmps80
   go_wp2_with (first|((with_reducible refine gate_dst (N:=2) rfl ?_);refine bE 2 #[.string a0_0,.int .i64 a0_1] 107 ?_;intro gb257 hg w4 hbox hb;have BK257:=As0.mk (hbox);have GW257:=As0.mk ((by rw [hg];exact (bsz (by repeat (first|(with_reducible first|exact HB.out|apply bal|apply pbN|apply bd1)|exact HB.out))):w.heap.size ≤ gb257));have GE257:=GW257;replace HB:=As0.mk (b3 HB.out hb);clear hb hbox hg;obtain ⟨hcz5_0,hcz5_1⟩:=qc2 BK257.out;obtain ⟨hfz5_0,hfz5_1⟩:=qz2 BK257.out))
   go_ret
   exact ⟨eW,by repeat (first|(with_reducible first|exact HB.out|apply bal|apply pbN|apply bd1|refine bst ?_ GE257.out)|exact HB.out)⟩
 · rw [if_neg c3] at H
   have c3b0:decide ((wrap64 (a1 - (a0_0.size:Int))) < 0) = false:=decide_eq_false c3;clear c3;obtain rfl:=Option.some.inj H
   go_enter Tryz.func80,Tryz.ntmps80
   go_wp2_with (first|((with_reducible refine gate_dst (N:=2) rfl ?_);refine bE 2 #[.string a0_0,.int .i64 a0_1] 107 ?_;intro gb257 hg w6 hbox hb;have BK257:=As0.mk (hbox);have GW257:=As0.mk ((by rw [hg];exact (bsz (by repeat (first|(with_reducible first|exact HB.out|apply bal|apply pbN|apply bd1)|exact HB.out))):w.heap.size ≤ gb257));have GE257:=GW257;replace HB:=As0.mk (b3 HB.out hb);clear hb hbox hg;obtain ⟨hcz7_0,hcz7_1⟩:=qc2 BK257.out;obtain ⟨hfz7_0,hfz7_1⟩:=qz2 BK257.out))
   go_ret
   exact ⟨eW,by repeat (first|(with_reducible first|exact HB.out|apply bal|apply pbN|apply bd1|refine bst ?_ GE257.out)|exact HB.out)⟩
def laws_szUseS.l0:Nat → List (SlU35) → Int → Int → Option (Int)
 |0,_,_,_=>none
 |k + 1,x0,x1,x5=>if x5 < (x0.length:Int) then (if 0 ≤ x5 then ((laws_szUse.f ((rlU43 x0 x5).f0) ((rlU43 x0 x5).f1) x1).bind fun t259=>(if t259 < 0 then (some (-1)) else (laws_szUseS.l0 k x0 t259 (wrap64 (x5 + 1))))) else (none)) else (some x1)
def laws_szUseS.f (k:Nat) (l0:List (SlU35)) (a1:Int):Option (Int):=if (wrap64 (a1 - (l0.length:Int))) < 0 then (some (-1)) else (laws_szUseS.l0 k l0 (wrap64 (a1 - (l0.length:Int))) 0)
set_option maxHeartbeats 40000000 in
set_option maxRecDepth 100000 in
theorem laws_szUseS.calls (k:Nat) (A0:Option Addr) (c0:Nat) (l0:List (SlU35)) (a1:Int) (r:Int) (w:World) (hr0:Kd.C k107 w A0 l0.length l0) (hc0:l0.length ≤ c0) (h:laws_szUseS.f k l0 a1 = some r) :
 Calls Tryz.prog 44 #[.slice A0 l0.length c0,.int .i64 a1] w fun e w'=>e = .returned (.int .i64 r) ∧ Below w.heap.size w w':=by
 have hu107:=Tryz.underlying107;have HR0:=As0.mk hr0;have HC0:=As0.mk hc0;clear hr0 hc0;have HB:=As0.mk (Below.refl w.heap.size w);have H:(if (wrap64 (a1 - (l0.length:Int))) < 0 then (some (-1)) else (laws_szUseS.l0 k l0 (wrap64 (a1 - (l0.length:Int))) 0)) = some r:=h;clear h;by_cases c3:(wrap64 (a1 - (l0.length:Int))) < 0
 · rw [if_pos c3] at H
   have c3b0:decide ((wrap64 (a1 - (l0.length:Int))) < 0) = true:=decide_eq_true c3;clear c3;obtain rfl:=Option.some.inj H
   go_enter Tryz.func44,Tryz.ntmps44
   go_wp2
   go_ret
   exact ⟨eW,by repeat (first|(with_reducible first|exact HB.out|apply bal|apply pbN|apply bd1)|exact HB.out)⟩
 · rw [if_neg c3] at H
   have c3b0:decide ((wrap64 (a1 - (l0.length:Int))) < 0) = false:=decide_eq_false c3;clear c3;have H':=As0.mk H;clear H
   go_enter Tryz.func44,Tryz.ntmps44
   go_wp2
   show _;go_loopg [1,5] k (fun kq v1 v5 w'=>∃ (x1_1:Int) (x5_1:Int),v1 = .int .i64 x1_1 ∧ v5 = .int .i64 x5_1 ∧ As0 (laws_szUseS.l0 kq l0 x1_1 x5_1 = some r) ∧ As0 (kq ≤ k) ∧ As0 (Below w.heap.size w w'))
   case atStart=>exact ⟨(wrap64 (a1 - (l0.length:Int))),(0),(by first|rfl|(simp;done)|(simp [*];done)),(by first|rfl|(simp;done)|(simp [*];done)),H',⟨Nat.le_refl _⟩,⟨by repeat (first|(with_reducible first|exact HB.out|apply bal|apply pbN|apply bd1)|exact HB.out)⟩⟩
   case round=>
    clear H'
    try clear p2
    try clear c3
    try clear c3b0
    obtain ⟨x1_1,x5_1,rfl,rfl,HA,HK1,HB⟩:=hrel
    cases gk with
    |zero=>exact absurd HA.out (by simp [laws_szUseS.l0])
    |succ k1=>
     have H:=HA.out;clear HA;simp only [laws_szUseS.l0] at H;by_cases c4:x5_1 < (l0.length:Int)
     · rw [if_pos c4] at H
       have c4b0:decide (x5_1 < (l0.length:Int)) = true:=decide_eq_true c4;clear c4;by_cases c5:0 ≤ x5_1
       · rw [if_pos c5] at H
         have c5b0:decide (0 ≤ x5_1) = true:=decide_eq_true c5;clear c5;replace H:=Option.bind_eq_some_iff.mp H;obtain ⟨t259,A60,H⟩:=H;(try dsimp only at H);have A6:=As0.mk A60;clear A60;by_cases c7:t259 < 0
         · rw [if_pos c7] at H
           have c7b0:decide (t259 < 0) = true:=decide_eq_true c7;clear c7;obtain rfl:=Option.some.inj H;have p258:0 ≤ (x5_1:Int):=odt;have q258:x5_1 < (l0.length:Int):=odt;obtain ⟨ad258,e258,hx258_0,hx258_1⟩:=at_T107 HR0.out x5_1 p258 q258
           cases e258
           replace hx258_0:=bx HB.out rfl hx258_0;replace hx258_1:=bx HB.out rfl hx258_1;replace p258:=eq_true p258;replace q258:=eq_true q258
           go_wp2_with (first|((with_reducible refine gca (f:=80) rfl ?_);refine gL (some 23) Tryz.func80 #[.agg #[.string ((rlU43 l0 x5_1).f0),.int .i64 ((rlU43 l0 x5_1).f1)],.int .i64 x1_1] ?_;(with_reducible refine (laws_szUse.calls ((rlU43 l0 x5_1).f0) ((rlU43 l0 x5_1).f1) x1_1 t259 _ A6.out).mono ?_);rintro e w8 ⟨rfl,hb⟩;refine ⟨_,rfl,?_⟩;replace HB:=As0.mk (b3 HB.out hb);clear hb))
           go_ret
           exact ⟨eW,by repeat (first|(with_reducible first|exact HB.out|apply bal|apply pbN|apply bd1)|exact HB.out)⟩
         · rw [if_neg c7] at H
           have c7b0:decide (t259 < 0) = false:=decide_eq_false c7;clear c7;have H':=As0.mk H;clear H;have p258:0 ≤ (x5_1:Int):=odt;have q258:x5_1 < (l0.length:Int):=odt;obtain ⟨ad258,e258,hx258_0,hx258_1⟩:=at_T107 HR0.out x5_1 p258 q258
           cases e258
           replace hx258_0:=bx HB.out rfl hx258_0;replace hx258_1:=bx HB.out rfl hx258_1;replace p258:=eq_true p258;replace q258:=eq_true q258
           go_wp2_with (first|((with_reducible refine gca (f:=80) rfl ?_);refine gL (some 23) Tryz.func80 #[.agg #[.string ((rlU43 l0 x5_1).f0),.int .i64 ((rlU43 l0 x5_1).f1)],.int .i64 x1_1] ?_;(with_reducible refine (laws_szUse.calls ((rlU43 l0 x5_1).f0) ((rlU43 l0 x5_1).f1) x1_1 t259 _ A6.out).mono ?_);rintro e w9 ⟨rfl,hb⟩;refine ⟨_,rfl,?_⟩;replace HB:=As0.mk (b3 HB.out hb);clear hb))
           show _;go_roundg k1
           case measure=>have:=HK1.out;omega
           case rel=>exact ⟨(t259),(wrap64 (x5_1 + 1)),(by first|rfl|(simp;done)|(simp [*];done)),(by first|rfl|(simp;done)|(simp [*];done)),H',⟨by have:=HK1.out;omega⟩,⟨by repeat (first|(with_reducible first|exact HB.out|apply bal|apply pbN|apply bd1)|exact HB.out)⟩⟩
       · rw [if_neg c5] at H
         exact absurd H (by simp)
     · rw [if_neg c4] at H
       have c4b0:decide (x5_1 < (l0.length:Int)) = false:=decide_eq_false c4;clear c4;obtain rfl:=Option.some.inj H
       go_wp2
       go_ret
       exact ⟨eW,by repeat (first|(with_reducible first|exact HB.out|apply bal|apply pbN|apply bd1)|exact HB.out)⟩
def laws_szStringS.l0:Nat → List ByteArray → Int → Int → Option (Int)
 |0,_,_,_=>none
 |k + 1,x0,x1,x5=>if x5 < (x0.length:Int) then (if 0 ≤ x5 then (if (wrap64 (x1 - ((rdOf ByteArray.empty x0 x5).size:Int))) < 0 then (some (-1)) else (laws_szStringS.l0 k x0 (wrap64 (x1 - ((rdOf ByteArray.empty x0 x5).size:Int))) (wrap64 (x5 + 1)))) else (none)) else (some x1)
def laws_szStringS.f (k:Nat) (l0:List ByteArray) (a1:Int):Option (Int):=if (wrap64 (a1 - (l0.length:Int))) < 0 then (some (-1)) else (laws_szStringS.l0 k l0 (wrap64 (a1 - (l0.length:Int))) 0)
set_option maxHeartbeats 40000000 in
set_option maxRecDepth 100000 in
theorem laws_szStringS.calls (k:Nat) (A0:Option Addr) (c0:Nat) (l0:List ByteArray) (a1:Int) (r:Int) (w:World) (hr0:Kd.C Kd.string w A0 l0.length l0) (hc0:l0.length ≤ c0) (h:laws_szStringS.f k l0 a1 = some r) :
 Calls Tryz.prog 111 #[.slice A0 l0.length c0,.int .i64 a1] w fun e w'=>e = .returned (.int .i64 r) ∧ Drawn0 w w':=by
 have HR0:=As0.mk hr0;have HC0:=As0.mk hc0;clear hr0 hc0;have H:(if (wrap64 (a1 - (l0.length:Int))) < 0 then (some (-1)) else (laws_szStringS.l0 k l0 (wrap64 (a1 - (l0.length:Int))) 0)) = some r:=h;clear h;by_cases c3:(wrap64 (a1 - (l0.length:Int))) < 0
 · rw [if_pos c3] at H
   have c3b0:decide ((wrap64 (a1 - (l0.length:Int))) < 0) = true:=decide_eq_true c3;clear c3;obtain rfl:=Option.some.inj H
   go_enter Tryz.func111,Tryz.ntmps111
   go_wp2
   go_ret
   exact ⟨by first|rfl|(simp;done)|(simp [*];done),by repeat (first|exact Drawn0.refl _|apply Drawn0.step)⟩
 · rw [if_neg c3] at H
   have c3b0:decide ((wrap64 (a1 - (l0.length:Int))) < 0) = false:=decide_eq_false c3;clear c3;have H':=As0.mk H;clear H
   go_enter Tryz.func111,Tryz.ntmps111
   go_wp2
   show _;go_loopg [1,5] k (fun kq v1 v5 w'=>∃ (x1_1:Int) (x5_1:Int),v1 = .int .i64 x1_1 ∧ v5 = .int .i64 x5_1 ∧ As0 (laws_szStringS.l0 kq l0 x1_1 x5_1 = some r) ∧ As0 (kq ≤ k) ∧ Drawn0 w w')
   case atStart=>exact ⟨(wrap64 (a1 - (l0.length:Int))),(0),(by first|rfl|(simp;done)|(simp [*];done)),(by first|rfl|(simp;done)|(simp [*];done)),H',⟨Nat.le_refl _⟩,by repeat (first|exact Drawn0.refl _|apply Drawn0.step)⟩
   case round=>
    clear H'
    try clear c1
    try clear p2
    try clear c3
    try clear c3b0
    obtain ⟨x1_1,x5_1,rfl,rfl,HA,HK1,⟨m1,rfl⟩⟩:=hrel
    cases gk with
    |zero=>exact absurd HA.out (by simp [laws_szStringS.l0])
    |succ k1=>
     have H:=HA.out;clear HA;simp only [laws_szStringS.l0] at H;by_cases c4:x5_1 < (l0.length:Int)
     · rw [if_pos c4] at H
       have c4b0:decide (x5_1 < (l0.length:Int)) = true:=decide_eq_true c4;clear c4;by_cases c5:0 ≤ x5_1
       · rw [if_pos c5] at H
         have c5b0:decide (0 ≤ x5_1) = true:=decide_eq_true c5;clear c5;by_cases c6:(wrap64 (x1_1 - ((rdOf ByteArray.empty l0 x5_1).size:Int))) < 0
         · rw [if_pos c6] at H
           have c6b0:decide ((wrap64 (x1_1 - ((rdOf ByteArray.empty l0 x5_1).size:Int))) < 0) = true:=decide_eq_true c6;clear c6;obtain rfl:=Option.some.inj H;have p260:0 ≤ (x5_1:Int):=odt;have q260:x5_1 < (l0.length:Int):=odt;obtain ⟨ad260,e260,hx260_0⟩:=Kd.at_string HR0.out x5_1 p260 q260
           cases e260
           replace p260:=eq_true p260;replace q260:=eq_true q260
           go_wp2
           go_ret
           exact ⟨by first|rfl|(simp;done)|(simp [*];done),by repeat (first|exact Drawn0.refl _|apply Drawn0.step)⟩
         · rw [if_neg c6] at H
           have c6b0:decide ((wrap64 (x1_1 - ((rdOf ByteArray.empty l0 x5_1).size:Int))) < 0) = false:=decide_eq_false c6;clear c6;have H':=As0.mk H;clear H;have p260:0 ≤ (x5_1:Int):=odt;have q260:x5_1 < (l0.length:Int):=odt;obtain ⟨ad260,e260,hx260_0⟩:=Kd.at_string HR0.out x5_1 p260 q260
           cases e260
           replace p260:=eq_true p260;replace q260:=eq_true q260
           go_wp2
           show _;go_roundg k1
           case measure=>have:=HK1.out;omega
           case rel=>exact ⟨(wrap64 (x1_1 - ((rdOf ByteArray.empty l0 x5_1).size:Int))),(wrap64 (x5_1 + 1)),(by first|rfl|(simp;done)|(simp [*];done)),(by first|rfl|(simp;done)|(simp [*];done)),H',⟨by have:=HK1.out;omega⟩,by repeat (first|exact Drawn0.refl _|apply Drawn0.step)⟩
       · rw [if_neg c5] at H
         exact absurd H (by simp)
     · rw [if_neg c4] at H
       have c4b0:decide (x5_1 < (l0.length:Int)) = false:=decide_eq_false c4;clear c4;obtain rfl:=Option.some.inj H
       go_wp2
       go_ret
       exact ⟨by first|rfl|(simp;done)|(simp [*];done),by repeat (first|exact Drawn0.refl _|apply Drawn0.step)⟩
def laws_szThing.f (k:Nat) (a0_0:ByteArray) (a0_1:ByteArray) (a0_2:Int) (a0_3:Int) (a0_4:Bool) (l0_5:List ByteArray) (a0_6:ByteArray) (a1:Int):Option (Int):=if (wrap64 (a1 - (a0_0.size:Int))) < 0 then (some (-1)) else (if (wrap64 ((wrap64 (a1 - (a0_0.size:Int))) - (a0_1.size:Int))) < 0 then (some (-1)) else ((laws_szStringS.f k l0_5 (wrap64 ((wrap64 (a1 - (a0_0.size:Int))) - (a0_1.size:Int)))).bind fun t262=>(if t262 < 0 then (some (-1)) else (if (wrap64 (t262 - (a0_6.size:Int))) < 0 then (some (-1)) else (some (wrap64 (t262 - (a0_6.size:Int))))))))
set_option maxHeartbeats 40000000 in
set_option maxRecDepth 100000 in
theorem laws_szThing.calls (k:Nat) (a0_0:ByteArray) (a0_1:ByteArray) (a0_2:Int) (a0_3:Int) (a0_4:Bool) (A0_5:Option Addr) (c0_5:Nat) (l0_5:List ByteArray) (a0_6:ByteArray) (a1:Int) (r:Int) (w:World) (hr0_5:Kd.C Kd.string w A0_5 l0_5.length l0_5) (hc0_5:l0_5.length ≤ c0_5) (h:laws_szThing.f k a0_0 a0_1 a0_2 a0_3 a0_4 l0_5 a0_6 a1 = some r) :
 Calls Tryz.prog 81 #[.agg #[.string a0_0,.string a0_1,.int .i64 a0_2,.int .i64 a0_3,.bool a0_4,.slice A0_5 l0_5.length c0_5,.string a0_6],.int .i64 a1] w fun e w'=>e = .returned (.int .i64 r) ∧ Below w.heap.size w w':=by
 have hu109:=Tryz.underlying109;have HR0_5:=As0.mk hr0_5;have HC0_5:=As0.mk hc0_5;clear hr0_5 hc0_5;have HB:=As0.mk (Below.refl w.heap.size w);have H:(if (wrap64 (a1 - (a0_0.size:Int))) < 0 then (some (-1)) else (if (wrap64 ((wrap64 (a1 - (a0_0.size:Int))) - (a0_1.size:Int))) < 0 then (some (-1)) else ((laws_szStringS.f k l0_5 (wrap64 ((wrap64 (a1 - (a0_0.size:Int))) - (a0_1.size:Int)))).bind fun t262=>(if t262 < 0 then (some (-1)) else (if (wrap64 (t262 - (a0_6.size:Int))) < 0 then (some (-1)) else (some (wrap64 (t262 - (a0_6.size:Int))))))))) = some r:=h;clear h;by_cases c3:(wrap64 (a1 - (a0_0.size:Int))) < 0
 · rw [if_pos c3] at H
   have c3b0:decide ((wrap64 (a1 - (a0_0.size:Int))) < 0) = true:=decide_eq_true c3;clear c3;obtain rfl:=Option.some.inj H
   go_enter Tryz.func81,Tryz.ntmps81
   go_wp2_with (first|((with_reducible refine gate_dst (N:=2) rfl ?_);refine bE 2 #[.string a0_0,.string a0_1,.int .i64 a0_2,.int .i64 a0_3,.bool a0_4,.slice A0_5 l0_5.length c0_5,.string a0_6] 109 ?_;intro gb261 hg w4 hbox hb;have BK261:=As0.mk (hbox);have GW261:=As0.mk ((by rw [hg];exact (bsz (by repeat (first|(with_reducible first|exact HB.out|apply bal|apply pbN|apply bd1)|exact HB.out))):w.heap.size ≤ gb261));have GE261:=GW261;replace HB:=As0.mk (b3 HB.out hb);clear hb hbox hg;obtain ⟨hcz5_0,hcz5_1,hcz5_2,hcz5_3,hcz5_4,hcz5_5,hcz5_6⟩:=qc7 BK261.out;obtain ⟨hfz5_0,hfz5_1,hfz5_2,hfz5_3,hfz5_4,hfz5_5,hfz5_6⟩:=qz7 BK261.out))
   go_ret
   exact ⟨eW,by repeat (first|(with_reducible first|exact HB.out|apply bal|apply pbN|apply bd1|refine bst ?_ GE261.out)|exact HB.out)⟩
 · rw [if_neg c3] at H
   have c3b0:decide ((wrap64 (a1 - (a0_0.size:Int))) < 0) = false:=decide_eq_false c3;clear c3;by_cases c6:(wrap64 ((wrap64 (a1 - (a0_0.size:Int))) - (a0_1.size:Int))) < 0
   · rw [if_pos c6] at H
     have c6b0:decide ((wrap64 ((wrap64 (a1 - (a0_0.size:Int))) - (a0_1.size:Int))) < 0) = true:=decide_eq_true c6;clear c6;obtain rfl:=Option.some.inj H
     go_enter Tryz.func81,Tryz.ntmps81
     go_wp2_with (first|((with_reducible refine gate_dst (N:=2) rfl ?_);refine bE 2 #[.string a0_0,.string a0_1,.int .i64 a0_2,.int .i64 a0_3,.bool a0_4,.slice A0_5 l0_5.length c0_5,.string a0_6] 109 ?_;intro gb261 hg w7 hbox hb;have BK261:=As0.mk (hbox);have GW261:=As0.mk ((by rw [hg];exact (bsz (by repeat (first|(with_reducible first|exact HB.out|apply bal|apply pbN|apply bd1)|exact HB.out))):w.heap.size ≤ gb261));have GE261:=GW261;replace HB:=As0.mk (b3 HB.out hb);clear hb hbox hg;obtain ⟨hcz8_0,hcz8_1,hcz8_2,hcz8_3,hcz8_4,hcz8_5,hcz8_6⟩:=qc7 BK261.out;obtain ⟨hfz8_0,hfz8_1,hfz8_2,hfz8_3,hfz8_4,hfz8_5,hfz8_6⟩:=qz7 BK261.out))
     go_ret
     exact ⟨eW,by repeat (first|(with_reducible first|exact HB.out|apply bal|apply pbN|apply bd1|refine bst ?_ GE261.out)|exact HB.out)⟩
   · rw [if_neg c6] at H
     have c6b0:decide ((wrap64 ((wrap64 (a1 - (a0_0.size:Int))) - (a0_1.size:Int))) < 0) = false:=decide_eq_false c6;clear c6;replace H:=Option.bind_eq_some_iff.mp H;obtain ⟨t262,A90,H⟩:=H;(try dsimp only at H);have A9:=As0.mk A90;clear A90;by_cases c10:t262 < 0
     · rw [if_pos c10] at H
       have c10b0:decide (t262 < 0) = true:=decide_eq_true c10;clear c10;obtain rfl:=Option.some.inj H
       go_enter Tryz.func81,Tryz.ntmps81
       go_wp2_with (first|((with_reducible refine gate_dst (N:=2) rfl ?_);refine bE 2 #[.string a0_0,.string a0_1,.int .i64 a0_2,.int .i64 a0_3,.bool a0_4,.slice A0_5 l0_5.length c0_5,.string a0_6] 109 ?_;intro gb261 hg w11 hbox hb;have BK261:=As0.mk (hbox);have GW261:=As0.mk ((by rw [hg];exact (bsz (by repeat (first|(with_reducible first|exact HB.out|apply bal|apply pbN|apply bd1)|exact HB.out))):w.heap.size ≤ gb261));have GE261:=GW261;replace HB:=As0.mk (b3 HB.out hb);clear hb hbox hg;obtain ⟨hcz12_0,hcz12_1,hcz12_2,hcz12_3,hcz12_4,hcz12_5,hcz12_6⟩:=qc7 BK261.out;obtain ⟨hfz12_0,hfz12_1,hfz12_2,hfz12_3,hfz12_4,hfz12_5,hfz12_6⟩:=qz7 BK261.out)|((with_reducible refine gca (f:=111) rfl ?_);refine gL (some 22) Tryz.func111 #[.slice A0_5 l0_5.length c0_5,.int .i64 (wrap64 ((wrap64 (a1 - (a0_0.size:Int))) - (a0_1.size:Int)))] ?_;(with_reducible refine (laws_szStringS.calls k _ _ l0_5 (wrap64 ((wrap64 (a1 - (a0_0.size:Int))) - (a0_1.size:Int))) t262 _ ?side1 ?side2 A9.out).mono ?_);(case side1=>repeat (first|exact (Kd.C_below HR0_5.out HB.out)|(with_reducible first|refine Kd.C_alloc ?_ _|refine Kd.C_drewN ?_ _|refine Kd.C_drew ?_)));(case side2=>exact HC0_5.out);rintro e w' ⟨rfl,⟨nd,rfl⟩⟩;refine ⟨_,rfl,?_⟩))
       go_ret
       exact ⟨eW,by repeat (first|(with_reducible first|exact HB.out|apply bal|apply pbN|apply bd1|refine bst ?_ GE261.out)|exact HB.out)⟩
     · rw [if_neg c10] at H
       have c10b0:decide (t262 < 0) = false:=decide_eq_false c10;clear c10;by_cases c13:(wrap64 (t262 - (a0_6.size:Int))) < 0
       · rw [if_pos c13] at H
         have c13b0:decide ((wrap64 (t262 - (a0_6.size:Int))) < 0) = true:=decide_eq_true c13;clear c13;obtain rfl:=Option.some.inj H
         go_enter Tryz.func81,Tryz.ntmps81
         go_wp2_with (first|((with_reducible refine gate_dst (N:=2) rfl ?_);refine bE 2 #[.string a0_0,.string a0_1,.int .i64 a0_2,.int .i64 a0_3,.bool a0_4,.slice A0_5 l0_5.length c0_5,.string a0_6] 109 ?_;intro gb261 hg w14 hbox hb;have BK261:=As0.mk (hbox);have GW261:=As0.mk ((by rw [hg];exact (bsz (by repeat (first|(with_reducible first|exact HB.out|apply bal|apply pbN|apply bd1)|exact HB.out))):w.heap.size ≤ gb261));have GE261:=GW261;replace HB:=As0.mk (b3 HB.out hb);clear hb hbox hg;obtain ⟨hcz15_0,hcz15_1,hcz15_2,hcz15_3,hcz15_4,hcz15_5,hcz15_6⟩:=qc7 BK261.out;obtain ⟨hfz15_0,hfz15_1,hfz15_2,hfz15_3,hfz15_4,hfz15_5,hfz15_6⟩:=qz7 BK261.out)|((with_reducible refine gca (f:=111) rfl ?_);refine gL (some 22) Tryz.func111 #[.slice A0_5 l0_5.length c0_5,.int .i64 (wrap64 ((wrap64 (a1 - (a0_0.size:Int))) - (a0_1.size:Int)))] ?_;(with_reducible refine (laws_szStringS.calls k _ _ l0_5 (wrap64 ((wrap64 (a1 - (a0_0.size:Int))) - (a0_1.size:Int))) t262 _ ?side1 ?side2 A9.out).mono ?_);(case side1=>repeat (first|exact (Kd.C_below HR0_5.out HB.out)|(with_reducible first|refine Kd.C_alloc ?_ _|refine Kd.C_drewN ?_ _|refine Kd.C_drew ?_)));(case side2=>exact HC0_5.out);rintro e w' ⟨rfl,⟨nd,rfl⟩⟩;refine ⟨_,rfl,?_⟩))
         go_ret
         exact ⟨eW,by repeat (first|(with_reducible first|exact HB.out|apply bal|apply pbN|apply bd1|refine bst ?_ GE261.out)|exact HB.out)⟩
       · rw [if_neg c13] at H
         have c13b0:decide ((wrap64 (t262 - (a0_6.size:Int))) < 0) = false:=decide_eq_false c13;clear c13;obtain rfl:=Option.some.inj H
         go_enter Tryz.func81,Tryz.ntmps81
         go_wp2_with (first|((with_reducible refine gate_dst (N:=2) rfl ?_);refine bE 2 #[.string a0_0,.string a0_1,.int .i64 a0_2,.int .i64 a0_3,.bool a0_4,.slice A0_5 l0_5.length c0_5,.string a0_6] 109 ?_;intro gb261 hg w16 hbox hb;have BK261:=As0.mk (hbox);have GW261:=As0.mk ((by rw [hg];exact (bsz (by repeat (first|(with_reducible first|exact HB.out|apply bal|apply pbN|apply bd1)|exact HB.out))):w.heap.size ≤ gb261));have GE261:=GW261;replace HB:=As0.mk (b3 HB.out hb);clear hb hbox hg;obtain ⟨hcz17_0,hcz17_1,hcz17_2,hcz17_3,hcz17_4,hcz17_5,hcz17_6⟩:=qc7 BK261.out;obtain ⟨hfz17_0,hfz17_1,hfz17_2,hfz17_3,hfz17_4,hfz17_5,hfz17_6⟩:=qz7 BK261.out)|((with_reducible refine gca (f:=111) rfl ?_);refine gL (some 22) Tryz.func111 #[.slice A0_5 l0_5.length c0_5,.int .i64 (wrap64 ((wrap64 (a1 - (a0_0.size:Int))) - (a0_1.size:Int)))] ?_;(with_reducible refine (laws_szStringS.calls k _ _ l0_5 (wrap64 ((wrap64 (a1 - (a0_0.size:Int))) - (a0_1.size:Int))) t262 _ ?side1 ?side2 A9.out).mono ?_);(case side1=>repeat (first|exact (Kd.C_below HR0_5.out HB.out)|(with_reducible first|refine Kd.C_alloc ?_ _|refine Kd.C_drewN ?_ _|refine Kd.C_drew ?_)));(case side2=>exact HC0_5.out);rintro e w' ⟨rfl,⟨nd,rfl⟩⟩;refine ⟨_,rfl,?_⟩))
         go_ret
         exact ⟨eW,by repeat (first|(with_reducible first|exact HB.out|apply bal|apply pbN|apply bd1|refine bst ?_ GE261.out)|exact HB.out)⟩
def laws_szThingS.l0:Nat → List (SlT34) → Int → Int → Option (Int)
 |0,_,_,_=>none
 |k + 1,x0,x1,x5=>if x5 < (x0.length:Int) then (if 0 ≤ x5 then ((laws_szThing.f k ((rlT42 x0 x5).f0) ((rlT42 x0 x5).f1) ((rlT42 x0 x5).f2) ((rlT42 x0 x5).f3) ((rlT42 x0 x5).f4) ((rlT42 x0 x5).f5) ((rlT42 x0 x5).f6) x1).bind fun t264=>(if t264 < 0 then (some (-1)) else (laws_szThingS.l0 k x0 t264 (wrap64 (x5 + 1))))) else (none)) else (some x1)
def laws_szThingS.f (k:Nat) (l0:List (SlT34)) (a1:Int):Option (Int):=if (wrap64 (a1 - (l0.length:Int))) < 0 then (some (-1)) else (laws_szThingS.l0 k l0 (wrap64 (a1 - (l0.length:Int))) 0)
set_option maxHeartbeats 40000000 in
set_option maxRecDepth 100000 in
theorem laws_szThingS.calls (k:Nat) (A0:Option Addr) (c0:Nat) (l0:List (SlT34)) (a1:Int) (r:Int) (w:World) (hr0:Kd.C k109 w A0 l0.length l0) (hc0:l0.length ≤ c0) (h:laws_szThingS.f k l0 a1 = some r) :
 Calls Tryz.prog 45 #[.slice A0 l0.length c0,.int .i64 a1] w fun e w'=>e = .returned (.int .i64 r) ∧ Below w.heap.size w w':=by
 have hu109:=Tryz.underlying109;have HR0:=As0.mk hr0;have HC0:=As0.mk hc0;clear hr0 hc0;have HB:=As0.mk (Below.refl w.heap.size w);have H:(if (wrap64 (a1 - (l0.length:Int))) < 0 then (some (-1)) else (laws_szThingS.l0 k l0 (wrap64 (a1 - (l0.length:Int))) 0)) = some r:=h;clear h;by_cases c3:(wrap64 (a1 - (l0.length:Int))) < 0
 · rw [if_pos c3] at H
   have c3b0:decide ((wrap64 (a1 - (l0.length:Int))) < 0) = true:=decide_eq_true c3;clear c3;obtain rfl:=Option.some.inj H
   go_enter Tryz.func45,Tryz.ntmps45
   go_wp2
   go_ret
   exact ⟨eW,by repeat (first|(with_reducible first|exact HB.out|apply bal|apply pbN|apply bd1)|exact HB.out)⟩
 · rw [if_neg c3] at H
   have c3b0:decide ((wrap64 (a1 - (l0.length:Int))) < 0) = false:=decide_eq_false c3;clear c3;have H':=As0.mk H;clear H
   go_enter Tryz.func45,Tryz.ntmps45
   go_wp2
   show _;go_loopg [1,5] k (fun kq v1 v5 w'=>∃ (x1_1:Int) (x5_1:Int),v1 = .int .i64 x1_1 ∧ v5 = .int .i64 x5_1 ∧ As0 (laws_szThingS.l0 kq l0 x1_1 x5_1 = some r) ∧ As0 (kq ≤ k) ∧ As0 (Below w.heap.size w w'))
   case atStart=>exact ⟨(wrap64 (a1 - (l0.length:Int))),(0),(by first|rfl|(simp;done)|(simp [*];done)),(by first|rfl|(simp;done)|(simp [*];done)),H',⟨Nat.le_refl _⟩,⟨by repeat (first|(with_reducible first|exact HB.out|apply bal|apply pbN|apply bd1)|exact HB.out)⟩⟩
   case round=>
    clear H'
    try clear p2
    try clear c3
    try clear c3b0
    obtain ⟨x1_1,x5_1,rfl,rfl,HA,HK1,HB⟩:=hrel
    cases gk with
    |zero=>exact absurd HA.out (by simp [laws_szThingS.l0])
    |succ k1=>
     have H:=HA.out;clear HA;simp only [laws_szThingS.l0] at H;by_cases c4:x5_1 < (l0.length:Int)
     · rw [if_pos c4] at H
       have c4b0:decide (x5_1 < (l0.length:Int)) = true:=decide_eq_true c4;clear c4;by_cases c5:0 ≤ x5_1
       · rw [if_pos c5] at H
         have c5b0:decide (0 ≤ x5_1) = true:=decide_eq_true c5;clear c5;replace H:=Option.bind_eq_some_iff.mp H;obtain ⟨t264,A60,H⟩:=H;(try dsimp only at H);have A6:=As0.mk A60;clear A60;by_cases c7:t264 < 0
         · rw [if_pos c7] at H
           have c7b0:decide (t264 < 0) = true:=decide_eq_true c7;clear c7;obtain rfl:=Option.some.inj H;have p263:0 ≤ (x5_1:Int):=odt;have q263:x5_1 < (l0.length:Int):=odt;obtain ⟨ad263,A263_5,c263_5,e263,hx263_0,hx263_1,hx263_2,hx263_3,hx263_4,hx263_5,hx263_6,hl263_5,hi263_5⟩:=at_T109 HR0.out x5_1 p263 q263
           cases e263
           replace hx263_0:=bx HB.out rfl hx263_0;replace hx263_1:=bx HB.out rfl hx263_1;replace hx263_2:=bx HB.out rfl hx263_2;replace hx263_3:=bx HB.out rfl hx263_3;replace hx263_4:=bx HB.out rfl hx263_4;replace hx263_5:=bx HB.out rfl hx263_5;replace hx263_6:=bx HB.out rfl hx263_6;have HR263_5:=As0.mk hi263_5;have HC263_5:=As0.mk hl263_5;clear hi263_5 hl263_5;replace p263:=eq_true p263;replace q263:=eq_true q263
           go_wp2_with (first|((with_reducible refine gca (f:=81) rfl ?_);refine gL (some 23) Tryz.func81 #[.agg #[.string ((rlT42 l0 x5_1).f0),.string ((rlT42 l0 x5_1).f1),.int .i64 ((rlT42 l0 x5_1).f2),.int .i64 ((rlT42 l0 x5_1).f3),.bool ((rlT42 l0 x5_1).f4),.slice A263_5 ((rlT42 l0 x5_1).f5).length c263_5,.string ((rlT42 l0 x5_1).f6)],.int .i64 x1_1] ?_;(with_reducible refine (laws_szThing.calls k1 ((rlT42 l0 x5_1).f0) ((rlT42 l0 x5_1).f1) ((rlT42 l0 x5_1).f2) ((rlT42 l0 x5_1).f3) ((rlT42 l0 x5_1).f4) _ _ ((rlT42 l0 x5_1).f5) ((rlT42 l0 x5_1).f6) x1_1 t264 _ ?side1 ?side2 A6.out).mono ?_);(case side1=>repeat (first|exact (Kd.C_below HR263_5.out HB.out)|(with_reducible first|refine Kd.C_alloc ?_ _|refine Kd.C_drewN ?_ _|refine Kd.C_drew ?_)));(case side2=>exact HC263_5.out);rintro e w8 ⟨rfl,hb⟩;refine ⟨_,rfl,?_⟩;replace HB:=As0.mk (b3 HB.out hb);clear hb))
           go_ret
           exact ⟨eW,by repeat (first|(with_reducible first|exact HB.out|apply bal|apply pbN|apply bd1)|exact HB.out)⟩
         · rw [if_neg c7] at H
           have c7b0:decide (t264 < 0) = false:=decide_eq_false c7;clear c7;have H':=As0.mk H;clear H;have p263:0 ≤ (x5_1:Int):=odt;have q263:x5_1 < (l0.length:Int):=odt;obtain ⟨ad263,A263_5,c263_5,e263,hx263_0,hx263_1,hx263_2,hx263_3,hx263_4,hx263_5,hx263_6,hl263_5,hi263_5⟩:=at_T109 HR0.out x5_1 p263 q263
           cases e263
           replace hx263_0:=bx HB.out rfl hx263_0;replace hx263_1:=bx HB.out rfl hx263_1;replace hx263_2:=bx HB.out rfl hx263_2;replace hx263_3:=bx HB.out rfl hx263_3;replace hx263_4:=bx HB.out rfl hx263_4;replace hx263_5:=bx HB.out rfl hx263_5;replace hx263_6:=bx HB.out rfl hx263_6;have HR263_5:=As0.mk hi263_5;have HC263_5:=As0.mk hl263_5;clear hi263_5 hl263_5;replace p263:=eq_true p263;replace q263:=eq_true q263
           go_wp2_with (first|((with_reducible refine gca (f:=81) rfl ?_);refine gL (some 23) Tryz.func81 #[.agg #[.string ((rlT42 l0 x5_1).f0),.string ((rlT42 l0 x5_1).f1),.int .i64 ((rlT42 l0 x5_1).f2),.int .i64 ((rlT42 l0 x5_1).f3),.bool ((rlT42 l0 x5_1).f4),.slice A263_5 ((rlT42 l0 x5_1).f5).length c263_5,.string ((rlT42 l0 x5_1).f6)],.int .i64 x1_1] ?_;(with_reducible refine (laws_szThing.calls k1 ((rlT42 l0 x5_1).f0) ((rlT42 l0 x5_1).f1) ((rlT42 l0 x5_1).f2) ((rlT42 l0 x5_1).f3) ((rlT42 l0 x5_1).f4) _ _ ((rlT42 l0 x5_1).f5) ((rlT42 l0 x5_1).f6) x1_1 t264 _ ?side1 ?side2 A6.out).mono ?_);(case side1=>repeat (first|exact (Kd.C_below HR263_5.out HB.out)|(with_reducible first|refine Kd.C_alloc ?_ _|refine Kd.C_drewN ?_ _|refine Kd.C_drew ?_)));(case side2=>exact HC263_5.out);rintro e w9 ⟨rfl,hb⟩;refine ⟨_,rfl,?_⟩;replace HB:=As0.mk (b3 HB.out hb);clear hb))
           show _;go_roundg k1
           case measure=>have:=HK1.out;omega
           case rel=>exact ⟨(t264),(wrap64 (x5_1 + 1)),(by first|rfl|(simp;done)|(simp [*];done)),(by first|rfl|(simp;done)|(simp [*];done)),H',⟨by have:=HK1.out;omega⟩,⟨by repeat (first|(with_reducible first|exact HB.out|apply bal|apply pbN|apply bd1)|exact HB.out)⟩⟩
       · rw [if_neg c5] at H
         exact absurd H (by simp)
     · rw [if_neg c4] at H
       have c4b0:decide (x5_1 < (l0.length:Int)) = false:=decide_eq_false c4;clear c4;obtain rfl:=Option.some.inj H
       go_wp2
       go_ret
       exact ⟨eW,by repeat (first|(with_reducible first|exact HB.out|apply bal|apply pbN|apply bd1)|exact HB.out)⟩
def laws_szPast.f (a0_0:Int) (a0_1:ByteArray) (a0_2:ByteArray) (a0_3:ByteArray) (a1:Int):Option (Int):=if (wrap64 (a1 - (a0_1.size:Int))) < 0 then (some (-1)) else (if (wrap64 ((wrap64 (a1 - (a0_1.size:Int))) - (a0_2.size:Int))) < 0 then (some (-1)) else (if (wrap64 ((wrap64 ((wrap64 (a1 - (a0_1.size:Int))) - (a0_2.size:Int))) - (a0_3.size:Int))) < 0 then (some (-1)) else (some (wrap64 ((wrap64 ((wrap64 (a1 - (a0_1.size:Int))) - (a0_2.size:Int))) - (a0_3.size:Int))))))
set_option maxHeartbeats 40000000 in
set_option maxRecDepth 100000 in
theorem laws_szPast.calls (a0_0:Int) (a0_1:ByteArray) (a0_2:ByteArray) (a0_3:ByteArray) (a1:Int) (r:Int) (w:World) (h:laws_szPast.f a0_0 a0_1 a0_2 a0_3 a1 = some r) :
 Calls Tryz.prog 82 #[.agg #[.int .i64 a0_0,.string a0_1,.string a0_2,.string a0_3],.int .i64 a1] w fun e w'=>e = .returned (.int .i64 r) ∧ Below w.heap.size w w':=by
 have hu111:=Tryz.underlying111;have HB:=As0.mk (Below.refl w.heap.size w);have H:(if (wrap64 (a1 - (a0_1.size:Int))) < 0 then (some (-1)) else (if (wrap64 ((wrap64 (a1 - (a0_1.size:Int))) - (a0_2.size:Int))) < 0 then (some (-1)) else (if (wrap64 ((wrap64 ((wrap64 (a1 - (a0_1.size:Int))) - (a0_2.size:Int))) - (a0_3.size:Int))) < 0 then (some (-1)) else (some (wrap64 ((wrap64 ((wrap64 (a1 - (a0_1.size:Int))) - (a0_2.size:Int))) - (a0_3.size:Int))))))) = some r:=h;clear h;by_cases c3:(wrap64 (a1 - (a0_1.size:Int))) < 0
 · rw [if_pos c3] at H
   have c3b0:decide ((wrap64 (a1 - (a0_1.size:Int))) < 0) = true:=decide_eq_true c3;clear c3;obtain rfl:=Option.some.inj H
   go_enter Tryz.func82,Tryz.ntmps82
   go_wp2_with (first|((with_reducible refine gate_dst (N:=2) rfl ?_);refine bE 2 #[.int .i64 a0_0,.string a0_1,.string a0_2,.string a0_3] 111 ?_;intro gb265 hg w4 hbox hb;have BK265:=As0.mk (hbox);have GW265:=As0.mk ((by rw [hg];exact (bsz (by repeat (first|(with_reducible first|exact HB.out|apply bal|apply pbN|apply bd1)|exact HB.out))):w.heap.size ≤ gb265));have GE265:=GW265;replace HB:=As0.mk (b3 HB.out hb);clear hb hbox hg;obtain ⟨hcz5_0,hcz5_1,hcz5_2,hcz5_3⟩:=qc4 BK265.out;obtain ⟨hfz5_0,hfz5_1,hfz5_2,hfz5_3⟩:=qz4 BK265.out))
   go_ret
   exact ⟨eW,by repeat (first|(with_reducible first|exact HB.out|apply bal|apply pbN|apply bd1|refine bst ?_ GE265.out)|exact HB.out)⟩
 · rw [if_neg c3] at H
   have c3b0:decide ((wrap64 (a1 - (a0_1.size:Int))) < 0) = false:=decide_eq_false c3;clear c3;by_cases c6:(wrap64 ((wrap64 (a1 - (a0_1.size:Int))) - (a0_2.size:Int))) < 0
   · rw [if_pos c6] at H
     have c6b0:decide ((wrap64 ((wrap64 (a1 - (a0_1.size:Int))) - (a0_2.size:Int))) < 0) = true:=decide_eq_true c6;clear c6;obtain rfl:=Option.some.inj H
     go_enter Tryz.func82,Tryz.ntmps82
     go_wp2_with (first|((with_reducible refine gate_dst (N:=2) rfl ?_);refine bE 2 #[.int .i64 a0_0,.string a0_1,.string a0_2,.string a0_3] 111 ?_;intro gb265 hg w7 hbox hb;have BK265:=As0.mk (hbox);have GW265:=As0.mk ((by rw [hg];exact (bsz (by repeat (first|(with_reducible first|exact HB.out|apply bal|apply pbN|apply bd1)|exact HB.out))):w.heap.size ≤ gb265));have GE265:=GW265;replace HB:=As0.mk (b3 HB.out hb);clear hb hbox hg;obtain ⟨hcz8_0,hcz8_1,hcz8_2,hcz8_3⟩:=qc4 BK265.out;obtain ⟨hfz8_0,hfz8_1,hfz8_2,hfz8_3⟩:=qz4 BK265.out))
     go_ret
     exact ⟨eW,by repeat (first|(with_reducible first|exact HB.out|apply bal|apply pbN|apply bd1|refine bst ?_ GE265.out)|exact HB.out)⟩
   · rw [if_neg c6] at H
     have c6b0:decide ((wrap64 ((wrap64 (a1 - (a0_1.size:Int))) - (a0_2.size:Int))) < 0) = false:=decide_eq_false c6;clear c6;by_cases c9:(wrap64 ((wrap64 ((wrap64 (a1 - (a0_1.size:Int))) - (a0_2.size:Int))) - (a0_3.size:Int))) < 0
     · rw [if_pos c9] at H
       have c9b0:decide ((wrap64 ((wrap64 ((wrap64 (a1 - (a0_1.size:Int))) - (a0_2.size:Int))) - (a0_3.size:Int))) < 0) = true:=decide_eq_true c9;clear c9;obtain rfl:=Option.some.inj H
       go_enter Tryz.func82,Tryz.ntmps82
       go_wp2_with (first|((with_reducible refine gate_dst (N:=2) rfl ?_);refine bE 2 #[.int .i64 a0_0,.string a0_1,.string a0_2,.string a0_3] 111 ?_;intro gb265 hg w10 hbox hb;have BK265:=As0.mk (hbox);have GW265:=As0.mk ((by rw [hg];exact (bsz (by repeat (first|(with_reducible first|exact HB.out|apply bal|apply pbN|apply bd1)|exact HB.out))):w.heap.size ≤ gb265));have GE265:=GW265;replace HB:=As0.mk (b3 HB.out hb);clear hb hbox hg;obtain ⟨hcz11_0,hcz11_1,hcz11_2,hcz11_3⟩:=qc4 BK265.out;obtain ⟨hfz11_0,hfz11_1,hfz11_2,hfz11_3⟩:=qz4 BK265.out))
       go_ret
       exact ⟨eW,by repeat (first|(with_reducible first|exact HB.out|apply bal|apply pbN|apply bd1|refine bst ?_ GE265.out)|exact HB.out)⟩
     · rw [if_neg c9] at H
       have c9b0:decide ((wrap64 ((wrap64 ((wrap64 (a1 - (a0_1.size:Int))) - (a0_2.size:Int))) - (a0_3.size:Int))) < 0) = false:=decide_eq_false c9;clear c9;obtain rfl:=Option.some.inj H
       go_enter Tryz.func82,Tryz.ntmps82
       go_wp2_with (first|((with_reducible refine gate_dst (N:=2) rfl ?_);refine bE 2 #[.int .i64 a0_0,.string a0_1,.string a0_2,.string a0_3] 111 ?_;intro gb265 hg w12 hbox hb;have BK265:=As0.mk (hbox);have GW265:=As0.mk ((by rw [hg];exact (bsz (by repeat (first|(with_reducible first|exact HB.out|apply bal|apply pbN|apply bd1)|exact HB.out))):w.heap.size ≤ gb265));have GE265:=GW265;replace HB:=As0.mk (b3 HB.out hb);clear hb hbox hg;obtain ⟨hcz13_0,hcz13_1,hcz13_2,hcz13_3⟩:=qc4 BK265.out;obtain ⟨hfz13_0,hfz13_1,hfz13_2,hfz13_3⟩:=qz4 BK265.out))
       go_ret
       exact ⟨eW,by repeat (first|(with_reducible first|exact HB.out|apply bal|apply pbN|apply bd1|refine bst ?_ GE265.out)|exact HB.out)⟩
def laws_szPastS.l0:Nat → List (SlP32) → Int → Int → Option (Int)
 |0,_,_,_=>none
 |k + 1,x0,x1,x5=>if x5 < (x0.length:Int) then (if 0 ≤ x5 then ((laws_szPast.f ((rlP40 x0 x5).f0) ((rlP40 x0 x5).f1) ((rlP40 x0 x5).f2) ((rlP40 x0 x5).f3) x1).bind fun t267=>(if t267 < 0 then (some (-1)) else (laws_szPastS.l0 k x0 t267 (wrap64 (x5 + 1))))) else (none)) else (some x1)
def laws_szPastS.f (k:Nat) (l0:List (SlP32)) (a1:Int):Option (Int):=if (wrap64 (a1 - (l0.length:Int))) < 0 then (some (-1)) else (laws_szPastS.l0 k l0 (wrap64 (a1 - (l0.length:Int))) 0)
set_option maxHeartbeats 40000000 in
set_option maxRecDepth 100000 in
theorem laws_szPastS.calls (k:Nat) (A0:Option Addr) (c0:Nat) (l0:List (SlP32)) (a1:Int) (r:Int) (w:World) (hr0:Kd.C k111 w A0 l0.length l0) (hc0:l0.length ≤ c0) (h:laws_szPastS.f k l0 a1 = some r) :
 Calls Tryz.prog 46 #[.slice A0 l0.length c0,.int .i64 a1] w fun e w'=>e = .returned (.int .i64 r) ∧ Below w.heap.size w w':=by
 have hu111:=Tryz.underlying111;have HR0:=As0.mk hr0;have HC0:=As0.mk hc0;clear hr0 hc0;have HB:=As0.mk (Below.refl w.heap.size w);have H:(if (wrap64 (a1 - (l0.length:Int))) < 0 then (some (-1)) else (laws_szPastS.l0 k l0 (wrap64 (a1 - (l0.length:Int))) 0)) = some r:=h;clear h;by_cases c3:(wrap64 (a1 - (l0.length:Int))) < 0
 · rw [if_pos c3] at H
   have c3b0:decide ((wrap64 (a1 - (l0.length:Int))) < 0) = true:=decide_eq_true c3;clear c3;obtain rfl:=Option.some.inj H
   go_enter Tryz.func46,Tryz.ntmps46
   go_wp2
   go_ret
   exact ⟨eW,by repeat (first|(with_reducible first|exact HB.out|apply bal|apply pbN|apply bd1)|exact HB.out)⟩
 · rw [if_neg c3] at H
   have c3b0:decide ((wrap64 (a1 - (l0.length:Int))) < 0) = false:=decide_eq_false c3;clear c3;have H':=As0.mk H;clear H
   go_enter Tryz.func46,Tryz.ntmps46
   go_wp2
   show _;go_loopg [1,5] k (fun kq v1 v5 w'=>∃ (x1_1:Int) (x5_1:Int),v1 = .int .i64 x1_1 ∧ v5 = .int .i64 x5_1 ∧ As0 (laws_szPastS.l0 kq l0 x1_1 x5_1 = some r) ∧ As0 (kq ≤ k) ∧ As0 (Below w.heap.size w w'))
   case atStart=>exact ⟨(wrap64 (a1 - (l0.length:Int))),(0),(by first|rfl|(simp;done)|(simp [*];done)),(by first|rfl|(simp;done)|(simp [*];done)),H',⟨Nat.le_refl _⟩,⟨by repeat (first|(with_reducible first|exact HB.out|apply bal|apply pbN|apply bd1)|exact HB.out)⟩⟩
   case round=>
    clear H'
    try clear p2
    try clear c3
    try clear c3b0
    obtain ⟨x1_1,x5_1,rfl,rfl,HA,HK1,HB⟩:=hrel
    cases gk with
    |zero=>exact absurd HA.out (by simp [laws_szPastS.l0])
    |succ k1=>
     have H:=HA.out;clear HA;simp only [laws_szPastS.l0] at H;by_cases c4:x5_1 < (l0.length:Int)
     · rw [if_pos c4] at H
       have c4b0:decide (x5_1 < (l0.length:Int)) = true:=decide_eq_true c4;clear c4;by_cases c5:0 ≤ x5_1
       · rw [if_pos c5] at H
         have c5b0:decide (0 ≤ x5_1) = true:=decide_eq_true c5;clear c5;replace H:=Option.bind_eq_some_iff.mp H;obtain ⟨t267,A60,H⟩:=H;(try dsimp only at H);have A6:=As0.mk A60;clear A60;by_cases c7:t267 < 0
         · rw [if_pos c7] at H
           have c7b0:decide (t267 < 0) = true:=decide_eq_true c7;clear c7;obtain rfl:=Option.some.inj H;have p266:0 ≤ (x5_1:Int):=odt;have q266:x5_1 < (l0.length:Int):=odt;obtain ⟨ad266,e266,hx266_0,hx266_1,hx266_2,hx266_3⟩:=at_T111 HR0.out x5_1 p266 q266
           cases e266
           replace hx266_0:=bx HB.out rfl hx266_0;replace hx266_1:=bx HB.out rfl hx266_1;replace hx266_2:=bx HB.out rfl hx266_2;replace hx266_3:=bx HB.out rfl hx266_3;replace p266:=eq_true p266;replace q266:=eq_true q266
           go_wp2_with (first|((with_reducible refine gca (f:=82) rfl ?_);refine gL (some 23) Tryz.func82 #[.agg #[.int .i64 ((rlP40 l0 x5_1).f0),.string ((rlP40 l0 x5_1).f1),.string ((rlP40 l0 x5_1).f2),.string ((rlP40 l0 x5_1).f3)],.int .i64 x1_1] ?_;(with_reducible refine (laws_szPast.calls ((rlP40 l0 x5_1).f0) ((rlP40 l0 x5_1).f1) ((rlP40 l0 x5_1).f2) ((rlP40 l0 x5_1).f3) x1_1 t267 _ A6.out).mono ?_);rintro e w8 ⟨rfl,hb⟩;refine ⟨_,rfl,?_⟩;replace HB:=As0.mk (b3 HB.out hb);clear hb))
           go_ret
           exact ⟨eW,by repeat (first|(with_reducible first|exact HB.out|apply bal|apply pbN|apply bd1)|exact HB.out)⟩
         · rw [if_neg c7] at H
           have c7b0:decide (t267 < 0) = false:=decide_eq_false c7;clear c7;have H':=As0.mk H;clear H;have p266:0 ≤ (x5_1:Int):=odt;have q266:x5_1 < (l0.length:Int):=odt;obtain ⟨ad266,e266,hx266_0,hx266_1,hx266_2,hx266_3⟩:=at_T111 HR0.out x5_1 p266 q266
           cases e266
           replace hx266_0:=bx HB.out rfl hx266_0;replace hx266_1:=bx HB.out rfl hx266_1;replace hx266_2:=bx HB.out rfl hx266_2;replace hx266_3:=bx HB.out rfl hx266_3;replace p266:=eq_true p266;replace q266:=eq_true q266
           go_wp2_with (first|((with_reducible refine gca (f:=82) rfl ?_);refine gL (some 23) Tryz.func82 #[.agg #[.int .i64 ((rlP40 l0 x5_1).f0),.string ((rlP40 l0 x5_1).f1),.string ((rlP40 l0 x5_1).f2),.string ((rlP40 l0 x5_1).f3)],.int .i64 x1_1] ?_;(with_reducible refine (laws_szPast.calls ((rlP40 l0 x5_1).f0) ((rlP40 l0 x5_1).f1) ((rlP40 l0 x5_1).f2) ((rlP40 l0 x5_1).f3) x1_1 t267 _ A6.out).mono ?_);rintro e w9 ⟨rfl,hb⟩;refine ⟨_,rfl,?_⟩;replace HB:=As0.mk (b3 HB.out hb);clear hb))
           show _;go_roundg k1
           case measure=>have:=HK1.out;omega
           case rel=>exact ⟨(t267),(wrap64 (x5_1 + 1)),(by first|rfl|(simp;done)|(simp [*];done)),(by first|rfl|(simp;done)|(simp [*];done)),H',⟨by have:=HK1.out;omega⟩,⟨by repeat (first|(with_reducible first|exact HB.out|apply bal|apply pbN|apply bd1)|exact HB.out)⟩⟩
       · rw [if_neg c5] at H
         exact absurd H (by simp)
     · rw [if_neg c4] at H
       have c4b0:decide (x5_1 < (l0.length:Int)) = false:=decide_eq_false c4;clear c4;obtain rfl:=Option.some.inj H
       go_wp2
       go_ret
       exact ⟨eW,by repeat (first|(with_reducible first|exact HB.out|apply bal|apply pbN|apply bd1)|exact HB.out)⟩
def laws_szModel.f (k:Nat) (a0_0:Int) (a0_1:Int) (a0_2:Int) (l0_3:List (SlS33)) (l0_4:List (SlU35)) (l0_5:List (SlT34)) (l0_6:List (SlP32)) (a1:Int):Option (Int):=(laws_szSpaceS.f k l0_3 a1).bind fun t269=>(if t269 < 0 then (some (-1)) else ((laws_szUseS.f k l0_4 t269).bind fun t270=>(if t270 < 0 then (some (-1)) else ((laws_szThingS.f k l0_5 t270).bind fun t271=>(if t271 < 0 then (some (-1)) else ((laws_szPastS.f k l0_6 t271).bind fun t272=>(if t272 < 0 then (some (-1)) else (some t272))))))))
set_option maxHeartbeats 40000000 in
set_option maxRecDepth 100000 in
theorem laws_szModel.calls (k:Nat) (a0_0:Int) (a0_1:Int) (a0_2:Int) (A0_3:Option Addr) (c0_3:Nat) (l0_3:List (SlS33)) (A0_4:Option Addr) (c0_4:Nat) (l0_4:List (SlU35)) (A0_5:Option Addr) (c0_5:Nat) (l0_5:List (SlT34)) (A0_6:Option Addr) (c0_6:Nat) (l0_6:List (SlP32)) (a1:Int) (r:Int) (w:World) (hr0_3:Kd.C k105 w A0_3 l0_3.length l0_3) (hc0_3:l0_3.length ≤ c0_3) (hr0_4:Kd.C k107 w A0_4 l0_4.length l0_4) (hc0_4:l0_4.length ≤ c0_4) (hr0_5:Kd.C k109 w A0_5 l0_5.length l0_5) (hc0_5:l0_5.length ≤ c0_5) (hr0_6:Kd.C k111 w A0_6 l0_6.length l0_6) (hc0_6:l0_6.length ≤ c0_6) (h:laws_szModel.f k a0_0 a0_1 a0_2 l0_3 l0_4 l0_5 l0_6 a1 = some r) :
 Calls Tryz.prog 18 #[.agg #[.int .i64 a0_0,.int .i64 a0_1,.int .i64 a0_2,.slice A0_3 l0_3.length c0_3,.slice A0_4 l0_4.length c0_4,.slice A0_5 l0_5.length c0_5,.slice A0_6 l0_6.length c0_6],.int .i64 a1] w fun e w'=>e = .returned (.int .i64 r) ∧ Below w.heap.size w w':=by
 have hu51:=Tryz.underlying51;have HR0_3:=As0.mk hr0_3;have HC0_3:=As0.mk hc0_3;clear hr0_3 hc0_3;have HR0_4:=As0.mk hr0_4;have HC0_4:=As0.mk hc0_4;clear hr0_4 hc0_4;have HR0_5:=As0.mk hr0_5;have HC0_5:=As0.mk hc0_5;clear hr0_5 hc0_5;have HR0_6:=As0.mk hr0_6;have HC0_6:=As0.mk hc0_6;clear hr0_6 hc0_6;have HB:=As0.mk (Below.refl w.heap.size w);have H:((laws_szSpaceS.f k l0_3 a1).bind fun t269=>(if t269 < 0 then (some (-1)) else ((laws_szUseS.f k l0_4 t269).bind fun t270=>(if t270 < 0 then (some (-1)) else ((laws_szThingS.f k l0_5 t270).bind fun t271=>(if t271 < 0 then (some (-1)) else ((laws_szPastS.f k l0_6 t271).bind fun t272=>(if t272 < 0 then (some (-1)) else (some t272))))))))) = some r:=h;clear h;replace H:=Option.bind_eq_some_iff.mp H;obtain ⟨t269,A30,H⟩:=H;(try dsimp only at H);have A3:=As0.mk A30;clear A30;by_cases c4:t269 < 0
 · rw [if_pos c4] at H
   have c4b0:decide (t269 < 0) = true:=decide_eq_true c4;clear c4;obtain rfl:=Option.some.inj H
   go_enter Tryz.func18,Tryz.ntmps18
   go_wp2_with (first|((with_reducible refine gate_dst (N:=2) rfl ?_);refine bE 2 #[.int .i64 a0_0,.int .i64 a0_1,.int .i64 a0_2,.slice A0_3 l0_3.length c0_3,.slice A0_4 l0_4.length c0_4,.slice A0_5 l0_5.length c0_5,.slice A0_6 l0_6.length c0_6] 51 ?_;intro gb268 hg w5 hbox hb;have BK268:=As0.mk (hbox);have GW268:=As0.mk ((by rw [hg];exact (bsz (by repeat (first|(with_reducible first|exact HB.out|apply bal|apply pbN|apply bd1)|exact HB.out))):w.heap.size ≤ gb268));have GE268:=GW268;replace HB:=As0.mk (b3 HB.out hb);clear hb hbox hg;obtain ⟨hcz6_0,hcz6_1,hcz6_2,hcz6_3,hcz6_4,hcz6_5,hcz6_6⟩:=qc7 BK268.out;obtain ⟨hfz6_0,hfz6_1,hfz6_2,hfz6_3,hfz6_4,hfz6_5,hfz6_6⟩:=qz7 BK268.out)|((with_reducible refine gca (f:=43) rfl ?_);refine gL (some 8) Tryz.func43 #[.slice A0_3 l0_3.length c0_3,.int .i64 a1] ?_;(with_reducible refine (laws_szSpaceS.calls k _ _ l0_3 a1 t269 _ ?side1 ?side2 A3.out).mono ?_);(case side1=>repeat (first|exact (Kd.C_below HR0_3.out HB.out)|(with_reducible first|refine Kd.C_alloc ?_ _|refine Kd.C_drewN ?_ _|refine Kd.C_drew ?_)));(case side2=>exact HC0_3.out);rintro e w7 ⟨rfl,hb⟩;refine ⟨_,rfl,?_⟩;replace BK268:=As0.mk (bb hb BK268.out);replace HB:=As0.mk (bsp (by repeat (first|(with_reducible first|exact HB.out|apply bal|apply pbN|apply bd1|refine bst ?_ GE268.out)|exact HB.out)) hb);clear hb))
   go_ret
   exact ⟨eW,by repeat (first|(with_reducible first|exact HB.out|apply bal|apply pbN|apply bd1|refine bst ?_ GE268.out)|exact HB.out)⟩
 · rw [if_neg c4] at H
   have c4b0:decide (t269 < 0) = false:=decide_eq_false c4;clear c4;replace H:=Option.bind_eq_some_iff.mp H;obtain ⟨t270,A80,H⟩:=H;(try dsimp only at H);have A8:=As0.mk A80;clear A80;by_cases c9:t270 < 0
   · rw [if_pos c9] at H
     have c9b0:decide (t270 < 0) = true:=decide_eq_true c9;clear c9;obtain rfl:=Option.some.inj H
     go_enter Tryz.func18,Tryz.ntmps18
     go_wp2_with (first|((with_reducible refine gate_dst (N:=2) rfl ?_);refine bE 2 #[.int .i64 a0_0,.int .i64 a0_1,.int .i64 a0_2,.slice A0_3 l0_3.length c0_3,.slice A0_4 l0_4.length c0_4,.slice A0_5 l0_5.length c0_5,.slice A0_6 l0_6.length c0_6] 51 ?_;intro gb268 hg w10 hbox hb;have BK268:=As0.mk (hbox);have GW268:=As0.mk ((by rw [hg];exact (bsz (by repeat (first|(with_reducible first|exact HB.out|apply bal|apply pbN|apply bd1)|exact HB.out))):w.heap.size ≤ gb268));have GE268:=GW268;replace HB:=As0.mk (b3 HB.out hb);clear hb hbox hg;obtain ⟨hcz11_0,hcz11_1,hcz11_2,hcz11_3,hcz11_4,hcz11_5,hcz11_6⟩:=qc7 BK268.out;obtain ⟨hfz11_0,hfz11_1,hfz11_2,hfz11_3,hfz11_4,hfz11_5,hfz11_6⟩:=qz7 BK268.out)|((with_reducible refine gca (f:=43) rfl ?_);refine gL (some 8) Tryz.func43 #[.slice A0_3 l0_3.length c0_3,.int .i64 a1] ?_;(with_reducible refine (laws_szSpaceS.calls k _ _ l0_3 a1 t269 _ ?side1 ?side2 A3.out).mono ?_);(case side1=>repeat (first|exact (Kd.C_below HR0_3.out HB.out)|(with_reducible first|refine Kd.C_alloc ?_ _|refine Kd.C_drewN ?_ _|refine Kd.C_drew ?_)));(case side2=>exact HC0_3.out);rintro e w12 ⟨rfl,hb⟩;refine ⟨_,rfl,?_⟩;replace BK268:=As0.mk (bb hb BK268.out);replace HB:=As0.mk (bsp (by repeat (first|(with_reducible first|exact HB.out|apply bal|apply pbN|apply bd1|refine bst ?_ GE268.out)|exact HB.out)) hb);clear hb;obtain ⟨hcz13_0,hcz13_1,hcz13_2,hcz13_3,hcz13_4,hcz13_5,hcz13_6⟩:=qc7 BK268.out;obtain ⟨hfz13_0,hfz13_1,hfz13_2,hfz13_3,hfz13_4,hfz13_5,hfz13_6⟩:=qz7 BK268.out)|((with_reducible refine gca (f:=44) rfl ?_);refine gL (some 14) Tryz.func44 #[.slice A0_4 l0_4.length c0_4,.int .i64 t269] ?_;(with_reducible refine (laws_szUseS.calls k _ _ l0_4 t269 t270 _ ?side1 ?side2 A8.out).mono ?_);(case side1=>repeat (first|exact (Kd.C_below HR0_4.out HB.out)|(with_reducible first|refine Kd.C_alloc ?_ _|refine Kd.C_drewN ?_ _|refine Kd.C_drew ?_)));(case side2=>exact HC0_4.out);rintro e w14 ⟨rfl,hb⟩;refine ⟨_,rfl,?_⟩;replace BK268:=As0.mk (bb hb BK268.out);replace HB:=As0.mk (bsp (by repeat (first|(with_reducible first|exact HB.out|apply bal|apply pbN|apply bd1|refine bst ?_ GE268.out)|exact HB.out)) hb);clear hb))
     go_ret
     exact ⟨eW,by repeat (first|(with_reducible first|exact HB.out|apply bal|apply pbN|apply bd1|refine bst ?_ GE268.out)|exact HB.out)⟩
   · rw [if_neg c9] at H
     have c9b0:decide (t270 < 0) = false:=decide_eq_false c9;clear c9;replace H:=Option.bind_eq_some_iff.mp H;obtain ⟨t271,A150,H⟩:=H;(try dsimp only at H);have A15:=As0.mk A150;clear A150;by_cases c16:t271 < 0
     · rw [if_pos c16] at H
       have c16b0:decide (t271 < 0) = true:=decide_eq_true c16;clear c16;obtain rfl:=Option.some.inj H
       go_enter Tryz.func18,Tryz.ntmps18
       go_wp2_with (first|((with_reducible refine gate_dst (N:=2) rfl ?_);refine bE 2 #[.int .i64 a0_0,.int .i64 a0_1,.int .i64 a0_2,.slice A0_3 l0_3.length c0_3,.slice A0_4 l0_4.length c0_4,.slice A0_5 l0_5.length c0_5,.slice A0_6 l0_6.length c0_6] 51 ?_;intro gb268 hg w17 hbox hb;have BK268:=As0.mk (hbox);have GW268:=As0.mk ((by rw [hg];exact (bsz (by repeat (first|(with_reducible first|exact HB.out|apply bal|apply pbN|apply bd1)|exact HB.out))):w.heap.size ≤ gb268));have GE268:=GW268;replace HB:=As0.mk (b3 HB.out hb);clear hb hbox hg;obtain ⟨hcz18_0,hcz18_1,hcz18_2,hcz18_3,hcz18_4,hcz18_5,hcz18_6⟩:=qc7 BK268.out;obtain ⟨hfz18_0,hfz18_1,hfz18_2,hfz18_3,hfz18_4,hfz18_5,hfz18_6⟩:=qz7 BK268.out)|((with_reducible refine gca (f:=43) rfl ?_);refine gL (some 8) Tryz.func43 #[.slice A0_3 l0_3.length c0_3,.int .i64 a1] ?_;(with_reducible refine (laws_szSpaceS.calls k _ _ l0_3 a1 t269 _ ?side1 ?side2 A3.out).mono ?_);(case side1=>repeat (first|exact (Kd.C_below HR0_3.out HB.out)|(with_reducible first|refine Kd.C_alloc ?_ _|refine Kd.C_drewN ?_ _|refine Kd.C_drew ?_)));(case side2=>exact HC0_3.out);rintro e w19 ⟨rfl,hb⟩;refine ⟨_,rfl,?_⟩;replace BK268:=As0.mk (bb hb BK268.out);replace HB:=As0.mk (bsp (by repeat (first|(with_reducible first|exact HB.out|apply bal|apply pbN|apply bd1|refine bst ?_ GE268.out)|exact HB.out)) hb);clear hb;obtain ⟨hcz20_0,hcz20_1,hcz20_2,hcz20_3,hcz20_4,hcz20_5,hcz20_6⟩:=qc7 BK268.out;obtain ⟨hfz20_0,hfz20_1,hfz20_2,hfz20_3,hfz20_4,hfz20_5,hfz20_6⟩:=qz7 BK268.out)|((with_reducible refine gca (f:=44) rfl ?_);refine gL (some 14) Tryz.func44 #[.slice A0_4 l0_4.length c0_4,.int .i64 t269] ?_;(with_reducible refine (laws_szUseS.calls k _ _ l0_4 t269 t270 _ ?side1 ?side2 A8.out).mono ?_);(case side1=>repeat (first|exact (Kd.C_below HR0_4.out HB.out)|(with_reducible first|refine Kd.C_alloc ?_ _|refine Kd.C_drewN ?_ _|refine Kd.C_drew ?_)));(case side2=>exact HC0_4.out);rintro e w21 ⟨rfl,hb⟩;refine ⟨_,rfl,?_⟩;replace BK268:=As0.mk (bb hb BK268.out);replace HB:=As0.mk (bsp (by repeat (first|(with_reducible first|exact HB.out|apply bal|apply pbN|apply bd1|refine bst ?_ GE268.out)|exact HB.out)) hb);clear hb;obtain ⟨hcz22_0,hcz22_1,hcz22_2,hcz22_3,hcz22_4,hcz22_5,hcz22_6⟩:=qc7 BK268.out;obtain ⟨hfz22_0,hfz22_1,hfz22_2,hfz22_3,hfz22_4,hfz22_5,hfz22_6⟩:=qz7 BK268.out)|((with_reducible refine gca (f:=45) rfl ?_);refine gL (some 20) Tryz.func45 #[.slice A0_5 l0_5.length c0_5,.int .i64 t270] ?_;(with_reducible refine (laws_szThingS.calls k _ _ l0_5 t270 t271 _ ?side1 ?side2 A15.out).mono ?_);(case side1=>repeat (first|exact (Kd.C_below HR0_5.out HB.out)|(with_reducible first|refine Kd.C_alloc ?_ _|refine Kd.C_drewN ?_ _|refine Kd.C_drew ?_)));(case side2=>exact HC0_5.out);rintro e w23 ⟨rfl,hb⟩;refine ⟨_,rfl,?_⟩;replace BK268:=As0.mk (bb hb BK268.out);replace HB:=As0.mk (bsp (by repeat (first|(with_reducible first|exact HB.out|apply bal|apply pbN|apply bd1|refine bst ?_ GE268.out)|exact HB.out)) hb);clear hb))
       go_ret
       exact ⟨eW,by repeat (first|(with_reducible first|exact HB.out|apply bal|apply pbN|apply bd1|refine bst ?_ GE268.out)|exact HB.out)⟩
     · rw [if_neg c16] at H
       have c16b0:decide (t271 < 0) = false:=decide_eq_false c16;clear c16;replace H:=Option.bind_eq_some_iff.mp H;obtain ⟨t272,A240,H⟩:=H;(try dsimp only at H);have A24:=As0.mk A240;clear A240;by_cases c25:t272 < 0
       · rw [if_pos c25] at H
         have c25b0:decide (t272 < 0) = true:=decide_eq_true c25;clear c25;obtain rfl:=Option.some.inj H
         go_enter Tryz.func18,Tryz.ntmps18
         go_wp2_with (first|((with_reducible refine gate_dst (N:=2) rfl ?_);refine bE 2 #[.int .i64 a0_0,.int .i64 a0_1,.int .i64 a0_2,.slice A0_3 l0_3.length c0_3,.slice A0_4 l0_4.length c0_4,.slice A0_5 l0_5.length c0_5,.slice A0_6 l0_6.length c0_6] 51 ?_;intro gb268 hg w26 hbox hb;have BK268:=As0.mk (hbox);have GW268:=As0.mk ((by rw [hg];exact (bsz (by repeat (first|(with_reducible first|exact HB.out|apply bal|apply pbN|apply bd1)|exact HB.out))):w.heap.size ≤ gb268));have GE268:=GW268;replace HB:=As0.mk (b3 HB.out hb);clear hb hbox hg;obtain ⟨hcz27_0,hcz27_1,hcz27_2,hcz27_3,hcz27_4,hcz27_5,hcz27_6⟩:=qc7 BK268.out;obtain ⟨hfz27_0,hfz27_1,hfz27_2,hfz27_3,hfz27_4,hfz27_5,hfz27_6⟩:=qz7 BK268.out)|((with_reducible refine gca (f:=43) rfl ?_);refine gL (some 8) Tryz.func43 #[.slice A0_3 l0_3.length c0_3,.int .i64 a1] ?_;(with_reducible refine (laws_szSpaceS.calls k _ _ l0_3 a1 t269 _ ?side1 ?side2 A3.out).mono ?_);(case side1=>repeat (first|exact (Kd.C_below HR0_3.out HB.out)|(with_reducible first|refine Kd.C_alloc ?_ _|refine Kd.C_drewN ?_ _|refine Kd.C_drew ?_)));(case side2=>exact HC0_3.out);rintro e w28 ⟨rfl,hb⟩;refine ⟨_,rfl,?_⟩;replace BK268:=As0.mk (bb hb BK268.out);replace HB:=As0.mk (bsp (by repeat (first|(with_reducible first|exact HB.out|apply bal|apply pbN|apply bd1|refine bst ?_ GE268.out)|exact HB.out)) hb);clear hb;obtain ⟨hcz29_0,hcz29_1,hcz29_2,hcz29_3,hcz29_4,hcz29_5,hcz29_6⟩:=qc7 BK268.out;obtain ⟨hfz29_0,hfz29_1,hfz29_2,hfz29_3,hfz29_4,hfz29_5,hfz29_6⟩:=qz7 BK268.out)|((with_reducible refine gca (f:=44) rfl ?_);refine gL (some 14) Tryz.func44 #[.slice A0_4 l0_4.length c0_4,.int .i64 t269] ?_;(with_reducible refine (laws_szUseS.calls k _ _ l0_4 t269 t270 _ ?side1 ?side2 A8.out).mono ?_);(case side1=>repeat (first|exact (Kd.C_below HR0_4.out HB.out)|(with_reducible first|refine Kd.C_alloc ?_ _|refine Kd.C_drewN ?_ _|refine Kd.C_drew ?_)));(case side2=>exact HC0_4.out);rintro e w30 ⟨rfl,hb⟩;refine ⟨_,rfl,?_⟩;replace BK268:=As0.mk (bb hb BK268.out);replace HB:=As0.mk (bsp (by repeat (first|(with_reducible first|exact HB.out|apply bal|apply pbN|apply bd1|refine bst ?_ GE268.out)|exact HB.out)) hb);clear hb;obtain ⟨hcz31_0,hcz31_1,hcz31_2,hcz31_3,hcz31_4,hcz31_5,hcz31_6⟩:=qc7 BK268.out;obtain ⟨hfz31_0,hfz31_1,hfz31_2,hfz31_3,hfz31_4,hfz31_5,hfz31_6⟩:=qz7 BK268.out)|((with_reducible refine gca (f:=45) rfl ?_);refine gL (some 20) Tryz.func45 #[.slice A0_5 l0_5.length c0_5,.int .i64 t270] ?_;(with_reducible refine (laws_szThingS.calls k _ _ l0_5 t270 t271 _ ?side1 ?side2 A15.out).mono ?_);(case side1=>repeat (first|exact (Kd.C_below HR0_5.out HB.out)|(with_reducible first|refine Kd.C_alloc ?_ _|refine Kd.C_drewN ?_ _|refine Kd.C_drew ?_)));(case side2=>exact HC0_5.out);rintro e w32 ⟨rfl,hb⟩;refine ⟨_,rfl,?_⟩;replace BK268:=As0.mk (bb hb BK268.out);replace HB:=As0.mk (bsp (by repeat (first|(with_reducible first|exact HB.out|apply bal|apply pbN|apply bd1|refine bst ?_ GE268.out)|exact HB.out)) hb);clear hb;obtain ⟨hcz33_0,hcz33_1,hcz33_2,hcz33_3,hcz33_4,hcz33_5,hcz33_6⟩:=qc7 BK268.out;obtain ⟨hfz33_0,hfz33_1,hfz33_2,hfz33_3,hfz33_4,hfz33_5,hfz33_6⟩:=qz7 BK268.out)|((with_reducible refine gca (f:=46) rfl ?_);refine gL (some 26) Tryz.func46 #[.slice A0_6 l0_6.length c0_6,.int .i64 t271] ?_;(with_reducible refine (laws_szPastS.calls k _ _ l0_6 t271 t272 _ ?side1 ?side2 A24.out).mono ?_);(case side1=>repeat (first|exact (Kd.C_below HR0_6.out HB.out)|(with_reducible first|refine Kd.C_alloc ?_ _|refine Kd.C_drewN ?_ _|refine Kd.C_drew ?_)));(case side2=>exact HC0_6.out);rintro e w34 ⟨rfl,hb⟩;refine ⟨_,rfl,?_⟩;replace BK268:=As0.mk (bb hb BK268.out);replace HB:=As0.mk (bsp (by repeat (first|(with_reducible first|exact HB.out|apply bal|apply pbN|apply bd1|refine bst ?_ GE268.out)|exact HB.out)) hb);clear hb))
         go_ret
         exact ⟨eW,by repeat (first|(with_reducible first|exact HB.out|apply bal|apply pbN|apply bd1|refine bst ?_ GE268.out)|exact HB.out)⟩
       · rw [if_neg c25] at H
         have c25b0:decide (t272 < 0) = false:=decide_eq_false c25;clear c25;obtain rfl:=Option.some.inj H
         go_enter Tryz.func18,Tryz.ntmps18
         go_wp2_with (first|((with_reducible refine gate_dst (N:=2) rfl ?_);refine bE 2 #[.int .i64 a0_0,.int .i64 a0_1,.int .i64 a0_2,.slice A0_3 l0_3.length c0_3,.slice A0_4 l0_4.length c0_4,.slice A0_5 l0_5.length c0_5,.slice A0_6 l0_6.length c0_6] 51 ?_;intro gb268 hg w35 hbox hb;have BK268:=As0.mk (hbox);have GW268:=As0.mk ((by rw [hg];exact (bsz (by repeat (first|(with_reducible first|exact HB.out|apply bal|apply pbN|apply bd1)|exact HB.out))):w.heap.size ≤ gb268));have GE268:=GW268;replace HB:=As0.mk (b3 HB.out hb);clear hb hbox hg;obtain ⟨hcz36_0,hcz36_1,hcz36_2,hcz36_3,hcz36_4,hcz36_5,hcz36_6⟩:=qc7 BK268.out;obtain ⟨hfz36_0,hfz36_1,hfz36_2,hfz36_3,hfz36_4,hfz36_5,hfz36_6⟩:=qz7 BK268.out)|((with_reducible refine gca (f:=43) rfl ?_);refine gL (some 8) Tryz.func43 #[.slice A0_3 l0_3.length c0_3,.int .i64 a1] ?_;(with_reducible refine (laws_szSpaceS.calls k _ _ l0_3 a1 t269 _ ?side1 ?side2 A3.out).mono ?_);(case side1=>repeat (first|exact (Kd.C_below HR0_3.out HB.out)|(with_reducible first|refine Kd.C_alloc ?_ _|refine Kd.C_drewN ?_ _|refine Kd.C_drew ?_)));(case side2=>exact HC0_3.out);rintro e w37 ⟨rfl,hb⟩;refine ⟨_,rfl,?_⟩;replace BK268:=As0.mk (bb hb BK268.out);replace HB:=As0.mk (bsp (by repeat (first|(with_reducible first|exact HB.out|apply bal|apply pbN|apply bd1|refine bst ?_ GE268.out)|exact HB.out)) hb);clear hb;obtain ⟨hcz38_0,hcz38_1,hcz38_2,hcz38_3,hcz38_4,hcz38_5,hcz38_6⟩:=qc7 BK268.out;obtain ⟨hfz38_0,hfz38_1,hfz38_2,hfz38_3,hfz38_4,hfz38_5,hfz38_6⟩:=qz7 BK268.out)|((with_reducible refine gca (f:=44) rfl ?_);refine gL (some 14) Tryz.func44 #[.slice A0_4 l0_4.length c0_4,.int .i64 t269] ?_;(with_reducible refine (laws_szUseS.calls k _ _ l0_4 t269 t270 _ ?side1 ?side2 A8.out).mono ?_);(case side1=>repeat (first|exact (Kd.C_below HR0_4.out HB.out)|(with_reducible first|refine Kd.C_alloc ?_ _|refine Kd.C_drewN ?_ _|refine Kd.C_drew ?_)));(case side2=>exact HC0_4.out);rintro e w39 ⟨rfl,hb⟩;refine ⟨_,rfl,?_⟩;replace BK268:=As0.mk (bb hb BK268.out);replace HB:=As0.mk (bsp (by repeat (first|(with_reducible first|exact HB.out|apply bal|apply pbN|apply bd1|refine bst ?_ GE268.out)|exact HB.out)) hb);clear hb;obtain ⟨hcz40_0,hcz40_1,hcz40_2,hcz40_3,hcz40_4,hcz40_5,hcz40_6⟩:=qc7 BK268.out;obtain ⟨hfz40_0,hfz40_1,hfz40_2,hfz40_3,hfz40_4,hfz40_5,hfz40_6⟩:=qz7 BK268.out)|((with_reducible refine gca (f:=45) rfl ?_);refine gL (some 20) Tryz.func45 #[.slice A0_5 l0_5.length c0_5,.int .i64 t270] ?_;(with_reducible refine (laws_szThingS.calls k _ _ l0_5 t270 t271 _ ?side1 ?side2 A15.out).mono ?_);(case side1=>repeat (first|exact (Kd.C_below HR0_5.out HB.out)|(with_reducible first|refine Kd.C_alloc ?_ _|refine Kd.C_drewN ?_ _|refine Kd.C_drew ?_)));(case side2=>exact HC0_5.out);rintro e w41 ⟨rfl,hb⟩;refine ⟨_,rfl,?_⟩;replace BK268:=As0.mk (bb hb BK268.out);replace HB:=As0.mk (bsp (by repeat (first|(with_reducible first|exact HB.out|apply bal|apply pbN|apply bd1|refine bst ?_ GE268.out)|exact HB.out)) hb);clear hb;obtain ⟨hcz42_0,hcz42_1,hcz42_2,hcz42_3,hcz42_4,hcz42_5,hcz42_6⟩:=qc7 BK268.out;obtain ⟨hfz42_0,hfz42_1,hfz42_2,hfz42_3,hfz42_4,hfz42_5,hfz42_6⟩:=qz7 BK268.out)|((with_reducible refine gca (f:=46) rfl ?_);refine gL (some 26) Tryz.func46 #[.slice A0_6 l0_6.length c0_6,.int .i64 t271] ?_;(with_reducible refine (laws_szPastS.calls k _ _ l0_6 t271 t272 _ ?side1 ?side2 A24.out).mono ?_);(case side1=>repeat (first|exact (Kd.C_below HR0_6.out HB.out)|(with_reducible first|refine Kd.C_alloc ?_ _|refine Kd.C_drewN ?_ _|refine Kd.C_drew ?_)));(case side2=>exact HC0_6.out);rintro e w43 ⟨rfl,hb⟩;refine ⟨_,rfl,?_⟩;replace BK268:=As0.mk (bb hb BK268.out);replace HB:=As0.mk (bsp (by repeat (first|(with_reducible first|exact HB.out|apply bal|apply pbN|apply bd1|refine bst ?_ GE268.out)|exact HB.out)) hb);clear hb))
         go_ret
         exact ⟨eW,by repeat (first|(with_reducible first|exact HB.out|apply bal|apply pbN|apply bd1|refine bst ?_ GE268.out)|exact HB.out)⟩
def laws_toSpace.f (a0_0:ByteArray) (a0_1:ByteArray) (a0_2:Int) (a0_3:Bool) (a0_4:Int):Option (ByteArray × ByteArray × Int × Bool × Int):=some (a0_0,a0_1,a0_2,a0_3,a0_4)
set_option maxHeartbeats 40000000 in
set_option maxRecDepth 100000 in
theorem laws_toSpace.calls (a0_0:ByteArray) (a0_1:ByteArray) (a0_2:Int) (a0_3:Bool) (a0_4:Int) (r1:ByteArray) (r2:ByteArray) (r3:Int) (r4:Bool) (r5:Int) (w:World) (h:laws_toSpace.f a0_0 a0_1 a0_2 a0_3 a0_4 = some (r1,r2,r3,r4,r5)) :
 Calls Tryz.prog 83 #[.agg #[.string a0_0,.string a0_1,.int .i64 a0_2,.bool a0_3,.int .i64 a0_4]] w fun e w'=>e = .returned (.agg #[.string r1,.string r2,.int .i64 r3,.bool r4,.int .i64 r5]) ∧ Below w.heap.size w w':=by
 have hu105:=Tryz.underlying105;have hu70:=Tryz.underlying70;have HB:=As0.mk (Below.refl w.heap.size w);have H:(some (a0_0,a0_1,a0_2,a0_3,a0_4)) = some (r1,r2,r3,r4,r5):=h;clear h;simp only [Option.some.injEq,Prod.mk.injEq] at H;obtain ⟨rfl,rfl,rfl,rfl,rfl⟩:=H
 go_enter Tryz.func83,Tryz.ntmps83
 go_wp2_with (first|((with_reducible refine gate_dst (N:=1) rfl ?_);refine bE 1 #[.string a0_0,.string a0_1,.int .i64 a0_2,.bool a0_3,.int .i64 a0_4] 105 ?_;intro gb273 hg w2 hbox hb;have BK273:=As0.mk (hbox);have GW273:=As0.mk ((by rw [hg];exact (bsz (by repeat (first|(with_reducible first|exact HB.out|apply bal|apply pbN|apply bd1)|exact HB.out))):w.heap.size ≤ gb273));have GE273:=GW273;replace HB:=As0.mk (b3 HB.out hb);clear hb hbox hg)|((with_reducible refine gate_dst (N:=2) rfl ?_);refine bE 2 #[.string ⟨#[]⟩,.string ⟨#[]⟩,.int .i64 0,.bool false,.int .i64 0] 70 ?_;intro gb274 hg w3 hbox hb;have BK274:=As0.mk (hbox);have GW274:=As0.mk ((by rw [hg];exact (bsz (by repeat (first|(with_reducible first|exact HB.out|apply bal|apply pbN|apply bd1|refine bst ?_ GE273.out)|exact HB.out))):w.heap.size ≤ gb274));have GE274:=GW274;replace HB:=As0.mk (bsp (by repeat (first|(with_reducible first|exact HB.out|apply bal|apply pbN|apply bd1|refine bst ?_ GE273.out)|exact HB.out)) hb);have NB273_274:=As0.mk ((by rw [hg];exact Nat.ne_of_lt (blk_lt (g:=gb273) (o:=.cells #[.string a0_0,.string a0_1,.int .i64 a0_2,.bool a0_3,.int .i64 a0_4] 105 (0,0)) (by (with_reducible repeat (first|refine bkN ?_ _|refine bkD ?_|refine bkA ?_ _));exact BK273.out)):gb273 ≠ gb274));have NB274_273:=As0.mk (Ne.symm NB273_274.out);replace BK273:=As0.mk (bb hb BK273.out);clear hb hbox hg)|((with_reducible refine gate_dst (N:=3) rfl ?_);refine bE 3 #[.string ⟨#[]⟩,.string ⟨#[]⟩,.int .i64 0,.bool false,.int .i64 0] 70 ?_;intro gb275 hg w4 hbox hb;have BK275:=As0.mk (hbox);have GW275:=As0.mk ((by rw [hg];exact (bsz (by repeat (first|(with_reducible first|exact HB.out|apply bal|apply pbN|apply bd1|refine bst ?_ GE273.out|refine bst ?_ GE274.out)|exact HB.out))):w.heap.size ≤ gb275));have GE275:=GW275;replace HB:=As0.mk (bsp (by repeat (first|(with_reducible first|exact HB.out|apply bal|apply pbN|apply bd1|refine bst ?_ GE273.out|refine bst ?_ GE274.out)|exact HB.out)) hb);have NB273_275:=As0.mk ((by rw [hg];exact Nat.ne_of_lt (blk_lt (g:=gb273) (o:=.cells #[.string a0_0,.string a0_1,.int .i64 a0_2,.bool a0_3,.int .i64 a0_4] 105 (0,0)) (by (with_reducible repeat (first|refine bkN ?_ _|refine bkD ?_|refine bkA ?_ _));exact BK273.out)):gb273 ≠ gb275));have NB275_273:=As0.mk (Ne.symm NB273_275.out);replace BK273:=As0.mk (bb hb BK273.out);have NB274_275:=As0.mk ((by rw [hg];exact Nat.ne_of_lt (blk_lt (g:=gb274) (o:=.cells #[.string ⟨#[]⟩,.string ⟨#[]⟩,.int .i64 0,.bool false,.int .i64 0] 70 (0,0)) (by (with_reducible repeat (first|refine bkN ?_ _|refine bkD ?_|refine bkA ?_ _));exact BK274.out)):gb274 ≠ gb275));have NB275_274:=As0.mk (Ne.symm NB274_275.out);replace BK274:=As0.mk (bb hb BK274.out);clear hb hbox hg;have hnb5:=NB273_274.out;have hnc5:=NB274_273.out;have hnb6:=NB273_275.out;have hnc6:=NB275_273.out;obtain ⟨hcz7_0,hcz7_1,hcz7_2,hcz7_3,hcz7_4⟩:=qc5 BK273.out;obtain ⟨hfz7_0,hfz7_1,hfz7_2,hfz7_3,hfz7_4⟩:=qz5 BK273.out;have hnb8:=NB275_274.out;have hnc8:=NB274_275.out;obtain ⟨hcz9_0,hcz9_1,hcz9_2,hcz9_3,hcz9_4⟩:=qc5 BK275.out;obtain ⟨hfz9_0,hfz9_1,hfz9_2,hfz9_3,hfz9_4⟩:=qz5 BK275.out;obtain ⟨hcz10_0,hcz10_1,hcz10_2,hcz10_3,hcz10_4⟩:=qc5 BK274.out;obtain ⟨hfz10_0,hfz10_1,hfz10_2,hfz10_3,hfz10_4⟩:=qz5 BK274.out))
 refine bodyPost_ret (results_cell_row rfl _ _ gb274 70 #[.string a0_0,.string a0_1,.int .i64 a0_2,.bool a0_3,.int .i64 a0_4] (0,0) _ rfl (by (with_reducible repeat (first|refine bkN ?_ _|refine bkD ?_|refine bkA ?_ _));refine blk_put (cs:=#[.string a0_0,.string a0_1,.int .i64 a0_2,.bool a0_3,.int .i64 0]) ?_ 4 _ rfl;(with_reducible repeat (first|refine bkN ?_ _|refine bkD ?_|refine bkA ?_ _));refine blk_put (cs:=#[.string a0_0,.string a0_1,.int .i64 a0_2,.bool false,.int .i64 0]) ?_ 3 _ rfl;(with_reducible repeat (first|refine bkN ?_ _|refine bkD ?_|refine bkA ?_ _));refine blk_put (cs:=#[.string a0_0,.string a0_1,.int .i64 0,.bool false,.int .i64 0]) ?_ 2 _ rfl;(with_reducible repeat (first|refine bkN ?_ _|refine bkD ?_|refine bkA ?_ _));refine blk_put (cs:=#[.string a0_0,.string ⟨#[]⟩,.int .i64 0,.bool false,.int .i64 0]) ?_ 1 _ rfl;(with_reducible repeat (first|refine bkN ?_ _|refine bkD ?_|refine bkA ?_ _));refine blk_put (cs:=#[.string ⟨#[]⟩,.string ⟨#[]⟩,.int .i64 0,.bool false,.int .i64 0]) ?_ 0 _ rfl;(with_reducible repeat (first|refine bkN ?_ _|refine bkD ?_|refine bkA ?_ _));refine blk_far ?_ NB274_275.out _;(with_reducible repeat (first|refine bkN ?_ _|refine bkD ?_|refine bkA ?_ _));refine blk_far ?_ NB274_275.out _;(with_reducible repeat (first|refine bkN ?_ _|refine bkD ?_|refine bkA ?_ _));refine blk_far ?_ NB274_275.out _;(with_reducible repeat (first|refine bkN ?_ _|refine bkD ?_|refine bkA ?_ _));refine blk_far ?_ NB274_275.out _;(with_reducible repeat (first|refine bkN ?_ _|refine bkD ?_|refine bkA ?_ _));refine blk_far ?_ NB274_275.out _;(with_reducible repeat (first|refine bkN ?_ _|refine bkD ?_|refine bkA ?_ _));exact BK274.out) Tryz.underlying70 rfl (by kernel_rfl)) rfl ?_
 exact ⟨eW,by repeat (first|(with_reducible first|exact HB.out|apply bal|apply pbN|apply bd1|refine bst ?_ GE273.out|refine bst ?_ GE274.out|refine bst ?_ GE275.out)|exact HB.out)⟩
def laws_toSpaceS.l0:Nat → List (SlS33) → List (SiS28) → Int → Option ((List (SiS28)))
 |0,_,_,_=>none
 |k + 1,x0,x3,x4=>if x4 < (x0.length:Int) then (if 0 ≤ x4 then ((laws_toSpace.f ((rlS41 x0 x4).f0) ((rlS41 x0 x4).f1) ((rlS41 x0 x4).f2) ((rlS41 x0 x4).f3) ((rlS41 x0 x4).f4)).bind fun bt280=>(if x4 < (x3.length:Int) then (laws_toSpaceS.l0 k x0 (x3.set (x4:Int).toNat (⟨bt280.1,bt280.2.1,bt280.2.2.1,bt280.2.2.2.1,bt280.2.2.2.2⟩:SiS28)) (wrap64 (x4 + 1))) else (none))) else (none)) else (some x3)
def laws_toSpaceS.f (k:Nat) (l0:List (SlS33)):Option ((List (SiS28))):=if 0 ≤ (l0.length:Int) then (if ((l0.length:Int):Int).toNat ≤ 5026338869833 then (laws_toSpaceS.l0 k l0 (List.replicate ((l0.length:Int):Int).toNat ziS45) 0) else (none)) else (none)
set_option maxHeartbeats 40000000 in
set_option maxRecDepth 100000 in
theorem laws_toSpaceS.calls (k:Nat) (A0:Option Addr) (c0:Nat) (l0:List (SlS33)) (r:List (SiS28)) (w:World) (hr0:Kd.C k105 w A0 l0.length l0) (hc0:l0.length ≤ c0) (h:laws_toSpaceS.f k l0 = some r) :
 Calls Tryz.prog 47 #[.slice A0 l0.length c0] w fun e w'=>∃ v0_:Value,e = .returned (v0_) ∧ Kd.R k70 70 w' w.heap.size (fun _=>True) v0_ r ∧ Below w.heap.size w w':=by
 have hu105:=Tryz.underlying105;have hu70:=Tryz.underlying70;have HR0:=As0.mk hr0;have HC0:=As0.mk hc0;clear hr0 hc0;have HB:=As0.mk (Below.refl w.heap.size w);have H:(if 0 ≤ (l0.length:Int) then (if ((l0.length:Int):Int).toNat ≤ 5026338869833 then (laws_toSpaceS.l0 k l0 (List.replicate ((l0.length:Int):Int).toNat ziS45) 0) else (none)) else (none)) = some r:=h;clear h;by_cases c2:0 ≤ (l0.length:Int)
 · rw [if_pos c2] at H
   have c2b0:=eq_true c2;have c2b1:decide (0 ≤ (l0.length:Int)) = true:=decide_eq_true c2;clear c2;by_cases c3:((l0.length:Int):Int).toNat ≤ 5026338869833
   · rw [if_pos c3] at H
     have c3b0:=eq_true c3;have c3b1:decide (((l0.length:Int):Int).toNat ≤ 5026338869833) = true:=decide_eq_true c3
     (try (have c3xb1:=c3b1;simp only [Int.toNat_natCast] at c3xb1))
     clear c3;obtain ⟨y276,hy276⟩:∃ y_:List (SiS28),y_ = (List.replicate ((l0.length:Int):Int).toNat ziS45):=⟨_,rfl⟩;replace H:(laws_toSpaceS.l0 k l0 y276 0) = some r:=by first|(rw [hy276];with_reducible exact H)|(have H2_:=(Option.bind_some _ _).symm.trans H;rw [hy276];with_reducible exact H2_)|(have H2_:=(Option.bind_some _ _).symm.trans H;with_reducible exact H2_)|with_reducible exact H|(rw [hy276];exact H)|exact H
     have Ny276:=As0.mk hy276;clear hy276;have H':=As0.mk H;clear H
     go_enter Tryz.func47,Tryz.ntmps47
     go_wp2_with (first|((with_reducible refine gate_dst (N:=7) rfl ?_);refine Kd.R_make k70 _ 70 rfl (N:=7) rfl 23 _ _ rfl (l0.length:Int) rfl rfl Tryz.underlying23 (.agg #[(.string ⟨#[]⟩),(.string ⟨#[]⟩),(.int .i64 0),(.bool false),(.int .i64 0)]) 56 info70 rfl (by decide) (by omega) ziS45 (ok:=fun _=>True) (okp:=fun _=>True) (k70_mkM _ _ _ ziS45 ) (fun _ hk=>hk) trivial (odt) (Nat.le_trans (Nat.mul_le_mul_right _ (odt:(l0.length:Int).toNat ≤ 5026338869833)) (by omega)) (Below.refl _ _) (Nat.le_refl _) ?_;intro v277 w4 ho5 hb hg_ hnew_;clear hg_ hnew_;(first|rw [← Ny276.out] at ho5|(simp only [Int.reduceToNat] at ho5;rw [← Ny276.out] at ho5));have HO278:=As0.mk (Kd.R_lower ho5 (bsz (by repeat (first|(with_reducible first|exact HB.out|apply bal|apply pbN|apply bd1)|exact HB.out))));replace HB:=As0.mk (b3 HB.out hb);clear hb ho5))
     show _;go_loopg [4] k (fun kq v4 w'=>∃ (x3_1:List (SiS28)) (x4_1:Int),v4 = .int .i64 x4_1 ∧ As0 (laws_toSpaceS.l0 kq l0 x3_1 x4_1 = some r) ∧ As0 (kq ≤ k) ∧ As0 (Kd.R k70 70 w' w.heap.size (fun _=>True) v277 x3_1) ∧ As0 (Below w.heap.size w w'))
     case atStart=>exact ⟨(y276),(0),(by first|rfl|(simp;done)|(simp [*];done)),H',⟨Nat.le_refl _⟩,⟨by (with_reducible repeat (first|apply Kd.Ral|apply Kd.RdN|apply Kd.R_drew));exact HO278.out⟩,⟨by repeat (first|(with_reducible first|exact HB.out|apply bal|apply pbN|apply bd1)|exact HB.out)⟩⟩
     case round=>
      clear H'
      try clear c2
      try clear c2b0
      try clear c2b1
      try clear p2
      try clear c3
      try clear c3b0
      try clear c3b1
      try clear c4
      obtain ⟨x3_1,x4_1,rfl,HA,HK1,HO_3,HB⟩:=hrel
      cases gk with
      |zero=>exact absurd HA.out (by simp [laws_toSpaceS.l0])
      |succ k1=>
       have H:=HA.out;clear HA;simp only [laws_toSpaceS.l0] at H;by_cases c6:x4_1 < (l0.length:Int)
       · rw [if_pos c6] at H
         have c6b0:decide (x4_1 < (l0.length:Int)) = true:=decide_eq_true c6;clear c6;by_cases c7:0 ≤ x4_1
         · rw [if_pos c7] at H
           have c7b0:decide (0 ≤ x4_1) = true:=decide_eq_true c7;clear c7;replace H:=Option.bind_eq_some_iff.mp H;obtain ⟨⟨t280,t281,t282,t283,t284⟩,A80,H⟩:=H;(try dsimp only at H);have A8:=As0.mk A80;clear A80;by_cases c9:x4_1 < (x3_1.length:Int)
           · rw [if_pos c9] at H
             have c9b0:decide (x4_1 < (x3_1.length:Int)) = true:=decide_eq_true c9;clear c9;obtain ⟨y285,hy285⟩:∃ y_:List (SiS28),y_ = (x3_1.set (x4_1:Int).toNat (⟨t280,t281,t282,t283,t284⟩:SiS28)):=⟨_,rfl⟩;replace H:(laws_toSpaceS.l0 k1 l0 y285 (wrap64 (x4_1 + 1))) = some r:=by first|(rw [hy285];with_reducible exact H)|(have H2_:=(Option.bind_some _ _).symm.trans H;rw [hy285];with_reducible exact H2_)|(have H2_:=(Option.bind_some _ _).symm.trans H;with_reducible exact H2_)|with_reducible exact H|(rw [hy285];exact H)|exact H
             have Ny285:=As0.mk hy285;clear hy285;have H':=As0.mk H;clear H;have p279:0 ≤ (x4_1:Int):=odt;have q279:x4_1 < (l0.length:Int):=odt;obtain ⟨ad279,e279,hx279_0,hx279_1,hx279_2,hx279_3,hx279_4⟩:=at_T105 HR0.out x4_1 p279 q279
             cases e279
             replace hx279_0:=bx HB.out rfl hx279_0;replace hx279_1:=bx HB.out rfl hx279_1;replace hx279_2:=bx HB.out rfl hx279_2;replace hx279_3:=bx HB.out rfl hx279_3;replace hx279_4:=bx HB.out rfl hx279_4;replace p279:=eq_true p279;replace q279:=eq_true q279
             go_wp2_with (first|((with_reducible refine gca (f:=83) rfl ?_);refine gL (some 20) Tryz.func83 #[.agg #[.string ((rlS41 l0 x4_1).f0),.string ((rlS41 l0 x4_1).f1),.int .i64 ((rlS41 l0 x4_1).f2),.bool ((rlS41 l0 x4_1).f3),.int .i64 ((rlS41 l0 x4_1).f4)]] ?_;(with_reducible refine (laws_toSpace.calls ((rlS41 l0 x4_1).f0) ((rlS41 l0 x4_1).f1) ((rlS41 l0 x4_1).f2) ((rlS41 l0 x4_1).f3) ((rlS41 l0 x4_1).f4) t280 t281 t282 t283 t284 _ A8.out).mono ?_);rintro e w11 ⟨rfl,hb⟩;refine ⟨_,rfl,?_⟩;replace HO_3:=As0.mk (Kd.R_below (by (with_reducible repeat (first|apply Kd.Ral|apply Kd.RdN|apply Kd.R_drew));exact HO_3.out) hb);replace HB:=As0.mk (b3 HB.out hb);clear hb;have p10:0 ≤ (x4_1:Int):=odt;have q10:(x4_1:Int) < ((x3_1.length:Int):Int):=odt;obtain ⟨go10,co10,eo10,gb10,gl10,cl10,HG10⟩:=Kd.R_form HO_3.out (by omega);(first|cases eo10|(injection eo10 with ea_ en_ ec_;(first|subst ea_|(injection ea_ with ea_;subst ea_));subst ec_;clear en_));have GB10:=As0.mk gb10;have GG10:=As0.mk HG10;clear gb10 gl10 HG10;obtain ⟨ce10,hcl10,hM10,hcc10,hfr10⟩:=Kd.R_elem HO_3.out ziS45 (x4_1:Int) p10 q10;obtain rfl:=k70_openM hM10;have hx10_0:w11.cell? ⟨go10,(x4_1:Int).toNat * 5,none⟩ = some (.string ((riS37 x3_1 x4_1).f0)):=hcc10 0 _ rfl;have hx10_1:w11.cell? ⟨go10,(x4_1:Int).toNat * 5 + 1,none⟩ = some (.string ((riS37 x3_1 x4_1).f1)):=hcc10 1 _ rfl;have hx10_2:w11.cell? ⟨go10,(x4_1:Int).toNat * 5 + 2,none⟩ = some (.int .i64 ((riS37 x3_1 x4_1).f2)):=hcc10 2 _ rfl;have hx10_3:w11.cell? ⟨go10,(x4_1:Int).toNat * 5 + 3,none⟩ = some (.bool ((riS37 x3_1 x4_1).f3)):=hcc10 3 _ rfl;have hx10_4:w11.cell? ⟨go10,(x4_1:Int).toNat * 5 + 4,none⟩ = some (.int .i64 ((riS37 x3_1 x4_1).f4)):=hcc10 4 _ rfl;have hf10_0:w11.frozen? ⟨go10,(x4_1:Int).toNat * 5,none⟩ = false:=hfr10 0;have hf10_1:w11.frozen? ⟨go10,(x4_1:Int).toNat * 5 + 1,none⟩ = false:=hfr10 1;have hf10_2:w11.frozen? ⟨go10,(x4_1:Int).toNat * 5 + 2,none⟩ = false:=hfr10 2;have hf10_3:w11.frozen? ⟨go10,(x4_1:Int).toNat * 5 + 3,none⟩ = false:=hfr10 3;have hf10_4:w11.frozen? ⟨go10,(x4_1:Int).toNat * 5 + 4,none⟩ = false:=hfr10 4;clear hcl10 hcc10 hfr10 hM10;replace p10:=eq_true p10;replace q10:=eq_true q10;have HX12:=As0.mk (show Kd.R k70 70 w11 w.heap.size (fun _=>True) (.slice (some ⟨go10,0,none⟩) x3_1.length co10) x3_1 from (by (with_reducible repeat (first|apply Kd.Ral|apply Kd.RdN|apply Kd.R_drew));exact HO_3.out));obtain ⟨ce12,hcl12,hM12,hcc12,hfr12⟩:=Kd.R_elem HX12.out ziS45 (x4_1:Int) (odt) (by have h_:(x4_1:Int) < ((x3_1.length:Int):Int):=odt;first|exact h_|(have e_:=(Kd.R_reads' HO_3.out).1;omega)|simpa using h_);obtain rfl:=k70_openM hM12;have HP12:=Kd.R_seg HX12.out (x4_1:Int) (odt) (by have h_:(x4_1:Int) < ((x3_1.length:Int):Int):=odt;first|exact h_|(have e_:=(Kd.R_reads' HO_3.out).1;omega)|simpa using h_) (seg:=[.string t280,.string t281,.int .i64 t282,.bool t283,.int .i64 t284]) (j:=0) hcl12 hcc12 (show 5 ≤ 5 from by decide) (x':=(⟨t280,t281,t282,t283,t284⟩:SiS28)) (k70_mkM _ _ _ (⟨t280,t281,t282,t283,t284⟩:SiS28) ) (fun _ hk=>hk);have hx12_0:=hcc12 0 _ rfl;(try simp only [show (k70).sz = 5 from rfl,Nat.mul_one,Nat.add_zero] at hx12_0);have hf12_0:=hfr12 0;(try simp only [show (k70).sz = 5 from rfl,Nat.mul_one,Nat.add_zero] at hf12_0);have hx12_1:=hcc12 1 _ rfl;(try simp only [show (k70).sz = 5 from rfl,Nat.mul_one,Nat.add_zero] at hx12_1);have hf12_1:=hfr12 1;(try simp only [show (k70).sz = 5 from rfl,Nat.mul_one,Nat.add_zero] at hf12_1);have hx12_2:=hcc12 2 _ rfl;(try simp only [show (k70).sz = 5 from rfl,Nat.mul_one,Nat.add_zero] at hx12_2);have hf12_2:=hfr12 2;(try simp only [show (k70).sz = 5 from rfl,Nat.mul_one,Nat.add_zero] at hf12_2);have hx12_3:=hcc12 3 _ rfl;(try simp only [show (k70).sz = 5 from rfl,Nat.mul_one,Nat.add_zero] at hx12_3);have hf12_3:=hfr12 3;(try simp only [show (k70).sz = 5 from rfl,Nat.mul_one,Nat.add_zero] at hf12_3);have hx12_4:=hcc12 4 _ rfl;(try simp only [show (k70).sz = 5 from rfl,Nat.mul_one,Nat.add_zero] at hx12_4);have hf12_4:=hfr12 4;(try simp only [show (k70).sz = 5 from rfl,Nat.mul_one,Nat.add_zero] at hf12_4);clear hcl12 hcc12 hfr12 hM12)|((with_reducible refine gate_store (t:=70) (p:=21) rfl ?_);refine store_event (t:=70) (p:=21) (v:=?vo_w13) (w1:=(((((w11.setCell ⟨go10,(x4_1:Int).toNat * 5,none⟩ (.string t280)).setCell ⟨go10,(x4_1:Int).toNat * 5 + 1,none⟩ (.string t281)).setCell ⟨go10,(x4_1:Int).toNat * 5 + 2,none⟩ (.int .i64 t282)).setCell ⟨go10,(x4_1:Int).toNat * 5 + 3,none⟩ (.bool t283)).setCell ⟨go10,(x4_1:Int).toNat * 5 + 4,none⟩ (.int .i64 t284))) ?hg ?ho ?hn ?hr ?_;(case ho=>rfl);(case hg=>rfl);(case hn=>rfl);(case hr=>first|(go_simp;done)|(go_simp;rfl));intro w13 hw;have hg:w11.grownBy w13 (some go10):=(by rw [hw];exact HP12.2);have hp_:Kd.R k70 70 w13 w.heap.size (fun _=>True) (.slice (some ⟨go10,0,none⟩) x3_1.length co10) y285:=(by rw [hw,Ny285.out];exact HP12.1);clear HP12;replace HO_3:=As0.mk (hp_);replace HB:=As0.mk ((by rw [hw];exact bst (bst (bst (bst (bst (HB.out) GB10.out) GB10.out) GB10.out) GB10.out) GB10.out:Below w.heap.size w w13));clear hg hw hp_))
             show _;go_roundg k1
             case measure=>have:=HK1.out;omega
             case rel=>exact ⟨(y285),(wrap64 (x4_1 + 1)),(by first|rfl|(simp;done)|(simp [*];done)),H',⟨by have:=HK1.out;omega⟩,⟨by (with_reducible repeat (first|apply Kd.Ral|apply Kd.RdN|apply Kd.R_drew));exact HO_3.out⟩,⟨by repeat (first|(with_reducible first|exact HB.out|apply bal|apply pbN|apply bd1)|exact HB.out)⟩⟩
           · rw [if_neg c9] at H
             exact absurd H (by simp)
         · rw [if_neg c7] at H
           exact absurd H (by simp)
       · rw [if_neg c6] at H
         have c6b0:decide (x4_1 < (l0.length:Int)) = false:=decide_eq_false c6;clear c6;obtain rfl:=Option.some.inj H
         go_wp2
         go_ret
         exact ⟨_,by first|rfl|(simp [errW_none,errW_some] <;> rfl)|(simp [*,errW_none,errW_some] <;> rfl),by (with_reducible repeat (first|apply Kd.Ral|apply Kd.RdN|apply Kd.R_drew));exact HO_3.out,by repeat (first|(with_reducible first|exact HB.out|apply bal|apply pbN|apply bd1)|exact HB.out)⟩
   · rw [if_neg c3] at H
     exact absurd H (by simp)
 · rw [if_neg c2] at H
   exact absurd H (by simp)
def laws_toUse.f (a0_0:ByteArray) (a0_1:Int):Option (ByteArray × Int):=some (a0_0,a0_1)
set_option maxHeartbeats 40000000 in
set_option maxRecDepth 100000 in
theorem laws_toUse.calls (a0_0:ByteArray) (a0_1:Int) (r1:ByteArray) (r2:Int) (w:World) (h:laws_toUse.f a0_0 a0_1 = some (r1,r2)) :
 Calls Tryz.prog 84 #[.agg #[.string a0_0,.int .i64 a0_1]] w fun e w'=>e = .returned (.agg #[.string r1,.int .i64 r2]) ∧ Below w.heap.size w w':=by
 have hu107:=Tryz.underlying107;have hu72:=Tryz.underlying72;have HB:=As0.mk (Below.refl w.heap.size w);have H:(some (a0_0,a0_1)) = some (r1,r2):=h;clear h;simp only [Option.some.injEq,Prod.mk.injEq] at H;obtain ⟨rfl,rfl⟩:=H
 go_enter Tryz.func84,Tryz.ntmps84
 go_wp2_with (first|((with_reducible refine gate_dst (N:=1) rfl ?_);refine bE 1 #[.string a0_0,.int .i64 a0_1] 107 ?_;intro gb286 hg w2 hbox hb;have BK286:=As0.mk (hbox);have GW286:=As0.mk ((by rw [hg];exact (bsz (by repeat (first|(with_reducible first|exact HB.out|apply bal|apply pbN|apply bd1)|exact HB.out))):w.heap.size ≤ gb286));have GE286:=GW286;replace HB:=As0.mk (b3 HB.out hb);clear hb hbox hg)|((with_reducible refine gate_dst (N:=2) rfl ?_);refine bE 2 #[.string ⟨#[]⟩,.int .i64 0] 72 ?_;intro gb287 hg w3 hbox hb;have BK287:=As0.mk (hbox);have GW287:=As0.mk ((by rw [hg];exact (bsz (by repeat (first|(with_reducible first|exact HB.out|apply bal|apply pbN|apply bd1|refine bst ?_ GE286.out)|exact HB.out))):w.heap.size ≤ gb287));have GE287:=GW287;replace HB:=As0.mk (bsp (by repeat (first|(with_reducible first|exact HB.out|apply bal|apply pbN|apply bd1|refine bst ?_ GE286.out)|exact HB.out)) hb);have NB286_287:=As0.mk ((by rw [hg];exact Nat.ne_of_lt (blk_lt (g:=gb286) (o:=.cells #[.string a0_0,.int .i64 a0_1] 107 (0,0)) (by (with_reducible repeat (first|refine bkN ?_ _|refine bkD ?_|refine bkA ?_ _));exact BK286.out)):gb286 ≠ gb287));have NB287_286:=As0.mk (Ne.symm NB286_287.out);replace BK286:=As0.mk (bb hb BK286.out);clear hb hbox hg)|((with_reducible refine gate_dst (N:=3) rfl ?_);refine bE 3 #[.string ⟨#[]⟩,.int .i64 0] 72 ?_;intro gb288 hg w4 hbox hb;have BK288:=As0.mk (hbox);have GW288:=As0.mk ((by rw [hg];exact (bsz (by repeat (first|(with_reducible first|exact HB.out|apply bal|apply pbN|apply bd1|refine bst ?_ GE286.out|refine bst ?_ GE287.out)|exact HB.out))):w.heap.size ≤ gb288));have GE288:=GW288;replace HB:=As0.mk (bsp (by repeat (first|(with_reducible first|exact HB.out|apply bal|apply pbN|apply bd1|refine bst ?_ GE286.out|refine bst ?_ GE287.out)|exact HB.out)) hb);have NB286_288:=As0.mk ((by rw [hg];exact Nat.ne_of_lt (blk_lt (g:=gb286) (o:=.cells #[.string a0_0,.int .i64 a0_1] 107 (0,0)) (by (with_reducible repeat (first|refine bkN ?_ _|refine bkD ?_|refine bkA ?_ _));exact BK286.out)):gb286 ≠ gb288));have NB288_286:=As0.mk (Ne.symm NB286_288.out);replace BK286:=As0.mk (bb hb BK286.out);have NB287_288:=As0.mk ((by rw [hg];exact Nat.ne_of_lt (blk_lt (g:=gb287) (o:=.cells #[.string ⟨#[]⟩,.int .i64 0] 72 (0,0)) (by (with_reducible repeat (first|refine bkN ?_ _|refine bkD ?_|refine bkA ?_ _));exact BK287.out)):gb287 ≠ gb288));have NB288_287:=As0.mk (Ne.symm NB287_288.out);replace BK287:=As0.mk (bb hb BK287.out);clear hb hbox hg;have hnb5:=NB286_287.out;have hnc5:=NB287_286.out;have hnb6:=NB286_288.out;have hnc6:=NB288_286.out;obtain ⟨hcz7_0,hcz7_1⟩:=qc2 BK286.out;obtain ⟨hfz7_0,hfz7_1⟩:=qz2 BK286.out;have hnb8:=NB288_287.out;have hnc8:=NB287_288.out;obtain ⟨hcz9_0,hcz9_1⟩:=qc2 BK288.out;obtain ⟨hfz9_0,hfz9_1⟩:=qz2 BK288.out;obtain ⟨hcz10_0,hcz10_1⟩:=qc2 BK287.out;obtain ⟨hfz10_0,hfz10_1⟩:=qz2 BK287.out))
 refine bodyPost_ret (results_cell_row rfl _ _ gb287 72 #[.string a0_0,.int .i64 a0_1] (0,0) _ rfl (by (with_reducible repeat (first|refine bkN ?_ _|refine bkD ?_|refine bkA ?_ _));refine blk_put (cs:=#[.string a0_0,.int .i64 0]) ?_ 1 _ rfl;(with_reducible repeat (first|refine bkN ?_ _|refine bkD ?_|refine bkA ?_ _));refine blk_put (cs:=#[.string ⟨#[]⟩,.int .i64 0]) ?_ 0 _ rfl;(with_reducible repeat (first|refine bkN ?_ _|refine bkD ?_|refine bkA ?_ _));refine blk_far ?_ NB287_288.out _;(with_reducible repeat (first|refine bkN ?_ _|refine bkD ?_|refine bkA ?_ _));refine blk_far ?_ NB287_288.out _;(with_reducible repeat (first|refine bkN ?_ _|refine bkD ?_|refine bkA ?_ _));exact BK287.out) Tryz.underlying72 rfl (by kernel_rfl)) rfl ?_
 exact ⟨eW,by repeat (first|(with_reducible first|exact HB.out|apply bal|apply pbN|apply bd1|refine bst ?_ GE286.out|refine bst ?_ GE287.out|refine bst ?_ GE288.out)|exact HB.out)⟩
def laws_toUseS.l0:Nat → List (SlU35) → List (SiU30) → Int → Option ((List (SiU30)))
 |0,_,_,_=>none
 |k + 1,x0,x3,x4=>if x4 < (x0.length:Int) then (if 0 ≤ x4 then ((laws_toUse.f ((rlU43 x0 x4).f0) ((rlU43 x0 x4).f1)).bind fun bt293=>(if x4 < (x3.length:Int) then (laws_toUseS.l0 k x0 (x3.set (x4:Int).toNat (⟨bt293.1,bt293.2⟩:SiU30)) (wrap64 (x4 + 1))) else (none))) else (none)) else (some x3)
def laws_toUseS.f (k:Nat) (l0:List (SlU35)):Option ((List (SiU30))):=if 0 ≤ (l0.length:Int) then (if ((l0.length:Int):Int).toNat ≤ 11728124029610 then (laws_toUseS.l0 k l0 (List.replicate ((l0.length:Int):Int).toNat ziU47) 0) else (none)) else (none)
set_option maxHeartbeats 40000000 in
set_option maxRecDepth 100000 in
theorem laws_toUseS.calls (k:Nat) (A0:Option Addr) (c0:Nat) (l0:List (SlU35)) (r:List (SiU30)) (w:World) (hr0:Kd.C k107 w A0 l0.length l0) (hc0:l0.length ≤ c0) (h:laws_toUseS.f k l0 = some r) :
 Calls Tryz.prog 48 #[.slice A0 l0.length c0] w fun e w'=>∃ v0_:Value,e = .returned (v0_) ∧ Kd.R k72 72 w' w.heap.size (fun _=>True) v0_ r ∧ Below w.heap.size w w':=by
 have hu107:=Tryz.underlying107;have hu72:=Tryz.underlying72;have HR0:=As0.mk hr0;have HC0:=As0.mk hc0;clear hr0 hc0;have HB:=As0.mk (Below.refl w.heap.size w);have H:(if 0 ≤ (l0.length:Int) then (if ((l0.length:Int):Int).toNat ≤ 11728124029610 then (laws_toUseS.l0 k l0 (List.replicate ((l0.length:Int):Int).toNat ziU47) 0) else (none)) else (none)) = some r:=h;clear h;by_cases c2:0 ≤ (l0.length:Int)
 · rw [if_pos c2] at H
   have c2b0:=eq_true c2;have c2b1:decide (0 ≤ (l0.length:Int)) = true:=decide_eq_true c2;clear c2;by_cases c3:((l0.length:Int):Int).toNat ≤ 11728124029610
   · rw [if_pos c3] at H
     have c3b0:=eq_true c3;have c3b1:decide (((l0.length:Int):Int).toNat ≤ 11728124029610) = true:=decide_eq_true c3
     (try (have c3xb1:=c3b1;simp only [Int.toNat_natCast] at c3xb1))
     clear c3;obtain ⟨y289,hy289⟩:∃ y_:List (SiU30),y_ = (List.replicate ((l0.length:Int):Int).toNat ziU47):=⟨_,rfl⟩;replace H:(laws_toUseS.l0 k l0 y289 0) = some r:=by first|(rw [hy289];with_reducible exact H)|(have H2_:=(Option.bind_some _ _).symm.trans H;rw [hy289];with_reducible exact H2_)|(have H2_:=(Option.bind_some _ _).symm.trans H;with_reducible exact H2_)|with_reducible exact H|(rw [hy289];exact H)|exact H
     have Ny289:=As0.mk hy289;clear hy289;have H':=As0.mk H;clear H
     go_enter Tryz.func48,Tryz.ntmps48
     go_wp2_with (first|((with_reducible refine gate_dst (N:=7) rfl ?_);refine Kd.R_make k72 _ 72 rfl (N:=7) rfl 24 _ _ rfl (l0.length:Int) rfl rfl Tryz.underlying24 (.agg #[(.string ⟨#[]⟩),(.int .i64 0)]) 24 info72 rfl (by decide) (by omega) ziU47 (ok:=fun _=>True) (okp:=fun _=>True) (k72_mkM _ _ _ ziU47 ) (fun _ hk=>hk) trivial (odt) (Nat.le_trans (Nat.mul_le_mul_right _ (odt:(l0.length:Int).toNat ≤ 11728124029610)) (by omega)) (Below.refl _ _) (Nat.le_refl _) ?_;intro v290 w4 ho5 hb hg_ hnew_;clear hg_ hnew_;(first|rw [← Ny289.out] at ho5|(simp only [Int.reduceToNat] at ho5;rw [← Ny289.out] at ho5));have HO291:=As0.mk (Kd.R_lower ho5 (bsz (by repeat (first|(with_reducible first|exact HB.out|apply bal|apply pbN|apply bd1)|exact HB.out))));replace HB:=As0.mk (b3 HB.out hb);clear hb ho5))
     show _;go_loopg [4] k (fun kq v4 w'=>∃ (x3_1:List (SiU30)) (x4_1:Int),v4 = .int .i64 x4_1 ∧ As0 (laws_toUseS.l0 kq l0 x3_1 x4_1 = some r) ∧ As0 (kq ≤ k) ∧ As0 (Kd.R k72 72 w' w.heap.size (fun _=>True) v290 x3_1) ∧ As0 (Below w.heap.size w w'))
     case atStart=>exact ⟨(y289),(0),(by first|rfl|(simp;done)|(simp [*];done)),H',⟨Nat.le_refl _⟩,⟨by (with_reducible repeat (first|apply Kd.Ral|apply Kd.RdN|apply Kd.R_drew));exact HO291.out⟩,⟨by repeat (first|(with_reducible first|exact HB.out|apply bal|apply pbN|apply bd1)|exact HB.out)⟩⟩
     case round=>
      clear H'
      try clear c2
      try clear c2b0
      try clear c2b1
      try clear p2
      try clear c3
      try clear c3b0
      try clear c3b1
      try clear c4
      obtain ⟨x3_1,x4_1,rfl,HA,HK1,HO_3,HB⟩:=hrel
      cases gk with
      |zero=>exact absurd HA.out (by simp [laws_toUseS.l0])
      |succ k1=>
       have H:=HA.out;clear HA;simp only [laws_toUseS.l0] at H;by_cases c6:x4_1 < (l0.length:Int)
       · rw [if_pos c6] at H
         have c6b0:decide (x4_1 < (l0.length:Int)) = true:=decide_eq_true c6;clear c6;by_cases c7:0 ≤ x4_1
         · rw [if_pos c7] at H
           have c7b0:decide (0 ≤ x4_1) = true:=decide_eq_true c7;clear c7;replace H:=Option.bind_eq_some_iff.mp H;obtain ⟨⟨t293,t294⟩,A80,H⟩:=H;(try dsimp only at H);have A8:=As0.mk A80;clear A80;by_cases c9:x4_1 < (x3_1.length:Int)
           · rw [if_pos c9] at H
             have c9b0:decide (x4_1 < (x3_1.length:Int)) = true:=decide_eq_true c9;clear c9;obtain ⟨y295,hy295⟩:∃ y_:List (SiU30),y_ = (x3_1.set (x4_1:Int).toNat (⟨t293,t294⟩:SiU30)):=⟨_,rfl⟩;replace H:(laws_toUseS.l0 k1 l0 y295 (wrap64 (x4_1 + 1))) = some r:=by first|(rw [hy295];with_reducible exact H)|(have H2_:=(Option.bind_some _ _).symm.trans H;rw [hy295];with_reducible exact H2_)|(have H2_:=(Option.bind_some _ _).symm.trans H;with_reducible exact H2_)|with_reducible exact H|(rw [hy295];exact H)|exact H
             have Ny295:=As0.mk hy295;clear hy295;have H':=As0.mk H;clear H;have p292:0 ≤ (x4_1:Int):=odt;have q292:x4_1 < (l0.length:Int):=odt;obtain ⟨ad292,e292,hx292_0,hx292_1⟩:=at_T107 HR0.out x4_1 p292 q292
             cases e292
             replace hx292_0:=bx HB.out rfl hx292_0;replace hx292_1:=bx HB.out rfl hx292_1;replace p292:=eq_true p292;replace q292:=eq_true q292
             go_wp2_with (first|((with_reducible refine gca (f:=84) rfl ?_);refine gL (some 20) Tryz.func84 #[.agg #[.string ((rlU43 l0 x4_1).f0),.int .i64 ((rlU43 l0 x4_1).f1)]] ?_;(with_reducible refine (laws_toUse.calls ((rlU43 l0 x4_1).f0) ((rlU43 l0 x4_1).f1) t293 t294 _ A8.out).mono ?_);rintro e w11 ⟨rfl,hb⟩;refine ⟨_,rfl,?_⟩;replace HO_3:=As0.mk (Kd.R_below (by (with_reducible repeat (first|apply Kd.Ral|apply Kd.RdN|apply Kd.R_drew));exact HO_3.out) hb);replace HB:=As0.mk (b3 HB.out hb);clear hb;have p10:0 ≤ (x4_1:Int):=odt;have q10:(x4_1:Int) < ((x3_1.length:Int):Int):=odt;obtain ⟨go10,co10,eo10,gb10,gl10,cl10,HG10⟩:=Kd.R_form HO_3.out (by omega);(first|cases eo10|(injection eo10 with ea_ en_ ec_;(first|subst ea_|(injection ea_ with ea_;subst ea_));subst ec_;clear en_));have GB10:=As0.mk gb10;have GG10:=As0.mk HG10;clear gb10 gl10 HG10;obtain ⟨ce10,hcl10,hM10,hcc10,hfr10⟩:=Kd.R_elem HO_3.out ziU47 (x4_1:Int) p10 q10;obtain rfl:=k72_openM hM10;have hx10_0:w11.cell? ⟨go10,(x4_1:Int).toNat * 2,none⟩ = some (.string ((riU39 x3_1 x4_1).f0)):=hcc10 0 _ rfl;have hx10_1:w11.cell? ⟨go10,(x4_1:Int).toNat * 2 + 1,none⟩ = some (.int .i64 ((riU39 x3_1 x4_1).f1)):=hcc10 1 _ rfl;have hf10_0:w11.frozen? ⟨go10,(x4_1:Int).toNat * 2,none⟩ = false:=hfr10 0;have hf10_1:w11.frozen? ⟨go10,(x4_1:Int).toNat * 2 + 1,none⟩ = false:=hfr10 1;clear hcl10 hcc10 hfr10 hM10;replace p10:=eq_true p10;replace q10:=eq_true q10;have HX12:=As0.mk (show Kd.R k72 72 w11 w.heap.size (fun _=>True) (.slice (some ⟨go10,0,none⟩) x3_1.length co10) x3_1 from (by (with_reducible repeat (first|apply Kd.Ral|apply Kd.RdN|apply Kd.R_drew));exact HO_3.out));obtain ⟨ce12,hcl12,hM12,hcc12,hfr12⟩:=Kd.R_elem HX12.out ziU47 (x4_1:Int) (odt) (by have h_:(x4_1:Int) < ((x3_1.length:Int):Int):=odt;first|exact h_|(have e_:=(Kd.R_reads' HO_3.out).1;omega)|simpa using h_);obtain rfl:=k72_openM hM12;have HP12:=Kd.R_seg HX12.out (x4_1:Int) (odt) (by have h_:(x4_1:Int) < ((x3_1.length:Int):Int):=odt;first|exact h_|(have e_:=(Kd.R_reads' HO_3.out).1;omega)|simpa using h_) (seg:=[.string t293,.int .i64 t294]) (j:=0) hcl12 hcc12 (show 2 ≤ 2 from by decide) (x':=(⟨t293,t294⟩:SiU30)) (k72_mkM _ _ _ (⟨t293,t294⟩:SiU30) ) (fun _ hk=>hk);have hx12_0:=hcc12 0 _ rfl;(try simp only [show (k72).sz = 2 from rfl,Nat.mul_one,Nat.add_zero] at hx12_0);have hf12_0:=hfr12 0;(try simp only [show (k72).sz = 2 from rfl,Nat.mul_one,Nat.add_zero] at hf12_0);have hx12_1:=hcc12 1 _ rfl;(try simp only [show (k72).sz = 2 from rfl,Nat.mul_one,Nat.add_zero] at hx12_1);have hf12_1:=hfr12 1;(try simp only [show (k72).sz = 2 from rfl,Nat.mul_one,Nat.add_zero] at hf12_1);clear hcl12 hcc12 hfr12 hM12)|((with_reducible refine gate_store (t:=72) (p:=21) rfl ?_);refine store_event (t:=72) (p:=21) (v:=?vo_w13) (w1:=((w11.setCell ⟨go10,(x4_1:Int).toNat * 2,none⟩ (.string t293)).setCell ⟨go10,(x4_1:Int).toNat * 2 + 1,none⟩ (.int .i64 t294))) ?hg ?ho ?hn ?hr ?_;(case ho=>rfl);(case hg=>rfl);(case hn=>rfl);(case hr=>first|(go_simp;done)|(go_simp;rfl));intro w13 hw;have hg:w11.grownBy w13 (some go10):=(by rw [hw];exact HP12.2);have hp_:Kd.R k72 72 w13 w.heap.size (fun _=>True) (.slice (some ⟨go10,0,none⟩) x3_1.length co10) y295:=(by rw [hw,Ny295.out];exact HP12.1);clear HP12;replace HO_3:=As0.mk (hp_);replace HB:=As0.mk ((by rw [hw];exact bst (bst (HB.out) GB10.out) GB10.out:Below w.heap.size w w13));clear hg hw hp_))
             show _;go_roundg k1
             case measure=>have:=HK1.out;omega
             case rel=>exact ⟨(y295),(wrap64 (x4_1 + 1)),(by first|rfl|(simp;done)|(simp [*];done)),H',⟨by have:=HK1.out;omega⟩,⟨by (with_reducible repeat (first|apply Kd.Ral|apply Kd.RdN|apply Kd.R_drew));exact HO_3.out⟩,⟨by repeat (first|(with_reducible first|exact HB.out|apply bal|apply pbN|apply bd1)|exact HB.out)⟩⟩
           · rw [if_neg c9] at H
             exact absurd H (by simp)
         · rw [if_neg c7] at H
           exact absurd H (by simp)
       · rw [if_neg c6] at H
         have c6b0:decide (x4_1 < (l0.length:Int)) = false:=decide_eq_false c6;clear c6;obtain rfl:=Option.some.inj H
         go_wp2
         go_ret
         exact ⟨_,by first|rfl|(simp [errW_none,errW_some] <;> rfl)|(simp [*,errW_none,errW_some] <;> rfl),by (with_reducible repeat (first|apply Kd.Ral|apply Kd.RdN|apply Kd.R_drew));exact HO_3.out,by repeat (first|(with_reducible first|exact HB.out|apply bal|apply pbN|apply bd1)|exact HB.out)⟩
   · rw [if_neg c3] at H
     exact absurd H (by simp)
 · rw [if_neg c2] at H
   exact absurd H (by simp)
def laws_toStringS.l0:Nat → List ByteArray → List ByteArray → Int → Option (List ByteArray)
 |0,_,_,_=>none
 |k + 1,x0,x3,x4=>if x4 < (x0.length:Int) then (if 0 ≤ x4 then (if x4 < (x3.length:Int) then (laws_toStringS.l0 k x0 (x3.set (x4:Int).toNat (rdOf ByteArray.empty x0 x4)) (wrap64 (x4 + 1))) else (none)) else (none)) else (some x3)
def laws_toStringS.f (k:Nat) (l0:List ByteArray):Option (List ByteArray):=if 0 ≤ (l0.length:Int) then (if ((l0.length:Int):Int).toNat ≤ 17592186044416 then (laws_toStringS.l0 k l0 (List.replicate ((l0.length:Int):Int).toNat (⟨#[]⟩:ByteArray)) 0) else (none)) else (none)
set_option maxHeartbeats 40000000 in
set_option maxRecDepth 100000 in
theorem laws_toStringS.calls (k:Nat) (A0:Option Addr) (c0:Nat) (l0:List ByteArray) (r:List ByteArray) (w:World) (hr0:Kd.C Kd.string w A0 l0.length l0) (hc0:l0.length ≤ c0) (h:laws_toStringS.f k l0 = some r) :
 Calls Tryz.prog 112 #[.slice A0 l0.length c0] w fun e w'=>∃ v0_:Value,e = .returned (v0_) ∧ Kd.R Kd.string 9 w' w.heap.size (fun _=>True) v0_ r ∧ Below w.heap.size w w':=by
 have HR0:=As0.mk hr0;have HC0:=As0.mk hc0;clear hr0 hc0;have HB:=As0.mk (Below.refl w.heap.size w);have H:(if 0 ≤ (l0.length:Int) then (if ((l0.length:Int):Int).toNat ≤ 17592186044416 then (laws_toStringS.l0 k l0 (List.replicate ((l0.length:Int):Int).toNat (⟨#[]⟩:ByteArray)) 0) else (none)) else (none)) = some r:=h;clear h;by_cases c2:0 ≤ (l0.length:Int)
 · rw [if_pos c2] at H
   have c2b0:=eq_true c2;have c2b1:decide (0 ≤ (l0.length:Int)) = true:=decide_eq_true c2;clear c2;by_cases c3:((l0.length:Int):Int).toNat ≤ 17592186044416
   · rw [if_pos c3] at H
     have c3b0:=eq_true c3;have c3b1:decide (((l0.length:Int):Int).toNat ≤ 17592186044416) = true:=decide_eq_true c3
     (try (have c3xb1:=c3b1;simp only [Int.toNat_natCast] at c3xb1))
     clear c3;obtain ⟨y296,hy296⟩:∃ y_:List ByteArray,y_ = (List.replicate ((l0.length:Int):Int).toNat (⟨#[]⟩:ByteArray)):=⟨_,rfl⟩;replace H:(laws_toStringS.l0 k l0 y296 0) = some r:=by first|(rw [hy296];with_reducible exact H)|(have H2_:=(Option.bind_some _ _).symm.trans H;rw [hy296];with_reducible exact H2_)|(have H2_:=(Option.bind_some _ _).symm.trans H;with_reducible exact H2_)|with_reducible exact H|(rw [hy296];exact H)|exact H
     have Ny296:=As0.mk hy296;clear hy296;have H':=As0.mk H;clear H
     go_enter Tryz.func112,Tryz.ntmps112
     go_wp2_with (first|((with_reducible refine gate_dst (N:=7) rfl ?_);refine Kd.R_make Kd.string _ 9 rfl (N:=7) rfl 40 _ _ rfl (l0.length:Int) rfl rfl Tryz.underlying40 (.string ⟨#[]⟩) 16 info9 rfl (by decide) (by omega) (⟨#[]⟩:ByteArray) (ok:=fun _=>True) (okp:=fun _=>True) rfl (fun _ hk=>hk) trivial (odt) (Nat.le_trans (Nat.mul_le_mul_right _ (odt:(l0.length:Int).toNat ≤ 17592186044416)) (by omega)) (Below.refl _ _) (Nat.le_refl _) ?_;intro v297 w4 ho5 hb hg_ hnew_;clear hg_ hnew_;(first|rw [← Ny296.out] at ho5|(simp only [Int.reduceToNat] at ho5;rw [← Ny296.out] at ho5));have HO298:=As0.mk (Kd.R_lower ho5 (bsz (by repeat (first|(with_reducible first|exact HB.out|apply bal|apply pbN|apply bd1)|exact HB.out))));replace HB:=As0.mk (b3 HB.out hb);clear hb ho5))
     show _;go_loopg [4] k (fun kq v4 w'=>∃ (x3_1:List ByteArray) (x4_1:Int),v4 = .int .i64 x4_1 ∧ As0 (laws_toStringS.l0 kq l0 x3_1 x4_1 = some r) ∧ As0 (kq ≤ k) ∧ As0 (Kd.R Kd.string 9 w' w.heap.size (fun _=>True) v297 x3_1) ∧ As0 (Below w.heap.size w w'))
     case atStart=>exact ⟨(y296),(0),(by first|rfl|(simp;done)|(simp [*];done)),H',⟨Nat.le_refl _⟩,⟨by (with_reducible repeat (first|apply Kd.Ral|apply Kd.RdN|apply Kd.R_drew));exact HO298.out⟩,⟨by repeat (first|(with_reducible first|exact HB.out|apply bal|apply pbN|apply bd1)|exact HB.out)⟩⟩
     case round=>
      clear H'
      try clear c1
      try clear c2
      try clear c2b0
      try clear c2b1
      try clear p2
      try clear c3
      try clear c3b0
      try clear c3b1
      obtain ⟨x3_1,x4_1,rfl,HA,HK1,HO_3,HB⟩:=hrel
      cases gk with
      |zero=>exact absurd HA.out (by simp [laws_toStringS.l0])
      |succ k1=>
       have H:=HA.out;clear HA;simp only [laws_toStringS.l0] at H;by_cases c6:x4_1 < (l0.length:Int)
       · rw [if_pos c6] at H
         have c6b0:decide (x4_1 < (l0.length:Int)) = true:=decide_eq_true c6;clear c6;by_cases c7:0 ≤ x4_1
         · rw [if_pos c7] at H
           have c7b0:decide (0 ≤ x4_1) = true:=decide_eq_true c7;clear c7;by_cases c8:x4_1 < (x3_1.length:Int)
           · rw [if_pos c8] at H
             have c8b0:decide (x4_1 < (x3_1.length:Int)) = true:=decide_eq_true c8;clear c8;obtain ⟨y300,hy300⟩:∃ y_:List ByteArray,y_ = (x3_1.set (x4_1:Int).toNat (rdOf ByteArray.empty l0 x4_1)):=⟨_,rfl⟩;replace H:(laws_toStringS.l0 k1 l0 y300 (wrap64 (x4_1 + 1))) = some r:=by first|(rw [hy300];with_reducible exact H)|(have H2_:=(Option.bind_some _ _).symm.trans H;rw [hy300];with_reducible exact H2_)|(have H2_:=(Option.bind_some _ _).symm.trans H;with_reducible exact H2_)|with_reducible exact H|(rw [hy300];exact H)|exact H
             have Ny300:=As0.mk hy300;clear hy300;have H':=As0.mk H;clear H;have p299:0 ≤ (x4_1:Int):=odt;have q299:x4_1 < (l0.length:Int):=odt;obtain ⟨ad299,e299,hx299_0⟩:=Kd.at_string HR0.out x4_1 p299 q299
             cases e299
             replace hx299_0:=bx HB.out rfl hx299_0;replace p299:=eq_true p299;replace q299:=eq_true q299;have p9:0 ≤ (x4_1:Int):=odt;have q9:(x4_1:Int) < ((x3_1.length:Int):Int):=odt;obtain ⟨go9,co9,eo9,gb9,gl9,cl9,HG9⟩:=Kd.R_form HO_3.out (by omega)
             (first|cases eo9|(injection eo9 with ea_ en_ ec_;(first|subst ea_|(injection ea_ with ea_;subst ea_));subst ec_;clear en_))
             have GB9:=As0.mk gb9;have GG9:=As0.mk HG9;clear gb9 gl9 HG9;obtain ⟨hx9_0,hf9_0⟩:=Kd.R_celln (⟨#[]⟩:ByteArray) HO_3.out (x4_1:Int) p9 q9;replace p9:=eq_true p9;replace q9:=eq_true q9;have HP10:=Kd.R_putg HO_3.out (x4_1:Int) (rdOf ByteArray.empty l0 x4_1)
             go_wp2_with (first|((with_reducible refine gate_store (t:=9) (p:=20) rfl ?_);refine store_event (t:=9) (p:=20) (v:=?vo_w11) (w1:=(wr.setCell ⟨go9,(x4_1:Int).toNat,none⟩ (.string (rdOf ByteArray.empty l0 x4_1)))) ?hg ?ho ?hn ?hr ?_;(case ho=>rfl);(case hg=>rfl);(case hn=>rfl);(case hr=>first|(go_simp;done)|(go_simp;rfl));intro w11 hw;have hg:wr.grownBy w11 (some go9):=(by rw [hw];exact HP10.2);have hp_:Kd.R Kd.string 9 w11 w.heap.size (fun _=>True) (.slice (some ⟨go9,0,none⟩) x3_1.length co9) y300:=(by rw [hw,Ny300.out];exact HP10.1);clear HP10;replace HO_3:=As0.mk (hp_);replace HB:=As0.mk ((by rw [hw];exact bst (HB.out) GB9.out:Below w.heap.size w w11));clear hg hw hp_))
             show _;go_roundg k1
             case measure=>have:=HK1.out;omega
             case rel=>exact ⟨(y300),(wrap64 (x4_1 + 1)),(by first|rfl|(simp;done)|(simp [*];done)),H',⟨by have:=HK1.out;omega⟩,⟨by (with_reducible repeat (first|apply Kd.Ral|apply Kd.RdN|apply Kd.R_drew));exact HO_3.out⟩,⟨by repeat (first|(with_reducible first|exact HB.out|apply bal|apply pbN|apply bd1)|exact HB.out)⟩⟩
           · rw [if_neg c8] at H
             exact absurd H (by simp)
         · rw [if_neg c7] at H
           exact absurd H (by simp)
       · rw [if_neg c6] at H
         have c6b0:decide (x4_1 < (l0.length:Int)) = false:=decide_eq_false c6;clear c6;obtain rfl:=Option.some.inj H
         go_wp2
         go_ret
         exact ⟨_,by first|rfl|(simp [errW_none,errW_some] <;> rfl)|(simp [*,errW_none,errW_some] <;> rfl),by (with_reducible repeat (first|apply Kd.Ral|apply Kd.RdN|apply Kd.R_drew));exact HO_3.out,by repeat (first|(with_reducible first|exact HB.out|apply bal|apply pbN|apply bd1)|exact HB.out)⟩
   · rw [if_neg c3] at H
     exact absurd H (by simp)
 · rw [if_neg c2] at H
   exact absurd H (by simp)
def laws_toThing.f (k:Nat) (a0_0:ByteArray) (a0_1:ByteArray) (a0_2:Int) (a0_3:Int) (a0_4:Bool) (l0_5:List ByteArray) (a0_6:ByteArray):Option (ByteArray × ByteArray × Int × Int × Bool × List ByteArray × ByteArray):=(laws_toStringS.f k l0_5).bind fun t304=>(some (a0_0,a0_1,a0_2,a0_3,a0_4,t304,a0_6))
set_option maxHeartbeats 40000000 in
set_option maxRecDepth 100000 in
theorem laws_toThing.calls (k:Nat) (a0_0:ByteArray) (a0_1:ByteArray) (a0_2:Int) (a0_3:Int) (a0_4:Bool) (A0_5:Option Addr) (c0_5:Nat) (l0_5:List ByteArray) (a0_6:ByteArray) (r1:ByteArray) (r2:ByteArray) (r3:Int) (r4:Int) (r5:Bool) (r6:List ByteArray) (r7:ByteArray) (w:World) (hr0_5:Kd.C Kd.string w A0_5 l0_5.length l0_5) (hc0_5:l0_5.length ≤ c0_5) (h:laws_toThing.f k a0_0 a0_1 a0_2 a0_3 a0_4 l0_5 a0_6 = some (r1,r2,r3,r4,r5,r6,r7)) :
 Calls Tryz.prog 85 #[.agg #[.string a0_0,.string a0_1,.int .i64 a0_2,.int .i64 a0_3,.bool a0_4,.slice A0_5 l0_5.length c0_5,.string a0_6]] w fun e w'=>∃ v5_:Value,e = .returned (.agg #[.string r1,.string r2,.int .i64 r3,.int .i64 r4,.bool r5,v5_,.string r7]) ∧ Kd.R Kd.string 9 w' w.heap.size (fun _=>True) v5_ r6 ∧ Below w.heap.size w w':=by
 have hu109:=Tryz.underlying109;have hu44:=Tryz.underlying44;have HR0_5:=As0.mk hr0_5;have HC0_5:=As0.mk hc0_5;clear hr0_5 hc0_5;have HB:=As0.mk (Below.refl w.heap.size w);have H:((laws_toStringS.f k l0_5).bind fun t304=>(some (a0_0,a0_1,a0_2,a0_3,a0_4,t304,a0_6))) = some (r1,r2,r3,r4,r5,r6,r7):=h;clear h;replace H:=Option.bind_eq_some_iff.mp H;obtain ⟨t304,A20,H⟩:=H;(try dsimp only at H);have A2:=As0.mk A20;clear A20;simp only [Option.some.injEq,Prod.mk.injEq] at H;obtain ⟨rfl,rfl,rfl,rfl,rfl,rfl,rfl⟩:=H
 go_enter Tryz.func85,Tryz.ntmps85
 go_wp2_with (first|((with_reducible refine gate_dst (N:=1) rfl ?_);refine bE 1 #[.string a0_0,.string a0_1,.int .i64 a0_2,.int .i64 a0_3,.bool a0_4,.slice A0_5 l0_5.length c0_5,.string a0_6] 109 ?_;intro gb301 hg w3 hbox hb;have BK301:=As0.mk (hbox);have GW301:=As0.mk ((by rw [hg];exact (bsz (by repeat (first|(with_reducible first|exact HB.out|apply bal|apply pbN|apply bd1)|exact HB.out))):w.heap.size ≤ gb301));have GE301:=GW301;replace HB:=As0.mk (b3 HB.out hb);clear hb hbox hg)|((with_reducible refine gate_dst (N:=2) rfl ?_);refine bE 2 #[.string ⟨#[]⟩,.string ⟨#[]⟩,.int .i64 0,.int .i64 0,.bool false,.slice none 0 0,.string ⟨#[]⟩] 44 ?_;intro gb302 hg w4 hbox hb;have BK302:=As0.mk (hbox);have GW302:=As0.mk ((by rw [hg];exact (bsz (by repeat (first|(with_reducible first|exact HB.out|apply bal|apply pbN|apply bd1|refine bst ?_ GE301.out)|exact HB.out))):w.heap.size ≤ gb302));have GE302:=GW302;replace HB:=As0.mk (bsp (by repeat (first|(with_reducible first|exact HB.out|apply bal|apply pbN|apply bd1|refine bst ?_ GE301.out)|exact HB.out)) hb);have NB301_302:=As0.mk ((by rw [hg];exact Nat.ne_of_lt (blk_lt (g:=gb301) (o:=.cells #[.string a0_0,.string a0_1,.int .i64 a0_2,.int .i64 a0_3,.bool a0_4,.slice A0_5 l0_5.length c0_5,.string a0_6] 109 (0,0)) (by (with_reducible repeat (first|refine bkN ?_ _|refine bkD ?_|refine bkA ?_ _));exact BK301.out)):gb301 ≠ gb302));have NB302_301:=As0.mk (Ne.symm NB301_302.out);replace BK301:=As0.mk (bb hb BK301.out);clear hb hbox hg)|((with_reducible refine gate_dst (N:=3) rfl ?_);refine bE 3 #[.string ⟨#[]⟩,.string ⟨#[]⟩,.int .i64 0,.int .i64 0,.bool false,.slice none 0 0,.string ⟨#[]⟩] 44 ?_;intro gb303 hg w5 hbox hb;have BK303:=As0.mk (hbox);have GW303:=As0.mk ((by rw [hg];exact (bsz (by repeat (first|(with_reducible first|exact HB.out|apply bal|apply pbN|apply bd1|refine bst ?_ GE301.out|refine bst ?_ GE302.out)|exact HB.out))):w.heap.size ≤ gb303));have GE303:=GW303;replace HB:=As0.mk (bsp (by repeat (first|(with_reducible first|exact HB.out|apply bal|apply pbN|apply bd1|refine bst ?_ GE301.out|refine bst ?_ GE302.out)|exact HB.out)) hb);have NB301_303:=As0.mk ((by rw [hg];exact Nat.ne_of_lt (blk_lt (g:=gb301) (o:=.cells #[.string a0_0,.string a0_1,.int .i64 a0_2,.int .i64 a0_3,.bool a0_4,.slice A0_5 l0_5.length c0_5,.string a0_6] 109 (0,0)) (by (with_reducible repeat (first|refine bkN ?_ _|refine bkD ?_|refine bkA ?_ _));exact BK301.out)):gb301 ≠ gb303));have NB303_301:=As0.mk (Ne.symm NB301_303.out);replace BK301:=As0.mk (bb hb BK301.out);have NB302_303:=As0.mk ((by rw [hg];exact Nat.ne_of_lt (blk_lt (g:=gb302) (o:=.cells #[.string ⟨#[]⟩,.string ⟨#[]⟩,.int .i64 0,.int .i64 0,.bool false,.slice none 0 0,.string ⟨#[]⟩] 44 (0,0)) (by (with_reducible repeat (first|refine bkN ?_ _|refine bkD ?_|refine bkA ?_ _));exact BK302.out)):gb302 ≠ gb303));have NB303_302:=As0.mk (Ne.symm NB302_303.out);replace BK302:=As0.mk (bb hb BK302.out);clear hb hbox hg;have hnb6:=NB301_302.out;have hnc6:=NB302_301.out;have hnb7:=NB301_303.out;have hnc7:=NB303_301.out;obtain ⟨hcz8_0,hcz8_1,hcz8_2,hcz8_3,hcz8_4,hcz8_5,hcz8_6⟩:=qc7 BK301.out;obtain ⟨hfz8_0,hfz8_1,hfz8_2,hfz8_3,hfz8_4,hfz8_5,hfz8_6⟩:=qz7 BK301.out;have hnb9:=NB303_302.out;have hnc9:=NB302_303.out;obtain ⟨hcz10_0,hcz10_1,hcz10_2,hcz10_3,hcz10_4,hcz10_5,hcz10_6⟩:=qc7 BK303.out;obtain ⟨hfz10_0,hfz10_1,hfz10_2,hfz10_3,hfz10_4,hfz10_5,hfz10_6⟩:=qz7 BK303.out)|((with_reducible refine gca (f:=112) rfl ?_);refine gL (some 21) Tryz.func112 #[.slice A0_5 l0_5.length c0_5] ?_;(with_reducible refine (laws_toStringS.calls k _ _ l0_5 t304 _ ?side1 ?side2 A2.out).mono ?_);(case side1=>exact Kd.C_below HR0_5.out (by repeat (first|(with_reducible first|exact HB.out|apply bal|apply pbN|apply bd1|refine bst ?_ GE301.out|refine bst ?_ GE302.out|refine bst ?_ GE303.out)|exact HB.out)));(case side2=>exact HC0_5.out);rintro e w11 ⟨v305,rfl,ho0,hb⟩;refine ⟨_,rfl,?_⟩;have HO306:=As0.mk (Kd.R_lower ho0 (bsz (by repeat (first|(with_reducible first|exact HB.out|apply bal|apply pbN|apply bd1|refine bst ?_ GE301.out|refine bst ?_ GE302.out|refine bst ?_ GE303.out)|exact HB.out))));replace BK301:=As0.mk (blk_below (g:=gb301) (o:=.cells #[.string a0_0,.string a0_1,.int .i64 a0_2,.int .i64 a0_3,.bool a0_4,.slice A0_5 l0_5.length c0_5,.string a0_6] 109 (0,0)) (by (with_reducible repeat (first|refine bkN ?_ _|refine bkD ?_|refine bkA ?_ _));refine blk_far ?_ NB301_303.out _;(with_reducible repeat (first|refine bkN ?_ _|refine bkD ?_|refine bkA ?_ _));refine blk_far ?_ NB301_303.out _;(with_reducible repeat (first|refine bkN ?_ _|refine bkD ?_|refine bkA ?_ _));refine blk_far ?_ NB301_303.out _;(with_reducible repeat (first|refine bkN ?_ _|refine bkD ?_|refine bkA ?_ _));refine blk_far ?_ NB301_303.out _;(with_reducible repeat (first|refine bkN ?_ _|refine bkD ?_|refine bkA ?_ _));refine blk_far ?_ NB301_303.out _;(with_reducible repeat (first|refine bkN ?_ _|refine bkD ?_|refine bkA ?_ _));exact BK301.out) hb);replace BK302:=As0.mk (blk_below (g:=gb302) (o:=.cells #[.string ⟨#[]⟩,.string ⟨#[]⟩,.int .i64 0,.int .i64 0,.bool false,.slice none 0 0,.string ⟨#[]⟩] 44 (0,0)) (by (with_reducible repeat (first|refine bkN ?_ _|refine bkD ?_|refine bkA ?_ _));refine blk_far ?_ NB302_303.out _;(with_reducible repeat (first|refine bkN ?_ _|refine bkD ?_|refine bkA ?_ _));refine blk_far ?_ NB302_303.out _;(with_reducible repeat (first|refine bkN ?_ _|refine bkD ?_|refine bkA ?_ _));refine blk_far ?_ NB302_303.out _;(with_reducible repeat (first|refine bkN ?_ _|refine bkD ?_|refine bkA ?_ _));refine blk_far ?_ NB302_303.out _;(with_reducible repeat (first|refine bkN ?_ _|refine bkD ?_|refine bkA ?_ _));refine blk_far ?_ NB302_303.out _;(with_reducible repeat (first|refine bkN ?_ _|refine bkD ?_|refine bkA ?_ _));exact BK302.out) hb);replace BK303:=As0.mk (blk_below (g:=gb303) (o:=.cells #[.string a0_0,.string a0_1,.int .i64 a0_2,.int .i64 a0_3,.bool a0_4,.slice none 0 0,.string ⟨#[]⟩] 44 (0,0)) (by (with_reducible repeat (first|refine bkN ?_ _|refine bkD ?_|refine bkA ?_ _));refine blk_put (cs:=#[.string a0_0,.string a0_1,.int .i64 a0_2,.int .i64 a0_3,.bool false,.slice none 0 0,.string ⟨#[]⟩]) ?_ 4 _ rfl;(with_reducible repeat (first|refine bkN ?_ _|refine bkD ?_|refine bkA ?_ _));refine blk_put (cs:=#[.string a0_0,.string a0_1,.int .i64 a0_2,.int .i64 0,.bool false,.slice none 0 0,.string ⟨#[]⟩]) ?_ 3 _ rfl;(with_reducible repeat (first|refine bkN ?_ _|refine bkD ?_|refine bkA ?_ _));refine blk_put (cs:=#[.string a0_0,.string a0_1,.int .i64 0,.int .i64 0,.bool false,.slice none 0 0,.string ⟨#[]⟩]) ?_ 2 _ rfl;(with_reducible repeat (first|refine bkN ?_ _|refine bkD ?_|refine bkA ?_ _));refine blk_put (cs:=#[.string a0_0,.string ⟨#[]⟩,.int .i64 0,.int .i64 0,.bool false,.slice none 0 0,.string ⟨#[]⟩]) ?_ 1 _ rfl;(with_reducible repeat (first|refine bkN ?_ _|refine bkD ?_|refine bkA ?_ _));refine blk_put (cs:=#[.string ⟨#[]⟩,.string ⟨#[]⟩,.int .i64 0,.int .i64 0,.bool false,.slice none 0 0,.string ⟨#[]⟩]) ?_ 0 _ rfl;(with_reducible repeat (first|refine bkN ?_ _|refine bkD ?_|refine bkA ?_ _));exact BK303.out) hb);replace HB:=As0.mk (bsp (by repeat (first|(with_reducible first|exact HB.out|apply bal|apply pbN|apply bd1|refine bst ?_ GE301.out|refine bst ?_ GE302.out|refine bst ?_ GE303.out)|exact HB.out)) hb);clear hb ho0;obtain ⟨Ao12,co12,eo12⟩:=Kd.R_slice HO306.out;subst eo12;obtain ⟨hcz13_0,hcz13_1,hcz13_2,hcz13_3,hcz13_4,hcz13_5,hcz13_6⟩:=qc7 BK303.out;obtain ⟨hfz13_0,hfz13_1,hfz13_2,hfz13_3,hfz13_4,hfz13_5,hfz13_6⟩:=qz7 BK303.out;obtain ⟨hcz14_0,hcz14_1,hcz14_2,hcz14_3,hcz14_4,hcz14_5,hcz14_6⟩:=qc7 BK301.out;obtain ⟨hfz14_0,hfz14_1,hfz14_2,hfz14_3,hfz14_4,hfz14_5,hfz14_6⟩:=qz7 BK301.out;obtain ⟨hcz15_0,hcz15_1,hcz15_2,hcz15_3,hcz15_4,hcz15_5,hcz15_6⟩:=qc7 BK302.out;obtain ⟨hfz15_0,hfz15_1,hfz15_2,hfz15_3,hfz15_4,hfz15_5,hfz15_6⟩:=qz7 BK302.out))
 refine bodyPost_ret (results_cell_row rfl _ _ gb302 44 #[.string a0_0,.string a0_1,.int .i64 a0_2,.int .i64 a0_3,.bool a0_4,.slice Ao12 t304.length co12,.string a0_6] (0,0) _ rfl (by (with_reducible repeat (first|refine bkN ?_ _|refine bkD ?_|refine bkA ?_ _));refine blk_put (cs:=#[.string a0_0,.string a0_1,.int .i64 a0_2,.int .i64 a0_3,.bool a0_4,.slice Ao12 t304.length co12,.string ⟨#[]⟩]) ?_ 6 _ rfl;(with_reducible repeat (first|refine bkN ?_ _|refine bkD ?_|refine bkA ?_ _));refine blk_put (cs:=#[.string a0_0,.string a0_1,.int .i64 a0_2,.int .i64 a0_3,.bool a0_4,.slice none 0 0,.string ⟨#[]⟩]) ?_ 5 _ rfl;(with_reducible repeat (first|refine bkN ?_ _|refine bkD ?_|refine bkA ?_ _));refine blk_put (cs:=#[.string a0_0,.string a0_1,.int .i64 a0_2,.int .i64 a0_3,.bool false,.slice none 0 0,.string ⟨#[]⟩]) ?_ 4 _ rfl;(with_reducible repeat (first|refine bkN ?_ _|refine bkD ?_|refine bkA ?_ _));refine blk_put (cs:=#[.string a0_0,.string a0_1,.int .i64 a0_2,.int .i64 0,.bool false,.slice none 0 0,.string ⟨#[]⟩]) ?_ 3 _ rfl;(with_reducible repeat (first|refine bkN ?_ _|refine bkD ?_|refine bkA ?_ _));refine blk_put (cs:=#[.string a0_0,.string a0_1,.int .i64 0,.int .i64 0,.bool false,.slice none 0 0,.string ⟨#[]⟩]) ?_ 2 _ rfl;(with_reducible repeat (first|refine bkN ?_ _|refine bkD ?_|refine bkA ?_ _));refine blk_put (cs:=#[.string a0_0,.string ⟨#[]⟩,.int .i64 0,.int .i64 0,.bool false,.slice none 0 0,.string ⟨#[]⟩]) ?_ 1 _ rfl;(with_reducible repeat (first|refine bkN ?_ _|refine bkD ?_|refine bkA ?_ _));refine blk_put (cs:=#[.string ⟨#[]⟩,.string ⟨#[]⟩,.int .i64 0,.int .i64 0,.bool false,.slice none 0 0,.string ⟨#[]⟩]) ?_ 0 _ rfl;(with_reducible repeat (first|refine bkN ?_ _|refine bkD ?_|refine bkA ?_ _));refine blk_far ?_ NB302_303.out _;(with_reducible repeat (first|refine bkN ?_ _|refine bkD ?_|refine bkA ?_ _));refine blk_far ?_ NB302_303.out _;(with_reducible repeat (first|refine bkN ?_ _|refine bkD ?_|refine bkA ?_ _));exact BK302.out) Tryz.underlying44 rfl (by kernel_rfl)) rfl ?_
 exact ⟨_,by first|rfl|(simp [errW_none,errW_some] <;> rfl)|(simp [*,errW_none,errW_some] <;> rfl),by (with_reducible repeat (first|apply Kd.Ral|apply Kd.RdN|apply Kd.R_drew));exact Kd.R_mono (Kd.R_far (p:=⟨gb302,6,none⟩) (Kd.R_far (p:=⟨gb302,5,none⟩) (Kd.R_far (p:=⟨gb302,4,none⟩) (Kd.R_far (p:=⟨gb302,3,none⟩) (Kd.R_far (p:=⟨gb302,2,none⟩) (Kd.R_far (p:=⟨gb302,1,none⟩) (Kd.R_far (p:=⟨gb302,0,none⟩) (Kd.R_far (p:=⟨gb303,6,none⟩) (Kd.R_far (p:=⟨gb303,5,none⟩) (Kd.R_types (Kd.R_types HO306.out BK303.out (by decide)) BK302.out (by decide)) (fun _ hk=>hk.1.2) (.slice Ao12 t304.length co12)) (fun _ hk=>hk.1.2) (.string a0_6)) (fun _ hk=>hk.2) (.string a0_0)) (fun _ hk=>hk.2) (.string a0_1)) (fun _ hk=>hk.2) (.int .i64 a0_2)) (fun _ hk=>hk.2) (.int .i64 a0_3)) (fun _ hk=>hk.2) (.bool a0_4)) (fun _ hk=>hk.2) (.slice Ao12 t304.length co12)) (fun _ hk=>hk.2) (.string a0_6)) (fun _ hk=>trivial),by repeat (first|(with_reducible first|exact HB.out|apply bal|apply pbN|apply bd1|refine bst ?_ GE301.out|refine bst ?_ GE302.out|refine bst ?_ GE303.out)|exact HB.out)⟩
end Go.Proofs.YtclgmogfkoinbaaGreatDoor.P
