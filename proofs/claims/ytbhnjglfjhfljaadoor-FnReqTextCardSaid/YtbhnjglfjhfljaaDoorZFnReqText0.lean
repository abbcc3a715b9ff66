/- Functions of the law FnReqText as_ plain Lean functions, and that the machine's calls do what they say. -/
import Derived.Test.YtbhnjglfjhfljaaDoorZFnReqTextW0
import Derived.Deep.Slices
import Derived.ChangeArms
import Derived.Test.YtbhnjglfjhfljaaDoorProg
import Derived.Lib.LaidTab
import Derived.Lib.ItoaNum
import Derived.KernelRfl
import Derived.Below
import Derived.Deep.Draws
import Derived.Deep.AppendLies
import Derived.Maps.AppendAt
import Derived.OwnWalk
import Derived.Laws.BytesArg
import Derived.Laws.MakeOwn
import Derived.Laws.OwnMore
import Derived.Deep.OwnRows
import Derived.Tactics
import Derived.Lib.ConvBytes
import Derived.Laws.Slices
import Derived.WalkKit
import Derived.RowKit3
import Derived.Deep.LoopGhost
import Derived.Deep.QuietTactic
import Derived.BigQuiet
import Derived.WideLaws
import Derived.Deep.DeepCutAuto
import Derived.Deep.CutBlock
import Derived.Deep.RegionHeld3
import Derived.Laws.Rows
import Derived.Lib.AppendStr
import Derived.ArgAppend
import Derived.Laws.IdiomCopy
import Derived.OrdersHeld
import Derived.Laws.BitsLemmas
import Derived.RowKit
/- What an argument reads as_ is of the printed kind: whole numbers, bools, strings, slices, structs. -/
namespace Go.Proofs.YtbhnjglfjhfljaaDoor.Opens
open Go.RowKit Go.Proofs.YtbhnjglfjhfljaaDoorW.PrintWords Go.ChangeShapes Go.WideShapes
structure Opens {α:Type} (P:Program) (d:Kd α) (t:TypeId) (G:α → Prop):Prop where
 out:∀ {H:Type} {enc:TypeId × Value → H} {w:World} {base:Nat} {spare:Nat → Bool} {held:Bool} {fuel:Nat} {cs:List Value} {x:DataW H × List MemPlace},DataW.trod enc P w base spare held fuel t cs = some x → ∃ a,d.K w a cs ∧ G a
section
variable {P:Program} {t:TypeId}
theorem opens_int {k:IntKind} (ht:P.underlying t = some (.int k)):Opens P (Kd.int k) t (fun n=>(Lit.int k n).wf = true):=⟨fun h=>by
 obtain ⟨n,rfl,_,hw⟩:=DataW.trod_int ht h
 exact ⟨n,rfl,hw⟩⟩
theorem opens_slice {α:Type} {d:Kd α} {e:TypeId} {G:α → Prop} (ht:P.underlying t = some (.slice e)) (hc:P.cellsOf e = d.sz) (ho:Opens P d e G) :
 Opens P (Kd.slice e d) t (fun l=>l.length ≤ 9223372036854775807 ∧ ∀ y ∈ l,G y):=⟨by
 intro H enc w base spare held fuel cs x h;rcases Go.Deep.open_slice ht h with ⟨rfl,_⟩|⟨a,len,cap,m,n,D,Pl,rfl,hba,hl,hm,hmm,hxe,hx⟩
 · exact ⟨[],⟨none,0,rfl,Nat.le_refl _,rfl,by simp,fun hp=>absurd hp (by simp)⟩,by simp,fun y hy=>by cases hy⟩
 · clear hxe hba
   have hlm:len ≤ m:=by rw [hmm];split <;> omega
   have key:∀ i,i < len → ∃ y:α,(∃ c,c.length = d.sz ∧ d.K w y c ∧ ∀ j u,c[j]? = some u → w.cell? (a.add (i * d.sz + j)) = some u) ∧ G y:=by
    intro i hi;obtain ⟨cs',h1,h2⟩:=hx i (by omega);obtain ⟨y,hy,hg⟩:=ho.out h2;obtain ⟨_,h3,h4⟩:=World.cells?_some h1;rw [hc] at h3 h4;refine ⟨y,⟨cs',h3,hy,fun j u hu=>?_⟩,hg⟩
    have hj:j < d.sz:=by
     have:=(List.getElem?_eq_some_iff.1 hu).1;omega
    have h5:=h4 j hj;rw [Go.Deep.add_add,hu] at h5
    exact h5
   obtain ⟨l,hlen,hall⟩:∃ l:List α,l.length = len ∧ ∀ i y,l[i]? = some y → (∃ c,c.length = d.sz ∧ d.K w y c ∧ ∀ j u,c[j]? = some u → w.cell? (a.add (i * d.sz + j)) = some u) ∧ G y:=by
    clear hx hlm hmm h hl;induction len with
    |zero=>exact ⟨[],rfl,fun i y hy=>by simp at hy⟩
    |succ k ih=>
     obtain ⟨l,h1,h2⟩:=ih (fun i hi=>key i (by omega));obtain ⟨y,hy⟩:=key k (by omega);refine ⟨l ++ [y],by simp [h1],fun i z hz=>?_⟩;rcases Nat.lt_trichotomy i k with hik|hik|hik
     · rw [List.getElem?_append_left (by omega)] at hz
       exact h2 i z hz
     · subst hik
       rw [List.getElem?_append_right (by omega),h1] at hz;simp at hz
       subst hz
       exact hy
     · rw [List.getElem?_eq_none (by simp;omega)] at hz
       cases hz
   subst hlen;have hb:l.length ≤ 9223372036854775807:=Nat.le_trans hl (by unfold maxLen at hm;exact hm);refine ⟨l,⟨some a,cap,rfl,hl,rfl,hb,fun _=>⟨a,rfl,fun j p hj=>(hall j p hj).1⟩⟩,hb,fun y hy=>?_⟩;obtain ⟨i,hi,rfl⟩:=List.getElem_of_mem hy
   exact (hall i _ (List.getElem?_eq_getElem hi)).2⟩
end
theorem arg_slice {α:Type} {P:Program} {d:Kd α} {t e:TypeId} {G:List α → Prop} (ho:Opens P (Kd.slice e d) t G) {H:Type} {enc:TypeId × Value → H} {w:World} {base:Nat} {spare:Nat → Bool} {held:Bool} {a:Option Addr} {len cap:Nat} {dd:DataW H} {ps:List MemPlace}
 (h:DataW.Trod enc P w base spare held t (.slice a len cap) dd ps):∃ l:List α,l.length = len ∧ l.length ≤ cap ∧ d.C w a l.length l ∧ G l:=by
 obtain ⟨n,hn⟩:=h;obtain ⟨l,⟨A,c,he,hl,hC⟩,hg⟩:=ho.out hn;simp [Value.cells] at he
 obtain ⟨rfl,rfl,rfl⟩:=he
 exact ⟨l,rfl,hl,hC,hg⟩
theorem bytesLess_not:∀ a b:List UInt8,(!(Op.bytesLess a b || a == b)) = Op.bytesLess b a
 |[],[]=>rfl
 |[],_ :: _=>rfl
 |_ :: _,[]=>rfl
 |a :: x,b :: y=>by
  have ih:=bytesLess_not x y;simp only [Op.bytesLess,List.cons_beq_cons];rcases Nat.lt_trichotomy a.toNat b.toNat with h|h|h
  · have h1:(a < b) = True:=by simp [UInt8.lt_iff_toNat_lt,h]
    have h2:(b < a) = False:=by simp [UInt8.lt_iff_toNat_lt];omega
    have h3:(b == a) = false:=by rw [beq_eq_false_iff_ne];rintro rfl;omega
    simp [h1,h2,h3]
  · obtain rfl:=UInt8.toNat_inj.1 h
    simpa using ih
  · have h1:(a < b) = False:=by simp [UInt8.lt_iff_toNat_lt];omega
    have h2:(b < a) = True:=by simp [UInt8.lt_iff_toNat_lt,h]
    have h3:(a == b) = false:=by rw [beq_eq_false_iff_ne];rintro rfl;omega
    simp [h1,h2,h3]
@[go_sem] theorem string_gtr (t:TypeId) (a b:ByteArray):binOp .gtr t (.string a) (.string b) = pure (.bool (Op.bytesLess b.toList a.toList)):=by rw [← bytesLess_not];simp [binOp,Op.stringOp]
@[go_sem] theorem string_leq (t:TypeId) (a b:ByteArray):binOp .leq t (.string a) (.string b) = pure (.bool !(Op.bytesLess b.toList a.toList)):=by rw [← bytesLess_not,Bool.not_not];simp [binOp,Op.stringOp]
@[go_sem] theorem string_geq (t:TypeId) (a b:ByteArray):binOp .geq t (.string a) (.string b) = pure (.bool !(Op.bytesLess a.toList b.toList)):=by simp [binOp,Op.stringOp]
end Go.Proofs.YtbhnjglfjhfljaaDoor.Opens
/- The library's table of powers of ten, as_ the row lists it: what a call that writes a number in figures asks of its world. -/
namespace Go.Proofs.YtbhnjglfjhfljaaDoor.P
open Go.RowKit Go.Proofs.YtbhnjglfjhfljaaDoorW.PrintWords
def TabT (w : World) : Prop := Lib.TabIs Tryd.prog w "internal/strconv.uint64pow10" .u64 Lib.pow10Tab
theorem tabGlobal : Tryd.prog.globalNamed "internal/strconv.uint64pow10" = some 1 := by kernel_rfl
theorem TabT.below {w W:World} (h:TabT w) (hb:Below w.heap.size w W):TabT W:=by
 unfold TabT Lib.TabIs World.var? at *;rw [tabGlobal,Option.bind_some] at *
 cases hg:w.heap[1]? with
 |none=>rw [hg] at h;cases h
 |some o=>
  have hlt:1 < w.heap.size:=(Array.getElem?_eq_some_iff.1 hg).1;rw [hb.block 1 hlt]
  exact h
theorem tabT_of {W : World} {rest : List (String × DataW Unit)} (h : laidMet Tryd.prog (("internal/strconv.uint64pow10", Lib.tabData .u64 Lib.pow10Tab) :: rest) W) : TabT W :=
 Lib.tabIs_of_head (g:=1) (t:=103) (e:=87) (n:=20) tabGlobal (by kernel_rfl) Tryd.underlying103 Tryd.underlying87 (by kernel_rfl) (by kernel_rfl) h
end Go.Proofs.YtbhnjglfjhfljaaDoor.P
namespace Go.Proofs.YtbhnjglfjhfljaaDoor.P
open Go.RowKit Go.Proofs.YtbhnjglfjhfljaaDoorW.PrintWords Go.Proofs.YtbhnjglfjhfljaaDoorW.PrintLast Go.Proofs.YtbhnjglfjhfljaaDoorW.PrintMore
attribute [local go_sem] max2_int min2_int max_two min_two max_three min_three max_four min_four
set_option linter.unusedVariables false
set_option linter.unusedSimpArgs false
def errW:Option Int → Value
 |none=>.nilIface
 |some c=>.iface 95 (.int .i64 c)
theorem errW_none:errW none = .nilIface:=rfl
theorem errW_some (c:Int):errW (some c) = .iface 95 (.int .i64 c):=rfl
theorem info5:(Tryd.prog.info? 5).map (fun i=>(i.zero,i.size,i.bytes)) = some (some (.int .u8 0),1,1):=by kernel_rfl
theorem info9:(Tryd.prog.info? 9).map (fun i=>(i.zero,i.size,i.bytes)) = some (some (.string ⟨#[]⟩),1,16):=by kernel_rfl
theorem eqA25 (d:Nat) (w:World) (x0 y0:Int) (x1 y1:ByteArray) (x2 y2:ByteArray) (x3 y3:Int) (x4 y4:ByteArray) :
 (Op.equalIn (d + 2) 25 (.agg #[.int .i64 x0,.string x1,.string x2,.int .i64 x3,.string x4]) (.agg #[.int .i64 y0,.string y1,.string y2,.int .i64 y3,.string y4])).run Tryd.prog w = .ok (x0 == y0 && (x1.toList == y1.toList && (x2.toList == y2.toList && (x3 == y3 && (x4.toList == y4.toList))))) w:=by
 refine eqA_of Tryd.underlying25 (by kernel_rfl) ?_;refine eqf_cons (by rfl) (by go_simp;rfl) (by go_simp;rfl) (by go_simp) ?_;refine eqf_cons (by rfl) (by go_simp;rfl) (by go_simp;rfl) (by go_simp) ?_;refine eqf_cons (by rfl) (by go_simp;rfl) (by go_simp;rfl) (by go_simp) ?_;refine eqf_cons (by rfl) (by go_simp;rfl) (by go_simp;rfl) (by go_simp) ?_
 exact eqf_last (by rfl) (by go_simp;rfl) (by go_simp;rfl) (by go_simp)
mutual
def spec_l9Has.j0:Nat → Int → Bool → Option (Bool × Bool × Bool)
 |0,_,_=>none
 |k + 1,x5,x8=>if x8 = true then (some (false,true,false)) else (if x5 = 4 then (some (true,false,true)) else (if x5 = 5 then (some (true,true,true)) else (if x5 = 6 then (spec_l9Has.j1 k x5 (x5 == 6)) else (spec_l9Has.j1 k x5 (x5 == 7)))))
def spec_l9Has.j1:Nat → Int → Bool → Option (Bool × Bool × Bool)
 |0,_,_=>none
 |k + 1,x5,x15=>if x15 = true then (some (true,false,true)) else (if x5 = 8 then (some (true,false,false)) else (if x5 = 9 then (some (true,false,false)) else (some (false,false,false))))
end
def spec_l9Has.f (k:Nat) (a0:Int):Option (Bool × Bool × Bool):=if a0 = 1 then (some (true,true,false)) else (if a0 = 2 then (spec_l9Has.j0 k a0 (a0 == 2)) else (spec_l9Has.j0 k a0 (a0 == 11)))
set_option maxHeartbeats 40000000 in
set_option maxRecDepth 100000 in
theorem spec_l9Has.calls (k:Nat) (a0:Int) (r1:Bool) (r2:Bool) (r3:Bool) (w:World) (h:spec_l9Has.f k a0 = some (r1,r2,r3)) :
 Calls Tryd.prog 22 #[.int .i64 a0] w fun e w'=>e = .returned (.tuple #[.bool r1,.bool r2,.bool r3]) ∧ Drawn0 w w':=by
 have H:(if a0 = 1 then (some (true,true,false)) else (if a0 = 2 then (spec_l9Has.j0 k a0 (a0 == 2)) else (spec_l9Has.j0 k a0 (a0 == 11)))) = some (r1,r2,r3):=h;clear h;by_cases c2:a0 = 1
 · rw [if_pos c2] at H
   have c2b0:(a0 == 1) = true:=beq_iff_eq.mpr c2;have c2b1:(a0 != 1) = false:=bne_eq_false_iff_eq.mpr c2;clear c2;simp only [Option.some.injEq,Prod.mk.injEq] at H;obtain ⟨rfl,rfl,rfl⟩:=H
   go_enter Tryd.func22,Tryd.ntmps22
   go_wp2
   go_ret3
   exact ⟨by first|rfl|(simp;done)|(simp [*];done),by repeat (first|exact Drawn0.refl _|apply Drawn0.step)⟩
 · rw [if_neg c2] at H
   have c2b0:(a0 == 1) = false:=beq_eq_false_iff_ne.mpr c2;have c2b1:(a0 != 1) = true:=bne_iff_ne.mpr c2;have HC3:=As0.mk H;clear H
   go_enter Tryd.func22,Tryd.ntmps22
   go_upto_if 8 with (fail)
   show _;go_cut [8] (fun v8 wc=>∃ (kq:Nat) (x8_2:Bool),v8 = .bool x8_2 ∧ As0 (spec_l9Has.j0 kq a0 x8_2 = some (r1,r2,r3)) ∧ As0 (kq ≤ k) ∧ Drawn0 w wc)
   case first=>
    have H:=HC3.out;clear HC3;by_cases c4:a0 = 2
    · rw [if_pos c4] at H
      have c4b0:(a0 == 2) = true:=beq_iff_eq.mpr c4;have c4b1:(a0 != 2) = false:=bne_eq_false_iff_eq.mpr c4;clear c4
      (first|rw [c4b0]|(simp only [i64_w,i32_w];rw [c4b0])|skip)
      have H':=As0.mk H;clear H
      go_wp2
      show _;go_meet
      case rel=>exact ⟨_,((a0 == 2)),(by first|rfl|(simp;done)|(simp [*];done)),H',⟨by first|omega|exact Nat.le_refl _⟩,by repeat (first|exact Drawn0.refl _|apply Drawn0.step)⟩
    · rw [if_neg c4] at H
      have c4b0:(a0 == 2) = false:=beq_eq_false_iff_ne.mpr c4;have c4b1:(a0 != 2) = true:=bne_iff_ne.mpr c4
      (first|rw [c4b0]|(simp only [i64_w,i32_w];rw [c4b0])|skip)
      have H':=As0.mk H;clear H
      go_wp2
      show _;go_meet
      case rel=>exact ⟨_,((a0 == 11)),(by first|rfl|(simp;done)|(simp [*];done)),H',⟨by first|omega|exact Nat.le_refl _⟩,by repeat (first|exact Drawn0.refl _|apply Drawn0.step)⟩
   case rest=>
    clear HC3
    try clear c2
    try clear c2b0
    try clear c2b1
    try clear p2
    try clear c4
    try clear c4b0
    try clear c4b1
    obtain ⟨kq,x8_2,rfl,HA,HJ2,⟨mc2,rfl⟩⟩:=hcut
    cases kq with
    |zero=>exact absurd HA.out (by simp [spec_l9Has.j0])
    |succ kj2=>
     have H:=HA.out;clear HA;simp only [spec_l9Has.j0] at H;by_cases c5:x8_2 = true
     · subst c5
       have H1:(some (false,true,false)) = some (r1,r2,r3):=by rw [if_pos rfl] at H;exact H
       clear H;have H:=H1;clear H1;simp only [Option.some.injEq,Prod.mk.injEq] at H;obtain ⟨rfl,rfl,rfl⟩:=H
       go_wp2
       go_ret3
       exact ⟨by first|rfl|(simp;done)|(simp [*];done),by repeat (first|exact Drawn0.refl _|apply Drawn0.step)⟩
     · replace c5:=Bool.eq_false_iff.mpr c5
       subst c5;have H1:(if a0 = 4 then (some (true,false,true)) else (if a0 = 5 then (some (true,true,true)) else (if a0 = 6 then (spec_l9Has.j1 kj2 a0 (a0 == 6)) else (spec_l9Has.j1 kj2 a0 (a0 == 7))))) = some (r1,r2,r3):=by rw [if_neg (show ¬ (false = true) by decide)] at H;exact H
       clear H;have H:=H1;clear H1;by_cases c6:a0 = 4
       · rw [if_pos c6] at H
         have c6b0:(a0 == 4) = true:=beq_iff_eq.mpr c6;have c6b1:(a0 != 4) = false:=bne_eq_false_iff_eq.mpr c6;clear c6;simp only [Option.some.injEq,Prod.mk.injEq] at H;obtain ⟨rfl,rfl,rfl⟩:=H
         go_wp2
         go_ret3
         exact ⟨by first|rfl|(simp;done)|(simp [*];done),by repeat (first|exact Drawn0.refl _|apply Drawn0.step)⟩
       · rw [if_neg c6] at H
         have c6b0:(a0 == 4) = false:=beq_eq_false_iff_ne.mpr c6;have c6b1:(a0 != 4) = true:=bne_iff_ne.mpr c6;by_cases c7:a0 = 5
         · rw [if_pos c7] at H
           have c7b0:(a0 == 5) = true:=beq_iff_eq.mpr c7;have c7b1:(a0 != 5) = false:=bne_eq_false_iff_eq.mpr c7;clear c7;simp only [Option.some.injEq,Prod.mk.injEq] at H;obtain ⟨rfl,rfl,rfl⟩:=H
           go_wp2
           go_ret3
           exact ⟨by first|rfl|(simp;done)|(simp [*];done),by repeat (first|exact Drawn0.refl _|apply Drawn0.step)⟩
         · rw [if_neg c7] at H
           have c7b0:(a0 == 5) = false:=beq_eq_false_iff_ne.mpr c7;have c7b1:(a0 != 5) = true:=bne_iff_ne.mpr c7;have HC8:=As0.mk H;clear H
           go_upto_if 15 with (fail)
           show _;go_cut [15] (fun v15 wc=>∃ (kq:Nat) (x15_7:Bool),v15 = .bool x15_7 ∧ As0 (spec_l9Has.j1 kq a0 x15_7 = some (r1,r2,r3)) ∧ As0 (kq ≤ kj2) ∧ Drawn0 w wc)
           case first=>
            have H:=HC8.out;clear HC8;by_cases c9:a0 = 6
            · rw [if_pos c9] at H
              have c9b0:(a0 == 6) = true:=beq_iff_eq.mpr c9;have c9b1:(a0 != 6) = false:=bne_eq_false_iff_eq.mpr c9;clear c9
              (first|rw [c9b0]|(simp only [i64_w,i32_w];rw [c9b0])|skip)
              have H':=As0.mk H;clear H
              go_wp2
              show _;go_meet
              case rel=>exact ⟨_,((a0 == 6)),(by first|rfl|(simp;done)|(simp [*];done)),H',⟨by have:=HJ2.out;first|omega|exact Nat.le_refl _⟩,by repeat (first|exact Drawn0.refl _|apply Drawn0.step)⟩
            · rw [if_neg c9] at H
              have c9b0:(a0 == 6) = false:=beq_eq_false_iff_ne.mpr c9;have c9b1:(a0 != 6) = true:=bne_iff_ne.mpr c9
              (first|rw [c9b0]|(simp only [i64_w,i32_w];rw [c9b0])|skip)
              have H':=As0.mk H;clear H
              go_wp2
              show _;go_meet
              case rel=>exact ⟨_,((a0 == 7)),(by first|rfl|(simp;done)|(simp [*];done)),H',⟨by have:=HJ2.out;first|omega|exact Nat.le_refl _⟩,by repeat (first|exact Drawn0.refl _|apply Drawn0.step)⟩
           case rest=>
            clear HC8
            try clear c2
            try clear c2b0
            try clear c2b1
            try clear p2
            try clear c4
            try clear c4b0
            try clear c4b1
            try clear c5
            try clear c6
            try clear c6b0
            try clear c6b1
            try clear c7
            try clear c7b0
            try clear c7b1
            try clear c9
            try clear c9b0
            try clear c9b1
            try clear p2
            obtain ⟨kq,x15_7,rfl,HA,HJ7,⟨mc7,rfl⟩⟩:=hcut
            cases kq with
            |zero=>exact absurd HA.out (by simp [spec_l9Has.j1])
            |succ kj7=>
             have H:=HA.out;clear HA;simp only [spec_l9Has.j1] at H;by_cases c10:x15_7 = true
             · subst c10
               have H1:(some (true,false,true)) = some (r1,r2,r3):=by rw [if_pos rfl] at H;exact H
               clear H;have H:=H1;clear H1;simp only [Option.some.injEq,Prod.mk.injEq] at H;obtain ⟨rfl,rfl,rfl⟩:=H
               go_wp2
               go_ret3
               exact ⟨by first|rfl|(simp;done)|(simp [*];done),by repeat (first|exact Drawn0.refl _|apply Drawn0.step)⟩
             · replace c10:=Bool.eq_false_iff.mpr c10
               subst c10;have H1:(if a0 = 8 then (some (true,false,false)) else (if a0 = 9 then (some (true,false,false)) else (some (false,false,false)))) = some (r1,r2,r3):=by rw [if_neg (show ¬ (false = true) by decide)] at H;exact H
               clear H;have H:=H1;clear H1;by_cases c11:a0 = 8
               · rw [if_pos c11] at H
                 have c11b0:(a0 == 8) = true:=beq_iff_eq.mpr c11;have c11b1:(a0 != 8) = false:=bne_eq_false_iff_eq.mpr c11;clear c11;simp only [Option.some.injEq,Prod.mk.injEq] at H;obtain ⟨rfl,rfl,rfl⟩:=H
                 go_wp2
                 go_ret3
                 exact ⟨by first|rfl|(simp;done)|(simp [*];done),by repeat (first|exact Drawn0.refl _|apply Drawn0.step)⟩
               · rw [if_neg c11] at H
                 have c11b0:(a0 == 8) = false:=beq_eq_false_iff_ne.mpr c11;have c11b1:(a0 != 8) = true:=bne_iff_ne.mpr c11;by_cases c12:a0 = 9
                 · rw [if_pos c12] at H
                   have c12b0:(a0 == 9) = true:=beq_iff_eq.mpr c12;have c12b1:(a0 != 9) = false:=bne_eq_false_iff_eq.mpr c12;clear c12;simp only [Option.some.injEq,Prod.mk.injEq] at H;obtain ⟨rfl,rfl,rfl⟩:=H
                   go_wp2
                   go_ret3
                   exact ⟨by first|rfl|(simp;done)|(simp [*];done),by repeat (first|exact Drawn0.refl _|apply Drawn0.step)⟩
                 · rw [if_neg c12] at H
                   have c12b0:(a0 == 9) = false:=beq_eq_false_iff_ne.mpr c12;have c12b1:(a0 != 9) = true:=bne_iff_ne.mpr c12;simp only [Option.some.injEq,Prod.mk.injEq] at H;obtain ⟨rfl,rfl,rfl⟩:=H
                   go_wp2
                   go_ret3
                   exact ⟨by first|rfl|(simp;done)|(simp [*];done),by repeat (first|exact Drawn0.refl _|apply Drawn0.step)⟩
def spec_l1In.f (a0:Int) (a1:Int) (a2:Int):Option (Bool):=if a0 ≥ a1 then (some (decide (a0 ≤ a2))) else (some false)
set_option maxHeartbeats 40000000 in
set_option maxRecDepth 100000 in
theorem spec_l1In.calls (a0:Int) (a1:Int) (a2:Int) (r:Bool) (w:World) (h:spec_l1In.f a0 a1 a2 = some r) :
 Calls Tryd.prog 29 #[.int .i64 a0,.int .i64 a1,.int .i64 a2] w fun e w'=>e = .returned (.bool r) ∧ Drawn0 w w':=by
 have H:(if a0 ≥ a1 then (some (decide (a0 ≤ a2))) else (some false)) = some r:=h;clear h;by_cases c4:a0 ≥ a1
 · rw [if_pos c4] at H
   have c4b0:decide (a1 ≤ a0) = true:=decide_eq_true c4;clear c4;obtain rfl:=Option.some.inj H
   go_enter Tryd.func29,Tryd.ntmps29
   go_wp2
   go_ret
   exact ⟨by first|rfl|(simp;done)|(simp [*];done),by repeat (first|exact Drawn0.refl _|apply Drawn0.step)⟩
 · rw [if_neg c4] at H
   have c4b0:decide (a1 ≤ a0) = false:=decide_eq_false c4;clear c4;obtain rfl:=Option.some.inj H
   go_enter Tryd.func29,Tryd.ntmps29
   go_wp2
   go_ret
   exact ⟨by first|rfl|(simp;done)|(simp [*];done),by repeat (first|exact Drawn0.refl _|apply Drawn0.step)⟩
def spec_NameOk.l0:Nat → ByteArray → Int → Option (Bool)
 |0,_,_=>none
 |k + 1,x0,x3=>if x3 < (x0.size:Int) then (if 0 ≤ x3 then (if (bt x0 x3) < 97 then (some false) else (if (bt x0 x3) > 122 then (some false) else (spec_NameOk.l0 k x0 (wrap64 (x3 + 1))))) else (none)) else ((spec_l1In.f (x0.size:Int) 1 6).bind fun t101=>(some t101))
def spec_NameOk.f (k:Nat) (a0:ByteArray):Option (Bool):=spec_NameOk.l0 k a0 0
set_option maxHeartbeats 40000000 in
set_option maxRecDepth 100000 in
theorem spec_NameOk.calls (k:Nat) (a0:ByteArray) (r:Bool) (w:World) (h:spec_NameOk.f k a0 = some r) :
 Calls Tryd.prog 30 #[.string a0] w fun e w'=>e = .returned (.bool r) ∧ Drawn0 w w':=by
 have H:(spec_NameOk.l0 k a0 0) = some r:=h;clear h;have H':=As0.mk H;clear H
 go_enter Tryd.func30,Tryd.ntmps30
 go_wp2
 show _;go_loopg [3] k (fun kq v3 w'=>∃ (x3_1:Int),v3 = .int .i64 x3_1 ∧ As0 (spec_NameOk.l0 kq a0 x3_1 = some r) ∧ As0 (kq ≤ k) ∧ Drawn0 w w')
 case atStart=>exact ⟨(0),(by first|rfl|(simp;done)|(simp [*];done)),H',⟨Nat.le_refl _⟩,by repeat (first|exact Drawn0.refl _|apply Drawn0.step)⟩
 case round=>
  clear H';obtain ⟨x3_1,rfl,HA,HK1,⟨m1,rfl⟩⟩:=hrel
  cases gk with
  |zero=>exact absurd HA.out (by simp [spec_NameOk.l0])
  |succ k1=>
   have H:=HA.out;clear HA;simp only [spec_NameOk.l0] at H;by_cases c2:x3_1 < (a0.size:Int)
   · rw [if_pos c2] at H
     have c2b0:decide (x3_1 < (a0.size:Int)) = true:=decide_eq_true c2;clear c2;by_cases c3:0 ≤ x3_1
     · rw [if_pos c3] at H
       have c3b0:decide (0 ≤ x3_1) = true:=decide_eq_true c3;clear c3;by_cases c5:(bt a0 x3_1) < 97
       · rw [if_pos c5] at H
         have c5b0:decide ((bt a0 x3_1) < 97) = true:=decide_eq_true c5;clear c5;obtain rfl:=Option.some.inj H;have p4:0 ≤ (x3_1:Int):=odt;have q4:x3_1 < (a0.size:Int):=odt;have hx4:=bt_at a0 x3_1;replace p4:=eq_true p4;replace q4:=eq_true q4
         go_wp2
         go_ret
         exact ⟨by first|rfl|(simp;done)|(simp [*];done),by repeat (first|exact Drawn0.refl _|apply Drawn0.step)⟩
       · rw [if_neg c5] at H
         have c5b0:decide ((bt a0 x3_1) < 97) = false:=decide_eq_false c5;clear c5;by_cases c7:(bt a0 x3_1) > 122
         · rw [if_pos c7] at H
           have c7b0:decide (122 < (bt a0 x3_1)) = true:=decide_eq_true c7;clear c7;obtain rfl:=Option.some.inj H;have p4:0 ≤ (x3_1:Int):=odt;have q4:x3_1 < (a0.size:Int):=odt;have hx4:=bt_at a0 x3_1;replace p4:=eq_true p4;replace q4:=eq_true q4;have p6:0 ≤ (x3_1:Int):=odt;have q6:x3_1 < (a0.size:Int):=odt;have hx6:=bt_at a0 x3_1;replace p6:=eq_true p6;replace q6:=eq_true q6
           go_wp2
           go_ret
           exact ⟨by first|rfl|(simp;done)|(simp [*];done),by repeat (first|exact Drawn0.refl _|apply Drawn0.step)⟩
         · rw [if_neg c7] at H
           have c7b0:decide (122 < (bt a0 x3_1)) = false:=decide_eq_false c7;clear c7;have H':=As0.mk H;clear H;have p4:0 ≤ (x3_1:Int):=odt;have q4:x3_1 < (a0.size:Int):=odt;have hx4:=bt_at a0 x3_1;replace p4:=eq_true p4;replace q4:=eq_true q4;have p6:0 ≤ (x3_1:Int):=odt;have q6:x3_1 < (a0.size:Int):=odt;have hx6:=bt_at a0 x3_1;replace p6:=eq_true p6;replace q6:=eq_true q6
           go_wp2
           show _;go_roundg k1
           case measure=>have:=HK1.out;omega
           case rel=>exact ⟨(wrap64 (x3_1 + 1)),(by first|rfl|(simp;done)|(simp [*];done)),H',⟨by have:=HK1.out;omega⟩,by repeat (first|exact Drawn0.refl _|apply Drawn0.step)⟩
     · rw [if_neg c3] at H
       exact absurd H (by simp)
   · rw [if_neg c2] at H
     have c2b0:decide (x3_1 < (a0.size:Int)) = false:=decide_eq_false c2;clear c2;replace H:=Option.bind_eq_some_iff.mp H;obtain ⟨t101,A80,H⟩:=H;(try dsimp only at H);have A8:=As0.mk A80;clear A80;obtain rfl:=Option.some.inj H
     go_wp2_with (first|(refine gL (some 22) Tryd.func29 #[.int .i64 (a0.size:Int),.int .i64 1,.int .i64 6] ?_;(with_reducible refine (spec_l1In.calls (a0.size:Int) 1 6 t101 _ A8.out).mono ?_);rintro e w' ⟨rfl,⟨nd,rfl⟩⟩;refine ⟨_,rfl,?_⟩))
     go_ret
     exact ⟨by first|rfl|(simp;done)|(simp [*];done),by repeat (first|exact Drawn0.refl _|apply Drawn0.step)⟩
def spec_l4Value.l0:Nat → ByteArray → Int → Option (Bool)
 |0,_,_=>none
 |k + 1,x0,x3=>if x3 < (x0.size:Int) then (if 0 ≤ x3 then (if (bt x0 x3) < 32 then (some false) else (if (bt x0 x3) > 126 then (some false) else (spec_l4Value.l0 k x0 (wrap64 (x3 + 1))))) else (none)) else (some (decide ((x0.size:Int) ≤ 80)))
def spec_l4Value.f (k:Nat) (a0:ByteArray):Option (Bool):=spec_l4Value.l0 k a0 0
set_option maxHeartbeats 40000000 in
set_option maxRecDepth 100000 in
theorem spec_l4Value.calls (k:Nat) (a0:ByteArray) (r:Bool) (w:World) (h:spec_l4Value.f k a0 = some r) :
 Calls Tryd.prog 43 #[.string a0] w fun e w'=>e = .returned (.bool r) ∧ Drawn0 w w':=by
 have H:(spec_l4Value.l0 k a0 0) = some r:=h;clear h;have H':=As0.mk H;clear H
 go_enter Tryd.func43,Tryd.ntmps43
 go_wp2
 show _;go_loopg [3] k (fun kq v3 w'=>∃ (x3_1:Int),v3 = .int .i64 x3_1 ∧ As0 (spec_l4Value.l0 kq a0 x3_1 = some r) ∧ As0 (kq ≤ k) ∧ Drawn0 w w')
 case atStart=>exact ⟨(0),(by first|rfl|(simp;done)|(simp [*];done)),H',⟨Nat.le_refl _⟩,by repeat (first|exact Drawn0.refl _|apply Drawn0.step)⟩
 case round=>
  clear H';obtain ⟨x3_1,rfl,HA,HK1,⟨m1,rfl⟩⟩:=hrel
  cases gk with
  |zero=>exact absurd HA.out (by simp [spec_l4Value.l0])
  |succ k1=>
   have H:=HA.out;clear HA;simp only [spec_l4Value.l0] at H;by_cases c2:x3_1 < (a0.size:Int)
   · rw [if_pos c2] at H
     have c2b0:decide (x3_1 < (a0.size:Int)) = true:=decide_eq_true c2;clear c2;by_cases c3:0 ≤ x3_1
     · rw [if_pos c3] at H
       have c3b0:decide (0 ≤ x3_1) = true:=decide_eq_true c3;clear c3;by_cases c5:(bt a0 x3_1) < 32
       · rw [if_pos c5] at H
         have c5b0:decide ((bt a0 x3_1) < 32) = true:=decide_eq_true c5;clear c5;obtain rfl:=Option.some.inj H;have p4:0 ≤ (x3_1:Int):=odt;have q4:x3_1 < (a0.size:Int):=odt;have hx4:=bt_at a0 x3_1;replace p4:=eq_true p4;replace q4:=eq_true q4
         go_wp2
         go_ret
         exact ⟨by first|rfl|(simp;done)|(simp [*];done),by repeat (first|exact Drawn0.refl _|apply Drawn0.step)⟩
       · rw [if_neg c5] at H
         have c5b0:decide ((bt a0 x3_1) < 32) = false:=decide_eq_false c5;clear c5;by_cases c7:(bt a0 x3_1) > 126
         · rw [if_pos c7] at H
           have c7b0:decide (126 < (bt a0 x3_1)) = true:=decide_eq_true c7;clear c7;obtain rfl:=Option.some.inj H;have p4:0 ≤ (x3_1:Int):=odt;have q4:x3_1 < (a0.size:Int):=odt;have hx4:=bt_at a0 x3_1;replace p4:=eq_true p4;replace q4:=eq_true q4;have p6:0 ≤ (x3_1:Int):=odt;have q6:x3_1 < (a0.size:Int):=odt;have hx6:=bt_at a0 x3_1;replace p6:=eq_true p6;replace q6:=eq_true q6
           go_wp2
           go_ret
           exact ⟨by first|rfl|(simp;done)|(simp [*];done),by repeat (first|exact Drawn0.refl _|apply Drawn0.step)⟩
         · rw [if_neg c7] at H
           have c7b0:decide (126 < (bt a0 x3_1)) = false:=decide_eq_false c7;clear c7;have H':=As0.mk H;clear H;have p4:0 ≤ (x3_1:Int):=odt;have q4:x3_1 < (a0.size:Int):=odt;have hx4:=bt_at a0 x3_1;replace p4:=eq_true p4;replace q4:=eq_true q4;have p6:0 ≤ (x3_1:Int):=odt;have q6:x3_1 < (a0.size:Int):=odt;have hx6:=bt_at a0 x3_1;replace p6:=eq_true p6;replace q6:=eq_true q6
           go_wp2
           show _;go_roundg k1
           case measure=>have:=HK1.out;omega
           case rel=>exact ⟨(wrap64 (x3_1 + 1)),(by first|rfl|(simp;done)|(simp [*];done)),H',⟨by have:=HK1.out;omega⟩,by repeat (first|exact Drawn0.refl _|apply Drawn0.step)⟩
     · rw [if_neg c3] at H
       exact absurd H (by simp)
   · rw [if_neg c2] at H
     have c2b0:decide (x3_1 < (a0.size:Int)) = false:=decide_eq_false c2;clear c2;obtain rfl:=Option.some.inj H
     go_wp2
     go_ret
     exact ⟨by first|rfl|(simp;done)|(simp [*];done),by repeat (first|exact Drawn0.refl _|apply Drawn0.step)⟩
def spec_l7Body.f (k:Nat) (a0:ByteArray):Option (Bool):=(spec_l4Value.f k a0).bind fun t102=>(if t102 = true then (some (decide ((a0.size:Int) ≤ 40))) else (some false))
set_option maxHeartbeats 40000000 in
set_option maxRecDepth 100000 in
theorem spec_l7Body.calls (k:Nat) (a0:ByteArray) (r:Bool) (w:World) (h:spec_l7Body.f k a0 = some r) :
 Calls Tryd.prog 31 #[.string a0] w fun e w'=>e = .returned (.bool r) ∧ Drawn0 w w':=by
 have H:((spec_l4Value.f k a0).bind fun t102=>(if t102 = true then (some (decide ((a0.size:Int) ≤ 40))) else (some false))) = some r:=h;clear h;replace H:=Option.bind_eq_some_iff.mp H;obtain ⟨t102,A20,H⟩:=H;(try dsimp only at H);have A2:=As0.mk A20;clear A20;by_cases c3:t102 = true
 · subst c3
   have H1:(some (decide ((a0.size:Int) ≤ 40))) = some r:=by rw [if_pos rfl] at H;exact H
   clear H;have H:=H1;clear H1;obtain rfl:=Option.some.inj H
   go_enter Tryd.func31,Tryd.ntmps31
   go_wp2_with (first|(refine gL (some 4) Tryd.func43 #[.string a0] ?_;(with_reducible refine (spec_l4Value.calls k a0 true _ A2.out).mono ?_);rintro e w' ⟨rfl,⟨nd,rfl⟩⟩;refine ⟨_,rfl,?_⟩))
   go_ret
   exact ⟨by first|rfl|(simp;done)|(simp [*];done),by repeat (first|exact Drawn0.refl _|apply Drawn0.step)⟩
 · replace c3:=Bool.eq_false_iff.mpr c3
   subst c3;have H1:(some false) = some r:=by rw [if_neg (show ¬ (false = true) by decide)] at H;exact H
   clear H;have H:=H1;clear H1;obtain rfl:=Option.some.inj H
   go_enter Tryd.func31,Tryd.ntmps31
   go_wp2_with (first|(refine gL (some 4) Tryd.func43 #[.string a0] ?_;(with_reducible refine (spec_l4Value.calls k a0 false _ A2.out).mono ?_);rintro e w' ⟨rfl,⟨nd,rfl⟩⟩;refine ⟨_,rfl,?_⟩))
   go_ret
   exact ⟨by first|rfl|(simp;done)|(simp [*];done),by repeat (first|exact Drawn0.refl _|apply Drawn0.step)⟩
theorem xorB_ (t:Bool) (l:List UInt8) (h:(t != (l != ([]:List UInt8))) = true):(l = [] ∧ t = true) ∨ (¬ l = [] ∧ t = false):=by
 cases t <;> cases l <;> simp_all
mutual
def spec_ReqOk.j0:Nat → Bool → Int → ByteArray → ByteArray → Int → ByteArray → Option (Bool)
 |0,_,_,_,_,_,_=>none
 |k + 1,x81,x104000,x104001,x104002,x104003,x104004=>if x81 = true then (some false) else (if x104000 = 5 then (spec_ReqOk.j1 k x104000 (x104000 == 5) x104000 x104001 x104002 x104003 x104004) else (spec_ReqOk.j1 k x104000 (x104000 == 11) x104000 x104001 x104002 x104003 x104004))
def spec_ReqOk.j1:Nat → Int → Bool → Int → ByteArray → ByteArray → Int → ByteArray → Option (Bool)
 |0,_,_,_,_,_,_,_=>none
 |k + 1,x83,x84,x104000,x104001,x104002,x104003,x104004=>if x84 = true then (if x104003 ≥ 0 then ((spec_l7Body.f k x104004).bind fun t118=>(some t118)) else (some false)) else (if x83 = 6 then (spec_ReqOk.j2 k (x83 == 6) x104000 x104001 x104002 x104003 x104004) else (spec_ReqOk.j2 k (x83 == 7) x104000 x104001 x104002 x104003 x104004))
def spec_ReqOk.j2:Nat → Bool → Int → ByteArray → ByteArray → Int → ByteArray → Option (Bool)
 |0,_,_,_,_,_,_=>none
 |k + 1,x95,x104000,x104001,x104002,x104003,x104004=>if x95 = true then ((spec_NameOk.f k x104004).bind fun t119=>(some t119)) else ((spec_l7Body.f k x104004).bind fun t120=>(some t120))
end
def spec_ReqOk.f (k:Nat) (a0_0:Int) (a0_1:ByteArray) (a0_2:ByteArray) (a0_3:Int) (a0_4:ByteArray):Option (Bool):=(spec_l1In.f a0_0 1 12).bind fun t104=>(if t104 = true then ((spec_l9Has.f k a0_0).bind fun bt105=>(if a0_0 = 12 then (if a0_1.toList = ([]:List UInt8) then (if a0_2.toList = ([]:List UInt8) then (if a0_3 = 0 then (some (a0_4.toList == ([]:List UInt8))) else (some false)) else (some false)) else (some false)) else ((spec_NameOk.f k a0_1).bind fun t108=>(if t108 = true then (if (bt105.1 != (a0_2.toList != ([]:List UInt8))) = true then (spec_ReqOk.j0 k true a0_0 a0_1 a0_2 a0_3 a0_4) else (if bt105.1 = true then ((spec_NameOk.f k a0_2).bind fun t109=>(if t109 = true then (if bt105.2.1 = true then (if bt105.2.2 = true then ((spec_l1In.f a0_3 (-1) 99999).bind fun t110=>(spec_ReqOk.j0 k (!t110) a0_0 a0_1 a0_2 a0_3 a0_4)) else (if a0_4.toList = ([]:List UInt8) then ((spec_l1In.f a0_3 (-1) 99999).bind fun t111=>(spec_ReqOk.j0 k (!t111) a0_0 a0_1 a0_2 a0_3 a0_4)) else (spec_ReqOk.j0 k true a0_0 a0_1 a0_2 a0_3 a0_4))) else (if a0_3 = 0 then (if bt105.2.2 = true then ((spec_l1In.f a0_3 (-1) 99999).bind fun t112=>(spec_ReqOk.j0 k (!t112) a0_0 a0_1 a0_2 a0_3 a0_4)) else (if a0_4.toList = ([]:List UInt8) then ((spec_l1In.f a0_3 (-1) 99999).bind fun t113=>(spec_ReqOk.j0 k (!t113) a0_0 a0_1 a0_2 a0_3 a0_4)) else (spec_ReqOk.j0 k true a0_0 a0_1 a0_2 a0_3 a0_4))) else (spec_ReqOk.j0 k true a0_0 a0_1 a0_2 a0_3 a0_4))) else (spec_ReqOk.j0 k true a0_0 a0_1 a0_2 a0_3 a0_4))) else (if bt105.2.1 = true then (if bt105.2.2 = true then ((spec_l1In.f a0_3 (-1) 99999).bind fun t114=>(spec_ReqOk.j0 k (!t114) a0_0 a0_1 a0_2 a0_3 a0_4)) else (if a0_4.toList = ([]:List UInt8) then ((spec_l1In.f a0_3 (-1) 99999).bind fun t115=>(spec_ReqOk.j0 k (!t115) a0_0 a0_1 a0_2 a0_3 a0_4)) else (spec_ReqOk.j0 k true a0_0 a0_1 a0_2 a0_3 a0_4))) else (if a0_3 = 0 then (if bt105.2.2 = true then ((spec_l1In.f a0_3 (-1) 99999).bind fun t116=>(spec_ReqOk.j0 k (!t116) a0_0 a0_1 a0_2 a0_3 a0_4)) else (if a0_4.toList = ([]:List UInt8) then ((spec_l1In.f a0_3 (-1) 99999).bind fun t117=>(spec_ReqOk.j0 k (!t117) a0_0 a0_1 a0_2 a0_3 a0_4)) else (spec_ReqOk.j0 k true a0_0 a0_1 a0_2 a0_3 a0_4))) else (spec_ReqOk.j0 k true a0_0 a0_1 a0_2 a0_3 a0_4))))) else (spec_ReqOk.j0 k true a0_0 a0_1 a0_2 a0_3 a0_4))))) else (some false))
set_option maxHeartbeats 40000000 in
set_option maxRecDepth 100000 in
theorem spec_ReqOk.calls (k:Nat) (a0_0:Int) (a0_1:ByteArray) (a0_2:ByteArray) (a0_3:Int) (a0_4:ByteArray) (r:Bool) (w:World) (h:spec_ReqOk.f k a0_0 a0_1 a0_2 a0_3 a0_4 = some r) :
 Calls Tryd.prog 12 #[.agg #[.int .i64 a0_0,.string a0_1,.string a0_2,.int .i64 a0_3,.string a0_4]] w fun e w'=>e = .returned (.bool r) ∧ Below w.heap.size w w':=by
 have hu25:=Tryd.underlying25;have HB:=As0.mk (Below.refl w.heap.size w);have H:((spec_l1In.f a0_0 1 12).bind fun t104=>(if t104 = true then ((spec_l9Has.f k a0_0).bind fun bt105=>(if a0_0 = 12 then (if a0_1.toList = ([]:List UInt8) then (if a0_2.toList = ([]:List UInt8) then (if a0_3 = 0 then (some (a0_4.toList == ([]:List UInt8))) else (some false)) else (some false)) else (some false)) else ((spec_NameOk.f k a0_1).bind fun t108=>(if t108 = true then (if (bt105.1 != (a0_2.toList != ([]:List UInt8))) = true then (spec_ReqOk.j0 k true a0_0 a0_1 a0_2 a0_3 a0_4) else (if bt105.1 = true then ((spec_NameOk.f k a0_2).bind fun t109=>(if t109 = true then (if bt105.2.1 = true then (if bt105.2.2 = true then ((spec_l1In.f a0_3 (-1) 99999).bind fun t110=>(spec_ReqOk.j0 k (!t110) a0_0 a0_1 a0_2 a0_3 a0_4)) else (if a0_4.toList = ([]:List UInt8) then ((spec_l1In.f a0_3 (-1) 99999).bind fun t111=>(spec_ReqOk.j0 k (!t111) a0_0 a0_1 a0_2 a0_3 a0_4)) else (spec_ReqOk.j0 k true a0_0 a0_1 a0_2 a0_3 a0_4))) else (if a0_3 = 0 then (if bt105.2.2 = true then ((spec_l1In.f a0_3 (-1) 99999).bind fun t112=>(spec_ReqOk.j0 k (!t112) a0_0 a0_1 a0_2 a0_3 a0_4)) else (if a0_4.toList = ([]:List UInt8) then ((spec_l1In.f a0_3 (-1) 99999).bind fun t113=>(spec_ReqOk.j0 k (!t113) a0_0 a0_1 a0_2 a0_3 a0_4)) else (spec_ReqOk.j0 k true a0_0 a0_1 a0_2 a0_3 a0_4))) else (spec_ReqOk.j0 k true a0_0 a0_1 a0_2 a0_3 a0_4))) else (spec_ReqOk.j0 k true a0_0 a0_1 a0_2 a0_3 a0_4))) else (if bt105.2.1 = true then (if bt105.2.2 = true then ((spec_l1In.f a0_3 (-1) 99999).bind fun t114=>(spec_ReqOk.j0 k (!t114) a0_0 a0_1 a0_2 a0_3 a0_4)) else (if a0_4.toList = ([]:List UInt8) then ((spec_l1In.f a0_3 (-1) 99999).bind fun t115=>(spec_ReqOk.j0 k (!t115) a0_0 a0_1 a0_2 a0_3 a0_4)) else (spec_ReqOk.j0 k true a0_0 a0_1 a0_2 a0_3 a0_4))) else (if a0_3 = 0 then (if bt105.2.2 = true then ((spec_l1In.f a0_3 (-1) 99999).bind fun t116=>(spec_ReqOk.j0 k (!t116) a0_0 a0_1 a0_2 a0_3 a0_4)) else (if a0_4.toList = ([]:List UInt8) then ((spec_l1In.f a0_3 (-1) 99999).bind fun t117=>(spec_ReqOk.j0 k (!t117) a0_0 a0_1 a0_2 a0_3 a0_4)) else (spec_ReqOk.j0 k true a0_0 a0_1 a0_2 a0_3 a0_4))) else (spec_ReqOk.j0 k true a0_0 a0_1 a0_2 a0_3 a0_4))))) else (spec_ReqOk.j0 k true a0_0 a0_1 a0_2 a0_3 a0_4))))) else (some false))) = some r:=h;clear h;replace H:=Option.bind_eq_some_iff.mp H;obtain ⟨t104,A20,H⟩:=H;(try dsimp only at H);have A2:=As0.mk A20;clear A20;by_cases c3:t104 = true
 · subst c3
   have H1:((spec_l9Has.f k a0_0).bind fun bt105=>(if a0_0 = 12 then (if a0_1.toList = ([]:List UInt8) then (if a0_2.toList = ([]:List UInt8) then (if a0_3 = 0 then (some (a0_4.toList == ([]:List UInt8))) else (some false)) else (some false)) else (some false)) else ((spec_NameOk.f k a0_1).bind fun t108=>(if t108 = true then (if (bt105.1 != (a0_2.toList != ([]:List UInt8))) = true then (spec_ReqOk.j0 k true a0_0 a0_1 a0_2 a0_3 a0_4) else (if bt105.1 = true then ((spec_NameOk.f k a0_2).bind fun t109=>(if t109 = true then (if bt105.2.1 = true then (if bt105.2.2 = true then ((spec_l1In.f a0_3 (-1) 99999).bind fun t110=>(spec_ReqOk.j0 k (!t110) a0_0 a0_1 a0_2 a0_3 a0_4)) else (if a0_4.toList = ([]:List UInt8) then ((spec_l1In.f a0_3 (-1) 99999).bind fun t111=>(spec_ReqOk.j0 k (!t111) a0_0 a0_1 a0_2 a0_3 a0_4)) else (spec_ReqOk.j0 k true a0_0 a0_1 a0_2 a0_3 a0_4))) else (if a0_3 = 0 then (if bt105.2.2 = true then ((spec_l1In.f a0_3 (-1) 99999).bind fun t112=>(spec_ReqOk.j0 k (!t112) a0_0 a0_1 a0_2 a0_3 a0_4)) else (if a0_4.toList = ([]:List UInt8) then ((spec_l1In.f a0_3 (-1) 99999).bind fun t113=>(spec_ReqOk.j0 k (!t113) a0_0 a0_1 a0_2 a0_3 a0_4)) else (spec_ReqOk.j0 k true a0_0 a0_1 a0_2 a0_3 a0_4))) else (spec_ReqOk.j0 k true a0_0 a0_1 a0_2 a0_3 a0_4))) else (spec_ReqOk.j0 k true a0_0 a0_1 a0_2 a0_3 a0_4))) else (if bt105.2.1 = true then (if bt105.2.2 = true then ((spec_l1In.f a0_3 (-1) 99999).bind fun t114=>(spec_ReqOk.j0 k (!t114) a0_0 a0_1 a0_2 a0_3 a0_4)) else (if a0_4.toList = ([]:List UInt8) then ((spec_l1In.f a0_3 (-1) 99999).bind fun t115=>(spec_ReqOk.j0 k (!t115) a0_0 a0_1 a0_2 a0_3 a0_4)) else (spec_ReqOk.j0 k true a0_0 a0_1 a0_2 a0_3 a0_4))) else (if a0_3 = 0 then (if bt105.2.2 = true then ((spec_l1In.f a0_3 (-1) 99999).bind fun t116=>(spec_ReqOk.j0 k (!t116) a0_0 a0_1 a0_2 a0_3 a0_4)) else (if a0_4.toList = ([]:List UInt8) then ((spec_l1In.f a0_3 (-1) 99999).bind fun t117=>(spec_ReqOk.j0 k (!t117) a0_0 a0_1 a0_2 a0_3 a0_4)) else (spec_ReqOk.j0 k true a0_0 a0_1 a0_2 a0_3 a0_4))) else (spec_ReqOk.j0 k true a0_0 a0_1 a0_2 a0_3 a0_4))))) else (spec_ReqOk.j0 k true a0_0 a0_1 a0_2 a0_3 a0_4))))) = some r:=by rw [if_pos rfl] at H;exact H
   clear H;have H:=H1;clear H1;replace H:=Option.bind_eq_some_iff.mp H;obtain ⟨⟨t105,t106,t107⟩,A40,H⟩:=H;(try dsimp only at H);have A4:=As0.mk A40;clear A40;by_cases c5:a0_0 = 12
   · rw [if_pos c5] at H
     have c5b0:(a0_0 == 12) = true:=beq_iff_eq.mpr c5;have c5b1:(a0_0 != 12) = false:=bne_eq_false_iff_eq.mpr c5;clear c5;by_cases c6:a0_1.toList = ([]:List UInt8)
     · rw [if_pos c6] at H
       have c6b0:(a0_1.toList == ([]:List UInt8)) = true:=beq_iff_eq.mpr c6;have c6b1:(a0_1.toList != ([]:List UInt8)) = false:=bne_eq_false_iff_eq.mpr c6;clear c6;by_cases c7:a0_2.toList = ([]:List UInt8)
       · rw [if_pos c7] at H
         have c7b0:(a0_2.toList == ([]:List UInt8)) = true:=beq_iff_eq.mpr c7;have c7b1:(a0_2.toList != ([]:List UInt8)) = false:=bne_eq_false_iff_eq.mpr c7;clear c7;by_cases c8:a0_3 = 0
         · rw [if_pos c8] at H
           have c8b0:(a0_3 == 0) = true:=beq_iff_eq.mpr c8;have c8b1:(a0_3 != 0) = false:=bne_eq_false_iff_eq.mpr c8;clear c8;obtain rfl:=Option.some.inj H
           go_enter Tryd.func12,Tryd.ntmps12
           go_wp2_with (first|((with_reducible refine gate_dst (N:=1) rfl ?_);refine bE 1 #[.int .i64 a0_0,.string a0_1,.string a0_2,.int .i64 a0_3,.string a0_4] 25 ?_;intro gb103 hg w9 hbox hb;have BK103:=As0.mk (hbox);have GW103:=As0.mk ((by rw [hg];exact (bsz (by repeat (first|(with_reducible first|exact HB.out|apply bal|apply pbN|apply bd1)|exact HB.out))):w.heap.size ≤ gb103));have GE103:=GW103;replace HB:=As0.mk (b3 HB.out hb);clear hb hbox hg;obtain ⟨hcz10_0,hcz10_1,hcz10_2,hcz10_3,hcz10_4⟩:=qc5 BK103.out;obtain ⟨hfz10_0,hfz10_1,hfz10_2,hfz10_3,hfz10_4⟩:=qz5 BK103.out)|(refine gL (some 8) Tryd.func29 #[.int .i64 a0_0,.int .i64 1,.int .i64 12] ?_;(with_reducible refine (spec_l1In.calls a0_0 1 12 true _ A2.out).mono ?_);rintro e w' ⟨rfl,⟨nd,rfl⟩⟩;refine ⟨_,rfl,?_⟩)|(refine gL (some 13) Tryd.func22 #[.int .i64 a0_0] ?_;(with_reducible refine (spec_l9Has.calls k a0_0 t105 t106 t107 _ A4.out).mono ?_);rintro e w' ⟨rfl,⟨nd,rfl⟩⟩;refine ⟨_,rfl,?_⟩))
           go_ret
           exact ⟨eW,by repeat (first|(with_reducible first|exact HB.out|apply bal|apply pbN|apply bd1|refine bst ?_ GE103.out)|exact HB.out)⟩
         · rw [if_neg c8] at H
           have c8b0:(a0_3 == 0) = false:=beq_eq_false_iff_ne.mpr c8;have c8b1:(a0_3 != 0) = true:=bne_iff_ne.mpr c8;obtain rfl:=Option.some.inj H
           go_enter Tryd.func12,Tryd.ntmps12
           go_wp2_with (first|((with_reducible refine gate_dst (N:=1) rfl ?_);refine bE 1 #[.int .i64 a0_0,.string a0_1,.string a0_2,.int .i64 a0_3,.string a0_4] 25 ?_;intro gb103 hg w11 hbox hb;have BK103:=As0.mk (hbox);have GW103:=As0.mk ((by rw [hg];exact (bsz (by repeat (first|(with_reducible first|exact HB.out|apply bal|apply pbN|apply bd1)|exact HB.out))):w.heap.size ≤ gb103));have GE103:=GW103;replace HB:=As0.mk (b3 HB.out hb);clear hb hbox hg;obtain ⟨hcz12_0,hcz12_1,hcz12_2,hcz12_3,hcz12_4⟩:=qc5 BK103.out;obtain ⟨hfz12_0,hfz12_1,hfz12_2,hfz12_3,hfz12_4⟩:=qz5 BK103.out)|(refine gL (some 8) Tryd.func29 #[.int .i64 a0_0,.int .i64 1,.int .i64 12] ?_;(with_reducible refine (spec_l1In.calls a0_0 1 12 true _ A2.out).mono ?_);rintro e w' ⟨rfl,⟨nd,rfl⟩⟩;refine ⟨_,rfl,?_⟩)|(refine gL (some 13) Tryd.func22 #[.int .i64 a0_0] ?_;(with_reducible refine (spec_l9Has.calls k a0_0 t105 t106 t107 _ A4.out).mono ?_);rintro e w' ⟨rfl,⟨nd,rfl⟩⟩;refine ⟨_,rfl,?_⟩))
           go_ret
           exact ⟨eW,by repeat (first|(with_reducible first|exact HB.out|apply bal|apply pbN|apply bd1|refine bst ?_ GE103.out)|exact HB.out)⟩
       · rw [if_neg c7] at H
         have c7b0:(a0_2.toList == ([]:List UInt8)) = false:=beq_eq_false_iff_ne.mpr c7;have c7b1:(a0_2.toList != ([]:List UInt8)) = true:=bne_iff_ne.mpr c7;obtain rfl:=Option.some.inj H
         go_enter Tryd.func12,Tryd.ntmps12
         go_wp2_with (first|((with_reducible refine gate_dst (N:=1) rfl ?_);refine bE 1 #[.int .i64 a0_0,.string a0_1,.string a0_2,.int .i64 a0_3,.string a0_4] 25 ?_;intro gb103 hg w13 hbox hb;have BK103:=As0.mk (hbox);have GW103:=As0.mk ((by rw [hg];exact (bsz (by repeat (first|(with_reducible first|exact HB.out|apply bal|apply pbN|apply bd1)|exact HB.out))):w.heap.size ≤ gb103));have GE103:=GW103;replace HB:=As0.mk (b3 HB.out hb);clear hb hbox hg;obtain ⟨hcz14_0,hcz14_1,hcz14_2,hcz14_3,hcz14_4⟩:=qc5 BK103.out;obtain ⟨hfz14_0,hfz14_1,hfz14_2,hfz14_3,hfz14_4⟩:=qz5 BK103.out)|(refine gL (some 8) Tryd.func29 #[.int .i64 a0_0,.int .i64 1,.int .i64 12] ?_;(with_reducible refine (spec_l1In.calls a0_0 1 12 true _ A2.out).mono ?_);rintro e w' ⟨rfl,⟨nd,rfl⟩⟩;refine ⟨_,rfl,?_⟩)|(refine gL (some 13) Tryd.func22 #[.int .i64 a0_0] ?_;(with_reducible refine (spec_l9Has.calls k a0_0 t105 t106 t107 _ A4.out).mono ?_);rintro e w' ⟨rfl,⟨nd,rfl⟩⟩;refine ⟨_,rfl,?_⟩))
         go_ret
         exact ⟨eW,by repeat (first|(with_reducible first|exact HB.out|apply bal|apply pbN|apply bd1|refine bst ?_ GE103.out)|exact HB.out)⟩
     · rw [if_neg c6] at H
       have c6b0:(a0_1.toList == ([]:List UInt8)) = false:=beq_eq_false_iff_ne.mpr c6;have c6b1:(a0_1.toList != ([]:List UInt8)) = true:=bne_iff_ne.mpr c6;obtain rfl:=Option.some.inj H
       go_enter Tryd.func12,Tryd.ntmps12
       go_wp2_with (first|((with_reducible refine gate_dst (N:=1) rfl ?_);refine bE 1 #[.int .i64 a0_0,.string a0_1,.string a0_2,.int .i64 a0_3,.string a0_4] 25 ?_;intro gb103 hg w15 hbox hb;have BK103:=As0.mk (hbox);have GW103:=As0.mk ((by rw [hg];exact (bsz (by repeat (first|(with_reducible first|exact HB.out|apply bal|apply pbN|apply bd1)|exact HB.out))):w.heap.size ≤ gb103));have GE103:=GW103;replace HB:=As0.mk (b3 HB.out hb);clear hb hbox hg;obtain ⟨hcz16_0,hcz16_1,hcz16_2,hcz16_3,hcz16_4⟩:=qc5 BK103.out;obtain ⟨hfz16_0,hfz16_1,hfz16_2,hfz16_3,hfz16_4⟩:=qz5 BK103.out)|(refine gL (some 8) Tryd.func29 #[.int .i64 a0_0,.int .i64 1,.int .i64 12] ?_;(with_reducible refine (spec_l1In.calls a0_0 1 12 true _ A2.out).mono ?_);rintro e w' ⟨rfl,⟨nd,rfl⟩⟩;refine ⟨_,rfl,?_⟩)|(refine gL (some 13) Tryd.func22 #[.int .i64 a0_0] ?_;(with_reducible refine (spec_l9Has.calls k a0_0 t105 t106 t107 _ A4.out).mono ?_);rintro e w' ⟨rfl,⟨nd,rfl⟩⟩;refine ⟨_,rfl,?_⟩))
       go_ret
       exact ⟨eW,by repeat (first|(with_reducible first|exact HB.out|apply bal|apply pbN|apply bd1|refine bst ?_ GE103.out)|exact HB.out)⟩
   · rw [if_neg c5] at H
     have c5b0:(a0_0 == 12) = false:=beq_eq_false_iff_ne.mpr c5;have c5b1:(a0_0 != 12) = true:=bne_iff_ne.mpr c5;have HC17:=As0.mk H;clear H
     go_enter Tryd.func12,Tryd.ntmps12
     show _;go_upto_region 6 with (first|((with_reducible refine gate_dst (N:=1) rfl ?_);refine bE 1 #[.int .i64 a0_0,.string a0_1,.string a0_2,.int .i64 a0_3,.string a0_4] 25 ?_;intro gb103 hg w18 hbox hb;have n0_:=As0.mk (b3 HB.out hb);have n1_:=As0.mk (hbox);have n2_:=As0.mk ((by rw [hg];exact (bsz (by repeat (first|(with_reducible first|exact HB.out|apply bal|apply pbN|apply bd1)|exact HB.out))):w.heap.size ≤ gb103));have n3_:=As0.mk ((by rw [hg];exact (bsz (by repeat (first|(with_reducible first|exact HB.out|apply bal|apply pbN|apply bd1)|exact HB.out))):w.heap.size ≤ gb103));clear HB;have HB:=n0_;have BK103:=n1_;have GW103:=n2_;have GE103:=n3_;clear n0_ n1_ n2_ n3_;clear hb hbox hg;have hcz19_0:w18.cell? ⟨gb103,0,none⟩ = some (.int .i64 a0_0):=(bkC BK103.out 0).trans rfl;have hcz19_1:w18.cell? ⟨gb103,1,none⟩ = some (.string a0_1):=(bkC BK103.out 1).trans rfl;have hcz19_2:w18.cell? ⟨gb103,2,none⟩ = some (.string a0_2):=(bkC BK103.out 2).trans rfl;have hcz19_3:w18.cell? ⟨gb103,3,none⟩ = some (.int .i64 a0_3):=(bkC BK103.out 3).trans rfl;have hcz19_4:w18.cell? ⟨gb103,4,none⟩ = some (.string a0_4):=(bkC BK103.out 4).trans rfl;have hfz19_0:=bkF BK103.out 0;have hfz19_1:=bkF BK103.out 1;have hfz19_2:=bkF BK103.out 2;have hfz19_3:=bkF BK103.out 3;have hfz19_4:=bkF BK103.out 4)|(refine gL (some 8) Tryd.func29 #[.int .i64 a0_0,.int .i64 1,.int .i64 12] ?_;(with_reducible refine (spec_l1In.calls a0_0 1 12 true _ A2.out).mono ?_);rintro e w' ⟨rfl,⟨nd,rfl⟩⟩;refine ⟨_,rfl,?_⟩)|(refine gL (some 13) Tryd.func22 #[.int .i64 a0_0] ?_;(with_reducible refine (spec_l9Has.calls k a0_0 t105 t106 t107 _ A4.out).mono ?_);rintro e w' ⟨rfl,⟨nd,rfl⟩⟩;refine ⟨_,rfl,?_⟩))
     (try simp only [Act.put,sA,sZ,sS])
     show _;go_cut [81] (fun v81 wc=>∃ (kq:Nat) (x81_16:Bool),v81 = .bool x81_16 ∧ As0 (spec_ReqOk.j0 kq x81_16 a0_0 a0_1 a0_2 a0_3 a0_4 = some r) ∧ As0 (kq ≤ k) ∧ As0 (wc.heap[gb103]? = some (.cells #[.int .i64 a0_0,.string a0_1,.string a0_2,.int .i64 a0_3,.string a0_4] 25 (0,0))) ∧ As0 (Below w.heap.size w wc))
     case first=>
      have H:=HC17.out;clear HC17;replace H:=Option.bind_eq_some_iff.mp H;obtain ⟨t108,A200,H⟩:=H;(try dsimp only at H);have A20:=As0.mk A200;clear A200;by_cases c21:t108 = true
      · subst c21
        have H1:(if (t105 != (a0_2.toList != ([]:List UInt8))) = true then (spec_ReqOk.j0 k true a0_0 a0_1 a0_2 a0_3 a0_4) else (if t105 = true then ((spec_NameOk.f k a0_2).bind fun t109=>(if t109 = true then (if t106 = true then (if t107 = true then ((spec_l1In.f a0_3 (-1) 99999).bind fun t110=>(spec_ReqOk.j0 k (!t110) a0_0 a0_1 a0_2 a0_3 a0_4)) else (if a0_4.toList = ([]:List UInt8) then ((spec_l1In.f a0_3 (-1) 99999).bind fun t111=>(spec_ReqOk.j0 k (!t111) a0_0 a0_1 a0_2 a0_3 a0_4)) else (spec_ReqOk.j0 k true a0_0 a0_1 a0_2 a0_3 a0_4))) else (if a0_3 = 0 then (if t107 = true then ((spec_l1In.f a0_3 (-1) 99999).bind fun t112=>(spec_ReqOk.j0 k (!t112) a0_0 a0_1 a0_2 a0_3 a0_4)) else (if a0_4.toList = ([]:List UInt8) then ((spec_l1In.f a0_3 (-1) 99999).bind fun t113=>(spec_ReqOk.j0 k (!t113) a0_0 a0_1 a0_2 a0_3 a0_4)) else (spec_ReqOk.j0 k true a0_0 a0_1 a0_2 a0_3 a0_4))) else (spec_ReqOk.j0 k true a0_0 a0_1 a0_2 a0_3 a0_4))) else (spec_ReqOk.j0 k true a0_0 a0_1 a0_2 a0_3 a0_4))) else (if t106 = true then (if t107 = true then ((spec_l1In.f a0_3 (-1) 99999).bind fun t114=>(spec_ReqOk.j0 k (!t114) a0_0 a0_1 a0_2 a0_3 a0_4)) else (if a0_4.toList = ([]:List UInt8) then ((spec_l1In.f a0_3 (-1) 99999).bind fun t115=>(spec_ReqOk.j0 k (!t115) a0_0 a0_1 a0_2 a0_3 a0_4)) else (spec_ReqOk.j0 k true a0_0 a0_1 a0_2 a0_3 a0_4))) else (if a0_3 = 0 then (if t107 = true then ((spec_l1In.f a0_3 (-1) 99999).bind fun t116=>(spec_ReqOk.j0 k (!t116) a0_0 a0_1 a0_2 a0_3 a0_4)) else (if a0_4.toList = ([]:List UInt8) then ((spec_l1In.f a0_3 (-1) 99999).bind fun t117=>(spec_ReqOk.j0 k (!t117) a0_0 a0_1 a0_2 a0_3 a0_4)) else (spec_ReqOk.j0 k true a0_0 a0_1 a0_2 a0_3 a0_4))) else (spec_ReqOk.j0 k true a0_0 a0_1 a0_2 a0_3 a0_4))))) = some r:=by rw [if_pos rfl] at H;exact H
        clear H;have H:=H1;clear H1;by_cases c22:(t105 != (a0_2.toList != ([]:List UInt8))) = true
        · rw [if_pos c22] at H
          have c22b0:(t105 != (a0_2.toList != ([]:List UInt8))) = true:=c22
          (try (have c22s0a:¬ (a0_2.toList = ([]:List UInt8)):=by simpa using c22b0))
          (try (have c22s0b:(a0_2.toList == ([]:List UInt8)) = false:=by simpa using c22b0))
          (try (have c22s0c:(a0_2.toList == ([]:List UInt8)) = true:=by simpa using c22b0))
          (try (have c22s0d:a0_2.toList.isEmpty = false:=by simpa using c22b0))
          (try (have c22s0e:a0_2.toList.isEmpty = true:=by simpa using c22b0))
          (try (have c22b1:decide (t105 = (a0_2.toList != ([]:List UInt8))) = false:=by simpa using c22))
          (try (have c22b2:(t105 == (a0_2.toList != ([]:List UInt8))) = false:=by simpa using c22))
          (try (have c22b3:¬ (t105 = (a0_2.toList != ([]:List UInt8))):=by simpa using c22))
          clear c22
          (first|rw [c22b0]|(simp only [i64_w,i32_w];rw [c22b0])|skip)
          have H':=As0.mk H;clear H;obtain ⟨hcz23_0,hcz23_1,hcz23_2,hcz23_3,hcz23_4⟩:=qc5 BK103.out;obtain ⟨hfz23_0,hfz23_1,hfz23_2,hfz23_3,hfz23_4⟩:=qz5 BK103.out;rcases xorB_ _ _ c22b0 with ⟨zF_,zG_⟩|⟨zF_,zG_⟩
          · subst zG_
            (try clear c22b0)
            (try clear c22b1)
            (try clear c22b2)
            go_wp2_with (first|(refine gL (some 40) Tryd.func30 #[.string a0_1] ?_;(with_reducible refine (spec_NameOk.calls k a0_1 true _ A20.out).mono ?_);rintro e w' ⟨rfl,⟨nd,rfl⟩⟩;refine ⟨_,rfl,?_⟩))
            show _;go_meet
            case rel=>exact ⟨_,(true),(by first|rfl|(simp;done)|(simp [*];done)),H',⟨by first|omega|exact Nat.le_refl _⟩,⟨by (with_reducible repeat (first|refine bkN ?_ _|refine bkD ?_|refine bkA ?_ _));exact BK103.out⟩,⟨by repeat (first|(with_reducible first|exact HB.out|apply bal|apply pbN|apply bd1|refine bst ?_ GE103.out)|exact HB.out)⟩⟩
          · subst zG_
            (try clear c22b0)
            (try clear c22b1)
            (try clear c22b2)
            go_wp2_with (first|(refine gL (some 40) Tryd.func30 #[.string a0_1] ?_;(with_reducible refine (spec_NameOk.calls k a0_1 true _ A20.out).mono ?_);rintro e w' ⟨rfl,⟨nd,rfl⟩⟩;refine ⟨_,rfl,?_⟩))
            show _;go_meet
            case rel=>exact ⟨_,(true),(by first|rfl|(simp;done)|(simp [*];done)),H',⟨by first|omega|exact Nat.le_refl _⟩,⟨by (with_reducible repeat (first|refine bkN ?_ _|refine bkD ?_|refine bkA ?_ _));exact BK103.out⟩,⟨by repeat (first|(with_reducible first|exact HB.out|apply bal|apply pbN|apply bd1|refine bst ?_ GE103.out)|exact HB.out)⟩⟩
        · rw [if_neg c22] at H
          have c22b0:(t105 != (a0_2.toList != ([]:List UInt8))) = false:=by simpa using c22
          (try (have c22s0a:¬ (a0_2.toList = ([]:List UInt8)):=by simpa using c22b0))
          (try (have c22s0b:(a0_2.toList == ([]:List UInt8)) = false:=by simpa using c22b0))
          (try (have c22s0c:(a0_2.toList == ([]:List UInt8)) = true:=by simpa using c22b0))
          (try (have c22s0d:a0_2.toList.isEmpty = false:=by simpa using c22b0))
          (try (have c22s0e:a0_2.toList.isEmpty = true:=by simpa using c22b0))
          (try (have c22b1:decide (t105 = (a0_2.toList != ([]:List UInt8))) = true:=by simpa using c22))
          (try (have c22b2:(t105 == (a0_2.toList != ([]:List UInt8))) = true:=by simpa using c22))
          clear c22
          (first|rw [c22b0]|(simp only [i64_w,i32_w];rw [c22b0])|skip)
          by_cases c24:t105 = true
          · subst c24
            have H1:((spec_NameOk.f k a0_2).bind fun t109=>(if t109 = true then (if t106 = true then (if t107 = true then ((spec_l1In.f a0_3 (-1) 99999).bind fun t110=>(spec_ReqOk.j0 k (!t110) a0_0 a0_1 a0_2 a0_3 a0_4)) else (if a0_4.toList = ([]:List UInt8) then ((spec_l1In.f a0_3 (-1) 99999).bind fun t111=>(spec_ReqOk.j0 k (!t111) a0_0 a0_1 a0_2 a0_3 a0_4)) else (spec_ReqOk.j0 k true a0_0 a0_1 a0_2 a0_3 a0_4))) else (if a0_3 = 0 then (if t107 = true then ((spec_l1In.f a0_3 (-1) 99999).bind fun t112=>(spec_ReqOk.j0 k (!t112) a0_0 a0_1 a0_2 a0_3 a0_4)) else (if a0_4.toList = ([]:List UInt8) then ((spec_l1In.f a0_3 (-1) 99999).bind fun t113=>(spec_ReqOk.j0 k (!t113) a0_0 a0_1 a0_2 a0_3 a0_4)) else (spec_ReqOk.j0 k true a0_0 a0_1 a0_2 a0_3 a0_4))) else (spec_ReqOk.j0 k true a0_0 a0_1 a0_2 a0_3 a0_4))) else (spec_ReqOk.j0 k true a0_0 a0_1 a0_2 a0_3 a0_4))) = some r:=by rw [if_pos rfl] at H;exact H
            clear H;have H:=H1;clear H1;replace H:=Option.bind_eq_some_iff.mp H;obtain ⟨t109,A250,H⟩:=H;(try dsimp only at H);have A25:=As0.mk A250;clear A250;by_cases c26:t109 = true
            · subst c26
              have H1:(if t106 = true then (if t107 = true then ((spec_l1In.f a0_3 (-1) 99999).bind fun t110=>(spec_ReqOk.j0 k (!t110) a0_0 a0_1 a0_2 a0_3 a0_4)) else (if a0_4.toList = ([]:List UInt8) then ((spec_l1In.f a0_3 (-1) 99999).bind fun t111=>(spec_ReqOk.j0 k (!t111) a0_0 a0_1 a0_2 a0_3 a0_4)) else (spec_ReqOk.j0 k true a0_0 a0_1 a0_2 a0_3 a0_4))) else (if a0_3 = 0 then (if t107 = true then ((spec_l1In.f a0_3 (-1) 99999).bind fun t112=>(spec_ReqOk.j0 k (!t112) a0_0 a0_1 a0_2 a0_3 a0_4)) else (if a0_4.toList = ([]:List UInt8) then ((spec_l1In.f a0_3 (-1) 99999).bind fun t113=>(spec_ReqOk.j0 k (!t113) a0_0 a0_1 a0_2 a0_3 a0_4)) else (spec_ReqOk.j0 k true a0_0 a0_1 a0_2 a0_3 a0_4))) else (spec_ReqOk.j0 k true a0_0 a0_1 a0_2 a0_3 a0_4))) = some r:=by rw [if_pos rfl] at H;exact H
              clear H;have H:=H1;clear H1;by_cases c27:t106 = true
              · subst c27
                have H1:(if t107 = true then ((spec_l1In.f a0_3 (-1) 99999).bind fun t110=>(spec_ReqOk.j0 k (!t110) a0_0 a0_1 a0_2 a0_3 a0_4)) else (if a0_4.toList = ([]:List UInt8) then ((spec_l1In.f a0_3 (-1) 99999).bind fun t111=>(spec_ReqOk.j0 k (!t111) a0_0 a0_1 a0_2 a0_3 a0_4)) else (spec_ReqOk.j0 k true a0_0 a0_1 a0_2 a0_3 a0_4))) = some r:=by rw [if_pos rfl] at H;exact H
                clear H;have H:=H1;clear H1;by_cases c28:t107 = true
                · subst c28
                  have H1:((spec_l1In.f a0_3 (-1) 99999).bind fun t110=>(spec_ReqOk.j0 k (!t110) a0_0 a0_1 a0_2 a0_3 a0_4)) = some r:=by rw [if_pos rfl] at H;exact H
                  clear H;have H:=H1;clear H1;replace H:=Option.bind_eq_some_iff.mp H;obtain ⟨t110,A290,H⟩:=H;(try dsimp only at H);have A29:=As0.mk A290;clear A290;have H':=As0.mk H;clear H;obtain ⟨hcz30_0,hcz30_1,hcz30_2,hcz30_3,hcz30_4⟩:=qc5 BK103.out;obtain ⟨hfz30_0,hfz30_1,hfz30_2,hfz30_3,hfz30_4⟩:=qz5 BK103.out
                  (try (have zx_:¬ (a0_2.toList = ([]:List UInt8)):=by simpa using c22b0))
                  (try (have zy_:(a0_2.toList = ([]:List UInt8)):=by simpa using c22b0))
                  (try (have zb_:(a0_2.toList == ([]:List UInt8)) = false:=by simpa using c22b0))
                  (try (have zc_:(a0_2.toList == ([]:List UInt8)) = true:=by simpa using c22b0))
                  (try (have zA_:(a0_2.toList = ([]:List UInt8)) → t105 = true:=by intro e_;simpa [e_] using c22b0))
                  (try (have zB_:¬ (a0_2.toList = ([]:List UInt8)) → t105 = false:=by intro e_;simpa [e_] using c22b0))
                  (try (have zC_:(a0_2.toList = ([]:List UInt8)) → t105 = false:=by intro e_;simpa [e_] using c22b0))
                  (try (have zD_:¬ (a0_2.toList = ([]:List UInt8)) → t105 = true:=by intro e_;simpa [e_] using c22b0))
                  go_wp2_with (first|(refine gL (some 40) Tryd.func30 #[.string a0_1] ?_;(with_reducible refine (spec_NameOk.calls k a0_1 true _ A20.out).mono ?_);rintro e w' ⟨rfl,⟨nd,rfl⟩⟩;refine ⟨_,rfl,?_⟩)|(go_at_call 30;(with_reducible refine (spec_NameOk.calls k a0_2 true _ A25.out).mono ?_);rintro e w' ⟨rfl,⟨nd,rfl⟩⟩)|(go_at_call 29;(with_reducible refine (spec_l1In.calls a0_3 (-1) 99999 t110 _ A29.out).mono ?_);rintro e w' ⟨rfl,⟨nd,rfl⟩⟩))
                  show _;go_meet
                  case rel=>exact ⟨_,(!t110),(by first|rfl|(simp;done)|(simp [*];done)),H',⟨by first|omega|exact Nat.le_refl _⟩,⟨by (with_reducible repeat (first|refine bkN ?_ _|refine bkD ?_|refine bkA ?_ _));exact BK103.out⟩,⟨by repeat (first|(with_reducible first|exact HB.out|apply bal|apply pbN|apply bd1|refine bst ?_ GE103.out)|exact HB.out)⟩⟩
                · replace c28:=Bool.eq_false_iff.mpr c28
                  subst c28;have H1:(if a0_4.toList = ([]:List UInt8) then ((spec_l1In.f a0_3 (-1) 99999).bind fun t111=>(spec_ReqOk.j0 k (!t111) a0_0 a0_1 a0_2 a0_3 a0_4)) else (spec_ReqOk.j0 k true a0_0 a0_1 a0_2 a0_3 a0_4)) = some r:=by rw [if_neg (show ¬ (false = true) by decide)] at H;exact H
                  clear H;have H:=H1;clear H1;by_cases c31:a0_4.toList = ([]:List UInt8)
                  · rw [if_pos c31] at H
                    have c31b0:(a0_4.toList == ([]:List UInt8)) = true:=beq_iff_eq.mpr c31;have c31b1:(a0_4.toList != ([]:List UInt8)) = false:=bne_eq_false_iff_eq.mpr c31;clear c31;replace H:=Option.bind_eq_some_iff.mp H;obtain ⟨t111,A320,H⟩:=H;(try dsimp only at H);have A32:=As0.mk A320;clear A320;have H':=As0.mk H;clear H;obtain ⟨hcz33_0,hcz33_1,hcz33_2,hcz33_3,hcz33_4⟩:=qc5 BK103.out;obtain ⟨hfz33_0,hfz33_1,hfz33_2,hfz33_3,hfz33_4⟩:=qz5 BK103.out
                    (try (have zx_:¬ (a0_2.toList = ([]:List UInt8)):=by simpa using c22b0))
                    (try (have zy_:(a0_2.toList = ([]:List UInt8)):=by simpa using c22b0))
                    (try (have zb_:(a0_2.toList == ([]:List UInt8)) = false:=by simpa using c22b0))
                    (try (have zc_:(a0_2.toList == ([]:List UInt8)) = true:=by simpa using c22b0))
                    (try (have zA_:(a0_2.toList = ([]:List UInt8)) → t105 = true:=by intro e_;simpa [e_] using c22b0))
                    (try (have zB_:¬ (a0_2.toList = ([]:List UInt8)) → t105 = false:=by intro e_;simpa [e_] using c22b0))
                    (try (have zC_:(a0_2.toList = ([]:List UInt8)) → t105 = false:=by intro e_;simpa [e_] using c22b0))
                    (try (have zD_:¬ (a0_2.toList = ([]:List UInt8)) → t105 = true:=by intro e_;simpa [e_] using c22b0))
                    go_wp2_with (first|(refine gL (some 40) Tryd.func30 #[.string a0_1] ?_;(with_reducible refine (spec_NameOk.calls k a0_1 true _ A20.out).mono ?_);rintro e w' ⟨rfl,⟨nd,rfl⟩⟩;refine ⟨_,rfl,?_⟩)|(go_at_call 30;(with_reducible refine (spec_NameOk.calls k a0_2 true _ A25.out).mono ?_);rintro e w' ⟨rfl,⟨nd,rfl⟩⟩)|(go_at_call 29;(with_reducible refine (spec_l1In.calls a0_3 (-1) 99999 t111 _ A32.out).mono ?_);rintro e w' ⟨rfl,⟨nd,rfl⟩⟩))
                    show _;go_meet
                    case rel=>exact ⟨_,(!t111),(by first|rfl|(simp;done)|(simp [*];done)),H',⟨by first|omega|exact Nat.le_refl _⟩,⟨by (with_reducible repeat (first|refine bkN ?_ _|refine bkD ?_|refine bkA ?_ _));exact BK103.out⟩,⟨by repeat (first|(with_reducible first|exact HB.out|apply bal|apply pbN|apply bd1|refine bst ?_ GE103.out)|exact HB.out)⟩⟩
                  · rw [if_neg c31] at H
                    have c31b0:(a0_4.toList == ([]:List UInt8)) = false:=beq_eq_false_iff_ne.mpr c31;have c31b1:(a0_4.toList != ([]:List UInt8)) = true:=bne_iff_ne.mpr c31;have H':=As0.mk H;clear H;obtain ⟨hcz34_0,hcz34_1,hcz34_2,hcz34_3,hcz34_4⟩:=qc5 BK103.out;obtain ⟨hfz34_0,hfz34_1,hfz34_2,hfz34_3,hfz34_4⟩:=qz5 BK103.out
                    (try (have zx_:¬ (a0_2.toList = ([]:List UInt8)):=by simpa using c22b0))
                    (try (have zy_:(a0_2.toList = ([]:List UInt8)):=by simpa using c22b0))
                    (try (have zb_:(a0_2.toList == ([]:List UInt8)) = false:=by simpa using c22b0))
                    (try (have zc_:(a0_2.toList == ([]:List UInt8)) = true:=by simpa using c22b0))
                    (try (have zA_:(a0_2.toList = ([]:List UInt8)) → t105 = true:=by intro e_;simpa [e_] using c22b0))
                    (try (have zB_:¬ (a0_2.toList = ([]:List UInt8)) → t105 = false:=by intro e_;simpa [e_] using c22b0))
                    (try (have zC_:(a0_2.toList = ([]:List UInt8)) → t105 = false:=by intro e_;simpa [e_] using c22b0))
                    (try (have zD_:¬ (a0_2.toList = ([]:List UInt8)) → t105 = true:=by intro e_;simpa [e_] using c22b0))
                    go_wp2_with (first|(refine gL (some 40) Tryd.func30 #[.string a0_1] ?_;(with_reducible refine (spec_NameOk.calls k a0_1 true _ A20.out).mono ?_);rintro e w' ⟨rfl,⟨nd,rfl⟩⟩;refine ⟨_,rfl,?_⟩)|(go_at_call 30;(with_reducible refine (spec_NameOk.calls k a0_2 true _ A25.out).mono ?_);rintro e w' ⟨rfl,⟨nd,rfl⟩⟩))
                    show _;go_meet
                    case rel=>exact ⟨_,(true),(by first|rfl|(simp;done)|(simp [*];done)),H',⟨by first|omega|exact Nat.le_refl _⟩,⟨by (with_reducible repeat (first|refine bkN ?_ _|refine bkD ?_|refine bkA ?_ _));exact BK103.out⟩,⟨by repeat (first|(with_reducible first|exact HB.out|apply bal|apply pbN|apply bd1|refine bst ?_ GE103.out)|exact HB.out)⟩⟩
              · replace c27:=Bool.eq_false_iff.mpr c27
                subst c27;have H1:(if a0_3 = 0 then (if t107 = true then ((spec_l1In.f a0_3 (-1) 99999).bind fun t112=>(spec_ReqOk.j0 k (!t112) a0_0 a0_1 a0_2 a0_3 a0_4)) else (if a0_4.toList = ([]:List UInt8) then ((spec_l1In.f a0_3 (-1) 99999).bind fun t113=>(spec_ReqOk.j0 k (!t113) a0_0 a0_1 a0_2 a0_3 a0_4)) else (spec_ReqOk.j0 k true a0_0 a0_1 a0_2 a0_3 a0_4))) else (spec_ReqOk.j0 k true a0_0 a0_1 a0_2 a0_3 a0_4)) = some r:=by rw [if_neg (show ¬ (false = true) by decide)] at H;exact H
                clear H;have H:=H1;clear H1;by_cases c35:a0_3 = 0
                · rw [if_pos c35] at H
                  have c35b0:(a0_3 == 0) = true:=beq_iff_eq.mpr c35;have c35b1:(a0_3 != 0) = false:=bne_eq_false_iff_eq.mpr c35;clear c35;by_cases c36:t107 = true
                  · subst c36
                    have H1:((spec_l1In.f a0_3 (-1) 99999).bind fun t112=>(spec_ReqOk.j0 k (!t112) a0_0 a0_1 a0_2 a0_3 a0_4)) = some r:=by rw [if_pos rfl] at H;exact H
                    clear H;have H:=H1;clear H1;replace H:=Option.bind_eq_some_iff.mp H;obtain ⟨t112,A370,H⟩:=H;(try dsimp only at H);have A37:=As0.mk A370;clear A370;have H':=As0.mk H;clear H;obtain ⟨hcz38_0,hcz38_1,hcz38_2,hcz38_3,hcz38_4⟩:=qc5 BK103.out;obtain ⟨hfz38_0,hfz38_1,hfz38_2,hfz38_3,hfz38_4⟩:=qz5 BK103.out
                    (try (have zx_:¬ (a0_2.toList = ([]:List UInt8)):=by simpa using c22b0))
                    (try (have zy_:(a0_2.toList = ([]:List UInt8)):=by simpa using c22b0))
                    (try (have zb_:(a0_2.toList == ([]:List UInt8)) = false:=by simpa using c22b0))
                    (try (have zc_:(a0_2.toList == ([]:List UInt8)) = true:=by simpa using c22b0))
                    (try (have zA_:(a0_2.toList = ([]:List UInt8)) → t105 = true:=by intro e_;simpa [e_] using c22b0))
                    (try (have zB_:¬ (a0_2.toList = ([]:List UInt8)) → t105 = false:=by intro e_;simpa [e_] using c22b0))
                    (try (have zC_:(a0_2.toList = ([]:List UInt8)) → t105 = false:=by intro e_;simpa [e_] using c22b0))
                    (try (have zD_:¬ (a0_2.toList = ([]:List UInt8)) → t105 = true:=by intro e_;simpa [e_] using c22b0))
                    go_wp2_with (first|(refine gL (some 40) Tryd.func30 #[.string a0_1] ?_;(with_reducible refine (spec_NameOk.calls k a0_1 true _ A20.out).mono ?_);rintro e w' ⟨rfl,⟨nd,rfl⟩⟩;refine ⟨_,rfl,?_⟩)|(go_at_call 30;(with_reducible refine (spec_NameOk.calls k a0_2 true _ A25.out).mono ?_);rintro e w' ⟨rfl,⟨nd,rfl⟩⟩)|(go_at_call 29;(with_reducible refine (spec_l1In.calls a0_3 (-1) 99999 t112 _ A37.out).mono ?_);rintro e w' ⟨rfl,⟨nd,rfl⟩⟩))
                    show _;go_meet
                    case rel=>exact ⟨_,(!t112),(by first|rfl|(simp;done)|(simp [*];done)),H',⟨by first|omega|exact Nat.le_refl _⟩,⟨by (with_reducible repeat (first|refine bkN ?_ _|refine bkD ?_|refine bkA ?_ _));exact BK103.out⟩,⟨by repeat (first|(with_reducible first|exact HB.out|apply bal|apply pbN|apply bd1|refine bst ?_ GE103.out)|exact HB.out)⟩⟩
                  · replace c36:=Bool.eq_false_iff.mpr c36
                    subst c36;have H1:(if a0_4.toList = ([]:List UInt8) then ((spec_l1In.f a0_3 (-1) 99999).bind fun t113=>(spec_ReqOk.j0 k (!t113) a0_0 a0_1 a0_2 a0_3 a0_4)) else (spec_ReqOk.j0 k true a0_0 a0_1 a0_2 a0_3 a0_4)) = some r:=by rw [if_neg (show ¬ (false = true) by decide)] at H;exact H
                    clear H;have H:=H1;clear H1;by_cases c39:a0_4.toList = ([]:List UInt8)
                    · rw [if_pos c39] at H
                      have c39b0:(a0_4.toList == ([]:List UInt8)) = true:=beq_iff_eq.mpr c39;have c39b1:(a0_4.toList != ([]:List UInt8)) = false:=bne_eq_false_iff_eq.mpr c39;clear c39;replace H:=Option.bind_eq_some_iff.mp H;obtain ⟨t113,A400,H⟩:=H;(try dsimp only at H);have A40:=As0.mk A400;clear A400;have H':=As0.mk H;clear H;obtain ⟨hcz41_0,hcz41_1,hcz41_2,hcz41_3,hcz41_4⟩:=qc5 BK103.out;obtain ⟨hfz41_0,hfz41_1,hfz41_2,hfz41_3,hfz41_4⟩:=qz5 BK103.out
                      (try (have zx_:¬ (a0_2.toList = ([]:List UInt8)):=by simpa using c22b0))
                      (try (have zy_:(a0_2.toList = ([]:List UInt8)):=by simpa using c22b0))
                      (try (have zb_:(a0_2.toList == ([]:List UInt8)) = false:=by simpa using c22b0))
                      (try (have zc_:(a0_2.toList == ([]:List UInt8)) = true:=by simpa using c22b0))
                      (try (have zA_:(a0_2.toList = ([]:List UInt8)) → t105 = true:=by intro e_;simpa [e_] using c22b0))
                      (try (have zB_:¬ (a0_2.toList = ([]:List UInt8)) → t105 = false:=by intro e_;simpa [e_] using c22b0))
                      (try (have zC_:(a0_2.toList = ([]:List UInt8)) → t105 = false:=by intro e_;simpa [e_] using c22b0))
                      (try (have zD_:¬ (a0_2.toList = ([]:List UInt8)) → t105 = true:=by intro e_;simpa [e_] using c22b0))
                      go_wp2_with (first|(refine gL (some 40) Tryd.func30 #[.string a0_1] ?_;(with_reducible refine (spec_NameOk.calls k a0_1 true _ A20.out).mono ?_);rintro e w' ⟨rfl,⟨nd,rfl⟩⟩;refine ⟨_,rfl,?_⟩)|(go_at_call 30;(with_reducible refine (spec_NameOk.calls k a0_2 true _ A25.out).mono ?_);rintro e w' ⟨rfl,⟨nd,rfl⟩⟩)|(go_at_call 29;(with_reducible refine (spec_l1In.calls a0_3 (-1) 99999 t113 _ A40.out).mono ?_);rintro e w' ⟨rfl,⟨nd,rfl⟩⟩))
                      show _;go_meet
                      case rel=>exact ⟨_,(!t113),(by first|rfl|(simp;done)|(simp [*];done)),H',⟨by first|omega|exact Nat.le_refl _⟩,⟨by (with_reducible repeat (first|refine bkN ?_ _|refine bkD ?_|refine bkA ?_ _));exact BK103.out⟩,⟨by repeat (first|(with_reducible first|exact HB.out|apply bal|apply pbN|apply bd1|refine bst ?_ GE103.out)|exact HB.out)⟩⟩
                    · rw [if_neg c39] at H
                      have c39b0:(a0_4.toList == ([]:List UInt8)) = false:=beq_eq_false_iff_ne.mpr c39;have c39b1:(a0_4.toList != ([]:List UInt8)) = true:=bne_iff_ne.mpr c39;have H':=As0.mk H;clear H;obtain ⟨hcz42_0,hcz42_1,hcz42_2,hcz42_3,hcz42_4⟩:=qc5 BK103.out;obtain ⟨hfz42_0,hfz42_1,hfz42_2,hfz42_3,hfz42_4⟩:=qz5 BK103.out
                      (try (have zx_:¬ (a0_2.toList = ([]:List UInt8)):=by simpa using c22b0))
                      (try (have zy_:(a0_2.toList = ([]:List UInt8)):=by simpa using c22b0))
                      (try (have zb_:(a0_2.toList == ([]:List UInt8)) = false:=by simpa using c22b0))
                      (try (have zc_:(a0_2.toList == ([]:List UInt8)) = true:=by simpa using c22b0))
                      (try (have zA_:(a0_2.toList = ([]:List UInt8)) → t105 = true:=by intro e_;simpa [e_] using c22b0))
                      (try (have zB_:¬ (a0_2.toList = ([]:List UInt8)) → t105 = false:=by intro e_;simpa [e_] using c22b0))
                      (try (have zC_:(a0_2.toList = ([]:List UInt8)) → t105 = false:=by intro e_;simpa [e_] using c22b0))
                      (try (have zD_:¬ (a0_2.toList = ([]:List UInt8)) → t105 = true:=by intro e_;simpa [e_] using c22b0))
                      go_wp2_with (first|(refine gL (some 40) Tryd.func30 #[.string a0_1] ?_;(with_reducible refine (spec_NameOk.calls k a0_1 true _ A20.out).mono ?_);rintro e w' ⟨rfl,⟨nd,rfl⟩⟩;refine ⟨_,rfl,?_⟩)|(go_at_call 30;(with_reducible refine (spec_NameOk.calls k a0_2 true _ A25.out).mono ?_);rintro e w' ⟨rfl,⟨nd,rfl⟩⟩))
                      show _;go_meet
                      case rel=>exact ⟨_,(true),(by first|rfl|(simp;done)|(simp [*];done)),H',⟨by first|omega|exact Nat.le_refl _⟩,⟨by (with_reducible repeat (first|refine bkN ?_ _|refine bkD ?_|refine bkA ?_ _));exact BK103.out⟩,⟨by repeat (first|(with_reducible first|exact HB.out|apply bal|apply pbN|apply bd1|refine bst ?_ GE103.out)|exact HB.out)⟩⟩
                · rw [if_neg c35] at H
                  have c35b0:(a0_3 == 0) = false:=beq_eq_false_iff_ne.mpr c35;have c35b1:(a0_3 != 0) = true:=bne_iff_ne.mpr c35;have H':=As0.mk H;clear H;obtain ⟨hcz43_0,hcz43_1,hcz43_2,hcz43_3,hcz43_4⟩:=qc5 BK103.out;obtain ⟨hfz43_0,hfz43_1,hfz43_2,hfz43_3,hfz43_4⟩:=qz5 BK103.out
                  (try (have zx_:¬ (a0_2.toList = ([]:List UInt8)):=by simpa using c22b0))
                  (try (have zy_:(a0_2.toList = ([]:List UInt8)):=by simpa using c22b0))
                  (try (have zb_:(a0_2.toList == ([]:List UInt8)) = false:=by simpa using c22b0))
                  (try (have zc_:(a0_2.toList == ([]:List UInt8)) = true:=by simpa using c22b0))
                  (try (have zA_:(a0_2.toList = ([]:List UInt8)) → t105 = true:=by intro e_;simpa [e_] using c22b0))
                  (try (have zB_:¬ (a0_2.toList = ([]:List UInt8)) → t105 = false:=by intro e_;simpa [e_] using c22b0))
                  (try (have zC_:(a0_2.toList = ([]:List UInt8)) → t105 = false:=by intro e_;simpa [e_] using c22b0))
                  (try (have zD_:¬ (a0_2.toList = ([]:List UInt8)) → t105 = true:=by intro e_;simpa [e_] using c22b0))
                  go_wp2_with (first|(refine gL (some 40) Tryd.func30 #[.string a0_1] ?_;(with_reducible refine (spec_NameOk.calls k a0_1 true _ A20.out).mono ?_);rintro e w' ⟨rfl,⟨nd,rfl⟩⟩;refine ⟨_,rfl,?_⟩)|(go_at_call 30;(with_reducible refine (spec_NameOk.calls k a0_2 true _ A25.out).mono ?_);rintro e w' ⟨rfl,⟨nd,rfl⟩⟩))
                  show _;go_meet
                  case rel=>exact ⟨_,(true),(by first|rfl|(simp;done)|(simp [*];done)),H',⟨by first|omega|exact Nat.le_refl _⟩,⟨by (with_reducible repeat (first|refine bkN ?_ _|refine bkD ?_|refine bkA ?_ _));exact BK103.out⟩,⟨by repeat (first|(with_reducible first|exact HB.out|apply bal|apply pbN|apply bd1|refine bst ?_ GE103.out)|exact HB.out)⟩⟩
            · replace c26:=Bool.eq_false_iff.mpr c26
              subst c26;have H1:(spec_ReqOk.j0 k true a0_0 a0_1 a0_2 a0_3 a0_4) = some r:=by rw [if_neg (show ¬ (false = true) by decide)] at H;exact H
              clear H;have H:=H1;clear H1;have H':=As0.mk H;clear H;obtain ⟨hcz44_0,hcz44_1,hcz44_2,hcz44_3,hcz44_4⟩:=qc5 BK103.out;obtain ⟨hfz44_0,hfz44_1,hfz44_2,hfz44_3,hfz44_4⟩:=qz5 BK103.out
              (try (have zx_:¬ (a0_2.toList = ([]:List UInt8)):=by simpa using c22b0))
              (try (have zy_:(a0_2.toList = ([]:List UInt8)):=by simpa using c22b0))
              (try (have zb_:(a0_2.toList == ([]:List UInt8)) = false:=by simpa using c22b0))
              (try (have zc_:(a0_2.toList == ([]:List UInt8)) = true:=by simpa using c22b0))
              (try (have zA_:(a0_2.toList = ([]:List UInt8)) → t105 = true:=by intro e_;simpa [e_] using c22b0))
              (try (have zB_:¬ (a0_2.toList = ([]:List UInt8)) → t105 = false:=by intro e_;simpa [e_] using c22b0))
              (try (have zC_:(a0_2.toList = ([]:List UInt8)) → t105 = false:=by intro e_;simpa [e_] using c22b0))
              (try (have zD_:¬ (a0_2.toList = ([]:List UInt8)) → t105 = true:=by intro e_;simpa [e_] using c22b0))
              go_wp2_with (first|(refine gL (some 40) Tryd.func30 #[.string a0_1] ?_;(with_reducible refine (spec_NameOk.calls k a0_1 true _ A20.out).mono ?_);rintro e w' ⟨rfl,⟨nd,rfl⟩⟩;refine ⟨_,rfl,?_⟩)|(go_at_call 30;(with_reducible refine (spec_NameOk.calls k a0_2 false _ A25.out).mono ?_);rintro e w' ⟨rfl,⟨nd,rfl⟩⟩))
              show _;go_meet
              case rel=>exact ⟨_,(true),(by first|rfl|(simp;done)|(simp [*];done)),H',⟨by first|omega|exact Nat.le_refl _⟩,⟨by (with_reducible repeat (first|refine bkN ?_ _|refine bkD ?_|refine bkA ?_ _));exact BK103.out⟩,⟨by repeat (first|(with_reducible first|exact HB.out|apply bal|apply pbN|apply bd1|refine bst ?_ GE103.out)|exact HB.out)⟩⟩
          · replace c24:=Bool.eq_false_iff.mpr c24
            subst c24;have H1:(if t106 = true then (if t107 = true then ((spec_l1In.f a0_3 (-1) 99999).bind fun t114=>(spec_ReqOk.j0 k (!t114) a0_0 a0_1 a0_2 a0_3 a0_4)) else (if a0_4.toList = ([]:List UInt8) then ((spec_l1In.f a0_3 (-1) 99999).bind fun t115=>(spec_ReqOk.j0 k (!t115) a0_0 a0_1 a0_2 a0_3 a0_4)) else (spec_ReqOk.j0 k true a0_0 a0_1 a0_2 a0_3 a0_4))) else (if a0_3 = 0 then (if t107 = true then ((spec_l1In.f a0_3 (-1) 99999).bind fun t116=>(spec_ReqOk.j0 k (!t116) a0_0 a0_1 a0_2 a0_3 a0_4)) else (if a0_4.toList = ([]:List UInt8) then ((spec_l1In.f a0_3 (-1) 99999).bind fun t117=>(spec_ReqOk.j0 k (!t117) a0_0 a0_1 a0_2 a0_3 a0_4)) else (spec_ReqOk.j0 k true a0_0 a0_1 a0_2 a0_3 a0_4))) else (spec_ReqOk.j0 k true a0_0 a0_1 a0_2 a0_3 a0_4))) = some r:=by rw [if_neg (show ¬ (false = true) by decide)] at H;exact H
            clear H;have H:=H1;clear H1;by_cases c45:t106 = true
            · subst c45
              have H1:(if t107 = true then ((spec_l1In.f a0_3 (-1) 99999).bind fun t114=>(spec_ReqOk.j0 k (!t114) a0_0 a0_1 a0_2 a0_3 a0_4)) else (if a0_4.toList = ([]:List UInt8) then ((spec_l1In.f a0_3 (-1) 99999).bind fun t115=>(spec_ReqOk.j0 k (!t115) a0_0 a0_1 a0_2 a0_3 a0_4)) else (spec_ReqOk.j0 k true a0_0 a0_1 a0_2 a0_3 a0_4))) = some r:=by rw [if_pos rfl] at H;exact H
              clear H;have H:=H1;clear H1;by_cases c46:t107 = true
              · subst c46
                have H1:((spec_l1In.f a0_3 (-1) 99999).bind fun t114=>(spec_ReqOk.j0 k (!t114) a0_0 a0_1 a0_2 a0_3 a0_4)) = some r:=by rw [if_pos rfl] at H;exact H
                clear H;have H:=H1;clear H1;replace H:=Option.bind_eq_some_iff.mp H;obtain ⟨t114,A470,H⟩:=H;(try dsimp only at H);have A47:=As0.mk A470;clear A470;have H':=As0.mk H;clear H;obtain ⟨hcz48_0,hcz48_1,hcz48_2,hcz48_3,hcz48_4⟩:=qc5 BK103.out;obtain ⟨hfz48_0,hfz48_1,hfz48_2,hfz48_3,hfz48_4⟩:=qz5 BK103.out
                (try (have zx_:¬ (a0_2.toList = ([]:List UInt8)):=by simpa using c22b0))
                (try (have zy_:(a0_2.toList = ([]:List UInt8)):=by simpa using c22b0))
                (try (have zb_:(a0_2.toList == ([]:List UInt8)) = false:=by simpa using c22b0))
                (try (have zc_:(a0_2.toList == ([]:List UInt8)) = true:=by simpa using c22b0))
                (try (have zA_:(a0_2.toList = ([]:List UInt8)) → t105 = true:=by intro e_;simpa [e_] using c22b0))
                (try (have zB_:¬ (a0_2.toList = ([]:List UInt8)) → t105 = false:=by intro e_;simpa [e_] using c22b0))
                (try (have zC_:(a0_2.toList = ([]:List UInt8)) → t105 = false:=by intro e_;simpa [e_] using c22b0))
                (try (have zD_:¬ (a0_2.toList = ([]:List UInt8)) → t105 = true:=by intro e_;simpa [e_] using c22b0))
                go_wp2_with (first|(refine gL (some 40) Tryd.func30 #[.string a0_1] ?_;(with_reducible refine (spec_NameOk.calls k a0_1 true _ A20.out).mono ?_);rintro e w' ⟨rfl,⟨nd,rfl⟩⟩;refine ⟨_,rfl,?_⟩)|(go_at_call 29;(with_reducible refine (spec_l1In.calls a0_3 (-1) 99999 t114 _ A47.out).mono ?_);rintro e w' ⟨rfl,⟨nd,rfl⟩⟩))
                show _;go_meet
                case rel=>exact ⟨_,(!t114),(by first|rfl|(simp;done)|(simp [*];done)),H',⟨by first|omega|exact Nat.le_refl _⟩,⟨by (with_reducible repeat (first|refine bkN ?_ _|refine bkD ?_|refine bkA ?_ _));exact BK103.out⟩,⟨by repeat (first|(with_reducible first|exact HB.out|apply bal|apply pbN|apply bd1|refine bst ?_ GE103.out)|exact HB.out)⟩⟩
              · replace c46:=Bool.eq_false_iff.mpr c46
                subst c46;have H1:(if a0_4.toList = ([]:List UInt8) then ((spec_l1In.f a0_3 (-1) 99999).bind fun t115=>(spec_ReqOk.j0 k (!t115) a0_0 a0_1 a0_2 a0_3 a0_4)) else (spec_ReqOk.j0 k true a0_0 a0_1 a0_2 a0_3 a0_4)) = some r:=by rw [if_neg (show ¬ (false = true) by decide)] at H;exact H
                clear H;have H:=H1;clear H1;by_cases c49:a0_4.toList = ([]:List UInt8)
                · rw [if_pos c49] at H
                  have c49b0:(a0_4.toList == ([]:List UInt8)) = true:=beq_iff_eq.mpr c49;have c49b1:(a0_4.toList != ([]:List UInt8)) = false:=bne_eq_false_iff_eq.mpr c49;clear c49;replace H:=Option.bind_eq_some_iff.mp H;obtain ⟨t115,A500,H⟩:=H;(try dsimp only at H);have A50:=As0.mk A500;clear A500;have H':=As0.mk H;clear H;obtain ⟨hcz51_0,hcz51_1,hcz51_2,hcz51_3,hcz51_4⟩:=qc5 BK103.out;obtain ⟨hfz51_0,hfz51_1,hfz51_2,hfz51_3,hfz51_4⟩:=qz5 BK103.out
                  (try (have zx_:¬ (a0_2.toList = ([]:List UInt8)):=by simpa using c22b0))
                  (try (have zy_:(a0_2.toList = ([]:List UInt8)):=by simpa using c22b0))
                  (try (have zb_:(a0_2.toList == ([]:List UInt8)) = false:=by simpa using c22b0))
                  (try (have zc_:(a0_2.toList == ([]:List UInt8)) = true:=by simpa using c22b0))
                  (try (have zA_:(a0_2.toList = ([]:List UInt8)) → t105 = true:=by intro e_;simpa [e_] using c22b0))
                  (try (have zB_:¬ (a0_2.toList = ([]:List UInt8)) → t105 = false:=by intro e_;simpa [e_] using c22b0))
                  (try (have zC_:(a0_2.toList = ([]:List UInt8)) → t105 = false:=by intro e_;simpa [e_] using c22b0))
                  (try (have zD_:¬ (a0_2.toList = ([]:List UInt8)) → t105 = true:=by intro e_;simpa [e_] using c22b0))
                  go_wp2_with (first|(refine gL (some 40) Tryd.func30 #[.string a0_1] ?_;(with_reducible refine (spec_NameOk.calls k a0_1 true _ A20.out).mono ?_);rintro e w' ⟨rfl,⟨nd,rfl⟩⟩;refine ⟨_,rfl,?_⟩)|(go_at_call 29;(with_reducible refine (spec_l1In.calls a0_3 (-1) 99999 t115 _ A50.out).mono ?_);rintro e w' ⟨rfl,⟨nd,rfl⟩⟩))
                  show _;go_meet
                  case rel=>exact ⟨_,(!t115),(by first|rfl|(simp;done)|(simp [*];done)),H',⟨by first|omega|exact Nat.le_refl _⟩,⟨by (with_reducible repeat (first|refine bkN ?_ _|refine bkD ?_|refine bkA ?_ _));exact BK103.out⟩,⟨by repeat (first|(with_reducible first|exact HB.out|apply bal|apply pbN|apply bd1|refine bst ?_ GE103.out)|exact HB.out)⟩⟩
                · rw [if_neg c49] at H
                  have c49b0:(a0_4.toList == ([]:List UInt8)) = false:=beq_eq_false_iff_ne.mpr c49;have c49b1:(a0_4.toList != ([]:List UInt8)) = true:=bne_iff_ne.mpr c49;have H':=As0.mk H;clear H;obtain ⟨hcz52_0,hcz52_1,hcz52_2,hcz52_3,hcz52_4⟩:=qc5 BK103.out;obtain ⟨hfz52_0,hfz52_1,hfz52_2,hfz52_3,hfz52_4⟩:=qz5 BK103.out
                  (try (have zx_:¬ (a0_2.toList = ([]:List UInt8)):=by simpa using c22b0))
                  (try (have zy_:(a0_2.toList = ([]:List UInt8)):=by simpa using c22b0))
                  (try (have zb_:(a0_2.toList == ([]:List UInt8)) = false:=by simpa using c22b0))
                  (try (have zc_:(a0_2.toList == ([]:List UInt8)) = true:=by simpa using c22b0))
                  (try (have zA_:(a0_2.toList = ([]:List UInt8)) → t105 = true:=by intro e_;simpa [e_] using c22b0))
                  (try (have zB_:¬ (a0_2.toList = ([]:List UInt8)) → t105 = false:=by intro e_;simpa [e_] using c22b0))
                  (try (have zC_:(a0_2.toList = ([]:List UInt8)) → t105 = false:=by intro e_;simpa [e_] using c22b0))
                  (try (have zD_:¬ (a0_2.toList = ([]:List UInt8)) → t105 = true:=by intro e_;simpa [e_] using c22b0))
                  go_wp2_with (first|(refine gL (some 40) Tryd.func30 #[.string a0_1] ?_;(with_reducible refine (spec_NameOk.calls k a0_1 true _ A20.out).mono ?_);rintro e w' ⟨rfl,⟨nd,rfl⟩⟩;refine ⟨_,rfl,?_⟩))
                  show _;go_meet
                  case rel=>exact ⟨_,(true),(by first|rfl|(simp;done)|(simp [*];done)),H',⟨by first|omega|exact Nat.le_refl _⟩,⟨by (with_reducible repeat (first|refine bkN ?_ _|refine bkD ?_|refine bkA ?_ _));exact BK103.out⟩,⟨by repeat (first|(with_reducible first|exact HB.out|apply bal|apply pbN|apply bd1|refine bst ?_ GE103.out)|exact HB.out)⟩⟩
            · replace c45:=Bool.eq_false_iff.mpr c45
              subst c45;have H1:(if a0_3 = 0 then (if t107 = true then ((spec_l1In.f a0_3 (-1) 99999).bind fun t116=>(spec_ReqOk.j0 k (!t116) a0_0 a0_1 a0_2 a0_3 a0_4)) else (if a0_4.toList = ([]:List UInt8) then ((spec_l1In.f a0_3 (-1) 99999).bind fun t117=>(spec_ReqOk.j0 k (!t117) a0_0 a0_1 a0_2 a0_3 a0_4)) else (spec_ReqOk.j0 k true a0_0 a0_1 a0_2 a0_3 a0_4))) else (spec_ReqOk.j0 k true a0_0 a0_1 a0_2 a0_3 a0_4)) = some r:=by rw [if_neg (show ¬ (false = true) by decide)] at H;exact H
              clear H;have H:=H1;clear H1;by_cases c53:a0_3 = 0
              · rw [if_pos c53] at H
                have c53b0:(a0_3 == 0) = true:=beq_iff_eq.mpr c53;have c53b1:(a0_3 != 0) = false:=bne_eq_false_iff_eq.mpr c53;clear c53;by_cases c54:t107 = true
                · subst c54
                  have H1:((spec_l1In.f a0_3 (-1) 99999).bind fun t116=>(spec_ReqOk.j0 k (!t116) a0_0 a0_1 a0_2 a0_3 a0_4)) = some r:=by rw [if_pos rfl] at H;exact H
                  clear H;have H:=H1;clear H1;replace H:=Option.bind_eq_some_iff.mp H;obtain ⟨t116,A550,H⟩:=H;(try dsimp only at H);have A55:=As0.mk A550;clear A550;have H':=As0.mk H;clear H;obtain ⟨hcz56_0,hcz56_1,hcz56_2,hcz56_3,hcz56_4⟩:=qc5 BK103.out;obtain ⟨hfz56_0,hfz56_1,hfz56_2,hfz56_3,hfz56_4⟩:=qz5 BK103.out
                  (try (have zx_:¬ (a0_2.toList = ([]:List UInt8)):=by simpa using c22b0))
                  (try (have zy_:(a0_2.toList = ([]:List UInt8)):=by simpa using c22b0))
                  (try (have zb_:(a0_2.toList == ([]:List UInt8)) = false:=by simpa using c22b0))
                  (try (have zc_:(a0_2.toList == ([]:List UInt8)) = true:=by simpa using c22b0))
                  (try (have zA_:(a0_2.toList = ([]:List UInt8)) → t105 = true:=by intro e_;simpa [e_] using c22b0))
                  (try (have zB_:¬ (a0_2.toList = ([]:List UInt8)) → t105 = false:=by intro e_;simpa [e_] using c22b0))
                  (try (have zC_:(a0_2.toList = ([]:List UInt8)) → t105 = false:=by intro e_;simpa [e_] using c22b0))
                  (try (have zD_:¬ (a0_2.toList = ([]:List UInt8)) → t105 = true:=by intro e_;simpa [e_] using c22b0))
                  go_wp2_with (first|(refine gL (some 40) Tryd.func30 #[.string a0_1] ?_;(with_reducible refine (spec_NameOk.calls k a0_1 true _ A20.out).mono ?_);rintro e w' ⟨rfl,⟨nd,rfl⟩⟩;refine ⟨_,rfl,?_⟩)|(go_at_call 29;(with_reducible refine (spec_l1In.calls a0_3 (-1) 99999 t116 _ A55.out).mono ?_);rintro e w' ⟨rfl,⟨nd,rfl⟩⟩))
                  show _;go_meet
                  case rel=>exact ⟨_,(!t116),(by first|rfl|(simp;done)|(simp [*];done)),H',⟨by first|omega|exact Nat.le_refl _⟩,⟨by (with_reducible repeat (first|refine bkN ?_ _|refine bkD ?_|refine bkA ?_ _));exact BK103.out⟩,⟨by repeat (first|(with_reducible first|exact HB.out|apply bal|apply pbN|apply bd1|refine bst ?_ GE103.out)|exact HB.out)⟩⟩
                · replace c54:=Bool.eq_false_iff.mpr c54
                  subst c54;have H1:(if a0_4.toList = ([]:List UInt8) then ((spec_l1In.f a0_3 (-1) 99999).bind fun t117=>(spec_ReqOk.j0 k (!t117) a0_0 a0_1 a0_2 a0_3 a0_4)) else (spec_ReqOk.j0 k true a0_0 a0_1 a0_2 a0_3 a0_4)) = some r:=by rw [if_neg (show ¬ (false = true) by decide)] at H;exact H
                  clear H;have H:=H1;clear H1;by_cases c57:a0_4.toList = ([]:List UInt8)
                  · rw [if_pos c57] at H
                    have c57b0:(a0_4.toList == ([]:List UInt8)) = true:=beq_iff_eq.mpr c57;have c57b1:(a0_4.toList != ([]:List UInt8)) = false:=bne_eq_false_iff_eq.mpr c57;clear c57;replace H:=Option.bind_eq_some_iff.mp H;obtain ⟨t117,A580,H⟩:=H;(try dsimp only at H);have A58:=As0.mk A580;clear A580;have H':=As0.mk H;clear H;obtain ⟨hcz59_0,hcz59_1,hcz59_2,hcz59_3,hcz59_4⟩:=qc5 BK103.out;obtain ⟨hfz59_0,hfz59_1,hfz59_2,hfz59_3,hfz59_4⟩:=qz5 BK103.out
                    (try (have zx_:¬ (a0_2.toList = ([]:List UInt8)):=by simpa using c22b0))
                    (try (have zy_:(a0_2.toList = ([]:List UInt8)):=by simpa using c22b0))
                    (try (have zb_:(a0_2.toList == ([]:List UInt8)) = false:=by simpa using c22b0))
                    (try (have zc_:(a0_2.toList == ([]:List UInt8)) = true:=by simpa using c22b0))
                    (try (have zA_:(a0_2.toList = ([]:List UInt8)) → t105 = true:=by intro e_;simpa [e_] using c22b0))
                    (try (have zB_:¬ (a0_2.toList = ([]:List UInt8)) → t105 = false:=by intro e_;simpa [e_] using c22b0))
                    (try (have zC_:(a0_2.toList = ([]:List UInt8)) → t105 = false:=by intro e_;simpa [e_] using c22b0))
                    (try (have zD_:¬ (a0_2.toList = ([]:List UInt8)) → t105 = true:=by intro e_;simpa [e_] using c22b0))
                    go_wp2_with (first|(refine gL (some 40) Tryd.func30 #[.string a0_1] ?_;(with_reducible refine (spec_NameOk.calls k a0_1 true _ A20.out).mono ?_);rintro e w' ⟨rfl,⟨nd,rfl⟩⟩;refine ⟨_,rfl,?_⟩)|(go_at_call 29;(with_reducible refine (spec_l1In.calls a0_3 (-1) 99999 t117 _ A58.out).mono ?_);rintro e w' ⟨rfl,⟨nd,rfl⟩⟩))
                    show _;go_meet
                    case rel=>exact ⟨_,(!t117),(by first|rfl|(simp;done)|(simp [*];done)),H',⟨by first|omega|exact Nat.le_refl _⟩,⟨by (with_reducible repeat (first|refine bkN ?_ _|refine bkD ?_|refine bkA ?_ _));exact BK103.out⟩,⟨by repeat (first|(with_reducible first|exact HB.out|apply bal|apply pbN|apply bd1|refine bst ?_ GE103.out)|exact HB.out)⟩⟩
                  · rw [if_neg c57] at H
                    have c57b0:(a0_4.toList == ([]:List UInt8)) = false:=beq_eq_false_iff_ne.mpr c57;have c57b1:(a0_4.toList != ([]:List UInt8)) = true:=bne_iff_ne.mpr c57;have H':=As0.mk H;clear H;obtain ⟨hcz60_0,hcz60_1,hcz60_2,hcz60_3,hcz60_4⟩:=qc5 BK103.out;obtain ⟨hfz60_0,hfz60_1,hfz60_2,hfz60_3,hfz60_4⟩:=qz5 BK103.out
                    (try (have zx_:¬ (a0_2.toList = ([]:List UInt8)):=by simpa using c22b0))
                    (try (have zy_:(a0_2.toList = ([]:List UInt8)):=by simpa using c22b0))
                    (try (have zb_:(a0_2.toList == ([]:List UInt8)) = false:=by simpa using c22b0))
                    (try (have zc_:(a0_2.toList == ([]:List UInt8)) = true:=by simpa using c22b0))
                    (try (have zA_:(a0_2.toList = ([]:List UInt8)) → t105 = true:=by intro e_;simpa [e_] using c22b0))
                    (try (have zB_:¬ (a0_2.toList = ([]:List UInt8)) → t105 = false:=by intro e_;simpa [e_] using c22b0))
                    (try (have zC_:(a0_2.toList = ([]:List UInt8)) → t105 = false:=by intro e_;simpa [e_] using c22b0))
                    (try (have zD_:¬ (a0_2.toList = ([]:List UInt8)) → t105 = true:=by intro e_;simpa [e_] using c22b0))
                    go_wp2_with (first|(refine gL (some 40) Tryd.func30 #[.string a0_1] ?_;(with_reducible refine (spec_NameOk.calls k a0_1 true _ A20.out).mono ?_);rintro e w' ⟨rfl,⟨nd,rfl⟩⟩;refine ⟨_,rfl,?_⟩))
                    show _;go_meet
                    case rel=>exact ⟨_,(true),(by first|rfl|(simp;done)|(simp [*];done)),H',⟨by first|omega|exact Nat.le_refl _⟩,⟨by (with_reducible repeat (first|refine bkN ?_ _|refine bkD ?_|refine bkA ?_ _));exact BK103.out⟩,⟨by repeat (first|(with_reducible first|exact HB.out|apply bal|apply pbN|apply bd1|refine bst ?_ GE103.out)|exact HB.out)⟩⟩
              · rw [if_neg c53] at H
                have c53b0:(a0_3 == 0) = false:=beq_eq_false_iff_ne.mpr c53;have c53b1:(a0_3 != 0) = true:=bne_iff_ne.mpr c53;have H':=As0.mk H;clear H;obtain ⟨hcz61_0,hcz61_1,hcz61_2,hcz61_3,hcz61_4⟩:=qc5 BK103.out;obtain ⟨hfz61_0,hfz61_1,hfz61_2,hfz61_3,hfz61_4⟩:=qz5 BK103.out
                (try (have zx_:¬ (a0_2.toList = ([]:List UInt8)):=by simpa using c22b0))
                (try (have zy_:(a0_2.toList = ([]:List UInt8)):=by simpa using c22b0))
                (try (have zb_:(a0_2.toList == ([]:List UInt8)) = false:=by simpa using c22b0))
                (try (have zc_:(a0_2.toList == ([]:List UInt8)) = true:=by simpa using c22b0))
                (try (have zA_:(a0_2.toList = ([]:List UInt8)) → t105 = true:=by intro e_;simpa [e_] using c22b0))
                (try (have zB_:¬ (a0_2.toList = ([]:List UInt8)) → t105 = false:=by intro e_;simpa [e_] using c22b0))
                (try (have zC_:(a0_2.toList = ([]:List UInt8)) → t105 = false:=by intro e_;simpa [e_] using c22b0))
                (try (have zD_:¬ (a0_2.toList = ([]:List UInt8)) → t105 = true:=by intro e_;simpa [e_] using c22b0))
                go_wp2_with (first|(refine gL (some 40) Tryd.func30 #[.string a0_1] ?_;(with_reducible refine (spec_NameOk.calls k a0_1 true _ A20.out).mono ?_);rintro e w' ⟨rfl,⟨nd,rfl⟩⟩;refine ⟨_,rfl,?_⟩))
                show _;go_meet
                case rel=>exact ⟨_,(true),(by first|rfl|(simp;done)|(simp [*];done)),H',⟨by first|omega|exact Nat.le_refl _⟩,⟨by (with_reducible repeat (first|refine bkN ?_ _|refine bkD ?_|refine bkA ?_ _));exact BK103.out⟩,⟨by repeat (first|(with_reducible first|exact HB.out|apply bal|apply pbN|apply bd1|refine bst ?_ GE103.out)|exact HB.out)⟩⟩
      · replace c21:=Bool.eq_false_iff.mpr c21
        subst c21;have H1:(spec_ReqOk.j0 k true a0_0 a0_1 a0_2 a0_3 a0_4) = some r:=by rw [if_neg (show ¬ (false = true) by decide)] at H;exact H
        clear H;have H:=H1;clear H1;have H':=As0.mk H;clear H;obtain ⟨hcz62_0,hcz62_1,hcz62_2,hcz62_3,hcz62_4⟩:=qc5 BK103.out;obtain ⟨hfz62_0,hfz62_1,hfz62_2,hfz62_3,hfz62_4⟩:=qz5 BK103.out
        (try (have zx_:¬ (a0_2.toList = ([]:List UInt8)):=by simpa using c22b0))
        (try (have zy_:(a0_2.toList = ([]:List UInt8)):=by simpa using c22b0))
        (try (have zb_:(a0_2.toList == ([]:List UInt8)) = false:=by simpa using c22b0))
        (try (have zc_:(a0_2.toList == ([]:List UInt8)) = true:=by simpa using c22b0))
        (try (have zA_:(a0_2.toList = ([]:List UInt8)) → t105 = true:=by intro e_;simpa [e_] using c22b0))
        (try (have zB_:¬ (a0_2.toList = ([]:List UInt8)) → t105 = false:=by intro e_;simpa [e_] using c22b0))
        (try (have zC_:(a0_2.toList = ([]:List UInt8)) → t105 = false:=by intro e_;simpa [e_] using c22b0))
        (try (have zD_:¬ (a0_2.toList = ([]:List UInt8)) → t105 = true:=by intro e_;simpa [e_] using c22b0))
        go_wp2_with (first|(refine gL (some 40) Tryd.func30 #[.string a0_1] ?_;(with_reducible refine (spec_NameOk.calls k a0_1 false _ A20.out).mono ?_);rintro e w' ⟨rfl,⟨nd,rfl⟩⟩;refine ⟨_,rfl,?_⟩))
        show _;go_meet
        case rel=>exact ⟨_,(true),(by first|rfl|(simp;done)|(simp [*];done)),H',⟨by first|omega|exact Nat.le_refl _⟩,⟨by (with_reducible repeat (first|refine bkN ?_ _|refine bkD ?_|refine bkA ?_ _));exact BK103.out⟩,⟨by repeat (first|(with_reducible first|exact HB.out|apply bal|apply pbN|apply bd1|refine bst ?_ GE103.out)|exact HB.out)⟩⟩
     case rest=>
      clear HC17
      try clear c1
      try clear c2
      try clear p2
      try clear c3
      try clear c4
      try clear c5
      try clear c5b0
      try clear c5b1
      try clear c6
      try clear c6b0
      try clear c6b1
      try clear c7
      try clear c7b0
      try clear c7b1
      try clear c8
      try clear c8b0
      try clear c8b1
      try clear c12
      try clear c21
      try clear c22
      try clear c22b0
      try clear c22b1
      try clear c22b2
      try clear c24
      try clear c26
      try clear c27
      try clear c28
      try clear c29
      try clear c31b0
      try clear c31b1
      try clear c35
      try clear c35b0
      try clear c35b1
      try clear c36
      try clear c39
      try clear c39b0
      try clear c39b1
      try clear c45
      try clear c46
      try clear c49
      try clear c49b0
      try clear c49b1
      try clear c51
      try clear c53
      try clear c53b0
      try clear c53b1
      try clear c54
      try clear c57
      try clear c57b0
      try clear c57b1
      try clear hcz10_0
      try clear hcz10_1
      try clear hcz10_2
      try clear hcz10_3
      try clear hcz10_4
      try clear hcz12_0
      try clear hcz12_1
      try clear hcz12_2
      try clear hcz12_3
      try clear hcz12_4
      try clear hcz14_0
      try clear hcz14_1
      try clear hcz14_2
      try clear hcz14_3
      try clear hcz14_4
      try clear hcz16_0
      try clear hcz16_1
      try clear hcz16_2
      try clear hcz16_3
      try clear hcz16_4
      try clear hcz19_0
      try clear hcz19_1
      try clear hcz19_2
      try clear hcz19_3
      try clear hcz19_4
      try clear hcz23_0
      try clear hcz23_1
      try clear hcz23_2
      try clear hcz23_3
      try clear hcz23_4
      try clear hcz30_0
      try clear hcz30_1
      try clear hcz30_2
      try clear hcz30_3
      try clear hcz30_4
      try clear hcz33_0
      try clear hcz33_1
      try clear hcz33_2
      try clear hcz33_3
      try clear hcz33_4
      try clear hcz34_0
      try clear hcz34_1
      try clear hcz34_2
      try clear hcz34_3
      try clear hcz34_4
      try clear hcz38_0
      try clear hcz38_1
      try clear hcz38_2
      try clear hcz38_3
      try clear hcz38_4
      try clear hcz41_0
      try clear hcz41_1
      try clear hcz41_2
      try clear hcz41_3
      try clear hcz41_4
      try clear hcz42_0
      try clear hcz42_1
      try clear hcz42_2
      try clear hcz42_3
      try clear hcz42_4
      try clear hcz43_0
      try clear hcz43_1
      try clear hcz43_2
      try clear hcz43_3
      try clear hcz43_4
      try clear hcz44_0
      try clear hcz44_1
      try clear hcz44_2
      try clear hcz44_3
      try clear hcz44_4
      try clear hcz48_0
      try clear hcz48_1
      try clear hcz48_2
      try clear hcz48_3
      try clear hcz48_4
      try clear hcz51_0
      try clear hcz51_1
      try clear hcz51_2
      try clear hcz51_3
      try clear hcz51_4
      try clear hcz52_0
      try clear hcz52_1
      try clear hcz52_2
      try clear hcz52_3
      try clear hcz52_4
      try clear hcz56_0
      try clear hcz56_1
      try clear hcz56_2
      try clear hcz56_3
      try clear hcz56_4
      try clear hcz59_0
      try clear hcz59_1
      try clear hcz59_2
      try clear hcz59_3
      try clear hcz59_4
      try clear hcz60_0
      try clear hcz60_1
      try clear hcz60_2
      try clear hcz60_3
      try clear hcz60_4
      try clear hcz61_0
      try clear hcz61_1
      try clear hcz61_2
      try clear hcz61_3
      try clear hcz61_4
      try clear hcz62_0
      try clear hcz62_1
      try clear hcz62_2
      try clear hcz62_3
      try clear hcz62_4
      try clear hfz10_0
      try clear hfz10_1
      try clear hfz10_2
      try clear hfz10_3
      try clear hfz10_4
      try clear hfz12_0
      try clear hfz12_1
      try clear hfz12_2
      try clear hfz12_3
      try clear hfz12_4
      try clear hfz14_0
      try clear hfz14_1
      try clear hfz14_2
      try clear hfz14_3
      try clear hfz14_4
      try clear hfz16_0
      try clear hfz16_1
      try clear hfz16_2
      try clear hfz16_3
      try clear hfz16_4
      try clear hfz19_0
      try clear hfz19_1
      try clear hfz19_2
      try clear hfz19_3
      try clear hfz19_4
      try clear hfz23_0
      try clear hfz23_1
      try clear hfz23_2
      try clear hfz23_3
      try clear hfz23_4
      try clear hfz30_0
      try clear hfz30_1
      try clear hfz30_2
      try clear hfz30_3
      try clear hfz30_4
      try clear hfz33_0
      try clear hfz33_1
      try clear hfz33_2
      try clear hfz33_3
      try clear hfz33_4
      try clear hfz34_0
      try clear hfz34_1
      try clear hfz34_2
      try clear hfz34_3
      try clear hfz34_4
      try clear hfz38_0
      try clear hfz38_1
      try clear hfz38_2
      try clear hfz38_3
      try clear hfz38_4
      try clear hfz41_0
      try clear hfz41_1
      try clear hfz41_2
      try clear hfz41_3
      try clear hfz41_4
      try clear hfz42_0
      try clear hfz42_1
      try clear hfz42_2
      try clear hfz42_3
      try clear hfz42_4
      try clear hfz43_0
      try clear hfz43_1
      try clear hfz43_2
      try clear hfz43_3
      try clear hfz43_4
      try clear hfz44_0
      try clear hfz44_1
      try clear hfz44_2
      try clear hfz44_3
      try clear hfz44_4
      try clear hfz48_0
      try clear hfz48_1
      try clear hfz48_2
      try clear hfz48_3
      try clear hfz48_4
      try clear hfz51_0
      try clear hfz51_1
      try clear hfz51_2
      try clear hfz51_3
      try clear hfz51_4
      try clear hfz52_0
      try clear hfz52_1
      try clear hfz52_2
      try clear hfz52_3
      try clear hfz52_4
      try clear hfz56_0
      try clear hfz56_1
      try clear hfz56_2
      try clear hfz56_3
      try clear hfz56_4
      try clear hfz59_0
      try clear hfz59_1
      try clear hfz59_2
      try clear hfz59_3
      try clear hfz59_4
      try clear hfz60_0
      try clear hfz60_1
      try clear hfz60_2
      try clear hfz60_3
      try clear hfz60_4
      try clear hfz61_0
      try clear hfz61_1
      try clear hfz61_2
      try clear hfz61_3
      try clear hfz61_4
      try clear hfz62_0
      try clear hfz62_1
      try clear hfz62_2
      try clear hfz62_3
      try clear hfz62_4
      obtain ⟨kq,x81_16,rfl,HA,HJ16,BK103,HB⟩:=hcut
      cases kq with
      |zero=>exact absurd HA.out (by simp [spec_ReqOk.j0])
      |succ kj16=>
       have H:=HA.out;clear HA;simp only [spec_ReqOk.j0] at H;by_cases c63:x81_16 = true
       · subst c63
         have H1:(some false) = some r:=by rw [if_pos rfl] at H;exact H
         clear H;have H:=H1;clear H1;obtain rfl:=Option.some.inj H
         go_wp2
         go_ret
         exact ⟨eW,by repeat (first|(with_reducible first|exact HB.out|apply bal|apply pbN|apply bd1|refine bst ?_ GE103.out)|exact HB.out)⟩
       · replace c63:=Bool.eq_false_iff.mpr c63
         subst c63;have H1:(if a0_0 = 5 then (spec_ReqOk.j1 kj16 a0_0 (a0_0 == 5) a0_0 a0_1 a0_2 a0_3 a0_4) else (spec_ReqOk.j1 kj16 a0_0 (a0_0 == 11) a0_0 a0_1 a0_2 a0_3 a0_4)) = some r:=by rw [if_neg (show ¬ (false = true) by decide)] at H;exact H
         clear H;have H:=H1;clear H1;have HC64:=As0.mk H;clear H;obtain ⟨hcz65_0,hcz65_1,hcz65_2,hcz65_3,hcz65_4⟩:=qc5 BK103.out;obtain ⟨hfz65_0,hfz65_1,hfz65_2,hfz65_3,hfz65_4⟩:=qz5 BK103.out
         go_upto_if 84 with (fail)
         show _;go_cut [84] (fun v84 wc=>∃ (kq:Nat) (x84_63:Bool),v84 = .bool x84_63 ∧ As0 (spec_ReqOk.j1 kq a0_0 x84_63 a0_0 a0_1 a0_2 a0_3 a0_4 = some r) ∧ As0 (kq ≤ kj16) ∧ As0 (wc.heap[gb103]? = some (.cells #[.int .i64 a0_0,.string a0_1,.string a0_2,.int .i64 a0_3,.string a0_4] 25 (0,0))) ∧ As0 (Below w.heap.size w wc))
         case first=>
          have H:=HC64.out;clear HC64;by_cases c66:a0_0 = 5
          · rw [if_pos c66] at H
            have c66b0:(a0_0 == 5) = true:=beq_iff_eq.mpr c66;have c66b1:(a0_0 != 5) = false:=bne_eq_false_iff_eq.mpr c66;clear c66
            (first|rw [c66b0]|(simp only [i64_w,i32_w];rw [c66b0])|skip)
            have H':=As0.mk H;clear H
            go_wp2
            show _;go_meet
            case rel=>exact ⟨_,((a0_0 == 5)),(by first|rfl|(simp;done)|(simp [*];done)),H',⟨by have:=HJ16.out;first|omega|exact Nat.le_refl _⟩,⟨by (with_reducible repeat (first|refine bkN ?_ _|refine bkD ?_|refine bkA ?_ _));exact BK103.out⟩,⟨by repeat (first|(with_reducible first|exact HB.out|apply bal|apply pbN|apply bd1|refine bst ?_ GE103.out)|exact HB.out)⟩⟩
          · rw [if_neg c66] at H
            have c66b0:(a0_0 == 5) = false:=beq_eq_false_iff_ne.mpr c66;have c66b1:(a0_0 != 5) = true:=bne_iff_ne.mpr c66
            (first|rw [c66b0]|(simp only [i64_w,i32_w];rw [c66b0])|skip)
            have H':=As0.mk H;clear H
            go_wp2
            show _;go_meet
            case rel=>exact ⟨_,((a0_0 == 11)),(by first|rfl|(simp;done)|(simp [*];done)),H',⟨by have:=HJ16.out;first|omega|exact Nat.le_refl _⟩,⟨by (with_reducible repeat (first|refine bkN ?_ _|refine bkD ?_|refine bkA ?_ _));exact BK103.out⟩,⟨by repeat (first|(with_reducible first|exact HB.out|apply bal|apply pbN|apply bd1|refine bst ?_ GE103.out)|exact HB.out)⟩⟩
         case rest=>
          clear HC64
          try clear c1
          try clear c2
          try clear p2
          try clear c3
          try clear c4
          try clear c5
          try clear c5b0
          try clear c5b1
          try clear c6
          try clear c6b0
          try clear c6b1
          try clear c7
          try clear c7b0
          try clear c7b1
          try clear c8
          try clear c8b0
          try clear c8b1
          try clear c12
          try clear c21
          try clear c22
          try clear c22b0
          try clear c22b1
          try clear c22b2
          try clear c24
          try clear c26
          try clear c27
          try clear c28
          try clear c29
          try clear c31b0
          try clear c31b1
          try clear c35
          try clear c35b0
          try clear c35b1
          try clear c36
          try clear c39
          try clear c39b0
          try clear c39b1
          try clear c45
          try clear c46
          try clear c49
          try clear c49b0
          try clear c49b1
          try clear c51
          try clear c53
          try clear c53b0
          try clear c53b1
          try clear c54
          try clear c57
          try clear c57b0
          try clear c57b1
          try clear c63
          try clear c66
          try clear c66b0
          try clear c66b1
          try clear hcz10_0
          try clear hcz10_1
          try clear hcz10_2
          try clear hcz10_3
          try clear hcz10_4
          try clear hcz12_0
          try clear hcz12_1
          try clear hcz12_2
          try clear hcz12_3
          try clear hcz12_4
          try clear hcz14_0
          try clear hcz14_1
          try clear hcz14_2
          try clear hcz14_3
          try clear hcz14_4
          try clear hcz16_0
          try clear hcz16_1
          try clear hcz16_2
          try clear hcz16_3
          try clear hcz16_4
          try clear hcz19_0
          try clear hcz19_1
          try clear hcz19_2
          try clear hcz19_3
          try clear hcz19_4
          try clear hcz23_0
          try clear hcz23_1
          try clear hcz23_2
          try clear hcz23_3
          try clear hcz23_4
          try clear hcz30_0
          try clear hcz30_1
          try clear hcz30_2
          try clear hcz30_3
          try clear hcz30_4
          try clear hcz33_0
          try clear hcz33_1
          try clear hcz33_2
          try clear hcz33_3
          try clear hcz33_4
          try clear hcz34_0
          try clear hcz34_1
          try clear hcz34_2
          try clear hcz34_3
          try clear hcz34_4
          try clear hcz38_0
          try clear hcz38_1
          try clear hcz38_2
          try clear hcz38_3
          try clear hcz38_4
          try clear hcz41_0
          try clear hcz41_1
          try clear hcz41_2
          try clear hcz41_3
          try clear hcz41_4
          try clear hcz42_0
          try clear hcz42_1
          try clear hcz42_2
          try clear hcz42_3
          try clear hcz42_4
          try clear hcz43_0
          try clear hcz43_1
          try clear hcz43_2
          try clear hcz43_3
          try clear hcz43_4
          try clear hcz44_0
          try clear hcz44_1
          try clear hcz44_2
          try clear hcz44_3
          try clear hcz44_4
          try clear hcz48_0
          try clear hcz48_1
          try clear hcz48_2
          try clear hcz48_3
          try clear hcz48_4
          try clear hcz51_0
          try clear hcz51_1
          try clear hcz51_2
          try clear hcz51_3
          try clear hcz51_4
          try clear hcz52_0
          try clear hcz52_1
          try clear hcz52_2
          try clear hcz52_3
          try clear hcz52_4
          try clear hcz56_0
          try clear hcz56_1
          try clear hcz56_2
          try clear hcz56_3
          try clear hcz56_4
          try clear hcz59_0
          try clear hcz59_1
          try clear hcz59_2
          try clear hcz59_3
          try clear hcz59_4
          try clear hcz60_0
          try clear hcz60_1
          try clear hcz60_2
          try clear hcz60_3
          try clear hcz60_4
          try clear hcz61_0
          try clear hcz61_1
          try clear hcz61_2
          try clear hcz61_3
          try clear hcz61_4
          try clear hcz62_0
          try clear hcz62_1
          try clear hcz62_2
          try clear hcz62_3
          try clear hcz62_4
          try clear hcz65_0
          try clear hcz65_1
          try clear hcz65_2
          try clear hcz65_3
          try clear hcz65_4
          try clear hfz10_0
          try clear hfz10_1
          try clear hfz10_2
          try clear hfz10_3
          try clear hfz10_4
          try clear hfz12_0
          try clear hfz12_1
          try clear hfz12_2
          try clear hfz12_3
          try clear hfz12_4
          try clear hfz14_0
          try clear hfz14_1
          try clear hfz14_2
          try clear hfz14_3
          try clear hfz14_4
          try clear hfz16_0
          try clear hfz16_1
          try clear hfz16_2
          try clear hfz16_3
          try clear hfz16_4
          try clear hfz19_0
          try clear hfz19_1
          try clear hfz19_2
          try clear hfz19_3
          try clear hfz19_4
          try clear hfz23_0
          try clear hfz23_1
          try clear hfz23_2
          try clear hfz23_3
          try clear hfz23_4
          try clear hfz30_0
          try clear hfz30_1
          try clear hfz30_2
          try clear hfz30_3
          try clear hfz30_4
          try clear hfz33_0
          try clear hfz33_1
          try clear hfz33_2
          try clear hfz33_3
          try clear hfz33_4
          try clear hfz34_0
          try clear hfz34_1
          try clear hfz34_2
          try clear hfz34_3
          try clear hfz34_4
          try clear hfz38_0
          try clear hfz38_1
          try clear hfz38_2
          try clear hfz38_3
          try clear hfz38_4
          try clear hfz41_0
          try clear hfz41_1
          try clear hfz41_2
          try clear hfz41_3
          try clear hfz41_4
          try clear hfz42_0
          try clear hfz42_1
          try clear hfz42_2
          try clear hfz42_3
          try clear hfz42_4
          try clear hfz43_0
          try clear hfz43_1
          try clear hfz43_2
          try clear hfz43_3
          try clear hfz43_4
          try clear hfz44_0
          try clear hfz44_1
          try clear hfz44_2
          try clear hfz44_3
          try clear hfz44_4
          try clear hfz48_0
          try clear hfz48_1
          try clear hfz48_2
          try clear hfz48_3
          try clear hfz48_4
          try clear hfz51_0
          try clear hfz51_1
          try clear hfz51_2
          try clear hfz51_3
          try clear hfz51_4
          try clear hfz52_0
          try clear hfz52_1
          try clear hfz52_2
          try clear hfz52_3
          try clear hfz52_4
          try clear hfz56_0
          try clear hfz56_1
          try clear hfz56_2
          try clear hfz56_3
          try clear hfz56_4
          try clear hfz59_0
          try clear hfz59_1
          try clear hfz59_2
          try clear hfz59_3
          try clear hfz59_4
          try clear hfz60_0
          try clear hfz60_1
          try clear hfz60_2
          try clear hfz60_3
          try clear hfz60_4
          try clear hfz61_0
          try clear hfz61_1
          try clear hfz61_2
          try clear hfz61_3
          try clear hfz61_4
          try clear hfz62_0
          try clear hfz62_1
          try clear hfz62_2
          try clear hfz62_3
          try clear hfz62_4
          try clear hfz65_0
          try clear hfz65_1
          try clear hfz65_2
          try clear hfz65_3
          try clear hfz65_4
          try clear p2
          obtain ⟨kq,x84_63,rfl,HA,HJ63,BK103,HB⟩:=hcut
          cases kq with
          |zero=>exact absurd HA.out (by simp [spec_ReqOk.j1])
          |succ kj63=>
           have H:=HA.out;clear HA;simp only [spec_ReqOk.j1] at H;by_cases c67:x84_63 = true
           · subst c67
             have H1:(if a0_3 ≥ 0 then ((spec_l7Body.f kj63 a0_4).bind fun t118=>(some t118)) else (some false)) = some r:=by rw [if_pos rfl] at H;exact H
             clear H;have H:=H1;clear H1;by_cases c68:a0_3 ≥ 0
             · rw [if_pos c68] at H
               have c68b0:decide (0 ≤ a0_3) = true:=decide_eq_true c68;clear c68;replace H:=Option.bind_eq_some_iff.mp H;obtain ⟨t118,A690,H⟩:=H;(try dsimp only at H);have A69:=As0.mk A690;clear A690;obtain rfl:=Option.some.inj H;obtain ⟨hcz70_0,hcz70_1,hcz70_2,hcz70_3,hcz70_4⟩:=qc5 BK103.out;obtain ⟨hfz70_0,hfz70_1,hfz70_2,hfz70_3,hfz70_4⟩:=qz5 BK103.out
               go_wp2_with (first|(go_at_call 31;(with_reducible refine (spec_l7Body.calls kj63 a0_4 t118 _ A69.out).mono ?_);rintro e w' ⟨rfl,⟨nd,rfl⟩⟩))
               go_ret
               exact ⟨eW,by repeat (first|(with_reducible first|exact HB.out|apply bal|apply pbN|apply bd1|refine bst ?_ GE103.out)|exact HB.out)⟩
             · rw [if_neg c68] at H
               have c68b0:decide (0 ≤ a0_3) = false:=decide_eq_false c68;clear c68;obtain rfl:=Option.some.inj H;obtain ⟨hcz71_0,hcz71_1,hcz71_2,hcz71_3,hcz71_4⟩:=qc5 BK103.out;obtain ⟨hfz71_0,hfz71_1,hfz71_2,hfz71_3,hfz71_4⟩:=qz5 BK103.out
               go_wp2
               go_ret
               exact ⟨eW,by repeat (first|(with_reducible first|exact HB.out|apply bal|apply pbN|apply bd1|refine bst ?_ GE103.out)|exact HB.out)⟩
           · replace c67:=Bool.eq_false_iff.mpr c67
             subst c67;have H1:(if a0_0 = 6 then (spec_ReqOk.j2 kj63 (a0_0 == 6) a0_0 a0_1 a0_2 a0_3 a0_4) else (spec_ReqOk.j2 kj63 (a0_0 == 7) a0_0 a0_1 a0_2 a0_3 a0_4)) = some r:=by rw [if_neg (show ¬ (false = true) by decide)] at H;exact H
             clear H;have H:=H1;clear H1;have HC72:=As0.mk H;clear H
             go_upto_if 95 with (fail)
             show _;go_cut [95] (fun v95 wc=>∃ (kq:Nat) (x95_71:Bool),v95 = .bool x95_71 ∧ As0 (spec_ReqOk.j2 kq x95_71 a0_0 a0_1 a0_2 a0_3 a0_4 = some r) ∧ As0 (kq ≤ kj63) ∧ As0 (wc.heap[gb103]? = some (.cells #[.int .i64 a0_0,.string a0_1,.string a0_2,.int .i64 a0_3,.string a0_4] 25 (0,0))) ∧ As0 (Below w.heap.size w wc))
             case first=>
              have H:=HC72.out;clear HC72;by_cases c73:a0_0 = 6
              · rw [if_pos c73] at H
                have c73b0:(a0_0 == 6) = true:=beq_iff_eq.mpr c73;have c73b1:(a0_0 != 6) = false:=bne_eq_false_iff_eq.mpr c73;clear c73
                (first|rw [c73b0]|(simp only [i64_w,i32_w];rw [c73b0])|skip)
                have H':=As0.mk H;clear H
                go_wp2
                show _;go_meet
                case rel=>exact ⟨_,((a0_0 == 6)),(by first|rfl|(simp;done)|(simp [*];done)),H',⟨by have:=HJ16.out;have:=HJ63.out;first|omega|exact Nat.le_refl _⟩,⟨by (with_reducible repeat (first|refine bkN ?_ _|refine bkD ?_|refine bkA ?_ _));exact BK103.out⟩,⟨by repeat (first|(with_reducible first|exact HB.out|apply bal|apply pbN|apply bd1|refine bst ?_ GE103.out)|exact HB.out)⟩⟩
              · rw [if_neg c73] at H
                have c73b0:(a0_0 == 6) = false:=beq_eq_false_iff_ne.mpr c73;have c73b1:(a0_0 != 6) = true:=bne_iff_ne.mpr c73
                (first|rw [c73b0]|(simp only [i64_w,i32_w];rw [c73b0])|skip)
                have H':=As0.mk H;clear H
                go_wp2
                show _;go_meet
                case rel=>exact ⟨_,((a0_0 == 7)),(by first|rfl|(simp;done)|(simp [*];done)),H',⟨by have:=HJ16.out;have:=HJ63.out;first|omega|exact Nat.le_refl _⟩,⟨by (with_reducible repeat (first|refine bkN ?_ _|refine bkD ?_|refine bkA ?_ _));exact BK103.out⟩,⟨by repeat (first|(with_reducible first|exact HB.out|apply bal|apply pbN|apply bd1|refine bst ?_ GE103.out)|exact HB.out)⟩⟩
             case rest=>
              clear HC72
              try clear c1
              try clear c2
              try clear p2
              try clear c3
              try clear c4
              try clear c5
              try clear c5b0
              try clear c5b1
              try clear c6
              try clear c6b0
              try clear c6b1
              try clear c7
              try clear c7b0
              try clear c7b1
              try clear c8
              try clear c8b0
              try clear c8b1
              try clear c12
              try clear c21
              try clear c22
              try clear c22b0
              try clear c22b1
              try clear c22b2
              try clear c24
              try clear c26
              try clear c27
              try clear c28
              try clear c29
              try clear c31b0
              try clear c31b1
              try clear c35
              try clear c35b0
              try clear c35b1
              try clear c36
              try clear c39
              try clear c39b0
              try clear c39b1
              try clear c45
              try clear c46
              try clear c49
              try clear c49b0
              try clear c49b1
              try clear c51
              try clear c53
              try clear c53b0
              try clear c53b1
              try clear c54
              try clear c57
              try clear c57b0
              try clear c57b1
              try clear c63
              try clear c66
              try clear c66b0
              try clear c66b1
              try clear c67
              try clear c68
              try clear c68b0
              try clear c73
              try clear c73b0
              try clear c73b1
              try clear hcz10_0
              try clear hcz10_1
              try clear hcz10_2
              try clear hcz10_3
              try clear hcz10_4
              try clear hcz12_0
              try clear hcz12_1
              try clear hcz12_2
              try clear hcz12_3
              try clear hcz12_4
              try clear hcz14_0
              try clear hcz14_1
              try clear hcz14_2
              try clear hcz14_3
              try clear hcz14_4
              try clear hcz16_0
              try clear hcz16_1
              try clear hcz16_2
              try clear hcz16_3
              try clear hcz16_4
              try clear hcz19_0
              try clear hcz19_1
              try clear hcz19_2
              try clear hcz19_3
              try clear hcz19_4
              try clear hcz23_0
              try clear hcz23_1
              try clear hcz23_2
              try clear hcz23_3
              try clear hcz23_4
              try clear hcz30_0
              try clear hcz30_1
              try clear hcz30_2
              try clear hcz30_3
              try clear hcz30_4
              try clear hcz33_0
              try clear hcz33_1
              try clear hcz33_2
              try clear hcz33_3
              try clear hcz33_4
              try clear hcz34_0
              try clear hcz34_1
              try clear hcz34_2
              try clear hcz34_3
              try clear hcz34_4
              try clear hcz38_0
              try clear hcz38_1
              try clear hcz38_2
              try clear hcz38_3
              try clear hcz38_4
              try clear hcz41_0
              try clear hcz41_1
              try clear hcz41_2
              try clear hcz41_3
              try clear hcz41_4
              try clear hcz42_0
              try clear hcz42_1
              try clear hcz42_2
              try clear hcz42_3
              try clear hcz42_4
              try clear hcz43_0
              try clear hcz43_1
              try clear hcz43_2
              try clear hcz43_3
              try clear hcz43_4
              try clear hcz44_0
              try clear hcz44_1
              try clear hcz44_2
              try clear hcz44_3
              try clear hcz44_4
              try clear hcz48_0
              try clear hcz48_1
              try clear hcz48_2
              try clear hcz48_3
              try clear hcz48_4
              try clear hcz51_0
              try clear hcz51_1
              try clear hcz51_2
              try clear hcz51_3
              try clear hcz51_4
              try clear hcz52_0
              try clear hcz52_1
              try clear hcz52_2
              try clear hcz52_3
              try clear hcz52_4
              try clear hcz56_0
              try clear hcz56_1
              try clear hcz56_2
              try clear hcz56_3
              try clear hcz56_4
              try clear hcz59_0
              try clear hcz59_1
              try clear hcz59_2
              try clear hcz59_3
              try clear hcz59_4
              try clear hcz60_0
              try clear hcz60_1
              try clear hcz60_2
              try clear hcz60_3
              try clear hcz60_4
              try clear hcz61_0
              try clear hcz61_1
              try clear hcz61_2
              try clear hcz61_3
              try clear hcz61_4
              try clear hcz62_0
              try clear hcz62_1
              try clear hcz62_2
              try clear hcz62_3
              try clear hcz62_4
              try clear hcz65_0
              try clear hcz65_1
              try clear hcz65_2
              try clear hcz65_3
              try clear hcz65_4
              try clear hcz70_0
              try clear hcz70_1
              try clear hcz70_2
              try clear hcz70_3
              try clear hcz70_4
              try clear hcz71_0
              try clear hcz71_1
              try clear hcz71_2
              try clear hcz71_3
              try clear hcz71_4
              try clear hfz10_0
              try clear hfz10_1
              try clear hfz10_2
              try clear hfz10_3
              try clear hfz10_4
              try clear hfz12_0
              try clear hfz12_1
              try clear hfz12_2
              try clear hfz12_3
              try clear hfz12_4
              try clear hfz14_0
              try clear hfz14_1
              try clear hfz14_2
              try clear hfz14_3
              try clear hfz14_4
              try clear hfz16_0
              try clear hfz16_1
              try clear hfz16_2
              try clear hfz16_3
              try clear hfz16_4
              try clear hfz19_0
              try clear hfz19_1
              try clear hfz19_2
              try clear hfz19_3
              try clear hfz19_4
              try clear hfz23_0
              try clear hfz23_1
              try clear hfz23_2
              try clear hfz23_3
              try clear hfz23_4
              try clear hfz30_0
              try clear hfz30_1
              try clear hfz30_2
              try clear hfz30_3
              try clear hfz30_4
              try clear hfz33_0
              try clear hfz33_1
              try clear hfz33_2
              try clear hfz33_3
              try clear hfz33_4
              try clear hfz34_0
              try clear hfz34_1
              try clear hfz34_2
              try clear hfz34_3
              try clear hfz34_4
              try clear hfz38_0
              try clear hfz38_1
              try clear hfz38_2
              try clear hfz38_3
              try clear hfz38_4
              try clear hfz41_0
              try clear hfz41_1
              try clear hfz41_2
              try clear hfz41_3
              try clear hfz41_4
              try clear hfz42_0
              try clear hfz42_1
              try clear hfz42_2
              try clear hfz42_3
              try clear hfz42_4
              try clear hfz43_0
              try clear hfz43_1
              try clear hfz43_2
              try clear hfz43_3
              try clear hfz43_4
              try clear hfz44_0
              try clear hfz44_1
              try clear hfz44_2
              try clear hfz44_3
              try clear hfz44_4
              try clear hfz48_0
              try clear hfz48_1
              try clear hfz48_2
              try clear hfz48_3
              try clear hfz48_4
              try clear hfz51_0
              try clear hfz51_1
              try clear hfz51_2
              try clear hfz51_3
              try clear hfz51_4
              try clear hfz52_0
              try clear hfz52_1
              try clear hfz52_2
              try clear hfz52_3
              try clear hfz52_4
              try clear hfz56_0
              try clear hfz56_1
              try clear hfz56_2
              try clear hfz56_3
              try clear hfz56_4
              try clear hfz59_0
              try clear hfz59_1
              try clear hfz59_2
              try clear hfz59_3
              try clear hfz59_4
              try clear hfz60_0
              try clear hfz60_1
              try clear hfz60_2
              try clear hfz60_3
              try clear hfz60_4
              try clear hfz61_0
              try clear hfz61_1
              try clear hfz61_2
              try clear hfz61_3
              try clear hfz61_4
              try clear hfz62_0
              try clear hfz62_1
              try clear hfz62_2
              try clear hfz62_3
              try clear hfz62_4
              try clear hfz65_0
              try clear hfz65_1
              try clear hfz65_2
              try clear hfz65_3
              try clear hfz65_4
              try clear hfz70_0
              try clear hfz70_1
              try clear hfz70_2
              try clear hfz70_3
              try clear hfz70_4
              try clear hfz71_0
              try clear hfz71_1
              try clear hfz71_2
              try clear hfz71_3
              try clear hfz71_4
              try clear p2
              obtain ⟨kq,x95_71,rfl,HA,HJ71,BK103,HB⟩:=hcut
              cases kq with
              |zero=>exact absurd HA.out (by simp [spec_ReqOk.j2])
              |succ kj71=>
               have H:=HA.out;clear HA;simp only [spec_ReqOk.j2] at H;by_cases c74:x95_71 = true
               · subst c74
                 have H1:((spec_NameOk.f kj71 a0_4).bind fun t119=>(some t119)) = some r:=by rw [if_pos rfl] at H;exact H
                 clear H;have H:=H1;clear H1;replace H:=Option.bind_eq_some_iff.mp H;obtain ⟨t119,A750,H⟩:=H;(try dsimp only at H);have A75:=As0.mk A750;clear A750;obtain rfl:=Option.some.inj H;obtain ⟨hcz76_0,hcz76_1,hcz76_2,hcz76_3,hcz76_4⟩:=qc5 BK103.out;obtain ⟨hfz76_0,hfz76_1,hfz76_2,hfz76_3,hfz76_4⟩:=qz5 BK103.out
                 go_wp2_with (first|(refine gL (some 100) Tryd.func30 #[.string a0_4] ?_;(with_reducible refine (spec_NameOk.calls kj71 a0_4 t119 _ A75.out).mono ?_);rintro e w' ⟨rfl,⟨nd,rfl⟩⟩;refine ⟨_,rfl,?_⟩))
                 go_ret
                 exact ⟨eW,by repeat (first|(with_reducible first|exact HB.out|apply bal|apply pbN|apply bd1|refine bst ?_ GE103.out)|exact HB.out)⟩
               · replace c74:=Bool.eq_false_iff.mpr c74
                 subst c74;have H1:((spec_l7Body.f kj71 a0_4).bind fun t120=>(some t120)) = some r:=by rw [if_neg (show ¬ (false = true) by decide)] at H;exact H
                 clear H;have H:=H1;clear H1;replace H:=Option.bind_eq_some_iff.mp H;obtain ⟨t120,A770,H⟩:=H;(try dsimp only at H);have A77:=As0.mk A770;clear A770;obtain rfl:=Option.some.inj H;obtain ⟨hcz78_0,hcz78_1,hcz78_2,hcz78_3,hcz78_4⟩:=qc5 BK103.out;obtain ⟨hfz78_0,hfz78_1,hfz78_2,hfz78_3,hfz78_4⟩:=qz5 BK103.out
                 go_wp2_with (first|(refine gL (some 103) Tryd.func31 #[.string a0_4] ?_;(with_reducible refine (spec_l7Body.calls kj71 a0_4 t120 _ A77.out).mono ?_);rintro e w' ⟨rfl,⟨nd,rfl⟩⟩;refine ⟨_,rfl,?_⟩))
                 go_ret
                 exact ⟨eW,by repeat (first|(with_reducible first|exact HB.out|apply bal|apply pbN|apply bd1|refine bst ?_ GE103.out)|exact HB.out)⟩
 · replace c3:=Bool.eq_false_iff.mpr c3
   subst c3;have H1:(some false) = some r:=by rw [if_neg (show ¬ (false = true) by decide)] at H;exact H
   clear H;have H:=H1;clear H1;obtain rfl:=Option.some.inj H
   go_enter Tryd.func12,Tryd.ntmps12
   go_wp2_with (first|((with_reducible refine gate_dst (N:=1) rfl ?_);refine bE 1 #[.int .i64 a0_0,.string a0_1,.string a0_2,.int .i64 a0_3,.string a0_4] 25 ?_;intro gb103 hg w79 hbox hb;have BK103:=As0.mk (hbox);have GW103:=As0.mk ((by rw [hg];exact (bsz (by repeat (first|(with_reducible first|exact HB.out|apply bal|apply pbN|apply bd1)|exact HB.out))):w.heap.size ≤ gb103));have GE103:=GW103;replace HB:=As0.mk (b3 HB.out hb);clear hb hbox hg;obtain ⟨hcz80_0,hcz80_1,hcz80_2,hcz80_3,hcz80_4⟩:=qc5 BK103.out;obtain ⟨hfz80_0,hfz80_1,hfz80_2,hfz80_3,hfz80_4⟩:=qz5 BK103.out)|(refine gL (some 8) Tryd.func29 #[.int .i64 a0_0,.int .i64 1,.int .i64 12] ?_;(with_reducible refine (spec_l1In.calls a0_0 1 12 false _ A2.out).mono ?_);rintro e w' ⟨rfl,⟨nd,rfl⟩⟩;refine ⟨_,rfl,?_⟩))
   go_ret
   exact ⟨eW,by repeat (first|(with_reducible first|exact HB.out|apply bal|apply pbN|apply bd1|refine bst ?_ GE103.out)|exact HB.out)⟩
def spec_l9Words.f  : Option (List ByteArray):=some (([(⟨#[]⟩:ByteArray),(⟨#[115,112,97,99,101]⟩:ByteArray),(⟨#[108,105,109,105,116]⟩:ByteArray),(⟨#[99,108,111,115,101]⟩:ByteArray),(⟨#[112,117,116]⟩:ByteArray),(⟨#[115,101,116]⟩:ByteArray),(⟨#[109,97,114,107]⟩:ByteArray),(⟨#[117,110,109,97,114,107]⟩:ByteArray),(⟨#[100,114,111,112]⟩:ByteArray),(⟨#[103,101,116]⟩:ByteArray),(⟨#[108,105,115,116]⟩:ByteArray),(⟨#[119,97,116,99,104]⟩:ByteArray),(⟨#[115,116,101,112]⟩:ByteArray)]:List ByteArray))
set_option maxHeartbeats 40000000 in
set_option maxRecDepth 100000 in
theorem spec_l9Words.calls  (r:List ByteArray) (w:World) (h:spec_l9Words.f  = some r) :
 Calls Tryd.prog 21 #[] w fun e w'=>∃ v0_:Value,e = .returned (v0_) ∧ Kd.R Kd.string 9 w' w.heap.size (fun _=>True) v0_ r ∧ Below w.heap.size w w':=by
 have HB:=As0.mk (Below.refl w.heap.size w);have H:(some (([(⟨#[]⟩:ByteArray),(⟨#[115,112,97,99,101]⟩:ByteArray),(⟨#[108,105,109,105,116]⟩:ByteArray),(⟨#[99,108,111,115,101]⟩:ByteArray),(⟨#[112,117,116]⟩:ByteArray),(⟨#[115,101,116]⟩:ByteArray),(⟨#[109,97,114,107]⟩:ByteArray),(⟨#[117,110,109,97,114,107]⟩:ByteArray),(⟨#[100,114,111,112]⟩:ByteArray),(⟨#[103,101,116]⟩:ByteArray),(⟨#[108,105,115,116]⟩:ByteArray),(⟨#[119,97,116,99,104]⟩:ByteArray),(⟨#[115,116,101,112]⟩:ByteArray)]:List ByteArray))) = some r:=h;clear h;obtain ⟨y121,hy121⟩:∃ y_:List ByteArray,y_ = (([(⟨#[]⟩:ByteArray),(⟨#[115,112,97,99,101]⟩:ByteArray),(⟨#[108,105,109,105,116]⟩:ByteArray),(⟨#[99,108,111,115,101]⟩:ByteArray),(⟨#[112,117,116]⟩:ByteArray),(⟨#[115,101,116]⟩:ByteArray),(⟨#[109,97,114,107]⟩:ByteArray),(⟨#[117,110,109,97,114,107]⟩:ByteArray),(⟨#[100,114,111,112]⟩:ByteArray),(⟨#[103,101,116]⟩:ByteArray),(⟨#[108,105,115,116]⟩:ByteArray),(⟨#[119,97,116,99,104]⟩:ByteArray),(⟨#[115,116,101,112]⟩:ByteArray)]:List ByteArray)):=⟨_,rfl⟩;replace H:(some y121) = some r:=by first|(rw [hy121];with_reducible exact H)|(have H2_:=(Option.bind_some _ _).symm.trans H;rw [hy121];with_reducible exact H2_)|(have H2_:=(Option.bind_some _ _).symm.trans H;with_reducible exact H2_)|with_reducible exact H|(rw [hy121];exact H)|exact H
 have Ny121:=As0.mk hy121;clear hy121;obtain rfl:=Option.some.inj H
 go_enter Tryd.func21,Tryd.ntmps21
 go_wp2_with (first|((with_reducible refine gate_dst (N:=1) rfl ?_);refine Kd.R_lit Kd.string _ 9 ?hg (N:=1) ?hd (xs:=([(⟨#[]⟩:ByteArray),(⟨#[115,112,97,99,101]⟩:ByteArray),(⟨#[108,105,109,105,116]⟩:ByteArray),(⟨#[99,108,111,115,101]⟩:ByteArray),(⟨#[112,117,116]⟩:ByteArray),(⟨#[115,101,116]⟩:ByteArray),(⟨#[109,97,114,107]⟩:ByteArray),(⟨#[117,110,109,97,114,107]⟩:ByteArray),(⟨#[100,114,111,112]⟩:ByteArray),(⟨#[103,101,116]⟩:ByteArray),(⟨#[108,105,115,116]⟩:ByteArray),(⟨#[119,97,116,99,104]⟩:ByteArray),(⟨#[115,116,101,112]⟩:ByteArray)]:List ByteArray)) (inner:=[.string ⟨#[]⟩,.string (⟨#[115,112,97,99,101]⟩:ByteArray),.string (⟨#[108,105,109,105,116]⟩:ByteArray),.string (⟨#[99,108,111,115,101]⟩:ByteArray),.string (⟨#[112,117,116]⟩:ByteArray),.string (⟨#[115,101,116]⟩:ByteArray),.string (⟨#[109,97,114,107]⟩:ByteArray),.string (⟨#[117,110,109,97,114,107]⟩:ByteArray),.string (⟨#[100,114,111,112]⟩:ByteArray),.string (⟨#[103,101,116]⟩:ByteArray),.string (⟨#[108,105,115,116]⟩:ByteArray),.string (⟨#[119,97,116,99,104]⟩:ByteArray),.string (⟨#[115,116,101,112]⟩:ByteArray)]) (ok:=fun _=>True) (okp:=fun _=>True) ?hr ?hp (fun _ hk=>hk) trivial (Below.refl _ _) (Nat.le_refl _) (by simp) ?_;(case hd=>rfl);(case hg=>rfl);(case hr=>first|(go_simp;done)|(go_simp;rfl));(case hp=>exact (Reps.one (show Kd.M Kd.string _ _ _ (⟨#[]⟩:ByteArray) [.string ⟨#[]⟩] from rfl) (Reps.one (show Kd.M Kd.string _ _ _ (⟨#[115,112,97,99,101]⟩:ByteArray) [.string (⟨#[115,112,97,99,101]⟩:ByteArray)] from rfl) (Reps.one (show Kd.M Kd.string _ _ _ (⟨#[108,105,109,105,116]⟩:ByteArray) [.string (⟨#[108,105,109,105,116]⟩:ByteArray)] from rfl) (Reps.one (show Kd.M Kd.string _ _ _ (⟨#[99,108,111,115,101]⟩:ByteArray) [.string (⟨#[99,108,111,115,101]⟩:ByteArray)] from rfl) (Reps.one (show Kd.M Kd.string _ _ _ (⟨#[112,117,116]⟩:ByteArray) [.string (⟨#[112,117,116]⟩:ByteArray)] from rfl) (Reps.one (show Kd.M Kd.string _ _ _ (⟨#[115,101,116]⟩:ByteArray) [.string (⟨#[115,101,116]⟩:ByteArray)] from rfl) (Reps.one (show Kd.M Kd.string _ _ _ (⟨#[109,97,114,107]⟩:ByteArray) [.string (⟨#[109,97,114,107]⟩:ByteArray)] from rfl) (Reps.one (show Kd.M Kd.string _ _ _ (⟨#[117,110,109,97,114,107]⟩:ByteArray) [.string (⟨#[117,110,109,97,114,107]⟩:ByteArray)] from rfl) (Reps.one (show Kd.M Kd.string _ _ _ (⟨#[100,114,111,112]⟩:ByteArray) [.string (⟨#[100,114,111,112]⟩:ByteArray)] from rfl) (Reps.one (show Kd.M Kd.string _ _ _ (⟨#[103,101,116]⟩:ByteArray) [.string (⟨#[103,101,116]⟩:ByteArray)] from rfl) (Reps.one (show Kd.M Kd.string _ _ _ (⟨#[108,105,115,116]⟩:ByteArray) [.string (⟨#[108,105,115,116]⟩:ByteArray)] from rfl) (Reps.one (show Kd.M Kd.string _ _ _ (⟨#[119,97,116,99,104]⟩:ByteArray) [.string (⟨#[119,97,116,99,104]⟩:ByteArray)] from rfl) (Reps.one (show Kd.M Kd.string _ _ _ (⟨#[115,116,101,112]⟩:ByteArray) [.string (⟨#[115,116,101,112]⟩:ByteArray)] from rfl) (Reps.none _ _)))))))))))))));intro v122 w1 ho2 hb hg_ hnew_;clear hg_ hnew_;(first|rw [← Ny121.out] at ho2|(simp only [Int.reduceToNat] at ho2;rw [← Ny121.out] at ho2));have HO123:=As0.mk (Kd.R_lower ho2 (bsz (by repeat (first|(with_reducible first|exact HB.out|apply bal|apply pbN|apply bd1)|exact HB.out))));replace HB:=As0.mk (b3 HB.out hb);clear hb ho2))
 go_ret
 exact ⟨_,by first|rfl|(simp [errW_none,errW_some] <;> rfl)|(simp [*,errW_none,errW_some] <;> rfl),by (with_reducible repeat (first|apply Kd.Ral|apply Kd.RdN|apply Kd.R_drew));exact HO123.out,by repeat (first|(with_reducible first|exact HB.out|apply bal|apply pbN|apply bd1)|exact HB.out)⟩
def spec_l1Dec.f:Nat → Int → Option (ByteArray)
 |0,_=>none
 |k + 1,a0=>if a0 < (-9223372036854775807) then (some (⟨#[45,57,50,50,51,51,55,50,48,51,54,56,53,52,55,55,53,56,48,56]⟩:ByteArray)) else (if a0 < 0 then ((spec_l1Dec.f k (wrap64 (-a0))).bind fun t124=>(if 1 + t124.size ≤ 9223372036854775807 then (some ((⟨#[45]⟩:ByteArray) ++ t124)) else (none))) else (if a0 < 10 then (some (strOfNums (([(wrap64 (48 + a0)) % 256]:List Int)))) else ((spec_l1Dec.f k (wrap64 (Int.tdiv a0 10))).bind fun t128=>((some (([(wrap64 (48 + (Int.tmod a0 10))) % 256]:List Int):List Int)).bind fun y129=>(if t128.size + (strOfNums y129).size ≤ 9223372036854775807 then (some (t128 ++ (strOfNums y129))) else (none))))))
def spec_l1Dec.T7:Bool × List (List Nat × List Nat):=(true,[([],[]),([0],[0]),([1],[1]),([],[]),([3],[3]),([4],[4]),([5],[5]),([6],[6]),([7],[7]),([2,8],[2,8]),([9,2,0,1,2,3,4,5,6,7,8,9],[9])])
def spec_l1Dec.B7:List Nat:=[0,1,3,0,8,24,56,120,248,511,1023]
theorem spec_l1Dec.tab7:rtab .any (opsOf Tryd.f42 7) = spec_l1Dec.T7:=by kernel_rfl
theorem spec_l1Dec.bits7:waitsOk spec_l1Dec.T7.2 spec_l1Dec.B7 = true:=by kernel_rfl
abbrev spec_l1Dec.calls.a0:Array Bool:=#[true,true,true,true,true,true,true,true,true,false,false]
set_option maxHeartbeats 40000000 in
set_option maxRecDepth 100000 in
theorem spec_l1Dec.calls (k:Nat):∀ (a0:Int) (r:ByteArray) (w:World) (h:spec_l1Dec.f k a0 = some r),
 Calls Tryd.prog 42 #[.int .i64 a0] w fun e w'=>e = .returned (.string r) ∧ Below w.heap.size w w':=by
 induction k using Nat.strongRecOn with
 |_ k ih=>
 intro a0 r w h
 cases k with
 |zero=>exact absurd h (by simp [spec_l1Dec.f])
 |succ k=>
 simp only [spec_l1Dec.f] at h;have HB:=As0.mk (Below.refl w.heap.size w);have H:(if a0 < (-9223372036854775807) then (some (⟨#[45,57,50,50,51,51,55,50,48,51,54,56,53,52,55,55,53,56,48,56]⟩:ByteArray)) else (if a0 < 0 then ((spec_l1Dec.f k (wrap64 (-a0))).bind fun t124=>(if 1 + t124.size ≤ 9223372036854775807 then (some ((⟨#[45]⟩:ByteArray) ++ t124)) else (none))) else (if a0 < 10 then (some (strOfNums (([(wrap64 (48 + a0)) % 256]:List Int)))) else ((spec_l1Dec.f k (wrap64 (Int.tdiv a0 10))).bind fun t128=>((some (([(wrap64 (48 + (Int.tmod a0 10))) % 256]:List Int):List Int)).bind fun y129=>(if t128.size + (strOfNums y129).size ≤ 9223372036854775807 then (some (t128 ++ (strOfNums y129))) else (none))))))) = some r:=h;clear h;by_cases c2:a0 < (-9223372036854775807)
 · rw [if_pos c2] at H
   have c2b0:decide (a0 < (-9223372036854775807)) = true:=decide_eq_true c2;clear c2;obtain rfl:=Option.some.inj H
   go_enter Tryd.func42,Tryd.ntmps42
   go_wp2
   go_ret
   exact ⟨eW,by repeat (first|(with_reducible first|exact HB.out|apply bal|apply pbN|apply bd1)|exact HB.out)⟩
 · rw [if_neg c2] at H
   have c2b0:decide (a0 < (-9223372036854775807)) = false:=decide_eq_false c2;clear c2;by_cases c3:a0 < 0
   · rw [if_pos c3] at H
     have c3b0:decide (a0 < 0) = true:=decide_eq_true c3;clear c3;replace H:=Option.bind_eq_some_iff.mp H;obtain ⟨t124,A40,H⟩:=H;(try dsimp only at H);have A4:=As0.mk A40;clear A40;by_cases c5:1 + t124.size ≤ 9223372036854775807
     · rw [if_pos c5] at H
       have c5b0:=eq_true c5;have c5b1:decide (1 + t124.size ≤ 9223372036854775807) = true:=decide_eq_true c5
       try have c5b2:(9223372036854775807 < 1 + t124.size) = False:=eq_false (Nat.not_lt.2 c5)
       obtain rfl:=Option.some.inj H
       go_enter Tryd.func42,Tryd.ntmps42
       go_wp2_with (first|(refine gL (some 9) Tryd.func42 #[.int .i64 (wrap64 (-a0))] ?_;(with_reducible refine (ih k (by omega) (wrap64 (-a0)) t124 _ A4.out).mono ?_);rintro e w6 ⟨rfl,hb⟩;refine ⟨_,rfl,?_⟩;replace HB:=As0.mk (b3 HB.out hb);clear hb))
       go_ret
       exact ⟨eW,by repeat (first|(with_reducible first|exact HB.out|apply bal|apply pbN|apply bd1)|exact HB.out)⟩
     · rw [if_neg c5] at H
       exact absurd H (by simp)
   · rw [if_neg c3] at H
     have c3b0:decide (a0 < 0) = false:=decide_eq_false c3;clear c3;by_cases c7:a0 < 10
     · rw [if_pos c7] at H
       have c7b0:decide (a0 < 10) = true:=decide_eq_true c7;clear c7;obtain ⟨y125,hy125⟩:∃ y_:List Int,y_ = (([(wrap64 (48 + a0)) % 256]:List Int)):=⟨_,rfl⟩;replace H:(some (strOfNums y125)) = some r:=by first|(rw [hy125];with_reducible exact H)|(have H2_:=(Option.bind_some _ _).symm.trans H;rw [hy125];with_reducible exact H2_)|(have H2_:=(Option.bind_some _ _).symm.trans H;with_reducible exact H2_)|with_reducible exact H|(rw [hy125];exact H)|exact H
       have Ny125:=As0.mk hy125;clear hy125;obtain rfl:=Option.some.inj H
       go_enter Tryd.func42,Tryd.ntmps42
       go_wp2_with (first|((with_reducible refine gate_dst (N:=16) rfl ?_);refine Kd.R_lit (Kd.int .u8) _ 5 ?hg (N:=16) ?hd (xs:=([(wrap64 (48 + a0)) % 256]:List Int)) (inner:=[.int .u8 ((wrap64 (48 + a0)) % 256)]) (ok:=fun _=>True) (okp:=fun _=>True) ?hr ?hp (fun _ hk=>hk) trivial (Below.refl _ _) (Nat.le_refl _) (by simp) ?_;(case hd=>rfl);(case hg=>rfl);(case hr=>first|(go_simp;done)|(go_simp;rfl));(case hp=>exact (Reps.one (show Kd.M (Kd.int .u8) _ _ _ ((wrap64 (48 + a0)) % 256) [.int .u8 ((wrap64 (48 + a0)) % 256)] from rfl) (Reps.none _ _)));intro v126 w8 ho9 hb hg_ hnew_;clear hg_ hnew_;(first|rw [← Ny125.out] at ho9|(simp only [Int.reduceToNat] at ho9;rw [← Ny125.out] at ho9));have HO127:=As0.mk (Kd.R_lower ho9 (bsz (by repeat (first|(with_reducible first|exact HB.out|apply bal|apply pbN|apply bd1)|exact HB.out))));replace HB:=As0.mk (b3 HB.out hb);clear hb ho9;have hcv10:=own_string (P:=Tryd.prog) Tryd.underlying22 Tryd.underlying5 Tryd.underlying9 (Kd.own_of_R HO127.out)))
       go_ret
       exact ⟨eW,by repeat (first|(with_reducible first|exact HB.out|apply bal|apply pbN|apply bd1)|exact HB.out)⟩
     · rw [if_neg c7] at H
       have c7b0:decide (a0 < 10) = false:=decide_eq_false c7;clear c7;replace H:=Option.bind_eq_some_iff.mp H;obtain ⟨t128,A110,H⟩:=H;(try dsimp only at H);have A11:=As0.mk A110;clear A110;obtain ⟨y129,hy129⟩:∃ y_:List Int,y_ = (([(wrap64 (48 + (Int.tmod a0 10))) % 256]:List Int)):=⟨_,rfl⟩;replace H:(if t128.size + (strOfNums y129).size ≤ 9223372036854775807 then (some (t128 ++ (strOfNums y129))) else (none)) = some r:=by first|(rw [hy129];with_reducible exact H)|(have H2_:=(Option.bind_some _ _).symm.trans H;rw [hy129];with_reducible exact H2_)|(have H2_:=(Option.bind_some _ _).symm.trans H;with_reducible exact H2_)|with_reducible exact H|(rw [hy129];exact H)|exact H
       have Ny129:=As0.mk hy129;clear hy129;by_cases c12:t128.size + (strOfNums y129).size ≤ 9223372036854775807
       · rw [if_pos c12] at H
         have c12b0:=eq_true c12;have c12b1:decide (t128.size + (strOfNums y129).size ≤ 9223372036854775807) = true:=decide_eq_true c12
         try have c12b2:(9223372036854775807 < t128.size + (strOfNums y129).size) = False:=eq_false (Nat.not_lt.2 c12)
         obtain rfl:=Option.some.inj H
         go_enter Tryd.func42,Tryd.ntmps42
         try go_wp2
         replace HB:=As0.mk (bd1 HB.out);refine start_ (n:=11) (S:=fun w'=>True) (ds:=[]) #[false,false,false,false,false,false,false,false,false,false,false] (by kernel_rfl) rfl rfl trivial (fun hHeld=>?_);refine with_tabW spec_l1Dec.tab7 spec_l1Dec.bits7 (fun HT_ HW_=>?_);generalize w.drew = w13 at HB hHeld ⊢
         refine pu 0 (some 18) #[true,false,false,false,false,false,false,false,false,false,false] rfl rfl HT_.out ?_;refine pu 1 (some 19) #[true,true,false,false,false,false,false,false,false,false,false] rfl rfl HT_.out ?_;refine pu 3 (some 21) #[true,true,false,true,false,false,false,false,false,false,false] rfl rfl HT_.out ?_;refine pu 4 (some 22) #[true,true,false,true,true,false,false,false,false,false,false] rfl rfl HT_.out ?_;refine pu 5 (some 23) #[true,true,false,true,true,true,false,false,false,false,false] rfl rfl HT_.out ?_;refine pu 6 (some 24) #[true,true,false,true,true,true,true,false,false,false,false] rfl rfl HT_.out ?_;refine join_ (σ:=Value) 2 spec_l1Dec.calls.a0 (fun s_=>[(20,.string t128),(25,s_),(26,.string (strOfNums y129))]) (fun s_ w'=>(Kd.R (Kd.int .u8) 5 w' w.heap.size (fun _=>True) s_ y129) ∧ (Below w.heap.size w w')) ?_ ?_;rotate_left
         · intro hCont
           refine two_ (i:=2) (j:=7) (Ni:=some 20) (Nj:=some 25) #[true,true,true,true,true,true,true,false,false,false,false] #[true,true,false,true,true,true,true,true,false,false,false] rfl rfl rfl rfl (two_of HT_.out (by kernel_rfl)) (by decide) (by decide) (fun K hK=>?_) (fun K hK=>?_)
           · skip
             refine goes_ Tryd.func42 (by kernel_rfl) rfl #[.int .i64 (wrap64 (Int.tdiv a0 10))] (by rfl) rfl rfl (by (try simp only [List.map_toArray,List.map_cons,List.map_nil]);first|done|rfl|(simp only [List.length_drop,List.length_take];rfl)) ?_;with_reducible refine (ih k (by omega) (wrap64 (Int.tdiv a0 10)) t128 _ A11.out).mono ?_
             rintro e w14 ⟨rfl,hb⟩;refine ⟨_,rfl,?_⟩;replace HB:=As0.mk (b3 HB.out hb)
              
              
              
              
             refine hK.out _ _ trivial (fun hHeld=>?_);clear hK K;refine norm_ (a':=?_) ?_ ?_;rotate_left
             · show Act.put _ (some 20) _ = _
               simp only [Act.put,sA,sZ,sS,i64_w,i32_w];rfl
             refine one_ (i:=7) (N:=some 25) #[true,true,true,true,true,true,true,true,false,false,false] rfl rfl (one_of HT_.out (by kernel_rfl)) (by decide) (fun K hK=>?_);refine Kd.R_lit_step (Kd.int .u8) _ 5 ?hg (N:=25) ?hd (xs:=([(wrap64 (48 + (Int.tmod a0 10))) % 256]:List Int)) (inner:=[.int .u8 ((wrap64 (48 + (Int.tmod a0 10))) % 256)]) (ok:=fun _=>True) (okp:=fun _=>True) ?hr ?hp (fun _ hk=>hk) trivial (Below.refl _ _) (Nat.le_refl _) (by simp) ?_;(case hd=>rfl);(case hg=>rfl);(case hr=>first|(go_simp;done)|(go_simp;rfl));(case hp=>exact (Reps.one (show Kd.M (Kd.int .u8) _ _ _ ((wrap64 (48 + (Int.tmod a0 10))) % 256) [.int .u8 ((wrap64 (48 + (Int.tmod a0 10))) % 256)] from rfl) (Reps.none _ _)));intro v130 w15 ho16 hb hg_ hnew_;clear hg_ hnew_
             (first|rw [← Ny129.out] at ho16|(simp only [Int.reduceToNat] at ho16;rw [← Ny129.out] at ho16))
             have HO131:=As0.mk (Kd.R_lower ho16 (bsz (by repeat (first|(with_reducible first|exact HB.out|apply bal|apply pbN|apply bd1)|exact HB.out))));replace HB:=As0.mk (b3 HB.out hb);clear hb ho16;refine hK.out _ _ trivial (fun hHeld=>?_);clear hK K;refine norm_ (a':=?_) ?_ ?_;rotate_left
             · show Act.put _ (some 25) _ = _
               simp only [Act.put,sA,sZ,sS,i64_w,i32_w];rfl
             refine one_ (i:=8) (N:=some 26) spec_l1Dec.calls.a0 rfl rfl (one_of HT_.out (by kernel_rfl)) (by decide) (fun K hK=>?_);have hcv17:=own_string (P:=Tryd.prog) Tryd.underlying22 Tryd.underlying5 Tryd.underlying9 (Kd.own_of_R HO131.out);refine value_ (w1:=?_) (v:=?_) (by rfl) rfl ?_ ?_;rotate_left 2
             · go_simp
               constructor
               · rfl
               · rfl
             clear hcv17;refine hK.out _ _ trivial (fun hHeld=>?_);clear hK K;refine norm_ (a':=?_) ?_ ?_;rotate_left
             · show Act.put _ (some 26) _ = _
               simp only [Act.put,sA,sZ,sS,i64_w,i32_w];rfl
             exact norm_ (by simp only [putAll,Act.put,sA,sZ,sS]) (hCont (v130) _ ⟨(by (with_reducible repeat (first|apply Kd.Ral|apply Kd.RdN|apply Kd.R_drew));exact HO131.out),(by repeat (first|(with_reducible first|exact HB.out|apply bal|apply pbN|apply bd1)|exact HB.out))⟩)
           · skip
             refine Kd.R_lit_step (Kd.int .u8) _ 5 ?hg (N:=25) ?hd (xs:=([(wrap64 (48 + (Int.tmod a0 10))) % 256]:List Int)) (inner:=[.int .u8 ((wrap64 (48 + (Int.tmod a0 10))) % 256)]) (ok:=fun _=>True) (okp:=fun _=>True) ?hr ?hp (fun _ hk=>hk) trivial (Below.refl _ _) (Nat.le_refl _) (by simp) ?_;(case hd=>rfl);(case hg=>rfl);(case hr=>first|(go_simp;done)|(go_simp;rfl));(case hp=>exact (Reps.one (show Kd.M (Kd.int .u8) _ _ _ ((wrap64 (48 + (Int.tmod a0 10))) % 256) [.int .u8 ((wrap64 (48 + (Int.tmod a0 10))) % 256)] from rfl) (Reps.none _ _)));intro v130 w14 ho15 hb hg_ hnew_;clear hg_ hnew_
             (first|rw [← Ny129.out] at ho15|(simp only [Int.reduceToNat] at ho15;rw [← Ny129.out] at ho15))
             have HO131:=As0.mk (Kd.R_lower ho15 (bsz (by repeat (first|(with_reducible first|exact HB.out|apply bal|apply pbN|apply bd1)|exact HB.out))));replace HB:=As0.mk (b3 HB.out hb);clear hb ho15;refine hK.out _ _ trivial (fun hHeld=>?_);clear hK K;refine norm_ (a':=?_) ?_ ?_;rotate_left
             · show Act.put _ (some 25) _ = _
               simp only [Act.put,sA,sZ,sS,i64_w,i32_w];rfl
             refine two_ (i:=2) (j:=8) (Ni:=some 20) (Nj:=some 26) #[true,true,true,true,true,true,true,true,false,false,false] #[true,true,false,true,true,true,true,true,true,false,false] rfl rfl rfl rfl (two_of HT_.out (by kernel_rfl)) (by decide) (by decide) (fun K hK=>?_) (fun K hK=>?_)
             · skip
               refine goes_ Tryd.func42 (by kernel_rfl) rfl #[.int .i64 (wrap64 (Int.tdiv a0 10))] (by rfl) rfl rfl (by (try simp only [List.map_toArray,List.map_cons,List.map_nil]);first|done|rfl|(simp only [List.length_drop,List.length_take];rfl)) ?_;with_reducible refine (ih k (by omega) (wrap64 (Int.tdiv a0 10)) t128 _ A11.out).mono ?_
               rintro e w16 ⟨rfl,hb⟩;refine ⟨_,rfl,?_⟩;replace HO131:=As0.mk (Kd.R_below (by (with_reducible repeat (first|apply Kd.Ral|apply Kd.RdN|apply Kd.R_drew));exact HO131.out) hb);replace HB:=As0.mk (b3 HB.out hb)
                
                
                
                
               refine hK.out _ _ trivial (fun hHeld=>?_);clear hK K;refine norm_ (a':=?_) ?_ ?_;rotate_left
               · show Act.put _ (some 20) _ = _
                 simp only [Act.put,sA,sZ,sS,i64_w,i32_w];rfl
               refine one_ (i:=8) (N:=some 26) spec_l1Dec.calls.a0 rfl rfl (one_of HT_.out (by kernel_rfl)) (by decide) (fun K hK=>?_);have hcv17:=own_string (P:=Tryd.prog) Tryd.underlying22 Tryd.underlying5 Tryd.underlying9 (Kd.own_of_R HO131.out);refine value_ (w1:=?_) (v:=?_) (by rfl) rfl ?_ ?_;rotate_left 2
               · go_simp
                 constructor
                 · rfl
                 · rfl
               clear hcv17;refine hK.out _ _ trivial (fun hHeld=>?_);clear hK K;refine norm_ (a':=?_) ?_ ?_;rotate_left
               · show Act.put _ (some 26) _ = _
                 simp only [Act.put,sA,sZ,sS,i64_w,i32_w];rfl
               exact norm_ (by simp only [putAll,Act.put,sA,sZ,sS]) (hCont (v130) _ ⟨(by (with_reducible repeat (first|apply Kd.Ral|apply Kd.RdN|apply Kd.R_drew));exact HO131.out),(by repeat (first|(with_reducible first|exact HB.out|apply bal|apply pbN|apply bd1)|exact HB.out))⟩)
             · skip
               have hcv16:=own_string (P:=Tryd.prog) Tryd.underlying22 Tryd.underlying5 Tryd.underlying9 (Kd.own_of_R HO131.out);refine value_ (w1:=?_) (v:=?_) (by rfl) rfl ?_ ?_;rotate_left 2
               · go_simp
                 constructor
                 · rfl
                 · rfl
               clear hcv16;refine hK.out _ _ trivial (fun hHeld=>?_);clear hK K;refine norm_ (a':=?_) ?_ ?_;rotate_left
               · show Act.put _ (some 26) _ = _
                 simp only [Act.put,sA,sZ,sS,i64_w,i32_w];rfl
               refine one_ (i:=2) (N:=some 20) spec_l1Dec.calls.a0 rfl rfl (one_of HT_.out (by kernel_rfl)) (by decide) (fun K hK=>?_);refine goes_ Tryd.func42 (by kernel_rfl) rfl #[.int .i64 (wrap64 (Int.tdiv a0 10))] (by rfl) rfl rfl (by (try simp only [List.map_toArray,List.map_cons,List.map_nil]);first|done|rfl|(simp only [List.length_drop,List.length_take];rfl)) ?_;with_reducible refine (ih k (by omega) (wrap64 (Int.tdiv a0 10)) t128 _ A11.out).mono ?_
               rintro e w17 ⟨rfl,hb⟩;refine ⟨_,rfl,?_⟩;replace HO131:=As0.mk (Kd.R_below (by (with_reducible repeat (first|apply Kd.Ral|apply Kd.RdN|apply Kd.R_drew));exact HO131.out) hb);replace HB:=As0.mk (b3 HB.out hb)
                
                
                
                
               refine hK.out _ _ trivial (fun hHeld=>?_);clear hK K;refine norm_ (a':=?_) ?_ ?_;rotate_left
               · show Act.put _ (some 20) _ = _
                 simp only [Act.put,sA,sZ,sS,i64_w,i32_w];rfl
               exact norm_ (by simp only [putAll,Act.put,sA,sZ,sS]) (hCont (v130) _ ⟨(by (with_reducible repeat (first|apply Kd.Ral|apply Kd.RdN|apply Kd.R_drew));exact HO131.out),(by repeat (first|(with_reducible first|exact HB.out|apply bal|apply pbN|apply bd1)|exact HB.out))⟩)
         rintro v130 w18 ⟨h0_,h1_⟩;(try dsimp only at h0_ h1_);have HO131:=As0.mk h0_;replace HB:=As0.mk h1_;clear h0_ h1_;have hHeld:=trivial;refine nm ?_;refine pu 9 (some 27) #[true,true,true,true,true,true,true,true,true,true,false] rfl rfl HT_.out ?_;refine pu 10 (some 2) #[true,true,true,true,true,true,true,true,true,true,true] rfl rfl HT_.out ?_;refine done_ (done_of HT_.out (by kernel_rfl)) ?_
         try go_wp2
         go_ret
         exact ⟨eW,by repeat (first|(with_reducible first|exact HB.out|apply bal|apply pbN|apply bd1)|exact HB.out)⟩
       · rw [if_neg c12] at H
         exact absurd H (by simp)
mutual
def spec_l9Write.j0:Nat → Bool → Bool → Bool → ByteArray → Int → ByteArray → ByteArray → Int → ByteArray → Option (ByteArray)
 |0,_,_,_,_,_,_,_,_,_=>none
 |k + 1,x3,x4,x5,x6,x133000,x133001,x133002,x133003,x133004=>if x3 = true then (if x6.size + 1 ≤ 9223372036854775807 then (if x6.size + 1 + x133002.size ≤ 9223372036854775807 then (spec_l9Write.j1 k x4 x5 ((x6 ++ (⟨#[32]⟩:ByteArray)) ++ x133002) x133000 x133001 x133002 x133003 x133004) else (none)) else (none)) else (spec_l9Write.j1 k x4 x5 x6 x133000 x133001 x133002 x133003 x133004)
def spec_l9Write.j1:Nat → Bool → Bool → ByteArray → Int → ByteArray → ByteArray → Int → ByteArray → Option (ByteArray)
 |0,_,_,_,_,_,_,_,_=>none
 |k + 1,x4,x5,x6,x133000,x133001,x133002,x133003,x133004=>if x4 = true then (if x6.size + 1 ≤ 9223372036854775807 then ((spec_l1Dec.f k x133003).bind fun t140=>(if x6.size + 1 + t140.size ≤ 9223372036854775807 then (if x5 = true then (if x6.size + 1 + t140.size + 1 ≤ 9223372036854775807 then (if x6.size + 1 + t140.size + 1 + x133004.size ≤ 9223372036854775807 then (some ((((x6 ++ (⟨#[32]⟩:ByteArray)) ++ t140) ++ (⟨#[32]⟩:ByteArray)) ++ x133004)) else (none)) else (none)) else (some ((x6 ++ (⟨#[32]⟩:ByteArray)) ++ t140))) else (none))) else (none)) else (if x5 = true then (if x6.size + 1 ≤ 9223372036854775807 then (if x6.size + 1 + x133004.size ≤ 9223372036854775807 then (some ((x6 ++ (⟨#[32]⟩:ByteArray)) ++ x133004)) else (none)) else (none)) else (some x6))
end
def spec_l9Write.f (k:Nat) (a0_0:Int) (a0_1:ByteArray) (a0_2:ByteArray) (a0_3:Int) (a0_4:ByteArray):Option (ByteArray):=(spec_l9Has.f k a0_0).bind fun bt133=>((spec_l9Words.f).bind fun t136=>(if 0 ≤ a0_0 then (if a0_0 < (t136.length:Int) then (if a0_0 = 12 then (spec_l9Write.j0 k bt133.1 bt133.2.1 bt133.2.2 (rdOf ByteArray.empty t136 a0_0) a0_0 a0_1 a0_2 a0_3 a0_4) else (if (rdOf ByteArray.empty t136 a0_0).size + 1 ≤ 9223372036854775807 then (if (rdOf ByteArray.empty t136 a0_0).size + 1 + a0_1.size ≤ 9223372036854775807 then (spec_l9Write.j0 k bt133.1 bt133.2.1 bt133.2.2 (((rdOf ByteArray.empty t136 a0_0) ++ (⟨#[32]⟩:ByteArray)) ++ a0_1) a0_0 a0_1 a0_2 a0_3 a0_4) else (none)) else (none))) else (none)) else (none)))
theorem oper_ld {P:Program} {oi:Oper} {a:Act} {w:World} {K:Act → World → Prop} {Q:Exit → Act → World → Prop} {v:Value} (h:K (a.put oi.dst v) w) (hr:(execOp a.eval oi).run P w = .ok (.value v) w):Oper.wp P oi a w K Q:=by
 unfold Oper.wp;rw [hr]
 exact h
set_option maxHeartbeats 40000000 in
set_option maxRecDepth 100000 in
theorem spec_l9Write.calls (k:Nat) (a0_0:Int) (a0_1:ByteArray) (a0_2:ByteArray) (a0_3:Int) (a0_4:ByteArray) (r:ByteArray) (w:World) (h:spec_l9Write.f k a0_0 a0_1 a0_2 a0_3 a0_4 = some r) :
 Calls Tryd.prog 28 #[.agg #[.int .i64 a0_0,.string a0_1,.string a0_2,.int .i64 a0_3,.string a0_4]] w fun e w'=>e = .returned (.string r) ∧ Below w.heap.size w w':=by
 have hu25:=Tryd.underlying25;have HB:=As0.mk (Below.refl w.heap.size w);have H:((spec_l9Has.f k a0_0).bind fun bt133=>((spec_l9Words.f).bind fun t136=>(if 0 ≤ a0_0 then (if a0_0 < (t136.length:Int) then (if a0_0 = 12 then (spec_l9Write.j0 k bt133.1 bt133.2.1 bt133.2.2 (rdOf ByteArray.empty t136 a0_0) a0_0 a0_1 a0_2 a0_3 a0_4) else (if (rdOf ByteArray.empty t136 a0_0).size + 1 ≤ 9223372036854775807 then (if (rdOf ByteArray.empty t136 a0_0).size + 1 + a0_1.size ≤ 9223372036854775807 then (spec_l9Write.j0 k bt133.1 bt133.2.1 bt133.2.2 (((rdOf ByteArray.empty t136 a0_0) ++ (⟨#[32]⟩:ByteArray)) ++ a0_1) a0_0 a0_1 a0_2 a0_3 a0_4) else (none)) else (none))) else (none)) else (none)))) = some r:=h;clear h;replace H:=Option.bind_eq_some_iff.mp H;obtain ⟨⟨t133,t134,t135⟩,A20,H⟩:=H;(try dsimp only at H);have A2:=As0.mk A20;clear A20;replace H:=Option.bind_eq_some_iff.mp H;obtain ⟨t136,A30,H⟩:=H;(try dsimp only at H);have A3:=As0.mk A30;clear A30;by_cases c4:0 ≤ a0_0
 · rw [if_pos c4] at H
   have c4b0:decide (0 ≤ a0_0) = true:=decide_eq_true c4;clear c4;by_cases c5:a0_0 < (t136.length:Int)
   · rw [if_pos c5] at H
     have c5b0:decide (a0_0 < (t136.length:Int)) = true:=decide_eq_true c5;clear c5;have HC6:=As0.mk H;clear H
     go_enter Tryd.func28,Tryd.ntmps28
     try go_wp2_with (first|((with_reducible refine gate_dst (N:=1) rfl ?_);refine bE 1 #[.int .i64 a0_0,.string a0_1,.string a0_2,.int .i64 a0_3,.string a0_4] 25 ?_;intro gb132 hg w7 hbox hb;have BK132:=As0.mk (hbox);have GW132:=As0.mk ((by rw [hg];exact (bsz (by repeat (first|(with_reducible first|exact HB.out|apply bal|apply pbN|apply bd1)|exact HB.out))):w.heap.size ≤ gb132));have GE132:=GW132;replace HB:=As0.mk (b3 HB.out hb);clear hb hbox hg;obtain ⟨hcz8_0,hcz8_1,hcz8_2,hcz8_3,hcz8_4⟩:=qc5 BK132.out;obtain ⟨hfz8_0,hfz8_1,hfz8_2,hfz8_3,hfz8_4⟩:=qz5 BK132.out)|(refine gL (some 10) Tryd.func22 #[.int .i64 a0_0] ?_;(with_reducible refine (spec_l9Has.calls k a0_0 t133 t134 t135 _ A2.out).mono ?_);rintro e w' ⟨rfl,⟨nd,rfl⟩⟩;refine ⟨_,rfl,?_⟩))
     (try (rw [drewN_self w7];generalize hq_:World.drewN w7 _ = w7;replace BK132:As0 (w7.heap[gb132]? = some (.cells #[.int .i64 a0_0,.string a0_1,.string a0_2,.int .i64 a0_3,.string a0_4] 25 (0,0))):=⟨by rw [← hq_];exact (by (with_reducible repeat (first|refine bkN ?_ _|refine bkD ?_|refine bkA ?_ _));exact BK132.out)⟩;replace HB:As0 (Below w.heap.size w w7):=⟨by rw [← hq_];exact (by repeat (first|(with_reducible first|exact HB.out|apply bal|apply pbN|apply bd1|refine bst ?_ GE132.out)|exact HB.out))⟩;clear hq_))
     replace BK132:=As0.mk (bkD BK132.out);replace HB:=As0.mk (bd1 HB.out);refine start_ (n:=6) (S:=fun w'=>w'.cell? ⟨gb132,0,none⟩ = some (.int .i64 a0_0) ∧ w'.cell? ⟨gb132,1,none⟩ = some (.string a0_1) ∧ w'.cell? ⟨gb132,2,none⟩ = some (.string a0_2) ∧ w'.cell? ⟨gb132,3,none⟩ = some (.int .i64 a0_3) ∧ w'.cell? ⟨gb132,4,none⟩ = some (.string a0_4)) (ds:=[]) #[false,false,false,false,false,false] (by kernel_rfl) rfl rfl (qc5 BK132.out) (fun hHeld=>?_);generalize w7.drew = w9 at BK132 HB hHeld ⊢
     refine pure_ (i:=1) (N:=some 15) (v:=?_) (a':=?_) #[false,true,false,false,false,false] rfl rfl (by kernel_rfl) (fun _ _ _ h=>h) (Or.inl ⟨by rfl,?_⟩) ?_ ?_;rotate_left;(· intro w';go_simp;with_reducible rfl);rotate_left;(· simp only [Act.put,sA,sZ,sS,i64_w,i32_w];rfl);refine take_ (i:=2) (N:=some 16) (v:=?_) (a':=?_) #[false,true,true,false,false,false] rfl rfl (by kernel_rfl) (fun _ _ _ h=>h) (Or.inl ⟨by rfl,?_⟩) hHeld ?_ ?_;rotate_left;(· rintro w' ⟨s0,s1,s2,s3,s4⟩;go_simp;with_reducible rfl);rotate_left;(· simp only [Act.put,sA,sZ,sS,i64_w,i32_w];rfl);refine one_ (i:=0) (N:=some 14) #[true,true,true,false,false,false] rfl rfl (by kernel_rfl) (by decide) (fun K hK=>?_);refine goes_ Tryd.func21 (by kernel_rfl) rfl #[] (by rfl) rfl rfl (by (try simp only [List.map_toArray,List.map_cons,List.map_nil]);first|done|rfl|(simp only [List.length_drop,List.length_take];rfl)) ?_;with_reducible refine (spec_l9Words.calls  t136 _ A3.out).mono ?_
     rintro e w10 ⟨v137,rfl,ho0,hb⟩;refine ⟨_,rfl,?_⟩;have HO138:=As0.mk (Kd.R_lower ho0 (bsz (by repeat (first|(with_reducible first|exact HB.out|apply bal|apply pbN|apply bd1|refine bst ?_ GE132.out)|exact HB.out))));replace BK132:=As0.mk (bb hb BK132.out);replace HB:=As0.mk (bsp (by repeat (first|(with_reducible first|exact HB.out|apply bal|apply pbN|apply bd1|refine bst ?_ GE132.out)|exact HB.out)) hb)
      
      
      
      
      
     obtain ⟨Ao11,co11,eo11⟩:=Kd.R_slice HO138.out
     (first|subst eo11|(injection eo11 with f1_ f2_ f3_;have f4_:=f1_.symm;have f5_:=f3_.symm;clear f1_ f2_ f3_;subst f4_;subst f5_))
     have p139:0 ≤ (a0_0:Int):=odt;have q139:a0_0 < (t136.length:Int):=odt;obtain ⟨ad139,e139,hx139_0⟩:=Kd.at_string (Kd.R_reads' HO138.out).2.2 a0_0 p139 q139
     cases e139
     replace p139:=eq_true p139;replace q139:=eq_true q139;refine hK.out _ _ (qc5 BK132.out) (fun hHeld=>?_);clear hK K;refine norm_ (a':=?_) ?_ ?_;rotate_left
     · show Act.put _ (some 14) _ = _
       simp only [Act.put,sA,sZ,sS,i64_w,i32_w];rfl
     refine pure_ (i:=3) (N:=some 17) (v:=?_) (a':=?_) #[true,true,true,true,false,false] rfl rfl (by kernel_rfl) (fun _ _ _ h=>h) (Or.inl ⟨by rfl,?_⟩) ?_ ?_;rotate_left;(· intro w';go_simp;with_reducible rfl);rotate_left;(· simp only [Act.put,sA,sZ,sS,i64_w,i32_w];rfl);refine one_ (i:=4) (N:=some 18) #[true,true,true,true,true,false] rfl rfl (by kernel_rfl) (by decide) (fun K hK=>?_);rw [if_pos (by rfl)];refine oper_ld (v:=?vv) ?hh ?hr
     case hr=>
      go_simp
      with_reducible rfl
     refine hK.out _ _ (qc5 BK132.out) (fun hHeld=>?_);clear hK K;refine norm_ (a':=?_) ?_ ?_;rotate_left
     · show Act.put _ (some 18) _ = _
       simp only [Act.put,sA,sZ,sS,i64_w,i32_w];rfl
     refine pure_ (i:=5) (N:=some 6) (v:=?_) (a':=?_) #[true,true,true,true,true,true] rfl rfl (by kernel_rfl) (fun _ _ _ h=>h) (Or.inl ⟨by rfl,?_⟩) ?_ ?_;rotate_left;(· intro w';go_simp;with_reducible rfl);rotate_left;(· simp only [Act.put,sA,sZ,sS,i64_w,i32_w];rfl);refine done_ (by kernel_rfl) ?_;obtain ⟨hcz12_0,hcz12_1,hcz12_2,hcz12_3,hcz12_4⟩:=qc5 BK132.out;obtain ⟨hfz12_0,hfz12_1,hfz12_2,hfz12_3,hfz12_4⟩:=qz5 BK132.out
     go_upto_if 21 with (fail)
     show _;go_cut [6] (fun v6 wc=>∃ (kq:Nat) (x6_5:ByteArray),v6 = .string x6_5 ∧ As0 (spec_l9Write.j0 kq t133 t134 t135 x6_5 a0_0 a0_1 a0_2 a0_3 a0_4 = some r) ∧ As0 (kq ≤ k) ∧ As0 (wc.heap[gb132]? = some (.cells #[.int .i64 a0_0,.string a0_1,.string a0_2,.int .i64 a0_3,.string a0_4] 25 (0,0))) ∧ As0 (Below w.heap.size w wc))
     case first=>
      have H:=HC6.out;clear HC6;by_cases c13:a0_0 = 12
      · rw [if_pos c13] at H
        have c13b0:(a0_0 == 12) = true:=beq_iff_eq.mpr c13;have c13b1:(a0_0 != 12) = false:=bne_eq_false_iff_eq.mpr c13;clear c13
        (first|rw [c13b0]|(simp only [i64_w,i32_w];rw [c13b0])|skip)
        have H':=As0.mk H;clear H
        go_wp2
        show _;go_meet
        case rel=>exact ⟨_,(rdOf ByteArray.empty t136 a0_0),(by first|rfl|(simp;done)|(simp [*];done)),H',⟨by first|omega|exact Nat.le_refl _⟩,⟨by (with_reducible repeat (first|refine bkN ?_ _|refine bkD ?_|refine bkA ?_ _));exact BK132.out⟩,⟨by repeat (first|(with_reducible first|exact HB.out|apply bal|apply pbN|apply bd1|refine bst ?_ GE132.out)|exact HB.out)⟩⟩
      · rw [if_neg c13] at H
        have c13b0:(a0_0 == 12) = false:=beq_eq_false_iff_ne.mpr c13;have c13b1:(a0_0 != 12) = true:=bne_iff_ne.mpr c13
        (first|rw [c13b0]|(simp only [i64_w,i32_w];rw [c13b0])|skip)
        by_cases c14:(rdOf ByteArray.empty t136 a0_0).size + 1 ≤ 9223372036854775807
        · rw [if_pos c14] at H
          have c14b0:=eq_true c14;have c14b1:decide ((rdOf ByteArray.empty t136 a0_0).size + 1 ≤ 9223372036854775807) = true:=decide_eq_true c14
          try have c14b2:(9223372036854775807 < (rdOf ByteArray.empty t136 a0_0).size + 1) = False:=eq_false (Nat.not_lt.2 c14)
          by_cases c15:(rdOf ByteArray.empty t136 a0_0).size + 1 + a0_1.size ≤ 9223372036854775807
          · rw [if_pos c15] at H
            have c15b0:=eq_true c15;have c15b1:decide ((rdOf ByteArray.empty t136 a0_0).size + 1 + a0_1.size ≤ 9223372036854775807) = true:=decide_eq_true c15
            try have c15b2:(9223372036854775807 < (rdOf ByteArray.empty t136 a0_0).size + 1 + a0_1.size) = False:=eq_false (Nat.not_lt.2 c15)
            have H':=As0.mk H;clear H;obtain ⟨hcz16_0,hcz16_1,hcz16_2,hcz16_3,hcz16_4⟩:=qc5 BK132.out;obtain ⟨hfz16_0,hfz16_1,hfz16_2,hfz16_3,hfz16_4⟩:=qz5 BK132.out
            go_wp2
            show _;go_meet
            case rel=>exact ⟨_,(((rdOf ByteArray.empty t136 a0_0) ++ (⟨#[32]⟩:ByteArray)) ++ a0_1),(by first|rfl|(simp;done)|(simp [*];done)),H',⟨by first|omega|exact Nat.le_refl _⟩,⟨by (with_reducible repeat (first|refine bkN ?_ _|refine bkD ?_|refine bkA ?_ _));exact BK132.out⟩,⟨by repeat (first|(with_reducible first|exact HB.out|apply bal|apply pbN|apply bd1|refine bst ?_ GE132.out)|exact HB.out)⟩⟩
          · rw [if_neg c15] at H
            exact absurd H (by simp)
        · rw [if_neg c14] at H
          exact absurd H (by simp)
     case rest=>
      clear HC6
      try clear c1
      try clear p1
      try clear c4
      try clear c4b0
      try clear c5
      try clear c5b0
      try clear p13
      try clear q13
      try clear hx13
      try clear c7
      try clear c13
      try clear c13b0
      try clear c13b1
      try clear c14
      try clear c14b0
      try clear c14b1
      try clear c14b2
      try clear c15
      try clear c15b0
      try clear c15b1
      try clear c15b2
      try clear hcz12_0
      try clear hcz12_1
      try clear hcz12_2
      try clear hcz12_3
      try clear hcz12_4
      try clear hcz16_0
      try clear hcz16_1
      try clear hcz16_2
      try clear hcz16_3
      try clear hcz16_4
      try clear hcz8_0
      try clear hcz8_1
      try clear hcz8_2
      try clear hcz8_3
      try clear hcz8_4
      try clear hfz12_0
      try clear hfz12_1
      try clear hfz12_2
      try clear hfz12_3
      try clear hfz12_4
      try clear hfz16_0
      try clear hfz16_1
      try clear hfz16_2
      try clear hfz16_3
      try clear hfz16_4
      try clear hfz8_0
      try clear hfz8_1
      try clear hfz8_2
      try clear hfz8_3
      try clear hfz8_4
      try clear hx139_0
      try clear p139
      try clear q139
      obtain ⟨kq,x6_5,rfl,HA,HJ5,BK132,HB⟩:=hcut
      cases kq with
      |zero=>exact absurd HA.out (by simp [spec_l9Write.j0])
      |succ kj5=>
       have H:=HA.out;clear HA;simp only [spec_l9Write.j0] at H;have HC17:=As0.mk H;clear H
       go_upto_if 27 with (fail)
       show _;go_cut [6] (fun v6 wc=>∃ (kq:Nat) (x6_16:ByteArray),v6 = .string x6_16 ∧ As0 (spec_l9Write.j1 kq t134 t135 x6_16 a0_0 a0_1 a0_2 a0_3 a0_4 = some r) ∧ As0 (kq ≤ kj5) ∧ As0 (wc.heap[gb132]? = some (.cells #[.int .i64 a0_0,.string a0_1,.string a0_2,.int .i64 a0_3,.string a0_4] 25 (0,0))) ∧ As0 (Below w.heap.size w wc))
       case first=>
        have H:=HC17.out;clear HC17;by_cases c18:t133 = true
        · subst c18
          have H1:(if x6_5.size + 1 ≤ 9223372036854775807 then (if x6_5.size + 1 + a0_2.size ≤ 9223372036854775807 then (spec_l9Write.j1 kj5 t134 t135 ((x6_5 ++ (⟨#[32]⟩:ByteArray)) ++ a0_2) a0_0 a0_1 a0_2 a0_3 a0_4) else (none)) else (none)) = some r:=by rw [if_pos rfl] at H;exact H
          clear H;have H:=H1;clear H1;by_cases c19:x6_5.size + 1 ≤ 9223372036854775807
          · rw [if_pos c19] at H
            have c19b0:=eq_true c19;have c19b1:decide (x6_5.size + 1 ≤ 9223372036854775807) = true:=decide_eq_true c19
            try have c19b2:(9223372036854775807 < x6_5.size + 1) = False:=eq_false (Nat.not_lt.2 c19)
            by_cases c20:x6_5.size + 1 + a0_2.size ≤ 9223372036854775807
            · rw [if_pos c20] at H
              have c20b0:=eq_true c20;have c20b1:decide (x6_5.size + 1 + a0_2.size ≤ 9223372036854775807) = true:=decide_eq_true c20
              try have c20b2:(9223372036854775807 < x6_5.size + 1 + a0_2.size) = False:=eq_false (Nat.not_lt.2 c20)
              have H':=As0.mk H;clear H;obtain ⟨hcz21_0,hcz21_1,hcz21_2,hcz21_3,hcz21_4⟩:=qc5 BK132.out;obtain ⟨hfz21_0,hfz21_1,hfz21_2,hfz21_3,hfz21_4⟩:=qz5 BK132.out
              go_wp2
              show _;go_meet
              case rel=>exact ⟨_,((x6_5 ++ (⟨#[32]⟩:ByteArray)) ++ a0_2),(by first|rfl|(simp;done)|(simp [*];done)),H',⟨by have:=HJ5.out;first|omega|exact Nat.le_refl _⟩,⟨by (with_reducible repeat (first|refine bkN ?_ _|refine bkD ?_|refine bkA ?_ _));exact BK132.out⟩,⟨by repeat (first|(with_reducible first|exact HB.out|apply bal|apply pbN|apply bd1|refine bst ?_ GE132.out)|exact HB.out)⟩⟩
            · rw [if_neg c20] at H
              exact absurd H (by simp)
          · rw [if_neg c19] at H
            exact absurd H (by simp)
        · replace c18:=Bool.eq_false_iff.mpr c18
          subst c18;have H1:(spec_l9Write.j1 kj5 t134 t135 x6_5 a0_0 a0_1 a0_2 a0_3 a0_4) = some r:=by rw [if_neg (show ¬ (false = true) by decide)] at H;exact H
          clear H;have H:=H1;clear H1;have H':=As0.mk H;clear H
          go_wp2
          show _;go_meet
          case rel=>exact ⟨_,(x6_5),(by first|rfl|(simp;done)|(simp [*];done)),H',⟨by have:=HJ5.out;first|omega|exact Nat.le_refl _⟩,⟨by (with_reducible repeat (first|refine bkN ?_ _|refine bkD ?_|refine bkA ?_ _));exact BK132.out⟩,⟨by repeat (first|(with_reducible first|exact HB.out|apply bal|apply pbN|apply bd1|refine bst ?_ GE132.out)|exact HB.out)⟩⟩
       case rest=>
        clear HC17
        try clear c1
        try clear c2
        try clear p2
        try clear c4
        try clear c4b0
        try clear c5
        try clear c5b0
        try clear p13
        try clear q13
        try clear hx13
        try clear c7
        try clear c13
        try clear c13b0
        try clear c13b1
        try clear c14
        try clear c14b0
        try clear c14b1
        try clear c14b2
        try clear c15
        try clear c15b0
        try clear c15b1
        try clear c15b2
        try clear c18
        try clear c19
        try clear c19b0
        try clear c19b1
        try clear c19b2
        try clear c20
        try clear c20b0
        try clear c20b1
        try clear c20b2
        try clear hcz12_0
        try clear hcz12_1
        try clear hcz12_2
        try clear hcz12_3
        try clear hcz12_4
        try clear hcz16_0
        try clear hcz16_1
        try clear hcz16_2
        try clear hcz16_3
        try clear hcz16_4
        try clear hcz21_0
        try clear hcz21_1
        try clear hcz21_2
        try clear hcz21_3
        try clear hcz21_4
        try clear hcz8_0
        try clear hcz8_1
        try clear hcz8_2
        try clear hcz8_3
        try clear hcz8_4
        try clear hfz12_0
        try clear hfz12_1
        try clear hfz12_2
        try clear hfz12_3
        try clear hfz12_4
        try clear hfz16_0
        try clear hfz16_1
        try clear hfz16_2
        try clear hfz16_3
        try clear hfz16_4
        try clear hfz21_0
        try clear hfz21_1
        try clear hfz21_2
        try clear hfz21_3
        try clear hfz21_4
        try clear hfz8_0
        try clear hfz8_1
        try clear hfz8_2
        try clear hfz8_3
        try clear hfz8_4
        try clear hx139_0
        try clear p1
        try clear p13
        try clear p139
        try clear q13
        try clear q139
        obtain ⟨kq,x6_16,rfl,HA,HJ16,BK132,HB⟩:=hcut
        cases kq with
        |zero=>exact absurd HA.out (by simp [spec_l9Write.j1])
        |succ kj16=>
         have H:=HA.out;clear HA;simp only [spec_l9Write.j1] at H;by_cases c22:t134 = true
         · subst c22
           have H1:(if x6_16.size + 1 ≤ 9223372036854775807 then ((spec_l1Dec.f kj16 a0_3).bind fun t140=>(if x6_16.size + 1 + t140.size ≤ 9223372036854775807 then (if t135 = true then (if x6_16.size + 1 + t140.size + 1 ≤ 9223372036854775807 then (if x6_16.size + 1 + t140.size + 1 + a0_4.size ≤ 9223372036854775807 then (some ((((x6_16 ++ (⟨#[32]⟩:ByteArray)) ++ t140) ++ (⟨#[32]⟩:ByteArray)) ++ a0_4)) else (none)) else (none)) else (some ((x6_16 ++ (⟨#[32]⟩:ByteArray)) ++ t140))) else (none))) else (none)) = some r:=by rw [if_pos rfl] at H;exact H
           clear H;have H:=H1;clear H1;by_cases c23:x6_16.size + 1 ≤ 9223372036854775807
           · rw [if_pos c23] at H
             have c23b0:=eq_true c23;have c23b1:decide (x6_16.size + 1 ≤ 9223372036854775807) = true:=decide_eq_true c23
             try have c23b2:(9223372036854775807 < x6_16.size + 1) = False:=eq_false (Nat.not_lt.2 c23)
             replace H:=Option.bind_eq_some_iff.mp H;obtain ⟨t140,A240,H⟩:=H;(try dsimp only at H);have A24:=As0.mk A240;clear A240;by_cases c25:x6_16.size + 1 + t140.size ≤ 9223372036854775807
             · rw [if_pos c25] at H
               have c25b0:=eq_true c25;have c25b1:decide (x6_16.size + 1 + t140.size ≤ 9223372036854775807) = true:=decide_eq_true c25
               try have c25b2:(9223372036854775807 < x6_16.size + 1 + t140.size) = False:=eq_false (Nat.not_lt.2 c25)
               by_cases c26:t135 = true
               · subst c26
                 have H1:(if x6_16.size + 1 + t140.size + 1 ≤ 9223372036854775807 then (if x6_16.size + 1 + t140.size + 1 + a0_4.size ≤ 9223372036854775807 then (some ((((x6_16 ++ (⟨#[32]⟩:ByteArray)) ++ t140) ++ (⟨#[32]⟩:ByteArray)) ++ a0_4)) else (none)) else (none)) = some r:=by rw [if_pos rfl] at H;exact H
                 clear H;have H:=H1;clear H1;by_cases c27:x6_16.size + 1 + t140.size + 1 ≤ 9223372036854775807
                 · rw [if_pos c27] at H
                   have c27b0:=eq_true c27;have c27b1:decide (x6_16.size + 1 + t140.size + 1 ≤ 9223372036854775807) = true:=decide_eq_true c27
                   try have c27b2:(9223372036854775807 < x6_16.size + 1 + t140.size + 1) = False:=eq_false (Nat.not_lt.2 c27)
                   by_cases c28:x6_16.size + 1 + t140.size + 1 + a0_4.size ≤ 9223372036854775807
                   · rw [if_pos c28] at H
                     have c28b0:=eq_true c28;have c28b1:decide (x6_16.size + 1 + t140.size + 1 + a0_4.size ≤ 9223372036854775807) = true:=decide_eq_true c28
                     try have c28b2:(9223372036854775807 < x6_16.size + 1 + t140.size + 1 + a0_4.size) = False:=eq_false (Nat.not_lt.2 c28)
                     obtain rfl:=Option.some.inj H;obtain ⟨hcz29_0,hcz29_1,hcz29_2,hcz29_3,hcz29_4⟩:=qc5 BK132.out;obtain ⟨hfz29_0,hfz29_1,hfz29_2,hfz29_3,hfz29_4⟩:=qz5 BK132.out
                     go_wp2_with (first|(refine gL (some 38) Tryd.func42 #[.int .i64 a0_3] ?_;(with_reducible refine (spec_l1Dec.calls kj16 a0_3 t140 _ A24.out).mono ?_);rintro e w30 ⟨rfl,hb⟩;refine ⟨_,rfl,?_⟩;replace BK132:=As0.mk (bb hb BK132.out);replace HB:=As0.mk (bsp (by repeat (first|(with_reducible first|exact HB.out|apply bal|apply pbN|apply bd1|refine bst ?_ GE132.out)|exact HB.out)) hb);clear hb;obtain ⟨hcz31_0,hcz31_1,hcz31_2,hcz31_3,hcz31_4⟩:=qc5 BK132.out;obtain ⟨hfz31_0,hfz31_1,hfz31_2,hfz31_3,hfz31_4⟩:=qz5 BK132.out))
                     go_ret
                     exact ⟨eW,by repeat (first|(with_reducible first|exact HB.out|apply bal|apply pbN|apply bd1|refine bst ?_ GE132.out)|exact HB.out)⟩
                   · rw [if_neg c28] at H
                     exact absurd H (by simp)
                 · rw [if_neg c27] at H
                   exact absurd H (by simp)
               · replace c26:=Bool.eq_false_iff.mpr c26
                 subst c26;have H1:(some ((x6_16 ++ (⟨#[32]⟩:ByteArray)) ++ t140)) = some r:=by rw [if_neg (show ¬ (false = true) by decide)] at H;exact H
                 clear H;have H:=H1;clear H1;obtain rfl:=Option.some.inj H;obtain ⟨hcz32_0,hcz32_1,hcz32_2,hcz32_3,hcz32_4⟩:=qc5 BK132.out;obtain ⟨hfz32_0,hfz32_1,hfz32_2,hfz32_3,hfz32_4⟩:=qz5 BK132.out
                 go_wp2_with (first|(refine gL (some 38) Tryd.func42 #[.int .i64 a0_3] ?_;(with_reducible refine (spec_l1Dec.calls kj16 a0_3 t140 _ A24.out).mono ?_);rintro e w33 ⟨rfl,hb⟩;refine ⟨_,rfl,?_⟩;replace BK132:=As0.mk (bb hb BK132.out);replace HB:=As0.mk (bsp (by repeat (first|(with_reducible first|exact HB.out|apply bal|apply pbN|apply bd1|refine bst ?_ GE132.out)|exact HB.out)) hb);clear hb))
                 go_ret
                 exact ⟨eW,by repeat (first|(with_reducible first|exact HB.out|apply bal|apply pbN|apply bd1|refine bst ?_ GE132.out)|exact HB.out)⟩
             · rw [if_neg c25] at H
               exact absurd H (by simp)
           · rw [if_neg c23] at H
             exact absurd H (by simp)
         · replace c22:=Bool.eq_false_iff.mpr c22
           subst c22;have H1:(if t135 = true then (if x6_16.size + 1 ≤ 9223372036854775807 then (if x6_16.size + 1 + a0_4.size ≤ 9223372036854775807 then (some ((x6_16 ++ (⟨#[32]⟩:ByteArray)) ++ a0_4)) else (none)) else (none)) else (some x6_16)) = some r:=by rw [if_neg (show ¬ (false = true) by decide)] at H;exact H
           clear H;have H:=H1;clear H1;by_cases c34:t135 = true
           · subst c34
             have H1:(if x6_16.size + 1 ≤ 9223372036854775807 then (if x6_16.size + 1 + a0_4.size ≤ 9223372036854775807 then (some ((x6_16 ++ (⟨#[32]⟩:ByteArray)) ++ a0_4)) else (none)) else (none)) = some r:=by rw [if_pos rfl] at H;exact H
             clear H;have H:=H1;clear H1;by_cases c35:x6_16.size + 1 ≤ 9223372036854775807
             · rw [if_pos c35] at H
               have c35b0:=eq_true c35;have c35b1:decide (x6_16.size + 1 ≤ 9223372036854775807) = true:=decide_eq_true c35
               try have c35b2:(9223372036854775807 < x6_16.size + 1) = False:=eq_false (Nat.not_lt.2 c35)
               by_cases c36:x6_16.size + 1 + a0_4.size ≤ 9223372036854775807
               · rw [if_pos c36] at H
                 have c36b0:=eq_true c36;have c36b1:decide (x6_16.size + 1 + a0_4.size ≤ 9223372036854775807) = true:=decide_eq_true c36
                 try have c36b2:(9223372036854775807 < x6_16.size + 1 + a0_4.size) = False:=eq_false (Nat.not_lt.2 c36)
                 obtain rfl:=Option.some.inj H;obtain ⟨hcz37_0,hcz37_1,hcz37_2,hcz37_3,hcz37_4⟩:=qc5 BK132.out;obtain ⟨hfz37_0,hfz37_1,hfz37_2,hfz37_3,hfz37_4⟩:=qz5 BK132.out
                 go_wp2
                 go_ret
                 exact ⟨eW,by repeat (first|(with_reducible first|exact HB.out|apply bal|apply pbN|apply bd1|refine bst ?_ GE132.out)|exact HB.out)⟩
               · rw [if_neg c36] at H
                 exact absurd H (by simp)
             · rw [if_neg c35] at H
               exact absurd H (by simp)
           · replace c34:=Bool.eq_false_iff.mpr c34
             subst c34;have H1:(some x6_16) = some r:=by rw [if_neg (show ¬ (false = true) by decide)] at H;exact H
             clear H;have H:=H1;clear H1;obtain rfl:=Option.some.inj H
             go_wp2
             go_ret
             exact ⟨eW,by repeat (first|(with_reducible first|exact HB.out|apply bal|apply pbN|apply bd1|refine bst ?_ GE132.out)|exact HB.out)⟩
   · rw [if_neg c5] at H
     exact absurd H (by simp)
 · rw [if_neg c4] at H
   exact absurd H (by simp)
def spec_ReqWrite.f (k:Nat) (a0_0:Int) (a0_1:ByteArray) (a0_2:ByteArray) (a0_3:Int) (a0_4:ByteArray):Option (ByteArray):=(spec_ReqOk.f k a0_0 a0_1 a0_2 a0_3 a0_4).bind fun t142=>(if t142 = true then ((spec_l9Write.f k a0_0 a0_1 a0_2 a0_3 a0_4).bind fun t143=>(some t143)) else (some (⟨#[]⟩:ByteArray)))
set_option maxHeartbeats 40000000 in
set_option maxRecDepth 100000 in
theorem spec_ReqWrite.calls (k:Nat) (a0_0:Int) (a0_1:ByteArray) (a0_2:ByteArray) (a0_3:Int) (a0_4:ByteArray) (r:ByteArray) (w:World) (h:spec_ReqWrite.f k a0_0 a0_1 a0_2 a0_3 a0_4 = some r) :
 Calls Tryd.prog 10 #[.agg #[.int .i64 a0_0,.string a0_1,.string a0_2,.int .i64 a0_3,.string a0_4]] w fun e w'=>e = .returned (.string r) ∧ Below w.heap.size w w':=by
 have hu25:=Tryd.underlying25;have HB:=As0.mk (Below.refl w.heap.size w);have H:((spec_ReqOk.f k a0_0 a0_1 a0_2 a0_3 a0_4).bind fun t142=>(if t142 = true then ((spec_l9Write.f k a0_0 a0_1 a0_2 a0_3 a0_4).bind fun t143=>(some t143)) else (some (⟨#[]⟩:ByteArray)))) = some r:=h;clear h;replace H:=Option.bind_eq_some_iff.mp H;obtain ⟨t142,A20,H⟩:=H;(try dsimp only at H);have A2:=As0.mk A20;clear A20;by_cases c3:t142 = true
 · subst c3
   have H1:((spec_l9Write.f k a0_0 a0_1 a0_2 a0_3 a0_4).bind fun t143=>(some t143)) = some r:=by rw [if_pos rfl] at H;exact H
   clear H;have H:=H1;clear H1;replace H:=Option.bind_eq_some_iff.mp H;obtain ⟨t143,A40,H⟩:=H;(try dsimp only at H);have A4:=As0.mk A40;clear A40;obtain rfl:=Option.some.inj H
   go_enter Tryd.func10,Tryd.ntmps10
   go_wp2_with (first|((with_reducible refine gate_dst (N:=1) rfl ?_);refine bE 1 #[.int .i64 a0_0,.string a0_1,.string a0_2,.int .i64 a0_3,.string a0_4] 25 ?_;intro gb141 hg w5 hbox hb;have BK141:=As0.mk (hbox);have GW141:=As0.mk ((by rw [hg];exact (bsz (by repeat (first|(with_reducible first|exact HB.out|apply bal|apply pbN|apply bd1)|exact HB.out))):w.heap.size ≤ gb141));have GE141:=GW141;replace HB:=As0.mk (b3 HB.out hb);clear hb hbox hg;obtain ⟨hcz6_0,hcz6_1,hcz6_2,hcz6_3,hcz6_4⟩:=qc5 BK141.out;obtain ⟨hfz6_0,hfz6_1,hfz6_2,hfz6_3,hfz6_4⟩:=qz5 BK141.out)|(refine gL (some 4) Tryd.func12 #[.agg #[.int .i64 a0_0,.string a0_1,.string a0_2,.int .i64 a0_3,.string a0_4]] ?_;(with_reducible refine (spec_ReqOk.calls k a0_0 a0_1 a0_2 a0_3 a0_4 true _ A2.out).mono ?_);rintro e w7 ⟨rfl,hb⟩;refine ⟨_,rfl,?_⟩;replace BK141:=As0.mk (bb hb BK141.out);replace HB:=As0.mk (bsp (by repeat (first|(with_reducible first|exact HB.out|apply bal|apply pbN|apply bd1|refine bst ?_ GE141.out)|exact HB.out)) hb);clear hb;obtain ⟨hcz8_0,hcz8_1,hcz8_2,hcz8_3,hcz8_4⟩:=qc5 BK141.out;obtain ⟨hfz8_0,hfz8_1,hfz8_2,hfz8_3,hfz8_4⟩:=qz5 BK141.out)|(refine gL (some 7) Tryd.func28 #[.agg #[.int .i64 a0_0,.string a0_1,.string a0_2,.int .i64 a0_3,.string a0_4]] ?_;(with_reducible refine (spec_l9Write.calls k a0_0 a0_1 a0_2 a0_3 a0_4 t143 _ A4.out).mono ?_);rintro e w9 ⟨rfl,hb⟩;refine ⟨_,rfl,?_⟩;replace BK141:=As0.mk (bb hb BK141.out);replace HB:=As0.mk (bsp (by repeat (first|(with_reducible first|exact HB.out|apply bal|apply pbN|apply bd1|refine bst ?_ GE141.out)|exact HB.out)) hb);clear hb))
   go_ret
   exact ⟨eW,by repeat (first|(with_reducible first|exact HB.out|apply bal|apply pbN|apply bd1|refine bst ?_ GE141.out)|exact HB.out)⟩
 · replace c3:=Bool.eq_false_iff.mpr c3
   subst c3;have H1:(some (⟨#[]⟩:ByteArray)) = some r:=by rw [if_neg (show ¬ (false = true) by decide)] at H;exact H
   clear H;have H:=H1;clear H1;obtain rfl:=Option.some.inj H
   go_enter Tryd.func10,Tryd.ntmps10
   go_wp2_with (first|((with_reducible refine gate_dst (N:=1) rfl ?_);refine bE 1 #[.int .i64 a0_0,.string a0_1,.string a0_2,.int .i64 a0_3,.string a0_4] 25 ?_;intro gb141 hg w10 hbox hb;have BK141:=As0.mk (hbox);have GW141:=As0.mk ((by rw [hg];exact (bsz (by repeat (first|(with_reducible first|exact HB.out|apply bal|apply pbN|apply bd1)|exact HB.out))):w.heap.size ≤ gb141));have GE141:=GW141;replace HB:=As0.mk (b3 HB.out hb);clear hb hbox hg;obtain ⟨hcz11_0,hcz11_1,hcz11_2,hcz11_3,hcz11_4⟩:=qc5 BK141.out;obtain ⟨hfz11_0,hfz11_1,hfz11_2,hfz11_3,hfz11_4⟩:=qz5 BK141.out)|(refine gL (some 4) Tryd.func12 #[.agg #[.int .i64 a0_0,.string a0_1,.string a0_2,.int .i64 a0_3,.string a0_4]] ?_;(with_reducible refine (spec_ReqOk.calls k a0_0 a0_1 a0_2 a0_3 a0_4 false _ A2.out).mono ?_);rintro e w12 ⟨rfl,hb⟩;refine ⟨_,rfl,?_⟩;replace BK141:=As0.mk (bb hb BK141.out);replace HB:=As0.mk (bsp (by repeat (first|(with_reducible first|exact HB.out|apply bal|apply pbN|apply bd1|refine bst ?_ GE141.out)|exact HB.out)) hb);clear hb))
   go_ret
   exact ⟨eW,by repeat (first|(with_reducible first|exact HB.out|apply bal|apply pbN|apply bd1|refine bst ?_ GE141.out)|exact HB.out)⟩
end Go.Proofs.YtbhnjglfjhfljaaDoor.P
