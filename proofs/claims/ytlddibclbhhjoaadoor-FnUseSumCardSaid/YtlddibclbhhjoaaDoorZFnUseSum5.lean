/- Functions of the law FnUseSum as_ plain Lean functions, and that the machine's calls do what they say. -/
import Derived.Test.YtlddibclbhhjoaaDoorZFnUseSum0
import Derived.Test.YtlddibclbhhjoaaDoorZFnUseSum4
import Derived.Test.YtlddibclbhhjoaaDoorZFnUseSum1
namespace Go.Proofs.YtlddibclbhhjoaaDoor.P
open Go.RowKit Go.Proofs.YtlddibclbhhjoaaDoorW.PrintWords Go.Proofs.YtlddibclbhhjoaaDoorW.PrintLast Go.Proofs.YtlddibclbhhjoaaDoorW.PrintMore
attribute [local go_sem] max2_int min2_int max_two min_two max_three min_three max_four min_four
set_option linter.unusedVariables false
set_option linter.unusedSimpArgs false
def impl_isBetween.l0:Nat → ByteArray → Int → Int → Int → Int → Option (Bool)
 |0,_,_,_,_,_=>none
 |k + 1,x0,x1,x2,x9,x10=>if x10 < x9 then (if 0 ≤ x10 then (if x10 < (x0.size:Int) then (if (bt x0 x10) < x1 then (some false) else (if (bt x0 x10) > x2 then (some false) else (impl_isBetween.l0 k x0 x1 x2 x9 (wrap64 (x10 + 1))))) else (none)) else (none)) else (some true)
def impl_isBetween.f (k:Nat) (a0:ByteArray) (a1:Int) (a2:Int):Option (Bool):=impl_isBetween.l0 k a0 a1 a2 (a0.size:Int) 0
set_option maxHeartbeats 40000000 in
set_option maxRecDepth 100000 in
theorem impl_isBetween.calls (k:Nat) (a0:ByteArray) (a1:Int) (a2:Int) (r:Bool) (w:World) (h:impl_isBetween.f k a0 a1 a2 = some r) :
 Calls Tryd.prog 49 #[.string a0,.int .u8 a1,.int .u8 a2] w fun e w'=>e = .returned (.bool r) ∧ Drawn0 w w':=by
 have H:(impl_isBetween.l0 k a0 a1 a2 (a0.size:Int) 0) = some r:=h;clear h;have H':=As0.mk H;clear H
 go_enter Tryd.func49,Tryd.ntmps49
 go_wp2
 show _;go_loopg [10] k (fun kq v10 w'=>∃ (x10_1:Int),v10 = .int .i64 x10_1 ∧ As0 (impl_isBetween.l0 kq a0 a1 a2 (a0.size:Int) x10_1 = some r) ∧ As0 (kq ≤ k) ∧ Drawn0 w w')
 case atStart=>exact ⟨(0),(by first|rfl|(simp;done)|(simp [*];done)),H',⟨Nat.le_refl _⟩,by repeat (first|exact Drawn0.refl _|apply Drawn0.step)⟩
 case round=>
  clear H'
  try clear p2
  obtain ⟨x10_1,rfl,HA,HK1,⟨m1,rfl⟩⟩:=hrel
  cases gk with
  |zero=>exact absurd HA.out (by simp [impl_isBetween.l0])
  |succ k1=>
   have H:=HA.out;clear HA;simp only [impl_isBetween.l0] at H;by_cases c4:x10_1 < (a0.size:Int)
   · rw [if_pos c4] at H
     have c4b0:decide (x10_1 < (a0.size:Int)) = true:=decide_eq_true c4;clear c4;by_cases c5:0 ≤ x10_1
     · rw [if_pos c5] at H
       have c5b0:decide (0 ≤ x10_1) = true:=decide_eq_true c5;clear c5;by_cases c6:x10_1 < (a0.size:Int)
       · rw [if_pos c6] at H
         have c6b0:decide (x10_1 < (a0.size:Int)) = true:=decide_eq_true c6;clear c6;by_cases c8:(bt a0 x10_1) < a1
         · rw [if_pos c8] at H
           have c8b0:decide ((bt a0 x10_1) < a1) = true:=decide_eq_true c8;clear c8;obtain rfl:=Option.some.inj H;have p7:0 ≤ (x10_1:Int):=odt;have q7:x10_1 < (a0.size:Int):=odt;have hx7:=bt_at a0 x10_1;replace p7:=eq_true p7;replace q7:=eq_true q7
           go_wp2
           go_ret
           exact ⟨by first|rfl|(simp;done)|(simp [*];done),by repeat (first|exact Drawn0.refl _|apply Drawn0.step)⟩
         · rw [if_neg c8] at H
           have c8b0:decide ((bt a0 x10_1) < a1) = false:=decide_eq_false c8;clear c8;by_cases c10:(bt a0 x10_1) > a2
           · rw [if_pos c10] at H
             have c10b0:decide (a2 < (bt a0 x10_1)) = true:=decide_eq_true c10;clear c10;obtain rfl:=Option.some.inj H;have p7:0 ≤ (x10_1:Int):=odt;have q7:x10_1 < (a0.size:Int):=odt;have hx7:=bt_at a0 x10_1;replace p7:=eq_true p7;replace q7:=eq_true q7;have p9:0 ≤ (x10_1:Int):=odt;have q9:x10_1 < (a0.size:Int):=odt;have hx9:=bt_at a0 x10_1;replace p9:=eq_true p9;replace q9:=eq_true q9
             go_wp2
             go_ret
             exact ⟨by first|rfl|(simp;done)|(simp [*];done),by repeat (first|exact Drawn0.refl _|apply Drawn0.step)⟩
           · rw [if_neg c10] at H
             have c10b0:decide (a2 < (bt a0 x10_1)) = false:=decide_eq_false c10;clear c10;have H':=As0.mk H;clear H;have p7:0 ≤ (x10_1:Int):=odt;have q7:x10_1 < (a0.size:Int):=odt;have hx7:=bt_at a0 x10_1;replace p7:=eq_true p7;replace q7:=eq_true q7;have p9:0 ≤ (x10_1:Int):=odt;have q9:x10_1 < (a0.size:Int):=odt;have hx9:=bt_at a0 x10_1;replace p9:=eq_true p9;replace q9:=eq_true q9
             go_wp2
             show _;go_roundg k1
             case measure=>have:=HK1.out;omega
             case rel=>exact ⟨(wrap64 (x10_1 + 1)),(by first|rfl|(simp;done)|(simp [*];done)),H',⟨by have:=HK1.out;omega⟩,by repeat (first|exact Drawn0.refl _|apply Drawn0.step)⟩
       · rw [if_neg c6] at H
         exact absurd H (by simp)
     · rw [if_neg c5] at H
       exact absurd H (by simp)
   · rw [if_neg c4] at H
     have c4b0:decide (x10_1 < (a0.size:Int)) = false:=decide_eq_false c4;clear c4;obtain rfl:=Option.some.inj H
     go_wp2
     go_ret
     exact ⟨by first|rfl|(simp;done)|(simp [*];done),by repeat (first|exact Drawn0.refl _|apply Drawn0.step)⟩
def impl_isBody.f (k:Nat) (a0:ByteArray):Option (Bool):=if (a0.size:Int) ≤ 40 then ((impl_isBetween.f k a0 32 126).bind fun t453=>(some t453)) else (some false)
set_option maxHeartbeats 40000000 in
set_option maxRecDepth 100000 in
theorem impl_isBody.calls (k:Nat) (a0:ByteArray) (r:Bool) (w:World) (h:impl_isBody.f k a0 = some r) :
 Calls Tryd.prog 38 #[.string a0] w fun e w'=>e = .returned (.bool r) ∧ Drawn0 w w':=by
 have H:(if (a0.size:Int) ≤ 40 then ((impl_isBetween.f k a0 32 126).bind fun t453=>(some t453)) else (some false)) = some r:=h;clear h;by_cases c2:(a0.size:Int) ≤ 40
 · rw [if_pos c2] at H
   have c2b0:decide ((a0.size:Int) ≤ 40) = true:=decide_eq_true c2;have c2b1:decide (a0.size ≤ 40) = true:=decide_eq_true (by omega);clear c2;replace H:=Option.bind_eq_some_iff.mp H;obtain ⟨t453,A30,H⟩:=H;(try dsimp only at H);have A3:=As0.mk A30;clear A30;obtain rfl:=Option.some.inj H
   go_enter Tryd.func38,Tryd.ntmps38
   go_wp2_with (first|(go_at_call 49;(with_reducible refine (impl_isBetween.calls k a0 32 126 t453 _ A3.out).mono ?_);rintro e w' ⟨rfl,⟨nd,rfl⟩⟩))
   go_ret
   exact ⟨by first|rfl|(simp;done)|(simp [*];done),by repeat (first|exact Drawn0.refl _|apply Drawn0.step)⟩
 · rw [if_neg c2] at H
   have c2b0:decide ((a0.size:Int) ≤ 40) = false:=decide_eq_false c2;have c2b1:decide (a0.size ≤ 40) = false:=decide_eq_false (by omega);clear c2;obtain rfl:=Option.some.inj H
   go_enter Tryd.func38,Tryd.ntmps38
   go_wp2
   go_ret
   exact ⟨by first|rfl|(simp;done)|(simp [*];done),by repeat (first|exact Drawn0.refl _|apply Drawn0.step)⟩
def impl_isThing.l0:Nat → List ByteArray → Int → Int → ByteArray → ByteArray → Int → Int → Bool → List ByteArray → ByteArray → Option (Bool)
 |0,_,_,_,_,_,_,_,_,_,_=>none
 |k + 1,x6,x7,x8,x455000,x455001,x455002,x455003,x455004,x455005,x455006=>if x8 < x7 then (if 0 ≤ x8 then (if x8 < (x6.length:Int) then ((impl_isName.f (rdOf ByteArray.empty x6 x8)).bind fun t456=>(if t456 = true then (if x8 > 0 then (if 0 ≤ (wrap64 (x8 - 1)) then (if (wrap64 (x8 - 1)) < (x455005.length:Int) then (if ((Op.bytesLess ((rdOf ByteArray.empty x455005 (wrap64 (x8 - 1))).toList) ((rdOf ByteArray.empty x6 x8).toList)) = true) then (impl_isThing.l0 k x6 x7 (wrap64 (x8 + 1)) x455000 x455001 x455002 x455003 x455004 x455005 x455006) else (some false)) else (none)) else (none)) else (impl_isThing.l0 k x6 x7 (wrap64 (x8 + 1)) x455000 x455001 x455002 x455003 x455004 x455005 x455006)) else (some false))) else (none)) else (none)) else ((impl_isName.f x455000).bind fun t458=>(if t458 = true then ((impl_isName.f x455001).bind fun t459=>(if t459 = true then (if (x455005.length:Int) > 2 then (some false) else (if x455004 = true then (if (x455005.length:Int) = 0 then (some false) else (if x455002 ≥ 1 then (if x455002 ≤ 99999 then (if x455003 ≥ 1 then (if x455003 ≤ 99999 then ((impl_isBody.f k x455006).bind fun t460=>(some t460)) else (some false)) else (some false)) else (some false)) else (some false))) else (if x455002 ≥ 1 then (if x455002 ≤ 99999 then (if x455003 ≥ 1 then (if x455003 ≤ 99999 then ((impl_isBody.f k x455006).bind fun t461=>(some t461)) else (some false)) else (some false)) else (some false)) else (some false)))) else (some false))) else (some false)))
def impl_isThing.f (k:Nat) (a0_0:ByteArray) (a0_1:ByteArray) (a0_2:Int) (a0_3:Int) (a0_4:Bool) (l0_5:List ByteArray) (a0_6:ByteArray):Option (Bool):=impl_isThing.l0 k l0_5 (l0_5.length:Int) 0 a0_0 a0_1 a0_2 a0_3 a0_4 l0_5 a0_6
set_option maxHeartbeats 40000000 in
set_option maxRecDepth 100000 in
theorem impl_isThing.calls (k:Nat) (a0_0:ByteArray) (a0_1:ByteArray) (a0_2:Int) (a0_3:Int) (a0_4:Bool) (A0_5:Option Addr) (c0_5:Nat) (l0_5:List ByteArray) (a0_6:ByteArray) (r:Bool) (w:World) (hr0_5:Kd.C Kd.string w A0_5 l0_5.length l0_5) (hc0_5:l0_5.length ≤ c0_5) (h:impl_isThing.f k a0_0 a0_1 a0_2 a0_3 a0_4 l0_5 a0_6 = some r) :
 Calls Tryd.prog 20 #[.agg #[.string a0_0,.string a0_1,.int .i64 a0_2,.int .i64 a0_3,.bool a0_4,.slice A0_5 l0_5.length c0_5,.string a0_6]] w fun e w'=>e = .returned (.bool r) ∧ Below w.heap.size w w':=by
 have hu34:=Tryd.underlying34;have HR0_5:=As0.mk hr0_5;have HC0_5:=As0.mk hc0_5;clear hr0_5 hc0_5;have HB:=As0.mk (Below.refl w.heap.size w);have H:(impl_isThing.l0 k l0_5 (l0_5.length:Int) 0 a0_0 a0_1 a0_2 a0_3 a0_4 l0_5 a0_6) = some r:=h;clear h;have H':=As0.mk H;clear H
 go_enter Tryd.func20,Tryd.ntmps20
 go_wp2_with (first|((with_reducible refine gate_dst (N:=1) rfl ?_);(try (refine gate_guard (by rfl) ?_;dsimp only));refine bE 1 #[.string a0_0,.string a0_1,.int .i64 a0_2,.int .i64 a0_3,.bool a0_4,.slice A0_5 l0_5.length c0_5,.string a0_6] 34 ?_;intro gb454 hg w2 hbox hb;have BK454:=As0.mk (hbox);have GW454:=As0.mk ((by rw [hg];exact (bsz HB.out):w.heap.size ≤ gb454));have GE454:=GW454;replace HB:=As0.mk (bsp HB.out hb);clear hb hbox hg;obtain ⟨hcz3_0,hcz3_1,hcz3_2,hcz3_3,hcz3_4,hcz3_5,hcz3_6⟩:=qc7 BK454.out;obtain ⟨hfz3_0,hfz3_1,hfz3_2,hfz3_3,hfz3_4,hfz3_5,hfz3_6⟩:=qz7 BK454.out))
 show _;go_loopg [8] k (fun kq v8 w'=>∃ (x8_1:Int),v8 = .int .i64 x8_1 ∧ As0 (impl_isThing.l0 kq l0_5 (l0_5.length:Int) x8_1 a0_0 a0_1 a0_2 a0_3 a0_4 l0_5 a0_6 = some r) ∧ As0 (kq ≤ k) ∧ As0 (w'.heap[gb454]? = some (.cells #[.string a0_0,.string a0_1,.int .i64 a0_2,.int .i64 a0_3,.bool a0_4,(.slice A0_5 l0_5.length c0_5),.string a0_6] 34 (0,0))) ∧ As0 (Below w.heap.size w w'))
 case atStart=>exact ⟨(0),(by first|rfl|(simp;done)|(simp [*];done)),H',⟨Nat.le_refl _⟩,⟨by exact BK454.out⟩,⟨HB.out⟩⟩
 case round=>
  clear H'
  try clear c2
  try clear p2
  try clear hcz3_0
  try clear hcz3_1
  try clear hcz3_2
  try clear hcz3_3
  try clear hcz3_4
  try clear hcz3_5
  try clear hcz3_6
  try clear hfz3_0
  try clear hfz3_1
  try clear hfz3_2
  try clear hfz3_3
  try clear hfz3_4
  try clear hfz3_5
  try clear hfz3_6
  obtain ⟨x8_1,rfl,HA,HK1,BK454,HB⟩:=hrel
  cases gk with
  |zero=>exact absurd HA.out (by simp [impl_isThing.l0])
  |succ k1=>
   have H:=HA.out;clear HA;simp only [impl_isThing.l0] at H;by_cases c4:x8_1 < (l0_5.length:Int)
   · rw [if_pos c4] at H
     have c4b0:decide (x8_1 < (l0_5.length:Int)) = true:=decide_eq_true c4;clear c4;by_cases c5:0 ≤ x8_1
     · rw [if_pos c5] at H
       have c5b0:decide (0 ≤ x8_1) = true:=decide_eq_true c5;clear c5;by_cases c6:x8_1 < (l0_5.length:Int)
       · rw [if_pos c6] at H
         have c6b0:decide (x8_1 < (l0_5.length:Int)) = true:=decide_eq_true c6;clear c6;replace H:=Option.bind_eq_some_iff.mp H;obtain ⟨t456,A70,H⟩:=H;(try dsimp only at H);have A7:=As0.mk A70;clear A70;by_cases c8:t456 = true
         · subst c8
           have H1:(if x8_1 > 0 then (if 0 ≤ (wrap64 (x8_1 - 1)) then (if (wrap64 (x8_1 - 1)) < (l0_5.length:Int) then (if ((Op.bytesLess ((rdOf ByteArray.empty l0_5 (wrap64 (x8_1 - 1))).toList) ((rdOf ByteArray.empty l0_5 x8_1).toList)) = true) then (impl_isThing.l0 k1 l0_5 (l0_5.length:Int) (wrap64 (x8_1 + 1)) a0_0 a0_1 a0_2 a0_3 a0_4 l0_5 a0_6) else (some false)) else (none)) else (none)) else (impl_isThing.l0 k1 l0_5 (l0_5.length:Int) (wrap64 (x8_1 + 1)) a0_0 a0_1 a0_2 a0_3 a0_4 l0_5 a0_6)) = some r:=by rw [if_pos rfl] at H;exact H
           clear H;have H:=H1;clear H1;by_cases c9:x8_1 > 0
           · rw [if_pos c9] at H
             have c9b0:decide (0 < x8_1) = true:=decide_eq_true c9;clear c9;obtain ⟨ji10,hji10⟩:∃ j_:Int,(wrap64 (x8_1 - 1)) = j_:=⟨_,rfl⟩;replace H:(if 0 ≤ (ji10) then (if (ji10) < (l0_5.length:Int) then (if ((Op.bytesLess ((rdOf ByteArray.empty l0_5 (ji10)).toList) ((rdOf ByteArray.empty l0_5 x8_1).toList)) = true) then (impl_isThing.l0 k1 l0_5 (l0_5.length:Int) (wrap64 (x8_1 + 1)) a0_0 a0_1 a0_2 a0_3 a0_4 l0_5 a0_6) else (some false)) else (none)) else (none)) = some r:=by first|(rw [hji10] at H;exact H)|(simp only [hji10] at H ⊢;exact H)
             (try rw [hji10] at A7)
             have hji10w:(IntKind.i64.wrap (x8_1 - 1)) = ji10:=(i64_w _).trans hji10;by_cases c11:0 ≤ (ji10)
             · rw [if_pos c11] at H
               have c11b0:decide (0 ≤ (ji10)) = true:=decide_eq_true c11;clear c11;by_cases c12:(ji10) < (l0_5.length:Int)
               · rw [if_pos c12] at H
                 have c12b0:decide ((ji10) < (l0_5.length:Int)) = true:=decide_eq_true c12;clear c12;by_cases c13:((Op.bytesLess ((rdOf ByteArray.empty l0_5 (ji10)).toList) ((rdOf ByteArray.empty l0_5 x8_1).toList)) = true)
                 · rw [if_pos c13] at H
                   have c13b0:(Op.bytesLess ((rdOf ByteArray.empty l0_5 (ji10)).toList) ((rdOf ByteArray.empty l0_5 x8_1).toList)) = true:=c13;clear c13;have H':=As0.mk H;clear H;have p455:0 ≤ (x8_1:Int):=odt;have q455:x8_1 < (l0_5.length:Int):=odt;obtain ⟨ad455,e455,hx455_0⟩:=Kd.at_string HR0_5.out x8_1 p455 q455
                   cases e455
                   replace hx455_0:=bx HB.out rfl hx455_0;replace p455:=eq_true p455;replace q455:=eq_true q455
                   go_wp2_with (first|((with_reducible refine gca (f:=37) rfl ?_);refine gL (some 14) Tryd.func37 #[.string (rdOf ByteArray.empty l0_5 x8_1)] ?_;(with_reducible refine (impl_isName.calls (rdOf ByteArray.empty l0_5 x8_1) true _ A7.out).mono ?_);rintro e w14 ⟨rfl,hb⟩;refine ⟨_,rfl,?_⟩;replace BK454:=As0.mk (bb hb BK454.out);replace HB:=As0.mk (bsp HB.out hb);clear hb;obtain ⟨hcz15_0,hcz15_1,hcz15_2,hcz15_3,hcz15_4,hcz15_5,hcz15_6⟩:=qc7 BK454.out;obtain ⟨hfz15_0,hfz15_1,hfz15_2,hfz15_3,hfz15_4,hfz15_5,hfz15_6⟩:=qz7 BK454.out;have p457:0 ≤ ((ji10):Int):=odt;have q457:(ji10) < (l0_5.length:Int):=odt;obtain ⟨ad457,e457,hx457_0⟩:=Kd.at_string HR0_5.out (ji10) p457 q457;obtain rfl:ad455 = ad457:=(by injection e457);replace hx457_0:=bx HB.out rfl hx457_0;replace p457:=eq_true p457;replace q457:=eq_true q457))
                   show _;go_roundg k1
                   case measure=>have:=HK1.out;omega
                   case rel=>exact ⟨(wrap64 (x8_1 + 1)),(by first|rfl|(simp;done)|(simp [*];done)),H',⟨by have:=HK1.out;omega⟩,⟨by exact BK454.out⟩,⟨HB.out⟩⟩
                 · rw [if_neg c13] at H
                   have c13b0:(Op.bytesLess ((rdOf ByteArray.empty l0_5 (ji10)).toList) ((rdOf ByteArray.empty l0_5 x8_1).toList)) = false:=by simpa using c13
                   clear c13;obtain rfl:=Option.some.inj H;have p455:0 ≤ (x8_1:Int):=odt;have q455:x8_1 < (l0_5.length:Int):=odt;obtain ⟨ad455,e455,hx455_0⟩:=Kd.at_string HR0_5.out x8_1 p455 q455
                   cases e455
                   replace hx455_0:=bx HB.out rfl hx455_0;replace p455:=eq_true p455;replace q455:=eq_true q455
                   go_wp2_with (first|((with_reducible refine gca (f:=37) rfl ?_);refine gL (some 14) Tryd.func37 #[.string (rdOf ByteArray.empty l0_5 x8_1)] ?_;(with_reducible refine (impl_isName.calls (rdOf ByteArray.empty l0_5 x8_1) true _ A7.out).mono ?_);rintro e w16 ⟨rfl,hb⟩;refine ⟨_,rfl,?_⟩;replace BK454:=As0.mk (bb hb BK454.out);replace HB:=As0.mk (bsp HB.out hb);clear hb;obtain ⟨hcz17_0,hcz17_1,hcz17_2,hcz17_3,hcz17_4,hcz17_5,hcz17_6⟩:=qc7 BK454.out;obtain ⟨hfz17_0,hfz17_1,hfz17_2,hfz17_3,hfz17_4,hfz17_5,hfz17_6⟩:=qz7 BK454.out;have p457:0 ≤ ((ji10):Int):=odt;have q457:(ji10) < (l0_5.length:Int):=odt;obtain ⟨ad457,e457,hx457_0⟩:=Kd.at_string HR0_5.out (ji10) p457 q457;obtain rfl:ad455 = ad457:=(by injection e457);replace hx457_0:=bx HB.out rfl hx457_0;replace p457:=eq_true p457;replace q457:=eq_true q457))
                   go_ret
                   exact ⟨by first|rfl|(simp [errW_none,errW_some] <;> rfl)|(simp only [← hji10];first|rfl|(simp [errW_none,errW_some] <;> rfl))|(simp [*,errW_none,errW_some] <;> rfl),HB.out⟩
               · rw [if_neg c12] at H
                 exact absurd H (by simp)
             · rw [if_neg c11] at H
               exact absurd H (by simp)
           · rw [if_neg c9] at H
             have c9b0:decide (0 < x8_1) = false:=decide_eq_false c9;clear c9;have H':=As0.mk H;clear H;have p455:0 ≤ (x8_1:Int):=odt;have q455:x8_1 < (l0_5.length:Int):=odt;obtain ⟨ad455,e455,hx455_0⟩:=Kd.at_string HR0_5.out x8_1 p455 q455
             cases e455
             replace hx455_0:=bx HB.out rfl hx455_0;replace p455:=eq_true p455;replace q455:=eq_true q455
             go_wp2_with (first|((with_reducible refine gca (f:=37) rfl ?_);refine gL (some 14) Tryd.func37 #[.string (rdOf ByteArray.empty l0_5 x8_1)] ?_;(with_reducible refine (impl_isName.calls (rdOf ByteArray.empty l0_5 x8_1) true _ A7.out).mono ?_);rintro e w18 ⟨rfl,hb⟩;refine ⟨_,rfl,?_⟩;replace BK454:=As0.mk (bb hb BK454.out);replace HB:=As0.mk (bsp HB.out hb);clear hb))
             show _;go_roundg k1
             case measure=>have:=HK1.out;omega
             case rel=>exact ⟨(wrap64 (x8_1 + 1)),(by first|rfl|(simp;done)|(simp [*];done)),H',⟨by have:=HK1.out;omega⟩,⟨by exact BK454.out⟩,⟨HB.out⟩⟩
         · replace c8:=Bool.eq_false_iff.mpr c8
           subst c8;have H1:(some false) = some r:=by rw [if_neg (show ¬ (false = true) by decide)] at H;exact H
           clear H;have H:=H1;clear H1;obtain rfl:=Option.some.inj H;have p455:0 ≤ (x8_1:Int):=odt;have q455:x8_1 < (l0_5.length:Int):=odt;obtain ⟨ad455,e455,hx455_0⟩:=Kd.at_string HR0_5.out x8_1 p455 q455
           cases e455
           replace hx455_0:=bx HB.out rfl hx455_0;replace p455:=eq_true p455;replace q455:=eq_true q455
           go_wp2_with (first|((with_reducible refine gca (f:=37) rfl ?_);refine gL (some 14) Tryd.func37 #[.string (rdOf ByteArray.empty l0_5 x8_1)] ?_;(with_reducible refine (impl_isName.calls (rdOf ByteArray.empty l0_5 x8_1) false _ A7.out).mono ?_);rintro e w19 ⟨rfl,hb⟩;refine ⟨_,rfl,?_⟩;replace BK454:=As0.mk (bb hb BK454.out);replace HB:=As0.mk (bsp HB.out hb);clear hb))
           go_ret
           exact ⟨eW,HB.out⟩
       · rw [if_neg c6] at H
         exact absurd H (by simp)
     · rw [if_neg c5] at H
       exact absurd H (by simp)
   · rw [if_neg c4] at H
     have c4b0:decide (x8_1 < (l0_5.length:Int)) = false:=decide_eq_false c4;clear c4;replace H:=Option.bind_eq_some_iff.mp H;obtain ⟨t458,A200,H⟩:=H;(try dsimp only at H);have A20:=As0.mk A200;clear A200;by_cases c21:t458 = true
     · subst c21
       have H1:((impl_isName.f a0_1).bind fun t459=>(if t459 = true then (if (l0_5.length:Int) > 2 then (some false) else (if a0_4 = true then (if (l0_5.length:Int) = 0 then (some false) else (if a0_2 ≥ 1 then (if a0_2 ≤ 99999 then (if a0_3 ≥ 1 then (if a0_3 ≤ 99999 then ((impl_isBody.f k1 a0_6).bind fun t460=>(some t460)) else (some false)) else (some false)) else (some false)) else (some false))) else (if a0_2 ≥ 1 then (if a0_2 ≤ 99999 then (if a0_3 ≥ 1 then (if a0_3 ≤ 99999 then ((impl_isBody.f k1 a0_6).bind fun t461=>(some t461)) else (some false)) else (some false)) else (some false)) else (some false)))) else (some false))) = some r:=by rw [if_pos rfl] at H;exact H
       clear H;have H:=H1;clear H1;replace H:=Option.bind_eq_some_iff.mp H;obtain ⟨t459,A220,H⟩:=H;(try dsimp only at H);have A22:=As0.mk A220;clear A220;by_cases c23:t459 = true
       · subst c23
         have H1:(if (l0_5.length:Int) > 2 then (some false) else (if a0_4 = true then (if (l0_5.length:Int) = 0 then (some false) else (if a0_2 ≥ 1 then (if a0_2 ≤ 99999 then (if a0_3 ≥ 1 then (if a0_3 ≤ 99999 then ((impl_isBody.f k1 a0_6).bind fun t460=>(some t460)) else (some false)) else (some false)) else (some false)) else (some false))) else (if a0_2 ≥ 1 then (if a0_2 ≤ 99999 then (if a0_3 ≥ 1 then (if a0_3 ≤ 99999 then ((impl_isBody.f k1 a0_6).bind fun t461=>(some t461)) else (some false)) else (some false)) else (some false)) else (some false)))) = some r:=by rw [if_pos rfl] at H;exact H
         clear H;have H:=H1;clear H1;by_cases c24:(l0_5.length:Int) > 2
         · rw [if_pos c24] at H
           have c24b0:decide (2 < (l0_5.length:Int)) = true:=decide_eq_true c24;have c24b1:decide (2 < l0_5.length) = true:=decide_eq_true (by omega);clear c24;obtain rfl:=Option.some.inj H;obtain ⟨hcz25_0,hcz25_1,hcz25_2,hcz25_3,hcz25_4,hcz25_5,hcz25_6⟩:=qc7 BK454.out;obtain ⟨hfz25_0,hfz25_1,hfz25_2,hfz25_3,hfz25_4,hfz25_5,hfz25_6⟩:=qz7 BK454.out
           go_wp2_with (first|((with_reducible refine gca (f:=37) rfl ?_);refine gL (some 33) Tryd.func37 #[.string a0_0] ?_;(with_reducible refine (impl_isName.calls a0_0 true _ A20.out).mono ?_);rintro e w26 ⟨rfl,hb⟩;refine ⟨_,rfl,?_⟩;replace BK454:=As0.mk (bb hb BK454.out);replace HB:=As0.mk (bsp HB.out hb);clear hb;obtain ⟨hcz27_0,hcz27_1,hcz27_2,hcz27_3,hcz27_4,hcz27_5,hcz27_6⟩:=qc7 BK454.out;obtain ⟨hfz27_0,hfz27_1,hfz27_2,hfz27_3,hfz27_4,hfz27_5,hfz27_6⟩:=qz7 BK454.out)|(go_at_call 37;(with_reducible refine (impl_isName.calls a0_1 true _ A22.out).mono ?_);rintro e w28 ⟨rfl,hb⟩;replace BK454:=As0.mk (bb hb BK454.out);replace HB:=As0.mk (bsp HB.out hb);clear hb;obtain ⟨hcz29_0,hcz29_1,hcz29_2,hcz29_3,hcz29_4,hcz29_5,hcz29_6⟩:=qc7 BK454.out;obtain ⟨hfz29_0,hfz29_1,hfz29_2,hfz29_3,hfz29_4,hfz29_5,hfz29_6⟩:=qz7 BK454.out))
           go_ret
           exact ⟨eW,HB.out⟩
         · rw [if_neg c24] at H
           have c24b0:decide (2 < (l0_5.length:Int)) = false:=decide_eq_false c24;have c24b1:decide (2 < l0_5.length) = false:=decide_eq_false (by omega);clear c24;by_cases c30:a0_4 = true
           · subst c30
             have H1:(if (l0_5.length:Int) = 0 then (some false) else (if a0_2 ≥ 1 then (if a0_2 ≤ 99999 then (if a0_3 ≥ 1 then (if a0_3 ≤ 99999 then ((impl_isBody.f k1 a0_6).bind fun t460=>(some t460)) else (some false)) else (some false)) else (some false)) else (some false))) = some r:=by rw [if_pos rfl] at H;exact H
             clear H;have H:=H1;clear H1;by_cases c31:(l0_5.length:Int) = 0
             · rw [if_pos c31] at H
               have c31b0:((l0_5.length:Int) == 0) = true:=beq_iff_eq.mpr c31;have c31b1:((l0_5.length:Int) != 0) = false:=bne_eq_false_iff_eq.mpr c31;clear c31;obtain rfl:=Option.some.inj H;obtain ⟨hcz32_0,hcz32_1,hcz32_2,hcz32_3,hcz32_4,hcz32_5,hcz32_6⟩:=qc7 BK454.out;obtain ⟨hfz32_0,hfz32_1,hfz32_2,hfz32_3,hfz32_4,hfz32_5,hfz32_6⟩:=qz7 BK454.out
               go_wp2_with (first|((with_reducible refine gca (f:=37) rfl ?_);refine gL (some 33) Tryd.func37 #[.string a0_0] ?_;(with_reducible refine (impl_isName.calls a0_0 true _ A20.out).mono ?_);rintro e w33 ⟨rfl,hb⟩;refine ⟨_,rfl,?_⟩;replace BK454:=As0.mk (bb hb BK454.out);replace HB:=As0.mk (bsp HB.out hb);clear hb;obtain ⟨hcz34_0,hcz34_1,hcz34_2,hcz34_3,hcz34_4,hcz34_5,hcz34_6⟩:=qc7 BK454.out;obtain ⟨hfz34_0,hfz34_1,hfz34_2,hfz34_3,hfz34_4,hfz34_5,hfz34_6⟩:=qz7 BK454.out)|(go_at_call 37;(with_reducible refine (impl_isName.calls a0_1 true _ A22.out).mono ?_);rintro e w35 ⟨rfl,hb⟩;replace BK454:=As0.mk (bb hb BK454.out);replace HB:=As0.mk (bsp HB.out hb);clear hb;obtain ⟨hcz36_0,hcz36_1,hcz36_2,hcz36_3,hcz36_4,hcz36_5,hcz36_6⟩:=qc7 BK454.out;obtain ⟨hfz36_0,hfz36_1,hfz36_2,hfz36_3,hfz36_4,hfz36_5,hfz36_6⟩:=qz7 BK454.out))
               go_ret
               exact ⟨eW,HB.out⟩
             · rw [if_neg c31] at H
               have c31b0:((l0_5.length:Int) == 0) = false:=beq_eq_false_iff_ne.mpr c31;have c31b1:((l0_5.length:Int) != 0) = true:=bne_iff_ne.mpr c31;have c31b2:¬ (l0_5 = []):=fun h_=>c31 (by rw [h_];rfl)
               by_cases c37:a0_2 ≥ 1
               · rw [if_pos c37] at H
                 have c37b0:decide (1 ≤ a0_2) = true:=decide_eq_true c37;clear c37;by_cases c38:a0_2 ≤ 99999
                 · rw [if_pos c38] at H
                   have c38b0:decide (a0_2 ≤ 99999) = true:=decide_eq_true c38;clear c38;by_cases c39:a0_3 ≥ 1
                   · rw [if_pos c39] at H
                     have c39b0:decide (1 ≤ a0_3) = true:=decide_eq_true c39;clear c39;by_cases c40:a0_3 ≤ 99999
                     · rw [if_pos c40] at H
                       have c40b0:decide (a0_3 ≤ 99999) = true:=decide_eq_true c40;clear c40;replace H:=Option.bind_eq_some_iff.mp H;obtain ⟨t460,A410,H⟩:=H;(try dsimp only at H);have A41:=As0.mk A410;clear A410;obtain rfl:=Option.some.inj H;obtain ⟨hcz42_0,hcz42_1,hcz42_2,hcz42_3,hcz42_4,hcz42_5,hcz42_6⟩:=qc7 BK454.out;obtain ⟨hfz42_0,hfz42_1,hfz42_2,hfz42_3,hfz42_4,hfz42_5,hfz42_6⟩:=qz7 BK454.out
                       go_wp2_with (first|((with_reducible refine gca (f:=37) rfl ?_);refine gL (some 33) Tryd.func37 #[.string a0_0] ?_;(with_reducible refine (impl_isName.calls a0_0 true _ A20.out).mono ?_);rintro e w43 ⟨rfl,hb⟩;refine ⟨_,rfl,?_⟩;replace BK454:=As0.mk (bb hb BK454.out);replace HB:=As0.mk (bsp HB.out hb);clear hb;obtain ⟨hcz44_0,hcz44_1,hcz44_2,hcz44_3,hcz44_4,hcz44_5,hcz44_6⟩:=qc7 BK454.out;obtain ⟨hfz44_0,hfz44_1,hfz44_2,hfz44_3,hfz44_4,hfz44_5,hfz44_6⟩:=qz7 BK454.out)|(go_at_call 37;(with_reducible refine (impl_isName.calls a0_1 true _ A22.out).mono ?_);rintro e w45 ⟨rfl,hb⟩;replace BK454:=As0.mk (bb hb BK454.out);replace HB:=As0.mk (bsp HB.out hb);clear hb;obtain ⟨hcz46_0,hcz46_1,hcz46_2,hcz46_3,hcz46_4,hcz46_5,hcz46_6⟩:=qc7 BK454.out;obtain ⟨hfz46_0,hfz46_1,hfz46_2,hfz46_3,hfz46_4,hfz46_5,hfz46_6⟩:=qz7 BK454.out)|(go_at_call 38;(with_reducible refine (impl_isBody.calls k1 a0_6 t460 _ A41.out).mono ?_);rintro e w' ⟨rfl,⟨nd,rfl⟩⟩))
                       go_ret
                       exact ⟨eW,by repeat (first|(with_reducible first|exact HB.out|apply bal|apply pbN|apply bd1|refine bst ?_ GE454.out)|exact HB.out)⟩
                     · rw [if_neg c40] at H
                       have c40b0:decide (a0_3 ≤ 99999) = false:=decide_eq_false c40;clear c40;obtain rfl:=Option.some.inj H;obtain ⟨hcz47_0,hcz47_1,hcz47_2,hcz47_3,hcz47_4,hcz47_5,hcz47_6⟩:=qc7 BK454.out;obtain ⟨hfz47_0,hfz47_1,hfz47_2,hfz47_3,hfz47_4,hfz47_5,hfz47_6⟩:=qz7 BK454.out
                       go_wp2_with (first|((with_reducible refine gca (f:=37) rfl ?_);refine gL (some 33) Tryd.func37 #[.string a0_0] ?_;(with_reducible refine (impl_isName.calls a0_0 true _ A20.out).mono ?_);rintro e w48 ⟨rfl,hb⟩;refine ⟨_,rfl,?_⟩;replace BK454:=As0.mk (bb hb BK454.out);replace HB:=As0.mk (bsp HB.out hb);clear hb;obtain ⟨hcz49_0,hcz49_1,hcz49_2,hcz49_3,hcz49_4,hcz49_5,hcz49_6⟩:=qc7 BK454.out;obtain ⟨hfz49_0,hfz49_1,hfz49_2,hfz49_3,hfz49_4,hfz49_5,hfz49_6⟩:=qz7 BK454.out)|(go_at_call 37;(with_reducible refine (impl_isName.calls a0_1 true _ A22.out).mono ?_);rintro e w50 ⟨rfl,hb⟩;replace BK454:=As0.mk (bb hb BK454.out);replace HB:=As0.mk (bsp HB.out hb);clear hb;obtain ⟨hcz51_0,hcz51_1,hcz51_2,hcz51_3,hcz51_4,hcz51_5,hcz51_6⟩:=qc7 BK454.out;obtain ⟨hfz51_0,hfz51_1,hfz51_2,hfz51_3,hfz51_4,hfz51_5,hfz51_6⟩:=qz7 BK454.out))
                       go_ret
                       exact ⟨eW,HB.out⟩
                   · rw [if_neg c39] at H
                     have c39b0:decide (1 ≤ a0_3) = false:=decide_eq_false c39;clear c39;obtain rfl:=Option.some.inj H;obtain ⟨hcz52_0,hcz52_1,hcz52_2,hcz52_3,hcz52_4,hcz52_5,hcz52_6⟩:=qc7 BK454.out;obtain ⟨hfz52_0,hfz52_1,hfz52_2,hfz52_3,hfz52_4,hfz52_5,hfz52_6⟩:=qz7 BK454.out
                     go_wp2_with (first|((with_reducible refine gca (f:=37) rfl ?_);refine gL (some 33) Tryd.func37 #[.string a0_0] ?_;(with_reducible refine (impl_isName.calls a0_0 true _ A20.out).mono ?_);rintro e w53 ⟨rfl,hb⟩;refine ⟨_,rfl,?_⟩;replace BK454:=As0.mk (bb hb BK454.out);replace HB:=As0.mk (bsp HB.out hb);clear hb;obtain ⟨hcz54_0,hcz54_1,hcz54_2,hcz54_3,hcz54_4,hcz54_5,hcz54_6⟩:=qc7 BK454.out;obtain ⟨hfz54_0,hfz54_1,hfz54_2,hfz54_3,hfz54_4,hfz54_5,hfz54_6⟩:=qz7 BK454.out)|(go_at_call 37;(with_reducible refine (impl_isName.calls a0_1 true _ A22.out).mono ?_);rintro e w55 ⟨rfl,hb⟩;replace BK454:=As0.mk (bb hb BK454.out);replace HB:=As0.mk (bsp HB.out hb);clear hb;obtain ⟨hcz56_0,hcz56_1,hcz56_2,hcz56_3,hcz56_4,hcz56_5,hcz56_6⟩:=qc7 BK454.out;obtain ⟨hfz56_0,hfz56_1,hfz56_2,hfz56_3,hfz56_4,hfz56_5,hfz56_6⟩:=qz7 BK454.out))
                     go_ret
                     exact ⟨eW,HB.out⟩
                 · rw [if_neg c38] at H
                   have c38b0:decide (a0_2 ≤ 99999) = false:=decide_eq_false c38;clear c38;obtain rfl:=Option.some.inj H;obtain ⟨hcz57_0,hcz57_1,hcz57_2,hcz57_3,hcz57_4,hcz57_5,hcz57_6⟩:=qc7 BK454.out;obtain ⟨hfz57_0,hfz57_1,hfz57_2,hfz57_3,hfz57_4,hfz57_5,hfz57_6⟩:=qz7 BK454.out
                   go_wp2_with (first|((with_reducible refine gca (f:=37) rfl ?_);refine gL (some 33) Tryd.func37 #[.string a0_0] ?_;(with_reducible refine (impl_isName.calls a0_0 true _ A20.out).mono ?_);rintro e w58 ⟨rfl,hb⟩;refine ⟨_,rfl,?_⟩;replace BK454:=As0.mk (bb hb BK454.out);replace HB:=As0.mk (bsp HB.out hb);clear hb;obtain ⟨hcz59_0,hcz59_1,hcz59_2,hcz59_3,hcz59_4,hcz59_5,hcz59_6⟩:=qc7 BK454.out;obtain ⟨hfz59_0,hfz59_1,hfz59_2,hfz59_3,hfz59_4,hfz59_5,hfz59_6⟩:=qz7 BK454.out)|(go_at_call 37;(with_reducible refine (impl_isName.calls a0_1 true _ A22.out).mono ?_);rintro e w60 ⟨rfl,hb⟩;replace BK454:=As0.mk (bb hb BK454.out);replace HB:=As0.mk (bsp HB.out hb);clear hb;obtain ⟨hcz61_0,hcz61_1,hcz61_2,hcz61_3,hcz61_4,hcz61_5,hcz61_6⟩:=qc7 BK454.out;obtain ⟨hfz61_0,hfz61_1,hfz61_2,hfz61_3,hfz61_4,hfz61_5,hfz61_6⟩:=qz7 BK454.out))
                   go_ret
                   exact ⟨eW,HB.out⟩
               · rw [if_neg c37] at H
                 have c37b0:decide (1 ≤ a0_2) = false:=decide_eq_false c37;clear c37;obtain rfl:=Option.some.inj H;obtain ⟨hcz62_0,hcz62_1,hcz62_2,hcz62_3,hcz62_4,hcz62_5,hcz62_6⟩:=qc7 BK454.out;obtain ⟨hfz62_0,hfz62_1,hfz62_2,hfz62_3,hfz62_4,hfz62_5,hfz62_6⟩:=qz7 BK454.out
                 go_wp2_with (first|((with_reducible refine gca (f:=37) rfl ?_);refine gL (some 33) Tryd.func37 #[.string a0_0] ?_;(with_reducible refine (impl_isName.calls a0_0 true _ A20.out).mono ?_);rintro e w63 ⟨rfl,hb⟩;refine ⟨_,rfl,?_⟩;replace BK454:=As0.mk (bb hb BK454.out);replace HB:=As0.mk (bsp HB.out hb);clear hb;obtain ⟨hcz64_0,hcz64_1,hcz64_2,hcz64_3,hcz64_4,hcz64_5,hcz64_6⟩:=qc7 BK454.out;obtain ⟨hfz64_0,hfz64_1,hfz64_2,hfz64_3,hfz64_4,hfz64_5,hfz64_6⟩:=qz7 BK454.out)|(go_at_call 37;(with_reducible refine (impl_isName.calls a0_1 true _ A22.out).mono ?_);rintro e w65 ⟨rfl,hb⟩;replace BK454:=As0.mk (bb hb BK454.out);replace HB:=As0.mk (bsp HB.out hb);clear hb;obtain ⟨hcz66_0,hcz66_1,hcz66_2,hcz66_3,hcz66_4,hcz66_5,hcz66_6⟩:=qc7 BK454.out;obtain ⟨hfz66_0,hfz66_1,hfz66_2,hfz66_3,hfz66_4,hfz66_5,hfz66_6⟩:=qz7 BK454.out))
                 go_ret
                 exact ⟨eW,HB.out⟩
           · replace c30:=Bool.eq_false_iff.mpr c30
             subst c30;have H1:(if a0_2 ≥ 1 then (if a0_2 ≤ 99999 then (if a0_3 ≥ 1 then (if a0_3 ≤ 99999 then ((impl_isBody.f k1 a0_6).bind fun t461=>(some t461)) else (some false)) else (some false)) else (some false)) else (some false)) = some r:=by rw [if_neg (show ¬ (false = true) by decide)] at H;exact H
             clear H;have H:=H1;clear H1;by_cases c67:a0_2 ≥ 1
             · rw [if_pos c67] at H
               have c67b0:decide (1 ≤ a0_2) = true:=decide_eq_true c67;clear c67;by_cases c68:a0_2 ≤ 99999
               · rw [if_pos c68] at H
                 have c68b0:decide (a0_2 ≤ 99999) = true:=decide_eq_true c68;clear c68;by_cases c69:a0_3 ≥ 1
                 · rw [if_pos c69] at H
                   have c69b0:decide (1 ≤ a0_3) = true:=decide_eq_true c69;clear c69;by_cases c70:a0_3 ≤ 99999
                   · rw [if_pos c70] at H
                     have c70b0:decide (a0_3 ≤ 99999) = true:=decide_eq_true c70;clear c70;replace H:=Option.bind_eq_some_iff.mp H;obtain ⟨t461,A710,H⟩:=H;(try dsimp only at H);have A71:=As0.mk A710;clear A710;obtain rfl:=Option.some.inj H;obtain ⟨hcz72_0,hcz72_1,hcz72_2,hcz72_3,hcz72_4,hcz72_5,hcz72_6⟩:=qc7 BK454.out;obtain ⟨hfz72_0,hfz72_1,hfz72_2,hfz72_3,hfz72_4,hfz72_5,hfz72_6⟩:=qz7 BK454.out
                     go_wp2_with (first|((with_reducible refine gca (f:=37) rfl ?_);refine gL (some 33) Tryd.func37 #[.string a0_0] ?_;(with_reducible refine (impl_isName.calls a0_0 true _ A20.out).mono ?_);rintro e w73 ⟨rfl,hb⟩;refine ⟨_,rfl,?_⟩;replace BK454:=As0.mk (bb hb BK454.out);replace HB:=As0.mk (bsp HB.out hb);clear hb;obtain ⟨hcz74_0,hcz74_1,hcz74_2,hcz74_3,hcz74_4,hcz74_5,hcz74_6⟩:=qc7 BK454.out;obtain ⟨hfz74_0,hfz74_1,hfz74_2,hfz74_3,hfz74_4,hfz74_5,hfz74_6⟩:=qz7 BK454.out)|(go_at_call 37;(with_reducible refine (impl_isName.calls a0_1 true _ A22.out).mono ?_);rintro e w75 ⟨rfl,hb⟩;replace BK454:=As0.mk (bb hb BK454.out);replace HB:=As0.mk (bsp HB.out hb);clear hb;obtain ⟨hcz76_0,hcz76_1,hcz76_2,hcz76_3,hcz76_4,hcz76_5,hcz76_6⟩:=qc7 BK454.out;obtain ⟨hfz76_0,hfz76_1,hfz76_2,hfz76_3,hfz76_4,hfz76_5,hfz76_6⟩:=qz7 BK454.out)|(go_at_call 38;(with_reducible refine (impl_isBody.calls k1 a0_6 t461 _ A71.out).mono ?_);rintro e w' ⟨rfl,⟨nd,rfl⟩⟩))
                     go_ret
                     exact ⟨eW,by repeat (first|(with_reducible first|exact HB.out|apply bal|apply pbN|apply bd1|refine bst ?_ GE454.out)|exact HB.out)⟩
                   · rw [if_neg c70] at H
                     have c70b0:decide (a0_3 ≤ 99999) = false:=decide_eq_false c70;clear c70;obtain rfl:=Option.some.inj H;obtain ⟨hcz77_0,hcz77_1,hcz77_2,hcz77_3,hcz77_4,hcz77_5,hcz77_6⟩:=qc7 BK454.out;obtain ⟨hfz77_0,hfz77_1,hfz77_2,hfz77_3,hfz77_4,hfz77_5,hfz77_6⟩:=qz7 BK454.out
                     go_wp2_with (first|((with_reducible refine gca (f:=37) rfl ?_);refine gL (some 33) Tryd.func37 #[.string a0_0] ?_;(with_reducible refine (impl_isName.calls a0_0 true _ A20.out).mono ?_);rintro e w78 ⟨rfl,hb⟩;refine ⟨_,rfl,?_⟩;replace BK454:=As0.mk (bb hb BK454.out);replace HB:=As0.mk (bsp HB.out hb);clear hb;obtain ⟨hcz79_0,hcz79_1,hcz79_2,hcz79_3,hcz79_4,hcz79_5,hcz79_6⟩:=qc7 BK454.out;obtain ⟨hfz79_0,hfz79_1,hfz79_2,hfz79_3,hfz79_4,hfz79_5,hfz79_6⟩:=qz7 BK454.out)|(go_at_call 37;(with_reducible refine (impl_isName.calls a0_1 true _ A22.out).mono ?_);rintro e w80 ⟨rfl,hb⟩;replace BK454:=As0.mk (bb hb BK454.out);replace HB:=As0.mk (bsp HB.out hb);clear hb;obtain ⟨hcz81_0,hcz81_1,hcz81_2,hcz81_3,hcz81_4,hcz81_5,hcz81_6⟩:=qc7 BK454.out;obtain ⟨hfz81_0,hfz81_1,hfz81_2,hfz81_3,hfz81_4,hfz81_5,hfz81_6⟩:=qz7 BK454.out))
                     go_ret
                     exact ⟨eW,HB.out⟩
                 · rw [if_neg c69] at H
                   have c69b0:decide (1 ≤ a0_3) = false:=decide_eq_false c69;clear c69;obtain rfl:=Option.some.inj H;obtain ⟨hcz82_0,hcz82_1,hcz82_2,hcz82_3,hcz82_4,hcz82_5,hcz82_6⟩:=qc7 BK454.out;obtain ⟨hfz82_0,hfz82_1,hfz82_2,hfz82_3,hfz82_4,hfz82_5,hfz82_6⟩:=qz7 BK454.out
                   go_wp2_with (first|((with_reducible refine gca (f:=37) rfl ?_);refine gL (some 33) Tryd.func37 #[.string a0_0] ?_;(with_reducible refine (impl_isName.calls a0_0 true _ A20.out).mono ?_);rintro e w83 ⟨rfl,hb⟩;refine ⟨_,rfl,?_⟩;replace BK454:=As0.mk (bb hb BK454.out);replace HB:=As0.mk (bsp HB.out hb);clear hb;obtain ⟨hcz84_0,hcz84_1,hcz84_2,hcz84_3,hcz84_4,hcz84_5,hcz84_6⟩:=qc7 BK454.out;obtain ⟨hfz84_0,hfz84_1,hfz84_2,hfz84_3,hfz84_4,hfz84_5,hfz84_6⟩:=qz7 BK454.out)|(go_at_call 37;(with_reducible refine (impl_isName.calls a0_1 true _ A22.out).mono ?_);rintro e w85 ⟨rfl,hb⟩;replace BK454:=As0.mk (bb hb BK454.out);replace HB:=As0.mk (bsp HB.out hb);clear hb;obtain ⟨hcz86_0,hcz86_1,hcz86_2,hcz86_3,hcz86_4,hcz86_5,hcz86_6⟩:=qc7 BK454.out;obtain ⟨hfz86_0,hfz86_1,hfz86_2,hfz86_3,hfz86_4,hfz86_5,hfz86_6⟩:=qz7 BK454.out))
                   go_ret
                   exact ⟨eW,HB.out⟩
               · rw [if_neg c68] at H
                 have c68b0:decide (a0_2 ≤ 99999) = false:=decide_eq_false c68;clear c68;obtain rfl:=Option.some.inj H;obtain ⟨hcz87_0,hcz87_1,hcz87_2,hcz87_3,hcz87_4,hcz87_5,hcz87_6⟩:=qc7 BK454.out;obtain ⟨hfz87_0,hfz87_1,hfz87_2,hfz87_3,hfz87_4,hfz87_5,hfz87_6⟩:=qz7 BK454.out
                 go_wp2_with (first|((with_reducible refine gca (f:=37) rfl ?_);refine gL (some 33) Tryd.func37 #[.string a0_0] ?_;(with_reducible refine (impl_isName.calls a0_0 true _ A20.out).mono ?_);rintro e w88 ⟨rfl,hb⟩;refine ⟨_,rfl,?_⟩;replace BK454:=As0.mk (bb hb BK454.out);replace HB:=As0.mk (bsp HB.out hb);clear hb;obtain ⟨hcz89_0,hcz89_1,hcz89_2,hcz89_3,hcz89_4,hcz89_5,hcz89_6⟩:=qc7 BK454.out;obtain ⟨hfz89_0,hfz89_1,hfz89_2,hfz89_3,hfz89_4,hfz89_5,hfz89_6⟩:=qz7 BK454.out)|(go_at_call 37;(with_reducible refine (impl_isName.calls a0_1 true _ A22.out).mono ?_);rintro e w90 ⟨rfl,hb⟩;replace BK454:=As0.mk (bb hb BK454.out);replace HB:=As0.mk (bsp HB.out hb);clear hb;obtain ⟨hcz91_0,hcz91_1,hcz91_2,hcz91_3,hcz91_4,hcz91_5,hcz91_6⟩:=qc7 BK454.out;obtain ⟨hfz91_0,hfz91_1,hfz91_2,hfz91_3,hfz91_4,hfz91_5,hfz91_6⟩:=qz7 BK454.out))
                 go_ret
                 exact ⟨eW,HB.out⟩
             · rw [if_neg c67] at H
               have c67b0:decide (1 ≤ a0_2) = false:=decide_eq_false c67;clear c67;obtain rfl:=Option.some.inj H;obtain ⟨hcz92_0,hcz92_1,hcz92_2,hcz92_3,hcz92_4,hcz92_5,hcz92_6⟩:=qc7 BK454.out;obtain ⟨hfz92_0,hfz92_1,hfz92_2,hfz92_3,hfz92_4,hfz92_5,hfz92_6⟩:=qz7 BK454.out
               go_wp2_with (first|((with_reducible refine gca (f:=37) rfl ?_);refine gL (some 33) Tryd.func37 #[.string a0_0] ?_;(with_reducible refine (impl_isName.calls a0_0 true _ A20.out).mono ?_);rintro e w93 ⟨rfl,hb⟩;refine ⟨_,rfl,?_⟩;replace BK454:=As0.mk (bb hb BK454.out);replace HB:=As0.mk (bsp HB.out hb);clear hb;obtain ⟨hcz94_0,hcz94_1,hcz94_2,hcz94_3,hcz94_4,hcz94_5,hcz94_6⟩:=qc7 BK454.out;obtain ⟨hfz94_0,hfz94_1,hfz94_2,hfz94_3,hfz94_4,hfz94_5,hfz94_6⟩:=qz7 BK454.out)|(go_at_call 37;(with_reducible refine (impl_isName.calls a0_1 true _ A22.out).mono ?_);rintro e w95 ⟨rfl,hb⟩;replace BK454:=As0.mk (bb hb BK454.out);replace HB:=As0.mk (bsp HB.out hb);clear hb;obtain ⟨hcz96_0,hcz96_1,hcz96_2,hcz96_3,hcz96_4,hcz96_5,hcz96_6⟩:=qc7 BK454.out;obtain ⟨hfz96_0,hfz96_1,hfz96_2,hfz96_3,hfz96_4,hfz96_5,hfz96_6⟩:=qz7 BK454.out))
               go_ret
               exact ⟨eW,HB.out⟩
       · replace c23:=Bool.eq_false_iff.mpr c23
         subst c23;have H1:(some false) = some r:=by rw [if_neg (show ¬ (false = true) by decide)] at H;exact H
         clear H;have H:=H1;clear H1;obtain rfl:=Option.some.inj H;obtain ⟨hcz97_0,hcz97_1,hcz97_2,hcz97_3,hcz97_4,hcz97_5,hcz97_6⟩:=qc7 BK454.out;obtain ⟨hfz97_0,hfz97_1,hfz97_2,hfz97_3,hfz97_4,hfz97_5,hfz97_6⟩:=qz7 BK454.out
         go_wp2_with (first|((with_reducible refine gca (f:=37) rfl ?_);refine gL (some 33) Tryd.func37 #[.string a0_0] ?_;(with_reducible refine (impl_isName.calls a0_0 true _ A20.out).mono ?_);rintro e w98 ⟨rfl,hb⟩;refine ⟨_,rfl,?_⟩;replace BK454:=As0.mk (bb hb BK454.out);replace HB:=As0.mk (bsp HB.out hb);clear hb;obtain ⟨hcz99_0,hcz99_1,hcz99_2,hcz99_3,hcz99_4,hcz99_5,hcz99_6⟩:=qc7 BK454.out;obtain ⟨hfz99_0,hfz99_1,hfz99_2,hfz99_3,hfz99_4,hfz99_5,hfz99_6⟩:=qz7 BK454.out)|(go_at_call 37;(with_reducible refine (impl_isName.calls a0_1 false _ A22.out).mono ?_);rintro e w100 ⟨rfl,hb⟩;replace BK454:=As0.mk (bb hb BK454.out);replace HB:=As0.mk (bsp HB.out hb);clear hb))
         go_ret
         exact ⟨eW,HB.out⟩
     · replace c21:=Bool.eq_false_iff.mpr c21
       subst c21;have H1:(some false) = some r:=by rw [if_neg (show ¬ (false = true) by decide)] at H;exact H
       clear H;have H:=H1;clear H1;obtain rfl:=Option.some.inj H;obtain ⟨hcz101_0,hcz101_1,hcz101_2,hcz101_3,hcz101_4,hcz101_5,hcz101_6⟩:=qc7 BK454.out;obtain ⟨hfz101_0,hfz101_1,hfz101_2,hfz101_3,hfz101_4,hfz101_5,hfz101_6⟩:=qz7 BK454.out
       go_wp2_with (first|((with_reducible refine gca (f:=37) rfl ?_);refine gL (some 33) Tryd.func37 #[.string a0_0] ?_;(with_reducible refine (impl_isName.calls a0_0 false _ A20.out).mono ?_);rintro e w102 ⟨rfl,hb⟩;refine ⟨_,rfl,?_⟩;replace BK454:=As0.mk (bb hb BK454.out);replace HB:=As0.mk (bsp HB.out hb);clear hb))
       go_ret
       exact ⟨eW,HB.out⟩
def impl_UseSum_1.f (k:Nat) (a0_0:ByteArray) (a0_1:ByteArray) (a0_2:Int) (a0_3:Int) (a0_4:Bool) (l0_5:List ByteArray) (a0_6:ByteArray):Option (Bool):=(impl_isThing.f k a0_0 a0_1 a0_2 a0_3 a0_4 l0_5 a0_6).bind fun t463=>(some (!t463))
set_option maxHeartbeats 40000000 in
set_option maxRecDepth 100000 in
theorem impl_UseSum_1.calls (k:Nat) (a0_0:ByteArray) (a0_1:ByteArray) (a0_2:Int) (a0_3:Int) (a0_4:Bool) (A0_5:Option Addr) (c0_5:Nat) (l0_5:List ByteArray) (a0_6:ByteArray) (r:Bool) (w:World) (hr0_5:Kd.C Kd.string w A0_5 l0_5.length l0_5) (hc0_5:l0_5.length ≤ c0_5) (h:impl_UseSum_1.f k a0_0 a0_1 a0_2 a0_3 a0_4 l0_5 a0_6 = some r) :
 Calls Tryd.prog 19 #[.agg #[.string a0_0,.string a0_1,.int .i64 a0_2,.int .i64 a0_3,.bool a0_4,.slice A0_5 l0_5.length c0_5,.string a0_6]] w fun e w'=>e = .returned (.bool r) ∧ Below w.heap.size w w':=by
 have hu34:=Tryd.underlying34;have HR0_5:=As0.mk hr0_5;have HC0_5:=As0.mk hc0_5;clear hr0_5 hc0_5;have HB:=As0.mk (Below.refl w.heap.size w);have H:((impl_isThing.f k a0_0 a0_1 a0_2 a0_3 a0_4 l0_5 a0_6).bind fun t463=>(some (!t463))) = some r:=h;clear h;replace H:=Option.bind_eq_some_iff.mp H;obtain ⟨t463,A20,H⟩:=H;(try dsimp only at H);have A2:=As0.mk A20;clear A20;obtain rfl:=Option.some.inj H
 go_enter Tryd.func19,Tryd.ntmps19
 go_wp2_with (first|((with_reducible refine gate_dst (N:=1) rfl ?_);refine bE 1 #[.string a0_0,.string a0_1,.int .i64 a0_2,.int .i64 a0_3,.bool a0_4,.slice A0_5 l0_5.length c0_5,.string a0_6] 34 ?_;intro gb462 hg w3 hbox hb;have BK462:=As0.mk (hbox);have GW462:=As0.mk ((by rw [hg];exact (bsz (by repeat (first|(with_reducible first|exact HB.out|apply bal|apply pbN|apply bd1)|exact HB.out))):w.heap.size ≤ gb462));have GE462:=GW462;replace HB:=As0.mk (b3 HB.out hb);clear hb hbox hg;obtain ⟨hcz4_0,hcz4_1,hcz4_2,hcz4_3,hcz4_4,hcz4_5,hcz4_6⟩:=qc7 BK462.out;obtain ⟨hfz4_0,hfz4_1,hfz4_2,hfz4_3,hfz4_4,hfz4_5,hfz4_6⟩:=qz7 BK462.out)|((with_reducible refine gca (f:=20) rfl ?_);refine gL (some 4) Tryd.func20 #[.agg #[.string a0_0,.string a0_1,.int .i64 a0_2,.int .i64 a0_3,.bool a0_4,.slice A0_5 l0_5.length c0_5,.string a0_6]] ?_;(with_reducible refine (impl_isThing.calls k a0_0 a0_1 a0_2 a0_3 a0_4 _ _ l0_5 a0_6 t463 _ ?side1 ?side2 A2.out).mono ?_);(case side1=>repeat (first|exact (Kd.C_below HR0_5.out HB.out)|(with_reducible first|refine Kd.C_alloc ?_ _|refine Kd.C_drewN ?_ _|refine Kd.C_drew ?_)));(case side2=>exact HC0_5.out);rintro e w5 ⟨rfl,hb⟩;refine ⟨_,rfl,?_⟩;replace BK462:=As0.mk (bb hb BK462.out);replace HB:=As0.mk (bsp (by repeat (first|(with_reducible first|exact HB.out|apply bal|apply pbN|apply bd1|refine bst ?_ GE462.out)|exact HB.out)) hb);clear hb))
 go_ret
 exact ⟨eW,by repeat (first|(with_reducible first|exact HB.out|apply bal|apply pbN|apply bd1|refine bst ?_ GE462.out)|exact HB.out)⟩
def impl_Thing_36.l0:Nat → List (SiT24) → Int → Int → Option (Int)
 |0,_,_,_=>none
 |k + 1,x0,x7,x8=>if x8 < x7 then (if 0 ≤ x8 then (if x8 < (x0.length:Int) then ((impl_UseSum_1.f k ((riT27 x0 x8).f0) ((riT27 x0 x8).f1) ((riT27 x0 x8).f2) ((riT27 x0 x8).f3) ((riT27 x0 x8).f4) ((riT27 x0 x8).f5) ((riT27 x0 x8).f6)).bind fun t465=>(if t465 = true then (some x8) else (impl_Thing_36.l0 k x0 x7 (wrap64 (x8 + 1))))) else (none)) else (none)) else (some (-1))
def impl_Thing_36.f (k:Nat) (l0:List (SiT24))  : Option (Int):=impl_Thing_36.l0 k l0 (l0.length:Int) 0
set_option maxHeartbeats 40000000 in
set_option maxRecDepth 100000 in
theorem impl_Thing_36.calls (k:Nat) (A0:Option Addr) (c0:Nat) (l0:List (SiT24))  (r:Int) (w:World) (hr0:Kd.C k34 w A0 l0.length l0) (hc0:l0.length ≤ c0) (h:impl_Thing_36.f k l0 = some r) :
 Calls Tryd.prog 36 #[.slice A0 l0.length c0,.func (.func 19) #[] #[]] w fun e w'=>e = .returned (.int .i64 r) ∧ Below w.heap.size w w':=by
 have hu34:=Tryd.underlying34;have HR0:=As0.mk hr0;have HC0:=As0.mk hc0;clear hr0 hc0;have HB:=As0.mk (Below.refl w.heap.size w);have H:(impl_Thing_36.l0 k l0 (l0.length:Int) 0) = some r:=h;clear h;have H':=As0.mk H;clear H
 go_enter Tryd.func36,Tryd.ntmps36
 go_wp2
 show _;go_loopg [8] k (fun kq v8 w'=>∃ (x8_1:Int),v8 = .int .i64 x8_1 ∧ As0 (impl_Thing_36.l0 kq l0 (l0.length:Int) x8_1 = some r) ∧ As0 (kq ≤ k) ∧ As0 (Below w.heap.size w w'))
 case atStart=>exact ⟨(0),(by first|rfl|(simp;done)|(simp [*];done)),H',⟨Nat.le_refl _⟩,⟨by repeat (first|(with_reducible first|exact HB.out|apply bal|apply pbN|apply bd1)|exact HB.out)⟩⟩
 case round=>
  clear H'
  try clear p2
  obtain ⟨x8_1,rfl,HA,HK1,HB⟩:=hrel
  cases gk with
  |zero=>exact absurd HA.out (by simp [impl_Thing_36.l0])
  |succ k1=>
   have H:=HA.out;clear HA;simp only [impl_Thing_36.l0] at H;by_cases c3:x8_1 < (l0.length:Int)
   · rw [if_pos c3] at H
     have c3b0:decide (x8_1 < (l0.length:Int)) = true:=decide_eq_true c3;clear c3;by_cases c4:0 ≤ x8_1
     · rw [if_pos c4] at H
       have c4b0:decide (0 ≤ x8_1) = true:=decide_eq_true c4;clear c4;by_cases c5:x8_1 < (l0.length:Int)
       · rw [if_pos c5] at H
         have c5b0:decide (x8_1 < (l0.length:Int)) = true:=decide_eq_true c5;clear c5;replace H:=Option.bind_eq_some_iff.mp H;obtain ⟨t465,A60,H⟩:=H;(try dsimp only at H);have A6:=As0.mk A60;clear A60;by_cases c7:t465 = true
         · subst c7
           have H1:(some x8_1) = some r:=by rw [if_pos rfl] at H;exact H
           clear H;have H:=H1;clear H1;obtain rfl:=Option.some.inj H;have p464:0 ≤ (x8_1:Int):=odt;have q464:x8_1 < (l0.length:Int):=odt;obtain ⟨ad464,A464_5,c464_5,e464,hx464_0,hx464_1,hx464_2,hx464_3,hx464_4,hx464_5,hx464_6,hl464_5,hi464_5⟩:=at_T34 HR0.out x8_1 p464 q464
           cases e464
           replace hx464_0:=bx HB.out rfl hx464_0;replace hx464_1:=bx HB.out rfl hx464_1;replace hx464_2:=bx HB.out rfl hx464_2;replace hx464_3:=bx HB.out rfl hx464_3;replace hx464_4:=bx HB.out rfl hx464_4;replace hx464_5:=bx HB.out rfl hx464_5;replace hx464_6:=bx HB.out rfl hx464_6;have HR464_5:=As0.mk hi464_5;have HC464_5:=As0.mk hl464_5;clear hi464_5 hl464_5;replace p464:=eq_true p464;replace q464:=eq_true q464
           go_wp2_with (first|((with_reducible refine gate_calleeV (f:=19) rfl rfl ?_);refine goesLV_ (some 16) rfl rfl Tryd.func19 (by kernel_rfl) rfl #[.agg #[.string ((riT27 l0 x8_1).f0),.string ((riT27 l0 x8_1).f1),.int .i64 ((riT27 l0 x8_1).f2),.int .i64 ((riT27 l0 x8_1).f3),.bool ((riT27 l0 x8_1).f4),.slice A464_5 ((riT27 l0 x8_1).f5).length c464_5,.string ((riT27 l0 x8_1).f6)]] rfl rfl (by (try simp only [List.map_toArray,List.map_cons,List.map_nil]);first|done|rfl|(simp only [List.length_drop,List.length_take];rfl)) ?_;(with_reducible refine (impl_UseSum_1.calls k1 ((riT27 l0 x8_1).f0) ((riT27 l0 x8_1).f1) ((riT27 l0 x8_1).f2) ((riT27 l0 x8_1).f3) ((riT27 l0 x8_1).f4) _ _ ((riT27 l0 x8_1).f5) ((riT27 l0 x8_1).f6) true _ ?side1 ?side2 A6.out).mono ?_);(case side1=>repeat (first|exact (Kd.C_below HR464_5.out HB.out)|(with_reducible first|refine Kd.C_alloc ?_ _|refine Kd.C_drewN ?_ _|refine Kd.C_drew ?_)));(case side2=>exact HC464_5.out);rintro e w8 ⟨rfl,hb⟩;refine ⟨_,rfl,?_⟩;replace HB:=As0.mk (b3 HB.out hb);clear hb))
           go_ret
           exact ⟨eW,by repeat (first|(with_reducible first|exact HB.out|apply bal|apply pbN|apply bd1)|exact HB.out)⟩
         · replace c7:=Bool.eq_false_iff.mpr c7
           subst c7;have H1:(impl_Thing_36.l0 k1 l0 (l0.length:Int) (wrap64 (x8_1 + 1))) = some r:=by rw [if_neg (show ¬ (false = true) by decide)] at H;exact H
           clear H;have H:=H1;clear H1;have H':=As0.mk H;clear H;have p464:0 ≤ (x8_1:Int):=odt;have q464:x8_1 < (l0.length:Int):=odt;obtain ⟨ad464,A464_5,c464_5,e464,hx464_0,hx464_1,hx464_2,hx464_3,hx464_4,hx464_5,hx464_6,hl464_5,hi464_5⟩:=at_T34 HR0.out x8_1 p464 q464
           cases e464
           replace hx464_0:=bx HB.out rfl hx464_0;replace hx464_1:=bx HB.out rfl hx464_1;replace hx464_2:=bx HB.out rfl hx464_2;replace hx464_3:=bx HB.out rfl hx464_3;replace hx464_4:=bx HB.out rfl hx464_4;replace hx464_5:=bx HB.out rfl hx464_5;replace hx464_6:=bx HB.out rfl hx464_6;have HR464_5:=As0.mk hi464_5;have HC464_5:=As0.mk hl464_5;clear hi464_5 hl464_5;replace p464:=eq_true p464;replace q464:=eq_true q464
           go_wp2_with (first|((with_reducible refine gate_calleeV (f:=19) rfl rfl ?_);refine goesLV_ (some 16) rfl rfl Tryd.func19 (by kernel_rfl) rfl #[.agg #[.string ((riT27 l0 x8_1).f0),.string ((riT27 l0 x8_1).f1),.int .i64 ((riT27 l0 x8_1).f2),.int .i64 ((riT27 l0 x8_1).f3),.bool ((riT27 l0 x8_1).f4),.slice A464_5 ((riT27 l0 x8_1).f5).length c464_5,.string ((riT27 l0 x8_1).f6)]] rfl rfl (by (try simp only [List.map_toArray,List.map_cons,List.map_nil]);first|done|rfl|(simp only [List.length_drop,List.length_take];rfl)) ?_;(with_reducible refine (impl_UseSum_1.calls k1 ((riT27 l0 x8_1).f0) ((riT27 l0 x8_1).f1) ((riT27 l0 x8_1).f2) ((riT27 l0 x8_1).f3) ((riT27 l0 x8_1).f4) _ _ ((riT27 l0 x8_1).f5) ((riT27 l0 x8_1).f6) false _ ?side1 ?side2 A6.out).mono ?_);(case side1=>repeat (first|exact (Kd.C_below HR464_5.out HB.out)|(with_reducible first|refine Kd.C_alloc ?_ _|refine Kd.C_drewN ?_ _|refine Kd.C_drew ?_)));(case side2=>exact HC464_5.out);rintro e w9 ⟨rfl,hb⟩;refine ⟨_,rfl,?_⟩;replace HB:=As0.mk (b3 HB.out hb);clear hb))
           show _;go_roundg k1
           case measure=>have:=HK1.out;omega
           case rel=>exact ⟨(wrap64 (x8_1 + 1)),(by first|rfl|(simp;done)|(simp [*];done)),H',⟨by have:=HK1.out;omega⟩,⟨by repeat (first|(with_reducible first|exact HB.out|apply bal|apply pbN|apply bd1)|exact HB.out)⟩⟩
       · rw [if_neg c5] at H
         exact absurd H (by simp)
     · rw [if_neg c4] at H
       exact absurd H (by simp)
   · rw [if_neg c3] at H
     have c3b0:decide (x8_1 < (l0.length:Int)) = false:=decide_eq_false c3;clear c3;obtain rfl:=Option.some.inj H
     go_wp2
     go_ret
     exact ⟨eW,by repeat (first|(with_reducible first|exact HB.out|apply bal|apply pbN|apply bd1)|exact HB.out)⟩
def impl_Thing_18.f (k:Nat) (l0:List (SiT24))  : Option (Bool):=(impl_Thing_36.f k l0).bind fun t466=>(some (decide (t466 ≥ 0)))
set_option maxHeartbeats 40000000 in
set_option maxRecDepth 100000 in
theorem impl_Thing_18.calls (k:Nat) (A0:Option Addr) (c0:Nat) (l0:List (SiT24))  (r:Bool) (w:World) (hr0:Kd.C k34 w A0 l0.length l0) (hc0:l0.length ≤ c0) (h:impl_Thing_18.f k l0 = some r) :
 Calls Tryd.prog 18 #[.slice A0 l0.length c0,.func (.func 19) #[] #[]] w fun e w'=>e = .returned (.bool r) ∧ Below w.heap.size w w':=by
 have HR0:=As0.mk hr0;have HC0:=As0.mk hc0;clear hr0 hc0;have HB:=As0.mk (Below.refl w.heap.size w);have H:((impl_Thing_36.f k l0).bind fun t466=>(some (decide (t466 ≥ 0)))) = some r:=h;clear h;replace H:=Option.bind_eq_some_iff.mp H;obtain ⟨t466,A30,H⟩:=H;(try dsimp only at H);have A3:=As0.mk A30;clear A30;obtain rfl:=Option.some.inj H
 go_enter Tryd.func18,Tryd.ntmps18
 go_wp2_with (first|((with_reducible refine gca (f:=36) rfl ?_);refine gL (some 7) Tryd.func36 #[.slice A0 l0.length c0,.func (.func 19) #[] #[]] ?_;(with_reducible refine (impl_Thing_36.calls k _ _ l0   t466 _ ?side1 ?side2 A3.out).mono ?_);(case side1=>repeat (first|exact HR0.out|(with_reducible first|refine Kd.C_alloc ?_ _|refine Kd.C_drewN ?_ _|refine Kd.C_drew ?_)));(case side2=>exact HC0.out);rintro e w4 ⟨rfl,hb⟩;refine ⟨_,rfl,?_⟩;replace HB:=As0.mk (b3 HB.out hb);clear hb))
 go_ret
 exact ⟨eW,by repeat (first|(with_reducible first|exact HB.out|apply bal|apply pbN|apply bd1)|exact HB.out)⟩
def impl_costOf.f (a0:ByteArray):Option (Int):=some (wrap64 (1 + (a0.size:Int)))
set_option maxHeartbeats 40000000 in
set_option maxRecDepth 100000 in
theorem impl_costOf.calls (a0:ByteArray) (r:Int) (w:World) (h:impl_costOf.f a0 = some r) :
 Calls Tryd.prog 28 #[.string a0] w fun e w'=>e = .returned (.int .i64 r) ∧ Drawn0 w w':=by
 have H:(some (wrap64 (1 + (a0.size:Int)))) = some r:=h;clear h;obtain rfl:=Option.some.inj H
 go_enter Tryd.func28,Tryd.ntmps28
 go_wp2
 go_ret
 exact ⟨by first|rfl|(simp;done)|(simp [*];done),by repeat (first|exact Drawn0.refl _|apply Drawn0.step)⟩
def slices_Index_string_string.l0:Nat → List ByteArray → ByteArray → Int → Int → Option (Int)
 |0,_,_,_,_=>none
 |k + 1,x0,x1,x7,x8=>if x8 < x7 then (if 0 ≤ x8 then (if x8 < (x0.length:Int) then (if x1.toList = (rdOf ByteArray.empty x0 x8).toList then (some x8) else (slices_Index_string_string.l0 k x0 x1 x7 (wrap64 (x8 + 1)))) else (none)) else (none)) else (some (-1))
def slices_Index_string_string.f (k:Nat) (l0:List ByteArray) (a1:ByteArray):Option (Int):=slices_Index_string_string.l0 k l0 a1 (l0.length:Int) 0
set_option maxHeartbeats 40000000 in
set_option maxRecDepth 100000 in
theorem slices_Index_string_string.calls (k:Nat) (A0:Option Addr) (c0:Nat) (l0:List ByteArray) (a1:ByteArray) (r:Int) (w:World) (hr0:Kd.C Kd.string w A0 l0.length l0) (hc0:l0.length ≤ c0) (h:slices_Index_string_string.f k l0 a1 = some r) :
 Calls Tryd.prog 50 #[.slice A0 l0.length c0,.string a1] w fun e w'=>e = .returned (.int .i64 r) ∧ Drawn0 w w':=by
 have HR0:=As0.mk hr0;have HC0:=As0.mk hc0;clear hr0 hc0;have H:(slices_Index_string_string.l0 k l0 a1 (l0.length:Int) 0) = some r:=h;clear h;have H':=As0.mk H;clear H
 go_enter Tryd.func50,Tryd.ntmps50
 go_wp2
 show _;go_loopg [8] k (fun kq v8 w'=>∃ (x8_1:Int),v8 = .int .i64 x8_1 ∧ As0 (slices_Index_string_string.l0 kq l0 a1 (l0.length:Int) x8_1 = some r) ∧ As0 (kq ≤ k) ∧ Drawn0 w w')
 case atStart=>exact ⟨(0),(by first|rfl|(simp;done)|(simp [*];done)),H',⟨Nat.le_refl _⟩,by repeat (first|exact Drawn0.refl _|apply Drawn0.step)⟩
 case round=>
  clear H'
  try clear p2
  obtain ⟨x8_1,rfl,HA,HK1,⟨m1,rfl⟩⟩:=hrel
  cases gk with
  |zero=>exact absurd HA.out (by simp [slices_Index_string_string.l0])
  |succ k1=>
   have H:=HA.out;clear HA;simp only [slices_Index_string_string.l0] at H;by_cases c3:x8_1 < (l0.length:Int)
   · rw [if_pos c3] at H
     have c3b0:decide (x8_1 < (l0.length:Int)) = true:=decide_eq_true c3;clear c3;by_cases c4:0 ≤ x8_1
     · rw [if_pos c4] at H
       have c4b0:decide (0 ≤ x8_1) = true:=decide_eq_true c4;clear c4;by_cases c5:x8_1 < (l0.length:Int)
       · rw [if_pos c5] at H
         have c5b0:decide (x8_1 < (l0.length:Int)) = true:=decide_eq_true c5;clear c5;by_cases c6:a1.toList = (rdOf ByteArray.empty l0 x8_1).toList
         · rw [if_pos c6] at H
           have c6b0:(a1.toList == (rdOf ByteArray.empty l0 x8_1).toList) = true:=beq_iff_eq.mpr c6;have c6b1:(a1.toList != (rdOf ByteArray.empty l0 x8_1).toList) = false:=bne_eq_false_iff_eq.mpr c6;clear c6;obtain rfl:=Option.some.inj H;have p467:0 ≤ (x8_1:Int):=odt;have q467:x8_1 < (l0.length:Int):=odt;obtain ⟨ad467,e467,hx467_0⟩:=Kd.at_string HR0.out x8_1 p467 q467
           cases e467
           replace p467:=eq_true p467;replace q467:=eq_true q467
           go_wp2
           go_ret
           exact ⟨by first|rfl|(simp;done)|(simp [*];done),by repeat (first|exact Drawn0.refl _|apply Drawn0.step)⟩
         · rw [if_neg c6] at H
           have c6b0:(a1.toList == (rdOf ByteArray.empty l0 x8_1).toList) = false:=beq_eq_false_iff_ne.mpr c6;have c6b1:(a1.toList != (rdOf ByteArray.empty l0 x8_1).toList) = true:=bne_iff_ne.mpr c6;have H':=As0.mk H;clear H;have p467:0 ≤ (x8_1:Int):=odt;have q467:x8_1 < (l0.length:Int):=odt;obtain ⟨ad467,e467,hx467_0⟩:=Kd.at_string HR0.out x8_1 p467 q467
           cases e467
           replace p467:=eq_true p467;replace q467:=eq_true q467
           go_wp2
           show _;go_roundg k1
           case measure=>have:=HK1.out;omega
           case rel=>exact ⟨(wrap64 (x8_1 + 1)),(by first|rfl|(simp;done)|(simp [*];done)),H',⟨by have:=HK1.out;omega⟩,by repeat (first|exact Drawn0.refl _|apply Drawn0.step)⟩
       · rw [if_neg c5] at H
         exact absurd H (by simp)
     · rw [if_neg c4] at H
       exact absurd H (by simp)
   · rw [if_neg c3] at H
     have c3b0:decide (x8_1 < (l0.length:Int)) = false:=decide_eq_false c3;clear c3;obtain rfl:=Option.some.inj H
     go_wp2
     go_ret
     exact ⟨by first|rfl|(simp;done)|(simp [*];done),by repeat (first|exact Drawn0.refl _|apply Drawn0.step)⟩
def slices_Contains_string_string.f (k:Nat) (l0:List ByteArray) (a1:ByteArray):Option (Bool):=(slices_Index_string_string.f k l0 a1).bind fun t468=>(some (decide (t468 ≥ 0)))
set_option maxHeartbeats 40000000 in
set_option maxRecDepth 100000 in
theorem slices_Contains_string_string.calls (k:Nat) (A0:Option Addr) (c0:Nat) (l0:List ByteArray) (a1:ByteArray) (r:Bool) (w:World) (hr0:Kd.C Kd.string w A0 l0.length l0) (hc0:l0.length ≤ c0) (h:slices_Contains_string_string.f k l0 a1 = some r) :
 Calls Tryd.prog 39 #[.slice A0 l0.length c0,.string a1] w fun e w'=>e = .returned (.bool r) ∧ Drawn0 w w':=by
 have HR0:=As0.mk hr0;have HC0:=As0.mk hc0;clear hr0 hc0;have H:((slices_Index_string_string.f k l0 a1).bind fun t468=>(some (decide (t468 ≥ 0)))) = some r:=h;clear h;replace H:=Option.bind_eq_some_iff.mp H;obtain ⟨t468,A30,H⟩:=H;(try dsimp only at H);have A3:=As0.mk A30;clear A30;obtain rfl:=Option.some.inj H
 go_enter Tryd.func39,Tryd.ntmps39
 go_wp2_with (first|((with_reducible refine gca (f:=50) rfl ?_);refine gL (some 7) Tryd.func50 #[.slice A0 l0.length c0,.string a1] ?_;(with_reducible refine (slices_Index_string_string.calls k _ _ l0 a1 t468 _ ?side1 ?side2 A3.out).mono ?_);(case side1=>repeat (first|exact HR0.out|(with_reducible first|refine Kd.C_alloc ?_ _|refine Kd.C_drewN ?_ _|refine Kd.C_drew ?_)));(case side2=>exact HC0.out);rintro e w' ⟨rfl,⟨nd,rfl⟩⟩;refine ⟨_,rfl,?_⟩))
 go_ret
 exact ⟨by first|rfl|(simp;done)|(simp [*];done),by repeat (first|exact Drawn0.refl _|apply Drawn0.step)⟩
def impl_spaceUp.l0:Nat → List (SiS23) → List ByteArray → Int → Option (List ByteArray)
 |0,_,_,_=>none
 |k + 1,x0,x5,x6=>if x6 ≥ 0 then (if 0 ≤ x6 then (if x6 < (x0.length:Int) then (if x5.length < 8796093022208 then ((impl_findSpace.f x0 ((riS26 x0 x6).f1)).bind fun t478=>(impl_spaceUp.l0 k x0 (x5 ++ [(riS26 x0 x6).f0]) t478)) else (none)) else (none)) else (none)) else (some x5)
def impl_spaceUp.f (k:Nat) (l0:List (SiS23)) (a1:ByteArray):Option (List ByteArray):=(impl_findSpace.f l0 a1).bind fun t472=>(impl_spaceUp.l0 k l0 (([]:List ByteArray)) t472)
set_option maxHeartbeats 40000000 in
set_option maxRecDepth 100000 in
theorem impl_spaceUp.calls (k:Nat) (A0:Option Addr) (c0:Nat) (l0:List (SiS23)) (a1:ByteArray) (r:List ByteArray) (w:World) (hr0:Kd.C k30 w A0 l0.length l0) (hc0:l0.length ≤ c0) (h:impl_spaceUp.f k l0 a1 = some r) :
 Calls Tryd.prog 40 #[.slice A0 l0.length c0,.string a1] w fun e w'=>∃ v0_:Value,e = .returned (v0_) ∧ Kd.R Kd.string 9 w' w.heap.size (fun _=>True) v0_ r ∧ Below w.heap.size w w':=by
 have HR0:=As0.mk hr0;have HC0:=As0.mk hc0;clear hr0 hc0;have HB:=As0.mk (Below.refl w.heap.size w);have H:((impl_findSpace.f l0 a1).bind fun t472=>(impl_spaceUp.l0 k l0 (([]:List ByteArray)) t472)) = some r:=h;clear h;obtain ⟨y469,hy469⟩:∃ y_:List ByteArray,y_ = (([]:List ByteArray)):=⟨_,rfl⟩;replace H:((impl_findSpace.f l0 a1).bind fun t472=>(impl_spaceUp.l0 k l0 y469 t472)) = some r:=by first|(rw [hy469];with_reducible exact H)|(have H2_:=(Option.bind_some _ _).symm.trans H;rw [hy469];with_reducible exact H2_)|(have H2_:=(Option.bind_some _ _).symm.trans H;with_reducible exact H2_)|with_reducible exact H|(rw [hy469];exact H)|exact H
 have Ny469:=As0.mk hy469;clear hy469;replace H:=Option.bind_eq_some_iff.mp H;obtain ⟨t472,A30,H⟩:=H;(try dsimp only at H);have A3:=As0.mk A30;clear A30;have H':=As0.mk H;clear H
 go_enter Tryd.func40,Tryd.ntmps40
 go_wp2_with (first|((with_reducible refine gate_dst (N:=7) rfl ?_);refine Kd.R_lit Kd.string _ 9 ?hg (N:=7) ?hd (xs:=([]:List ByteArray)) (inner:=[]) (ok:=fun _=>True) (okp:=fun _=>True) ?hr ?hp (fun _ hk=>hk) trivial (Below.refl _ _) (Nat.le_refl _) (by simp) ?_;(case hd=>rfl);(case hg=>rfl);(case hr=>first|(go_simp;done)|(go_simp;rfl));(case hp=>exact (Reps.none _ _));intro v470 w4 ho5 hb hg_ hnew_;clear hg_ hnew_;(first|rw [← Ny469.out] at ho5|(simp only [Int.reduceToNat] at ho5;rw [← Ny469.out] at ho5));have HO471:=As0.mk (Kd.R_lower ho5 (bsz (by repeat (first|(with_reducible first|exact HB.out|apply bal|apply pbN|apply bd1)|exact HB.out))));replace HB:=As0.mk (b3 HB.out hb);clear hb ho5)|((with_reducible refine gca (f:=35) rfl ?_);refine gL (some 10) Tryd.func35 #[.slice A0 l0.length c0,.string a1] ?_;(with_reducible refine (impl_findSpace.calls _ _ l0 a1 t472 _ ?side1 ?side2 A3.out).mono ?_);(case side1=>repeat (first|exact (Kd.C_below HR0.out HB.out)|(with_reducible first|refine Kd.C_alloc ?_ _|refine Kd.C_drewN ?_ _|refine Kd.C_drew ?_)));(case side2=>exact HC0.out);rintro e w6 ⟨rfl,hb⟩;refine ⟨_,rfl,?_⟩;replace HO471:=As0.mk (Kd.R_below (by (with_reducible repeat (first|apply Kd.Ral|apply Kd.RdN|apply Kd.R_drew));exact HO471.out) hb);replace HB:=As0.mk (b3 HB.out hb);clear hb))
 show _;go_loopg [5,6] k (fun kq v5 v6 w'=>∃ (x5_1:List ByteArray) (x6_1:Int),v6 = .int .i64 x6_1 ∧ As0 (impl_spaceUp.l0 kq l0 x5_1 x6_1 = some r) ∧ As0 (kq ≤ k) ∧ As0 (Kd.R Kd.string 9 w' w.heap.size (fun _=>True) v5 x5_1) ∧ As0 (Below w.heap.size w w'))
 case atStart=>exact ⟨(y469),(t472),(by first|rfl|(simp;done)|(simp [*];done)),H',⟨Nat.le_refl _⟩,⟨by (with_reducible repeat (first|apply Kd.Ral|apply Kd.RdN|apply Kd.R_drew));exact HO471.out⟩,⟨by repeat (first|(with_reducible first|exact HB.out|apply bal|apply pbN|apply bd1)|exact HB.out)⟩⟩
 case round=>
  clear H'
  try clear p2
  try clear c3
  try clear c4
  obtain ⟨x5_1,x6_1,rfl,HA,HK1,HO_5,HB⟩:=hrel
  cases gk with
  |zero=>exact absurd HA.out (by simp [impl_spaceUp.l0])
  |succ k1=>
   have H:=HA.out;clear HA;simp only [impl_spaceUp.l0] at H;by_cases c7:x6_1 ≥ 0
   · rw [if_pos c7] at H
     have c7b0:decide (0 ≤ x6_1) = true:=decide_eq_true c7;clear c7;by_cases c8:0 ≤ x6_1
     · rw [if_pos c8] at H
       have c8b0:decide (0 ≤ x6_1) = true:=decide_eq_true c8;clear c8;by_cases c9:x6_1 < (l0.length:Int)
       · rw [if_pos c9] at H
         have c9b0:decide (x6_1 < (l0.length:Int)) = true:=decide_eq_true c9;clear c9;by_cases c10:x5_1.length < 8796093022208
         · rw [if_pos c10] at H
           have LMc10:=As0.mk c10;clear c10;obtain ⟨y474,hy474⟩:∃ y_:List ByteArray,y_ = (x5_1 ++ [(riS26 l0 x6_1).f0]):=⟨_,rfl⟩;replace H:((impl_findSpace.f l0 ((riS26 l0 x6_1).f1)).bind fun t478=>(impl_spaceUp.l0 k1 l0 y474 t478)) = some r:=by first|(rw [hy474];with_reducible exact H)|(have H2_:=(Option.bind_some _ _).symm.trans H;rw [hy474];with_reducible exact H2_)|(have H2_:=(Option.bind_some _ _).symm.trans H;with_reducible exact H2_)|with_reducible exact H|(rw [hy474];exact H)|exact H
           have Ny474:=As0.mk hy474;clear hy474;replace H:=Option.bind_eq_some_iff.mp H;obtain ⟨t478,A110,H⟩:=H;(try dsimp only at H);have A11:=As0.mk A110;clear A110;have H':=As0.mk H;clear H;have p473:0 ≤ (x6_1:Int):=odt;have q473:x6_1 < (l0.length:Int):=odt;obtain ⟨ad473,e473,hx473_0,hx473_1,hx473_2,hx473_3,hx473_4⟩:=at_T30 HR0.out x6_1 p473 q473
           cases e473
           replace hx473_0:=bx HB.out rfl hx473_0;replace hx473_1:=bx HB.out rfl hx473_1;replace hx473_2:=bx HB.out rfl hx473_2;replace hx473_3:=bx HB.out rfl hx473_3;replace hx473_4:=bx HB.out rfl hx473_4;replace p473:=eq_true p473;replace q473:=eq_true q473
           go_wp2_with (first|((with_reducible refine gbi (b:=.append) (xs:=#[.tmp 20,.tmp 26]) rfl ?_);at_builtin;refine Kd.R_append Kd.string (w0:=w) w.heap.size rfl (.tmp 20) (.tmp 26) 32 9 (.string ⟨#[]⟩) 16 rfl Tryd.underlying32 info9 rfl (by decide) (by omega) u5 x5_1 ((riS26 l0 x6_1).f0) [.string ((riS26 l0 x6_1).f0)] (fun _=>True) (fun _=>False) rfl rfl ?aP (fun _ hk=>hk.elim) ?aF ?aO ?aB ?aS ?aL ?_;(case aP=>exact rfl);(case aB=>exact (by repeat (first|(with_reducible first|exact HB.out|apply bal|apply pbN|apply bd1)|exact HB.out)));(case aF=>exact (fun _ _=>trivial));(case aO=>exact (by (with_reducible repeat (first|apply Kd.Ral|apply Kd.RdN|apply Kd.R_drew));exact HO_5.out));(case aS=>exact (bsz (by repeat (first|(with_reducible first|exact HB.out|apply bal|apply pbN|apply bd1)|exact HB.out))));(case aL=>have:=LMc10.out;omega);intro v475 w12 ho hb hg hat;rw [← Ny474.out] at ho;replace HB:=As0.mk (hb);have HO476:=As0.mk (ho);clear HO_5 ho hb hg hat;have p477:0 ≤ (x6_1:Int):=odt;have q477:x6_1 < (l0.length:Int):=odt;obtain ⟨ad477,e477,hx477_0,hx477_1,hx477_2,hx477_3,hx477_4⟩:=at_T30 HR0.out x6_1 p477 q477;obtain rfl:ad473 = ad477:=(by injection e477);replace hx477_0:=bx HB.out rfl hx477_0;replace hx477_1:=bx HB.out rfl hx477_1;replace hx477_2:=bx HB.out rfl hx477_2;replace hx477_3:=bx HB.out rfl hx477_3;replace hx477_4:=bx HB.out rfl hx477_4;replace p477:=eq_true p477;replace q477:=eq_true q477)|((with_reducible refine gca (f:=35) rfl ?_);refine gL (some 19) Tryd.func35 #[.slice (some ad473) l0.length c0,.string ((riS26 l0 x6_1).f1)] ?_;(with_reducible refine (impl_findSpace.calls _ _ l0 ((riS26 l0 x6_1).f1) t478 _ ?side1 ?side2 A11.out).mono ?_);(case side1=>repeat (first|exact (Kd.C_below HR0.out HB.out)|(with_reducible first|refine Kd.C_alloc ?_ _|refine Kd.C_drewN ?_ _|refine Kd.C_drew ?_)));(case side2=>exact HC0.out);rintro e w13 ⟨rfl,hb⟩;refine ⟨_,rfl,?_⟩;replace HO476:=As0.mk (Kd.R_below (by (with_reducible repeat (first|apply Kd.Ral|apply Kd.RdN|apply Kd.R_drew));exact HO476.out) hb);replace HB:=As0.mk (b3 HB.out hb);clear hb))
           show _;go_roundg k1
           case measure=>have:=HK1.out;omega
           case rel=>exact ⟨(y474),(t478),(by first|rfl|(simp;done)|(simp [*];done)),H',⟨by have:=HK1.out;omega⟩,⟨by (with_reducible repeat (first|apply Kd.Ral|apply Kd.RdN|apply Kd.R_drew));exact HO476.out⟩,⟨by repeat (first|(with_reducible first|exact HB.out|apply bal|apply pbN|apply bd1)|exact HB.out)⟩⟩
         · rw [if_neg c10] at H
           exact absurd H (by simp)
       · rw [if_neg c9] at H
         exact absurd H (by simp)
     · rw [if_neg c8] at H
       exact absurd H (by simp)
   · rw [if_neg c7] at H
     have c7b0:decide (0 ≤ x6_1) = false:=decide_eq_false c7;clear c7;obtain rfl:=Option.some.inj H
     go_wp2
     go_ret
     exact ⟨_,by first|rfl|(simp [errW_none,errW_some] <;> rfl)|(simp [*,errW_none,errW_some] <;> rfl),by (with_reducible repeat (first|apply Kd.Ral|apply Kd.RdN|apply Kd.R_drew));exact HO_5.out,by repeat (first|(with_reducible first|exact HB.out|apply bal|apply pbN|apply bd1)|exact HB.out)⟩
def impl_useSum.l0:Nat → List (SiS23) → ByteArray → Int → List (SiT24) → Int → Int → Option (Int)
 |0,_,_,_,_,_,_=>none
 |k + 1,x0,x2,x7,x10,x11,x12=>if x12 < x11 then (if 0 ≤ x12 then (if x12 < (x10.length:Int) then ((impl_spaceUp.f k x0 ((riT27 x10 x12).f0)).bind fun t481=>((slices_Contains_string_string.f k t481 x2).bind fun t484=>(if t484 = true then ((impl_costOf.f ((riT27 x10 x12).f6)).bind fun t485=>(impl_useSum.l0 k x0 x2 (wrap64 (x7 + t485)) x10 x11 (wrap64 (x12 + 1)))) else (impl_useSum.l0 k x0 x2 x7 x10 x11 (wrap64 (x12 + 1)))))) else (none)) else (none)) else (some x7)
def impl_useSum.f (k:Nat) (l0:List (SiS23)) (l1:List (SiT24)) (a2:ByteArray):Option (Int):=impl_useSum.l0 k l0 a2 0 l1 (l1.length:Int) 0
set_option maxHeartbeats 40000000 in
set_option maxRecDepth 100000 in
theorem impl_useSum.calls (k:Nat) (A0:Option Addr) (c0:Nat) (l0:List (SiS23)) (A1:Option Addr) (c1:Nat) (l1:List (SiT24)) (a2:ByteArray) (r:Int) (w:World) (hr0:Kd.C k30 w A0 l0.length l0) (hc0:l0.length ≤ c0) (hr1:Kd.C k34 w A1 l1.length l1) (hc1:l1.length ≤ c1) (h:impl_useSum.f k l0 l1 a2 = some r) :
 Calls Tryd.prog 21 #[.slice A0 l0.length c0,.slice A1 l1.length c1,.string a2] w fun e w'=>e = .returned (.int .i64 r) ∧ Below w.heap.size w w':=by
 have hu34:=Tryd.underlying34;have HR0:=As0.mk hr0;have HC0:=As0.mk hc0;clear hr0 hc0;have HR1:=As0.mk hr1;have HC1:=As0.mk hc1;clear hr1 hc1;have HB:=As0.mk (Below.refl w.heap.size w);have H:(impl_useSum.l0 k l0 a2 0 l1 (l1.length:Int) 0) = some r:=h;clear h;have H':=As0.mk H;clear H
 go_enter Tryd.func21,Tryd.ntmps21
 go_wp2
 show _;go_loopg [7,12] k (fun kq v7 v12 w'=>∃ (x7_1:Int) (x12_1:Int),v7 = .int .i64 x7_1 ∧ v12 = .int .i64 x12_1 ∧ As0 (impl_useSum.l0 kq l0 a2 x7_1 l1 (l1.length:Int) x12_1 = some r) ∧ As0 (kq ≤ k) ∧ As0 (Below w.heap.size w w'))
 case atStart=>exact ⟨(0),(0),(by first|rfl|(simp;done)|(simp [*];done)),(by first|rfl|(simp;done)|(simp [*];done)),H',⟨Nat.le_refl _⟩,⟨by repeat (first|(with_reducible first|exact HB.out|apply bal|apply pbN|apply bd1)|exact HB.out)⟩⟩
 case round=>
  clear H'
  try clear c1
  try clear c2
  try clear p2
  obtain ⟨x7_1,x12_1,rfl,rfl,HA,HK1,HB⟩:=hrel
  cases gk with
  |zero=>exact absurd HA.out (by simp [impl_useSum.l0])
  |succ k1=>
   have H:=HA.out;clear HA;simp only [impl_useSum.l0] at H;by_cases c4:x12_1 < (l1.length:Int)
   · rw [if_pos c4] at H
     have c4b0:decide (x12_1 < (l1.length:Int)) = true:=decide_eq_true c4;clear c4;by_cases c5:0 ≤ x12_1
     · rw [if_pos c5] at H
       have c5b0:decide (0 ≤ x12_1) = true:=decide_eq_true c5;clear c5;by_cases c6:x12_1 < (l1.length:Int)
       · rw [if_pos c6] at H
         have c6b0:decide (x12_1 < (l1.length:Int)) = true:=decide_eq_true c6;clear c6;replace H:=Option.bind_eq_some_iff.mp H;obtain ⟨t481,A70,H⟩:=H;(try dsimp only at H);have A7:=As0.mk A70;clear A70;replace H:=Option.bind_eq_some_iff.mp H;obtain ⟨t484,A80,H⟩:=H;(try dsimp only at H);have A8:=As0.mk A80;clear A80;by_cases c9:t484 = true
         · subst c9
           have H1:((impl_costOf.f ((riT27 l1 x12_1).f6)).bind fun t485=>(impl_useSum.l0 k1 l0 a2 (wrap64 (x7_1 + t485)) l1 (l1.length:Int) (wrap64 (x12_1 + 1)))) = some r:=by rw [if_pos rfl] at H;exact H
           clear H;have H:=H1;clear H1;replace H:=Option.bind_eq_some_iff.mp H;obtain ⟨t485,A100,H⟩:=H;(try dsimp only at H);have A10:=As0.mk A100;clear A100;have H':=As0.mk H;clear H;have p479:0 ≤ (x12_1:Int):=odt;have q479:x12_1 < (l1.length:Int):=odt;obtain ⟨ad479,A479_5,c479_5,e479,hx479_0,hx479_1,hx479_2,hx479_3,hx479_4,hx479_5,hx479_6,hl479_5,hi479_5⟩:=at_T34 HR1.out x12_1 p479 q479
           cases e479
           replace hx479_0:=bx HB.out rfl hx479_0;replace hx479_1:=bx HB.out rfl hx479_1;replace hx479_2:=bx HB.out rfl hx479_2;replace hx479_3:=bx HB.out rfl hx479_3;replace hx479_4:=bx HB.out rfl hx479_4;replace hx479_5:=bx HB.out rfl hx479_5;replace hx479_6:=bx HB.out rfl hx479_6;have HR479_5:=As0.mk hi479_5;have HC479_5:=As0.mk hl479_5;clear hi479_5 hl479_5;replace p479:=eq_true p479;replace q479:=eq_true q479
           go_wp2_with (first|((with_reducible refine gate_dst (N:=9) rfl ?_);refine bE 9 #[.string ⟨#[]⟩,.string ⟨#[]⟩,.int .i64 0,.int .i64 0,.bool false,.slice none 0 0,.string ⟨#[]⟩] 34 ?_;intro gb480 hg w11 hbox hb;have BK480:=As0.mk (hbox);have GW480:=As0.mk ((by rw [hg];exact (bsz (by repeat (first|(with_reducible first|exact HB.out|apply bal|apply pbN|apply bd1)|exact HB.out))):w.heap.size ≤ gb480));have GE480:=GW480;replace HB:=As0.mk (b3 HB.out hb);clear hb hbox hg;obtain ⟨hcz12_0,hcz12_1,hcz12_2,hcz12_3,hcz12_4,hcz12_5,hcz12_6⟩:=qc7 BK480.out;obtain ⟨hfz12_0,hfz12_1,hfz12_2,hfz12_3,hfz12_4,hfz12_5,hfz12_6⟩:=qz7 BK480.out)|((with_reducible refine gca (f:=40) rfl ?_);refine gL (some 19) Tryd.func40 #[.slice A0 l0.length c0,.string ((riT27 l1 x12_1).f0)] ?_;(with_reducible refine (impl_spaceUp.calls k1 _ _ l0 ((riT27 l1 x12_1).f0) t481 _ ?side1 ?side2 A7.out).mono ?_);(case side1=>exact Kd.C_below HR0.out (by repeat (first|(with_reducible first|exact HB.out|apply bal|apply pbN|apply bd1|refine bst ?_ GE480.out)|exact HB.out)));(case side2=>exact HC0.out);rintro e w13 ⟨v482,rfl,ho0,hb⟩;refine ⟨_,rfl,?_⟩;have HO483:=As0.mk (Kd.R_lower ho0 (bsz (by repeat (first|(with_reducible first|exact HB.out|apply bal|apply pbN|apply bd1|refine bst ?_ GE480.out)|exact HB.out))));replace BK480:=As0.mk (blk_below (g:=gb480) (o:=.cells #[.string ((riT27 l1 x12_1).f0),.string ((riT27 l1 x12_1).f1),.int .i64 ((riT27 l1 x12_1).f2),.int .i64 ((riT27 l1 x12_1).f3),.bool ((riT27 l1 x12_1).f4),.slice A479_5 ((riT27 l1 x12_1).f5).length c479_5,.string ((riT27 l1 x12_1).f6)] 34 (0,0)) (by (with_reducible repeat (first|refine bkN ?_ _|refine bkD ?_|refine bkA ?_ _));refine blk_put (cs:=#[.string ((riT27 l1 x12_1).f0),.string ((riT27 l1 x12_1).f1),.int .i64 ((riT27 l1 x12_1).f2),.int .i64 ((riT27 l1 x12_1).f3),.bool ((riT27 l1 x12_1).f4),.slice A479_5 ((riT27 l1 x12_1).f5).length c479_5,.string ⟨#[]⟩]) ?_ 6 _ rfl;(with_reducible repeat (first|refine bkN ?_ _|refine bkD ?_|refine bkA ?_ _));refine blk_put (cs:=#[.string ((riT27 l1 x12_1).f0),.string ((riT27 l1 x12_1).f1),.int .i64 ((riT27 l1 x12_1).f2),.int .i64 ((riT27 l1 x12_1).f3),.bool ((riT27 l1 x12_1).f4),.slice none 0 0,.string ⟨#[]⟩]) ?_ 5 _ rfl;(with_reducible repeat (first|refine bkN ?_ _|refine bkD ?_|refine bkA ?_ _));refine blk_put (cs:=#[.string ((riT27 l1 x12_1).f0),.string ((riT27 l1 x12_1).f1),.int .i64 ((riT27 l1 x12_1).f2),.int .i64 ((riT27 l1 x12_1).f3),.bool false,.slice none 0 0,.string ⟨#[]⟩]) ?_ 4 _ rfl;(with_reducible repeat (first|refine bkN ?_ _|refine bkD ?_|refine bkA ?_ _));refine blk_put (cs:=#[.string ((riT27 l1 x12_1).f0),.string ((riT27 l1 x12_1).f1),.int .i64 ((riT27 l1 x12_1).f2),.int .i64 0,.bool false,.slice none 0 0,.string ⟨#[]⟩]) ?_ 3 _ rfl;(with_reducible repeat (first|refine bkN ?_ _|refine bkD ?_|refine bkA ?_ _));refine blk_put (cs:=#[.string ((riT27 l1 x12_1).f0),.string ((riT27 l1 x12_1).f1),.int .i64 0,.int .i64 0,.bool false,.slice none 0 0,.string ⟨#[]⟩]) ?_ 2 _ rfl;(with_reducible repeat (first|refine bkN ?_ _|refine bkD ?_|refine bkA ?_ _));refine blk_put (cs:=#[.string ((riT27 l1 x12_1).f0),.string ⟨#[]⟩,.int .i64 0,.int .i64 0,.bool false,.slice none 0 0,.string ⟨#[]⟩]) ?_ 1 _ rfl;(with_reducible repeat (first|refine bkN ?_ _|refine bkD ?_|refine bkA ?_ _));refine blk_put (cs:=#[.string ⟨#[]⟩,.string ⟨#[]⟩,.int .i64 0,.int .i64 0,.bool false,.slice none 0 0,.string ⟨#[]⟩]) ?_ 0 _ rfl;(with_reducible repeat (first|refine bkN ?_ _|refine bkD ?_|refine bkA ?_ _));exact BK480.out) hb);replace HB:=As0.mk (bsp (by repeat (first|(with_reducible first|exact HB.out|apply bal|apply pbN|apply bd1|refine bst ?_ GE480.out)|exact HB.out)) hb);clear hb ho0;obtain ⟨Ao14,co14,eo14⟩:=Kd.R_slice HO483.out;subst eo14)|((with_reducible refine gca (f:=39) rfl ?_);refine gL (some 21) Tryd.func39 #[.slice Ao14 t481.length co14,.string a2] ?_;(with_reducible refine (slices_Contains_string_string.calls k1 _ _ t481 a2 true _ ?side1 ?side2 A8.out).mono ?_);(case side1=>repeat (first|exact (Kd.R_reads' HO483.out).2.2|(with_reducible first|refine Kd.C_alloc ?_ _|refine Kd.C_drewN ?_ _|refine Kd.C_drew ?_)));(case side2=>exact (Kd.R_reads' HO483.out).2.1);rintro e w' ⟨rfl,⟨nd,rfl⟩⟩;refine ⟨_,rfl,?_⟩;obtain ⟨hcz15_0,hcz15_1,hcz15_2,hcz15_3,hcz15_4,hcz15_5,hcz15_6⟩:=qc7 BK480.out;obtain ⟨hfz15_0,hfz15_1,hfz15_2,hfz15_3,hfz15_4,hfz15_5,hfz15_6⟩:=qz7 BK480.out)|((with_reducible refine gca (f:=28) rfl ?_);refine gL (some 25) Tryd.func28 #[.string ((riT27 l1 x12_1).f6)] ?_;(with_reducible refine (impl_costOf.calls ((riT27 l1 x12_1).f6) t485 _ A10.out).mono ?_);rintro e w' ⟨rfl,⟨nd,rfl⟩⟩;refine ⟨_,rfl,?_⟩))
           show _;go_roundg k1
           case measure=>have:=HK1.out;omega
           case rel=>exact ⟨(wrap64 (x7_1 + t485)),(wrap64 (x12_1 + 1)),(by first|rfl|(simp;done)|(simp [*];done)),(by first|rfl|(simp;done)|(simp [*];done)),H',⟨by have:=HK1.out;omega⟩,⟨by repeat (first|(with_reducible first|exact HB.out|apply bal|apply pbN|apply bd1|refine bst ?_ GE480.out)|exact HB.out)⟩⟩
         · replace c9:=Bool.eq_false_iff.mpr c9
           subst c9;have H1:(impl_useSum.l0 k1 l0 a2 x7_1 l1 (l1.length:Int) (wrap64 (x12_1 + 1))) = some r:=by rw [if_neg (show ¬ (false = true) by decide)] at H;exact H
           clear H;have H:=H1;clear H1;have H':=As0.mk H;clear H;have p479:0 ≤ (x12_1:Int):=odt;have q479:x12_1 < (l1.length:Int):=odt;obtain ⟨ad479,A479_5,c479_5,e479,hx479_0,hx479_1,hx479_2,hx479_3,hx479_4,hx479_5,hx479_6,hl479_5,hi479_5⟩:=at_T34 HR1.out x12_1 p479 q479
           cases e479
           replace hx479_0:=bx HB.out rfl hx479_0;replace hx479_1:=bx HB.out rfl hx479_1;replace hx479_2:=bx HB.out rfl hx479_2;replace hx479_3:=bx HB.out rfl hx479_3;replace hx479_4:=bx HB.out rfl hx479_4;replace hx479_5:=bx HB.out rfl hx479_5;replace hx479_6:=bx HB.out rfl hx479_6;have HR479_5:=As0.mk hi479_5;have HC479_5:=As0.mk hl479_5;clear hi479_5 hl479_5;replace p479:=eq_true p479;replace q479:=eq_true q479
           go_wp2_with (first|((with_reducible refine gate_dst (N:=9) rfl ?_);refine bE 9 #[.string ⟨#[]⟩,.string ⟨#[]⟩,.int .i64 0,.int .i64 0,.bool false,.slice none 0 0,.string ⟨#[]⟩] 34 ?_;intro gb480 hg w16 hbox hb;have BK480:=As0.mk (hbox);have GW480:=As0.mk ((by rw [hg];exact (bsz (by repeat (first|(with_reducible first|exact HB.out|apply bal|apply pbN|apply bd1)|exact HB.out))):w.heap.size ≤ gb480));have GE480:=GW480;replace HB:=As0.mk (b3 HB.out hb);clear hb hbox hg;obtain ⟨hcz17_0,hcz17_1,hcz17_2,hcz17_3,hcz17_4,hcz17_5,hcz17_6⟩:=qc7 BK480.out;obtain ⟨hfz17_0,hfz17_1,hfz17_2,hfz17_3,hfz17_4,hfz17_5,hfz17_6⟩:=qz7 BK480.out)|((with_reducible refine gca (f:=40) rfl ?_);refine gL (some 19) Tryd.func40 #[.slice A0 l0.length c0,.string ((riT27 l1 x12_1).f0)] ?_;(with_reducible refine (impl_spaceUp.calls k1 _ _ l0 ((riT27 l1 x12_1).f0) t481 _ ?side1 ?side2 A7.out).mono ?_);(case side1=>exact Kd.C_below HR0.out (by repeat (first|(with_reducible first|exact HB.out|apply bal|apply pbN|apply bd1|refine bst ?_ GE480.out)|exact HB.out)));(case side2=>exact HC0.out);rintro e w18 ⟨v482,rfl,ho0,hb⟩;refine ⟨_,rfl,?_⟩;have HO483:=As0.mk (Kd.R_lower ho0 (bsz (by repeat (first|(with_reducible first|exact HB.out|apply bal|apply pbN|apply bd1|refine bst ?_ GE480.out)|exact HB.out))));replace BK480:=As0.mk (blk_below (g:=gb480) (o:=.cells #[.string ((riT27 l1 x12_1).f0),.string ((riT27 l1 x12_1).f1),.int .i64 ((riT27 l1 x12_1).f2),.int .i64 ((riT27 l1 x12_1).f3),.bool ((riT27 l1 x12_1).f4),.slice A479_5 ((riT27 l1 x12_1).f5).length c479_5,.string ((riT27 l1 x12_1).f6)] 34 (0,0)) (by (with_reducible repeat (first|refine bkN ?_ _|refine bkD ?_|refine bkA ?_ _));refine blk_put (cs:=#[.string ((riT27 l1 x12_1).f0),.string ((riT27 l1 x12_1).f1),.int .i64 ((riT27 l1 x12_1).f2),.int .i64 ((riT27 l1 x12_1).f3),.bool ((riT27 l1 x12_1).f4),.slice A479_5 ((riT27 l1 x12_1).f5).length c479_5,.string ⟨#[]⟩]) ?_ 6 _ rfl;(with_reducible repeat (first|refine bkN ?_ _|refine bkD ?_|refine bkA ?_ _));refine blk_put (cs:=#[.string ((riT27 l1 x12_1).f0),.string ((riT27 l1 x12_1).f1),.int .i64 ((riT27 l1 x12_1).f2),.int .i64 ((riT27 l1 x12_1).f3),.bool ((riT27 l1 x12_1).f4),.slice none 0 0,.string ⟨#[]⟩]) ?_ 5 _ rfl;(with_reducible repeat (first|refine bkN ?_ _|refine bkD ?_|refine bkA ?_ _));refine blk_put (cs:=#[.string ((riT27 l1 x12_1).f0),.string ((riT27 l1 x12_1).f1),.int .i64 ((riT27 l1 x12_1).f2),.int .i64 ((riT27 l1 x12_1).f3),.bool false,.slice none 0 0,.string ⟨#[]⟩]) ?_ 4 _ rfl;(with_reducible repeat (first|refine bkN ?_ _|refine bkD ?_|refine bkA ?_ _));refine blk_put (cs:=#[.string ((riT27 l1 x12_1).f0),.string ((riT27 l1 x12_1).f1),.int .i64 ((riT27 l1 x12_1).f2),.int .i64 0,.bool false,.slice none 0 0,.string ⟨#[]⟩]) ?_ 3 _ rfl;(with_reducible repeat (first|refine bkN ?_ _|refine bkD ?_|refine bkA ?_ _));refine blk_put (cs:=#[.string ((riT27 l1 x12_1).f0),.string ((riT27 l1 x12_1).f1),.int .i64 0,.int .i64 0,.bool false,.slice none 0 0,.string ⟨#[]⟩]) ?_ 2 _ rfl;(with_reducible repeat (first|refine bkN ?_ _|refine bkD ?_|refine bkA ?_ _));refine blk_put (cs:=#[.string ((riT27 l1 x12_1).f0),.string ⟨#[]⟩,.int .i64 0,.int .i64 0,.bool false,.slice none 0 0,.string ⟨#[]⟩]) ?_ 1 _ rfl;(with_reducible repeat (first|refine bkN ?_ _|refine bkD ?_|refine bkA ?_ _));refine blk_put (cs:=#[.string ⟨#[]⟩,.string ⟨#[]⟩,.int .i64 0,.int .i64 0,.bool false,.slice none 0 0,.string ⟨#[]⟩]) ?_ 0 _ rfl;(with_reducible repeat (first|refine bkN ?_ _|refine bkD ?_|refine bkA ?_ _));exact BK480.out) hb);replace HB:=As0.mk (bsp (by repeat (first|(with_reducible first|exact HB.out|apply bal|apply pbN|apply bd1|refine bst ?_ GE480.out)|exact HB.out)) hb);clear hb ho0;obtain ⟨Ao19,co19,eo19⟩:=Kd.R_slice HO483.out;subst eo19)|((with_reducible refine gca (f:=39) rfl ?_);refine gL (some 21) Tryd.func39 #[.slice Ao19 t481.length co19,.string a2] ?_;(with_reducible refine (slices_Contains_string_string.calls k1 _ _ t481 a2 false _ ?side1 ?side2 A8.out).mono ?_);(case side1=>repeat (first|exact (Kd.R_reads' HO483.out).2.2|(with_reducible first|refine Kd.C_alloc ?_ _|refine Kd.C_drewN ?_ _|refine Kd.C_drew ?_)));(case side2=>exact (Kd.R_reads' HO483.out).2.1);rintro e w' ⟨rfl,⟨nd,rfl⟩⟩;refine ⟨_,rfl,?_⟩))
           show _;go_roundg k1
           case measure=>have:=HK1.out;omega
           case rel=>exact ⟨(x7_1),(wrap64 (x12_1 + 1)),(by first|rfl|(simp;done)|(simp [*];done)),(by first|rfl|(simp;done)|(simp [*];done)),H',⟨by have:=HK1.out;omega⟩,⟨by repeat (first|(with_reducible first|exact HB.out|apply bal|apply pbN|apply bd1|refine bst ?_ GE480.out)|exact HB.out)⟩⟩
       · rw [if_neg c6] at H
         exact absurd H (by simp)
     · rw [if_neg c5] at H
       exact absurd H (by simp)
   · rw [if_neg c4] at H
     have c4b0:decide (x12_1 < (l1.length:Int)) = false:=decide_eq_false c4;clear c4;obtain rfl:=Option.some.inj H
     go_wp2
     go_ret
     exact ⟨eW,HB.out⟩
def impl_UseSum.f (k:Nat) (l0:List (SiS23)) (l1:List (SiT24)) (a2:ByteArray):Option (Int):=(impl_areSpaces.f k l0).bind fun t486=>(if t486 = true then ((impl_Thing_18.f k l1).bind fun t487=>(if t487 = true then (some 0) else ((impl_useSum.f k l0 l1 a2).bind fun t488=>(some t488)))) else (some 0))
set_option maxHeartbeats 40000000 in
set_option maxRecDepth 100000 in
theorem impl_UseSum.calls (k:Nat) (A0:Option Addr) (c0:Nat) (l0:List (SiS23)) (A1:Option Addr) (c1:Nat) (l1:List (SiT24)) (a2:ByteArray) (r:Int) (w:World) (hr0:Kd.C k30 w A0 l0.length l0) (hc0:l0.length ≤ c0) (hr1:Kd.C k34 w A1 l1.length l1) (hc1:l1.length ≤ c1) (h:impl_UseSum.f k l0 l1 a2 = some r) :
 Calls Tryd.prog 5 #[.slice A0 l0.length c0,.slice A1 l1.length c1,.string a2] w fun e w'=>e = .returned (.int .i64 r) ∧ Below w.heap.size w w':=by
 have HR0:=As0.mk hr0;have HC0:=As0.mk hc0;clear hr0 hc0;have HR1:=As0.mk hr1;have HC1:=As0.mk hc1;clear hr1 hc1;have HB:=As0.mk (Below.refl w.heap.size w);have H:((impl_areSpaces.f k l0).bind fun t486=>(if t486 = true then ((impl_Thing_18.f k l1).bind fun t487=>(if t487 = true then (some 0) else ((impl_useSum.f k l0 l1 a2).bind fun t488=>(some t488)))) else (some 0))) = some r:=h;clear h;replace H:=Option.bind_eq_some_iff.mp H;obtain ⟨t486,A40,H⟩:=H;(try dsimp only at H);have A4:=As0.mk A40;clear A40;by_cases c5:t486 = true
 · subst c5
   have H1:((impl_Thing_18.f k l1).bind fun t487=>(if t487 = true then (some 0) else ((impl_useSum.f k l0 l1 a2).bind fun t488=>(some t488)))) = some r:=by rw [if_pos rfl] at H;exact H
   clear H;have H:=H1;clear H1;replace H:=Option.bind_eq_some_iff.mp H;obtain ⟨t487,A60,H⟩:=H;(try dsimp only at H);have A6:=As0.mk A60;clear A60;by_cases c7:t487 = true
   · subst c7
     have H1:(some 0) = some r:=by rw [if_pos rfl] at H;exact H
     clear H;have H:=H1;clear H1;obtain rfl:=Option.some.inj H
     go_enter Tryd.func5,Tryd.ntmps5
     go_wp2_with (first|((with_reducible refine gca (f:=17) rfl ?_);refine gL (some 8) Tryd.func17 #[.slice A0 l0.length c0] ?_;(with_reducible refine (impl_areSpaces.calls k _ _ l0 true _ ?side1 ?side2 A4.out).mono ?_);(case side1=>repeat (first|exact HR0.out|(with_reducible first|refine Kd.C_alloc ?_ _|refine Kd.C_drewN ?_ _|refine Kd.C_drew ?_)));(case side2=>exact HC0.out);rintro e w8 ⟨rfl,hb⟩;refine ⟨_,rfl,?_⟩;replace HB:=As0.mk (b3 HB.out hb);clear hb)|(go_at_call 18;(with_reducible refine (impl_Thing_18.calls k _ _ l1   true _ ?side1 ?side2 A6.out).mono ?_);(case side1=>repeat (first|exact (Kd.C_below HR1.out HB.out)|(with_reducible first|refine Kd.C_alloc ?_ _|refine Kd.C_drewN ?_ _|refine Kd.C_drew ?_)));(case side2=>exact HC1.out);rintro e w9 ⟨rfl,hb⟩;replace HB:=As0.mk (b3 HB.out hb);clear hb))
     go_ret
     exact ⟨eW,by repeat (first|(with_reducible first|exact HB.out|apply bal|apply pbN|apply bd1)|exact HB.out)⟩
   · replace c7:=Bool.eq_false_iff.mpr c7
     subst c7;have H1:((impl_useSum.f k l0 l1 a2).bind fun t488=>(some t488)) = some r:=by rw [if_neg (show ¬ (false = true) by decide)] at H;exact H
     clear H;have H:=H1;clear H1;replace H:=Option.bind_eq_some_iff.mp H;obtain ⟨t488,A100,H⟩:=H;(try dsimp only at H);have A10:=As0.mk A100;clear A100;obtain rfl:=Option.some.inj H
     go_enter Tryd.func5,Tryd.ntmps5
     go_wp2_with (first|((with_reducible refine gca (f:=17) rfl ?_);refine gL (some 8) Tryd.func17 #[.slice A0 l0.length c0] ?_;(with_reducible refine (impl_areSpaces.calls k _ _ l0 true _ ?side1 ?side2 A4.out).mono ?_);(case side1=>repeat (first|exact HR0.out|(with_reducible first|refine Kd.C_alloc ?_ _|refine Kd.C_drewN ?_ _|refine Kd.C_drew ?_)));(case side2=>exact HC0.out);rintro e w11 ⟨rfl,hb⟩;refine ⟨_,rfl,?_⟩;replace HB:=As0.mk (b3 HB.out hb);clear hb)|(go_at_call 18;(with_reducible refine (impl_Thing_18.calls k _ _ l1   false _ ?side1 ?side2 A6.out).mono ?_);(case side1=>repeat (first|exact (Kd.C_below HR1.out HB.out)|(with_reducible first|refine Kd.C_alloc ?_ _|refine Kd.C_drewN ?_ _|refine Kd.C_drew ?_)));(case side2=>exact HC1.out);rintro e w12 ⟨rfl,hb⟩;replace HB:=As0.mk (b3 HB.out hb);clear hb)|((with_reducible refine gca (f:=21) rfl ?_);refine gL (some 17) Tryd.func21 #[.slice A0 l0.length c0,.slice A1 l1.length c1,.string a2] ?_;(with_reducible refine (impl_useSum.calls k _ _ l0 _ _ l1 a2 t488 _ ?side1 ?side2 ?side3 ?side4 A10.out).mono ?_);(case side1=>repeat (first|exact (Kd.C_below HR0.out HB.out)|(with_reducible first|refine Kd.C_alloc ?_ _|refine Kd.C_drewN ?_ _|refine Kd.C_drew ?_)));(case side2=>exact HC0.out);(case side3=>repeat (first|exact (Kd.C_below HR1.out HB.out)|(with_reducible first|refine Kd.C_alloc ?_ _|refine Kd.C_drewN ?_ _|refine Kd.C_drew ?_)));(case side4=>exact HC1.out);rintro e w13 ⟨rfl,hb⟩;refine ⟨_,rfl,?_⟩;replace HB:=As0.mk (b3 HB.out hb);clear hb))
     go_ret
     exact ⟨eW,by repeat (first|(with_reducible first|exact HB.out|apply bal|apply pbN|apply bd1)|exact HB.out)⟩
 · replace c5:=Bool.eq_false_iff.mpr c5
   subst c5;have H1:(some 0) = some r:=by rw [if_neg (show ¬ (false = true) by decide)] at H;exact H
   clear H;have H:=H1;clear H1;obtain rfl:=Option.some.inj H
   go_enter Tryd.func5,Tryd.ntmps5
   go_wp2_with (first|((with_reducible refine gca (f:=17) rfl ?_);refine gL (some 8) Tryd.func17 #[.slice A0 l0.length c0] ?_;(with_reducible refine (impl_areSpaces.calls k _ _ l0 false _ ?side1 ?side2 A4.out).mono ?_);(case side1=>repeat (first|exact HR0.out|(with_reducible first|refine Kd.C_alloc ?_ _|refine Kd.C_drewN ?_ _|refine Kd.C_drew ?_)));(case side2=>exact HC0.out);rintro e w14 ⟨rfl,hb⟩;refine ⟨_,rfl,?_⟩;replace HB:=As0.mk (b3 HB.out hb);clear hb))
   go_ret
   exact ⟨eW,by repeat (first|(with_reducible first|exact HB.out|apply bal|apply pbN|apply bd1)|exact HB.out)⟩
def spec_l1In.f (a0:Int) (a1:Int) (a2:Int):Option (Bool):=if a0 ≥ a1 then (some (decide (a0 ≤ a2))) else (some false)
set_option maxHeartbeats 40000000 in
set_option maxRecDepth 100000 in
theorem spec_l1In.calls (a0:Int) (a1:Int) (a2:Int) (r:Bool) (w:World) (h:spec_l1In.f a0 a1 a2 = some r) :
 Calls Tryd.prog 26 #[.int .i64 a0,.int .i64 a1,.int .i64 a2] w fun e w'=>e = .returned (.bool r) ∧ Drawn0 w w':=by
 have H:(if a0 ≥ a1 then (some (decide (a0 ≤ a2))) else (some false)) = some r:=h;clear h;by_cases c4:a0 ≥ a1
 · rw [if_pos c4] at H
   have c4b0:decide (a1 ≤ a0) = true:=decide_eq_true c4;clear c4;obtain rfl:=Option.some.inj H
   go_enter Tryd.func26,Tryd.ntmps26
   go_wp2
   go_ret
   exact ⟨by first|rfl|(simp;done)|(simp [*];done),by repeat (first|exact Drawn0.refl _|apply Drawn0.step)⟩
 · rw [if_neg c4] at H
   have c4b0:decide (a1 ≤ a0) = false:=decide_eq_false c4;clear c4;obtain rfl:=Option.some.inj H
   go_enter Tryd.func26,Tryd.ntmps26
   go_wp2
   go_ret
   exact ⟨by first|rfl|(simp;done)|(simp [*];done),by repeat (first|exact Drawn0.refl _|apply Drawn0.step)⟩
def spec_NameOk.l0:Nat → ByteArray → Int → Option (Bool)
 |0,_,_=>none
 |k + 1,x0,x3=>if x3 < (x0.size:Int) then (if 0 ≤ x3 then (if (bt x0 x3) < 97 then (some false) else (if (bt x0 x3) > 122 then (some false) else (spec_NameOk.l0 k x0 (wrap64 (x3 + 1))))) else (none)) else ((spec_l1In.f (x0.size:Int) 1 6).bind fun t489=>(some t489))
def spec_NameOk.f (k:Nat) (a0:ByteArray):Option (Bool):=spec_NameOk.l0 k a0 0
set_option maxHeartbeats 40000000 in
set_option maxRecDepth 100000 in
theorem spec_NameOk.calls (k:Nat) (a0:ByteArray) (r:Bool) (w:World) (h:spec_NameOk.f k a0 = some r) :
 Calls Tryd.prog 41 #[.string a0] w fun e w'=>e = .returned (.bool r) ∧ Drawn0 w w':=by
 have H:(spec_NameOk.l0 k a0 0) = some r:=h;clear h;have H':=As0.mk H;clear H
 go_enter Tryd.func41,Tryd.ntmps41
 go_wp2
 show _;go_loopg [3] k (fun kq v3 w'=>∃ (x3_1:Int),v3 = .int .i64 x3_1 ∧ As0 (spec_NameOk.l0 kq a0 x3_1 = some r) ∧ As0 (kq ≤ k) ∧ Drawn0 w w')
 case atStart=>exact ⟨(0),(by first|rfl|(simp;done)|(simp [*];done)),H',⟨Nat.le_refl _⟩,by repeat (first|exact Drawn0.refl _|apply Drawn0.step)⟩
 case round=>
  clear H';obtain ⟨x3_1,rfl,HA,HK1,⟨m1,rfl⟩⟩:=hrel
  cases gk with
  |zero=>exact absurd HA.out (by simp [spec_NameOk.l0])
  |succ k1=>
   have H:=HA.out;clear HA;simp only [spec_NameOk.l0] at H;by_cases c2:x3_1 < (a0.size:Int)
   · rw [if_pos c2] at H
     have c2b0:decide (x3_1 < (a0.size:Int)) = true:=decide_eq_true c2;clear c2;by_cases c3:0 ≤ x3_1
     · rw [if_pos c3] at H
       have c3b0:decide (0 ≤ x3_1) = true:=decide_eq_true c3;clear c3;by_cases c5:(bt a0 x3_1) < 97
       · rw [if_pos c5] at H
         have c5b0:decide ((bt a0 x3_1) < 97) = true:=decide_eq_true c5;clear c5;obtain rfl:=Option.some.inj H;have p4:0 ≤ (x3_1:Int):=odt;have q4:x3_1 < (a0.size:Int):=odt;have hx4:=bt_at a0 x3_1;replace p4:=eq_true p4;replace q4:=eq_true q4
         go_wp2
         go_ret
         exact ⟨by first|rfl|(simp;done)|(simp [*];done),by repeat (first|exact Drawn0.refl _|apply Drawn0.step)⟩
       · rw [if_neg c5] at H
         have c5b0:decide ((bt a0 x3_1) < 97) = false:=decide_eq_false c5;clear c5;by_cases c7:(bt a0 x3_1) > 122
         · rw [if_pos c7] at H
           have c7b0:decide (122 < (bt a0 x3_1)) = true:=decide_eq_true c7;clear c7;obtain rfl:=Option.some.inj H;have p4:0 ≤ (x3_1:Int):=odt;have q4:x3_1 < (a0.size:Int):=odt;have hx4:=bt_at a0 x3_1;replace p4:=eq_true p4;replace q4:=eq_true q4;have p6:0 ≤ (x3_1:Int):=odt;have q6:x3_1 < (a0.size:Int):=odt;have hx6:=bt_at a0 x3_1;replace p6:=eq_true p6;replace q6:=eq_true q6
           go_wp2
           go_ret
           exact ⟨by first|rfl|(simp;done)|(simp [*];done),by repeat (first|exact Drawn0.refl _|apply Drawn0.step)⟩
         · rw [if_neg c7] at H
           have c7b0:decide (122 < (bt a0 x3_1)) = false:=decide_eq_false c7;clear c7;have H':=As0.mk H;clear H;have p4:0 ≤ (x3_1:Int):=odt;have q4:x3_1 < (a0.size:Int):=odt;have hx4:=bt_at a0 x3_1;replace p4:=eq_true p4;replace q4:=eq_true q4;have p6:0 ≤ (x3_1:Int):=odt;have q6:x3_1 < (a0.size:Int):=odt;have hx6:=bt_at a0 x3_1;replace p6:=eq_true p6;replace q6:=eq_true q6
           go_wp2
           show _;go_roundg k1
           case measure=>have:=HK1.out;omega
           case rel=>exact ⟨(wrap64 (x3_1 + 1)),(by first|rfl|(simp;done)|(simp [*];done)),H',⟨by have:=HK1.out;omega⟩,by repeat (first|exact Drawn0.refl _|apply Drawn0.step)⟩
     · rw [if_neg c3] at H
       exact absurd H (by simp)
   · rw [if_neg c2] at H
     have c2b0:decide (x3_1 < (a0.size:Int)) = false:=decide_eq_false c2;clear c2;replace H:=Option.bind_eq_some_iff.mp H;obtain ⟨t489,A80,H⟩:=H;(try dsimp only at H);have A8:=As0.mk A80;clear A80;obtain rfl:=Option.some.inj H
     go_wp2_with (first|((with_reducible refine gca (f:=26) rfl ?_);refine gL (some 22) Tryd.func26 #[.int .i64 (a0.size:Int),.int .i64 1,.int .i64 6] ?_;(with_reducible refine (spec_l1In.calls (a0.size:Int) 1 6 t489 _ A8.out).mono ?_);rintro e w' ⟨rfl,⟨nd,rfl⟩⟩;refine ⟨_,rfl,?_⟩))
     go_ret
     exact ⟨by first|rfl|(simp;done)|(simp [*];done),by repeat (first|exact Drawn0.refl _|apply Drawn0.step)⟩
def spec_l8Ok.f (k:Nat) (a0_0:ByteArray) (a0_1:ByteArray) (a0_2:Int) (a0_3:Bool) (a0_4:Int):Option (Bool):=(spec_NameOk.f k a0_0).bind fun t491=>(if t491 = true then (if a0_1.toList = ([]:List UInt8) then (if ((a0_1.toList == ([]:List UInt8)) == (a0_0.toList == ([97,108,108]:List UInt8))) = true then ((spec_l1In.f a0_2 (-1) 99999).bind fun t492=>(if t492 = true then ((spec_l1In.f a0_4 0 99999).bind fun t493=>(if t493 = true then (some (!a0_3)) else (some false))) else (some false))) else (some false)) else ((spec_NameOk.f k a0_1).bind fun t494=>(if t494 = true then (if ((a0_1.toList == ([]:List UInt8)) == (a0_0.toList == ([97,108,108]:List UInt8))) = true then ((spec_l1In.f a0_2 (-1) 99999).bind fun t495=>(if t495 = true then ((spec_l1In.f a0_4 0 99999).bind fun t496=>(if t496 = true then (some true) else (some false))) else (some false))) else (some false)) else (some false)))) else (some false))
set_option maxHeartbeats 40000000 in
set_option maxRecDepth 100000 in
theorem spec_l8Ok.calls (k:Nat) (a0_0:ByteArray) (a0_1:ByteArray) (a0_2:Int) (a0_3:Bool) (a0_4:Int) (r:Bool) (w:World) (h:spec_l8Ok.f k a0_0 a0_1 a0_2 a0_3 a0_4 = some r) :
 Calls Tryd.prog 24 #[.agg #[.string a0_0,.string a0_1,.int .i64 a0_2,.bool a0_3,.int .i64 a0_4]] w fun e w'=>e = .returned (.bool r) ∧ Below w.heap.size w w':=by
 have hu30:=Tryd.underlying30;have HB:=As0.mk (Below.refl w.heap.size w);have H:((spec_NameOk.f k a0_0).bind fun t491=>(if t491 = true then (if a0_1.toList = ([]:List UInt8) then (if ((a0_1.toList == ([]:List UInt8)) == (a0_0.toList == ([97,108,108]:List UInt8))) = true then ((spec_l1In.f a0_2 (-1) 99999).bind fun t492=>(if t492 = true then ((spec_l1In.f a0_4 0 99999).bind fun t493=>(if t493 = true then (some (!a0_3)) else (some false))) else (some false))) else (some false)) else ((spec_NameOk.f k a0_1).bind fun t494=>(if t494 = true then (if ((a0_1.toList == ([]:List UInt8)) == (a0_0.toList == ([97,108,108]:List UInt8))) = true then ((spec_l1In.f a0_2 (-1) 99999).bind fun t495=>(if t495 = true then ((spec_l1In.f a0_4 0 99999).bind fun t496=>(if t496 = true then (some true) else (some false))) else (some false))) else (some false)) else (some false)))) else (some false))) = some r:=h;clear h;replace H:=Option.bind_eq_some_iff.mp H;obtain ⟨t491,A20,H⟩:=H;(try dsimp only at H);have A2:=As0.mk A20;clear A20;by_cases c3:t491 = true
 · subst c3
   have H1:(if a0_1.toList = ([]:List UInt8) then (if ((a0_1.toList == ([]:List UInt8)) == (a0_0.toList == ([97,108,108]:List UInt8))) = true then ((spec_l1In.f a0_2 (-1) 99999).bind fun t492=>(if t492 = true then ((spec_l1In.f a0_4 0 99999).bind fun t493=>(if t493 = true then (some (!a0_3)) else (some false))) else (some false))) else (some false)) else ((spec_NameOk.f k a0_1).bind fun t494=>(if t494 = true then (if ((a0_1.toList == ([]:List UInt8)) == (a0_0.toList == ([97,108,108]:List UInt8))) = true then ((spec_l1In.f a0_2 (-1) 99999).bind fun t495=>(if t495 = true then ((spec_l1In.f a0_4 0 99999).bind fun t496=>(if t496 = true then (some true) else (some false))) else (some false))) else (some false)) else (some false)))) = some r:=by rw [if_pos rfl] at H;exact H
   clear H;have H:=H1;clear H1;by_cases c4:a0_1.toList = ([]:List UInt8)
   · rw [if_pos c4] at H
     have c4b0:(a0_1.toList == ([]:List UInt8)) = true:=beq_iff_eq.mpr c4;have c4b1:(a0_1.toList != ([]:List UInt8)) = false:=bne_eq_false_iff_eq.mpr c4;clear c4;by_cases c5:((a0_1.toList == ([]:List UInt8)) == (a0_0.toList == ([97,108,108]:List UInt8))) = true
     · rw [if_pos c5] at H
       have c5b0:((a0_1.toList == ([]:List UInt8)) == (a0_0.toList == ([97,108,108]:List UInt8))) = true:=c5
       (try (have c5s0a:¬ (a0_1.toList = ([]:List UInt8)):=by simpa using c5b0))
       (try (have c5s0b:(a0_1.toList == ([]:List UInt8)) = false:=by simpa using c5b0))
       (try (have c5s0c:(a0_1.toList == ([]:List UInt8)) = true:=by simpa using c5b0))
       (try (have c5s0d:a0_1.toList.isEmpty = false:=by simpa using c5b0))
       (try (have c5s0e:a0_1.toList.isEmpty = true:=by simpa using c5b0))
       (try (have c5wc4t:(a0_0.toList == ([97,108,108]:List UInt8)) = true:=by have h_:=c5b0;(first|rw [c4b0] at h_|rw [c4b1] at h_);simpa using h_))
       (try (have c5wc4f:(a0_0.toList == ([97,108,108]:List UInt8)) = false:=by have h_:=c5b0;(first|rw [c4b0] at h_|rw [c4b1] at h_);simpa using h_))
       (try (have c5b1:decide ((a0_1.toList == ([]:List UInt8)) = (a0_0.toList == ([97,108,108]:List UInt8))) = true:=by simpa using c5))
       (try (have c5b2:((a0_1.toList == ([]:List UInt8)) == (a0_0.toList == ([97,108,108]:List UInt8))) = true:=by simpa using c5))
       clear c5;replace H:=Option.bind_eq_some_iff.mp H;obtain ⟨t492,A60,H⟩:=H;(try dsimp only at H);have A6:=As0.mk A60;clear A60;by_cases c7:t492 = true
       · subst c7
         have H1:((spec_l1In.f a0_4 0 99999).bind fun t493=>(if t493 = true then (some (!a0_3)) else (some false))) = some r:=by rw [if_pos rfl] at H;exact H
         clear H;have H:=H1;clear H1;replace H:=Option.bind_eq_some_iff.mp H;obtain ⟨t493,A80,H⟩:=H;(try dsimp only at H);have A8:=As0.mk A80;clear A80;by_cases c9:t493 = true
         · subst c9
           have H1:(some (!a0_3)) = some r:=by rw [if_pos rfl] at H;exact H
           clear H;have H:=H1;clear H1;obtain rfl:=Option.some.inj H
           go_enter Tryd.func24,Tryd.ntmps24
           go_wp2_with (first|((with_reducible refine gate_dst (N:=1) rfl ?_);refine bE 1 #[.string a0_0,.string a0_1,.int .i64 a0_2,.bool a0_3,.int .i64 a0_4] 30 ?_;intro gb490 hg w10 hbox hb;have BK490:=As0.mk (hbox);have GW490:=As0.mk ((by rw [hg];exact (bsz HB.out):w.heap.size ≤ gb490));have GE490:=GW490;replace HB:=As0.mk (bsp HB.out hb);clear hb hbox hg;obtain ⟨hcz11_0,hcz11_1,hcz11_2,hcz11_3,hcz11_4⟩:=qc5 BK490.out;obtain ⟨hfz11_0,hfz11_1,hfz11_2,hfz11_3,hfz11_4⟩:=qz5 BK490.out)|((with_reducible refine gca (f:=41) rfl ?_);refine gL (some 5) Tryd.func41 #[.string a0_0] ?_;(with_reducible refine (spec_NameOk.calls k a0_0 true _ A2.out).mono ?_);rintro e w' ⟨rfl,⟨nd,rfl⟩⟩;refine ⟨_,rfl,?_⟩)|(go_at_call 26;(with_reducible refine (spec_l1In.calls a0_2 (-1) 99999 true _ A6.out).mono ?_);rintro e w' ⟨rfl,⟨nd,rfl⟩⟩)|(go_at_call 26;(with_reducible refine (spec_l1In.calls a0_4 0 99999 true _ A8.out).mono ?_);rintro e w' ⟨rfl,⟨nd,rfl⟩⟩))
           go_ret
           exact ⟨eW,by repeat (first|(with_reducible first|exact HB.out|apply bal|apply pbN|apply bd1|refine bst ?_ GE490.out)|exact HB.out)⟩
         · replace c9:=Bool.eq_false_iff.mpr c9
           subst c9;have H1:(some false) = some r:=by rw [if_neg (show ¬ (false = true) by decide)] at H;exact H
           clear H;have H:=H1;clear H1;obtain rfl:=Option.some.inj H
           go_enter Tryd.func24,Tryd.ntmps24
           go_wp2_with (first|((with_reducible refine gate_dst (N:=1) rfl ?_);refine bE 1 #[.string a0_0,.string a0_1,.int .i64 a0_2,.bool a0_3,.int .i64 a0_4] 30 ?_;intro gb490 hg w12 hbox hb;have BK490:=As0.mk (hbox);have GW490:=As0.mk ((by rw [hg];exact (bsz HB.out):w.heap.size ≤ gb490));have GE490:=GW490;replace HB:=As0.mk (bsp HB.out hb);clear hb hbox hg;obtain ⟨hcz13_0,hcz13_1,hcz13_2,hcz13_3,hcz13_4⟩:=qc5 BK490.out;obtain ⟨hfz13_0,hfz13_1,hfz13_2,hfz13_3,hfz13_4⟩:=qz5 BK490.out)|((with_reducible refine gca (f:=41) rfl ?_);refine gL (some 5) Tryd.func41 #[.string a0_0] ?_;(with_reducible refine (spec_NameOk.calls k a0_0 true _ A2.out).mono ?_);rintro e w' ⟨rfl,⟨nd,rfl⟩⟩;refine ⟨_,rfl,?_⟩)|(go_at_call 26;(with_reducible refine (spec_l1In.calls a0_2 (-1) 99999 true _ A6.out).mono ?_);rintro e w' ⟨rfl,⟨nd,rfl⟩⟩)|(go_at_call 26;(with_reducible refine (spec_l1In.calls a0_4 0 99999 false _ A8.out).mono ?_);rintro e w' ⟨rfl,⟨nd,rfl⟩⟩))
           go_ret
           exact ⟨eW,by repeat (first|(with_reducible first|exact HB.out|apply bal|apply pbN|apply bd1|refine bst ?_ GE490.out)|exact HB.out)⟩
       · replace c7:=Bool.eq_false_iff.mpr c7
         subst c7;have H1:(some false) = some r:=by rw [if_neg (show ¬ (false = true) by decide)] at H;exact H
         clear H;have H:=H1;clear H1;obtain rfl:=Option.some.inj H
         go_enter Tryd.func24,Tryd.ntmps24
         go_wp2_with (first|((with_reducible refine gate_dst (N:=1) rfl ?_);refine bE 1 #[.string a0_0,.string a0_1,.int .i64 a0_2,.bool a0_3,.int .i64 a0_4] 30 ?_;intro gb490 hg w14 hbox hb;have BK490:=As0.mk (hbox);have GW490:=As0.mk ((by rw [hg];exact (bsz HB.out):w.heap.size ≤ gb490));have GE490:=GW490;replace HB:=As0.mk (bsp HB.out hb);clear hb hbox hg;obtain ⟨hcz15_0,hcz15_1,hcz15_2,hcz15_3,hcz15_4⟩:=qc5 BK490.out;obtain ⟨hfz15_0,hfz15_1,hfz15_2,hfz15_3,hfz15_4⟩:=qz5 BK490.out)|((with_reducible refine gca (f:=41) rfl ?_);refine gL (some 5) Tryd.func41 #[.string a0_0] ?_;(with_reducible refine (spec_NameOk.calls k a0_0 true _ A2.out).mono ?_);rintro e w' ⟨rfl,⟨nd,rfl⟩⟩;refine ⟨_,rfl,?_⟩)|(go_at_call 26;(with_reducible refine (spec_l1In.calls a0_2 (-1) 99999 false _ A6.out).mono ?_);rintro e w' ⟨rfl,⟨nd,rfl⟩⟩))
         go_ret
         exact ⟨eW,by repeat (first|(with_reducible first|exact HB.out|apply bal|apply pbN|apply bd1|refine bst ?_ GE490.out)|exact HB.out)⟩
     · rw [if_neg c5] at H
       have c5b0:((a0_1.toList == ([]:List UInt8)) == (a0_0.toList == ([97,108,108]:List UInt8))) = false:=by simpa using c5
       (try (have c5s0a:¬ (a0_1.toList = ([]:List UInt8)):=by simpa using c5b0))
       (try (have c5s0b:(a0_1.toList == ([]:List UInt8)) = false:=by simpa using c5b0))
       (try (have c5s0c:(a0_1.toList == ([]:List UInt8)) = true:=by simpa using c5b0))
       (try (have c5s0d:a0_1.toList.isEmpty = false:=by simpa using c5b0))
       (try (have c5s0e:a0_1.toList.isEmpty = true:=by simpa using c5b0))
       (try (have c5wc4t:(a0_0.toList == ([97,108,108]:List UInt8)) = true:=by have h_:=c5b0;(first|rw [c4b0] at h_|rw [c4b1] at h_);simpa using h_))
       (try (have c5wc4f:(a0_0.toList == ([97,108,108]:List UInt8)) = false:=by have h_:=c5b0;(first|rw [c4b0] at h_|rw [c4b1] at h_);simpa using h_))
       (try (have c5b1:decide ((a0_1.toList == ([]:List UInt8)) = (a0_0.toList == ([97,108,108]:List UInt8))) = false:=by simpa using c5))
       (try (have c5b2:((a0_1.toList == ([]:List UInt8)) == (a0_0.toList == ([97,108,108]:List UInt8))) = false:=by simpa using c5))
       (try (have c5b3:¬ ((a0_1.toList == ([]:List UInt8)) = (a0_0.toList == ([97,108,108]:List UInt8))):=by simpa using c5))
       clear c5;obtain rfl:=Option.some.inj H
       go_enter Tryd.func24,Tryd.ntmps24
       go_wp2_with (first|((with_reducible refine gate_dst (N:=1) rfl ?_);refine bE 1 #[.string a0_0,.string a0_1,.int .i64 a0_2,.bool a0_3,.int .i64 a0_4] 30 ?_;intro gb490 hg w16 hbox hb;have BK490:=As0.mk (hbox);have GW490:=As0.mk ((by rw [hg];exact (bsz HB.out):w.heap.size ≤ gb490));have GE490:=GW490;replace HB:=As0.mk (bsp HB.out hb);clear hb hbox hg;obtain ⟨hcz17_0,hcz17_1,hcz17_2,hcz17_3,hcz17_4⟩:=qc5 BK490.out;obtain ⟨hfz17_0,hfz17_1,hfz17_2,hfz17_3,hfz17_4⟩:=qz5 BK490.out)|((with_reducible refine gca (f:=41) rfl ?_);refine gL (some 5) Tryd.func41 #[.string a0_0] ?_;(with_reducible refine (spec_NameOk.calls k a0_0 true _ A2.out).mono ?_);rintro e w' ⟨rfl,⟨nd,rfl⟩⟩;refine ⟨_,rfl,?_⟩))
       go_ret
       exact ⟨eW,by repeat (first|(with_reducible first|exact HB.out|apply bal|apply pbN|apply bd1|refine bst ?_ GE490.out)|exact HB.out)⟩
   · rw [if_neg c4] at H
     have c4b0:(a0_1.toList == ([]:List UInt8)) = false:=beq_eq_false_iff_ne.mpr c4;have c4b1:(a0_1.toList != ([]:List UInt8)) = true:=bne_iff_ne.mpr c4;replace H:=Option.bind_eq_some_iff.mp H;obtain ⟨t494,A180,H⟩:=H;(try dsimp only at H);have A18:=As0.mk A180;clear A180;by_cases c19:t494 = true
     · subst c19
       have H1:(if ((a0_1.toList == ([]:List UInt8)) == (a0_0.toList == ([97,108,108]:List UInt8))) = true then ((spec_l1In.f a0_2 (-1) 99999).bind fun t495=>(if t495 = true then ((spec_l1In.f a0_4 0 99999).bind fun t496=>(if t496 = true then (some true) else (some false))) else (some false))) else (some false)) = some r:=by rw [if_pos rfl] at H;exact H
       clear H;have H:=H1;clear H1;by_cases c20:((a0_1.toList == ([]:List UInt8)) == (a0_0.toList == ([97,108,108]:List UInt8))) = true
       · rw [if_pos c20] at H
         have c20b0:((a0_1.toList == ([]:List UInt8)) == (a0_0.toList == ([97,108,108]:List UInt8))) = true:=c20
         (try (have c20s0a:¬ (a0_1.toList = ([]:List UInt8)):=by simpa using c20b0))
         (try (have c20s0b:(a0_1.toList == ([]:List UInt8)) = false:=by simpa using c20b0))
         (try (have c20s0c:(a0_1.toList == ([]:List UInt8)) = true:=by simpa using c20b0))
         (try (have c20s0d:a0_1.toList.isEmpty = false:=by simpa using c20b0))
         (try (have c20s0e:a0_1.toList.isEmpty = true:=by simpa using c20b0))
         (try (have c20wc4t:(a0_0.toList == ([97,108,108]:List UInt8)) = true:=by have h_:=c20b0;(first|rw [c4b0] at h_|rw [c4b1] at h_);simpa using h_))
         (try (have c20wc4f:(a0_0.toList == ([97,108,108]:List UInt8)) = false:=by have h_:=c20b0;(first|rw [c4b0] at h_|rw [c4b1] at h_);simpa using h_))
         (try (have c20b1:decide ((a0_1.toList == ([]:List UInt8)) = (a0_0.toList == ([97,108,108]:List UInt8))) = true:=by simpa using c20))
         (try (have c20b2:((a0_1.toList == ([]:List UInt8)) == (a0_0.toList == ([97,108,108]:List UInt8))) = true:=by simpa using c20))
         clear c20;replace H:=Option.bind_eq_some_iff.mp H;obtain ⟨t495,A210,H⟩:=H;(try dsimp only at H);have A21:=As0.mk A210;clear A210;by_cases c22:t495 = true
         · subst c22
           have H1:((spec_l1In.f a0_4 0 99999).bind fun t496=>(if t496 = true then (some true) else (some false))) = some r:=by rw [if_pos rfl] at H;exact H
           clear H;have H:=H1;clear H1;replace H:=Option.bind_eq_some_iff.mp H;obtain ⟨t496,A230,H⟩:=H;(try dsimp only at H);have A23:=As0.mk A230;clear A230;by_cases c24:t496 = true
           · subst c24
             have H1:(some true) = some r:=by rw [if_pos rfl] at H;exact H
             clear H;have H:=H1;clear H1;obtain rfl:=Option.some.inj H
             go_enter Tryd.func24,Tryd.ntmps24
             go_wp2_with (first|((with_reducible refine gate_dst (N:=1) rfl ?_);refine bE 1 #[.string a0_0,.string a0_1,.int .i64 a0_2,.bool a0_3,.int .i64 a0_4] 30 ?_;intro gb490 hg w25 hbox hb;have BK490:=As0.mk (hbox);have GW490:=As0.mk ((by rw [hg];exact (bsz HB.out):w.heap.size ≤ gb490));have GE490:=GW490;replace HB:=As0.mk (bsp HB.out hb);clear hb hbox hg;obtain ⟨hcz26_0,hcz26_1,hcz26_2,hcz26_3,hcz26_4⟩:=qc5 BK490.out;obtain ⟨hfz26_0,hfz26_1,hfz26_2,hfz26_3,hfz26_4⟩:=qz5 BK490.out)|((with_reducible refine gca (f:=41) rfl ?_);refine gL (some 5) Tryd.func41 #[.string a0_0] ?_;(with_reducible refine (spec_NameOk.calls k a0_0 true _ A2.out).mono ?_);rintro e w' ⟨rfl,⟨nd,rfl⟩⟩;refine ⟨_,rfl,?_⟩)|(go_at_call 41;(with_reducible refine (spec_NameOk.calls k a0_1 true _ A18.out).mono ?_);rintro e w' ⟨rfl,⟨nd,rfl⟩⟩)|(go_at_call 26;(with_reducible refine (spec_l1In.calls a0_2 (-1) 99999 true _ A21.out).mono ?_);rintro e w' ⟨rfl,⟨nd,rfl⟩⟩)|(go_at_call 26;(with_reducible refine (spec_l1In.calls a0_4 0 99999 true _ A23.out).mono ?_);rintro e w' ⟨rfl,⟨nd,rfl⟩⟩))
             go_ret
             exact ⟨eW,by repeat (first|(with_reducible first|exact HB.out|apply bal|apply pbN|apply bd1|refine bst ?_ GE490.out)|exact HB.out)⟩
           · replace c24:=Bool.eq_false_iff.mpr c24
             subst c24;have H1:(some false) = some r:=by rw [if_neg (show ¬ (false = true) by decide)] at H;exact H
             clear H;have H:=H1;clear H1;obtain rfl:=Option.some.inj H
             go_enter Tryd.func24,Tryd.ntmps24
             go_wp2_with (first|((with_reducible refine gate_dst (N:=1) rfl ?_);refine bE 1 #[.string a0_0,.string a0_1,.int .i64 a0_2,.bool a0_3,.int .i64 a0_4] 30 ?_;intro gb490 hg w27 hbox hb;have BK490:=As0.mk (hbox);have GW490:=As0.mk ((by rw [hg];exact (bsz HB.out):w.heap.size ≤ gb490));have GE490:=GW490;replace HB:=As0.mk (bsp HB.out hb);clear hb hbox hg;obtain ⟨hcz28_0,hcz28_1,hcz28_2,hcz28_3,hcz28_4⟩:=qc5 BK490.out;obtain ⟨hfz28_0,hfz28_1,hfz28_2,hfz28_3,hfz28_4⟩:=qz5 BK490.out)|((with_reducible refine gca (f:=41) rfl ?_);refine gL (some 5) Tryd.func41 #[.string a0_0] ?_;(with_reducible refine (spec_NameOk.calls k a0_0 true _ A2.out).mono ?_);rintro e w' ⟨rfl,⟨nd,rfl⟩⟩;refine ⟨_,rfl,?_⟩)|(go_at_call 41;(with_reducible refine (spec_NameOk.calls k a0_1 true _ A18.out).mono ?_);rintro e w' ⟨rfl,⟨nd,rfl⟩⟩)|(go_at_call 26;(with_reducible refine (spec_l1In.calls a0_2 (-1) 99999 true _ A21.out).mono ?_);rintro e w' ⟨rfl,⟨nd,rfl⟩⟩)|(go_at_call 26;(with_reducible refine (spec_l1In.calls a0_4 0 99999 false _ A23.out).mono ?_);rintro e w' ⟨rfl,⟨nd,rfl⟩⟩))
             go_ret
             exact ⟨eW,by repeat (first|(with_reducible first|exact HB.out|apply bal|apply pbN|apply bd1|refine bst ?_ GE490.out)|exact HB.out)⟩
         · replace c22:=Bool.eq_false_iff.mpr c22
           subst c22;have H1:(some false) = some r:=by rw [if_neg (show ¬ (false = true) by decide)] at H;exact H
           clear H;have H:=H1;clear H1;obtain rfl:=Option.some.inj H
           go_enter Tryd.func24,Tryd.ntmps24
           go_wp2_with (first|((with_reducible refine gate_dst (N:=1) rfl ?_);refine bE 1 #[.string a0_0,.string a0_1,.int .i64 a0_2,.bool a0_3,.int .i64 a0_4] 30 ?_;intro gb490 hg w29 hbox hb;have BK490:=As0.mk (hbox);have GW490:=As0.mk ((by rw [hg];exact (bsz HB.out):w.heap.size ≤ gb490));have GE490:=GW490;replace HB:=As0.mk (bsp HB.out hb);clear hb hbox hg;obtain ⟨hcz30_0,hcz30_1,hcz30_2,hcz30_3,hcz30_4⟩:=qc5 BK490.out;obtain ⟨hfz30_0,hfz30_1,hfz30_2,hfz30_3,hfz30_4⟩:=qz5 BK490.out)|((with_reducible refine gca (f:=41) rfl ?_);refine gL (some 5) Tryd.func41 #[.string a0_0] ?_;(with_reducible refine (spec_NameOk.calls k a0_0 true _ A2.out).mono ?_);rintro e w' ⟨rfl,⟨nd,rfl⟩⟩;refine ⟨_,rfl,?_⟩)|(go_at_call 41;(with_reducible refine (spec_NameOk.calls k a0_1 true _ A18.out).mono ?_);rintro e w' ⟨rfl,⟨nd,rfl⟩⟩)|(go_at_call 26;(with_reducible refine (spec_l1In.calls a0_2 (-1) 99999 false _ A21.out).mono ?_);rintro e w' ⟨rfl,⟨nd,rfl⟩⟩))
           go_ret
           exact ⟨eW,by repeat (first|(with_reducible first|exact HB.out|apply bal|apply pbN|apply bd1|refine bst ?_ GE490.out)|exact HB.out)⟩
       · rw [if_neg c20] at H
         have c20b0:((a0_1.toList == ([]:List UInt8)) == (a0_0.toList == ([97,108,108]:List UInt8))) = false:=by simpa using c20
         (try (have c20s0a:¬ (a0_1.toList = ([]:List UInt8)):=by simpa using c20b0))
         (try (have c20s0b:(a0_1.toList == ([]:List UInt8)) = false:=by simpa using c20b0))
         (try (have c20s0c:(a0_1.toList == ([]:List UInt8)) = true:=by simpa using c20b0))
         (try (have c20s0d:a0_1.toList.isEmpty = false:=by simpa using c20b0))
         (try (have c20s0e:a0_1.toList.isEmpty = true:=by simpa using c20b0))
         (try (have c20wc4t:(a0_0.toList == ([97,108,108]:List UInt8)) = true:=by have h_:=c20b0;(first|rw [c4b0] at h_|rw [c4b1] at h_);simpa using h_))
         (try (have c20wc4f:(a0_0.toList == ([97,108,108]:List UInt8)) = false:=by have h_:=c20b0;(first|rw [c4b0] at h_|rw [c4b1] at h_);simpa using h_))
         (try (have c20b1:decide ((a0_1.toList == ([]:List UInt8)) = (a0_0.toList == ([97,108,108]:List UInt8))) = false:=by simpa using c20))
         (try (have c20b2:((a0_1.toList == ([]:List UInt8)) == (a0_0.toList == ([97,108,108]:List UInt8))) = false:=by simpa using c20))
         (try (have c20b3:¬ ((a0_1.toList == ([]:List UInt8)) = (a0_0.toList == ([97,108,108]:List UInt8))):=by simpa using c20))
         clear c20;obtain rfl:=Option.some.inj H
         go_enter Tryd.func24,Tryd.ntmps24
         go_wp2_with (first|((with_reducible refine gate_dst (N:=1) rfl ?_);refine bE 1 #[.string a0_0,.string a0_1,.int .i64 a0_2,.bool a0_3,.int .i64 a0_4] 30 ?_;intro gb490 hg w31 hbox hb;have BK490:=As0.mk (hbox);have GW490:=As0.mk ((by rw [hg];exact (bsz HB.out):w.heap.size ≤ gb490));have GE490:=GW490;replace HB:=As0.mk (bsp HB.out hb);clear hb hbox hg;obtain ⟨hcz32_0,hcz32_1,hcz32_2,hcz32_3,hcz32_4⟩:=qc5 BK490.out;obtain ⟨hfz32_0,hfz32_1,hfz32_2,hfz32_3,hfz32_4⟩:=qz5 BK490.out)|((with_reducible refine gca (f:=41) rfl ?_);refine gL (some 5) Tryd.func41 #[.string a0_0] ?_;(with_reducible refine (spec_NameOk.calls k a0_0 true _ A2.out).mono ?_);rintro e w' ⟨rfl,⟨nd,rfl⟩⟩;refine ⟨_,rfl,?_⟩)|(go_at_call 41;(with_reducible refine (spec_NameOk.calls k a0_1 true _ A18.out).mono ?_);rintro e w' ⟨rfl,⟨nd,rfl⟩⟩))
         go_ret
         exact ⟨eW,by repeat (first|(with_reducible first|exact HB.out|apply bal|apply pbN|apply bd1|refine bst ?_ GE490.out)|exact HB.out)⟩
     · replace c19:=Bool.eq_false_iff.mpr c19
       subst c19;have H1:(some false) = some r:=by rw [if_neg (show ¬ (false = true) by decide)] at H;exact H
       clear H;have H:=H1;clear H1;obtain rfl:=Option.some.inj H
       go_enter Tryd.func24,Tryd.ntmps24
       go_wp2_with (first|((with_reducible refine gate_dst (N:=1) rfl ?_);refine bE 1 #[.string a0_0,.string a0_1,.int .i64 a0_2,.bool a0_3,.int .i64 a0_4] 30 ?_;intro gb490 hg w33 hbox hb;have BK490:=As0.mk (hbox);have GW490:=As0.mk ((by rw [hg];exact (bsz HB.out):w.heap.size ≤ gb490));have GE490:=GW490;replace HB:=As0.mk (bsp HB.out hb);clear hb hbox hg;obtain ⟨hcz34_0,hcz34_1,hcz34_2,hcz34_3,hcz34_4⟩:=qc5 BK490.out;obtain ⟨hfz34_0,hfz34_1,hfz34_2,hfz34_3,hfz34_4⟩:=qz5 BK490.out)|((with_reducible refine gca (f:=41) rfl ?_);refine gL (some 5) Tryd.func41 #[.string a0_0] ?_;(with_reducible refine (spec_NameOk.calls k a0_0 true _ A2.out).mono ?_);rintro e w' ⟨rfl,⟨nd,rfl⟩⟩;refine ⟨_,rfl,?_⟩)|(go_at_call 41;(with_reducible refine (spec_NameOk.calls k a0_1 false _ A18.out).mono ?_);rintro e w' ⟨rfl,⟨nd,rfl⟩⟩))
       go_ret
       exact ⟨eW,by repeat (first|(with_reducible first|exact HB.out|apply bal|apply pbN|apply bd1|refine bst ?_ GE490.out)|exact HB.out)⟩
 · replace c3:=Bool.eq_false_iff.mpr c3
   subst c3;have H1:(some false) = some r:=by rw [if_neg (show ¬ (false = true) by decide)] at H;exact H
   clear H;have H:=H1;clear H1;obtain rfl:=Option.some.inj H
   go_enter Tryd.func24,Tryd.ntmps24
   go_wp2_with (first|((with_reducible refine gate_dst (N:=1) rfl ?_);refine bE 1 #[.string a0_0,.string a0_1,.int .i64 a0_2,.bool a0_3,.int .i64 a0_4] 30 ?_;intro gb490 hg w35 hbox hb;have BK490:=As0.mk (hbox);have GW490:=As0.mk ((by rw [hg];exact (bsz HB.out):w.heap.size ≤ gb490));have GE490:=GW490;replace HB:=As0.mk (bsp HB.out hb);clear hb hbox hg;obtain ⟨hcz36_0,hcz36_1,hcz36_2,hcz36_3,hcz36_4⟩:=qc5 BK490.out;obtain ⟨hfz36_0,hfz36_1,hfz36_2,hfz36_3,hfz36_4⟩:=qz5 BK490.out)|((with_reducible refine gca (f:=41) rfl ?_);refine gL (some 5) Tryd.func41 #[.string a0_0] ?_;(with_reducible refine (spec_NameOk.calls k a0_0 false _ A2.out).mono ?_);rintro e w' ⟨rfl,⟨nd,rfl⟩⟩;refine ⟨_,rfl,?_⟩))
   go_ret
   exact ⟨eW,by repeat (first|(with_reducible first|exact HB.out|apply bal|apply pbN|apply bd1|refine bst ?_ GE490.out)|exact HB.out)⟩
def spec_l8Up.l0:Nat → List (SiS23) → List ByteArray → Int → Option (List ByteArray)
 |0,_,_,_=>none
 |k + 1,x0,x5,x6=>if x6 ≥ 0 then (if (x5.length:Int) ≤ 7 then (if 0 ≤ x6 then (if x6 < (x0.length:Int) then (if x5.length < 8796093022208 then ((spec_l8At.f k x0 ((riS26 x0 x6).f1)).bind fun t506=>(spec_l8Up.l0 k x0 (x5 ++ [(riS26 x0 x6).f0]) t506)) else (none)) else (none)) else (none)) else (some x5)) else (some x5)
def spec_l8Up.f (k:Nat) (l0:List (SiS23)) (a1:ByteArray):Option (List ByteArray):=(spec_l8At.f k l0 a1).bind fun t500=>(spec_l8Up.l0 k l0 (([]:List ByteArray)) t500)
set_option maxHeartbeats 40000000 in
set_option maxRecDepth 100000 in
theorem spec_l8Up.calls (k:Nat) (A0:Option Addr) (c0:Nat) (l0:List (SiS23)) (a1:ByteArray) (r:List ByteArray) (w:World) (hr0:Kd.C k30 w A0 l0.length l0) (hc0:l0.length ≤ c0) (h:spec_l8Up.f k l0 a1 = some r) :
 Calls Tryd.prog 25 #[.slice A0 l0.length c0,.string a1] w fun e w'=>∃ v0_:Value,e = .returned (v0_) ∧ Kd.R Kd.string 9 w' w.heap.size (fun _=>True) v0_ r ∧ Below w.heap.size w w':=by
 have HR0:=As0.mk hr0;have HC0:=As0.mk hc0;clear hr0 hc0;have HB:=As0.mk (Below.refl w.heap.size w);have H:((spec_l8At.f k l0 a1).bind fun t500=>(spec_l8Up.l0 k l0 (([]:List ByteArray)) t500)) = some r:=h;clear h;obtain ⟨y497,hy497⟩:∃ y_:List ByteArray,y_ = (([]:List ByteArray)):=⟨_,rfl⟩;replace H:((spec_l8At.f k l0 a1).bind fun t500=>(spec_l8Up.l0 k l0 y497 t500)) = some r:=by first|(rw [hy497];with_reducible exact H)|(have H2_:=(Option.bind_some _ _).symm.trans H;rw [hy497];with_reducible exact H2_)|(have H2_:=(Option.bind_some _ _).symm.trans H;with_reducible exact H2_)|with_reducible exact H|(rw [hy497];exact H)|exact H
 have Ny497:=As0.mk hy497;clear hy497;replace H:=Option.bind_eq_some_iff.mp H;obtain ⟨t500,A30,H⟩:=H;(try dsimp only at H);have A3:=As0.mk A30;clear A30;have H':=As0.mk H;clear H
 go_enter Tryd.func25,Tryd.ntmps25
 go_wp2_with (first|((with_reducible refine gate_dst (N:=7) rfl ?_);(try (refine gate_guard (by rfl) ?_;dsimp only));refine Kd.R_lit Kd.string _ 9 ?hg (N:=7) ?hd (xs:=([]:List ByteArray)) (inner:=[]) (ok:=fun _=>True) (okp:=fun _=>True) ?hr ?hp (fun _ hk=>hk) trivial (Below.refl _ _) (Nat.le_refl _) (by simp) ?_;(case hd=>rfl);(case hg=>rfl);(case hr=>first|(go_simp;done)|(go_simp;rfl));(case hp=>exact (Reps.none _ _));intro v498 w4 ho5 hb hg_ hnew_;clear hg_ hnew_;(first|rw [← Ny497.out] at ho5|(simp only [Int.reduceToNat] at ho5;rw [← Ny497.out] at ho5));have HO499:=As0.mk (Kd.R_lower ho5 (bsz (by repeat (first|(with_reducible first|exact HB.out|apply bal|apply pbN|apply bd1)|exact HB.out))));replace HB:=As0.mk (b3 HB.out hb);clear hb ho5)|((with_reducible refine gca (f:=27) rfl ?_);refine gL (some 10) Tryd.func27 #[.slice A0 l0.length c0,.string a1] ?_;(with_reducible refine (spec_l8At.calls k _ _ l0 a1 t500 _ ?side1 ?side2 A3.out).mono ?_);(case side1=>repeat (first|exact (Kd.C_below HR0.out HB.out)|(with_reducible first|refine Kd.C_alloc ?_ _|refine Kd.C_drewN ?_ _|refine Kd.C_drew ?_)));(case side2=>exact HC0.out);rintro e w' ⟨rfl,⟨nd,rfl⟩⟩;refine ⟨_,rfl,?_⟩))
 show _;go_loopg [5,6] k (fun kq v5 v6 w'=>∃ (x5_1:List ByteArray) (x6_1:Int),v6 = .int .i64 x6_1 ∧ As0 (spec_l8Up.l0 kq l0 x5_1 x6_1 = some r) ∧ As0 (kq ≤ k) ∧ As0 (Kd.R Kd.string 9 w' w.heap.size (fun _=>True) v5 x5_1) ∧ As0 (Below w.heap.size w w'))
 case atStart=>exact ⟨(y497),(t500),(by first|rfl|(simp;done)|(simp [*];done)),H',⟨Nat.le_refl _⟩,⟨by (with_reducible repeat (first|apply Kd.Ral|apply Kd.RdN|apply Kd.R_drew));exact HO499.out⟩,⟨by repeat (first|(with_reducible first|exact HB.out|apply bal|apply pbN|apply bd1)|exact HB.out)⟩⟩
 case round=>
  clear H'
  try clear c2
  try clear p2
  obtain ⟨x5_1,x6_1,rfl,HA,HK1,HO_5,HB⟩:=hrel
  cases gk with
  |zero=>exact absurd HA.out (by simp [spec_l8Up.l0])
  |succ k1=>
   have H:=HA.out;clear HA;simp only [spec_l8Up.l0] at H;by_cases c6:x6_1 ≥ 0
   · rw [if_pos c6] at H
     have c6b0:decide (0 ≤ x6_1) = true:=decide_eq_true c6;clear c6;by_cases c7:(x5_1.length:Int) ≤ 7
     · rw [if_pos c7] at H
       have c7b0:decide ((x5_1.length:Int) ≤ 7) = true:=decide_eq_true c7;have c7b1:decide (x5_1.length ≤ 7) = true:=decide_eq_true (by omega);clear c7;by_cases c8:0 ≤ x6_1
       · rw [if_pos c8] at H
         have c8b0:decide (0 ≤ x6_1) = true:=decide_eq_true c8;clear c8;by_cases c9:x6_1 < (l0.length:Int)
         · rw [if_pos c9] at H
           have c9b0:decide (x6_1 < (l0.length:Int)) = true:=decide_eq_true c9;clear c9;by_cases c10:x5_1.length < 8796093022208
           · rw [if_pos c10] at H
             have LMc10:=As0.mk c10;clear c10;obtain ⟨y502,hy502⟩:∃ y_:List ByteArray,y_ = (x5_1 ++ [(riS26 l0 x6_1).f0]):=⟨_,rfl⟩;replace H:((spec_l8At.f k1 l0 ((riS26 l0 x6_1).f1)).bind fun t506=>(spec_l8Up.l0 k1 l0 y502 t506)) = some r:=by first|(rw [hy502];with_reducible exact H)|(have H2_:=(Option.bind_some _ _).symm.trans H;rw [hy502];with_reducible exact H2_)|(have H2_:=(Option.bind_some _ _).symm.trans H;with_reducible exact H2_)|with_reducible exact H|(rw [hy502];exact H)|exact H
             have Ny502:=As0.mk hy502;clear hy502;replace H:=Option.bind_eq_some_iff.mp H;obtain ⟨t506,A110,H⟩:=H;(try dsimp only at H);have A11:=As0.mk A110;clear A110;have H':=As0.mk H;clear H;obtain ⟨Ao12,co12,eo12⟩:=Kd.R_slice HO_5.out;subst eo12;have p501:0 ≤ (x6_1:Int):=odt;have q501:x6_1 < (l0.length:Int):=odt;obtain ⟨ad501,e501,hx501_0,hx501_1,hx501_2,hx501_3,hx501_4⟩:=at_T30 HR0.out x6_1 p501 q501
             cases e501
             replace hx501_0:=bx HB.out rfl hx501_0;replace hx501_1:=bx HB.out rfl hx501_1;replace hx501_2:=bx HB.out rfl hx501_2;replace hx501_3:=bx HB.out rfl hx501_3;replace hx501_4:=bx HB.out rfl hx501_4;replace p501:=eq_true p501;replace q501:=eq_true q501
             go_wp2_with (first|((with_reducible refine gbi (b:=.append) (xs:=#[.tmp 25,.tmp 31]) rfl ?_);(try (refine gate_guard (by rfl) ?_;dsimp only));at_builtin;refine Kd.R_append Kd.string (w0:=w) w.heap.size rfl (.tmp 25) (.tmp 31) 32 9 (.string ⟨#[]⟩) 16 rfl Tryd.underlying32 info9 rfl (by decide) (by omega) (.slice Ao12 x5_1.length co12) x5_1 ((riS26 l0 x6_1).f0) [.string ((riS26 l0 x6_1).f0)] (fun _=>True) (fun _=>False) rfl rfl ?aP (fun _ hk=>hk.elim) ?aF ?aO ?aB ?aS ?aL ?_;(case aP=>exact rfl);(case aB=>exact (by repeat (first|(with_reducible first|exact HB.out|apply bal|apply pbN|apply bd1)|exact HB.out)));(case aF=>exact (fun _ _=>trivial));(case aO=>exact (by (with_reducible repeat (first|apply Kd.Ral|apply Kd.RdN|apply Kd.R_drew));exact HO_5.out));(case aS=>exact (bsz (by repeat (first|(with_reducible first|exact HB.out|apply bal|apply pbN|apply bd1)|exact HB.out))));(case aL=>have:=LMc10.out;omega);intro v503 w13 ho hb hg hat;rw [← Ny502.out] at ho;replace HB:=As0.mk (hb);have HO504:=As0.mk (ho);clear HO_5 ho hb hg hat;have p505:0 ≤ (x6_1:Int):=odt;have q505:x6_1 < (l0.length:Int):=odt;obtain ⟨ad505,e505,hx505_0,hx505_1,hx505_2,hx505_3,hx505_4⟩:=at_T30 HR0.out x6_1 p505 q505;obtain rfl:ad501 = ad505:=(by injection e505);replace hx505_0:=bx HB.out rfl hx505_0;replace hx505_1:=bx HB.out rfl hx505_1;replace hx505_2:=bx HB.out rfl hx505_2;replace hx505_3:=bx HB.out rfl hx505_3;replace hx505_4:=bx HB.out rfl hx505_4;replace p505:=eq_true p505;replace q505:=eq_true q505)|((with_reducible refine gca (f:=27) rfl ?_);refine gL (some 24) Tryd.func27 #[.slice (some ad501) l0.length c0,.string ((riS26 l0 x6_1).f1)] ?_;(with_reducible refine (spec_l8At.calls k1 _ _ l0 ((riS26 l0 x6_1).f1) t506 _ ?side1 ?side2 A11.out).mono ?_);(case side1=>repeat (first|exact (Kd.C_below HR0.out HB.out)|(with_reducible first|refine Kd.C_alloc ?_ _|refine Kd.C_drewN ?_ _|refine Kd.C_drew ?_)));(case side2=>exact HC0.out);rintro e w' ⟨rfl,⟨nd,rfl⟩⟩;refine ⟨_,rfl,?_⟩))
             show _;go_roundg k1
             case measure=>have:=HK1.out;omega
             case rel=>exact ⟨(y502),(t506),(by first|rfl|(simp;done)|(simp [*];done)),H',⟨by have:=HK1.out;omega⟩,⟨by (with_reducible repeat (first|apply Kd.Ral|apply Kd.RdN|apply Kd.R_drew));exact HO504.out⟩,⟨by repeat (first|(with_reducible first|exact HB.out|apply bal|apply pbN|apply bd1)|exact HB.out)⟩⟩
           · rw [if_neg c10] at H
             exact absurd H (by simp)
         · rw [if_neg c9] at H
           exact absurd H (by simp)
       · rw [if_neg c8] at H
         exact absurd H (by simp)
     · rw [if_neg c7] at H
       have c7b0:decide ((x5_1.length:Int) ≤ 7) = false:=decide_eq_false c7;have c7b1:decide (x5_1.length ≤ 7) = false:=decide_eq_false (by omega);clear c7;obtain rfl:=Option.some.inj H;obtain ⟨Ao14,co14,eo14⟩:=Kd.R_slice HO_5.out;subst eo14
       go_wp2
       go_ret
       exact ⟨_,by first|rfl|(simp [errW_none,errW_some] <;> rfl)|(simp [*,errW_none,errW_some] <;> rfl),by (with_reducible repeat (first|apply Kd.Ral|apply Kd.RdN|apply Kd.R_drew));exact HO_5.out,by repeat (first|(with_reducible first|exact HB.out|apply bal|apply pbN|apply bd1)|exact HB.out)⟩
   · rw [if_neg c6] at H
     have c6b0:decide (0 ≤ x6_1) = false:=decide_eq_false c6;clear c6;obtain rfl:=Option.some.inj H
     go_wp2
     go_ret
     exact ⟨_,by first|rfl|(simp [errW_none,errW_some] <;> rfl)|(simp [*,errW_none,errW_some] <;> rfl),by (with_reducible repeat (first|apply Kd.Ral|apply Kd.RdN|apply Kd.R_drew));exact HO_5.out,by repeat (first|(with_reducible first|exact HB.out|apply bal|apply pbN|apply bd1)|exact HB.out)⟩
end Go.Proofs.YtlddibclbhhjoaaDoor.P
