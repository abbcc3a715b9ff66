/- Functions of the law FnExactModelWatch as_ plain Lean functions, and that the machine's calls do what they say. -/
import Derived.Test.YtclgmogfkoinbaaGreatDoorZFnExactModelWatch0
import Derived.Test.YtclgmogfkoinbaaGreatDoorZFnExactModelWatch3
import Derived.Test.YtclgmogfkoinbaaGreatDoorZFnExactModelWatch4
import Derived.Lib.Hide
import Derived.Deep.RegionWith
namespace Go.Proofs.YtclgmogfkoinbaaGreatDoor.P
open Go.RowKit Go.Proofs.YtclgmogfkoinbaaGreatDoorW.PrintWords Go.Proofs.YtclgmogfkoinbaaGreatDoorW.PrintLast Go.Proofs.YtclgmogfkoinbaaGreatDoorW.PrintMore
attribute [local go_sem] max2_int min2_int max_two min_two max_three min_three max_four min_four
set_option linter.unusedVariables false
set_option linter.unusedSimpArgs false
def impl_isThing.l0:Nat → List ByteArray → Int → Int → ByteArray → ByteArray → Int → Int → Bool → List ByteArray → ByteArray → Option (Bool)
 |0,_,_,_,_,_,_,_,_,_,_=>none
 |k + 1,x6,x7,x8,x119000,x119001,x119002,x119003,x119004,x119005,x119006=>if x8 < x7 then (if 0 ≤ x8 then (if x8 < (x6.length:Int) then ((impl_isName.f (rdOf ByteArray.empty x6 x8)).bind fun t120=>(if t120 = true then (if x8 > 0 then (if 0 ≤ (wrap64 (x8 - 1)) then (if (wrap64 (x8 - 1)) < (x119005.length:Int) then (if ((Op.bytesLess ((rdOf ByteArray.empty x119005 (wrap64 (x8 - 1))).toList) ((rdOf ByteArray.empty x6 x8).toList)) = true) then (impl_isThing.l0 k x6 x7 (wrap64 (x8 + 1)) x119000 x119001 x119002 x119003 x119004 x119005 x119006) else (some false)) else (none)) else (none)) else (impl_isThing.l0 k x6 x7 (wrap64 (x8 + 1)) x119000 x119001 x119002 x119003 x119004 x119005 x119006)) else (some false))) else (none)) else (none)) else ((impl_isName.f x119000).bind fun t122=>(if t122 = true then ((impl_isName.f x119001).bind fun t123=>(if t123 = true then (if (x119005.length:Int) > 2 then (some false) else (if x119004 = true then (if (x119005.length:Int) = 0 then (some false) else (if x119002 ≥ 1 then (if x119002 ≤ 99999 then (if x119003 ≥ 1 then (if x119003 ≤ 99999 then ((impl_isBody.f k x119006).bind fun t124=>(some t124)) else (some false)) else (some false)) else (some false)) else (some false))) else (if x119002 ≥ 1 then (if x119002 ≤ 99999 then (if x119003 ≥ 1 then (if x119003 ≤ 99999 then ((impl_isBody.f k x119006).bind fun t125=>(some t125)) else (some false)) else (some false)) else (some false)) else (some false)))) else (some false))) else (some false)))
def impl_isThing.f (k:Nat) (a0_0:ByteArray) (a0_1:ByteArray) (a0_2:Int) (a0_3:Int) (a0_4:Bool) (l0_5:List ByteArray) (a0_6:ByteArray):Option (Bool):=impl_isThing.l0 k l0_5 (l0_5.length:Int) 0 a0_0 a0_1 a0_2 a0_3 a0_4 l0_5 a0_6
set_option maxHeartbeats 40000000 in
set_option maxRecDepth 100000 in
theorem impl_isThing.calls (k:Nat) (a0_0:ByteArray) (a0_1:ByteArray) (a0_2:Int) (a0_3:Int) (a0_4:Bool) (A0_5:Option Addr) (c0_5:Nat) (l0_5:List ByteArray) (a0_6:ByteArray) (r:Bool) (w:World) (hr0_5:Kd.C Kd.string w A0_5 l0_5.length l0_5) (hc0_5:l0_5.length ≤ c0_5) (h:impl_isThing.f k a0_0 a0_1 a0_2 a0_3 a0_4 l0_5 a0_6 = some r) :
 Calls Tryz.prog 64 #[.agg #[.string a0_0,.string a0_1,.int .i64 a0_2,.int .i64 a0_3,.bool a0_4,.slice A0_5 l0_5.length c0_5,.string a0_6]] w fun e w'=>e = .returned (.bool r) ∧ Below w.heap.size w w':=by
 have hu44:=Tryz.underlying44;have HR0_5:=As0.mk hr0_5;have HC0_5:=As0.mk hc0_5;clear hr0_5 hc0_5;have HB:=As0.mk (Below.refl w.heap.size w);have H:(impl_isThing.l0 k l0_5 (l0_5.length:Int) 0 a0_0 a0_1 a0_2 a0_3 a0_4 l0_5 a0_6) = some r:=h;clear h;have H':=As0.mk H;clear H
 go_enter Tryz.func64,Tryz.ntmps64
 go_wp2_with (first|((with_reducible refine gate_dst (N:=1) rfl ?_);(try (refine gate_guard (by rfl) ?_;dsimp only));refine bE 1 #[.string a0_0,.string a0_1,.int .i64 a0_2,.int .i64 a0_3,.bool a0_4,.slice A0_5 l0_5.length c0_5,.string a0_6] 44 ?_;intro gb118 hg w2 hbox hb;have BK118:=As0.mk (hbox);have GW118:=As0.mk ((by rw [hg];exact (bsz (by repeat (first|(with_reducible first|exact HB.out|apply bal|apply pbN|apply bd1)|exact HB.out))):w.heap.size ≤ gb118));have GE118:=GW118;replace HB:=As0.mk (b3 HB.out hb);clear hb hbox hg;obtain ⟨hcz3_0,hcz3_1,hcz3_2,hcz3_3,hcz3_4,hcz3_5,hcz3_6⟩:=qc7 BK118.out;obtain ⟨hfz3_0,hfz3_1,hfz3_2,hfz3_3,hfz3_4,hfz3_5,hfz3_6⟩:=qz7 BK118.out))
 show _;go_loopg [8] k (fun kq v8 w'=>∃ (x8_1:Int),v8 = .int .i64 x8_1 ∧ As0 (impl_isThing.l0 kq l0_5 (l0_5.length:Int) x8_1 a0_0 a0_1 a0_2 a0_3 a0_4 l0_5 a0_6 = some r) ∧ As0 (kq ≤ k) ∧ As0 (w'.heap[gb118]? = some (.cells #[.string a0_0,.string a0_1,.int .i64 a0_2,.int .i64 a0_3,.bool a0_4,(.slice A0_5 l0_5.length c0_5),.string a0_6] 44 (0,0))) ∧ As0 (Below w.heap.size w w'))
 case atStart=>exact ⟨(0),(by first|rfl|(simp;done)|(simp [*];done)),H',⟨Nat.le_refl _⟩,⟨by (with_reducible repeat (first|refine bkN ?_ _|refine bkD ?_|refine bkA ?_ _));exact BK118.out⟩,⟨by repeat (first|(with_reducible first|exact HB.out|apply bal|apply pbN|apply bd1|refine bst ?_ GE118.out)|exact HB.out)⟩⟩
 case round=>
  clear H'
  try clear p2
  try clear hcz3_0
  try clear hcz3_1
  try clear hcz3_2
  try clear hcz3_3
  try clear hcz3_4
  try clear hcz3_5
  try clear hcz3_6
  try clear hfz3_0
  try clear hfz3_1
  try clear hfz3_2
  try clear hfz3_3
  try clear hfz3_4
  try clear hfz3_5
  try clear hfz3_6
  obtain ⟨x8_1,rfl,HA,HK1,BK118,HB⟩:=hrel
  cases gk with
  |zero=>exact absurd HA.out (by simp [impl_isThing.l0])
  |succ k1=>
   have H:=HA.out;clear HA;simp only [impl_isThing.l0] at H;by_cases c4:x8_1 < (l0_5.length:Int)
   · rw [if_pos c4] at H
     have c4b0:decide (x8_1 < (l0_5.length:Int)) = true:=decide_eq_true c4;clear c4;by_cases c5:0 ≤ x8_1
     · rw [if_pos c5] at H
       have c5b0:decide (0 ≤ x8_1) = true:=decide_eq_true c5;clear c5;by_cases c6:x8_1 < (l0_5.length:Int)
       · rw [if_pos c6] at H
         have c6b0:decide (x8_1 < (l0_5.length:Int)) = true:=decide_eq_true c6;clear c6;replace H:=Option.bind_eq_some_iff.mp H;obtain ⟨t120,A70,H⟩:=H;(try dsimp only at H);have A7:=As0.mk A70;clear A70;by_cases c8:t120 = true
         · subst c8
           have H1:(if x8_1 > 0 then (if 0 ≤ (wrap64 (x8_1 - 1)) then (if (wrap64 (x8_1 - 1)) < (l0_5.length:Int) then (if ((Op.bytesLess ((rdOf ByteArray.empty l0_5 (wrap64 (x8_1 - 1))).toList) ((rdOf ByteArray.empty l0_5 x8_1).toList)) = true) then (impl_isThing.l0 k1 l0_5 (l0_5.length:Int) (wrap64 (x8_1 + 1)) a0_0 a0_1 a0_2 a0_3 a0_4 l0_5 a0_6) else (some false)) else (none)) else (none)) else (impl_isThing.l0 k1 l0_5 (l0_5.length:Int) (wrap64 (x8_1 + 1)) a0_0 a0_1 a0_2 a0_3 a0_4 l0_5 a0_6)) = some r:=by rw [if_pos rfl] at H;exact H
           clear H;have H:=H1;clear H1;by_cases c9:x8_1 > 0
           · rw [if_pos c9] at H
             have c9b0:decide (0 < x8_1) = true:=decide_eq_true c9;clear c9;obtain ⟨ji10,hji10⟩:∃ j_:Int,(wrap64 (x8_1 - 1)) = j_:=⟨_,rfl⟩;replace H:(if 0 ≤ (ji10) then (if (ji10) < (l0_5.length:Int) then (if ((Op.bytesLess ((rdOf ByteArray.empty l0_5 (ji10)).toList) ((rdOf ByteArray.empty l0_5 x8_1).toList)) = true) then (impl_isThing.l0 k1 l0_5 (l0_5.length:Int) (wrap64 (x8_1 + 1)) a0_0 a0_1 a0_2 a0_3 a0_4 l0_5 a0_6) else (some false)) else (none)) else (none)) = some r:=by first|(rw [hji10] at H;exact H)|(simp only [hji10] at H ⊢;exact H)
             (try rw [hji10] at A7)
             have hji10w:(IntKind.i64.wrap (x8_1 - 1)) = ji10:=(i64_w _).trans hji10;by_cases c11:0 ≤ (ji10)
             · rw [if_pos c11] at H
               have c11b0:decide (0 ≤ (ji10)) = true:=decide_eq_true c11;clear c11;by_cases c12:(ji10) < (l0_5.length:Int)
               · rw [if_pos c12] at H
                 have c12b0:decide ((ji10) < (l0_5.length:Int)) = true:=decide_eq_true c12;clear c12;by_cases c13:((Op.bytesLess ((rdOf ByteArray.empty l0_5 (ji10)).toList) ((rdOf ByteArray.empty l0_5 x8_1).toList)) = true)
                 · rw [if_pos c13] at H
                   have c13b0:(Op.bytesLess ((rdOf ByteArray.empty l0_5 (ji10)).toList) ((rdOf ByteArray.empty l0_5 x8_1).toList)) = true:=c13;clear c13;have H':=As0.mk H;clear H;have p119:0 ≤ (x8_1:Int):=odt;have q119:x8_1 < (l0_5.length:Int):=odt;obtain ⟨ad119,e119,hx119_0⟩:=Kd.at_string HR0_5.out x8_1 p119 q119
                   cases e119
                   replace hx119_0:=bx HB.out rfl hx119_0;replace p119:=eq_true p119;replace q119:=eq_true q119
                   go_wp2_with (first|((with_reducible refine gca (f:=97) rfl ?_);refine gL (some 14) Tryz.func97 #[.string (rdOf ByteArray.empty l0_5 x8_1)] ?_;(with_reducible refine (impl_isName.calls (rdOf ByteArray.empty l0_5 x8_1) true _ A7.out).mono ?_);rintro e w14 ⟨rfl,hb⟩;refine ⟨_,rfl,?_⟩;replace BK118:=As0.mk (bb hb BK118.out);replace HB:=As0.mk (bsp (by repeat (first|(with_reducible first|exact HB.out|apply bal|apply pbN|apply bd1|refine bst ?_ GE118.out)|exact HB.out)) hb);clear hb;obtain ⟨hcz15_0,hcz15_1,hcz15_2,hcz15_3,hcz15_4,hcz15_5,hcz15_6⟩:=qc7 BK118.out;obtain ⟨hfz15_0,hfz15_1,hfz15_2,hfz15_3,hfz15_4,hfz15_5,hfz15_6⟩:=qz7 BK118.out;have p121:0 ≤ ((ji10):Int):=odt;have q121:(ji10) < (l0_5.length:Int):=odt;obtain ⟨ad121,e121,hx121_0⟩:=Kd.at_string HR0_5.out (ji10) p121 q121;obtain rfl:ad119 = ad121:=(by injection e121);replace hx121_0:=bx HB.out rfl hx121_0;replace p121:=eq_true p121;replace q121:=eq_true q121))
                   show _;go_roundg k1
                   case measure=>have:=HK1.out;omega
                   case rel=>exact ⟨(wrap64 (x8_1 + 1)),(by first|rfl|(simp;done)|(simp [*];done)),H',⟨by have:=HK1.out;omega⟩,⟨by (with_reducible repeat (first|refine bkN ?_ _|refine bkD ?_|refine bkA ?_ _));exact BK118.out⟩,⟨by repeat (first|(with_reducible first|exact HB.out|apply bal|apply pbN|apply bd1|refine bst ?_ GE118.out)|exact HB.out)⟩⟩
                 · rw [if_neg c13] at H
                   have c13b0:(Op.bytesLess ((rdOf ByteArray.empty l0_5 (ji10)).toList) ((rdOf ByteArray.empty l0_5 x8_1).toList)) = false:=by simpa using c13
                   clear c13;obtain rfl:=Option.some.inj H;have p119:0 ≤ (x8_1:Int):=odt;have q119:x8_1 < (l0_5.length:Int):=odt;obtain ⟨ad119,e119,hx119_0⟩:=Kd.at_string HR0_5.out x8_1 p119 q119
                   cases e119
                   replace hx119_0:=bx HB.out rfl hx119_0;replace p119:=eq_true p119;replace q119:=eq_true q119
                   go_wp2_with (first|((with_reducible refine gca (f:=97) rfl ?_);refine gL (some 14) Tryz.func97 #[.string (rdOf ByteArray.empty l0_5 x8_1)] ?_;(with_reducible refine (impl_isName.calls (rdOf ByteArray.empty l0_5 x8_1) true _ A7.out).mono ?_);rintro e w16 ⟨rfl,hb⟩;refine ⟨_,rfl,?_⟩;replace BK118:=As0.mk (bb hb BK118.out);replace HB:=As0.mk (bsp (by repeat (first|(with_reducible first|exact HB.out|apply bal|apply pbN|apply bd1|refine bst ?_ GE118.out)|exact HB.out)) hb);clear hb;obtain ⟨hcz17_0,hcz17_1,hcz17_2,hcz17_3,hcz17_4,hcz17_5,hcz17_6⟩:=qc7 BK118.out;obtain ⟨hfz17_0,hfz17_1,hfz17_2,hfz17_3,hfz17_4,hfz17_5,hfz17_6⟩:=qz7 BK118.out;have p121:0 ≤ ((ji10):Int):=odt;have q121:(ji10) < (l0_5.length:Int):=odt;obtain ⟨ad121,e121,hx121_0⟩:=Kd.at_string HR0_5.out (ji10) p121 q121;obtain rfl:ad119 = ad121:=(by injection e121);replace hx121_0:=bx HB.out rfl hx121_0;replace p121:=eq_true p121;replace q121:=eq_true q121))
                   go_ret
                   exact ⟨by first|rfl|(simp [errW_none,errW_some] <;> rfl)|(simp only [← hji10];first|rfl|(simp [errW_none,errW_some] <;> rfl))|(simp [*,errW_none,errW_some] <;> rfl),by repeat (first|(with_reducible first|exact HB.out|apply bal|apply pbN|apply bd1|refine bst ?_ GE118.out)|exact HB.out)⟩
               · rw [if_neg c12] at H
                 exact absurd H (by simp)
             · rw [if_neg c11] at H
               exact absurd H (by simp)
           · rw [if_neg c9] at H
             have c9b0:decide (0 < x8_1) = false:=decide_eq_false c9;clear c9;have H':=As0.mk H;clear H;have p119:0 ≤ (x8_1:Int):=odt;have q119:x8_1 < (l0_5.length:Int):=odt;obtain ⟨ad119,e119,hx119_0⟩:=Kd.at_string HR0_5.out x8_1 p119 q119
             cases e119
             replace hx119_0:=bx HB.out rfl hx119_0;replace p119:=eq_true p119;replace q119:=eq_true q119
             go_wp2_with (first|((with_reducible refine gca (f:=97) rfl ?_);refine gL (some 14) Tryz.func97 #[.string (rdOf ByteArray.empty l0_5 x8_1)] ?_;(with_reducible refine (impl_isName.calls (rdOf ByteArray.empty l0_5 x8_1) true _ A7.out).mono ?_);rintro e w18 ⟨rfl,hb⟩;refine ⟨_,rfl,?_⟩;replace BK118:=As0.mk (bb hb BK118.out);replace HB:=As0.mk (bsp (by repeat (first|(with_reducible first|exact HB.out|apply bal|apply pbN|apply bd1|refine bst ?_ GE118.out)|exact HB.out)) hb);clear hb))
             show _;go_roundg k1
             case measure=>have:=HK1.out;omega
             case rel=>exact ⟨(wrap64 (x8_1 + 1)),(by first|rfl|(simp;done)|(simp [*];done)),H',⟨by have:=HK1.out;omega⟩,⟨by (with_reducible repeat (first|refine bkN ?_ _|refine bkD ?_|refine bkA ?_ _));exact BK118.out⟩,⟨by repeat (first|(with_reducible first|exact HB.out|apply bal|apply pbN|apply bd1|refine bst ?_ GE118.out)|exact HB.out)⟩⟩
         · replace c8:=Bool.eq_false_iff.mpr c8
           subst c8;have H1:(some false) = some r:=by rw [if_neg (show ¬ (false = true) by decide)] at H;exact H
           clear H;have H:=H1;clear H1;obtain rfl:=Option.some.inj H;have p119:0 ≤ (x8_1:Int):=odt;have q119:x8_1 < (l0_5.length:Int):=odt;obtain ⟨ad119,e119,hx119_0⟩:=Kd.at_string HR0_5.out x8_1 p119 q119
           cases e119
           replace hx119_0:=bx HB.out rfl hx119_0;replace p119:=eq_true p119;replace q119:=eq_true q119
           go_wp2_with (first|((with_reducible refine gca (f:=97) rfl ?_);refine gL (some 14) Tryz.func97 #[.string (rdOf ByteArray.empty l0_5 x8_1)] ?_;(with_reducible refine (impl_isName.calls (rdOf ByteArray.empty l0_5 x8_1) false _ A7.out).mono ?_);rintro e w19 ⟨rfl,hb⟩;refine ⟨_,rfl,?_⟩;replace BK118:=As0.mk (bb hb BK118.out);replace HB:=As0.mk (bsp (by repeat (first|(with_reducible first|exact HB.out|apply bal|apply pbN|apply bd1|refine bst ?_ GE118.out)|exact HB.out)) hb);clear hb))
           go_ret
           exact ⟨eW,by repeat (first|(with_reducible first|exact HB.out|apply bal|apply pbN|apply bd1|refine bst ?_ GE118.out)|exact HB.out)⟩
       · rw [if_neg c6] at H
         exact absurd H (by simp)
     · rw [if_neg c5] at H
       exact absurd H (by simp)
   · rw [if_neg c4] at H
     have c4b0:decide (x8_1 < (l0_5.length:Int)) = false:=decide_eq_false c4;clear c4;replace H:=Option.bind_eq_some_iff.mp H;obtain ⟨t122,A200,H⟩:=H;(try dsimp only at H);have A20:=As0.mk A200;clear A200;by_cases c21:t122 = true
     · subst c21
       have H1:((impl_isName.f a0_1).bind fun t123=>(if t123 = true then (if (l0_5.length:Int) > 2 then (some false) else (if a0_4 = true then (if (l0_5.length:Int) = 0 then (some false) else (if a0_2 ≥ 1 then (if a0_2 ≤ 99999 then (if a0_3 ≥ 1 then (if a0_3 ≤ 99999 then ((impl_isBody.f k1 a0_6).bind fun t124=>(some t124)) else (some false)) else (some false)) else (some false)) else (some false))) else (if a0_2 ≥ 1 then (if a0_2 ≤ 99999 then (if a0_3 ≥ 1 then (if a0_3 ≤ 99999 then ((impl_isBody.f k1 a0_6).bind fun t125=>(some t125)) else (some false)) else (some false)) else (some false)) else (some false)))) else (some false))) = some r:=by rw [if_pos rfl] at H;exact H
       clear H;have H:=H1;clear H1;replace H:=Option.bind_eq_some_iff.mp H;obtain ⟨t123,A220,H⟩:=H;(try dsimp only at H);have A22:=As0.mk A220;clear A220;by_cases c23:t123 = true
       · subst c23
         have H1:(if (l0_5.length:Int) > 2 then (some false) else (if a0_4 = true then (if (l0_5.length:Int) = 0 then (some false) else (if a0_2 ≥ 1 then (if a0_2 ≤ 99999 then (if a0_3 ≥ 1 then (if a0_3 ≤ 99999 then ((impl_isBody.f k1 a0_6).bind fun t124=>(some t124)) else (some false)) else (some false)) else (some false)) else (some false))) else (if a0_2 ≥ 1 then (if a0_2 ≤ 99999 then (if a0_3 ≥ 1 then (if a0_3 ≤ 99999 then ((impl_isBody.f k1 a0_6).bind fun t125=>(some t125)) else (some false)) else (some false)) else (some false)) else (some false)))) = some r:=by rw [if_pos rfl] at H;exact H
         clear H;have H:=H1;clear H1;by_cases c24:(l0_5.length:Int) > 2
         · rw [if_pos c24] at H
           have c24b0:decide (2 < (l0_5.length:Int)) = true:=decide_eq_true c24;have c24b1:decide (2 < l0_5.length) = true:=decide_eq_true (by omega);clear c24;obtain rfl:=Option.some.inj H;obtain ⟨hcz25_0,hcz25_1,hcz25_2,hcz25_3,hcz25_4,hcz25_5,hcz25_6⟩:=qc7 BK118.out;obtain ⟨hfz25_0,hfz25_1,hfz25_2,hfz25_3,hfz25_4,hfz25_5,hfz25_6⟩:=qz7 BK118.out
           go_wp2_with (first|((with_reducible refine gca (f:=97) rfl ?_);refine gL (some 33) Tryz.func97 #[.string a0_0] ?_;(with_reducible refine (impl_isName.calls a0_0 true _ A20.out).mono ?_);rintro e w26 ⟨rfl,hb⟩;refine ⟨_,rfl,?_⟩;replace BK118:=As0.mk (bb hb BK118.out);replace HB:=As0.mk (bsp (by repeat (first|(with_reducible first|exact HB.out|apply bal|apply pbN|apply bd1|refine bst ?_ GE118.out)|exact HB.out)) hb);clear hb;obtain ⟨hcz27_0,hcz27_1,hcz27_2,hcz27_3,hcz27_4,hcz27_5,hcz27_6⟩:=qc7 BK118.out;obtain ⟨hfz27_0,hfz27_1,hfz27_2,hfz27_3,hfz27_4,hfz27_5,hfz27_6⟩:=qz7 BK118.out)|(go_at_call 97;(with_reducible refine (impl_isName.calls a0_1 true _ A22.out).mono ?_);rintro e w28 ⟨rfl,hb⟩;replace BK118:=As0.mk (bb hb BK118.out);replace HB:=As0.mk (bsp (by repeat (first|(with_reducible first|exact HB.out|apply bal|apply pbN|apply bd1|refine bst ?_ GE118.out)|exact HB.out)) hb);clear hb;obtain ⟨hcz29_0,hcz29_1,hcz29_2,hcz29_3,hcz29_4,hcz29_5,hcz29_6⟩:=qc7 BK118.out;obtain ⟨hfz29_0,hfz29_1,hfz29_2,hfz29_3,hfz29_4,hfz29_5,hfz29_6⟩:=qz7 BK118.out))
           go_ret
           exact ⟨eW,by repeat (first|(with_reducible first|exact HB.out|apply bal|apply pbN|apply bd1|refine bst ?_ GE118.out)|exact HB.out)⟩
         · rw [if_neg c24] at H
           have c24b0:decide (2 < (l0_5.length:Int)) = false:=decide_eq_false c24;have c24b1:decide (2 < l0_5.length) = false:=decide_eq_false (by omega);clear c24;by_cases c30:a0_4 = true
           · subst c30
             have H1:(if (l0_5.length:Int) = 0 then (some false) else (if a0_2 ≥ 1 then (if a0_2 ≤ 99999 then (if a0_3 ≥ 1 then (if a0_3 ≤ 99999 then ((impl_isBody.f k1 a0_6).bind fun t124=>(some t124)) else (some false)) else (some false)) else (some false)) else (some false))) = some r:=by rw [if_pos rfl] at H;exact H
             clear H;have H:=H1;clear H1;by_cases c31:(l0_5.length:Int) = 0
             · rw [if_pos c31] at H
               have c31b0:((l0_5.length:Int) == 0) = true:=beq_iff_eq.mpr c31;have c31b1:((l0_5.length:Int) != 0) = false:=bne_eq_false_iff_eq.mpr c31;clear c31;obtain rfl:=Option.some.inj H;obtain ⟨hcz32_0,hcz32_1,hcz32_2,hcz32_3,hcz32_4,hcz32_5,hcz32_6⟩:=qc7 BK118.out;obtain ⟨hfz32_0,hfz32_1,hfz32_2,hfz32_3,hfz32_4,hfz32_5,hfz32_6⟩:=qz7 BK118.out
               go_wp2_with (first|((with_reducible refine gca (f:=97) rfl ?_);refine gL (some 33) Tryz.func97 #[.string a0_0] ?_;(with_reducible refine (impl_isName.calls a0_0 true _ A20.out).mono ?_);rintro e w33 ⟨rfl,hb⟩;refine ⟨_,rfl,?_⟩;replace BK118:=As0.mk (bb hb BK118.out);replace HB:=As0.mk (bsp (by repeat (first|(with_reducible first|exact HB.out|apply bal|apply pbN|apply bd1|refine bst ?_ GE118.out)|exact HB.out)) hb);clear hb;obtain ⟨hcz34_0,hcz34_1,hcz34_2,hcz34_3,hcz34_4,hcz34_5,hcz34_6⟩:=qc7 BK118.out;obtain ⟨hfz34_0,hfz34_1,hfz34_2,hfz34_3,hfz34_4,hfz34_5,hfz34_6⟩:=qz7 BK118.out)|(go_at_call 97;(with_reducible refine (impl_isName.calls a0_1 true _ A22.out).mono ?_);rintro e w35 ⟨rfl,hb⟩;replace BK118:=As0.mk (bb hb BK118.out);replace HB:=As0.mk (bsp (by repeat (first|(with_reducible first|exact HB.out|apply bal|apply pbN|apply bd1|refine bst ?_ GE118.out)|exact HB.out)) hb);clear hb;obtain ⟨hcz36_0,hcz36_1,hcz36_2,hcz36_3,hcz36_4,hcz36_5,hcz36_6⟩:=qc7 BK118.out;obtain ⟨hfz36_0,hfz36_1,hfz36_2,hfz36_3,hfz36_4,hfz36_5,hfz36_6⟩:=qz7 BK118.out))
               go_ret
               exact ⟨eW,by repeat (first|(with_reducible first|exact HB.out|apply bal|apply pbN|apply bd1|refine bst ?_ GE118.out)|exact HB.out)⟩
             · rw [if_neg c31] at H
               have c31b0:((l0_5.length:Int) == 0) = false:=beq_eq_false_iff_ne.mpr c31;have c31b1:((l0_5.length:Int) != 0) = true:=bne_iff_ne.mpr c31;have c31b2:¬ (l0_5 = []):=fun h_=>c31 (by rw [h_];rfl)
               by_cases c37:a0_2 ≥ 1
               · rw [if_pos c37] at H
                 have c37b0:decide (1 ≤ a0_2) = true:=decide_eq_true c37;clear c37;by_cases c38:a0_2 ≤ 99999
                 · rw [if_pos c38] at H
                   have c38b0:decide (a0_2 ≤ 99999) = true:=decide_eq_true c38;clear c38;by_cases c39:a0_3 ≥ 1
                   · rw [if_pos c39] at H
                     have c39b0:decide (1 ≤ a0_3) = true:=decide_eq_true c39;clear c39;by_cases c40:a0_3 ≤ 99999
                     · rw [if_pos c40] at H
                       have c40b0:decide (a0_3 ≤ 99999) = true:=decide_eq_true c40;clear c40;replace H:=Option.bind_eq_some_iff.mp H;obtain ⟨t124,A410,H⟩:=H;(try dsimp only at H);have A41:=As0.mk A410;clear A410;obtain rfl:=Option.some.inj H;obtain ⟨hcz42_0,hcz42_1,hcz42_2,hcz42_3,hcz42_4,hcz42_5,hcz42_6⟩:=qc7 BK118.out;obtain ⟨hfz42_0,hfz42_1,hfz42_2,hfz42_3,hfz42_4,hfz42_5,hfz42_6⟩:=qz7 BK118.out
                       go_wp2_with (first|((with_reducible refine gca (f:=97) rfl ?_);refine gL (some 33) Tryz.func97 #[.string a0_0] ?_;(with_reducible refine (impl_isName.calls a0_0 true _ A20.out).mono ?_);rintro e w43 ⟨rfl,hb⟩;refine ⟨_,rfl,?_⟩;replace BK118:=As0.mk (bb hb BK118.out);replace HB:=As0.mk (bsp (by repeat (first|(with_reducible first|exact HB.out|apply bal|apply pbN|apply bd1|refine bst ?_ GE118.out)|exact HB.out)) hb);clear hb;obtain ⟨hcz44_0,hcz44_1,hcz44_2,hcz44_3,hcz44_4,hcz44_5,hcz44_6⟩:=qc7 BK118.out;obtain ⟨hfz44_0,hfz44_1,hfz44_2,hfz44_3,hfz44_4,hfz44_5,hfz44_6⟩:=qz7 BK118.out)|(go_at_call 97;(with_reducible refine (impl_isName.calls a0_1 true _ A22.out).mono ?_);rintro e w45 ⟨rfl,hb⟩;replace BK118:=As0.mk (bb hb BK118.out);replace HB:=As0.mk (bsp (by repeat (first|(with_reducible first|exact HB.out|apply bal|apply pbN|apply bd1|refine bst ?_ GE118.out)|exact HB.out)) hb);clear hb;obtain ⟨hcz46_0,hcz46_1,hcz46_2,hcz46_3,hcz46_4,hcz46_5,hcz46_6⟩:=qc7 BK118.out;obtain ⟨hfz46_0,hfz46_1,hfz46_2,hfz46_3,hfz46_4,hfz46_5,hfz46_6⟩:=qz7 BK118.out)|(go_at_call 98;(with_reducible refine (impl_isBody.calls k1 a0_6 t124 _ A41.out).mono ?_);rintro e w' ⟨rfl,⟨nd,rfl⟩⟩))
                       go_ret
                       exact ⟨eW,by repeat (first|(with_reducible first|exact HB.out|apply bal|apply pbN|apply bd1|refine bst ?_ GE118.out)|exact HB.out)⟩
                     · rw [if_neg c40] at H
                       have c40b0:decide (a0_3 ≤ 99999) = false:=decide_eq_false c40;clear c40;obtain rfl:=Option.some.inj H;obtain ⟨hcz47_0,hcz47_1,hcz47_2,hcz47_3,hcz47_4,hcz47_5,hcz47_6⟩:=qc7 BK118.out;obtain ⟨hfz47_0,hfz47_1,hfz47_2,hfz47_3,hfz47_4,hfz47_5,hfz47_6⟩:=qz7 BK118.out
                       go_wp2_with (first|((with_reducible refine gca (f:=97) rfl ?_);refine gL (some 33) Tryz.func97 #[.string a0_0] ?_;(with_reducible refine (impl_isName.calls a0_0 true _ A20.out).mono ?_);rintro e w48 ⟨rfl,hb⟩;refine ⟨_,rfl,?_⟩;replace BK118:=As0.mk (bb hb BK118.out);replace HB:=As0.mk (bsp (by repeat (first|(with_reducible first|exact HB.out|apply bal|apply pbN|apply bd1|refine bst ?_ GE118.out)|exact HB.out)) hb);clear hb;obtain ⟨hcz49_0,hcz49_1,hcz49_2,hcz49_3,hcz49_4,hcz49_5,hcz49_6⟩:=qc7 BK118.out;obtain ⟨hfz49_0,hfz49_1,hfz49_2,hfz49_3,hfz49_4,hfz49_5,hfz49_6⟩:=qz7 BK118.out)|(go_at_call 97;(with_reducible refine (impl_isName.calls a0_1 true _ A22.out).mono ?_);rintro e w50 ⟨rfl,hb⟩;replace BK118:=As0.mk (bb hb BK118.out);replace HB:=As0.mk (bsp (by repeat (first|(with_reducible first|exact HB.out|apply bal|apply pbN|apply bd1|refine bst ?_ GE118.out)|exact HB.out)) hb);clear hb;obtain ⟨hcz51_0,hcz51_1,hcz51_2,hcz51_3,hcz51_4,hcz51_5,hcz51_6⟩:=qc7 BK118.out;obtain ⟨hfz51_0,hfz51_1,hfz51_2,hfz51_3,hfz51_4,hfz51_5,hfz51_6⟩:=qz7 BK118.out))
                       go_ret
                       exact ⟨eW,by repeat (first|(with_reducible first|exact HB.out|apply bal|apply pbN|apply bd1|refine bst ?_ GE118.out)|exact HB.out)⟩
                   · rw [if_neg c39] at H
                     have c39b0:decide (1 ≤ a0_3) = false:=decide_eq_false c39;clear c39;obtain rfl:=Option.some.inj H;obtain ⟨hcz52_0,hcz52_1,hcz52_2,hcz52_3,hcz52_4,hcz52_5,hcz52_6⟩:=qc7 BK118.out;obtain ⟨hfz52_0,hfz52_1,hfz52_2,hfz52_3,hfz52_4,hfz52_5,hfz52_6⟩:=qz7 BK118.out
                     go_wp2_with (first|((with_reducible refine gca (f:=97) rfl ?_);refine gL (some 33) Tryz.func97 #[.string a0_0] ?_;(with_reducible refine (impl_isName.calls a0_0 true _ A20.out).mono ?_);rintro e w53 ⟨rfl,hb⟩;refine ⟨_,rfl,?_⟩;replace BK118:=As0.mk (bb hb BK118.out);replace HB:=As0.mk (bsp (by repeat (first|(with_reducible first|exact HB.out|apply bal|apply pbN|apply bd1|refine bst ?_ GE118.out)|exact HB.out)) hb);clear hb;obtain ⟨hcz54_0,hcz54_1,hcz54_2,hcz54_3,hcz54_4,hcz54_5,hcz54_6⟩:=qc7 BK118.out;obtain ⟨hfz54_0,hfz54_1,hfz54_2,hfz54_3,hfz54_4,hfz54_5,hfz54_6⟩:=qz7 BK118.out)|(go_at_call 97;(with_reducible refine (impl_isName.calls a0_1 true _ A22.out).mono ?_);rintro e w55 ⟨rfl,hb⟩;replace BK118:=As0.mk (bb hb BK118.out);replace HB:=As0.mk (bsp (by repeat (first|(with_reducible first|exact HB.out|apply bal|apply pbN|apply bd1|refine bst ?_ GE118.out)|exact HB.out)) hb);clear hb;obtain ⟨hcz56_0,hcz56_1,hcz56_2,hcz56_3,hcz56_4,hcz56_5,hcz56_6⟩:=qc7 BK118.out;obtain ⟨hfz56_0,hfz56_1,hfz56_2,hfz56_3,hfz56_4,hfz56_5,hfz56_6⟩:=qz7 BK118.out))
                     go_ret
                     exact ⟨eW,by repeat (first|(with_reducible first|exact HB.out|apply bal|apply pbN|apply bd1|refine bst ?_ GE118.out)|exact HB.out)⟩
                 · rw [if_neg c38] at H
                   have c38b0:decide (a0_2 ≤ 99999) = false:=decide_eq_false c38;clear c38;obtain rfl:=Option.some.inj H;obtain ⟨hcz57_0,hcz57_1,hcz57_2,hcz57_3,hcz57_4,hcz57_5,hcz57_6⟩:=qc7 BK118.out;obtain ⟨hfz57_0,hfz57_1,hfz57_2,hfz57_3,hfz57_4,hfz57_5,hfz57_6⟩:=qz7 BK118.out
                   go_wp2_with (first|((with_reducible refine gca (f:=97) rfl ?_);refine gL (some 33) Tryz.func97 #[.string a0_0] ?_;(with_reducible refine (impl_isName.calls a0_0 true _ A20.out).mono ?_);rintro e w58 ⟨rfl,hb⟩;refine ⟨_,rfl,?_⟩;replace BK118:=As0.mk (bb hb BK118.out);replace HB:=As0.mk (bsp (by repeat (first|(with_reducible first|exact HB.out|apply bal|apply pbN|apply bd1|refine bst ?_ GE118.out)|exact HB.out)) hb);clear hb;obtain ⟨hcz59_0,hcz59_1,hcz59_2,hcz59_3,hcz59_4,hcz59_5,hcz59_6⟩:=qc7 BK118.out;obtain ⟨hfz59_0,hfz59_1,hfz59_2,hfz59_3,hfz59_4,hfz59_5,hfz59_6⟩:=qz7 BK118.out)|(go_at_call 97;(with_reducible refine (impl_isName.calls a0_1 true _ A22.out).mono ?_);rintro e w60 ⟨rfl,hb⟩;replace BK118:=As0.mk (bb hb BK118.out);replace HB:=As0.mk (bsp (by repeat (first|(with_reducible first|exact HB.out|apply bal|apply pbN|apply bd1|refine bst ?_ GE118.out)|exact HB.out)) hb);clear hb;obtain ⟨hcz61_0,hcz61_1,hcz61_2,hcz61_3,hcz61_4,hcz61_5,hcz61_6⟩:=qc7 BK118.out;obtain ⟨hfz61_0,hfz61_1,hfz61_2,hfz61_3,hfz61_4,hfz61_5,hfz61_6⟩:=qz7 BK118.out))
                   go_ret
                   exact ⟨eW,by repeat (first|(with_reducible first|exact HB.out|apply bal|apply pbN|apply bd1|refine bst ?_ GE118.out)|exact HB.out)⟩
               · rw [if_neg c37] at H
                 have c37b0:decide (1 ≤ a0_2) = false:=decide_eq_false c37;clear c37;obtain rfl:=Option.some.inj H;obtain ⟨hcz62_0,hcz62_1,hcz62_2,hcz62_3,hcz62_4,hcz62_5,hcz62_6⟩:=qc7 BK118.out;obtain ⟨hfz62_0,hfz62_1,hfz62_2,hfz62_3,hfz62_4,hfz62_5,hfz62_6⟩:=qz7 BK118.out
                 go_wp2_with (first|((with_reducible refine gca (f:=97) rfl ?_);refine gL (some 33) Tryz.func97 #[.string a0_0] ?_;(with_reducible refine (impl_isName.calls a0_0 true _ A20.out).mono ?_);rintro e w63 ⟨rfl,hb⟩;refine ⟨_,rfl,?_⟩;replace BK118:=As0.mk (bb hb BK118.out);replace HB:=As0.mk (bsp (by repeat (first|(with_reducible first|exact HB.out|apply bal|apply pbN|apply bd1|refine bst ?_ GE118.out)|exact HB.out)) hb);clear hb;obtain ⟨hcz64_0,hcz64_1,hcz64_2,hcz64_3,hcz64_4,hcz64_5,hcz64_6⟩:=qc7 BK118.out;obtain ⟨hfz64_0,hfz64_1,hfz64_2,hfz64_3,hfz64_4,hfz64_5,hfz64_6⟩:=qz7 BK118.out)|(go_at_call 97;(with_reducible refine (impl_isName.calls a0_1 true _ A22.out).mono ?_);rintro e w65 ⟨rfl,hb⟩;replace BK118:=As0.mk (bb hb BK118.out);replace HB:=As0.mk (bsp (by repeat (first|(with_reducible first|exact HB.out|apply bal|apply pbN|apply bd1|refine bst ?_ GE118.out)|exact HB.out)) hb);clear hb;obtain ⟨hcz66_0,hcz66_1,hcz66_2,hcz66_3,hcz66_4,hcz66_5,hcz66_6⟩:=qc7 BK118.out;obtain ⟨hfz66_0,hfz66_1,hfz66_2,hfz66_3,hfz66_4,hfz66_5,hfz66_6⟩:=qz7 BK118.out))
                 go_ret
                 exact ⟨eW,by repeat (first|(with_reducible first|exact HB.out|apply bal|apply pbN|apply bd1|refine bst ?_ GE118.out)|exact HB.out)⟩
           · replace c30:=Bool.eq_false_iff.mpr c30
             subst c30;have H1:(if a0_2 ≥ 1 then (if a0_2 ≤ 99999 then (if a0_3 ≥ 1 then (if a0_3 ≤ 99999 then ((impl_isBody.f k1 a0_6).bind fun t125=>(some t125)) else (some false)) else (some false)) else (some false)) else (some false)) = some r:=by rw [if_neg (show ¬ (false = true) by decide)] at H;exact H
             clear H;have H:=H1;clear H1;by_cases c67:a0_2 ≥ 1
             · rw [if_pos c67] at H
               have c67b0:decide (1 ≤ a0_2) = true:=decide_eq_true c67;clear c67;by_cases c68:a0_2 ≤ 99999
               · rw [if_pos c68] at H
                 have c68b0:decide (a0_2 ≤ 99999) = true:=decide_eq_true c68;clear c68;by_cases c69:a0_3 ≥ 1
                 · rw [if_pos c69] at H
                   have c69b0:decide (1 ≤ a0_3) = true:=decide_eq_true c69;clear c69;by_cases c70:a0_3 ≤ 99999
                   · rw [if_pos c70] at H
                     have c70b0:decide (a0_3 ≤ 99999) = true:=decide_eq_true c70;clear c70;replace H:=Option.bind_eq_some_iff.mp H;obtain ⟨t125,A710,H⟩:=H;(try dsimp only at H);have A71:=As0.mk A710;clear A710;obtain rfl:=Option.some.inj H;obtain ⟨hcz72_0,hcz72_1,hcz72_2,hcz72_3,hcz72_4,hcz72_5,hcz72_6⟩:=qc7 BK118.out;obtain ⟨hfz72_0,hfz72_1,hfz72_2,hfz72_3,hfz72_4,hfz72_5,hfz72_6⟩:=qz7 BK118.out
                     go_wp2_with (first|((with_reducible refine gca (f:=97) rfl ?_);refine gL (some 33) Tryz.func97 #[.string a0_0] ?_;(with_reducible refine (impl_isName.calls a0_0 true _ A20.out).mono ?_);rintro e w73 ⟨rfl,hb⟩;refine ⟨_,rfl,?_⟩;replace BK118:=As0.mk (bb hb BK118.out);replace HB:=As0.mk (bsp (by repeat (first|(with_reducible first|exact HB.out|apply bal|apply pbN|apply bd1|refine bst ?_ GE118.out)|exact HB.out)) hb);clear hb;obtain ⟨hcz74_0,hcz74_1,hcz74_2,hcz74_3,hcz74_4,hcz74_5,hcz74_6⟩:=qc7 BK118.out;obtain ⟨hfz74_0,hfz74_1,hfz74_2,hfz74_3,hfz74_4,hfz74_5,hfz74_6⟩:=qz7 BK118.out)|(go_at_call 97;(with_reducible refine (impl_isName.calls a0_1 true _ A22.out).mono ?_);rintro e w75 ⟨rfl,hb⟩;replace BK118:=As0.mk (bb hb BK118.out);replace HB:=As0.mk (bsp (by repeat (first|(with_reducible first|exact HB.out|apply bal|apply pbN|apply bd1|refine bst ?_ GE118.out)|exact HB.out)) hb);clear hb;obtain ⟨hcz76_0,hcz76_1,hcz76_2,hcz76_3,hcz76_4,hcz76_5,hcz76_6⟩:=qc7 BK118.out;obtain ⟨hfz76_0,hfz76_1,hfz76_2,hfz76_3,hfz76_4,hfz76_5,hfz76_6⟩:=qz7 BK118.out)|(go_at_call 98;(with_reducible refine (impl_isBody.calls k1 a0_6 t125 _ A71.out).mono ?_);rintro e w' ⟨rfl,⟨nd,rfl⟩⟩))
                     go_ret
                     exact ⟨eW,by repeat (first|(with_reducible first|exact HB.out|apply bal|apply pbN|apply bd1|refine bst ?_ GE118.out)|exact HB.out)⟩
                   · rw [if_neg c70] at H
                     have c70b0:decide (a0_3 ≤ 99999) = false:=decide_eq_false c70;clear c70;obtain rfl:=Option.some.inj H;obtain ⟨hcz77_0,hcz77_1,hcz77_2,hcz77_3,hcz77_4,hcz77_5,hcz77_6⟩:=qc7 BK118.out;obtain ⟨hfz77_0,hfz77_1,hfz77_2,hfz77_3,hfz77_4,hfz77_5,hfz77_6⟩:=qz7 BK118.out
                     go_wp2_with (first|((with_reducible refine gca (f:=97) rfl ?_);refine gL (some 33) Tryz.func97 #[.string a0_0] ?_;(with_reducible refine (impl_isName.calls a0_0 true _ A20.out).mono ?_);rintro e w78 ⟨rfl,hb⟩;refine ⟨_,rfl,?_⟩;replace BK118:=As0.mk (bb hb BK118.out);replace HB:=As0.mk (bsp (by repeat (first|(with_reducible first|exact HB.out|apply bal|apply pbN|apply bd1|refine bst ?_ GE118.out)|exact HB.out)) hb);clear hb;obtain ⟨hcz79_0,hcz79_1,hcz79_2,hcz79_3,hcz79_4,hcz79_5,hcz79_6⟩:=qc7 BK118.out;obtain ⟨hfz79_0,hfz79_1,hfz79_2,hfz79_3,hfz79_4,hfz79_5,hfz79_6⟩:=qz7 BK118.out)|(go_at_call 97;(with_reducible refine (impl_isName.calls a0_1 true _ A22.out).mono ?_);rintro e w80 ⟨rfl,hb⟩;replace BK118:=As0.mk (bb hb BK118.out);replace HB:=As0.mk (bsp (by repeat (first|(with_reducible first|exact HB.out|apply bal|apply pbN|apply bd1|refine bst ?_ GE118.out)|exact HB.out)) hb);clear hb;obtain ⟨hcz81_0,hcz81_1,hcz81_2,hcz81_3,hcz81_4,hcz81_5,hcz81_6⟩:=qc7 BK118.out;obtain ⟨hfz81_0,hfz81_1,hfz81_2,hfz81_3,hfz81_4,hfz81_5,hfz81_6⟩:=qz7 BK118.out))
                     go_ret
                     exact ⟨eW,by repeat (first|(with_reducible first|exact HB.out|apply bal|apply pbN|apply bd1|refine bst ?_ GE118.out)|exact HB.out)⟩
                 · rw [if_neg c69] at H
                   have c69b0:decide (1 ≤ a0_3) = false:=decide_eq_false c69;clear c69;obtain rfl:=Option.some.inj H;obtain ⟨hcz82_0,hcz82_1,hcz82_2,hcz82_3,hcz82_4,hcz82_5,hcz82_6⟩:=qc7 BK118.out;obtain ⟨hfz82_0,hfz82_1,hfz82_2,hfz82_3,hfz82_4,hfz82_5,hfz82_6⟩:=qz7 BK118.out
                   go_wp2_with (first|((with_reducible refine gca (f:=97) rfl ?_);refine gL (some 33) Tryz.func97 #[.string a0_0] ?_;(with_reducible refine (impl_isName.calls a0_0 true _ A20.out).mono ?_);rintro e w83 ⟨rfl,hb⟩;refine ⟨_,rfl,?_⟩;replace BK118:=As0.mk (bb hb BK118.out);replace HB:=As0.mk (bsp (by repeat (first|(with_reducible first|exact HB.out|apply bal|apply pbN|apply bd1|refine bst ?_ GE118.out)|exact HB.out)) hb);clear hb;obtain ⟨hcz84_0,hcz84_1,hcz84_2,hcz84_3,hcz84_4,hcz84_5,hcz84_6⟩:=qc7 BK118.out;obtain ⟨hfz84_0,hfz84_1,hfz84_2,hfz84_3,hfz84_4,hfz84_5,hfz84_6⟩:=qz7 BK118.out)|(go_at_call 97;(with_reducible refine (impl_isName.calls a0_1 true _ A22.out).mono ?_);rintro e w85 ⟨rfl,hb⟩;replace BK118:=As0.mk (bb hb BK118.out);replace HB:=As0.mk (bsp (by repeat (first|(with_reducible first|exact HB.out|apply bal|apply pbN|apply bd1|refine bst ?_ GE118.out)|exact HB.out)) hb);clear hb;obtain ⟨hcz86_0,hcz86_1,hcz86_2,hcz86_3,hcz86_4,hcz86_5,hcz86_6⟩:=qc7 BK118.out;obtain ⟨hfz86_0,hfz86_1,hfz86_2,hfz86_3,hfz86_4,hfz86_5,hfz86_6⟩:=qz7 BK118.out))
                   go_ret
                   exact ⟨eW,by repeat (first|(with_reducible first|exact HB.out|apply bal|apply pbN|apply bd1|refine bst ?_ GE118.out)|exact HB.out)⟩
               · rw [if_neg c68] at H
                 have c68b0:decide (a0_2 ≤ 99999) = false:=decide_eq_false c68;clear c68;obtain rfl:=Option.some.inj H;obtain ⟨hcz87_0,hcz87_1,hcz87_2,hcz87_3,hcz87_4,hcz87_5,hcz87_6⟩:=qc7 BK118.out;obtain ⟨hfz87_0,hfz87_1,hfz87_2,hfz87_3,hfz87_4,hfz87_5,hfz87_6⟩:=qz7 BK118.out
                 go_wp2_with (first|((with_reducible refine gca (f:=97) rfl ?_);refine gL (some 33) Tryz.func97 #[.string a0_0] ?_;(with_reducible refine (impl_isName.calls a0_0 true _ A20.out).mono ?_);rintro e w88 ⟨rfl,hb⟩;refine ⟨_,rfl,?_⟩;replace BK118:=As0.mk (bb hb BK118.out);replace HB:=As0.mk (bsp (by repeat (first|(with_reducible first|exact HB.out|apply bal|apply pbN|apply bd1|refine bst ?_ GE118.out)|exact HB.out)) hb);clear hb;obtain ⟨hcz89_0,hcz89_1,hcz89_2,hcz89_3,hcz89_4,hcz89_5,hcz89_6⟩:=qc7 BK118.out;obtain ⟨hfz89_0,hfz89_1,hfz89_2,hfz89_3,hfz89_4,hfz89_5,hfz89_6⟩:=qz7 BK118.out)|(go_at_call 97;(with_reducible refine (impl_isName.calls a0_1 true _ A22.out).mono ?_);rintro e w90 ⟨rfl,hb⟩;replace BK118:=As0.mk (bb hb BK118.out);replace HB:=As0.mk (bsp (by repeat (first|(with_reducible first|exact HB.out|apply bal|apply pbN|apply bd1|refine bst ?_ GE118.out)|exact HB.out)) hb);clear hb;obtain ⟨hcz91_0,hcz91_1,hcz91_2,hcz91_3,hcz91_4,hcz91_5,hcz91_6⟩:=qc7 BK118.out;obtain ⟨hfz91_0,hfz91_1,hfz91_2,hfz91_3,hfz91_4,hfz91_5,hfz91_6⟩:=qz7 BK118.out))
                 go_ret
                 exact ⟨eW,by repeat (first|(with_reducible first|exact HB.out|apply bal|apply pbN|apply bd1|refine bst ?_ GE118.out)|exact HB.out)⟩
             · rw [if_neg c67] at H
               have c67b0:decide (1 ≤ a0_2) = false:=decide_eq_false c67;clear c67;obtain rfl:=Option.some.inj H;obtain ⟨hcz92_0,hcz92_1,hcz92_2,hcz92_3,hcz92_4,hcz92_5,hcz92_6⟩:=qc7 BK118.out;obtain ⟨hfz92_0,hfz92_1,hfz92_2,hfz92_3,hfz92_4,hfz92_5,hfz92_6⟩:=qz7 BK118.out
               go_wp2_with (first|((with_reducible refine gca (f:=97) rfl ?_);refine gL (some 33) Tryz.func97 #[.string a0_0] ?_;(with_reducible refine (impl_isName.calls a0_0 true _ A20.out).mono ?_);rintro e w93 ⟨rfl,hb⟩;refine ⟨_,rfl,?_⟩;replace BK118:=As0.mk (bb hb BK118.out);replace HB:=As0.mk (bsp (by repeat (first|(with_reducible first|exact HB.out|apply bal|apply pbN|apply bd1|refine bst ?_ GE118.out)|exact HB.out)) hb);clear hb;obtain ⟨hcz94_0,hcz94_1,hcz94_2,hcz94_3,hcz94_4,hcz94_5,hcz94_6⟩:=qc7 BK118.out;obtain ⟨hfz94_0,hfz94_1,hfz94_2,hfz94_3,hfz94_4,hfz94_5,hfz94_6⟩:=qz7 BK118.out)|(go_at_call 97;(with_reducible refine (impl_isName.calls a0_1 true _ A22.out).mono ?_);rintro e w95 ⟨rfl,hb⟩;replace BK118:=As0.mk (bb hb BK118.out);replace HB:=As0.mk (bsp (by repeat (first|(with_reducible first|exact HB.out|apply bal|apply pbN|apply bd1|refine bst ?_ GE118.out)|exact HB.out)) hb);clear hb;obtain ⟨hcz96_0,hcz96_1,hcz96_2,hcz96_3,hcz96_4,hcz96_5,hcz96_6⟩:=qc7 BK118.out;obtain ⟨hfz96_0,hfz96_1,hfz96_2,hfz96_3,hfz96_4,hfz96_5,hfz96_6⟩:=qz7 BK118.out))
               go_ret
               exact ⟨eW,by repeat (first|(with_reducible first|exact HB.out|apply bal|apply pbN|apply bd1|refine bst ?_ GE118.out)|exact HB.out)⟩
       · replace c23:=Bool.eq_false_iff.mpr c23
         subst c23;have H1:(some false) = some r:=by rw [if_neg (show ¬ (false = true) by decide)] at H;exact H
         clear H;have H:=H1;clear H1;obtain rfl:=Option.some.inj H;obtain ⟨hcz97_0,hcz97_1,hcz97_2,hcz97_3,hcz97_4,hcz97_5,hcz97_6⟩:=qc7 BK118.out;obtain ⟨hfz97_0,hfz97_1,hfz97_2,hfz97_3,hfz97_4,hfz97_5,hfz97_6⟩:=qz7 BK118.out
         go_wp2_with (first|((with_reducible refine gca (f:=97) rfl ?_);refine gL (some 33) Tryz.func97 #[.string a0_0] ?_;(with_reducible refine (impl_isName.calls a0_0 true _ A20.out).mono ?_);rintro e w98 ⟨rfl,hb⟩;refine ⟨_,rfl,?_⟩;replace BK118:=As0.mk (bb hb BK118.out);replace HB:=As0.mk (bsp (by repeat (first|(with_reducible first|exact HB.out|apply bal|apply pbN|apply bd1|refine bst ?_ GE118.out)|exact HB.out)) hb);clear hb;obtain ⟨hcz99_0,hcz99_1,hcz99_2,hcz99_3,hcz99_4,hcz99_5,hcz99_6⟩:=qc7 BK118.out;obtain ⟨hfz99_0,hfz99_1,hfz99_2,hfz99_3,hfz99_4,hfz99_5,hfz99_6⟩:=qz7 BK118.out)|(go_at_call 97;(with_reducible refine (impl_isName.calls a0_1 false _ A22.out).mono ?_);rintro e w100 ⟨rfl,hb⟩;replace BK118:=As0.mk (bb hb BK118.out);replace HB:=As0.mk (bsp (by repeat (first|(with_reducible first|exact HB.out|apply bal|apply pbN|apply bd1|refine bst ?_ GE118.out)|exact HB.out)) hb);clear hb))
         go_ret
         exact ⟨eW,by repeat (first|(with_reducible first|exact HB.out|apply bal|apply pbN|apply bd1|refine bst ?_ GE118.out)|exact HB.out)⟩
     · replace c21:=Bool.eq_false_iff.mpr c21
       subst c21;have H1:(some false) = some r:=by rw [if_neg (show ¬ (false = true) by decide)] at H;exact H
       clear H;have H:=H1;clear H1;obtain rfl:=Option.some.inj H;obtain ⟨hcz101_0,hcz101_1,hcz101_2,hcz101_3,hcz101_4,hcz101_5,hcz101_6⟩:=qc7 BK118.out;obtain ⟨hfz101_0,hfz101_1,hfz101_2,hfz101_3,hfz101_4,hfz101_5,hfz101_6⟩:=qz7 BK118.out
       go_wp2_with (first|((with_reducible refine gca (f:=97) rfl ?_);refine gL (some 33) Tryz.func97 #[.string a0_0] ?_;(with_reducible refine (impl_isName.calls a0_0 false _ A20.out).mono ?_);rintro e w102 ⟨rfl,hb⟩;refine ⟨_,rfl,?_⟩;replace BK118:=As0.mk (bb hb BK118.out);replace HB:=As0.mk (bsp (by repeat (first|(with_reducible first|exact HB.out|apply bal|apply pbN|apply bd1|refine bst ?_ GE118.out)|exact HB.out)) hb);clear hb))
       go_ret
       exact ⟨eW,by repeat (first|(with_reducible first|exact HB.out|apply bal|apply pbN|apply bd1|refine bst ?_ GE118.out)|exact HB.out)⟩
def cmp_Or_int.l0:Nat → Int → List Int → Int → Int → Option (Int)
 |0,_,_,_,_=>none
 |k + 1,x3,x6,x7,x8=>if x8 < x7 then (if 0 ≤ x8 then (if x8 < (x6.length:Int) then (if (rd x6 x8) = x3 then (cmp_Or_int.l0 k x3 x6 x7 (wrap64 (x8 + 1))) else (some (rd x6 x8))) else (none)) else (none)) else (some x3)
def cmp_Or_int.f (k:Nat) (l0:List Int):Option (Int):=cmp_Or_int.l0 k 0 l0 (l0.length:Int) 0
set_option maxHeartbeats 40000000 in
set_option maxRecDepth 100000 in
theorem cmp_Or_int.calls (k:Nat) (A0:Option Addr) (c0:Nat) (l0:List Int) (r:Int) (w:World) (hr0:Kd.C (Kd.int .i64) w A0 l0.length l0) (hc0:l0.length ≤ c0) (h:cmp_Or_int.f k l0 = some r) :
 Calls Tryz.prog 101 #[.slice A0 l0.length c0] w fun e w'=>e = .returned (.int .i64 r) ∧ Drawn0 w w':=by
 have HR0:=As0.mk hr0;have HC0:=As0.mk hc0;clear hr0 hc0;have H:(cmp_Or_int.l0 k 0 l0 (l0.length:Int) 0) = some r:=h;clear h;have H':=As0.mk H;clear H
 go_enter Tryz.func101,Tryz.ntmps101
 go_wp2
 show _;go_loopg [8] k (fun kq v8 w'=>∃ (x8_1:Int),v8 = .int .i64 x8_1 ∧ As0 (cmp_Or_int.l0 kq 0 l0 (l0.length:Int) x8_1 = some r) ∧ As0 (kq ≤ k) ∧ Drawn0 w w')
 case atStart=>exact ⟨(0),(by first|rfl|(simp;done)|(simp [*];done)),H',⟨Nat.le_refl _⟩,by repeat (first|exact Drawn0.refl _|apply Drawn0.step)⟩
 case round=>
  clear H'
  try clear c1
  obtain ⟨x8_1,rfl,HA,HK1,⟨m1,rfl⟩⟩:=hrel
  cases gk with
  |zero=>exact absurd HA.out (by simp [cmp_Or_int.l0])
  |succ k1=>
   have H:=HA.out;clear HA;simp only [cmp_Or_int.l0] at H;by_cases c2:x8_1 < (l0.length:Int)
   · rw [if_pos c2] at H
     have c2b0:decide (x8_1 < (l0.length:Int)) = true:=decide_eq_true c2;clear c2;by_cases c3:0 ≤ x8_1
     · rw [if_pos c3] at H
       have c3b0:decide (0 ≤ x8_1) = true:=decide_eq_true c3;clear c3;by_cases c4:x8_1 < (l0.length:Int)
       · rw [if_pos c4] at H
         have c4b0:decide (x8_1 < (l0.length:Int)) = true:=decide_eq_true c4;clear c4;by_cases c5:(rd l0 x8_1) = 0
         · rw [if_pos c5] at H
           have c5b0:((rd l0 x8_1) == 0) = true:=beq_iff_eq.mpr c5;have c5b1:((rd l0 x8_1) != 0) = false:=bne_eq_false_iff_eq.mpr c5;clear c5;have H':=As0.mk H;clear H;have p126:0 ≤ (x8_1:Int):=odt;have q126:x8_1 < (l0.length:Int):=odt;obtain ⟨ad126,e126,hx126_0⟩:=Kd.at_int HR0.out x8_1 p126 q126
           cases e126
           replace p126:=eq_true p126;replace q126:=eq_true q126
           go_wp2
           show _;go_roundg k1
           case measure=>have:=HK1.out;omega
           case rel=>exact ⟨(wrap64 (x8_1 + 1)),(by first|rfl|(simp;done)|(simp [*];done)),H',⟨by have:=HK1.out;omega⟩,by repeat (first|exact Drawn0.refl _|apply Drawn0.step)⟩
         · rw [if_neg c5] at H
           have c5b0:((rd l0 x8_1) == 0) = false:=beq_eq_false_iff_ne.mpr c5;have c5b1:((rd l0 x8_1) != 0) = true:=bne_iff_ne.mpr c5;obtain rfl:=Option.some.inj H;have p126:0 ≤ (x8_1:Int):=odt;have q126:x8_1 < (l0.length:Int):=odt;obtain ⟨ad126,e126,hx126_0⟩:=Kd.at_int HR0.out x8_1 p126 q126
           cases e126
           replace p126:=eq_true p126;replace q126:=eq_true q126
           go_wp2
           go_ret
           exact ⟨by first|rfl|(simp;done)|(simp [*];done),by repeat (first|exact Drawn0.refl _|apply Drawn0.step)⟩
       · rw [if_neg c4] at H
         exact absurd H (by simp)
     · rw [if_neg c3] at H
       exact absurd H (by simp)
   · rw [if_neg c2] at H
     have c2b0:decide (x8_1 < (l0.length:Int)) = false:=decide_eq_false c2;clear c2;obtain rfl:=Option.some.inj H
     go_wp2
     go_ret
     exact ⟨by first|rfl|(simp;done)|(simp [*];done),by repeat (first|exact Drawn0.refl _|apply Drawn0.step)⟩
def cmp_isNaN_string.f (a0:ByteArray):Option (Bool):=some (a0.toList != a0.toList)
set_option maxHeartbeats 40000000 in
set_option maxRecDepth 100000 in
theorem cmp_isNaN_string.calls (a0:ByteArray) (r:Bool) (w:World) (h:cmp_isNaN_string.f a0 = some r) :
 Calls Tryz.prog 123 #[.string a0] w fun e w'=>e = .returned (.bool r) ∧ Drawn0 w w':=by
 have H:(some (a0.toList != a0.toList)) = some r:=h;clear h;obtain rfl:=Option.some.inj H
 go_enter Tryz.func123,Tryz.ntmps123
 go_wp2
 go_ret
 exact ⟨by first|rfl|(simp;done)|(simp [*];done),by repeat (first|exact Drawn0.refl _|apply Drawn0.step)⟩
def cmp_Compare_string.f (a0:ByteArray) (a1:ByteArray):Option (Int):=(cmp_isNaN_string.f a0).bind fun t127=>((cmp_isNaN_string.f a1).bind fun t128=>(if t127 = true then (if t128 = true then (some 0) else (some (-1))) else (if t128 = true then (some 1) else (if (Op.bytesLess a0.toList a1.toList) = true then (some (-1)) else (if (Op.bytesLess a1.toList a0.toList) = true then (some 1) else (some 0))))))
set_option maxHeartbeats 40000000 in
set_option maxRecDepth 100000 in
theorem cmp_Compare_string.calls (a0:ByteArray) (a1:ByteArray) (r:Int) (w:World) (h:cmp_Compare_string.f a0 a1 = some r) :
 Calls Tryz.prog 102 #[.string a0,.string a1] w fun e w'=>e = .returned (.int .i64 r) ∧ Drawn0 w w':=by
 have H:((cmp_isNaN_string.f a0).bind fun t127=>((cmp_isNaN_string.f a1).bind fun t128=>(if t127 = true then (if t128 = true then (some 0) else (some (-1))) else (if t128 = true then (some 1) else (if (Op.bytesLess a0.toList a1.toList) = true then (some (-1)) else (if (Op.bytesLess a1.toList a0.toList) = true then (some 1) else (some 0))))))) = some r:=h;clear h;replace H:=Option.bind_eq_some_iff.mp H;obtain ⟨t127,A30,H⟩:=H;(try dsimp only at H);have A3:=As0.mk A30;clear A30;replace H:=Option.bind_eq_some_iff.mp H;obtain ⟨t128,A40,H⟩:=H;(try dsimp only at H);have A4:=As0.mk A40;clear A40;by_cases c5:t127 = true
 · subst c5
   have H1:(if t128 = true then (some 0) else (some (-1))) = some r:=by rw [if_pos rfl] at H;exact H
   clear H;have H:=H1;clear H1;by_cases c6:t128 = true
   · subst c6
     have H1:(some 0) = some r:=by rw [if_pos rfl] at H;exact H
     clear H;have H:=H1;clear H1;obtain rfl:=Option.some.inj H
     go_enter Tryz.func102,Tryz.ntmps102
     go_wp2_with (first|((with_reducible refine gca (f:=123) rfl ?_);refine gL (some 8) Tryz.func123 #[.string a0] ?_;(with_reducible refine (cmp_isNaN_string.calls a0 true _ A3.out).mono ?_);rintro e w' ⟨rfl,⟨nd,rfl⟩⟩;refine ⟨_,rfl,?_⟩)|((with_reducible refine gca (f:=123) rfl ?_);refine gL (some 10) Tryz.func123 #[.string a1] ?_;(with_reducible refine (cmp_isNaN_string.calls a1 true _ A4.out).mono ?_);rintro e w' ⟨rfl,⟨nd,rfl⟩⟩;refine ⟨_,rfl,?_⟩))
     go_ret
     exact ⟨by first|rfl|(simp;done)|(simp [*];done),by repeat (first|exact Drawn0.refl _|apply Drawn0.step)⟩
   · replace c6:=Bool.eq_false_iff.mpr c6
     subst c6;have H1:(some (-1)) = some r:=by rw [if_neg (show ¬ (false = true) by decide)] at H;exact H
     clear H;have H:=H1;clear H1;obtain rfl:=Option.some.inj H
     go_enter Tryz.func102,Tryz.ntmps102
     go_wp2_with (first|((with_reducible refine gca (f:=123) rfl ?_);refine gL (some 8) Tryz.func123 #[.string a0] ?_;(with_reducible refine (cmp_isNaN_string.calls a0 true _ A3.out).mono ?_);rintro e w' ⟨rfl,⟨nd,rfl⟩⟩;refine ⟨_,rfl,?_⟩)|((with_reducible refine gca (f:=123) rfl ?_);refine gL (some 10) Tryz.func123 #[.string a1] ?_;(with_reducible refine (cmp_isNaN_string.calls a1 false _ A4.out).mono ?_);rintro e w' ⟨rfl,⟨nd,rfl⟩⟩;refine ⟨_,rfl,?_⟩))
     go_ret
     exact ⟨by first|rfl|(simp;done)|(simp [*];done),by repeat (first|exact Drawn0.refl _|apply Drawn0.step)⟩
 · replace c5:=Bool.eq_false_iff.mpr c5
   subst c5;have H1:(if t128 = true then (some 1) else (if (Op.bytesLess a0.toList a1.toList) = true then (some (-1)) else (if (Op.bytesLess a1.toList a0.toList) = true then (some 1) else (some 0)))) = some r:=by rw [if_neg (show ¬ (false = true) by decide)] at H;exact H
   clear H;have H:=H1;clear H1;by_cases c7:t128 = true
   · subst c7
     have H1:(some 1) = some r:=by rw [if_pos rfl] at H;exact H
     clear H;have H:=H1;clear H1;obtain rfl:=Option.some.inj H
     go_enter Tryz.func102,Tryz.ntmps102
     go_wp2_with (first|((with_reducible refine gca (f:=123) rfl ?_);refine gL (some 8) Tryz.func123 #[.string a0] ?_;(with_reducible refine (cmp_isNaN_string.calls a0 false _ A3.out).mono ?_);rintro e w' ⟨rfl,⟨nd,rfl⟩⟩;refine ⟨_,rfl,?_⟩)|((with_reducible refine gca (f:=123) rfl ?_);refine gL (some 10) Tryz.func123 #[.string a1] ?_;(with_reducible refine (cmp_isNaN_string.calls a1 true _ A4.out).mono ?_);rintro e w' ⟨rfl,⟨nd,rfl⟩⟩;refine ⟨_,rfl,?_⟩))
     go_ret
     exact ⟨by first|rfl|(simp;done)|(simp [*];done),by repeat (first|exact Drawn0.refl _|apply Drawn0.step)⟩
   · replace c7:=Bool.eq_false_iff.mpr c7
     subst c7;have H1:(if (Op.bytesLess a0.toList a1.toList) = true then (some (-1)) else (if (Op.bytesLess a1.toList a0.toList) = true then (some 1) else (some 0))) = some r:=by rw [if_neg (show ¬ (false = true) by decide)] at H;exact H
     clear H;have H:=H1;clear H1;by_cases c8:(Op.bytesLess a0.toList a1.toList) = true
     · rw [if_pos c8] at H
       have c8b0:(Op.bytesLess a0.toList a1.toList) = true:=c8;clear c8;obtain rfl:=Option.some.inj H
       go_enter Tryz.func102,Tryz.ntmps102
       go_wp2_with (first|((with_reducible refine gca (f:=123) rfl ?_);refine gL (some 8) Tryz.func123 #[.string a0] ?_;(with_reducible refine (cmp_isNaN_string.calls a0 false _ A3.out).mono ?_);rintro e w' ⟨rfl,⟨nd,rfl⟩⟩;refine ⟨_,rfl,?_⟩)|((with_reducible refine gca (f:=123) rfl ?_);refine gL (some 10) Tryz.func123 #[.string a1] ?_;(with_reducible refine (cmp_isNaN_string.calls a1 false _ A4.out).mono ?_);rintro e w' ⟨rfl,⟨nd,rfl⟩⟩;refine ⟨_,rfl,?_⟩))
       go_ret
       exact ⟨by first|rfl|(simp;done)|(simp [*];done),by repeat (first|exact Drawn0.refl _|apply Drawn0.step)⟩
     · rw [if_neg c8] at H
       have c8b0:(Op.bytesLess a0.toList a1.toList) = false:=by simpa using c8
       clear c8;by_cases c9:(Op.bytesLess a1.toList a0.toList) = true
       · rw [if_pos c9] at H
         have c9b0:(Op.bytesLess a1.toList a0.toList) = true:=c9;clear c9;obtain rfl:=Option.some.inj H
         go_enter Tryz.func102,Tryz.ntmps102
         go_wp2_with (first|((with_reducible refine gca (f:=123) rfl ?_);refine gL (some 8) Tryz.func123 #[.string a0] ?_;(with_reducible refine (cmp_isNaN_string.calls a0 false _ A3.out).mono ?_);rintro e w' ⟨rfl,⟨nd,rfl⟩⟩;refine ⟨_,rfl,?_⟩)|((with_reducible refine gca (f:=123) rfl ?_);refine gL (some 10) Tryz.func123 #[.string a1] ?_;(with_reducible refine (cmp_isNaN_string.calls a1 false _ A4.out).mono ?_);rintro e w' ⟨rfl,⟨nd,rfl⟩⟩;refine ⟨_,rfl,?_⟩))
         go_ret
         exact ⟨by first|rfl|(simp;done)|(simp [*];done),by repeat (first|exact Drawn0.refl _|apply Drawn0.step)⟩
       · rw [if_neg c9] at H
         have c9b0:(Op.bytesLess a1.toList a0.toList) = false:=by simpa using c9
         clear c9;obtain rfl:=Option.some.inj H
         go_enter Tryz.func102,Tryz.ntmps102
         go_wp2_with (first|((with_reducible refine gca (f:=123) rfl ?_);refine gL (some 8) Tryz.func123 #[.string a0] ?_;(with_reducible refine (cmp_isNaN_string.calls a0 false _ A3.out).mono ?_);rintro e w' ⟨rfl,⟨nd,rfl⟩⟩;refine ⟨_,rfl,?_⟩)|((with_reducible refine gca (f:=123) rfl ?_);refine gL (some 10) Tryz.func123 #[.string a1] ?_;(with_reducible refine (cmp_isNaN_string.calls a1 false _ A4.out).mono ?_);rintro e w' ⟨rfl,⟨nd,rfl⟩⟩;refine ⟨_,rfl,?_⟩))
         go_ret
         exact ⟨by first|rfl|(simp;done)|(simp [*];done),by repeat (first|exact Drawn0.refl _|apply Drawn0.step)⟩
def impl_compareThings.f (k:Nat) (a0_0:ByteArray) (a0_1:ByteArray) (a0_2:Int) (a0_3:Int) (a0_4:Bool) (l0_5:List ByteArray) (a0_6:ByteArray) (a1_0:ByteArray) (a1_1:ByteArray) (a1_2:Int) (a1_3:Int) (a1_4:Bool) (l1_5:List ByteArray) (a1_6:ByteArray):Option (Int):=(cmp_Compare_string.f a0_0 a1_0).bind fun t131=>((cmp_Compare_string.f a0_1 a1_1).bind fun t132=>((cmp_Or_int.f k (([t131,t132]:List Int))).bind fun t136=>(some t136)))
def impl_compareThings.T1:Bool × List (List Nat × List Nat):=(true,[([],[]),([0],[0]),([],[]),([2],[2]),([1,3],[1,3]),([],[]),([5],[5]),([],[]),([7],[7]),([6,8,4],[6,8]),([4,9],[4,9]),([10,9],[10]),([11,11,0,1,2,3,4,5,6,7,8,9,10,11],[11])])
def impl_compareThings.B1:List Nat:=[0,1,0,4,15,0,32,0,128,511,1023,2047,4095]
theorem impl_compareThings.tab1:rtab .any (opsOf Tryz.f66 1) = impl_compareThings.T1:=by kernel_rfl
theorem impl_compareThings.bits1:waitsOk impl_compareThings.T1.2 impl_compareThings.B1 = true:=by kernel_rfl
set_option maxHeartbeats 40000000 in
set_option maxRecDepth 100000 in
theorem impl_compareThings.calls (k:Nat) (a0_0:ByteArray) (a0_1:ByteArray) (a0_2:Int) (a0_3:Int) (a0_4:Bool) (A0_5:Option Addr) (c0_5:Nat) (l0_5:List ByteArray) (a0_6:ByteArray) (a1_0:ByteArray) (a1_1:ByteArray) (a1_2:Int) (a1_3:Int) (a1_4:Bool) (A1_5:Option Addr) (c1_5:Nat) (l1_5:List ByteArray) (a1_6:ByteArray) (r:Int) (w:World) (hr0_5:Kd.C Kd.string w A0_5 l0_5.length l0_5) (hc0_5:l0_5.length ≤ c0_5) (hr1_5:Kd.C Kd.string w A1_5 l1_5.length l1_5) (hc1_5:l1_5.length ≤ c1_5) (h:impl_compareThings.f k a0_0 a0_1 a0_2 a0_3 a0_4 l0_5 a0_6 a1_0 a1_1 a1_2 a1_3 a1_4 l1_5 a1_6 = some r) :
 Calls Tryz.prog 66 #[.agg #[.string a0_0,.string a0_1,.int .i64 a0_2,.int .i64 a0_3,.bool a0_4,.slice A0_5 l0_5.length c0_5,.string a0_6],.agg #[.string a1_0,.string a1_1,.int .i64 a1_2,.int .i64 a1_3,.bool a1_4,.slice A1_5 l1_5.length c1_5,.string a1_6]] w fun e w'=>e = .returned (.int .i64 r) ∧ Below w.heap.size w w':=by
 have hu44:=Tryz.underlying44;have HR0_5:=As0.mk hr0_5;have HC0_5:=As0.mk hc0_5;clear hr0_5 hc0_5;have HR1_5:=As0.mk hr1_5;have HC1_5:=As0.mk hc1_5;clear hr1_5 hc1_5;have HB:=As0.mk (Below.refl w.heap.size w);have H:((cmp_Compare_string.f a0_0 a1_0).bind fun t131=>((cmp_Compare_string.f a0_1 a1_1).bind fun t132=>((cmp_Or_int.f k (([t131,t132]:List Int))).bind fun t136=>(some t136)))) = some r:=h;clear h;replace H:=Option.bind_eq_some_iff.mp H;obtain ⟨t131,A30,H⟩:=H;(try dsimp only at H);have A3:=As0.mk A30;clear A30;replace H:=Option.bind_eq_some_iff.mp H;obtain ⟨t132,A40,H⟩:=H;(try dsimp only at H);have A4:=As0.mk A40;clear A40;obtain ⟨y133,hy133⟩:∃ y_:List Int,y_ = (([t131,t132]:List Int)):=⟨_,rfl⟩;replace H:((cmp_Or_int.f k y133).bind fun t136=>(some t136)) = some r:=by first|(rw [hy133];with_reducible exact H)|(have H2_:=(Option.bind_some _ _).symm.trans H;rw [hy133];with_reducible exact H2_)|(have H2_:=(Option.bind_some _ _).symm.trans H;with_reducible exact H2_)|with_reducible exact H|(rw [hy133];exact H)|exact H
 have Ny133:=As0.mk hy133;clear hy133;replace H:=Option.bind_eq_some_iff.mp H;obtain ⟨t136,A50,H⟩:=H;(try dsimp only at H);have A5:=As0.mk A50;clear A50;obtain rfl:=Option.some.inj H
 go_enter Tryz.func66,Tryz.ntmps66
 try go_wp2_with (first|((with_reducible refine gate_dst (N:=2) rfl ?_);refine bE 2 #[.string a0_0,.string a0_1,.int .i64 a0_2,.int .i64 a0_3,.bool a0_4,.slice A0_5 l0_5.length c0_5,.string a0_6] 44 ?_;intro gb129 hg w6 hbox hb;have BK129:=As0.mk (hbox);have GW129:=As0.mk ((by rw [hg];exact (bsz (by repeat (first|(with_reducible first|exact HB.out|apply bal|apply pbN|apply bd1)|exact HB.out))):w.heap.size ≤ gb129));have GE129:=GW129;replace HB:=As0.mk (b3 HB.out hb);clear hb hbox hg)|((with_reducible refine gate_dst (N:=3) rfl ?_);refine bE 3 #[.string a1_0,.string a1_1,.int .i64 a1_2,.int .i64 a1_3,.bool a1_4,.slice A1_5 l1_5.length c1_5,.string a1_6] 44 ?_;intro gb130 hg w7 hbox hb;have BK130:=As0.mk (hbox);have GW130:=As0.mk ((by rw [hg];exact (bsz (by repeat (first|(with_reducible first|exact HB.out|apply bal|apply pbN|apply bd1|refine bst ?_ GE129.out)|exact HB.out))):w.heap.size ≤ gb130));have GE130:=GW130;replace HB:=As0.mk (bsp (by repeat (first|(with_reducible first|exact HB.out|apply bal|apply pbN|apply bd1|refine bst ?_ GE129.out)|exact HB.out)) hb);have NB129_130:=As0.mk ((by rw [hg];exact Nat.ne_of_lt (blk_lt (g:=gb129) (o:=.cells #[.string a0_0,.string a0_1,.int .i64 a0_2,.int .i64 a0_3,.bool a0_4,.slice A0_5 l0_5.length c0_5,.string a0_6] 44 (0,0)) (by (with_reducible repeat (first|refine bkN ?_ _|refine bkD ?_|refine bkA ?_ _));exact BK129.out)):gb129 ≠ gb130));have NB130_129:=As0.mk (Ne.symm NB129_130.out);replace BK129:=As0.mk (bb hb BK129.out);clear hb hbox hg))
 replace BK129:=As0.mk (bkD BK129.out);replace BK130:=As0.mk (bkD BK130.out);replace HB:=As0.mk (bd1 HB.out);refine start_ (n:=13) (S:=fun w'=>w'.cell? ⟨gb129,0,none⟩ = some (.string a0_0) ∧ w'.cell? ⟨gb129,1,none⟩ = some (.string a0_1) ∧ w'.cell? ⟨gb129,2,none⟩ = some (.int .i64 a0_2) ∧ w'.cell? ⟨gb129,3,none⟩ = some (.int .i64 a0_3) ∧ w'.cell? ⟨gb129,4,none⟩ = some (.bool a0_4) ∧ w'.cell? ⟨gb129,5,none⟩ = some (.slice A0_5 l0_5.length c0_5) ∧ w'.cell? ⟨gb129,6,none⟩ = some (.string a0_6) ∧ w'.cell? ⟨gb130,0,none⟩ = some (.string a1_0) ∧ w'.cell? ⟨gb130,1,none⟩ = some (.string a1_1) ∧ w'.cell? ⟨gb130,2,none⟩ = some (.int .i64 a1_2) ∧ w'.cell? ⟨gb130,3,none⟩ = some (.int .i64 a1_3) ∧ w'.cell? ⟨gb130,4,none⟩ = some (.bool a1_4) ∧ w'.cell? ⟨gb130,5,none⟩ = some (.slice A1_5 l1_5.length c1_5) ∧ w'.cell? ⟨gb130,6,none⟩ = some (.string a1_6)) (ds:=[]) #[false,false,false,false,false,false,false,false,false,false,false,false,false] (by kernel_rfl) rfl rfl ⟨(bkC BK129.out 0).trans rfl,(bkC BK129.out 1).trans rfl,(bkC BK129.out 2).trans rfl,(bkC BK129.out 3).trans rfl,(bkC BK129.out 4).trans rfl,(bkC BK129.out 5).trans rfl,(bkC BK129.out 6).trans rfl,(bkC BK130.out 0).trans rfl,(bkC BK130.out 1).trans rfl,(bkC BK130.out 2).trans rfl,(bkC BK130.out 3).trans rfl,(bkC BK130.out 4).trans rfl,(bkC BK130.out 5).trans rfl,(bkC BK130.out 6).trans rfl⟩ (fun hHeld=>?_);refine with_tabW impl_compareThings.tab1 impl_compareThings.bits1 (fun HT_ HW_=>?_);generalize w7.drew = w8 at BK129 BK130 HB hHeld ⊢
 refine pu 0 (some 5) #[true,false,false,false,false,false,false,false,false,false,false,false,false] rfl rfl HT_.out ?_;refine pu 2 (some 7) #[true,false,true,false,false,false,false,false,false,false,false,false,false] rfl rfl HT_.out ?_;refine pu 5 (some 10) #[true,false,true,false,false,true,false,false,false,false,false,false,false] rfl rfl HT_.out ?_;refine pu 7 (some 12) #[true,false,true,false,false,true,false,true,false,false,false,false,false] rfl rfl HT_.out ?_;refine tk 1 (some 6) #[true,true,true,false,false,true,false,true,false,false,false,false,false] rfl rfl HT_.out HW_.out hHeld (by rintro w' ⟨s0,s1,s2,s3,s4,s5,s6,s7,s8,s9,s10,s11,s12,s13⟩;go_simp;with_reducible rfl) ?_;refine tk 3 (some 8) #[true,true,true,true,false,true,false,true,false,false,false,false,false] rfl rfl HT_.out HW_.out hHeld (by rintro w' ⟨s0,s1,s2,s3,s4,s5,s6,s7,s8,s9,s10,s11,s12,s13⟩;go_simp;with_reducible rfl) ?_;refine tk 6 (some 11) #[true,true,true,true,false,true,true,true,false,false,false,false,false] rfl rfl HT_.out HW_.out hHeld (by rintro w' ⟨s0,s1,s2,s3,s4,s5,s6,s7,s8,s9,s10,s11,s12,s13⟩;go_simp;with_reducible rfl) ?_;refine tk 8 (some 13) #[true,true,true,true,false,true,true,true,true,false,false,false,false] rfl rfl HT_.out HW_.out hHeld (by rintro w' ⟨s0,s1,s2,s3,s4,s5,s6,s7,s8,s9,s10,s11,s12,s13⟩;go_simp;with_reducible rfl) ?_;refine one_ (i:=4) (N:=some 9) #[true,true,true,true,true,true,true,true,true,false,false,false,false] rfl rfl (one_of HT_.out (by kernel_rfl)) (by decide) (fun K hK=>?_);refine goes_ Tryz.func102 (by kernel_rfl) rfl #[.string a0_0,.string a1_0] (by rfl) rfl rfl (by (try simp only [List.map_toArray,List.map_cons,List.map_nil]);first|done|rfl|(simp only [List.length_drop,List.length_take];rfl)) ?_;with_reducible refine (cmp_Compare_string.calls a0_0 a1_0 t131 _ A3.out).mono ?_
 rintro e w' ⟨rfl,⟨nd,rfl⟩⟩;refine ⟨_,rfl,?_⟩;refine hK.out _ _ ⟨(bkC BK129.out 0).trans rfl,(bkC BK129.out 1).trans rfl,(bkC BK129.out 2).trans rfl,(bkC BK129.out 3).trans rfl,(bkC BK129.out 4).trans rfl,(bkC BK129.out 5).trans rfl,(bkC BK129.out 6).trans rfl,(bkC BK130.out 0).trans rfl,(bkC BK130.out 1).trans rfl,(bkC BK130.out 2).trans rfl,(bkC BK130.out 3).trans rfl,(bkC BK130.out 4).trans rfl,(bkC BK130.out 5).trans rfl,(bkC BK130.out 6).trans rfl⟩ (fun hHeld=>?_);clear hK K;refine norm_ (a':=?_) ?_ ?_;rotate_left
 · show Act.put _ (some 9) _ = _
   simp only [Act.put,sA,sZ,sS,i64_w,i32_w];rfl
 refine one_ (i:=9) (N:=some 14) #[true,true,true,true,true,true,true,true,true,true,false,false,false] rfl rfl (one_of HT_.out (by kernel_rfl)) (by decide) (fun K hK=>?_);refine goes_ Tryz.func102 (by kernel_rfl) rfl #[.string a0_1,.string a1_1] (by rfl) rfl rfl (by (try simp only [List.map_toArray,List.map_cons,List.map_nil]);first|done|rfl|(simp only [List.length_drop,List.length_take];rfl)) ?_;with_reducible refine (cmp_Compare_string.calls a0_1 a1_1 t132 _ A4.out).mono ?_
 rintro e w' ⟨rfl,⟨nd,rfl⟩⟩;refine ⟨_,rfl,?_⟩;refine hK.out _ _ ⟨(bkC BK129.out 0).trans rfl,(bkC BK129.out 1).trans rfl,(bkC BK129.out 2).trans rfl,(bkC BK129.out 3).trans rfl,(bkC BK129.out 4).trans rfl,(bkC BK129.out 5).trans rfl,(bkC BK129.out 6).trans rfl,(bkC BK130.out 0).trans rfl,(bkC BK130.out 1).trans rfl,(bkC BK130.out 2).trans rfl,(bkC BK130.out 3).trans rfl,(bkC BK130.out 4).trans rfl,(bkC BK130.out 5).trans rfl,(bkC BK130.out 6).trans rfl⟩ (fun hHeld=>?_);clear hK K;refine norm_ (a':=?_) ?_ ?_;rotate_left
 · show Act.put _ (some 14) _ = _
   simp only [Act.put,sA,sZ,sS,i64_w,i32_w];rfl
 refine one_ (i:=10) (N:=some 15) #[true,true,true,true,true,true,true,true,true,true,true,false,false] rfl rfl (one_of HT_.out (by kernel_rfl)) (by decide) (fun K hK=>?_);refine Kd.R_lit_step (Kd.int .i64) _ 3 ?hg (N:=15) ?hd (xs:=([t131,t132]:List Int)) (inner:=[.int .i64 t131,.int .i64 t132]) (ok:=fun _=>True) (okp:=fun _=>True) ?hr ?hp (fun _ hk=>hk) trivial (Below.refl _ _) (Nat.le_refl _) (by simp) ?_;(case hd=>rfl);(case hg=>rfl);(case hr=>first|(go_simp;done)|(go_simp;rfl));(case hp=>exact (Reps.one (show Kd.M (Kd.int .i64) _ _ _ t131 [.int .i64 t131] from rfl) (Reps.one (show Kd.M (Kd.int .i64) _ _ _ t132 [.int .i64 t132] from rfl) (Reps.none _ _))));intro v134 w9 ho10 hb hg_ hnew_;clear hg_ hnew_
 (first|rw [← Ny133.out] at ho10|(simp only [Int.reduceToNat] at ho10;rw [← Ny133.out] at ho10))
 have HO135:=As0.mk (Kd.R_lower ho10 (bsz (by repeat (first|(with_reducible first|exact HB.out|apply bal|apply pbN|apply bd1|refine bst ?_ GE129.out|refine bst ?_ GE130.out)|exact HB.out))));replace BK129:=As0.mk (bb hb BK129.out);replace BK130:=As0.mk (bb hb BK130.out);replace HB:=As0.mk (bsp (by repeat (first|(with_reducible first|exact HB.out|apply bal|apply pbN|apply bd1|refine bst ?_ GE129.out|refine bst ?_ GE130.out)|exact HB.out)) hb);clear hb ho10;obtain ⟨Ao11,co11,eo11⟩:=Kd.R_slice HO135.out
 (first|subst eo11|(injection eo11 with f1_ f2_ f3_;have f4_:=f1_.symm;have f5_:=f3_.symm;clear f1_ f2_ f3_;subst f4_;subst f5_))
 refine hK.out _ _ ⟨(bkC BK129.out 0).trans rfl,(bkC BK129.out 1).trans rfl,(bkC BK129.out 2).trans rfl,(bkC BK129.out 3).trans rfl,(bkC BK129.out 4).trans rfl,(bkC BK129.out 5).trans rfl,(bkC BK129.out 6).trans rfl,(bkC BK130.out 0).trans rfl,(bkC BK130.out 1).trans rfl,(bkC BK130.out 2).trans rfl,(bkC BK130.out 3).trans rfl,(bkC BK130.out 4).trans rfl,(bkC BK130.out 5).trans rfl,(bkC BK130.out 6).trans rfl⟩ (fun hHeld=>?_);clear hK K;refine norm_ (a':=?_) ?_ ?_;rotate_left
 · show Act.put _ (some 15) _ = _
   simp only [Act.put,sA,sZ,sS,i64_w,i32_w];rfl
 refine one_ (i:=11) (N:=some 16) #[true,true,true,true,true,true,true,true,true,true,true,true,false] rfl rfl (one_of HT_.out (by kernel_rfl)) (by decide) (fun K hK=>?_);refine goes_ Tryz.func101 (by kernel_rfl) rfl #[.slice Ao11 y133.length co11] (by rfl) rfl rfl (by (try simp only [List.map_toArray,List.map_cons,List.map_nil]);first|done|rfl|(simp only [List.length_drop,List.length_take];rfl)) ?_;with_reducible refine (cmp_Or_int.calls k _ _ y133 t136 _ ?side1 ?side2 A5.out).mono ?_
 (case side1=>repeat (first|exact (Kd.R_reads' HO135.out).2.2|(with_reducible first|refine Kd.C_alloc ?_ _|refine Kd.C_drewN ?_ _|refine Kd.C_drew ?_)))
 (case side2=>exact (Kd.R_reads' HO135.out).2.1)
 rintro e w' ⟨rfl,⟨nd,rfl⟩⟩;refine ⟨_,rfl,?_⟩;refine hK.out _ _ ⟨(bkC BK129.out 0).trans rfl,(bkC BK129.out 1).trans rfl,(bkC BK129.out 2).trans rfl,(bkC BK129.out 3).trans rfl,(bkC BK129.out 4).trans rfl,(bkC BK129.out 5).trans rfl,(bkC BK129.out 6).trans rfl,(bkC BK130.out 0).trans rfl,(bkC BK130.out 1).trans rfl,(bkC BK130.out 2).trans rfl,(bkC BK130.out 3).trans rfl,(bkC BK130.out 4).trans rfl,(bkC BK130.out 5).trans rfl,(bkC BK130.out 6).trans rfl⟩ (fun hHeld=>?_);clear hK K;refine norm_ (a':=?_) ?_ ?_;rotate_left
 · show Act.put _ (some 16) _ = _
   simp only [Act.put,sA,sZ,sS,i64_w,i32_w];rfl
 refine pu 12 (some 4) #[true,true,true,true,true,true,true,true,true,true,true,true,true] rfl rfl HT_.out ?_;refine done_ (done_of HT_.out (by kernel_rfl)) ?_
 try go_wp2
 go_ret
 exact ⟨eW,by repeat (first|(with_reducible first|exact HB.out|apply bal|apply pbN|apply bd1|refine bst ?_ GE129.out|refine bst ?_ GE130.out)|exact HB.out)⟩
def cth.p (u:Int) (x:SiT29):Bool:=(x.f2 == u)
set_option maxHeartbeats 4000000 in
theorem cth.closure (x:SiT29) (v5 t5:Value) (q0 q1:ByteArray) (q2 q3:Int) (q4:Bool) (q6:ByteArray) (gn:Nat) (b:Bool) (w:World) (hX:w.heap[gn]? = some (.cells #[.string q0,.string q1,.int .i64 q2,.int .i64 q3,.bool q4,t5,.string q6] 44 (0,0))) (hb:cth.p q2 x = b) :
 Calls Tryz.prog 68 #[.agg #[.string x.f0,.string x.f1,.int .i64 x.f2,.int .i64 x.f3,.bool x.f4,v5,.string x.f6],.pointer (some ⟨gn,0,none⟩)] w fun r w'=>r = .returned (.bool b) ∧ Below w.heap.size w w':=by
 have hu:=Tryz.underlying44;have HX:=As0.mk hX;have HB:=As0.mk (Below.refl w.heap.size w);clear hX;unfold cth.p at hb;subst hb
 go_enter Tryz.func68,Tryz.ntmps68
 go_wp2_with ((with_reducible refine gate_dst (N:=2) rfl ?_);refine bE 2 #[.string x.f0,.string x.f1,.int .i64 x.f2,.int .i64 x.f3,.bool x.f4,v5,.string x.f6] 44 ?_;intro gb hg w8 hbox hb;replace HB:=As0.mk (bsp HB.out hb);have BK:=As0.mk hbox;replace HX:=As0.mk (blk_below HX.out hb);clear hb hbox hg;have q2_:w8.cell? ⟨gb,2,none⟩ = some (.int .i64 x.f2):=(bkC BK.out 2).trans rfl;have u2_:w8.cell? ⟨gn,2,none⟩ = some (.int .i64 q2):=(bkC HX.out 2).trans rfl)
 go_ret
 exact ⟨by first|rfl|(simp;done),by repeat (first|(with_reducible first|exact HB.out|apply pbN|apply bd1)|exact HB.out)⟩
def cth.idx {α:Type} (p:α → Bool):List α → Int → Int
 |[],_=>-1
 |x :: r,i=>if p x = true then i else cth.idx p r (i + 1)
set_option maxHeartbeats 4000000 in
set_option maxRecDepth 100000 in
theorem cth.index (A:Option Addr) (c:Nat) (l:List (SiT29)) (t5:Value) (q0 q1:ByteArray) (q2 q3:Int) (q4:Bool) (q6:ByteArray) (gn:Nat) (r:Int) (w:World) (hr:Kd.C k44 w A l.length l) (hX:w.heap[gn]? = some (.cells #[.string q0,.string q1,.int .i64 q2,.int .i64 q3,.bool q4,t5,.string q6] 44 (0,0))) (hR:cth.idx (cth.p q2) l 0 = r) :
 Calls Tryz.prog 103 #[.slice A l.length c,.func (.func 68) #[] #[.pointer (some ⟨gn,0,none⟩)]] w fun e w'=>e = .returned (.int .i64 r) ∧ Below w.heap.size w w':=by
 have hu:=Tryz.underlying44;have HR:=As0.mk hr;have HX:=As0.mk hX;clear hX;have HB:=As0.mk (Below.refl w.heap.size w);have HQ:=As0.mk hR;clear hr hR
 go_enter Tryz.func103,Tryz.ntmps103
 go_wp2
 show _;go_loopg [8] l.length (fun m v w'=>∃ i:Nat,v = .int .i64 (i:Int) ∧ As0 (i + m = l.length) ∧ As0 (cth.idx (cth.p q2) (l.drop i) (i:Int) = r) ∧ As0 (Below w.heap.size w w'))
 case atStart=>exact ⟨0,(by first|rfl|(simp;done)),⟨by simp⟩,⟨HQ.out⟩,HB⟩
 case round=>
  clear HB HQ;obtain ⟨i,rfl,HM,HI,HB⟩:=hrel;have hbound:l.length ≤ 9223372036854775807:=HR.out.2.1
  cases gk with
  |zero=>
   have hm:=HM.out;have t0:decide ((i:Int) < (l.length:Int)) = false:=decide_eq_false (by omega);have t1:decide (i < l.length) = false:=decide_eq_false (by omega);have HE:=As0.mk (show (-1:Int) = r by have h:=HI.out;rw [List.drop_of_length_le (by omega)] at h;exact h);clear hm HI HM hbound
   go_wp2
   go_ret
   exact ⟨by rw [← HE.out];first|done|rfl|(simp;done),HB.out⟩
  |succ k2=>
   have hm:=HM.out;have hi:i < l.length:=by omega
   have t0:decide ((i:Int) < (l.length:Int)) = true:=decide_eq_true (by omega);have t1:decide (i < l.length) = true:=decide_eq_true hi;have hx:riT38 l (i:Int) = l[i]:=by simp [riT38,List.getElem?_eq_getElem hi]
   have hd:l.drop i = riT38 l (i:Int) :: l.drop (i + 1):=by rw [hx];exact List.drop_eq_getElem_cons hi
   have hI:=HI.out;rw [hd,cth.idx] at hI;obtain ⟨ad,A5,c5,e0,hx0,hx1,hx2,hx3,hx4,hx5,hx6,l5,g5⟩:=at_T44 HR.out (i:Int) (by omega) (by omega)
   cases e0
   clear l5 g5;replace hx0:=bx HB.out rfl hx0;replace hx1:=bx HB.out rfl hx1;replace hx2:=bx HB.out rfl hx2;replace hx3:=bx HB.out rfl hx3;replace hx4:=bx HB.out rfl hx4;replace hx5:=bx HB.out rfl hx5;replace hx6:=bx HB.out rfl hx6;simp only [Int.toNat_natCast] at hx0 hx1 hx2 hx3 hx4 hx5 hx6;have p0:(0 ≤ (i:Int)) = True:=eq_true (by omega);have q1_:(i < l.length) = True:=eq_true hi;have q2_:((i:Int) < (l.length:Int)) = True:=eq_true (by omega);have w0_:wrap64 ((i:Int) + 1) = ((i + 1:Nat):Int):=by unfold wrap64;omega
   have i0_:((i:Int)).toNat = i:=rfl;clear hx hd HI
   cases hp:(cth.p q2) (riT38 l (i:Int)) with
   |true=>
    have HP:=As0.mk hp;have HE:=As0.mk (show (i:Int) = r by rw [hp] at hI;simpa using hI);clear hp hI hm hi HM w0_
    go_wp2_with (go_at_call 68;(with_reducible refine (cth.closure _ _ t5 q0 q1 q2 q3 q4 q6 gn _ _ (blk_below HX.out HB.out) HP.out).mono ?_);rintro e w' ⟨rfl,hb⟩;replace HB:=As0.mk (bsp HB.out hb);clear hb)
    go_ret
    exact ⟨by rw [← HE.out];first|done|rfl|(simp;done),by repeat (first|(with_reducible first|exact HB.out|apply pbN|apply bd1)|exact HB.out)⟩
   |false=>
    have HP:=As0.mk hp;have HE:=As0.mk (show cth.idx (cth.p q2) (l.drop (i + 1)) ((i:Int) + 1) = r by rw [hp] at hI;simpa using hI);have HM2:=As0.mk (show i + 1 + k2 = l.length by omega);have W0:=As0.mk w0_;clear hp hI hm hi HM w0_
    go_wp2_with (go_at_call 68;(with_reducible refine (cth.closure _ _ t5 q0 q1 q2 q3 q4 q6 gn _ _ (blk_below HX.out HB.out) HP.out).mono ?_);rintro e w' ⟨rfl,hb⟩;replace HB:=As0.mk (bsp HB.out hb);clear hb)
    show _;go_roundg k2
    case measure=>omega
    case rel=>exact ⟨i + 1,(by first|rw [W0.out]|(simp;done)),HM2,⟨HE.out⟩,⟨by repeat (first|(with_reducible first|exact HB.out|apply pbN|apply bd1)|exact HB.out)⟩⟩
theorem cth.contains (A:Option Addr) (c:Nat) (l:List (SiT29)) (t5:Value) (q0 q1:ByteArray) (q2 q3:Int) (q4:Bool) (q6:ByteArray) (gn:Nat) (b:Bool) (w:World) (hr:Kd.C k44 w A l.length l) (hX:w.heap[gn]? = some (.cells #[.string q0,.string q1,.int .i64 q2,.int .i64 q3,.bool q4,t5,.string q6] 44 (0,0))) (hR:decide (0 ≤ cth.idx (cth.p q2) l 0) = b) :
 Calls Tryz.prog 67 #[.slice A l.length c,.func (.func 68) #[] #[.pointer (some ⟨gn,0,none⟩)]] w fun e w'=>e = .returned (.bool b) ∧ Below w.heap.size w w':=by
 have HQ:=As0.mk hR;clear hR;have C:=cth.index A c l t5 q0 q1 q2 q3 q4 q6 gn _ w hr hX rfl;have HC:=Lib.hid C;clear C hr hX
 go_enter Tryz.func67,Tryz.ntmps67
 go_wp2_with (go_at_call 103;(with_reducible refine HC.out.mono ?_);rintro e w' ⟨rfl,hb⟩;have HB:=As0.mk hb;clear hb)
 go_ret
 exact ⟨by rw [← HQ.out];first|rfl|(simp;done),by repeat (first|(with_reducible first|exact HB.out|apply pbN|apply bd1)|exact HB.out)⟩
def impl_Thing_67.f (l:List (SiT29)) (_ _:ByteArray) (q2 _:Int) (_:Bool) (_:List ByteArray) (_:ByteArray):Option (Bool):=some (decide (0 ≤ cth.idx (cth.p q2) l 0))
theorem impl_Thing_67.calls (A:Option Addr) (c:Nat) (l:List (SiT29)) (q0 q1:ByteArray) (q2 q3:Int) (q4:Bool) (q5:List ByteArray) (q6:ByteArray) (gn:Nat) (r:Bool) (w:World) (hr:Kd.C k44 w A l.length l) (_:l.length ≤ c)
 {t5:Value} (hX:w.heap[gn]? = some (.cells #[.string q0,.string q1,.int .i64 q2,.int .i64 q3,.bool q4,t5,.string q6] 44 (0,0))) (h:impl_Thing_67.f l q0 q1 q2 q3 q4 q5 q6 = some r) :
 Calls Tryz.prog 67 #[.slice A l.length c,.func (.func 68) #[] #[.pointer (some ⟨gn,0,none⟩)]] w fun e w'=>e = .returned (.bool r) ∧ Below w.heap.size w w':=
 cth.contains A c l t5 q0 q1 q2 q3 q4 q6 gn r w hr hX (Option.some.inj h)
def slices_Index_string_string.l0:Nat → List ByteArray → ByteArray → Int → Int → Option (Int)
 |0,_,_,_,_=>none
 |k + 1,x0,x1,x7,x8=>if x8 < x7 then (if 0 ≤ x8 then (if x8 < (x0.length:Int) then (if x1.toList = (rdOf ByteArray.empty x0 x8).toList then (some x8) else (slices_Index_string_string.l0 k x0 x1 x7 (wrap64 (x8 + 1)))) else (none)) else (none)) else (some (-1))
def slices_Index_string_string.f (k:Nat) (l0:List ByteArray) (a1:ByteArray):Option (Int):=slices_Index_string_string.l0 k l0 a1 (l0.length:Int) 0
set_option maxHeartbeats 40000000 in
set_option maxRecDepth 100000 in
theorem slices_Index_string_string.calls (k:Nat) (A0:Option Addr) (c0:Nat) (l0:List ByteArray) (a1:ByteArray) (r:Int) (w:World) (hr0:Kd.C Kd.string w A0 l0.length l0) (hc0:l0.length ≤ c0) (h:slices_Index_string_string.f k l0 a1 = some r) :
 Calls Tryz.prog 124 #[.slice A0 l0.length c0,.string a1] w fun e w'=>e = .returned (.int .i64 r) ∧ Drawn0 w w':=by
 have HR0:=As0.mk hr0;have HC0:=As0.mk hc0;clear hr0 hc0;have H:(slices_Index_string_string.l0 k l0 a1 (l0.length:Int) 0) = some r:=h;clear h;have H':=As0.mk H;clear H
 go_enter Tryz.func124,Tryz.ntmps124
 go_wp2
 show _;go_loopg [8] k (fun kq v8 w'=>∃ (x8_1:Int),v8 = .int .i64 x8_1 ∧ As0 (slices_Index_string_string.l0 kq l0 a1 (l0.length:Int) x8_1 = some r) ∧ As0 (kq ≤ k) ∧ Drawn0 w w')
 case atStart=>exact ⟨(0),(by first|rfl|(simp;done)|(simp [*];done)),H',⟨Nat.le_refl _⟩,by repeat (first|exact Drawn0.refl _|apply Drawn0.step)⟩
 case round=>
  clear H'
  try clear c1
  try clear p2
  obtain ⟨x8_1,rfl,HA,HK1,⟨m1,rfl⟩⟩:=hrel
  cases gk with
  |zero=>exact absurd HA.out (by simp [slices_Index_string_string.l0])
  |succ k1=>
   have H:=HA.out;clear HA;simp only [slices_Index_string_string.l0] at H;by_cases c3:x8_1 < (l0.length:Int)
   · rw [if_pos c3] at H
     have c3b0:decide (x8_1 < (l0.length:Int)) = true:=decide_eq_true c3;clear c3;by_cases c4:0 ≤ x8_1
     · rw [if_pos c4] at H
       have c4b0:decide (0 ≤ x8_1) = true:=decide_eq_true c4;clear c4;by_cases c5:x8_1 < (l0.length:Int)
       · rw [if_pos c5] at H
         have c5b0:decide (x8_1 < (l0.length:Int)) = true:=decide_eq_true c5;clear c5;by_cases c6:a1.toList = (rdOf ByteArray.empty l0 x8_1).toList
         · rw [if_pos c6] at H
           have c6b0:(a1.toList == (rdOf ByteArray.empty l0 x8_1).toList) = true:=beq_iff_eq.mpr c6;have c6b1:(a1.toList != (rdOf ByteArray.empty l0 x8_1).toList) = false:=bne_eq_false_iff_eq.mpr c6;clear c6;obtain rfl:=Option.some.inj H;have p137:0 ≤ (x8_1:Int):=odt;have q137:x8_1 < (l0.length:Int):=odt;obtain ⟨ad137,e137,hx137_0⟩:=Kd.at_string HR0.out x8_1 p137 q137
           cases e137
           replace p137:=eq_true p137;replace q137:=eq_true q137
           go_wp2
           go_ret
           exact ⟨by first|rfl|(simp;done)|(simp [*];done),by repeat (first|exact Drawn0.refl _|apply Drawn0.step)⟩
         · rw [if_neg c6] at H
           have c6b0:(a1.toList == (rdOf ByteArray.empty l0 x8_1).toList) = false:=beq_eq_false_iff_ne.mpr c6;have c6b1:(a1.toList != (rdOf ByteArray.empty l0 x8_1).toList) = true:=bne_iff_ne.mpr c6;have H':=As0.mk H;clear H;have p137:0 ≤ (x8_1:Int):=odt;have q137:x8_1 < (l0.length:Int):=odt;obtain ⟨ad137,e137,hx137_0⟩:=Kd.at_string HR0.out x8_1 p137 q137
           cases e137
           replace p137:=eq_true p137;replace q137:=eq_true q137
           go_wp2
           show _;go_roundg k1
           case measure=>have:=HK1.out;omega
           case rel=>exact ⟨(wrap64 (x8_1 + 1)),(by first|rfl|(simp;done)|(simp [*];done)),H',⟨by have:=HK1.out;omega⟩,by repeat (first|exact Drawn0.refl _|apply Drawn0.step)⟩
       · rw [if_neg c5] at H
         exact absurd H (by simp)
     · rw [if_neg c4] at H
       exact absurd H (by simp)
   · rw [if_neg c3] at H
     have c3b0:decide (x8_1 < (l0.length:Int)) = false:=decide_eq_false c3;clear c3;obtain rfl:=Option.some.inj H
     go_wp2
     go_ret
     exact ⟨by first|rfl|(simp;done)|(simp [*];done),by repeat (first|exact Drawn0.refl _|apply Drawn0.step)⟩
def slices_Contains_string_string.f (k:Nat) (l0:List ByteArray) (a1:ByteArray):Option (Bool):=(slices_Index_string_string.f k l0 a1).bind fun t138=>(some (decide (t138 ≥ 0)))
set_option maxHeartbeats 40000000 in
set_option maxRecDepth 100000 in
theorem slices_Contains_string_string.calls (k:Nat) (A0:Option Addr) (c0:Nat) (l0:List ByteArray) (a1:ByteArray) (r:Bool) (w:World) (hr0:Kd.C Kd.string w A0 l0.length l0) (hc0:l0.length ≤ c0) (h:slices_Contains_string_string.f k l0 a1 = some r) :
 Calls Tryz.prog 105 #[.slice A0 l0.length c0,.string a1] w fun e w'=>e = .returned (.bool r) ∧ Drawn0 w w':=by
 have HR0:=As0.mk hr0;have HC0:=As0.mk hc0;clear hr0 hc0;have H:((slices_Index_string_string.f k l0 a1).bind fun t138=>(some (decide (t138 ≥ 0)))) = some r:=h;clear h;replace H:=Option.bind_eq_some_iff.mp H;obtain ⟨t138,A30,H⟩:=H;(try dsimp only at H);have A3:=As0.mk A30;clear A30;obtain rfl:=Option.some.inj H
 go_enter Tryz.func105,Tryz.ntmps105
 go_wp2_with (first|((with_reducible refine gca (f:=124) rfl ?_);refine gL (some 7) Tryz.func124 #[.slice A0 l0.length c0,.string a1] ?_;(with_reducible refine (slices_Index_string_string.calls k _ _ l0 a1 t138 _ ?side1 ?side2 A3.out).mono ?_);(case side1=>repeat (first|exact HR0.out|(with_reducible first|refine Kd.C_alloc ?_ _|refine Kd.C_drewN ?_ _|refine Kd.C_drew ?_)));(case side2=>exact HC0.out);rintro e w' ⟨rfl,⟨nd,rfl⟩⟩;refine ⟨_,rfl,?_⟩))
 go_ret
 exact ⟨by first|rfl|(simp;done)|(simp [*];done),by repeat (first|exact Drawn0.refl _|apply Drawn0.step)⟩
def impl_spaceUp.l0:Nat → List (SiS28) → List ByteArray → Int → Option (List ByteArray)
 |0,_,_,_=>none
 |k + 1,x0,x5,x6=>if x6 ≥ 0 then (if 0 ≤ x6 then (if x6 < (x0.length:Int) then (if x5.length < 8796093022208 then ((impl_findSpace.f x0 ((riS37 x0 x6).f1)).bind fun t148=>(impl_spaceUp.l0 k x0 (x5 ++ [(riS37 x0 x6).f0]) t148)) else (none)) else (none)) else (none)) else (some x5)
def impl_spaceUp.f (k:Nat) (l0:List (SiS28)) (a1:ByteArray):Option (List ByteArray):=(impl_findSpace.f l0 a1).bind fun t142=>(impl_spaceUp.l0 k l0 (([]:List ByteArray)) t142)
set_option maxHeartbeats 40000000 in
set_option maxRecDepth 100000 in
theorem impl_spaceUp.calls (k:Nat) (A0:Option Addr) (c0:Nat) (l0:List (SiS28)) (a1:ByteArray) (r:List ByteArray) (w:World) (hr0:Kd.C k70 w A0 l0.length l0) (hc0:l0.length ≤ c0) (h:impl_spaceUp.f k l0 a1 = some r) :
 Calls Tryz.prog 106 #[.slice A0 l0.length c0,.string a1] w fun e w'=>∃ v0_:Value,e = .returned (v0_) ∧ Kd.R Kd.string 9 w' w.heap.size (fun _=>True) v0_ r ∧ Below w.heap.size w w':=by
 have HR0:=As0.mk hr0;have HC0:=As0.mk hc0;clear hr0 hc0;have HB:=As0.mk (Below.refl w.heap.size w);have H:((impl_findSpace.f l0 a1).bind fun t142=>(impl_spaceUp.l0 k l0 (([]:List ByteArray)) t142)) = some r:=h;clear h;obtain ⟨y139,hy139⟩:∃ y_:List ByteArray,y_ = (([]:List ByteArray)):=⟨_,rfl⟩;replace H:((impl_findSpace.f l0 a1).bind fun t142=>(impl_spaceUp.l0 k l0 y139 t142)) = some r:=by first|(rw [hy139];with_reducible exact H)|(have H2_:=(Option.bind_some _ _).symm.trans H;rw [hy139];with_reducible exact H2_)|(have H2_:=(Option.bind_some _ _).symm.trans H;with_reducible exact H2_)|with_reducible exact H|(rw [hy139];exact H)|exact H
 have Ny139:=As0.mk hy139;clear hy139;replace H:=Option.bind_eq_some_iff.mp H;obtain ⟨t142,A30,H⟩:=H;(try dsimp only at H);have A3:=As0.mk A30;clear A30;have H':=As0.mk H;clear H
 go_enter Tryz.func106,Tryz.ntmps106
 go_wp2_with (first|((with_reducible refine gate_dst (N:=7) rfl ?_);refine Kd.R_lit Kd.string _ 9 ?hg (N:=7) ?hd (xs:=([]:List ByteArray)) (inner:=[]) (ok:=fun _=>True) (okp:=fun _=>True) ?hr ?hp (fun _ hk=>hk) trivial (Below.refl _ _) (Nat.le_refl _) (by simp) ?_;(case hd=>rfl);(case hg=>rfl);(case hr=>first|(go_simp;done)|(go_simp;rfl));(case hp=>exact (Reps.none _ _));intro v140 w4 ho5 hb hg_ hnew_;clear hg_ hnew_;(first|rw [← Ny139.out] at ho5|(simp only [Int.reduceToNat] at ho5;rw [← Ny139.out] at ho5));have HO141:=As0.mk (Kd.R_lower ho5 (bsz (by repeat (first|(with_reducible first|exact HB.out|apply bal|apply pbN|apply bd1)|exact HB.out))));replace HB:=As0.mk (b3 HB.out hb);clear hb ho5)|((with_reducible refine gca (f:=65) rfl ?_);refine gL (some 10) Tryz.func65 #[.slice A0 l0.length c0,.string a1] ?_;(with_reducible refine (impl_findSpace.calls _ _ l0 a1 t142 _ ?side1 ?side2 A3.out).mono ?_);(case side1=>repeat (first|exact (Kd.C_below HR0.out HB.out)|(with_reducible first|refine Kd.C_alloc ?_ _|refine Kd.C_drewN ?_ _|refine Kd.C_drew ?_)));(case side2=>exact HC0.out);rintro e w6 ⟨rfl,hb⟩;refine ⟨_,rfl,?_⟩;replace HO141:=As0.mk (Kd.R_below (by (with_reducible repeat (first|apply Kd.Ral|apply Kd.RdN|apply Kd.R_drew));exact HO141.out) hb);replace HB:=As0.mk (b3 HB.out hb);clear hb))
 show _;go_loopg [5,6] k (fun kq v5 v6 w'=>∃ (x5_1:List ByteArray) (x6_1:Int),v6 = .int .i64 x6_1 ∧ As0 (impl_spaceUp.l0 kq l0 x5_1 x6_1 = some r) ∧ As0 (kq ≤ k) ∧ As0 (Kd.R Kd.string 9 w' w.heap.size (fun _=>True) v5 x5_1) ∧ As0 (Below w.heap.size w w'))
 case atStart=>exact ⟨(y139),(t142),(by first|rfl|(simp;done)|(simp [*];done)),H',⟨Nat.le_refl _⟩,⟨by (with_reducible repeat (first|apply Kd.Ral|apply Kd.RdN|apply Kd.R_drew));exact HO141.out⟩,⟨by repeat (first|(with_reducible first|exact HB.out|apply bal|apply pbN|apply bd1)|exact HB.out)⟩⟩
 case round=>
  clear H'
  try clear c1
  try clear p2
  try clear c6
  obtain ⟨x5_1,x6_1,rfl,HA,HK1,HO_5,HB⟩:=hrel
  cases gk with
  |zero=>exact absurd HA.out (by simp [impl_spaceUp.l0])
  |succ k1=>
   have H:=HA.out;clear HA;simp only [impl_spaceUp.l0] at H;by_cases c7:x6_1 ≥ 0
   · rw [if_pos c7] at H
     have c7b0:decide (0 ≤ x6_1) = true:=decide_eq_true c7;clear c7;by_cases c8:0 ≤ x6_1
     · rw [if_pos c8] at H
       have c8b0:decide (0 ≤ x6_1) = true:=decide_eq_true c8;clear c8;by_cases c9:x6_1 < (l0.length:Int)
       · rw [if_pos c9] at H
         have c9b0:decide (x6_1 < (l0.length:Int)) = true:=decide_eq_true c9;clear c9;by_cases c10:x5_1.length < 8796093022208
         · rw [if_pos c10] at H
           have LMc10:=As0.mk c10;clear c10;obtain ⟨y144,hy144⟩:∃ y_:List ByteArray,y_ = (x5_1 ++ [(riS37 l0 x6_1).f0]):=⟨_,rfl⟩;replace H:((impl_findSpace.f l0 ((riS37 l0 x6_1).f1)).bind fun t148=>(impl_spaceUp.l0 k1 l0 y144 t148)) = some r:=by first|(rw [hy144];with_reducible exact H)|(have H2_:=(Option.bind_some _ _).symm.trans H;rw [hy144];with_reducible exact H2_)|(have H2_:=(Option.bind_some _ _).symm.trans H;with_reducible exact H2_)|with_reducible exact H|(rw [hy144];exact H)|exact H
           have Ny144:=As0.mk hy144;clear hy144;replace H:=Option.bind_eq_some_iff.mp H;obtain ⟨t148,A110,H⟩:=H;(try dsimp only at H);have A11:=As0.mk A110;clear A110;have H':=As0.mk H;clear H;have p143:0 ≤ (x6_1:Int):=odt;have q143:x6_1 < (l0.length:Int):=odt;obtain ⟨ad143,e143,hx143_0,hx143_1,hx143_2,hx143_3,hx143_4⟩:=at_T70 HR0.out x6_1 p143 q143
           cases e143
           replace hx143_0:=bx HB.out rfl hx143_0;replace hx143_1:=bx HB.out rfl hx143_1;replace hx143_2:=bx HB.out rfl hx143_2;replace hx143_3:=bx HB.out rfl hx143_3;replace hx143_4:=bx HB.out rfl hx143_4;replace p143:=eq_true p143;replace q143:=eq_true q143
           go_wp2_with (first|((with_reducible refine gbi (b:=.append) (xs:=#[.tmp 20,.tmp 26]) rfl ?_);at_builtin;refine Kd.R_append Kd.string (w0:=w) w.heap.size rfl (.tmp 20) (.tmp 26) 40 9 (.string ⟨#[]⟩) 16 rfl Tryz.underlying40 info9 rfl (by decide) (by omega) u5 x5_1 ((riS37 l0 x6_1).f0) [.string ((riS37 l0 x6_1).f0)] (fun _=>True) (fun _=>False) rfl rfl ?aP (fun _ hk=>hk.elim) ?aF ?aO ?aB ?aS ?aL ?_;(case aP=>exact rfl);(case aB=>exact (by repeat (first|(with_reducible first|exact HB.out|apply bal|apply pbN|apply bd1)|exact HB.out)));(case aF=>exact (fun _ _=>trivial));(case aO=>exact (by (with_reducible repeat (first|apply Kd.Ral|apply Kd.RdN|apply Kd.R_drew));exact HO_5.out));(case aS=>exact (bsz (by repeat (first|(with_reducible first|exact HB.out|apply bal|apply pbN|apply bd1)|exact HB.out))));(case aL=>have:=LMc10.out;omega);intro v145 w12 ho hb hg hat;rw [← Ny144.out] at ho;replace HB:=As0.mk (hb);have HO146:=As0.mk (ho);clear HO_5 ho hb hg hat;have p147:0 ≤ (x6_1:Int):=odt;have q147:x6_1 < (l0.length:Int):=odt;obtain ⟨ad147,e147,hx147_0,hx147_1,hx147_2,hx147_3,hx147_4⟩:=at_T70 HR0.out x6_1 p147 q147;obtain rfl:ad143 = ad147:=(by injection e147);replace hx147_0:=bx HB.out rfl hx147_0;replace hx147_1:=bx HB.out rfl hx147_1;replace hx147_2:=bx HB.out rfl hx147_2;replace hx147_3:=bx HB.out rfl hx147_3;replace hx147_4:=bx HB.out rfl hx147_4;replace p147:=eq_true p147;replace q147:=eq_true q147)|((with_reducible refine gca (f:=65) rfl ?_);refine gL (some 19) Tryz.func65 #[.slice (some ad143) l0.length c0,.string ((riS37 l0 x6_1).f1)] ?_;(with_reducible refine (impl_findSpace.calls _ _ l0 ((riS37 l0 x6_1).f1) t148 _ ?side1 ?side2 A11.out).mono ?_);(case side1=>repeat (first|exact (Kd.C_below HR0.out HB.out)|(with_reducible first|refine Kd.C_alloc ?_ _|refine Kd.C_drewN ?_ _|refine Kd.C_drew ?_)));(case side2=>exact HC0.out);rintro e w13 ⟨rfl,hb⟩;refine ⟨_,rfl,?_⟩;replace HO146:=As0.mk (Kd.R_below (by (with_reducible repeat (first|apply Kd.Ral|apply Kd.RdN|apply Kd.R_drew));exact HO146.out) hb);replace HB:=As0.mk (b3 HB.out hb);clear hb))
           show _;go_roundg k1
           case measure=>have:=HK1.out;omega
           case rel=>exact ⟨(y144),(t148),(by first|rfl|(simp;done)|(simp [*];done)),H',⟨by have:=HK1.out;omega⟩,⟨by (with_reducible repeat (first|apply Kd.Ral|apply Kd.RdN|apply Kd.R_drew));exact HO146.out⟩,⟨by repeat (first|(with_reducible first|exact HB.out|apply bal|apply pbN|apply bd1)|exact HB.out)⟩⟩
         · rw [if_neg c10] at H
           exact absurd H (by simp)
       · rw [if_neg c9] at H
         exact absurd H (by simp)
     · rw [if_neg c8] at H
       exact absurd H (by simp)
   · rw [if_neg c7] at H
     have c7b0:decide (0 ≤ x6_1) = false:=decide_eq_false c7;clear c7;obtain rfl:=Option.some.inj H
     go_wp2
     go_ret
     exact ⟨_,by first|rfl|(simp [errW_none,errW_some] <;> rfl)|(simp [*,errW_none,errW_some] <;> rfl),by (with_reducible repeat (first|apply Kd.Ral|apply Kd.RdN|apply Kd.R_drew));exact HO_5.out,by repeat (first|(with_reducible first|exact HB.out|apply bal|apply pbN|apply bd1)|exact HB.out)⟩
def impl_costOf.f (a0:ByteArray):Option (Int):=some (wrap64 (1 + (a0.size:Int)))
set_option maxHeartbeats 40000000 in
set_option maxRecDepth 100000 in
theorem impl_costOf.calls (a0:ByteArray) (r:Int) (w:World) (h:impl_costOf.f a0 = some r) :
 Calls Tryz.prog 107 #[.string a0] w fun e w'=>e = .returned (.int .i64 r) ∧ Drawn0 w w':=by
 have H:(some (wrap64 (1 + (a0.size:Int)))) = some r:=h;clear h;obtain rfl:=Option.some.inj H
 go_enter Tryz.func107,Tryz.ntmps107
 go_wp2
 go_ret
 exact ⟨by first|rfl|(simp;done)|(simp [*];done),by repeat (first|exact Drawn0.refl _|apply Drawn0.step)⟩
def impl_useSum.l0:Nat → List (SiS28) → ByteArray → Int → List (SiT29) → Int → Int → Option (Int)
 |0,_,_,_,_,_,_=>none
 |k + 1,x0,x2,x7,x10,x11,x12=>if x12 < x11 then (if 0 ≤ x12 then (if x12 < (x10.length:Int) then ((impl_spaceUp.f k x0 ((riT38 x10 x12).f0)).bind fun t151=>((slices_Contains_string_string.f k t151 x2).bind fun t154=>(if t154 = true then ((impl_costOf.f ((riT38 x10 x12).f6)).bind fun t155=>(impl_useSum.l0 k x0 x2 (wrap64 (x7 + t155)) x10 x11 (wrap64 (x12 + 1)))) else (impl_useSum.l0 k x0 x2 x7 x10 x11 (wrap64 (x12 + 1)))))) else (none)) else (none)) else (some x7)
def impl_useSum.f (k:Nat) (l0:List (SiS28)) (l1:List (SiT29)) (a2:ByteArray):Option (Int):=impl_useSum.l0 k l0 a2 0 l1 (l1.length:Int) 0
set_option maxHeartbeats 40000000 in
set_option maxRecDepth 100000 in
theorem impl_useSum.calls (k:Nat) (A0:Option Addr) (c0:Nat) (l0:List (SiS28)) (A1:Option Addr) (c1:Nat) (l1:List (SiT29)) (a2:ByteArray) (r:Int) (w:World) (hr0:Kd.C k70 w A0 l0.length l0) (hc0:l0.length ≤ c0) (hr1:Kd.C k44 w A1 l1.length l1) (hc1:l1.length ≤ c1) (h:impl_useSum.f k l0 l1 a2 = some r) :
 Calls Tryz.prog 71 #[.slice A0 l0.length c0,.slice A1 l1.length c1,.string a2] w fun e w'=>e = .returned (.int .i64 r) ∧ Below w.heap.size w w':=by
 have hu44:=Tryz.underlying44;have HR0:=As0.mk hr0;have HC0:=As0.mk hc0;clear hr0 hc0;have HR1:=As0.mk hr1;have HC1:=As0.mk hc1;clear hr1 hc1;have HB:=As0.mk (Below.refl w.heap.size w);have H:(impl_useSum.l0 k l0 a2 0 l1 (l1.length:Int) 0) = some r:=h;clear h;have H':=As0.mk H;clear H
 go_enter Tryz.func71,Tryz.ntmps71
 go_wp2
 show _;go_loopg [7,12] k (fun kq v7 v12 w'=>∃ (x7_1:Int) (x12_1:Int),v7 = .int .i64 x7_1 ∧ v12 = .int .i64 x12_1 ∧ As0 (impl_useSum.l0 kq l0 a2 x7_1 l1 (l1.length:Int) x12_1 = some r) ∧ As0 (kq ≤ k) ∧ As0 (Below w.heap.size w w'))
 case atStart=>exact ⟨(0),(0),(by first|rfl|(simp;done)|(simp [*];done)),(by first|rfl|(simp;done)|(simp [*];done)),H',⟨Nat.le_refl _⟩,⟨by repeat (first|(with_reducible first|exact HB.out|apply bal|apply pbN|apply bd1)|exact HB.out)⟩⟩
 case round=>
  clear H'
  try clear c1
  try clear p2
  obtain ⟨x7_1,x12_1,rfl,rfl,HA,HK1,HB⟩:=hrel
  cases gk with
  |zero=>exact absurd HA.out (by simp [impl_useSum.l0])
  |succ k1=>
   have H:=HA.out;clear HA;simp only [impl_useSum.l0] at H;by_cases c4:x12_1 < (l1.length:Int)
   · rw [if_pos c4] at H
     have c4b0:decide (x12_1 < (l1.length:Int)) = true:=decide_eq_true c4;clear c4;by_cases c5:0 ≤ x12_1
     · rw [if_pos c5] at H
       have c5b0:decide (0 ≤ x12_1) = true:=decide_eq_true c5;clear c5;by_cases c6:x12_1 < (l1.length:Int)
       · rw [if_pos c6] at H
         have c6b0:decide (x12_1 < (l1.length:Int)) = true:=decide_eq_true c6;clear c6;replace H:=Option.bind_eq_some_iff.mp H;obtain ⟨t151,A70,H⟩:=H;(try dsimp only at H);have A7:=As0.mk A70;clear A70;replace H:=Option.bind_eq_some_iff.mp H;obtain ⟨t154,A80,H⟩:=H;(try dsimp only at H);have A8:=As0.mk A80;clear A80;by_cases c9:t154 = true
         · subst c9
           have H1:((impl_costOf.f ((riT38 l1 x12_1).f6)).bind fun t155=>(impl_useSum.l0 k1 l0 a2 (wrap64 (x7_1 + t155)) l1 (l1.length:Int) (wrap64 (x12_1 + 1)))) = some r:=by rw [if_pos rfl] at H;exact H
           clear H;have H:=H1;clear H1;replace H:=Option.bind_eq_some_iff.mp H;obtain ⟨t155,A100,H⟩:=H;(try dsimp only at H);have A10:=As0.mk A100;clear A100;have H':=As0.mk H;clear H;have p149:0 ≤ (x12_1:Int):=odt;have q149:x12_1 < (l1.length:Int):=odt;obtain ⟨ad149,A149_5,c149_5,e149,hx149_0,hx149_1,hx149_2,hx149_3,hx149_4,hx149_5,hx149_6,hl149_5,hi149_5⟩:=at_T44 HR1.out x12_1 p149 q149
           cases e149
           replace hx149_0:=bx HB.out rfl hx149_0;replace hx149_1:=bx HB.out rfl hx149_1;replace hx149_2:=bx HB.out rfl hx149_2;replace hx149_3:=bx HB.out rfl hx149_3;replace hx149_4:=bx HB.out rfl hx149_4;replace hx149_5:=bx HB.out rfl hx149_5;replace hx149_6:=bx HB.out rfl hx149_6;have HR149_5:=As0.mk hi149_5;have HC149_5:=As0.mk hl149_5;clear hi149_5 hl149_5;replace p149:=eq_true p149;replace q149:=eq_true q149
           go_wp2_with (first|((with_reducible refine gate_dst (N:=9) rfl ?_);refine bE 9 #[.string ⟨#[]⟩,.string ⟨#[]⟩,.int .i64 0,.int .i64 0,.bool false,.slice none 0 0,.string ⟨#[]⟩] 44 ?_;intro gb150 hg w11 hbox hb;have BK150:=As0.mk (hbox);have GW150:=As0.mk ((by rw [hg];exact (bsz (by repeat (first|(with_reducible first|exact HB.out|apply bal|apply pbN|apply bd1)|exact HB.out))):w.heap.size ≤ gb150));have GE150:=GW150;replace HB:=As0.mk (b3 HB.out hb);clear hb hbox hg;obtain ⟨hcz12_0,hcz12_1,hcz12_2,hcz12_3,hcz12_4,hcz12_5,hcz12_6⟩:=qc7 BK150.out;obtain ⟨hfz12_0,hfz12_1,hfz12_2,hfz12_3,hfz12_4,hfz12_5,hfz12_6⟩:=qz7 BK150.out)|((with_reducible refine gca (f:=106) rfl ?_);refine gL (some 19) Tryz.func106 #[.slice A0 l0.length c0,.string ((riT38 l1 x12_1).f0)] ?_;(with_reducible refine (impl_spaceUp.calls k1 _ _ l0 ((riT38 l1 x12_1).f0) t151 _ ?side1 ?side2 A7.out).mono ?_);(case side1=>exact Kd.C_below HR0.out (by repeat (first|(with_reducible first|exact HB.out|apply bal|apply pbN|apply bd1|refine bst ?_ GE150.out)|exact HB.out)));(case side2=>exact HC0.out);rintro e w13 ⟨v152,rfl,ho0,hb⟩;refine ⟨_,rfl,?_⟩;have HO153:=As0.mk (Kd.R_lower ho0 (bsz (by repeat (first|(with_reducible first|exact HB.out|apply bal|apply pbN|apply bd1|refine bst ?_ GE150.out)|exact HB.out))));replace BK150:=As0.mk (blk_below (g:=gb150) (o:=.cells #[.string ((riT38 l1 x12_1).f0),.string ((riT38 l1 x12_1).f1),.int .i64 ((riT38 l1 x12_1).f2),.int .i64 ((riT38 l1 x12_1).f3),.bool ((riT38 l1 x12_1).f4),.slice A149_5 ((riT38 l1 x12_1).f5).length c149_5,.string ((riT38 l1 x12_1).f6)] 44 (0,0)) (by (with_reducible repeat (first|refine bkN ?_ _|refine bkD ?_|refine bkA ?_ _));refine blk_put (cs:=#[.string ((riT38 l1 x12_1).f0),.string ((riT38 l1 x12_1).f1),.int .i64 ((riT38 l1 x12_1).f2),.int .i64 ((riT38 l1 x12_1).f3),.bool ((riT38 l1 x12_1).f4),.slice A149_5 ((riT38 l1 x12_1).f5).length c149_5,.string ⟨#[]⟩]) ?_ 6 _ rfl;(with_reducible repeat (first|refine bkN ?_ _|refine bkD ?_|refine bkA ?_ _));refine blk_put (cs:=#[.string ((riT38 l1 x12_1).f0),.string ((riT38 l1 x12_1).f1),.int .i64 ((riT38 l1 x12_1).f2),.int .i64 ((riT38 l1 x12_1).f3),.bool ((riT38 l1 x12_1).f4),.slice none 0 0,.string ⟨#[]⟩]) ?_ 5 _ rfl;(with_reducible repeat (first|refine bkN ?_ _|refine bkD ?_|refine bkA ?_ _));refine blk_put (cs:=#[.string ((riT38 l1 x12_1).f0),.string ((riT38 l1 x12_1).f1),.int .i64 ((riT38 l1 x12_1).f2),.int .i64 ((riT38 l1 x12_1).f3),.bool false,.slice none 0 0,.string ⟨#[]⟩]) ?_ 4 _ rfl;(with_reducible repeat (first|refine bkN ?_ _|refine bkD ?_|refine bkA ?_ _));refine blk_put (cs:=#[.string ((riT38 l1 x12_1).f0),.string ((riT38 l1 x12_1).f1),.int .i64 ((riT38 l1 x12_1).f2),.int .i64 0,.bool false,.slice none 0 0,.string ⟨#[]⟩]) ?_ 3 _ rfl;(with_reducible repeat (first|refine bkN ?_ _|refine bkD ?_|refine bkA ?_ _));refine blk_put (cs:=#[.string ((riT38 l1 x12_1).f0),.string ((riT38 l1 x12_1).f1),.int .i64 0,.int .i64 0,.bool false,.slice none 0 0,.string ⟨#[]⟩]) ?_ 2 _ rfl;(with_reducible repeat (first|refine bkN ?_ _|refine bkD ?_|refine bkA ?_ _));refine blk_put (cs:=#[.string ((riT38 l1 x12_1).f0),.string ⟨#[]⟩,.int .i64 0,.int .i64 0,.bool false,.slice none 0 0,.string ⟨#[]⟩]) ?_ 1 _ rfl;(with_reducible repeat (first|refine bkN ?_ _|refine bkD ?_|refine bkA ?_ _));refine blk_put (cs:=#[.string ⟨#[]⟩,.string ⟨#[]⟩,.int .i64 0,.int .i64 0,.bool false,.slice none 0 0,.string ⟨#[]⟩]) ?_ 0 _ rfl;(with_reducible repeat (first|refine bkN ?_ _|refine bkD ?_|refine bkA ?_ _));exact BK150.out) hb);replace HB:=As0.mk (bsp (by repeat (first|(with_reducible first|exact HB.out|apply bal|apply pbN|apply bd1|refine bst ?_ GE150.out)|exact HB.out)) hb);clear hb ho0;obtain ⟨Ao14,co14,eo14⟩:=Kd.R_slice HO153.out;subst eo14)|((with_reducible refine gca (f:=105) rfl ?_);refine gL (some 21) Tryz.func105 #[.slice Ao14 t151.length co14,.string a2] ?_;(with_reducible refine (slices_Contains_string_string.calls k1 _ _ t151 a2 true _ ?side1 ?side2 A8.out).mono ?_);(case side1=>repeat (first|exact (Kd.R_reads' HO153.out).2.2|(with_reducible first|refine Kd.C_alloc ?_ _|refine Kd.C_drewN ?_ _|refine Kd.C_drew ?_)));(case side2=>exact (Kd.R_reads' HO153.out).2.1);rintro e w' ⟨rfl,⟨nd,rfl⟩⟩;refine ⟨_,rfl,?_⟩;obtain ⟨hcz15_0,hcz15_1,hcz15_2,hcz15_3,hcz15_4,hcz15_5,hcz15_6⟩:=qc7 BK150.out;obtain ⟨hfz15_0,hfz15_1,hfz15_2,hfz15_3,hfz15_4,hfz15_5,hfz15_6⟩:=qz7 BK150.out)|((with_reducible refine gca (f:=107) rfl ?_);refine gL (some 25) Tryz.func107 #[.string ((riT38 l1 x12_1).f6)] ?_;(with_reducible refine (impl_costOf.calls ((riT38 l1 x12_1).f6) t155 _ A10.out).mono ?_);rintro e w' ⟨rfl,⟨nd,rfl⟩⟩;refine ⟨_,rfl,?_⟩))
           show _;go_roundg k1
           case measure=>have:=HK1.out;omega
           case rel=>exact ⟨(wrap64 (x7_1 + t155)),(wrap64 (x12_1 + 1)),(by first|rfl|(simp;done)|(simp [*];done)),(by first|rfl|(simp;done)|(simp [*];done)),H',⟨by have:=HK1.out;omega⟩,⟨by repeat (first|(with_reducible first|exact HB.out|apply bal|apply pbN|apply bd1|refine bst ?_ GE150.out)|exact HB.out)⟩⟩
         · replace c9:=Bool.eq_false_iff.mpr c9
           subst c9;have H1:(impl_useSum.l0 k1 l0 a2 x7_1 l1 (l1.length:Int) (wrap64 (x12_1 + 1))) = some r:=by rw [if_neg (show ¬ (false = true) by decide)] at H;exact H
           clear H;have H:=H1;clear H1;have H':=As0.mk H;clear H;have p149:0 ≤ (x12_1:Int):=odt;have q149:x12_1 < (l1.length:Int):=odt;obtain ⟨ad149,A149_5,c149_5,e149,hx149_0,hx149_1,hx149_2,hx149_3,hx149_4,hx149_5,hx149_6,hl149_5,hi149_5⟩:=at_T44 HR1.out x12_1 p149 q149
           cases e149
           replace hx149_0:=bx HB.out rfl hx149_0;replace hx149_1:=bx HB.out rfl hx149_1;replace hx149_2:=bx HB.out rfl hx149_2;replace hx149_3:=bx HB.out rfl hx149_3;replace hx149_4:=bx HB.out rfl hx149_4;replace hx149_5:=bx HB.out rfl hx149_5;replace hx149_6:=bx HB.out rfl hx149_6;have HR149_5:=As0.mk hi149_5;have HC149_5:=As0.mk hl149_5;clear hi149_5 hl149_5;replace p149:=eq_true p149;replace q149:=eq_true q149
           go_wp2_with (first|((with_reducible refine gate_dst (N:=9) rfl ?_);refine bE 9 #[.string ⟨#[]⟩,.string ⟨#[]⟩,.int .i64 0,.int .i64 0,.bool false,.slice none 0 0,.string ⟨#[]⟩] 44 ?_;intro gb150 hg w16 hbox hb;have BK150:=As0.mk (hbox);have GW150:=As0.mk ((by rw [hg];exact (bsz (by repeat (first|(with_reducible first|exact HB.out|apply bal|apply pbN|apply bd1)|exact HB.out))):w.heap.size ≤ gb150));have GE150:=GW150;replace HB:=As0.mk (b3 HB.out hb);clear hb hbox hg;obtain ⟨hcz17_0,hcz17_1,hcz17_2,hcz17_3,hcz17_4,hcz17_5,hcz17_6⟩:=qc7 BK150.out;obtain ⟨hfz17_0,hfz17_1,hfz17_2,hfz17_3,hfz17_4,hfz17_5,hfz17_6⟩:=qz7 BK150.out)|((with_reducible refine gca (f:=106) rfl ?_);refine gL (some 19) Tryz.func106 #[.slice A0 l0.length c0,.string ((riT38 l1 x12_1).f0)] ?_;(with_reducible refine (impl_spaceUp.calls k1 _ _ l0 ((riT38 l1 x12_1).f0) t151 _ ?side1 ?side2 A7.out).mono ?_);(case side1=>exact Kd.C_below HR0.out (by repeat (first|(with_reducible first|exact HB.out|apply bal|apply pbN|apply bd1|refine bst ?_ GE150.out)|exact HB.out)));(case side2=>exact HC0.out);rintro e w18 ⟨v152,rfl,ho0,hb⟩;refine ⟨_,rfl,?_⟩;have HO153:=As0.mk (Kd.R_lower ho0 (bsz (by repeat (first|(with_reducible first|exact HB.out|apply bal|apply pbN|apply bd1|refine bst ?_ GE150.out)|exact HB.out))));replace BK150:=As0.mk (blk_below (g:=gb150) (o:=.cells #[.string ((riT38 l1 x12_1).f0),.string ((riT38 l1 x12_1).f1),.int .i64 ((riT38 l1 x12_1).f2),.int .i64 ((riT38 l1 x12_1).f3),.bool ((riT38 l1 x12_1).f4),.slice A149_5 ((riT38 l1 x12_1).f5).length c149_5,.string ((riT38 l1 x12_1).f6)] 44 (0,0)) (by (with_reducible repeat (first|refine bkN ?_ _|refine bkD ?_|refine bkA ?_ _));refine blk_put (cs:=#[.string ((riT38 l1 x12_1).f0),.string ((riT38 l1 x12_1).f1),.int .i64 ((riT38 l1 x12_1).f2),.int .i64 ((riT38 l1 x12_1).f3),.bool ((riT38 l1 x12_1).f4),.slice A149_5 ((riT38 l1 x12_1).f5).length c149_5,.string ⟨#[]⟩]) ?_ 6 _ rfl;(with_reducible repeat (first|refine bkN ?_ _|refine bkD ?_|refine bkA ?_ _));refine blk_put (cs:=#[.string ((riT38 l1 x12_1).f0),.string ((riT38 l1 x12_1).f1),.int .i64 ((riT38 l1 x12_1).f2),.int .i64 ((riT38 l1 x12_1).f3),.bool ((riT38 l1 x12_1).f4),.slice none 0 0,.string ⟨#[]⟩]) ?_ 5 _ rfl;(with_reducible repeat (first|refine bkN ?_ _|refine bkD ?_|refine bkA ?_ _));refine blk_put (cs:=#[.string ((riT38 l1 x12_1).f0),.string ((riT38 l1 x12_1).f1),.int .i64 ((riT38 l1 x12_1).f2),.int .i64 ((riT38 l1 x12_1).f3),.bool false,.slice none 0 0,.string ⟨#[]⟩]) ?_ 4 _ rfl;(with_reducible repeat (first|refine bkN ?_ _|refine bkD ?_|refine bkA ?_ _));refine blk_put (cs:=#[.string ((riT38 l1 x12_1).f0),.string ((riT38 l1 x12_1).f1),.int .i64 ((riT38 l1 x12_1).f2),.int .i64 0,.bool false,.slice none 0 0,.string ⟨#[]⟩]) ?_ 3 _ rfl;(with_reducible repeat (first|refine bkN ?_ _|refine bkD ?_|refine bkA ?_ _));refine blk_put (cs:=#[.string ((riT38 l1 x12_1).f0),.string ((riT38 l1 x12_1).f1),.int .i64 0,.int .i64 0,.bool false,.slice none 0 0,.string ⟨#[]⟩]) ?_ 2 _ rfl;(with_reducible repeat (first|refine bkN ?_ _|refine bkD ?_|refine bkA ?_ _));refine blk_put (cs:=#[.string ((riT38 l1 x12_1).f0),.string ⟨#[]⟩,.int .i64 0,.int .i64 0,.bool false,.slice none 0 0,.string ⟨#[]⟩]) ?_ 1 _ rfl;(with_reducible repeat (first|refine bkN ?_ _|refine bkD ?_|refine bkA ?_ _));refine blk_put (cs:=#[.string ⟨#[]⟩,.string ⟨#[]⟩,.int .i64 0,.int .i64 0,.bool false,.slice none 0 0,.string ⟨#[]⟩]) ?_ 0 _ rfl;(with_reducible repeat (first|refine bkN ?_ _|refine bkD ?_|refine bkA ?_ _));exact BK150.out) hb);replace HB:=As0.mk (bsp (by repeat (first|(with_reducible first|exact HB.out|apply bal|apply pbN|apply bd1|refine bst ?_ GE150.out)|exact HB.out)) hb);clear hb ho0;obtain ⟨Ao19,co19,eo19⟩:=Kd.R_slice HO153.out;subst eo19)|((with_reducible refine gca (f:=105) rfl ?_);refine gL (some 21) Tryz.func105 #[.slice Ao19 t151.length co19,.string a2] ?_;(with_reducible refine (slices_Contains_string_string.calls k1 _ _ t151 a2 false _ ?side1 ?side2 A8.out).mono ?_);(case side1=>repeat (first|exact (Kd.R_reads' HO153.out).2.2|(with_reducible first|refine Kd.C_alloc ?_ _|refine Kd.C_drewN ?_ _|refine Kd.C_drew ?_)));(case side2=>exact (Kd.R_reads' HO153.out).2.1);rintro e w' ⟨rfl,⟨nd,rfl⟩⟩;refine ⟨_,rfl,?_⟩))
           show _;go_roundg k1
           case measure=>have:=HK1.out;omega
           case rel=>exact ⟨(x7_1),(wrap64 (x12_1 + 1)),(by first|rfl|(simp;done)|(simp [*];done)),(by first|rfl|(simp;done)|(simp [*];done)),H',⟨by have:=HK1.out;omega⟩,⟨by repeat (first|(with_reducible first|exact HB.out|apply bal|apply pbN|apply bd1|refine bst ?_ GE150.out)|exact HB.out)⟩⟩
       · rw [if_neg c6] at H
         exact absurd H (by simp)
     · rw [if_neg c5] at H
       exact absurd H (by simp)
   · rw [if_neg c4] at H
     have c4b0:decide (x12_1 < (l1.length:Int)) = false:=decide_eq_false c4;clear c4;obtain rfl:=Option.some.inj H
     go_wp2
     go_ret
     exact ⟨eW,by repeat (first|(with_reducible first|exact HB.out|apply bal|apply pbN|apply bd1)|exact HB.out)⟩
set_option maxHeartbeats 40000000 in
theorem cus.closure (k:Nat) (x:SiU30) (a b c:Int) (A3:Option Addr) (c3:Nat) (m3:List (SiS28)) (v4:Value) (A5:Option Addr) (c5:Nat) (m5:List (SiT29)) (v6:Value) (gn:Nat) (s:Int) (w:World) (h3:Kd.C k70 w A3 m3.length m3) (hc3:m3.length ≤ c3) (h5:Kd.C k44 w A5 m5.length m5) (hc5:m5.length ≤ c5)
 (hX:w.heap[gn]? = some (.cells #[.int .i64 a,.int .i64 b,.int .i64 c,.slice A3 m3.length c3,v4,.slice A5 m5.length c5,v6] 28 (0,0))) (hs:impl_useSum.f k m3 m5 x.f0 = some s) :
 Calls Tryz.prog 70 #[.agg #[.string x.f0,.int .i64 x.f1],.pointer (some ⟨gn,0,none⟩)] w fun r w'=>r = .returned (.bool (x.f1 != s)) ∧ Below w.heap.size w w':=by
 have hu:=Tryz.underlying72;have hu2:=Tryz.underlying28;have HX:=As0.mk hX;have H3:=As0.mk h3;have H5:=As0.mk h5;have C3:=As0.mk hc3;have C5:=As0.mk hc5;have HS:=As0.mk hs;have HB:=As0.mk (Below.refl w.heap.size w);clear hX h3 h5 hc3 hc5 hs
 go_enter Tryz.func70,Tryz.ntmps70
 go_wp2_with ((with_reducible refine gate_dst (N:=2) rfl ?_);refine bE 2 #[.string x.f0,.int .i64 x.f1] 72 ?_;intro gb hg w8 hbox hb;have n0_:=As0.mk (bsp HB.out hb);have n1_:=As0.mk hbox;have n2_:=As0.mk (blk_below HX.out hb);have n3_:=As0.mk (Kd.C_below H3.out hb);have n5_:=As0.mk (Kd.C_below H5.out hb);clear HB HX H3 H5;have HB:=n0_;have BK:=n1_;have HX:=n2_;have H3:=n3_;have H5:=n5_;clear n0_ n1_ n2_ n3_ n5_ hb hbox hg;have q0_:w8.cell? ⟨gb,0,none⟩ = some (.string x.f0):=(bkC BK.out 0).trans rfl;have q1_:w8.cell? ⟨gb,1,none⟩ = some (.int .i64 x.f1):=(bkC BK.out 1).trans rfl;have u3_:w8.cell? ⟨gn,3,none⟩ = some (.slice A3 m3.length c3):=(bkC HX.out 3).trans rfl;have u5_:w8.cell? ⟨gn,5,none⟩ = some (.slice A5 m5.length c5):=(bkC HX.out 5).trans rfl)
 go_region_with (
  go_at_call 71
  refine (impl_useSum.calls k _ _ m3 _ _ m5 x.f0 s _ (by repeat (first|exact H3.out|(with_reducible first|refine Kd.C_alloc ?_ _|refine Kd.C_drewN ?_ _|refine Kd.C_drew ?_))) C3.out (by repeat (first|exact H5.out|(with_reducible first|refine Kd.C_alloc ?_ _|refine Kd.C_drewN ?_ _|refine Kd.C_drew ?_))) C5.out HS.out).mono ?_;rintro e w2 ⟨rfl,hb⟩;have y1_:=(hb.cell (World.block_lt_of_cell? _ _ q1_)).trans q1_)
 all_goals (go_wp2;go_ret;exact ⟨by first|rfl|(simp;done),by repeat (first|(with_reducible first|exact HB.out|exact hb|apply pbN|apply bd1)|exact HB.out|exact hb|(refine bsp ?_ hb;repeat (first|(with_reducible first|exact HB.out|apply pbN|apply bd1)|exact HB.out)))⟩)
def cus.idx (k:Nat) (sp:List (SiS28)) (th:List (SiT29)):List (SiU30) → Int → Option Int
 |[],_=>some (-1)
 |x :: r,i=>(impl_useSum.f k sp th x.f0).bind fun s=>if x.f1 = s then cus.idx k sp th r (i + 1) else some i
set_option maxHeartbeats 4000000 in
set_option maxRecDepth 100000 in
theorem cus.index (k:Nat) (A:Option Addr) (cA:Nat) (l:List (SiU30)) (a b c:Int) (A3:Option Addr) (c3:Nat) (m3:List (SiS28)) (v4:Value) (A5:Option Addr) (c5:Nat) (m5:List (SiT29)) (v6:Value) (gn:Nat) (r:Int) (w:World) (hr:Kd.C k72 w A l.length l) (h3:Kd.C k70 w A3 m3.length m3) (hc3:m3.length ≤ c3) (h5:Kd.C k44 w A5 m5.length m5) (hc5:m5.length ≤ c5)
 (hX:w.heap[gn]? = some (.cells #[.int .i64 a,.int .i64 b,.int .i64 c,.slice A3 m3.length c3,v4,.slice A5 m5.length c5,v6] 28 (0,0))) (hR:cus.idx k m3 m5 l 0 = some r) :
 Calls Tryz.prog 104 #[.slice A l.length cA,.func (.func 70) #[] #[.pointer (some ⟨gn,0,none⟩)]] w fun e w'=>e = .returned (.int .i64 r) ∧ Below w.heap.size w w':=by
 have hu:=Tryz.underlying72;have HR:=As0.mk hr;have HX:=As0.mk hX;have H3:=As0.mk h3;have H5:=As0.mk h5;have C3:=As0.mk hc3;have C5:=As0.mk hc5;clear hX h3 h5 hc3 hc5;have HB:=As0.mk (Below.refl w.heap.size w);have HQ:=As0.mk hR;clear hr hR
 go_enter Tryz.func104,Tryz.ntmps104
 go_wp2
 show _;go_loopg [8] l.length (fun m v w'=>∃ i:Nat,v = .int .i64 (i:Int) ∧ As0 (i + m = l.length) ∧ As0 (cus.idx k m3 m5 (l.drop i) (i:Int) = some r) ∧ As0 (Below w.heap.size w w'))
 case atStart=>exact ⟨0,(by first|rfl|(simp;done)),⟨by simp⟩,⟨HQ.out⟩,HB⟩
 case round=>
  clear HB HQ;obtain ⟨i,rfl,HM,HI,HB⟩:=hrel;have hbound:l.length ≤ 9223372036854775807:=HR.out.2.1
  cases gk with
  |zero=>
   have hm:=HM.out;have t0:decide ((i:Int) < (l.length:Int)) = false:=decide_eq_false (by omega);have t1:decide (i < l.length) = false:=decide_eq_false (by omega);have HE:=As0.mk (show (-1:Int) = r by have h:=HI.out;rw [List.drop_of_length_le (by omega)] at h;exact Option.some.inj h);clear hm HI HM hbound
   go_wp2
   go_ret
   exact ⟨by rw [← HE.out];first|done|rfl|(simp;done),HB.out⟩
  |succ k2=>
   have hm:=HM.out;have hi:i < l.length:=by omega
   have t0:decide ((i:Int) < (l.length:Int)) = true:=decide_eq_true (by omega);have t1:decide (i < l.length) = true:=decide_eq_true hi;have hx:riU39 l (i:Int) = l[i]:=by simp [riU39,List.getElem?_eq_getElem hi]
   have hd:l.drop i = riU39 l (i:Int) :: l.drop (i + 1):=by rw [hx];exact List.drop_eq_getElem_cons hi
   have hI:=HI.out;rw [hd,cus.idx] at hI;obtain ⟨s,hs0,hI⟩:=Option.bind_eq_some_iff.1 hI;obtain ⟨ad,e0,hx0,hx1⟩:=at_T72 HR.out (i:Int) (by omega) (by omega)
   cases e0
   replace hx0:=bx HB.out rfl hx0;replace hx1:=bx HB.out rfl hx1;simp only [Int.toNat_natCast] at hx0 hx1;have p0:(0 ≤ (i:Int)) = True:=eq_true (by omega);have q1_:(i < l.length) = True:=eq_true hi;have q2_:((i:Int) < (l.length:Int)) = True:=eq_true (by omega);have w0_:wrap64 ((i:Int) + 1) = ((i + 1:Nat):Int):=by unfold wrap64;omega
   have i0_:((i:Int)).toNat = i:=rfl;have HS:=As0.mk hs0;clear hx hd HI hs0;by_cases hp:(riU39 l (i:Int)).f1 = s
   · have hp0:((riU39 l (i:Int)).f1 != s) = false:=by simp [hp]
     have HE:=As0.mk (show cus.idx k m3 m5 (l.drop (i + 1)) ((i:Int) + 1) = some r by rw [if_pos hp] at hI;exact hI);have HM2:=As0.mk (show i + 1 + k2 = l.length by omega);have W0:=As0.mk w0_;clear hp hI hm hi HM w0_
     go_wp2_with (go_at_call 70;(with_reducible refine (cus.closure k _ a b c A3 c3 m3 v4 A5 c5 m5 v6 gn s _ (Kd.C_below H3.out HB.out) C3.out (Kd.C_below H5.out HB.out) C5.out (blk_below HX.out HB.out) HS.out).mono ?_);rintro e w' ⟨rfl,hb⟩;replace HB:=As0.mk (bsp HB.out hb);clear hb)
     show _;go_roundg k2
     case measure=>omega
     case rel=>exact ⟨i + 1,(by first|rw [W0.out]|(simp;done)),HM2,⟨HE.out⟩,⟨by repeat (first|(with_reducible first|exact HB.out|apply pbN|apply bd1)|exact HB.out)⟩⟩
   · have hp0:((riU39 l (i:Int)).f1 != s) = true:=by simp [hp]
     have HE:=As0.mk (show (i:Int) = r by rw [if_neg hp] at hI;exact Option.some.inj hI);clear hp hI hm hi HM w0_
     go_wp2_with (go_at_call 70;(with_reducible refine (cus.closure k _ a b c A3 c3 m3 v4 A5 c5 m5 v6 gn s _ (Kd.C_below H3.out HB.out) C3.out (Kd.C_below H5.out HB.out) C5.out (blk_below HX.out HB.out) HS.out).mono ?_);rintro e w' ⟨rfl,hb⟩;replace HB:=As0.mk (bsp HB.out hb);clear hb)
     go_ret
     exact ⟨by rw [← HE.out];first|done|rfl|(simp;done),by repeat (first|(with_reducible first|exact HB.out|apply pbN|apply bd1)|exact HB.out)⟩
def impl_Use_69.f (k:Nat) (l:List (SiU30)) (_ _ _:Int) (m3:List (SiS28)) (_:List (SiU30)) (m5:List (SiT29)) (_:List (SiP27)):Option (Bool):=(cus.idx k m3 m5 l 0).bind fun i=>some (decide (0 ≤ i))
theorem impl_Use_69.calls (k:Nat) (A:Option Addr) (cA:Nat) (l:List (SiU30)) (a b c:Int) (m3:List (SiS28)) (m4:List (SiU30)) (m5:List (SiT29)) (m6:List (SiP27)) (gn:Nat) (r:Bool) (w:World) (hr:Kd.C k72 w A l.length l) (_:l.length ≤ cA)
 {A3:Option Addr} {c3:Nat} {v4:Value} {A5:Option Addr} {c5:Nat} {v6:Value} (hX:w.heap[gn]? = some (.cells #[.int .i64 a,.int .i64 b,.int .i64 c,.slice A3 m3.length c3,v4,.slice A5 m5.length c5,v6] 28 (0,0))) (h3:Kd.C k70 w A3 m3.length m3) (hc3:m3.length ≤ c3) (h5:Kd.C k44 w A5 m5.length m5) (hc5:m5.length ≤ c5) (h:impl_Use_69.f k l a b c m3 m4 m5 m6 = some r) :
 Calls Tryz.prog 69 #[.slice A l.length cA,.func (.func 70) #[] #[.pointer (some ⟨gn,0,none⟩)]] w fun e w'=>e = .returned (.bool r) ∧ Below w.heap.size w w':=by
 unfold impl_Use_69.f at h;obtain ⟨i,hi,h⟩:=Option.bind_eq_some_iff.1 h;obtain rfl:=Option.some.inj h;clear h;have HC:=Lib.hid (cus.index k A cA l a b c A3 c3 m3 v4 A5 c5 m5 v6 gn i w hr h3 hc3 h5 hc5 hX hi);clear hi hr hX h3 h5 hc3 hc5
 go_enter Tryz.func69,Tryz.ntmps69
 go_wp2_with (go_at_call 104;(with_reducible refine HC.out.mono ?_);rintro e w' ⟨rfl,hb⟩;have HB:=As0.mk hb;clear hb)
 go_ret
 exact ⟨by first|rfl|(simp;done),by repeat (first|(with_reducible first|exact HB.out|apply pbN|apply bd1)|exact HB.out)⟩
def impl_isModel.th (k:Nat) (rev uid:Int) (sp:List (SiS28)) (x:SiT29) (p:Option (SiT29)):Option Bool:=
 (impl_isThing.f k x.f0 x.f1 x.f2 x.f3 x.f4 x.f5 x.f6).bind fun b=>if b = true then (impl_findSpace.f sp x.f0).bind fun i=>if i < 0 then some false else if rev < x.f3 then some false else if uid < x.f2 then some false else (match p with|none=>some true|some y=>(impl_compareThings.f k y.f0 y.f1 y.f2 y.f3 y.f4 y.f5 y.f6 x.f0 x.f1 x.f2 x.f3 x.f4 x.f5 x.f6).bind fun c=>some (decide (c < 0))) else some false
def impl_isModel.l1 (k:Nat) (rev uid:Int) (sp:List (SiS28)) (T:List (SiT29)):Nat → Int → Option Bool
 |0,_=>some true
 |m + 1,i=>(impl_isModel.th k rev uid sp (riT38 T i) (if 0 < i then some (riT38 T (i - 1)) else none)).bind fun b=>if b = true then (impl_Thing_67.f (T.take i.toNat) (riT38 T i).f0 (riT38 T i).f1 (riT38 T i).f2 (riT38 T i).f3 (riT38 T i).f4 (riT38 T i).f5 (riT38 T i).f6).bind fun c=>if c = true then some false else impl_isModel.l1 k rev uid sp T m (i + 1) else some false
def impl_isModel.rest (k:Nat) (rev uid fl:Int) (sp:List (SiS28)) (us:List (SiU30)) (T:List (SiT29)) (P:List (SiP27)):Option Bool:=
 (impl_isModel.l1 k rev uid sp T T.length 0).bind fun b=>if b = true then (impl_Use_69.f k us rev uid fl sp us T P).bind fun c=>some (!c) else some false
def impl_isModel.f (k:Nat) (rev uid fl:Int) (sp:List (SiS28)) (us:List (SiU30)) (T:List (SiT29)) (P:List (SiP27)):Option Bool:=
 if rev < 0 ∨ 99999 < rev ∨ uid < 0 ∨ 99999 < uid ∨ fl < 0 ∨ rev < fl then some false else (impl_areSpaces.f k sp).bind fun b=>if b = true then (impl_areUses.f k sp us).bind fun b=>if b = true then (if 10 < T.length then some false else (impl_arePasts.f k rev uid fl sp us T P).bind fun b=>if b = true then (if sp.any (fun s=>decide (rev < s.f4)) = true then some false else impl_isModel.rest k rev uid fl sp us T P) else some false) else some false else some false
theorem impl_isModel.th_cases {k:Nat} {rev uid:Int} {sp:List (SiS28)} {x y:SiT29} {p:Option (SiT29)} {b:Bool} (h:impl_isModel.th k rev uid sp x p = some b) (hp:p = none ∨ p = some y) :
 (b = false ∧ As0 (impl_isThing.f k x.f0 x.f1 x.f2 x.f3 x.f4 x.f5 x.f6 = some false)) ∨ (∃ i,(b = false ∧ As0 (impl_isThing.f k x.f0 x.f1 x.f2 x.f3 x.f4 x.f5 x.f6 = some true) ∧ As0 (impl_findSpace.f sp x.f0 = some i) ∧ decide (i < 0) = true)) ∨ (∃ i,(b = false ∧ As0 (impl_isThing.f k x.f0 x.f1 x.f2 x.f3 x.f4 x.f5 x.f6 = some true) ∧ As0 (impl_findSpace.f sp x.f0 = some i) ∧ decide (i < 0) = false ∧ decide (rev < x.f3) = true)) ∨ (∃ i,(b = false ∧ As0 (impl_isThing.f k x.f0 x.f1 x.f2 x.f3 x.f4 x.f5 x.f6 = some true) ∧ As0 (impl_findSpace.f sp x.f0 = some i) ∧ decide (i < 0) = false ∧ decide (rev < x.f3) = false ∧ decide (uid < x.f2) = true)) ∨ (∃ i,(p = none ∧ b = true ∧ As0 (impl_isThing.f k x.f0 x.f1 x.f2 x.f3 x.f4 x.f5 x.f6 = some true) ∧ As0 (impl_findSpace.f sp x.f0 = some i) ∧ decide (i < 0) = false ∧ decide (rev < x.f3) = false ∧ decide (uid < x.f2) = false)) ∨ (∃ i c,(p = some y ∧ As0 (impl_isThing.f k x.f0 x.f1 x.f2 x.f3 x.f4 x.f5 x.f6 = some true) ∧ As0 (impl_findSpace.f sp x.f0 = some i) ∧ decide (i < 0) = false ∧ decide (rev < x.f3) = false ∧ decide (uid < x.f2) = false ∧ As0 (impl_compareThings.f k y.f0 y.f1 y.f2 y.f3 y.f4 y.f5 y.f6 x.f0 x.f1 x.f2 x.f3 x.f4 x.f5 x.f6 = some c) ∧ decide (c ≥ 0) = !b)):=by
 unfold impl_isModel.th at h;obtain ⟨t,ht,h⟩:=Option.bind_eq_some_iff.mp h
 cases t with
 |false=>exact .inl ⟨by simpa using h.symm,⟨ht⟩⟩
 |true=>
 rw [if_pos rfl] at h;obtain ⟨i,hi,h⟩:=Option.bind_eq_some_iff.mp h;by_cases c1:i < 0
 · rw [if_pos c1] at h;exact .inr (.inl ⟨i,(Option.some.inj h).symm,⟨ht⟩,⟨hi⟩,decide_eq_true c1⟩)
 rw [if_neg c1] at h;by_cases c2:rev < x.f3
 · rw [if_pos c2] at h;exact .inr (.inr (.inl ⟨i,(Option.some.inj h).symm,⟨ht⟩,⟨hi⟩,decide_eq_false c1,decide_eq_true c2⟩))
 rw [if_neg c2] at h;by_cases c3:uid < x.f2
 · rw [if_pos c3] at h;exact .inr (.inr (.inr (.inl ⟨i,(Option.some.inj h).symm,⟨ht⟩,⟨hi⟩,decide_eq_false c1,decide_eq_false c2,decide_eq_true c3⟩)))
 rw [if_neg c3] at h;rcases hp with rfl|rfl
 · exact .inr (.inr (.inr (.inr (.inl ⟨i,rfl,(Option.some.inj h).symm,⟨ht⟩,⟨hi⟩,decide_eq_false c1,decide_eq_false c2,decide_eq_false c3⟩))))
 · obtain ⟨c,hc,h⟩:=Option.bind_eq_some_iff.mp h
   refine .inr (.inr (.inr (.inr (.inr ⟨i,c,rfl,⟨ht⟩,⟨hi⟩,decide_eq_false c1,decide_eq_false c2,decide_eq_false c3,⟨hc⟩,?_⟩))));rw [← Option.some.inj h];by_cases c4:c < 0
   · rw [decide_eq_true c4,decide_eq_false (by omega)];rfl
   · rw [decide_eq_false c4,decide_eq_true (by omega)];rfl
set_option maxHeartbeats 16000000 in
set_option maxRecDepth 100000 in
theorem impl_isModel.calls (k:Nat) (rev uid fl:Int) (A3:Option Addr) (c3:Nat) (sp:List (SiS28)) (A4:Option Addr) (c4:Nat) (us:List (SiU30)) (A5:Option Addr) (c5:Nat) (T:List (SiT29)) (A6:Option Addr) (c6:Nat) (P:List (SiP27)) (r:Bool) (w:World) (hr3:Kd.C k70 w A3 sp.length sp) (hc3:sp.length ≤ c3) (hr4:Kd.C k72 w A4 us.length us) (hc4:us.length ≤ c4) (hr5:Kd.C k44 w A5 T.length T) (hc5:T.length ≤ c5) (hr6:Kd.C k36 w A6 P.length P) (hc6:P.length ≤ c6) (h:impl_isModel.f k rev uid fl sp us T P = some r) :
 Calls Tryz.prog 32 #[.agg #[.int .i64 rev,.int .i64 uid,.int .i64 fl,.slice A3 sp.length c3,.slice A4 us.length c4,.slice A5 T.length c5,.slice A6 P.length c6]] w fun e w'=>e = .returned (.bool r) ∧ Below w.heap.size w w':=by
 have hu28:=Tryz.underlying28;have hu70:=Tryz.underlying70;have hu44:=Tryz.underlying44;have HR3:=As0.mk hr3;have HC3:=As0.mk hc3;clear hr3 hc3;have HR4:=As0.mk hr4;have HC4:=As0.mk hc4;clear hr4 hc4;have HR5:=As0.mk hr5;have HC5:=As0.mk hc5;clear hr5 hc5;have HR6:=As0.mk hr6;have HC6:=As0.mk hc6;clear hr6 hc6;have HB:=As0.mk (Below.refl w.heap.size w);have H:=As0.mk h;clear h
 go_enter Tryz.func32,Tryz.ntmps32
 show _;go_upto_region 1 with (first
  |((with_reducible refine gate_dst (N:=1) rfl ?_);refine bE 1 #[.int .i64 rev,.int .i64 uid,.int .i64 fl,.slice A3 sp.length c3,.slice A4 us.length c4,.slice A5 T.length c5,.slice A6 P.length c6] 28 ?_;intro gb hg w1 hbox hb;have n0_:=As0.mk (bsp HB.out hb);have BM:=As0.mk hbox;clear HB hb hg hbox;have HB:=n0_;clear n0_;obtain ⟨kc0,kc1,kc2,kc3,kc4,kc5,kc6⟩:=mq.b7 BM.out))
 have h:=H.out;unfold impl_isModel.f at h;by_cases hall:rev < 0 ∨ 99999 < rev ∨ uid < 0 ∨ 99999 < uid ∨ fl < 0 ∨ rev < fl
 · rw [if_pos hall] at h
   obtain rfl:=Option.some.inj h
   have hs:(decide (rev < 0) = true) ∨ (decide (rev < 0) = false ∧ decide (99999 < rev) = true) ∨ (decide (rev < 0) = false ∧ decide (99999 < rev) = false ∧ decide (uid < 0) = true) ∨ (decide (rev < 0) = false ∧ decide (99999 < rev) = false ∧ decide (uid < 0) = false ∧ decide (99999 < uid) = true) ∨ (decide (rev < 0) = false ∧ decide (99999 < rev) = false ∧ decide (uid < 0) = false ∧ decide (99999 < uid) = false ∧ decide (fl < 0) = true) ∨ (decide (rev < 0) = false ∧ decide (99999 < rev) = false ∧ decide (uid < 0) = false ∧ decide (99999 < uid) = false ∧ decide (fl < 0) = false ∧ decide (rev < fl) = true):=by
    simp only [decide_eq_true_eq,decide_eq_false_iff_not];omega
   clear hall h H;rcases hs with s1|⟨s1,s2⟩|⟨s1,s2,s3⟩|⟨s1,s2,s3,s4⟩|⟨s1,s2,s3,s4,s5⟩|⟨s1,s2,s3,s4,s5,s6⟩
   all_goals (go_wp2;go_ret;exact ⟨by first|rfl|(simp;done),HB.out⟩)
 rw [if_neg hall] at h;have s1:decide (rev < 0) = false:=decide_eq_false (by omega);have s2:decide (99999 < rev) = false:=decide_eq_false (by omega);have s3:decide (uid < 0) = false:=decide_eq_false (by omega);have s4:decide (99999 < uid) = false:=decide_eq_false (by omega);have s5:decide (fl < 0) = false:=decide_eq_false (by omega);have s6:decide (rev < fl) = false:=decide_eq_false (by omega);clear hall
 show _;go_upto_region 3 with (fail)
 clear s1 s2 s3 s4 s5 s6;clear H;obtain ⟨b1,hb1,h⟩:=Option.bind_eq_some_iff.mp h;have A1:=As0.mk hb1;clear hb1
 cases b1 with
 |false=>
  obtain rfl:r = false:=by simpa using h.symm
  clear h
  go_wp2_with (first
   |(go_at_call 61;(with_reducible refine (impl_areSpaces.calls k _ _ sp false _ (Kd.C_below HR3.out HB.out) HC3.out A1.out).mono ?_);rintro e w2 ⟨rfl,hb⟩;have n0_:=As0.mk (bsp HB.out hb);have n1_:=As0.mk (blk_below BM.out hb);clear HB BM hb kc0 kc1 kc2 kc3 kc4 kc5 kc6;have HB:=n0_;have BM:=n1_;clear n0_ n1_;obtain ⟨kc0,kc1,kc2,kc3,kc4,kc5,kc6⟩:=mq.b7 BM.out))
  go_ret
  exact ⟨by first|rfl|(simp;done),HB.out⟩
 |true=>
 rw [if_pos rfl] at h;obtain ⟨b2,hb2,h⟩:=Option.bind_eq_some_iff.mp h;have A2:=As0.mk hb2;clear hb2
 cases b2 with
 |false=>
  obtain rfl:r = false:=by simpa using h.symm
  clear h
  go_wp2_with (first
   |(go_at_call 61;(with_reducible refine (impl_areSpaces.calls k _ _ sp true _ (Kd.C_below HR3.out HB.out) HC3.out A1.out).mono ?_);rintro e w2 ⟨rfl,hb⟩;have n0_:=As0.mk (bsp HB.out hb);have n1_:=As0.mk (blk_below BM.out hb);clear HB BM hb kc0 kc1 kc2 kc3 kc4 kc5 kc6;have HB:=n0_;have BM:=n1_;clear n0_ n1_;obtain ⟨kc0,kc1,kc2,kc3,kc4,kc5,kc6⟩:=mq.b7 BM.out)
   |(go_at_call 62;(with_reducible refine (impl_areUses.calls k _ _ sp _ _ us false _ (Kd.C_below HR3.out HB.out) HC3.out (Kd.C_below HR4.out HB.out) HC4.out A2.out).mono ?_);rintro e w3 ⟨rfl,hb⟩;have n0_:=As0.mk (bsp HB.out hb);have n1_:=As0.mk (blk_below BM.out hb);clear HB BM hb kc0 kc1 kc2 kc3 kc4 kc5 kc6;have HB:=n0_;have BM:=n1_;clear n0_ n1_;obtain ⟨kc0,kc1,kc2,kc3,kc4,kc5,kc6⟩:=mq.b7 BM.out))
  go_ret
  exact ⟨by first|rfl|(simp;done),HB.out⟩
 |true=>
 rw [if_pos rfl] at h;by_cases hlen:10 < T.length
 · rw [if_pos hlen] at h
   obtain rfl:=Option.some.inj h;have t0:decide ((10:Int) < (T.length:Int)) = true:=decide_eq_true (by omega);have t1:decide (10 < T.length) = true:=decide_eq_true hlen;clear h hlen
   go_wp2_with (first
    |(go_at_call 61;(with_reducible refine (impl_areSpaces.calls k _ _ sp true _ (Kd.C_below HR3.out HB.out) HC3.out A1.out).mono ?_);rintro e w2 ⟨rfl,hb⟩;have n0_:=As0.mk (bsp HB.out hb);have n1_:=As0.mk (blk_below BM.out hb);clear HB BM hb kc0 kc1 kc2 kc3 kc4 kc5 kc6;have HB:=n0_;have BM:=n1_;clear n0_ n1_;obtain ⟨kc0,kc1,kc2,kc3,kc4,kc5,kc6⟩:=mq.b7 BM.out)
    |(go_at_call 62;(with_reducible refine (impl_areUses.calls k _ _ sp _ _ us true _ (Kd.C_below HR3.out HB.out) HC3.out (Kd.C_below HR4.out HB.out) HC4.out A2.out).mono ?_);rintro e w3 ⟨rfl,hb⟩;have n0_:=As0.mk (bsp HB.out hb);have n1_:=As0.mk (blk_below BM.out hb);clear HB BM hb kc0 kc1 kc2 kc3 kc4 kc5 kc6;have HB:=n0_;have BM:=n1_;clear n0_ n1_;obtain ⟨kc0,kc1,kc2,kc3,kc4,kc5,kc6⟩:=mq.b7 BM.out))
   go_ret
   exact ⟨by first|rfl|(simp;done),HB.out⟩
 rw [if_neg hlen] at h;have t0:decide ((10:Int) < (T.length:Int)) = false:=decide_eq_false (by omega);have t1:decide (10 < T.length) = false:=decide_eq_false hlen;clear hlen;obtain ⟨b3,hb3,h⟩:=Option.bind_eq_some_iff.mp h;have A3_:=As0.mk hb3;clear hb3
 cases b3 with
 |false=>
  obtain rfl:r = false:=by simpa using h.symm
  clear h
  go_wp2_with (first
   |(go_at_call 61;(with_reducible refine (impl_areSpaces.calls k _ _ sp true _ (Kd.C_below HR3.out HB.out) HC3.out A1.out).mono ?_);rintro e w2 ⟨rfl,hb⟩;have n0_:=As0.mk (bsp HB.out hb);have n1_:=As0.mk (blk_below BM.out hb);clear HB BM hb kc0 kc1 kc2 kc3 kc4 kc5 kc6;have HB:=n0_;have BM:=n1_;clear n0_ n1_;obtain ⟨kc0,kc1,kc2,kc3,kc4,kc5,kc6⟩:=mq.b7 BM.out)
   |(go_at_call 62;(with_reducible refine (impl_areUses.calls k _ _ sp _ _ us true _ (Kd.C_below HR3.out HB.out) HC3.out (Kd.C_below HR4.out HB.out) HC4.out A2.out).mono ?_);rintro e w3 ⟨rfl,hb⟩;have n0_:=As0.mk (bsp HB.out hb);have n1_:=As0.mk (blk_below BM.out hb);clear HB BM hb kc0 kc1 kc2 kc3 kc4 kc5 kc6;have HB:=n0_;have BM:=n1_;clear n0_ n1_;obtain ⟨kc0,kc1,kc2,kc3,kc4,kc5,kc6⟩:=mq.b7 BM.out)
   |(go_at_call 63;(with_reducible refine (impl_arePasts.calls k rev uid fl _ _ sp _ _ us _ _ T _ _ P false _ (Kd.C_below HR3.out HB.out) HC3.out (Kd.C_below HR4.out HB.out) HC4.out (Kd.C_below HR5.out HB.out) HC5.out (Kd.C_below HR6.out HB.out) HC6.out A3_.out).mono ?_);rintro e w4 ⟨rfl,hb⟩;have n0_:=As0.mk (bsp HB.out hb);have n1_:=As0.mk (blk_below BM.out hb);clear HB BM hb kc0 kc1 kc2 kc3 kc4 kc5 kc6;have HB:=n0_;have BM:=n1_;clear n0_ n1_;obtain ⟨kc0,kc1,kc2,kc3,kc4,kc5,kc6⟩:=mq.b7 BM.out))
  go_ret
  exact ⟨by first|rfl|(simp;done),HB.out⟩
 |true=>
 rw [if_pos rfl] at h;have H:=As0.mk h;clear h
 show _;go_upto_region 5 with (first
  |(go_at_call 61;(with_reducible refine (impl_areSpaces.calls k _ _ sp true _ (Kd.C_below HR3.out HB.out) HC3.out A1.out).mono ?_);rintro e w2 ⟨rfl,hb⟩;have n0_:=As0.mk (bsp HB.out hb);have n1_:=As0.mk (blk_below BM.out hb);clear HB BM hb kc0 kc1 kc2 kc3 kc4 kc5 kc6;have HB:=n0_;have BM:=n1_;clear n0_ n1_;obtain ⟨kc0,kc1,kc2,kc3,kc4,kc5,kc6⟩:=mq.b7 BM.out)
  |(go_at_call 62;(with_reducible refine (impl_areUses.calls k _ _ sp _ _ us true _ (Kd.C_below HR3.out HB.out) HC3.out (Kd.C_below HR4.out HB.out) HC4.out A2.out).mono ?_);rintro e w3 ⟨rfl,hb⟩;have n0_:=As0.mk (bsp HB.out hb);have n1_:=As0.mk (blk_below BM.out hb);clear HB BM hb kc0 kc1 kc2 kc3 kc4 kc5 kc6;have HB:=n0_;have BM:=n1_;clear n0_ n1_;obtain ⟨kc0,kc1,kc2,kc3,kc4,kc5,kc6⟩:=mq.b7 BM.out)
  |(go_at_call 63;(with_reducible refine (impl_arePasts.calls k rev uid fl _ _ sp _ _ us _ _ T _ _ P true _ (Kd.C_below HR3.out HB.out) HC3.out (Kd.C_below HR4.out HB.out) HC4.out (Kd.C_below HR5.out HB.out) HC5.out (Kd.C_below HR6.out HB.out) HC6.out A3_.out).mono ?_);rintro e w4 ⟨rfl,hb⟩;have n0_:=As0.mk (bsp HB.out hb);have n1_:=As0.mk (blk_below BM.out hb);clear HB BM hb kc0 kc1 kc2 kc3 kc4 kc5 kc6;have HB:=n0_;have BM:=n1_;clear n0_ n1_;obtain ⟨kc0,kc1,kc2,kc3,kc4,kc5,kc6⟩:=mq.b7 BM.out))
 clear A1 A2 A3_ t0 t1;have hb3:sp.length ≤ 9223372036854775807:=HR3.out.2.1;have hb5:T.length ≤ 9223372036854775807:=HR5.out.2.1;have HN3:=As0.mk hb3;have HN5:=As0.mk hb5;clear hb3 hb5
 go_wp2
 show _;go_loopg [63] sp.length (fun m v w'=>∃ ii:Int,v = .int .i64 ii ∧ As0 (0 ≤ ii ∧ ii + m = sp.length) ∧ As0 ((if (sp.drop ii.toNat).any (fun s=>decide (rev < s.f4)) = true then some false else impl_isModel.rest k rev uid fl sp us T P) = some r) ∧ As0 (Below w.heap.size w w') ∧ As0 (w'.heap[gb]? = some (.cells #[.int .i64 rev,.int .i64 uid,.int .i64 fl,.slice A3 sp.length c3,.slice A4 us.length c4,.slice A5 T.length c5,.slice A6 P.length c6] 28 (0,0))))
 case atStart=>exact ⟨0,(by first|rfl|(simp;done)),⟨⟨Int.le_refl _,by simp⟩⟩,⟨H.out⟩,HB,BM⟩
 case round=>
  clear HB BM H kc0 kc1 kc2 kc3 kc4 kc5 kc6;obtain ⟨ii,rfl,HM,H,HB,BM⟩:=hrel;obtain ⟨kc0,kc1,kc2,kc3,kc4,kc5,kc6⟩:=mq.b7 BM.out
  cases gk with
  |succ k2=>
   have hm:=HM.out;have hi0:0 ≤ ii:=hm.1;have hin:ii < (sp.length:Int):=by have:=hm.2;omega
   have t0:decide (ii < (sp.length:Int)) = true:=decide_eq_true hin;have p0:(0 ≤ ii) = True:=eq_true hi0;have q0:(ii < (sp.length:Int)) = True:=eq_true hin;have q1_:(ii.toNat < sp.length) = True:=eq_true (by omega);have hw1:wrap64 (ii + 1) = ii + 1:=mq.wid (by have:=HN3.out;omega) (by have:=HN3.out;omega);have W0:=As0.mk hw1;have hii:ii.toNat < sp.length:=by omega
   have hrd:sp[ii.toNat] = riS37 sp ii:=by simp [riS37,List.getElem?_eq_getElem hii]
   have h:=H.out;rw [List.drop_eq_getElem_cons hii,List.any_cons,hrd] at h;have HM2:=As0.mk (show 0 ≤ ii + 1 ∧ ii + 1 + (k2:Nat) = (sp.length:Int) from by have:=hm.2;constructor <;> omega);obtain ⟨ad,e0,hx0,hx1,hx2,hx3,hx4⟩:=at_T70 HR3.out ii hi0 hin
   cases e0
   replace hx0:=bx HB.out rfl hx0;replace hx1:=bx HB.out rfl hx1;replace hx2:=bx HB.out rfl hx2;replace hx3:=bx HB.out rfl hx3;replace hx4:=bx HB.out rfl hx4;clear H HM hm hw1 hrd hii hi0 hin;by_cases hv:rev < (riS37 sp ii).f4
   · rw [decide_eq_true hv,Bool.true_or,if_pos rfl] at h
     obtain rfl:=Option.some.inj h;have t3:decide (rev < (riS37 sp ii).f4) = true:=decide_eq_true hv;clear hv h
     go_wp2_with (first
      |((with_reducible refine gate_dst (N:=4) rfl ?_);refine bE 4 #[.string ⟨#[]⟩,.string ⟨#[]⟩,.int .i64 0,.bool false,.int .i64 0] 70 ?_;intro gx hg w6 hbox hb;have BZ:=As0.mk hbox;have HZ:=As0.mk hb;have GX:=As0.mk (show wr.heap.size ≤ gx from Nat.le_of_eq hg.symm);clear hb hg hbox;have z0:=bkF BZ.out 0;have z1:=bkF BZ.out 1;have z2:=bkF BZ.out 2;have z3:=bkF BZ.out 3;have z4:=bkF BZ.out 4;obtain ⟨j0,j1,j2,j3,j4⟩:=mq.b5 BZ.out)
      |((with_reducible refine gate_store (t:=70) (p:=4) rfl ?_);refine store_event (t:=70) (p:=4) (v:=?vo_a) (w1:=mq.put5 w6 gx (.string (riS37 sp ii).f0) (.string (riS37 sp ii).f1) (.int .i64 (riS37 sp ii).f2) (.bool (riS37 sp ii).f3) (.int .i64 (riS37 sp ii).f4)) ?hg ?ho ?hn ?hr ?_;(case ho=>rfl);(case hg=>rfl);(case hn=>rfl);(case hr=>(first|(unfold mq.put7;unfold mq.put5)|unfold mq.put5);first|done|(go_simp;done)|(go_simp;rfl));intro w7 hw;have hb:=mq.below5 HZ.out GX.out hw;have BX:=As0.mk (mq.blk5 BZ.out hw);clear hw HZ BZ GX z0 z1 z2 z3 z4 j0 j1 j2 j3 j4 kc0 kc1 kc2 kc3 kc4 kc5 kc6;have n0_:=As0.mk (bsp HB.out hb);have n1_:=As0.mk (blk_below BM.out hb);clear HB BM hb;have HB:=n0_;have BM:=n1_;clear n0_ n1_;clear hx0 hx1 hx2 hx3 hx4;obtain ⟨kc0,kc1,kc2,kc3,kc4,kc5,kc6⟩:=mq.b7 BM.out;obtain ⟨j0,j1,j2,j3,j4⟩:=mq.b5 BX.out))
     go_ret
     exact ⟨by first|rfl|(simp;done),HB.out⟩
   · rw [decide_eq_false hv,Bool.false_or] at h
     have t3:decide (rev < (riS37 sp ii).f4) = false:=decide_eq_false hv;have H:=As0.mk (show (if (sp.drop (ii + 1).toNat).any (fun s=>decide (rev < s.f4)) = true then some false else impl_isModel.rest k rev uid fl sp us T P) = some r from by rw [show (ii + 1).toNat = ii.toNat + 1 from by have:=HM2.out.1;have:=of_eq_true p0;omega];exact h);clear hv h
     go_wp2_with (first
      |((with_reducible refine gate_dst (N:=4) rfl ?_);refine bE 4 #[.string ⟨#[]⟩,.string ⟨#[]⟩,.int .i64 0,.bool false,.int .i64 0] 70 ?_;intro gx hg w6 hbox hb;have BZ:=As0.mk hbox;have HZ:=As0.mk hb;have GX:=As0.mk (show wr.heap.size ≤ gx from Nat.le_of_eq hg.symm);clear hb hg hbox;have z0:=bkF BZ.out 0;have z1:=bkF BZ.out 1;have z2:=bkF BZ.out 2;have z3:=bkF BZ.out 3;have z4:=bkF BZ.out 4;obtain ⟨j0,j1,j2,j3,j4⟩:=mq.b5 BZ.out)
      |((with_reducible refine gate_store (t:=70) (p:=4) rfl ?_);refine store_event (t:=70) (p:=4) (v:=?vo_b) (w1:=mq.put5 w6 gx (.string (riS37 sp ii).f0) (.string (riS37 sp ii).f1) (.int .i64 (riS37 sp ii).f2) (.bool (riS37 sp ii).f3) (.int .i64 (riS37 sp ii).f4)) ?hg ?ho ?hn ?hr ?_;(case ho=>rfl);(case hg=>rfl);(case hn=>rfl);(case hr=>(first|(unfold mq.put7;unfold mq.put5)|unfold mq.put5);first|done|(go_simp;done)|(go_simp;rfl));intro w7 hw;have hb:=mq.below5 HZ.out GX.out hw;have BX:=As0.mk (mq.blk5 BZ.out hw);clear hw HZ BZ GX z0 z1 z2 z3 z4 j0 j1 j2 j3 j4 kc0 kc1 kc2 kc3 kc4 kc5 kc6;have n0_:=As0.mk (bsp HB.out hb);have n1_:=As0.mk (blk_below BM.out hb);clear HB BM hb;have HB:=n0_;have BM:=n1_;clear n0_ n1_;clear hx0 hx1 hx2 hx3 hx4;obtain ⟨kc0,kc1,kc2,kc3,kc4,kc5,kc6⟩:=mq.b7 BM.out;obtain ⟨j0,j1,j2,j3,j4⟩:=mq.b5 BX.out))
     show _;go_roundg k2
     case measure=>omega
     case rel=>exact ⟨ii + 1,(by first|rw [W0.out]|(simp [W0.out];done)|(simp;done)),HM2,H,HB,BM⟩
  |zero=>
   have hm:=HM.out;have t0:decide (ii < (sp.length:Int)) = false:=decide_eq_false (by have:=hm.2;omega);have h:=H.out;rw [List.drop_of_length_le (by have:=hm.2;omega),List.any_nil,if_neg (by decide)] at h;clear hm HM H
   show _;go_upto_region 11 with (fail)
   unfold impl_isModel.rest at h;obtain ⟨b4,hb4,h⟩:=Option.bind_eq_some_iff.mp h;have H:=As0.mk hb4;have HE:=As0.mk h;clear h hb4 t0
   go_wp2
   show _;go_loopg [76] T.length (fun m v w'=>∃ ii:Int,v = .int .i64 ii ∧ As0 (0 ≤ ii ∧ ii + m = T.length) ∧ As0 (impl_isModel.l1 k rev uid sp T m ii = some b4) ∧ As0 (Below w.heap.size w w') ∧ As0 (w'.heap[gb]? = some (.cells #[.int .i64 rev,.int .i64 uid,.int .i64 fl,.slice A3 sp.length c3,.slice A4 us.length c4,.slice A5 T.length c5,.slice A6 P.length c6] 28 (0,0))))
   case atStart=>exact ⟨0,(by first|rfl|(simp;done)),⟨⟨Int.le_refl _,by simp⟩⟩,⟨H.out⟩,HB,BM⟩
   case round=>
    clear HB BM H kc0 kc1 kc2 kc3 kc4 kc5 kc6;obtain ⟨ii,rfl,HM,H,HB,BM⟩:=hrel;obtain ⟨kc0,kc1,kc2,kc3,kc4,kc5,kc6⟩:=mq.b7 BM.out
    cases gk with
    |zero=>
     have hm:=HM.out;have t0:decide (ii < (T.length:Int)) = false:=decide_eq_false (by have:=hm.2;omega);have h:=H.out;rw [impl_isModel.l1] at h;obtain rfl:=Option.some.inj h;have h:=HE.out;rw [if_pos rfl] at h;obtain ⟨c,hc,h⟩:=Option.bind_eq_some_iff.mp h;obtain rfl:=Option.some.inj h;have AU_:=As0.mk hc;clear hm HM H HE h hc
     go_wp2_with (first
      |(go_at_call 69;(with_reducible refine (impl_Use_69.calls k _ _ us rev uid fl sp us T P gb c _ (Kd.C_below HR4.out HB.out) HC4.out BM.out (Kd.C_below HR3.out HB.out) HC3.out (Kd.C_below HR5.out HB.out) HC5.out AU_.out).mono ?_);rintro e w9 ⟨rfl,hb⟩;have n0_:=As0.mk (bsp HB.out hb);clear HB hb;have HB:=n0_;clear n0_))
     go_ret
     exact ⟨by first|rfl|(simp;done),HB.out⟩
    |succ k2=>
     have hm:=HM.out;have hi0:0 ≤ ii:=hm.1;have hin:ii < (T.length:Int):=by have:=hm.2;omega
     have t0:decide (ii < (T.length:Int)) = true:=decide_eq_true hin;have p0:(0 ≤ ii) = True:=eq_true hi0;have q0:(ii < (T.length:Int)) = True:=eq_true hin;have q1_:(ii.toNat < T.length) = True:=eq_true (by omega);have hw1:wrap64 (ii + 1) = ii + 1:=mq.wid (by have:=HN5.out;omega) (by have:=HN5.out;omega);have W0:=As0.mk hw1;have hit:ii.toNat ≤ T.length:=by omega
     have HM2:=As0.mk (show 0 ≤ ii + 1 ∧ ii + 1 + (k2:Nat) = (T.length:Int) from by have:=hm.2;constructor <;> omega);obtain ⟨ad,X5,y5,e0,hx0,hx1,hx2,hx3,hx4,hx5,hx6,l5,g5⟩:=at_T44 HR5.out ii hi0 hin
     cases e0
     replace hx0:=bx HB.out rfl hx0;replace hx1:=bx HB.out rfl hx1;replace hx2:=bx HB.out rfl hx2;replace hx3:=bx HB.out rfl hx3;replace hx4:=bx HB.out rfl hx4;replace hx5:=bx HB.out rfl hx5;replace hx6:=bx HB.out rfl hx6;have L5:=As0.mk l5;have G5:=As0.mk g5;clear l5 g5;have h:=H.out;rw [impl_isModel.l1] at h;obtain ⟨b,hb,h⟩:=Option.bind_eq_some_iff.mp h
     show _;go_upto_region 14 with (first
      |((with_reducible refine gate_dst (N:=6) rfl ?_);refine bE 6 #[.string ⟨#[]⟩,.string ⟨#[]⟩,.int .i64 0,.int .i64 0,.bool false,.slice none 0 0,.string ⟨#[]⟩] 44 ?_;intro gx hg w6 hbox hb;have BZ:=As0.mk hbox;have HZ:=As0.mk hb;have GX:=As0.mk (show wr.heap.size ≤ gx from Nat.le_of_eq hg.symm);clear hb hg hbox;have z0:=bkF BZ.out 0;have z1:=bkF BZ.out 1;have z2:=bkF BZ.out 2;have z3:=bkF BZ.out 3;have z4:=bkF BZ.out 4;have z5:=bkF BZ.out 5;have z6:=bkF BZ.out 6;obtain ⟨j0,j1,j2,j3,j4,j5,j6⟩:=mq.b7 BZ.out)
      |((with_reducible refine gate_store (t:=44) (p:=6) rfl ?_);refine store_event (t:=44) (p:=6) (v:=?vo_c) (w1:=mq.put7 w6 gx (.string (riT38 T ii).f0) (.string (riT38 T ii).f1) (.int .i64 (riT38 T ii).f2) (.int .i64 (riT38 T ii).f3) (.bool (riT38 T ii).f4) (.slice X5 (riT38 T ii).f5.length y5) (.string (riT38 T ii).f6)) ?hg ?ho ?hn ?hr ?_;(case ho=>rfl);(case hg=>rfl);(case hn=>rfl);(case hr=>(first|(unfold mq.put7;unfold mq.put5)|unfold mq.put5);first|done|(go_simp;done)|(go_simp;rfl));intro w7 hw;have hb:=mq.below7 HZ.out GX.out hw;have BX:=As0.mk (mq.blk7 BZ.out hw);clear hw HZ BZ GX z0 z1 z2 z3 z4 z5 z6 j0 j1 j2 j3 j4 j5 j6 kc0 kc1 kc2 kc3 kc4 kc5 kc6;have n0_:=As0.mk (bsp HB.out hb);have n1_:=As0.mk (blk_below BM.out hb);clear HB BM hb;have HB:=n0_;have BM:=n1_;clear n0_ n1_;clear hx0 hx1 hx2 hx3 hx4 hx5 hx6))
     have hA5:=HC5.out;obtain ⟨q0,q1,q2,q3,q4,q5,q6⟩:=mq.c7 BM.out;obtain ⟨g0,g1,g2,g3,g4,g5_,g6⟩:=mq.c7 BX.out;obtain ⟨y,hy⟩:∃ y,y = riT38 T (ii - 1):=⟨_,rfl⟩
     have hp:(if 0 < ii then some (riT38 T (ii - 1)) else none) = none ∨ (if 0 < ii then some (riT38 T (ii - 1)) else none) = some y:=by
      rw [hy];split <;> simp
     have hn0:(if 0 < ii then some (riT38 T (ii - 1)) else none) = none → decide (0 < ii) = false:=fun h_=>by
      by_cases c_:0 < ii
      · rw [if_pos c_] at h_;cases h_
      · exact decide_eq_false c_
     have hn1:(if 0 < ii then some (riT38 T (ii - 1)) else none) = some y → 0 < ii:=fun h_=>by
      by_cases c_:0 < ii
      · exact c_
      · rw [if_neg c_] at h_;cases h_
     clear hm HM H hw1
     cases b with
     |false=>
      rw [if_neg (by decide)] at h;obtain rfl:=Option.some.inj h;have h:=HE.out;rw [if_neg (by decide)] at h;obtain rfl:=Option.some.inj h;clear h HE;rcases impl_isModel.th_cases hb hp with ⟨hc,A1⟩|⟨i0,hc,A1,A2,u1⟩|⟨i0,hc,A1,A2,u1,u2⟩|⟨i0,hc,A1,A2,u1,u2,u3⟩|⟨i0,hn,hc,A1,A2,u1,u2,u3⟩|⟨i0,c0,hn,A1,A2,u1,u2,u3,A6,u6⟩
      rotate_left 5;have hii:=hn1 hn;have v0:decide (0 < ii) = true:=decide_eq_true hii;obtain ⟨pj,hpj⟩:∃ z,ii - 1 = z:=⟨_,rfl⟩;have hj0:0 ≤ pj:=by omega
      have hj1:pj < (T.length:Int):=by omega
      have hj2:pj.toNat < T.length:=by omega
      have hj3:wrap64 (ii - 1) = pj:=by rw [hpj];exact mq.wid (by omega) (by have:=HN5.out;omega)
      have e1:IntKind.i64.wrap (ii - 1) = pj:=(i64_w _).trans hj3;rw [hpj] at hy;subst hy;obtain ⟨ad',Z5,y6,e0,ex0,ex1,ex2,ex3,ex4,ex5,ex6,l6,G6_⟩:=at_T44 HR5.out pj hj0 hj1;obtain rfl:ad = ad':=by injection e0
      have d0:=mq.cell ((HB.out.cell (World.block_lt_of_cell? w _ ex0)).trans ex0);have d1:=mq.cell ((HB.out.cell (World.block_lt_of_cell? w _ ex1)).trans ex1);have d2:=mq.cell ((HB.out.cell (World.block_lt_of_cell? w _ ex2)).trans ex2);have d3:=mq.cell ((HB.out.cell (World.block_lt_of_cell? w _ ex3)).trans ex3);have d4:=mq.cell ((HB.out.cell (World.block_lt_of_cell? w _ ex4)).trans ex4);have d5:=mq.cell ((HB.out.cell (World.block_lt_of_cell? w _ ex5)).trans ex5);have d6:=mq.cell ((HB.out.cell (World.block_lt_of_cell? w _ ex6)).trans ex6);have G6:=As0.mk G6_;have L6:=As0.mk l6;have j0_:(0 ≤ pj) = True:=eq_true hj0;have j1_:(pj < (T.length:Int)) = True:=eq_true hj1;have j2_:(pj.toNat < T.length) = True:=eq_true hj2;clear ex0 ex1 ex2 ex3 ex4 ex5 ex6 G6_ l6 e0 hj0 hj1 hj2 hpj hii;rotate_right
      exact absurd hc (by decide)
      all_goals
       clear hp hn0 hn1 hb hit hin hi0 hA5;refine mq.region (by kernel_rfl) (by kernel_rfl) ?_
       repeat (go_big_quiet_step (first
        |(rename_i x;go_at_call 64;refine (impl_isThing.calls k _ _ _ _ _ _ _ _ _ _ _ (Kd.C_below (Kd.C_below G5.out HB.out) x.2) L5.out A1.out).mono ?_;rintro e w8 ⟨rfl,hb⟩;exact ⟨rfl,⟨_,bsp x.2 hb⟩,rfl⟩)
        |(rename_i x;go_at_call 65;refine (impl_findSpace.calls _ _ sp _ _ _ (Kd.C_below (Kd.C_below HR3.out HB.out) x.2) HC3.out A2.out).mono ?_;rintro e w8 ⟨rfl,hb⟩;exact ⟨rfl,⟨_,bsp x.2 hb⟩,rfl⟩)
        |(rename_i x;go_at_call 66;refine (impl_compareThings.calls k _ _ _ _ _ _ _ _ _ _ _ _ _ _ _ _ _ _ _ _ (Kd.C_below (Kd.C_below G6.out HB.out) x.2) L6.out (Kd.C_below (Kd.C_below G5.out HB.out) x.2) L5.out A6.out).mono ?_;rintro e w8 ⟨rfl,hb⟩;exact ⟨rfl,⟨_,bsp x.2 hb⟩,rfl⟩)))
       refine wpQuiet_nil ?_;intro w8 hb;replace HB:=As0.mk (bsp HB.out hb);replace BM:=As0.mk (blk_below BM.out hb);replace BX:=As0.mk (blk_below BX.out hb);clear hb q0 q1 q2 q3 q4 q5 q6 g0 g1 g2 g3 g4 g5_ g6
       go_wp2
       go_ret
       exact ⟨by first|rfl|(simp;done),HB.out⟩
     |true=>
      rw [if_pos rfl] at h;obtain ⟨cb,hcb,h⟩:=Option.bind_eq_some_iff.mp h;have AY:=As0.mk hcb;have hY0:(T.take ii.toNat).length = ii.toNat:=by rw [List.length_take];omega
      have HRY:=As0.mk (Kd.C_take HR5.out hit);generalize T.take ii.toNat = Y at AY hY0 HRY
      have CY:=As0.mk (show Y.length ≤ c5 by omega);have r0:(ii ≤ (c5:Int)) = True:=eq_true (by omega);have r1:(ii.toNat ≤ c5) = True:=eq_true (by omega);rcases impl_isModel.th_cases hb hp with ⟨hc,A1⟩|⟨i0,hc,A1,A2,u1⟩|⟨i0,hc,A1,A2,u1,u2⟩|⟨i0,hc,A1,A2,u1,u2,u3⟩|⟨i0,hn,hc,A1,A2,u1,u2,u3⟩|⟨i0,c0,hn,A1,A2,u1,u2,u3,A6,u6⟩
      all_goals try exact absurd hc (by decide)
      rotate_left;have hii:=hn1 hn;have v0:decide (0 < ii) = true:=decide_eq_true hii;obtain ⟨pj,hpj⟩:∃ z,ii - 1 = z:=⟨_,rfl⟩;have hj0:0 ≤ pj:=by omega
      have hj1:pj < (T.length:Int):=by omega
      have hj2:pj.toNat < T.length:=by omega
      have hj3:wrap64 (ii - 1) = pj:=by rw [hpj];exact mq.wid (by omega) (by have:=HN5.out;omega)
      have e1:IntKind.i64.wrap (ii - 1) = pj:=(i64_w _).trans hj3;rw [hpj] at hy;subst hy;obtain ⟨ad',Z5,y6,e0,ex0,ex1,ex2,ex3,ex4,ex5,ex6,l6,G6_⟩:=at_T44 HR5.out pj hj0 hj1;obtain rfl:ad = ad':=by injection e0
      have d0:=mq.cell ((HB.out.cell (World.block_lt_of_cell? w _ ex0)).trans ex0);have d1:=mq.cell ((HB.out.cell (World.block_lt_of_cell? w _ ex1)).trans ex1);have d2:=mq.cell ((HB.out.cell (World.block_lt_of_cell? w _ ex2)).trans ex2);have d3:=mq.cell ((HB.out.cell (World.block_lt_of_cell? w _ ex3)).trans ex3);have d4:=mq.cell ((HB.out.cell (World.block_lt_of_cell? w _ ex4)).trans ex4);have d5:=mq.cell ((HB.out.cell (World.block_lt_of_cell? w _ ex5)).trans ex5);have d6:=mq.cell ((HB.out.cell (World.block_lt_of_cell? w _ ex6)).trans ex6);have G6:=As0.mk G6_;have L6:=As0.mk l6;have j0_:(0 ≤ pj) = True:=eq_true hj0;have j1_:(pj < (T.length:Int)) = True:=eq_true hj1;have j2_:(pj.toNat < T.length) = True:=eq_true hj2;clear ex0 ex1 ex2 ex3 ex4 ex5 ex6 G6_ l6 e0 hj0 hj1 hj2 hpj hii;rotate_left;have v0:=hn0 hn
      all_goals
       clear hp hn0 hn1 hb hit hin hi0 hA5 hcb;refine mq.region (by kernel_rfl) (by kernel_rfl) ?_
       repeat (go_big_quiet_step (first
        |(rename_i x;go_at_call 64;refine (impl_isThing.calls k _ _ _ _ _ _ _ _ _ _ _ (Kd.C_below (Kd.C_below G5.out HB.out) x.2) L5.out A1.out).mono ?_;rintro e w8 ⟨rfl,hb⟩;exact ⟨rfl,⟨_,bsp x.2 hb⟩,rfl⟩)
        |(rename_i x;go_at_call 65;refine (impl_findSpace.calls _ _ sp _ _ _ (Kd.C_below (Kd.C_below HR3.out HB.out) x.2) HC3.out A2.out).mono ?_;rintro e w8 ⟨rfl,hb⟩;exact ⟨rfl,⟨_,bsp x.2 hb⟩,rfl⟩)
        |(rename_i x;go_at_call 66;refine (impl_compareThings.calls k _ _ _ _ _ _ _ _ _ _ _ _ _ _ _ _ _ _ _ _ (Kd.C_below (Kd.C_below G6.out HB.out) x.2) L6.out (Kd.C_below (Kd.C_below G5.out HB.out) x.2) L5.out A6.out).mono ?_;rintro e w8 ⟨rfl,hb⟩;exact ⟨rfl,⟨_,bsp x.2 hb⟩,rfl⟩)))
       refine wpQuiet_nil ?_;intro w8 hb;replace HB:=As0.mk (bsp HB.out hb);replace BM:=As0.mk (blk_below BM.out hb);replace BX:=As0.mk (blk_below BX.out hb);clear hb q0 q1 q2 q3 q4 q5 q6 g0 g1 g2 g3 g4 g5_ g6
       show _;go_upto_region 16 with (fail)
       have hY:=hY0.symm;clear hY0;obtain ⟨kc0,kc1,kc2,kc3,kc4,kc5,kc6⟩:=mq.b7 BM.out
       cases cb with
       |true=>
        rw [if_pos rfl] at h;obtain rfl:=Option.some.inj h;have h:=HE.out;rw [if_neg (by decide)] at h;obtain rfl:=Option.some.inj h;clear h HE
        go_wp2_with (first
         |(go_at_call 67;(with_reducible refine (impl_Thing_67.calls _ _ Y _ _ _ _ _ _ _ gx _ _ (Kd.C_below HRY.out HB.out) CY.out BX.out AY.out).mono ?_);rintro e w9 ⟨rfl,hb⟩;have n0_:=As0.mk (bsp HB.out hb);have n1_:=As0.mk (blk_below BM.out hb);clear HB BM hb;have HB:=n0_;have BM:=n1_;clear n0_ n1_))
        go_ret
        exact ⟨by first|rfl|(simp;done),HB.out⟩
       |false=>
        rw [if_neg (by decide)] at h;have H:=As0.mk h;clear h
        go_wp2_with (first
         |(go_at_call 67;(with_reducible refine (impl_Thing_67.calls _ _ Y _ _ _ _ _ _ _ gx _ _ (Kd.C_below HRY.out HB.out) CY.out BX.out AY.out).mono ?_);rintro e w9 ⟨rfl,hb⟩;have n0_:=As0.mk (bsp HB.out hb);have n1_:=As0.mk (blk_below BM.out hb);clear HB BM hb;have HB:=n0_;have BM:=n1_;clear n0_ n1_))
        show _;go_roundg k2
        case measure=>omega
        case rel=>exact ⟨ii + 1,(by first|rw [W0.out]|(simp [W0.out];done)|(simp;done)),HM2,H,HB,BM⟩
def spec_l1In.f (a0:Int) (a1:Int) (a2:Int):Option (Bool):=if a0 ≥ a1 then (some (decide (a0 ≤ a2))) else (some false)
set_option maxHeartbeats 40000000 in
set_option maxRecDepth 100000 in
theorem spec_l1In.calls (a0:Int) (a1:Int) (a2:Int) (r:Bool) (w:World) (h:spec_l1In.f a0 a1 a2 = some r) :
 Calls Tryz.prog 35 #[.int .i64 a0,.int .i64 a1,.int .i64 a2] w fun e w'=>e = .returned (.bool r) ∧ Drawn0 w w':=by
 have H:(if a0 ≥ a1 then (some (decide (a0 ≤ a2))) else (some false)) = some r:=h;clear h;by_cases c4:a0 ≥ a1
 · rw [if_pos c4] at H
   have c4b0:decide (a1 ≤ a0) = true:=decide_eq_true c4;clear c4;obtain rfl:=Option.some.inj H
   go_enter Tryz.func35,Tryz.ntmps35
   go_wp2
   go_ret
   exact ⟨by first|rfl|(simp;done)|(simp [*];done),by repeat (first|exact Drawn0.refl _|apply Drawn0.step)⟩
 · rw [if_neg c4] at H
   have c4b0:decide (a1 ≤ a0) = false:=decide_eq_false c4;clear c4;obtain rfl:=Option.some.inj H
   go_enter Tryz.func35,Tryz.ntmps35
   go_wp2
   go_ret
   exact ⟨by first|rfl|(simp;done)|(simp [*];done),by repeat (first|exact Drawn0.refl _|apply Drawn0.step)⟩
def spec_NameOk.l0:Nat → ByteArray → Int → Option (Bool)
 |0,_,_=>none
 |k + 1,x0,x3=>if x3 < (x0.size:Int) then (if 0 ≤ x3 then (if (bt x0 x3) < 97 then (some false) else (if (bt x0 x3) > 122 then (some false) else (spec_NameOk.l0 k x0 (wrap64 (x3 + 1))))) else (none)) else ((spec_l1In.f (x0.size:Int) 1 6).bind fun t170=>(some t170))
def spec_NameOk.f (k:Nat) (a0:ByteArray):Option (Bool):=spec_NameOk.l0 k a0 0
set_option maxHeartbeats 40000000 in
set_option maxRecDepth 100000 in
theorem spec_NameOk.calls (k:Nat) (a0:ByteArray) (r:Bool) (w:World) (h:spec_NameOk.f k a0 = some r) :
 Calls Tryz.prog 108 #[.string a0] w fun e w'=>e = .returned (.bool r) ∧ Drawn0 w w':=by
 have H:(spec_NameOk.l0 k a0 0) = some r:=h;clear h;have H':=As0.mk H;clear H
 go_enter Tryz.func108,Tryz.ntmps108
 go_wp2
 show _;go_loopg [3] k (fun kq v3 w'=>∃ (x3_1:Int),v3 = .int .i64 x3_1 ∧ As0 (spec_NameOk.l0 kq a0 x3_1 = some r) ∧ As0 (kq ≤ k) ∧ Drawn0 w w')
 case atStart=>exact ⟨(0),(by first|rfl|(simp;done)|(simp [*];done)),H',⟨Nat.le_refl _⟩,by repeat (first|exact Drawn0.refl _|apply Drawn0.step)⟩
 case round=>
  clear H'
  try clear c1
  obtain ⟨x3_1,rfl,HA,HK1,⟨m1,rfl⟩⟩:=hrel
  cases gk with
  |zero=>exact absurd HA.out (by simp [spec_NameOk.l0])
  |succ k1=>
   have H:=HA.out;clear HA;simp only [spec_NameOk.l0] at H;by_cases c2:x3_1 < (a0.size:Int)
   · rw [if_pos c2] at H
     have c2b0:decide (x3_1 < (a0.size:Int)) = true:=decide_eq_true c2;clear c2;by_cases c3:0 ≤ x3_1
     · rw [if_pos c3] at H
       have c3b0:decide (0 ≤ x3_1) = true:=decide_eq_true c3;clear c3;by_cases c5:(bt a0 x3_1) < 97
       · rw [if_pos c5] at H
         have c5b0:decide ((bt a0 x3_1) < 97) = true:=decide_eq_true c5;clear c5;obtain rfl:=Option.some.inj H;have p4:0 ≤ (x3_1:Int):=odt;have q4:x3_1 < (a0.size:Int):=odt;have hx4:=bt_at a0 x3_1;replace p4:=eq_true p4;replace q4:=eq_true q4
         go_wp2
         go_ret
         exact ⟨by first|rfl|(simp;done)|(simp [*];done),by repeat (first|exact Drawn0.refl _|apply Drawn0.step)⟩
       · rw [if_neg c5] at H
         have c5b0:decide ((bt a0 x3_1) < 97) = false:=decide_eq_false c5;clear c5;by_cases c7:(bt a0 x3_1) > 122
         · rw [if_pos c7] at H
           have c7b0:decide (122 < (bt a0 x3_1)) = true:=decide_eq_true c7;clear c7;obtain rfl:=Option.some.inj H;have p4:0 ≤ (x3_1:Int):=odt;have q4:x3_1 < (a0.size:Int):=odt;have hx4:=bt_at a0 x3_1;replace p4:=eq_true p4;replace q4:=eq_true q4;have p6:0 ≤ (x3_1:Int):=odt;have q6:x3_1 < (a0.size:Int):=odt;have hx6:=bt_at a0 x3_1;replace p6:=eq_true p6;replace q6:=eq_true q6
           go_wp2
           go_ret
           exact ⟨by first|rfl|(simp;done)|(simp [*];done),by repeat (first|exact Drawn0.refl _|apply Drawn0.step)⟩
         · rw [if_neg c7] at H
           have c7b0:decide (122 < (bt a0 x3_1)) = false:=decide_eq_false c7;clear c7;have H':=As0.mk H;clear H;have p4:0 ≤ (x3_1:Int):=odt;have q4:x3_1 < (a0.size:Int):=odt;have hx4:=bt_at a0 x3_1;replace p4:=eq_true p4;replace q4:=eq_true q4;have p6:0 ≤ (x3_1:Int):=odt;have q6:x3_1 < (a0.size:Int):=odt;have hx6:=bt_at a0 x3_1;replace p6:=eq_true p6;replace q6:=eq_true q6
           go_wp2
           show _;go_roundg k1
           case measure=>have:=HK1.out;omega
           case rel=>exact ⟨(wrap64 (x3_1 + 1)),(by first|rfl|(simp;done)|(simp [*];done)),H',⟨by have:=HK1.out;omega⟩,by repeat (first|exact Drawn0.refl _|apply Drawn0.step)⟩
     · rw [if_neg c3] at H
       exact absurd H (by simp)
   · rw [if_neg c2] at H
     have c2b0:decide (x3_1 < (a0.size:Int)) = false:=decide_eq_false c2;clear c2;replace H:=Option.bind_eq_some_iff.mp H;obtain ⟨t170,A80,H⟩:=H;(try dsimp only at H);have A8:=As0.mk A80;clear A80;obtain rfl:=Option.some.inj H
     go_wp2_with (first|((with_reducible refine gca (f:=35) rfl ?_);refine gL (some 22) Tryz.func35 #[.int .i64 (a0.size:Int),.int .i64 1,.int .i64 6] ?_;(with_reducible refine (spec_l1In.calls (a0.size:Int) 1 6 t170 _ A8.out).mono ?_);rintro e w' ⟨rfl,⟨nd,rfl⟩⟩;refine ⟨_,rfl,?_⟩))
     go_ret
     exact ⟨by first|rfl|(simp;done)|(simp [*];done),by repeat (first|exact Drawn0.refl _|apply Drawn0.step)⟩
end Go.Proofs.YtclgmogfkoinbaaGreatDoor.P
