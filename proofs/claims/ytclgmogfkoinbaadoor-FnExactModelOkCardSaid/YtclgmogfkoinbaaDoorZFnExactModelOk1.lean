/- Functions of the law FnExactModelOk as_ plain Lean functions, and that the machine's calls do what they say. -/
import Derived.Test.YtclgmogfkoinbaaDoorZFnExactModelOk0
import Derived.Test.YtclgmogfkoinbaaDoorZFnExactModelOkW0
import Derived.Deep.Quiet
import Derived.BigQuiet
namespace Go.Proofs.YtclgmogfkoinbaaDoor.P
open Go.RowKit Go.Proofs.YtclgmogfkoinbaaDoorW.PrintWords Go.Proofs.YtclgmogfkoinbaaDoorW.PrintLast Go.Proofs.YtclgmogfkoinbaaDoorW.PrintMore
attribute [local go_sem] max2_int min2_int max_two min_two max_three min_three max_four min_four
set_option linter.unusedVariables false
set_option linter.unusedSimpArgs false
mutual
def spec_SpacesOk.l0:Nat → List (SiS28) → Int → Option (Bool)
 |0,_,_=>none
 |k + 1,x0,x3=>if x3 < (x0.length:Int) then (if 0 ≤ x3 then ((spec_l8Ok.f k ((riS37 x0 x3).f0) ((riS37 x0 x3).f1) ((riS37 x0 x3).f2) ((riS37 x0 x3).f3) ((riS37 x0 x3).f4)).bind fun t140=>(if t140 = true then (if x3 > 0 then (if 0 ≤ (wrap64 (x3 - 1)) then (if (wrap64 (x3 - 1)) < (x0.length:Int) then (if ((Op.bytesLess (((riS37 x0 (wrap64 (x3 - 1))).f0).toList) (((riS37 x0 x3).f0).toList)) = true) then (spec_SpacesOk.l0 k x0 (wrap64 (x3 + 1))) else (some false)) else (none)) else (none)) else (spec_SpacesOk.l0 k x0 (wrap64 (x3 + 1)))) else (some false))) else (none)) else (spec_SpacesOk.l1 k x0 0)
def spec_SpacesOk.l1:Nat → List (SiS28) → Int → Option (Bool)
 |0,_,_=>none
 |k + 1,x0,x4=>if x4 < (x0.length:Int) then (if 0 ≤ x4 then ((spec_l8Up.f k x0 ((riS37 x0 x4).f0)).bind fun t144=>(if (t144.length:Int) > (x0.length:Int) then (some false) else (if 0 ≤ (wrap64 ((t144.length:Int) - 1)) then (if (wrap64 ((t144.length:Int) - 1)) < (t144.length:Int) then (if (rdOf ByteArray.empty t144 (wrap64 ((t144.length:Int) - 1))).toList = ([97,108,108]:List UInt8) then (spec_SpacesOk.l1 k x0 (wrap64 (x4 + 1))) else (some false)) else (none)) else (none)))) else (none)) else ((spec_l1In.f (x0.length:Int) 1 7).bind fun t148=>(if t148 = true then ((spec_l8At.f k x0 (⟨#[97,108,108]⟩:ByteArray)).bind fun t149=>(some (decide (t149 ≥ 0)))) else (some false)))
end
def spec_SpacesOk.f (k:Nat) (l0:List (SiS28)):Option (Bool):=spec_SpacesOk.l0 k l0 0
def spec_SpacesOk.T4:Bool × List (List Nat × List Nat):=(true,[([],[]),([],[]),([0,1],[0,1]),([2],[2]),([3],[3]),([4],[4]),([5,4],[5]),([6],[6]),([7,6],[6,7]),([8,6,6],[6,8]),([9],[9]),([9],[9]),([11,9],[9,11]),([10,12,9],[9,10,12]),([13,9],[9,13]),([14,9],[9,14]),([9],[9]),([9],[9]),([16,17,9],[9,16,17]),([18,9],[9,18]),([19,9],[9,19]),([15,20,9],[9,15,20]),([9,21,6],[6,9,21]),([6,22],[6,22])])
def spec_SpacesOk.B4:List Nat:=[0,0,3,7,15,31,63,127,255,511,1023,1023,3071,8191,16383,32767,1023,1023,197631,459775,984063,2097151,4194303,8388607]
theorem spec_SpacesOk.tab4:rtab .any (opsOf Tryd.f14 4) = spec_SpacesOk.T4:=by kernel_rfl
theorem spec_SpacesOk.bits4:waitsOk spec_SpacesOk.T4.2 spec_SpacesOk.B4 = true:=by kernel_rfl
abbrev spec_SpacesOk.calls.a0:Array Bool:=#[false,false,false,false,false,false,false,false,false,false,false,false,false,false,false,false,false,false,false,false,false,false,false,false]
abbrev spec_SpacesOk.calls.a1:Array Bool:=#[true,false,false,false,false,false,false,false,false,false,false,false,false,false,false,false,false,false,false,false,false,false,false,false]
abbrev spec_SpacesOk.calls.a2:Array Bool:=#[true,true,false,false,false,false,false,false,false,false,false,false,false,false,false,false,false,false,false,false,false,false,false,false]
abbrev spec_SpacesOk.calls.a3:Array Bool:=#[true,true,true,false,false,false,false,false,false,false,false,false,false,false,false,false,false,false,false,false,false,false,false,false]
abbrev spec_SpacesOk.calls.a4:Array Bool:=#[true,true,true,true,false,false,false,false,false,false,false,false,false,false,false,false,false,false,false,false,false,false,false,false]
abbrev spec_SpacesOk.calls.a5:Array Bool:=#[true,true,true,true,true,false,false,false,false,false,false,false,false,false,false,false,false,false,false,false,false,false,false,false]
abbrev spec_SpacesOk.calls.a6:Array Bool:=#[true,true,true,true,true,true,false,false,false,false,false,false,false,false,false,false,false,false,false,false,false,false,false,false]
abbrev spec_SpacesOk.calls.a7:Array Bool:=#[true,true,true,true,true,true,true,false,false,false,false,false,false,false,false,false,false,false,false,false,false,false,false,false]
abbrev spec_SpacesOk.calls.a8:Array Bool:=#[true,true,true,true,true,true,true,true,false,false,false,false,false,false,false,false,false,false,false,false,false,false,false,false]
abbrev spec_SpacesOk.calls.a9:Array Bool:=#[true,true,true,true,true,true,true,true,true,false,false,false,false,false,false,false,false,false,false,false,false,false,false,false]
abbrev spec_SpacesOk.calls.a10:Array Bool:=#[true,true,true,true,true,true,true,true,true,true,false,false,false,false,false,false,false,false,false,false,false,false,false,false]
abbrev spec_SpacesOk.calls.a11:Array Bool:=#[true,true,true,true,true,true,true,true,true,true,true,false,false,false,false,false,false,false,false,false,false,false,false,false]
abbrev spec_SpacesOk.calls.a12:Array Bool:=#[true,true,true,true,true,true,true,true,true,true,true,true,false,false,false,false,false,false,false,false,false,false,false,false]
abbrev spec_SpacesOk.calls.a13:Array Bool:=#[true,true,true,true,true,true,true,true,true,true,true,true,true,false,false,false,false,false,false,false,false,false,false,false]
abbrev spec_SpacesOk.calls.a14:Array Bool:=#[true,true,true,true,true,true,true,true,true,true,true,true,true,true,false,false,false,false,false,false,false,false,false,false]
abbrev spec_SpacesOk.calls.a15:Array Bool:=#[true,true,true,true,true,true,true,true,true,true,true,true,true,true,true,false,false,false,false,false,false,false,false,false]
abbrev spec_SpacesOk.calls.a16:Array Bool:=#[true,true,true,true,true,true,true,true,true,true,true,true,true,true,true,true,true,true,true,true,false,false,false,false]
abbrev spec_SpacesOk.calls.a17:Array Bool:=#[true,true,true,true,true,true,true,true,true,true,true,true,true,true,true,true,true,true,true,true,true,false,false,false]
abbrev spec_SpacesOk.calls.a18:Array Bool:=#[true,true,true,true,true,true,true,true,true,true,true,true,true,true,true,true,true,true,true,true,true,true,false,false]
abbrev spec_SpacesOk.calls.a19:Array Bool:=#[true,true,true,true,true,true,true,true,true,true,true,true,true,true,true,true,true,true,true,true,true,true,true,false]
abbrev spec_SpacesOk.calls.a20:Array Bool:=#[true,true,true,true,true,true,true,true,true,true,true,true,true,true,true,true,true,true,true,true,true,true,true,true]
abbrev spec_SpacesOk.calls.a21:Array Bool:=#[true,true,true,true,true,true,true,true,true,true,true,true,true,true,true,false,true,false,false,false,false,false,false,false]
abbrev spec_SpacesOk.calls.a22:Array Bool:=#[true,true,true,true,true,true,true,true,true,true,true,true,true,true,true,false,true,true,false,false,false,false,false,false]
abbrev spec_SpacesOk.calls.a23:Array Bool:=#[true,true,true,true,true,true,true,true,true,true,true,true,true,true,true,false,true,true,true,false,false,false,false,false]
abbrev spec_SpacesOk.calls.a24:Array Bool:=#[true,true,true,true,true,true,true,true,true,true,true,true,true,true,true,false,true,true,true,true,false,false,false,false]
abbrev spec_SpacesOk.calls.a25:Array Bool:=#[true,true,true,true,true,true,true,true,true,true,true,true,true,true,true,true,false,false,false,false,false,false,false,false]
abbrev spec_SpacesOk.calls.a26:Array Bool:=#[true,true,true,true,true,true,true,true,true,true,true,true,true,true,true,true,true,false,false,false,false,false,false,false]
abbrev spec_SpacesOk.calls.a27:Array Bool:=#[true,true,true,true,true,true,true,true,true,true,true,true,true,true,true,true,true,true,false,false,false,false,false,false]
abbrev spec_SpacesOk.calls.a28:Array Bool:=#[true,true,true,true,true,true,true,true,true,true,true,true,true,true,true,true,true,true,true,false,false,false,false,false]
set_option maxHeartbeats 40000000 in
set_option maxRecDepth 100000 in
theorem spec_SpacesOk.calls (k:Nat) (A0:Option Addr) (c0:Nat) (l0:List (SiS28)) (r:Bool) (w:World) (hr0:Kd.C k47 w A0 l0.length l0) (hc0:l0.length ≤ c0) (h:spec_SpacesOk.f k l0 = some r) :
 Calls Tryd.prog 14 #[.slice A0 l0.length c0] w fun e w'=>e = .returned (.bool r) ∧ Below w.heap.size w w':=by
 have hu47:=Tryd.underlying47;have HR0:=As0.mk hr0;have HC0:=As0.mk hc0;clear hr0 hc0;have HB:=As0.mk (Below.refl w.heap.size w);have H:(spec_SpacesOk.l0 k l0 0) = some r:=h;clear h;have H':=As0.mk H;clear H
 go_enter Tryd.func14,Tryd.ntmps14
 go_wp2
 show _;go_loopg [3] k (fun kq v3 w'=>∃ (x3_1:Int),v3 = .int .i64 x3_1 ∧ As0 (spec_SpacesOk.l0 kq l0 x3_1 = some r) ∧ As0 (kq ≤ k) ∧ As0 (Below w.heap.size w w'))
 case atStart=>exact ⟨(0),(by first|rfl|(simp;done)|(simp [*];done)),H',⟨Nat.le_refl _⟩,⟨by repeat (first|(with_reducible first|exact HB.out|apply bal|apply pbN|apply bd1)|exact HB.out)⟩⟩
 case round=>
  clear H'
  try clear c1
  obtain ⟨x3_1,rfl,HA,HK1,HB⟩:=hrel
  cases gk with
  |zero=>exact absurd HA.out (by simp [spec_SpacesOk.l0])
  |succ k1=>
   have H:=HA.out;clear HA;simp only [spec_SpacesOk.l0] at H;by_cases c2:x3_1 < (l0.length:Int)
   · rw [if_pos c2] at H
     have c2b0:decide (x3_1 < (l0.length:Int)) = true:=decide_eq_true c2;clear c2;by_cases c3:0 ≤ x3_1
     · rw [if_pos c3] at H
       have c3b0:decide (0 ≤ x3_1) = true:=decide_eq_true c3;clear c3;replace H:=Option.bind_eq_some_iff.mp H;obtain ⟨t140,A40,H⟩:=H;(try dsimp only at H);have A4:=As0.mk A40;clear A40;by_cases c5:t140 = true
       · subst c5
         have H1:(if x3_1 > 0 then (if 0 ≤ (wrap64 (x3_1 - 1)) then (if (wrap64 (x3_1 - 1)) < (l0.length:Int) then (if ((Op.bytesLess (((riS37 l0 (wrap64 (x3_1 - 1))).f0).toList) (((riS37 l0 x3_1).f0).toList)) = true) then (spec_SpacesOk.l0 k1 l0 (wrap64 (x3_1 + 1))) else (some false)) else (none)) else (none)) else (spec_SpacesOk.l0 k1 l0 (wrap64 (x3_1 + 1)))) = some r:=by rw [if_pos rfl] at H;exact H
         clear H;have H:=H1;clear H1;by_cases c6:x3_1 > 0
         · rw [if_pos c6] at H
           have c6b0:decide (0 < x3_1) = true:=decide_eq_true c6;clear c6;obtain ⟨ji7,hji7⟩:∃ j_:Int,(wrap64 (x3_1 - 1)) = j_:=⟨_,rfl⟩;replace H:(if 0 ≤ (ji7) then (if (ji7) < (l0.length:Int) then (if ((Op.bytesLess (((riS37 l0 (ji7)).f0).toList) (((riS37 l0 x3_1).f0).toList)) = true) then (spec_SpacesOk.l0 k1 l0 (wrap64 (x3_1 + 1))) else (some false)) else (none)) else (none)) = some r:=by first|(rw [hji7] at H;exact H)|(simp only [hji7] at H ⊢;exact H)
           (try rw [hji7] at A4)
           have hji7w:(IntKind.i64.wrap (x3_1 - 1)) = ji7:=(i64_w _).trans hji7;by_cases c8:0 ≤ (ji7)
           · rw [if_pos c8] at H
             have c8b0:decide (0 ≤ (ji7)) = true:=decide_eq_true c8;clear c8;by_cases c9:(ji7) < (l0.length:Int)
             · rw [if_pos c9] at H
               have c9b0:decide ((ji7) < (l0.length:Int)) = true:=decide_eq_true c9;clear c9;by_cases c10:((Op.bytesLess (((riS37 l0 (ji7)).f0).toList) (((riS37 l0 x3_1).f0).toList)) = true)
               · rw [if_pos c10] at H
                 have c10b0:(Op.bytesLess (((riS37 l0 (ji7)).f0).toList) (((riS37 l0 x3_1).f0).toList)) = true:=c10;clear c10;have H':=As0.mk H;clear H
                 try go_wp2
                 replace HB:=As0.mk (bd1 HB.out);have p139:0 ≤ (x3_1:Int):=odt;have q139:x3_1 < (l0.length:Int):=odt;obtain ⟨ad139,e139,hx139_0,hx139_1,hx139_2,hx139_3,hx139_4⟩:=at_T47 HR0.out x3_1 p139 q139;have hw139_4:=hx139_4;have hw139_3:=hx139_3;have hw139_2:=hx139_2;have hw139_1:=hx139_1;have hw139_0:=hx139_0
                 cases e139
                 replace hx139_0:=bx HB.out rfl hx139_0;replace hx139_1:=bx HB.out rfl hx139_1;replace hx139_2:=bx HB.out rfl hx139_2;replace hx139_3:=bx HB.out rfl hx139_3;replace hx139_4:=bx HB.out rfl hx139_4;replace p139:=eq_true p139;replace q139:=eq_true q139;have p141:0 ≤ ((ji7):Int):=odt;have q141:(ji7) < (l0.length:Int):=odt;obtain ⟨ad141,e141,hx141_0,hx141_1,hx141_2,hx141_3,hx141_4⟩:=at_T47 HR0.out (ji7) p141 q141;have hw141_4:=hx141_4;have hw141_3:=hx141_3;have hw141_2:=hx141_2;have hw141_1:=hx141_1;have hw141_0:=hx141_0;obtain rfl:ad139 = ad141:=(by injection e141);replace hx141_0:=bx HB.out rfl hx141_0;replace hx141_1:=bx HB.out rfl hx141_1;replace hx141_2:=bx HB.out rfl hx141_2;replace hx141_3:=bx HB.out rfl hx141_3;replace hx141_4:=bx HB.out rfl hx141_4;replace p141:=eq_true p141;replace q141:=eq_true q141;have p142:0 ≤ (x3_1:Int):=odt;have q142:x3_1 < (l0.length:Int):=odt;obtain ⟨ad142,e142,hx142_0,hx142_1,hx142_2,hx142_3,hx142_4⟩:=at_T47 HR0.out x3_1 p142 q142;have hw142_4:=hx142_4;have hw142_3:=hx142_3;have hw142_2:=hx142_2;have hw142_1:=hx142_1;have hw142_0:=hx142_0;obtain rfl:ad139 = ad142:=(by injection e142);replace hx142_0:=bx HB.out rfl hx142_0;replace hx142_1:=bx HB.out rfl hx142_1;replace hx142_2:=bx HB.out rfl hx142_2;replace hx142_3:=bx HB.out rfl hx142_3;replace hx142_4:=bx HB.out rfl hx142_4;replace p142:=eq_true p142;replace q142:=eq_true q142;refine start_ (n:=24) (S:=fun w'=>w'.cell? (ad139.add ((x3_1).toNat * 5)) = some (.string ((riS37 l0 x3_1).f0)) ∧ w'.cell? ⟨(ad139.add ((x3_1).toNat * 5)).block,(ad139.add ((x3_1).toNat * 5)).off + 1,none⟩ = some (.string ((riS37 l0 x3_1).f1)) ∧ w'.cell? ⟨(ad139.add ((x3_1).toNat * 5)).block,(ad139.add ((x3_1).toNat * 5)).off + 2,none⟩ = some (.int .i64 ((riS37 l0 x3_1).f2)) ∧ w'.cell? ⟨(ad139.add ((x3_1).toNat * 5)).block,(ad139.add ((x3_1).toNat * 5)).off + 3,none⟩ = some (.bool ((riS37 l0 x3_1).f3)) ∧ w'.cell? ⟨(ad139.add ((x3_1).toNat * 5)).block,(ad139.add ((x3_1).toNat * 5)).off + 4,none⟩ = some (.int .i64 ((riS37 l0 x3_1).f4)) ∧ w'.cell? (ad139.add (((ji7)).toNat * 5)) = some (.string ((riS37 l0 (ji7)).f0)) ∧ w'.cell? ⟨(ad139.add (((ji7)).toNat * 5)).block,(ad139.add (((ji7)).toNat * 5)).off + 1,none⟩ = some (.string ((riS37 l0 (ji7)).f1)) ∧ w'.cell? ⟨(ad139.add (((ji7)).toNat * 5)).block,(ad139.add (((ji7)).toNat * 5)).off + 2,none⟩ = some (.int .i64 ((riS37 l0 (ji7)).f2)) ∧ w'.cell? ⟨(ad139.add (((ji7)).toNat * 5)).block,(ad139.add (((ji7)).toNat * 5)).off + 3,none⟩ = some (.bool ((riS37 l0 (ji7)).f3)) ∧ w'.cell? ⟨(ad139.add (((ji7)).toNat * 5)).block,(ad139.add (((ji7)).toNat * 5)).off + 4,none⟩ = some (.int .i64 ((riS37 l0 (ji7)).f4)) ∧ w'.cell? (ad139.add ((x3_1).toNat * 5)) = some (.string ((riS37 l0 x3_1).f0)) ∧ w'.cell? ⟨(ad139.add ((x3_1).toNat * 5)).block,(ad139.add ((x3_1).toNat * 5)).off + 1,none⟩ = some (.string ((riS37 l0 x3_1).f1)) ∧ w'.cell? ⟨(ad139.add ((x3_1).toNat * 5)).block,(ad139.add ((x3_1).toNat * 5)).off + 2,none⟩ = some (.int .i64 ((riS37 l0 x3_1).f2)) ∧ w'.cell? ⟨(ad139.add ((x3_1).toNat * 5)).block,(ad139.add ((x3_1).toNat * 5)).off + 3,none⟩ = some (.bool ((riS37 l0 x3_1).f3)) ∧ w'.cell? ⟨(ad139.add ((x3_1).toNat * 5)).block,(ad139.add ((x3_1).toNat * 5)).off + 4,none⟩ = some (.int .i64 ((riS37 l0 x3_1).f4))) (ds:=[]) spec_SpacesOk.calls.a0 (by kernel_rfl) rfl rfl ⟨((HB.out.cell (World.block_lt_of_cell? w _ hw139_0)).trans hw139_0),((HB.out.cell (World.block_lt_of_cell? w _ hw139_1)).trans hw139_1),((HB.out.cell (World.block_lt_of_cell? w _ hw139_2)).trans hw139_2),((HB.out.cell (World.block_lt_of_cell? w _ hw139_3)).trans hw139_3),((HB.out.cell (World.block_lt_of_cell? w _ hw139_4)).trans hw139_4),((HB.out.cell (World.block_lt_of_cell? w _ hw141_0)).trans hw141_0),((HB.out.cell (World.block_lt_of_cell? w _ hw141_1)).trans hw141_1),((HB.out.cell (World.block_lt_of_cell? w _ hw141_2)).trans hw141_2),((HB.out.cell (World.block_lt_of_cell? w _ hw141_3)).trans hw141_3),((HB.out.cell (World.block_lt_of_cell? w _ hw141_4)).trans hw141_4),((HB.out.cell (World.block_lt_of_cell? w _ hw142_0)).trans hw142_0),((HB.out.cell (World.block_lt_of_cell? w _ hw142_1)).trans hw142_1),((HB.out.cell (World.block_lt_of_cell? w _ hw142_2)).trans hw142_2),((HB.out.cell (World.block_lt_of_cell? w _ hw142_3)).trans hw142_3),((HB.out.cell (World.block_lt_of_cell? w _ hw142_4)).trans hw142_4)⟩ (fun hHeld=>?_);refine with_tabW spec_SpacesOk.tab4 spec_SpacesOk.bits4 (fun HT_ HW_=>?_);generalize wr.drew = w11 at HB hx139_0 hx139_1 hx139_2 hx139_3 hx139_4 hx141_0 hx141_1 hx141_2 hx141_3 hx141_4 hx142_0 hx142_1 hx142_2 hx142_3 hx142_4 hHeld ⊢
                 refine pu 0 (some 12) spec_SpacesOk.calls.a1 rfl rfl HT_.out ?_;refine pu 1 (some 13) spec_SpacesOk.calls.a2 rfl rfl HT_.out ?_;refine pu 2 (some 14) spec_SpacesOk.calls.a3 rfl rfl HT_.out ?_;refine tk 3 (some 15) spec_SpacesOk.calls.a4 rfl rfl HT_.out HW_.out hHeld (by rintro w' ⟨s0,s1,s2,s3,s4,s5,s6,s7,s8,s9,s10,s11,s12,s13,s14⟩;go_simp;with_reducible rfl) ?_;refine one_ (i:=4) (N:=some 16) spec_SpacesOk.calls.a5 rfl rfl (one_of HT_.out (by kernel_rfl)) (by decide) (fun K hK=>?_);refine goes_ Tryd.func32 (by kernel_rfl) rfl #[.agg #[.string ((riS37 l0 x3_1).f0),.string ((riS37 l0 x3_1).f1),.int .i64 ((riS37 l0 x3_1).f2),.bool ((riS37 l0 x3_1).f3),.int .i64 ((riS37 l0 x3_1).f4)]] (by rfl) rfl rfl (by (try simp only [List.map_toArray,List.map_cons,List.map_nil]);first|done|rfl|(simp only [List.length_drop,List.length_take];rfl)) ?_;with_reducible refine (spec_l8Ok.calls k1 ((riS37 l0 x3_1).f0) ((riS37 l0 x3_1).f1) ((riS37 l0 x3_1).f2) ((riS37 l0 x3_1).f3) ((riS37 l0 x3_1).f4) true _ A4.out).mono ?_
                 rintro e w12 ⟨rfl,hb⟩;refine ⟨_,rfl,?_⟩;replace HB:=As0.mk (b3 HB.out hb)
                    
                    
                    
                    
                 refine hK.out _ _ ⟨((HB.out.cell (World.block_lt_of_cell? w _ hw139_0)).trans hw139_0),((HB.out.cell (World.block_lt_of_cell? w _ hw139_1)).trans hw139_1),((HB.out.cell (World.block_lt_of_cell? w _ hw139_2)).trans hw139_2),((HB.out.cell (World.block_lt_of_cell? w _ hw139_3)).trans hw139_3),((HB.out.cell (World.block_lt_of_cell? w _ hw139_4)).trans hw139_4),((HB.out.cell (World.block_lt_of_cell? w _ hw141_0)).trans hw141_0),((HB.out.cell (World.block_lt_of_cell? w _ hw141_1)).trans hw141_1),((HB.out.cell (World.block_lt_of_cell? w _ hw141_2)).trans hw141_2),((HB.out.cell (World.block_lt_of_cell? w _ hw141_3)).trans hw141_3),((HB.out.cell (World.block_lt_of_cell? w _ hw141_4)).trans hw141_4),((HB.out.cell (World.block_lt_of_cell? w _ hw142_0)).trans hw142_0),((HB.out.cell (World.block_lt_of_cell? w _ hw142_1)).trans hw142_1),((HB.out.cell (World.block_lt_of_cell? w _ hw142_2)).trans hw142_2),((HB.out.cell (World.block_lt_of_cell? w _ hw142_3)).trans hw142_3),((HB.out.cell (World.block_lt_of_cell? w _ hw142_4)).trans hw142_4)⟩ (fun hHeld=>?_);clear hK K;refine norm_ (a':=?_) ?_ ?_;rotate_left
                 · show Act.put _ (some 16) _ = _
                   simp only [Act.put,sA,sZ,sS,i64_w,i32_w];rfl
                 refine pu 5 (some 17) spec_SpacesOk.calls.a6 rfl rfl HT_.out ?_;refine pu 6 (some 18) spec_SpacesOk.calls.a7 rfl rfl HT_.out ?_;refine pu 7 (some 19) spec_SpacesOk.calls.a8 rfl rfl HT_.out ?_;refine pu 8 (some 20) spec_SpacesOk.calls.a9 rfl rfl HT_.out ?_;refine pu 9 (some 21) spec_SpacesOk.calls.a10 rfl rfl HT_.out ?_;refine pu 10 (some 22) spec_SpacesOk.calls.a11 rfl rfl HT_.out ?_;refine pu 11 (some 23) spec_SpacesOk.calls.a12 rfl rfl HT_.out ?_;refine pu 12 (some 24) spec_SpacesOk.calls.a13 rfl rfl HT_.out ?_;refine pu 13 (some 25) spec_SpacesOk.calls.a14 rfl rfl HT_.out ?_;refine pu 14 (some 26) spec_SpacesOk.calls.a15 rfl rfl HT_.out ?_;refine pu 16 (some 28) spec_SpacesOk.calls.a21 rfl rfl HT_.out ?_;refine pu 17 (some 29) spec_SpacesOk.calls.a22 rfl rfl HT_.out ?_;refine pu 18 (some 30) spec_SpacesOk.calls.a23 rfl rfl HT_.out ?_;refine pu 19 (some 31) spec_SpacesOk.calls.a24 rfl rfl HT_.out ?_;refine tk 15 (some 27) spec_SpacesOk.calls.a16 rfl rfl HT_.out HW_.out hHeld (by rintro w' ⟨s0,s1,s2,s3,s4,s5,s6,s7,s8,s9,s10,s11,s12,s13,s14⟩;go_simp;with_reducible rfl) ?_;refine tk 20 (some 32) spec_SpacesOk.calls.a17 rfl rfl HT_.out HW_.out hHeld (by rintro w' ⟨s0,s1,s2,s3,s4,s5,s6,s7,s8,s9,s10,s11,s12,s13,s14⟩;go_simp;with_reducible rfl) ?_;refine pu 21 (some 33) spec_SpacesOk.calls.a18 rfl rfl HT_.out ?_;refine pu 22 (some 34) spec_SpacesOk.calls.a19 rfl rfl HT_.out ?_;refine pu 23 (some 35) spec_SpacesOk.calls.a20 rfl rfl HT_.out ?_;refine done_ (done_of HT_.out (by kernel_rfl)) ?_
                 try go_wp2
                 show _;go_roundg k1
                 case measure=>have:=HK1.out;omega
                 case rel=>exact ⟨(wrap64 (x3_1 + 1)),(by first|rfl|(simp;done)|(simp [*];done)),H',⟨by have:=HK1.out;omega⟩,⟨by repeat (first|(with_reducible first|exact HB.out|apply bal|apply pbN|apply bd1)|exact HB.out)⟩⟩
               · rw [if_neg c10] at H
                 have c10b0:(Op.bytesLess (((riS37 l0 (ji7)).f0).toList) (((riS37 l0 x3_1).f0).toList)) = false:=by simpa using c10
                 clear c10;obtain rfl:=Option.some.inj H
                 try go_wp2
                 replace HB:=As0.mk (bd1 HB.out);have p139:0 ≤ (x3_1:Int):=odt;have q139:x3_1 < (l0.length:Int):=odt;obtain ⟨ad139,e139,hx139_0,hx139_1,hx139_2,hx139_3,hx139_4⟩:=at_T47 HR0.out x3_1 p139 q139;have hw139_4:=hx139_4;have hw139_3:=hx139_3;have hw139_2:=hx139_2;have hw139_1:=hx139_1;have hw139_0:=hx139_0
                 cases e139
                 replace hx139_0:=bx HB.out rfl hx139_0;replace hx139_1:=bx HB.out rfl hx139_1;replace hx139_2:=bx HB.out rfl hx139_2;replace hx139_3:=bx HB.out rfl hx139_3;replace hx139_4:=bx HB.out rfl hx139_4;replace p139:=eq_true p139;replace q139:=eq_true q139;have p141:0 ≤ ((ji7):Int):=odt;have q141:(ji7) < (l0.length:Int):=odt;obtain ⟨ad141,e141,hx141_0,hx141_1,hx141_2,hx141_3,hx141_4⟩:=at_T47 HR0.out (ji7) p141 q141;have hw141_4:=hx141_4;have hw141_3:=hx141_3;have hw141_2:=hx141_2;have hw141_1:=hx141_1;have hw141_0:=hx141_0;obtain rfl:ad139 = ad141:=(by injection e141);replace hx141_0:=bx HB.out rfl hx141_0;replace hx141_1:=bx HB.out rfl hx141_1;replace hx141_2:=bx HB.out rfl hx141_2;replace hx141_3:=bx HB.out rfl hx141_3;replace hx141_4:=bx HB.out rfl hx141_4;replace p141:=eq_true p141;replace q141:=eq_true q141;have p142:0 ≤ (x3_1:Int):=odt;have q142:x3_1 < (l0.length:Int):=odt;obtain ⟨ad142,e142,hx142_0,hx142_1,hx142_2,hx142_3,hx142_4⟩:=at_T47 HR0.out x3_1 p142 q142;have hw142_4:=hx142_4;have hw142_3:=hx142_3;have hw142_2:=hx142_2;have hw142_1:=hx142_1;have hw142_0:=hx142_0;obtain rfl:ad139 = ad142:=(by injection e142);replace hx142_0:=bx HB.out rfl hx142_0;replace hx142_1:=bx HB.out rfl hx142_1;replace hx142_2:=bx HB.out rfl hx142_2;replace hx142_3:=bx HB.out rfl hx142_3;replace hx142_4:=bx HB.out rfl hx142_4;replace p142:=eq_true p142;replace q142:=eq_true q142;refine start_ (n:=24) (S:=fun w'=>w'.cell? (ad139.add ((x3_1).toNat * 5)) = some (.string ((riS37 l0 x3_1).f0)) ∧ w'.cell? ⟨(ad139.add ((x3_1).toNat * 5)).block,(ad139.add ((x3_1).toNat * 5)).off + 1,none⟩ = some (.string ((riS37 l0 x3_1).f1)) ∧ w'.cell? ⟨(ad139.add ((x3_1).toNat * 5)).block,(ad139.add ((x3_1).toNat * 5)).off + 2,none⟩ = some (.int .i64 ((riS37 l0 x3_1).f2)) ∧ w'.cell? ⟨(ad139.add ((x3_1).toNat * 5)).block,(ad139.add ((x3_1).toNat * 5)).off + 3,none⟩ = some (.bool ((riS37 l0 x3_1).f3)) ∧ w'.cell? ⟨(ad139.add ((x3_1).toNat * 5)).block,(ad139.add ((x3_1).toNat * 5)).off + 4,none⟩ = some (.int .i64 ((riS37 l0 x3_1).f4)) ∧ w'.cell? (ad139.add (((ji7)).toNat * 5)) = some (.string ((riS37 l0 (ji7)).f0)) ∧ w'.cell? ⟨(ad139.add (((ji7)).toNat * 5)).block,(ad139.add (((ji7)).toNat * 5)).off + 1,none⟩ = some (.string ((riS37 l0 (ji7)).f1)) ∧ w'.cell? ⟨(ad139.add (((ji7)).toNat * 5)).block,(ad139.add (((ji7)).toNat * 5)).off + 2,none⟩ = some (.int .i64 ((riS37 l0 (ji7)).f2)) ∧ w'.cell? ⟨(ad139.add (((ji7)).toNat * 5)).block,(ad139.add (((ji7)).toNat * 5)).off + 3,none⟩ = some (.bool ((riS37 l0 (ji7)).f3)) ∧ w'.cell? ⟨(ad139.add (((ji7)).toNat * 5)).block,(ad139.add (((ji7)).toNat * 5)).off + 4,none⟩ = some (.int .i64 ((riS37 l0 (ji7)).f4)) ∧ w'.cell? (ad139.add ((x3_1).toNat * 5)) = some (.string ((riS37 l0 x3_1).f0)) ∧ w'.cell? ⟨(ad139.add ((x3_1).toNat * 5)).block,(ad139.add ((x3_1).toNat * 5)).off + 1,none⟩ = some (.string ((riS37 l0 x3_1).f1)) ∧ w'.cell? ⟨(ad139.add ((x3_1).toNat * 5)).block,(ad139.add ((x3_1).toNat * 5)).off + 2,none⟩ = some (.int .i64 ((riS37 l0 x3_1).f2)) ∧ w'.cell? ⟨(ad139.add ((x3_1).toNat * 5)).block,(ad139.add ((x3_1).toNat * 5)).off + 3,none⟩ = some (.bool ((riS37 l0 x3_1).f3)) ∧ w'.cell? ⟨(ad139.add ((x3_1).toNat * 5)).block,(ad139.add ((x3_1).toNat * 5)).off + 4,none⟩ = some (.int .i64 ((riS37 l0 x3_1).f4))) (ds:=[]) spec_SpacesOk.calls.a0 (by kernel_rfl) rfl rfl ⟨((HB.out.cell (World.block_lt_of_cell? w _ hw139_0)).trans hw139_0),((HB.out.cell (World.block_lt_of_cell? w _ hw139_1)).trans hw139_1),((HB.out.cell (World.block_lt_of_cell? w _ hw139_2)).trans hw139_2),((HB.out.cell (World.block_lt_of_cell? w _ hw139_3)).trans hw139_3),((HB.out.cell (World.block_lt_of_cell? w _ hw139_4)).trans hw139_4),((HB.out.cell (World.block_lt_of_cell? w _ hw141_0)).trans hw141_0),((HB.out.cell (World.block_lt_of_cell? w _ hw141_1)).trans hw141_1),((HB.out.cell (World.block_lt_of_cell? w _ hw141_2)).trans hw141_2),((HB.out.cell (World.block_lt_of_cell? w _ hw141_3)).trans hw141_3),((HB.out.cell (World.block_lt_of_cell? w _ hw141_4)).trans hw141_4),((HB.out.cell (World.block_lt_of_cell? w _ hw142_0)).trans hw142_0),((HB.out.cell (World.block_lt_of_cell? w _ hw142_1)).trans hw142_1),((HB.out.cell (World.block_lt_of_cell? w _ hw142_2)).trans hw142_2),((HB.out.cell (World.block_lt_of_cell? w _ hw142_3)).trans hw142_3),((HB.out.cell (World.block_lt_of_cell? w _ hw142_4)).trans hw142_4)⟩ (fun hHeld=>?_);refine with_tabW spec_SpacesOk.tab4 spec_SpacesOk.bits4 (fun HT_ HW_=>?_);generalize wr.drew = w13 at HB hx139_0 hx139_1 hx139_2 hx139_3 hx139_4 hx141_0 hx141_1 hx141_2 hx141_3 hx141_4 hx142_0 hx142_1 hx142_2 hx142_3 hx142_4 hHeld ⊢
                 refine pu 0 (some 12) spec_SpacesOk.calls.a1 rfl rfl HT_.out ?_;refine pu 1 (some 13) spec_SpacesOk.calls.a2 rfl rfl HT_.out ?_;refine pu 2 (some 14) spec_SpacesOk.calls.a3 rfl rfl HT_.out ?_;refine tk 3 (some 15) spec_SpacesOk.calls.a4 rfl rfl HT_.out HW_.out hHeld (by rintro w' ⟨s0,s1,s2,s3,s4,s5,s6,s7,s8,s9,s10,s11,s12,s13,s14⟩;go_simp;with_reducible rfl) ?_;refine one_ (i:=4) (N:=some 16) spec_SpacesOk.calls.a5 rfl rfl (one_of HT_.out (by kernel_rfl)) (by decide) (fun K hK=>?_);refine goes_ Tryd.func32 (by kernel_rfl) rfl #[.agg #[.string ((riS37 l0 x3_1).f0),.string ((riS37 l0 x3_1).f1),.int .i64 ((riS37 l0 x3_1).f2),.bool ((riS37 l0 x3_1).f3),.int .i64 ((riS37 l0 x3_1).f4)]] (by rfl) rfl rfl (by (try simp only [List.map_toArray,List.map_cons,List.map_nil]);first|done|rfl|(simp only [List.length_drop,List.length_take];rfl)) ?_;with_reducible refine (spec_l8Ok.calls k1 ((riS37 l0 x3_1).f0) ((riS37 l0 x3_1).f1) ((riS37 l0 x3_1).f2) ((riS37 l0 x3_1).f3) ((riS37 l0 x3_1).f4) true _ A4.out).mono ?_
                 rintro e w14 ⟨rfl,hb⟩;refine ⟨_,rfl,?_⟩;replace HB:=As0.mk (b3 HB.out hb)
                    
                    
                    
                    
                 refine hK.out _ _ ⟨((HB.out.cell (World.block_lt_of_cell? w _ hw139_0)).trans hw139_0),((HB.out.cell (World.block_lt_of_cell? w _ hw139_1)).trans hw139_1),((HB.out.cell (World.block_lt_of_cell? w _ hw139_2)).trans hw139_2),((HB.out.cell (World.block_lt_of_cell? w _ hw139_3)).trans hw139_3),((HB.out.cell (World.block_lt_of_cell? w _ hw139_4)).trans hw139_4),((HB.out.cell (World.block_lt_of_cell? w _ hw141_0)).trans hw141_0),((HB.out.cell (World.block_lt_of_cell? w _ hw141_1)).trans hw141_1),((HB.out.cell (World.block_lt_of_cell? w _ hw141_2)).trans hw141_2),((HB.out.cell (World.block_lt_of_cell? w _ hw141_3)).trans hw141_3),((HB.out.cell (World.block_lt_of_cell? w _ hw141_4)).trans hw141_4),((HB.out.cell (World.block_lt_of_cell? w _ hw142_0)).trans hw142_0),((HB.out.cell (World.block_lt_of_cell? w _ hw142_1)).trans hw142_1),((HB.out.cell (World.block_lt_of_cell? w _ hw142_2)).trans hw142_2),((HB.out.cell (World.block_lt_of_cell? w _ hw142_3)).trans hw142_3),((HB.out.cell (World.block_lt_of_cell? w _ hw142_4)).trans hw142_4)⟩ (fun hHeld=>?_);clear hK K;refine norm_ (a':=?_) ?_ ?_;rotate_left
                 · show Act.put _ (some 16) _ = _
                   simp only [Act.put,sA,sZ,sS,i64_w,i32_w];rfl
                 refine pu 5 (some 17) spec_SpacesOk.calls.a6 rfl rfl HT_.out ?_;refine pu 6 (some 18) spec_SpacesOk.calls.a7 rfl rfl HT_.out ?_;refine pu 7 (some 19) spec_SpacesOk.calls.a8 rfl rfl HT_.out ?_;refine pu 8 (some 20) spec_SpacesOk.calls.a9 rfl rfl HT_.out ?_;refine pu 9 (some 21) spec_SpacesOk.calls.a10 rfl rfl HT_.out ?_;refine pu 10 (some 22) spec_SpacesOk.calls.a11 rfl rfl HT_.out ?_;refine pu 11 (some 23) spec_SpacesOk.calls.a12 rfl rfl HT_.out ?_;refine pu 12 (some 24) spec_SpacesOk.calls.a13 rfl rfl HT_.out ?_;refine pu 13 (some 25) spec_SpacesOk.calls.a14 rfl rfl HT_.out ?_;refine pu 14 (some 26) spec_SpacesOk.calls.a15 rfl rfl HT_.out ?_;refine pu 16 (some 28) spec_SpacesOk.calls.a21 rfl rfl HT_.out ?_;refine pu 17 (some 29) spec_SpacesOk.calls.a22 rfl rfl HT_.out ?_;refine pu 18 (some 30) spec_SpacesOk.calls.a23 rfl rfl HT_.out ?_;refine pu 19 (some 31) spec_SpacesOk.calls.a24 rfl rfl HT_.out ?_;refine tk 15 (some 27) spec_SpacesOk.calls.a16 rfl rfl HT_.out HW_.out hHeld (by rintro w' ⟨s0,s1,s2,s3,s4,s5,s6,s7,s8,s9,s10,s11,s12,s13,s14⟩;go_simp;with_reducible rfl) ?_;refine tk 20 (some 32) spec_SpacesOk.calls.a17 rfl rfl HT_.out HW_.out hHeld (by rintro w' ⟨s0,s1,s2,s3,s4,s5,s6,s7,s8,s9,s10,s11,s12,s13,s14⟩;go_simp;with_reducible rfl) ?_;refine pu 21 (some 33) spec_SpacesOk.calls.a18 rfl rfl HT_.out ?_;refine pu 22 (some 34) spec_SpacesOk.calls.a19 rfl rfl HT_.out ?_;refine pu 23 (some 35) spec_SpacesOk.calls.a20 rfl rfl HT_.out ?_;refine done_ (done_of HT_.out (by kernel_rfl)) ?_
                 try go_wp2
                 go_ret
                 exact ⟨by first|rfl|(simp [errW_none,errW_some] <;> rfl)|(simp only [← hji7];first|rfl|(simp [errW_none,errW_some] <;> rfl))|(simp [*,errW_none,errW_some] <;> rfl),by repeat (first|(with_reducible first|exact HB.out|apply bal|apply pbN|apply bd1)|exact HB.out)⟩
             · rw [if_neg c9] at H
               exact absurd H (by simp)
           · rw [if_neg c8] at H
             exact absurd H (by simp)
         · rw [if_neg c6] at H
           have c6b0:decide (0 < x3_1) = false:=decide_eq_false c6;clear c6;have H':=As0.mk H;clear H
           try go_wp2
           replace HB:=As0.mk (bd1 HB.out);have p139:0 ≤ (x3_1:Int):=odt;have q139:x3_1 < (l0.length:Int):=odt;obtain ⟨ad139,e139,hx139_0,hx139_1,hx139_2,hx139_3,hx139_4⟩:=at_T47 HR0.out x3_1 p139 q139;have hw139_4:=hx139_4;have hw139_3:=hx139_3;have hw139_2:=hx139_2;have hw139_1:=hx139_1;have hw139_0:=hx139_0
           cases e139
           replace hx139_0:=bx HB.out rfl hx139_0;replace hx139_1:=bx HB.out rfl hx139_1;replace hx139_2:=bx HB.out rfl hx139_2;replace hx139_3:=bx HB.out rfl hx139_3;replace hx139_4:=bx HB.out rfl hx139_4;replace p139:=eq_true p139;replace q139:=eq_true q139;refine start_ (n:=24) (S:=fun w'=>w'.cell? (ad139.add ((x3_1).toNat * 5)) = some (.string ((riS37 l0 x3_1).f0)) ∧ w'.cell? ⟨(ad139.add ((x3_1).toNat * 5)).block,(ad139.add ((x3_1).toNat * 5)).off + 1,none⟩ = some (.string ((riS37 l0 x3_1).f1)) ∧ w'.cell? ⟨(ad139.add ((x3_1).toNat * 5)).block,(ad139.add ((x3_1).toNat * 5)).off + 2,none⟩ = some (.int .i64 ((riS37 l0 x3_1).f2)) ∧ w'.cell? ⟨(ad139.add ((x3_1).toNat * 5)).block,(ad139.add ((x3_1).toNat * 5)).off + 3,none⟩ = some (.bool ((riS37 l0 x3_1).f3)) ∧ w'.cell? ⟨(ad139.add ((x3_1).toNat * 5)).block,(ad139.add ((x3_1).toNat * 5)).off + 4,none⟩ = some (.int .i64 ((riS37 l0 x3_1).f4))) (ds:=[]) spec_SpacesOk.calls.a0 (by kernel_rfl) rfl rfl ⟨((HB.out.cell (World.block_lt_of_cell? w _ hw139_0)).trans hw139_0),((HB.out.cell (World.block_lt_of_cell? w _ hw139_1)).trans hw139_1),((HB.out.cell (World.block_lt_of_cell? w _ hw139_2)).trans hw139_2),((HB.out.cell (World.block_lt_of_cell? w _ hw139_3)).trans hw139_3),((HB.out.cell (World.block_lt_of_cell? w _ hw139_4)).trans hw139_4)⟩ (fun hHeld=>?_);refine with_tabW spec_SpacesOk.tab4 spec_SpacesOk.bits4 (fun HT_ HW_=>?_);generalize wr.drew = w15 at HB hx139_0 hx139_1 hx139_2 hx139_3 hx139_4 hHeld ⊢
           refine pu 0 (some 12) spec_SpacesOk.calls.a1 rfl rfl HT_.out ?_;refine pu 1 (some 13) spec_SpacesOk.calls.a2 rfl rfl HT_.out ?_;refine pu 2 (some 14) spec_SpacesOk.calls.a3 rfl rfl HT_.out ?_;refine tk 3 (some 15) spec_SpacesOk.calls.a4 rfl rfl HT_.out HW_.out hHeld (by rintro w' ⟨s0,s1,s2,s3,s4⟩;go_simp;with_reducible rfl) ?_;refine one_ (i:=4) (N:=some 16) spec_SpacesOk.calls.a5 rfl rfl (one_of HT_.out (by kernel_rfl)) (by decide) (fun K hK=>?_);refine goes_ Tryd.func32 (by kernel_rfl) rfl #[.agg #[.string ((riS37 l0 x3_1).f0),.string ((riS37 l0 x3_1).f1),.int .i64 ((riS37 l0 x3_1).f2),.bool ((riS37 l0 x3_1).f3),.int .i64 ((riS37 l0 x3_1).f4)]] (by rfl) rfl rfl (by (try simp only [List.map_toArray,List.map_cons,List.map_nil]);first|done|rfl|(simp only [List.length_drop,List.length_take];rfl)) ?_;with_reducible refine (spec_l8Ok.calls k1 ((riS37 l0 x3_1).f0) ((riS37 l0 x3_1).f1) ((riS37 l0 x3_1).f2) ((riS37 l0 x3_1).f3) ((riS37 l0 x3_1).f4) true _ A4.out).mono ?_
           rintro e w16 ⟨rfl,hb⟩;refine ⟨_,rfl,?_⟩;replace HB:=As0.mk (b3 HB.out hb)
              
              
              
              
           refine hK.out _ _ ⟨((HB.out.cell (World.block_lt_of_cell? w _ hw139_0)).trans hw139_0),((HB.out.cell (World.block_lt_of_cell? w _ hw139_1)).trans hw139_1),((HB.out.cell (World.block_lt_of_cell? w _ hw139_2)).trans hw139_2),((HB.out.cell (World.block_lt_of_cell? w _ hw139_3)).trans hw139_3),((HB.out.cell (World.block_lt_of_cell? w _ hw139_4)).trans hw139_4)⟩ (fun hHeld=>?_);clear hK K;refine norm_ (a':=?_) ?_ ?_;rotate_left
           · show Act.put _ (some 16) _ = _
             simp only [Act.put,sA,sZ,sS,i64_w,i32_w];rfl
           refine pu 5 (some 17) spec_SpacesOk.calls.a6 rfl rfl HT_.out ?_;refine pu 6 (some 18) spec_SpacesOk.calls.a7 rfl rfl HT_.out ?_;refine pu 7 (some 19) spec_SpacesOk.calls.a8 rfl rfl HT_.out ?_;refine pu 8 (some 20) spec_SpacesOk.calls.a9 rfl rfl HT_.out ?_;refine pu 9 (some 21) spec_SpacesOk.calls.a10 rfl rfl HT_.out ?_;refine pn 10 (some 22) spec_SpacesOk.calls.a11 rfl rfl HT_.out ?_;refine pn 11 (some 23) spec_SpacesOk.calls.a12 rfl rfl HT_.out ?_;refine pn 12 (some 24) spec_SpacesOk.calls.a13 rfl rfl HT_.out ?_;refine pn 13 (some 25) spec_SpacesOk.calls.a14 rfl rfl HT_.out ?_;refine pn 14 (some 26) spec_SpacesOk.calls.a15 rfl rfl HT_.out ?_;refine pn 15 (some 27) spec_SpacesOk.calls.a25 rfl rfl HT_.out ?_;refine pn 16 (some 28) spec_SpacesOk.calls.a26 rfl rfl HT_.out ?_;refine pn 17 (some 29) spec_SpacesOk.calls.a27 rfl rfl HT_.out ?_;refine pn 18 (some 30) spec_SpacesOk.calls.a28 rfl rfl HT_.out ?_;refine pn 19 (some 31) spec_SpacesOk.calls.a16 rfl rfl HT_.out ?_;refine pn 20 (some 32) spec_SpacesOk.calls.a17 rfl rfl HT_.out ?_;refine pn 21 (some 33) spec_SpacesOk.calls.a18 rfl rfl HT_.out ?_;refine pu 22 (some 34) spec_SpacesOk.calls.a19 rfl rfl HT_.out ?_;refine pu 23 (some 35) spec_SpacesOk.calls.a20 rfl rfl HT_.out ?_;refine done_ (done_of HT_.out (by kernel_rfl)) ?_
           try go_wp2
           show _;go_roundg k1
           case measure=>have:=HK1.out;omega
           case rel=>exact ⟨(wrap64 (x3_1 + 1)),(by first|rfl|(simp;done)|(simp [*];done)),H',⟨by have:=HK1.out;omega⟩,⟨by repeat (first|(with_reducible first|exact HB.out|apply bal|apply pbN|apply bd1)|exact HB.out)⟩⟩
       · replace c5:=Bool.eq_false_iff.mpr c5
         subst c5;have H1:(some false) = some r:=by rw [if_neg (show ¬ (false = true) by decide)] at H;exact H
         clear H;have H:=H1;clear H1;obtain rfl:=Option.some.inj H
         try go_wp2
         replace HB:=As0.mk (bd1 HB.out);have p139:0 ≤ (x3_1:Int):=odt;have q139:x3_1 < (l0.length:Int):=odt;obtain ⟨ad139,e139,hx139_0,hx139_1,hx139_2,hx139_3,hx139_4⟩:=at_T47 HR0.out x3_1 p139 q139;have hw139_4:=hx139_4;have hw139_3:=hx139_3;have hw139_2:=hx139_2;have hw139_1:=hx139_1;have hw139_0:=hx139_0
         cases e139
         replace hx139_0:=bx HB.out rfl hx139_0;replace hx139_1:=bx HB.out rfl hx139_1;replace hx139_2:=bx HB.out rfl hx139_2;replace hx139_3:=bx HB.out rfl hx139_3;replace hx139_4:=bx HB.out rfl hx139_4;replace p139:=eq_true p139;replace q139:=eq_true q139;refine start_ (n:=24) (S:=fun w'=>w'.cell? (ad139.add ((x3_1).toNat * 5)) = some (.string ((riS37 l0 x3_1).f0)) ∧ w'.cell? ⟨(ad139.add ((x3_1).toNat * 5)).block,(ad139.add ((x3_1).toNat * 5)).off + 1,none⟩ = some (.string ((riS37 l0 x3_1).f1)) ∧ w'.cell? ⟨(ad139.add ((x3_1).toNat * 5)).block,(ad139.add ((x3_1).toNat * 5)).off + 2,none⟩ = some (.int .i64 ((riS37 l0 x3_1).f2)) ∧ w'.cell? ⟨(ad139.add ((x3_1).toNat * 5)).block,(ad139.add ((x3_1).toNat * 5)).off + 3,none⟩ = some (.bool ((riS37 l0 x3_1).f3)) ∧ w'.cell? ⟨(ad139.add ((x3_1).toNat * 5)).block,(ad139.add ((x3_1).toNat * 5)).off + 4,none⟩ = some (.int .i64 ((riS37 l0 x3_1).f4))) (ds:=[]) spec_SpacesOk.calls.a0 (by kernel_rfl) rfl rfl ⟨((HB.out.cell (World.block_lt_of_cell? w _ hw139_0)).trans hw139_0),((HB.out.cell (World.block_lt_of_cell? w _ hw139_1)).trans hw139_1),((HB.out.cell (World.block_lt_of_cell? w _ hw139_2)).trans hw139_2),((HB.out.cell (World.block_lt_of_cell? w _ hw139_3)).trans hw139_3),((HB.out.cell (World.block_lt_of_cell? w _ hw139_4)).trans hw139_4)⟩ (fun hHeld=>?_);refine with_tabW spec_SpacesOk.tab4 spec_SpacesOk.bits4 (fun HT_ HW_=>?_);generalize wr.drew = w17 at HB hx139_0 hx139_1 hx139_2 hx139_3 hx139_4 hHeld ⊢
         refine pu 0 (some 12) spec_SpacesOk.calls.a1 rfl rfl HT_.out ?_;refine pu 1 (some 13) spec_SpacesOk.calls.a2 rfl rfl HT_.out ?_;refine pu 2 (some 14) spec_SpacesOk.calls.a3 rfl rfl HT_.out ?_;refine tk 3 (some 15) spec_SpacesOk.calls.a4 rfl rfl HT_.out HW_.out hHeld (by rintro w' ⟨s0,s1,s2,s3,s4⟩;go_simp;with_reducible rfl) ?_;refine one_ (i:=4) (N:=some 16) spec_SpacesOk.calls.a5 rfl rfl (one_of HT_.out (by kernel_rfl)) (by decide) (fun K hK=>?_);refine goes_ Tryd.func32 (by kernel_rfl) rfl #[.agg #[.string ((riS37 l0 x3_1).f0),.string ((riS37 l0 x3_1).f1),.int .i64 ((riS37 l0 x3_1).f2),.bool ((riS37 l0 x3_1).f3),.int .i64 ((riS37 l0 x3_1).f4)]] (by rfl) rfl rfl (by (try simp only [List.map_toArray,List.map_cons,List.map_nil]);first|done|rfl|(simp only [List.length_drop,List.length_take];rfl)) ?_;with_reducible refine (spec_l8Ok.calls k1 ((riS37 l0 x3_1).f0) ((riS37 l0 x3_1).f1) ((riS37 l0 x3_1).f2) ((riS37 l0 x3_1).f3) ((riS37 l0 x3_1).f4) false _ A4.out).mono ?_
         rintro e w18 ⟨rfl,hb⟩;refine ⟨_,rfl,?_⟩;replace HB:=As0.mk (b3 HB.out hb)
            
            
            
            
         refine hK.out _ _ ⟨((HB.out.cell (World.block_lt_of_cell? w _ hw139_0)).trans hw139_0),((HB.out.cell (World.block_lt_of_cell? w _ hw139_1)).trans hw139_1),((HB.out.cell (World.block_lt_of_cell? w _ hw139_2)).trans hw139_2),((HB.out.cell (World.block_lt_of_cell? w _ hw139_3)).trans hw139_3),((HB.out.cell (World.block_lt_of_cell? w _ hw139_4)).trans hw139_4)⟩ (fun hHeld=>?_);clear hK K;refine norm_ (a':=?_) ?_ ?_;rotate_left
         · show Act.put _ (some 16) _ = _
           simp only [Act.put,sA,sZ,sS,i64_w,i32_w];rfl
         refine pu 5 (some 17) spec_SpacesOk.calls.a6 rfl rfl HT_.out ?_;refine pu 6 (some 18) spec_SpacesOk.calls.a7 rfl rfl HT_.out ?_;refine pn 7 (some 19) spec_SpacesOk.calls.a8 rfl rfl HT_.out ?_;refine pn 8 (some 20) spec_SpacesOk.calls.a9 rfl rfl HT_.out ?_;refine pn 9 (some 21) spec_SpacesOk.calls.a10 rfl rfl HT_.out ?_;refine pn 10 (some 22) spec_SpacesOk.calls.a11 rfl rfl HT_.out ?_;refine pn 11 (some 23) spec_SpacesOk.calls.a12 rfl rfl HT_.out ?_;refine pn 12 (some 24) spec_SpacesOk.calls.a13 rfl rfl HT_.out ?_;refine pn 13 (some 25) spec_SpacesOk.calls.a14 rfl rfl HT_.out ?_;refine pn 14 (some 26) spec_SpacesOk.calls.a15 rfl rfl HT_.out ?_;refine pn 15 (some 27) spec_SpacesOk.calls.a25 rfl rfl HT_.out ?_;refine pn 16 (some 28) spec_SpacesOk.calls.a26 rfl rfl HT_.out ?_;refine pn 17 (some 29) spec_SpacesOk.calls.a27 rfl rfl HT_.out ?_;refine pn 18 (some 30) spec_SpacesOk.calls.a28 rfl rfl HT_.out ?_;refine pn 19 (some 31) spec_SpacesOk.calls.a16 rfl rfl HT_.out ?_;refine pn 20 (some 32) spec_SpacesOk.calls.a17 rfl rfl HT_.out ?_;refine pn 21 (some 33) spec_SpacesOk.calls.a18 rfl rfl HT_.out ?_;refine pn 22 (some 34) spec_SpacesOk.calls.a19 rfl rfl HT_.out ?_;refine pu 23 (some 35) spec_SpacesOk.calls.a20 rfl rfl HT_.out ?_;refine done_ (done_of HT_.out (by kernel_rfl)) ?_
         try go_wp2
         go_ret
         exact ⟨eW,by repeat (first|(with_reducible first|exact HB.out|apply bal|apply pbN|apply bd1)|exact HB.out)⟩
     · rw [if_neg c3] at H
       exact absurd H (by simp)
   · rw [if_neg c2] at H
     have c2b0:decide (x3_1 < (l0.length:Int)) = false:=decide_eq_false c2;clear c2;have H':=As0.mk H;clear H
     go_wp2
     show _;go_loopg [4] k1 (fun kq v4 w'=>∃ (x4_2:Int),v4 = .int .i64 x4_2 ∧ As0 (spec_SpacesOk.l1 kq l0 x4_2 = some r) ∧ As0 (kq ≤ k1) ∧ As0 (Below w.heap.size w w'))
     case atStart=>exact ⟨(0),(by first|rfl|(simp;done)|(simp [*];done)),H',⟨Nat.le_refl _⟩,⟨by repeat (first|(with_reducible first|exact HB.out|apply bal|apply pbN|apply bd1)|exact HB.out)⟩⟩
     case round=>
      clear H'
      try clear p1
      try clear q1
      try clear hx1
      try clear c2
      try clear c2b0
      try clear p2
      try clear c3
      try clear c5
      try clear c6
      try clear c6b0
      try clear p6
      try clear c8
      try clear c9
      try clear p13
      try clear q13
      try clear hx13
      try clear p14
      try clear q14
      try clear hx14
      try clear hx139_0
      try clear hx139_1
      try clear hx139_2
      try clear hx139_3
      try clear hx139_4
      try clear hx141_0
      try clear hx141_1
      try clear hx141_2
      try clear hx141_3
      try clear hx141_4
      try clear hx142_0
      try clear hx142_1
      try clear hx142_2
      try clear hx142_3
      try clear hx142_4
      try clear p139
      try clear p142
      try clear q139
      try clear q142
      obtain ⟨x4_2,rfl,HA,HK2,HB⟩:=hrel
      cases gk with
      |zero=>exact absurd HA.out (by simp [spec_SpacesOk.l1])
      |succ k2=>
       have H:=HA.out;clear HA;simp only [spec_SpacesOk.l1] at H;by_cases c19:x4_2 < (l0.length:Int)
       · rw [if_pos c19] at H
         have c19b0:decide (x4_2 < (l0.length:Int)) = true:=decide_eq_true c19;clear c19;by_cases c20:0 ≤ x4_2
         · rw [if_pos c20] at H
           have c20b0:decide (0 ≤ x4_2) = true:=decide_eq_true c20;clear c20;replace H:=Option.bind_eq_some_iff.mp H;obtain ⟨t144,A210,H⟩:=H;(try dsimp only at H);have A21:=As0.mk A210;clear A210;by_cases c22:(t144.length:Int) > (l0.length:Int)
           · rw [if_pos c22] at H
             have c22b0:decide ((l0.length:Int) < (t144.length:Int)) = true:=decide_eq_true c22;have c22b1:decide (l0.length < t144.length) = true:=decide_eq_true (Int.ofNat_lt.mp c22);clear c22;obtain rfl:=Option.some.inj H;have p143:0 ≤ (x4_2:Int):=odt;have q143:x4_2 < (l0.length:Int):=odt;obtain ⟨ad143,e143,hx143_0,hx143_1,hx143_2,hx143_3,hx143_4⟩:=at_T47 HR0.out x4_2 p143 q143
             cases e143
             replace hx143_0:=bx HB.out rfl hx143_0;replace hx143_1:=bx HB.out rfl hx143_1;replace hx143_2:=bx HB.out rfl hx143_2;replace hx143_3:=bx HB.out rfl hx143_3;replace hx143_4:=bx HB.out rfl hx143_4;replace p143:=eq_true p143;replace q143:=eq_true q143
             go_wp2_with (first|((with_reducible refine gca (f:=33) rfl ?_);refine gL (some 48) Tryd.func33 #[.slice (some ad143) l0.length c0,.string ((riS37 l0 x4_2).f0)] ?_;(with_reducible refine (spec_l8Up.calls k2 _ _ l0 ((riS37 l0 x4_2).f0) t144 _ ?side1 ?side2 A21.out).mono ?_);(case side1=>repeat (first|exact (Kd.C_below HR0.out HB.out)|(with_reducible first|refine Kd.C_alloc ?_ _|refine Kd.C_drewN ?_ _|refine Kd.C_drew ?_)));(case side2=>exact HC0.out);rintro e w23 ⟨v145,rfl,ho0,hb⟩;refine ⟨_,rfl,?_⟩;have HO146:=As0.mk (Kd.R_lower ho0 (bsz (by repeat (first|(with_reducible first|exact HB.out|apply bal|apply pbN|apply bd1)|exact HB.out))));replace HB:=As0.mk (b3 HB.out hb);clear hb ho0;obtain ⟨Ao24,co24,eo24⟩:=Kd.R_slice HO146.out;subst eo24))
             go_ret
             exact ⟨eW,by repeat (first|(with_reducible first|exact HB.out|apply bal|apply pbN|apply bd1)|exact HB.out)⟩
           · rw [if_neg c22] at H
             have c22b0:decide ((l0.length:Int) < (t144.length:Int)) = false:=decide_eq_false c22;have c22b1:decide (l0.length < t144.length) = false:=decide_eq_false (fun h=>c22 (Int.ofNat_lt.mpr h));clear c22;obtain ⟨ji25,hji25⟩:∃ j_:Int,(wrap64 ((t144.length:Int) - 1)) = j_:=⟨_,rfl⟩;replace H:(if 0 ≤ (ji25) then (if (ji25) < (t144.length:Int) then (if (rdOf ByteArray.empty t144 (ji25)).toList = ([97,108,108]:List UInt8) then (spec_SpacesOk.l1 k2 l0 (wrap64 (x4_2 + 1))) else (some false)) else (none)) else (none)) = some r:=by first|(rw [hji25] at H;exact H)|(simp only [hji25] at H ⊢;exact H)
             (try rw [hji25] at A21)
             have hji25w:(IntKind.i64.wrap ((t144.length:Int) - 1)) = ji25:=(i64_w _).trans hji25;by_cases c26:0 ≤ (ji25)
             · rw [if_pos c26] at H
               have c26b0:decide (0 ≤ (ji25)) = true:=decide_eq_true c26;clear c26;by_cases c27:(ji25) < (t144.length:Int)
               · rw [if_pos c27] at H
                 have c27b0:decide ((ji25) < (t144.length:Int)) = true:=decide_eq_true c27;clear c27;by_cases c28:(rdOf ByteArray.empty t144 (ji25)).toList = ([97,108,108]:List UInt8)
                 · rw [if_pos c28] at H
                   have c28b0:((rdOf ByteArray.empty t144 (ji25)).toList == ([97,108,108]:List UInt8)) = true:=beq_iff_eq.mpr c28;have c28b1:((rdOf ByteArray.empty t144 (ji25)).toList != ([97,108,108]:List UInt8)) = false:=bne_eq_false_iff_eq.mpr c28;clear c28;have H':=As0.mk H;clear H;have p143:0 ≤ (x4_2:Int):=odt;have q143:x4_2 < (l0.length:Int):=odt;obtain ⟨ad143,e143,hx143_0,hx143_1,hx143_2,hx143_3,hx143_4⟩:=at_T47 HR0.out x4_2 p143 q143
                   cases e143
                   replace hx143_0:=bx HB.out rfl hx143_0;replace hx143_1:=bx HB.out rfl hx143_1;replace hx143_2:=bx HB.out rfl hx143_2;replace hx143_3:=bx HB.out rfl hx143_3;replace hx143_4:=bx HB.out rfl hx143_4;replace p143:=eq_true p143;replace q143:=eq_true q143
                   go_wp2_with (first|((with_reducible refine gca (f:=33) rfl ?_);refine gL (some 48) Tryd.func33 #[.slice (some ad143) l0.length c0,.string ((riS37 l0 x4_2).f0)] ?_;(with_reducible refine (spec_l8Up.calls k2 _ _ l0 ((riS37 l0 x4_2).f0) t144 _ ?side1 ?side2 A21.out).mono ?_);(case side1=>repeat (first|exact (Kd.C_below HR0.out HB.out)|(with_reducible first|refine Kd.C_alloc ?_ _|refine Kd.C_drewN ?_ _|refine Kd.C_drew ?_)));(case side2=>exact HC0.out);rintro e w29 ⟨v145,rfl,ho0,hb⟩;refine ⟨_,rfl,?_⟩;have HO146:=As0.mk (Kd.R_lower ho0 (bsz (by repeat (first|(with_reducible first|exact HB.out|apply bal|apply pbN|apply bd1)|exact HB.out))));replace HB:=As0.mk (b3 HB.out hb);clear hb ho0;obtain ⟨Ao30,co30,eo30⟩:=Kd.R_slice HO146.out;subst eo30;have p147:0 ≤ ((ji25):Int):=odt;have q147:(ji25) < (t144.length:Int):=odt;obtain ⟨ad147,e147,hx147_0⟩:=Kd.at_string (Kd.R_reads' HO146.out).2.2 (ji25) p147 q147;cases e147;replace p147:=eq_true p147;replace q147:=eq_true q147))
                   show _;go_roundg k2
                   case measure=>have:=HK1.out;have:=HK2.out;omega
                   case rel=>exact ⟨(wrap64 (x4_2 + 1)),(by first|rfl|(simp;done)|(simp [*];done)),H',⟨by have:=HK1.out;have:=HK2.out;omega⟩,⟨by repeat (first|(with_reducible first|exact HB.out|apply bal|apply pbN|apply bd1)|exact HB.out)⟩⟩
                 · rw [if_neg c28] at H
                   have c28b0:((rdOf ByteArray.empty t144 (ji25)).toList == ([97,108,108]:List UInt8)) = false:=beq_eq_false_iff_ne.mpr c28;have c28b1:((rdOf ByteArray.empty t144 (ji25)).toList != ([97,108,108]:List UInt8)) = true:=bne_iff_ne.mpr c28;obtain rfl:=Option.some.inj H;have p143:0 ≤ (x4_2:Int):=odt;have q143:x4_2 < (l0.length:Int):=odt;obtain ⟨ad143,e143,hx143_0,hx143_1,hx143_2,hx143_3,hx143_4⟩:=at_T47 HR0.out x4_2 p143 q143
                   cases e143
                   replace hx143_0:=bx HB.out rfl hx143_0;replace hx143_1:=bx HB.out rfl hx143_1;replace hx143_2:=bx HB.out rfl hx143_2;replace hx143_3:=bx HB.out rfl hx143_3;replace hx143_4:=bx HB.out rfl hx143_4;replace p143:=eq_true p143;replace q143:=eq_true q143
                   go_wp2_with (first|((with_reducible refine gca (f:=33) rfl ?_);refine gL (some 48) Tryd.func33 #[.slice (some ad143) l0.length c0,.string ((riS37 l0 x4_2).f0)] ?_;(with_reducible refine (spec_l8Up.calls k2 _ _ l0 ((riS37 l0 x4_2).f0) t144 _ ?side1 ?side2 A21.out).mono ?_);(case side1=>repeat (first|exact (Kd.C_below HR0.out HB.out)|(with_reducible first|refine Kd.C_alloc ?_ _|refine Kd.C_drewN ?_ _|refine Kd.C_drew ?_)));(case side2=>exact HC0.out);rintro e w31 ⟨v145,rfl,ho0,hb⟩;refine ⟨_,rfl,?_⟩;have HO146:=As0.mk (Kd.R_lower ho0 (bsz (by repeat (first|(with_reducible first|exact HB.out|apply bal|apply pbN|apply bd1)|exact HB.out))));replace HB:=As0.mk (b3 HB.out hb);clear hb ho0;obtain ⟨Ao32,co32,eo32⟩:=Kd.R_slice HO146.out;subst eo32;have p147:0 ≤ ((ji25):Int):=odt;have q147:(ji25) < (t144.length:Int):=odt;obtain ⟨ad147,e147,hx147_0⟩:=Kd.at_string (Kd.R_reads' HO146.out).2.2 (ji25) p147 q147;cases e147;replace p147:=eq_true p147;replace q147:=eq_true q147))
                   go_ret
                   exact ⟨by first|rfl|(simp [errW_none,errW_some] <;> rfl)|(simp only [← hji25];first|rfl|(simp [errW_none,errW_some] <;> rfl))|(simp [*,errW_none,errW_some] <;> rfl),by repeat (first|(with_reducible first|exact HB.out|apply bal|apply pbN|apply bd1)|exact HB.out)⟩
               · rw [if_neg c27] at H
                 exact absurd H (by simp)
             · rw [if_neg c26] at H
               exact absurd H (by simp)
         · rw [if_neg c20] at H
           exact absurd H (by simp)
       · rw [if_neg c19] at H
         have c19b0:decide (x4_2 < (l0.length:Int)) = false:=decide_eq_false c19;clear c19;replace H:=Option.bind_eq_some_iff.mp H;obtain ⟨t148,A330,H⟩:=H;(try dsimp only at H);have A33:=As0.mk A330;clear A330;by_cases c34:t148 = true
         · subst c34
           have H1:((spec_l8At.f k2 l0 (⟨#[97,108,108]⟩:ByteArray)).bind fun t149=>(some (decide (t149 ≥ 0)))) = some r:=by rw [if_pos rfl] at H;exact H
           clear H;have H:=H1;clear H1;replace H:=Option.bind_eq_some_iff.mp H;obtain ⟨t149,A350,H⟩:=H;(try dsimp only at H);have A35:=As0.mk A350;clear A350;obtain rfl:=Option.some.inj H
           go_wp2_with (first|((with_reducible refine gca (f:=13) rfl ?_);refine gL (some 65) Tryd.func13 #[.int .i64 (l0.length:Int),.int .i64 1,.int .i64 7] ?_;(with_reducible refine (spec_l1In.calls (l0.length:Int) 1 7 true _ A33.out).mono ?_);rintro e w' ⟨rfl,⟨nd,rfl⟩⟩;refine ⟨_,rfl,?_⟩)|(go_at_call 34;(with_reducible refine (spec_l8At.calls k2 _ _ l0 (⟨#[97,108,108]⟩:ByteArray) t149 _ ?side1 ?side2 A35.out).mono ?_);(case side1=>repeat (first|exact (Kd.C_below HR0.out (by repeat (first|(with_reducible first|exact HB.out|apply bal|apply pbN|apply bd1)|exact HB.out)))|(with_reducible first|refine Kd.C_alloc ?_ _|refine Kd.C_drewN ?_ _|refine Kd.C_drew ?_)));(case side2=>exact HC0.out);rintro e w' ⟨rfl,⟨nd,rfl⟩⟩))
           go_ret
           exact ⟨eW,by repeat (first|(with_reducible first|exact HB.out|apply bal|apply pbN|apply bd1)|exact HB.out)⟩
         · replace c34:=Bool.eq_false_iff.mpr c34
           subst c34;have H1:(some false) = some r:=by rw [if_neg (show ¬ (false = true) by decide)] at H;exact H
           clear H;have H:=H1;clear H1;obtain rfl:=Option.some.inj H
           go_wp2_with (first|((with_reducible refine gca (f:=13) rfl ?_);refine gL (some 65) Tryd.func13 #[.int .i64 (l0.length:Int),.int .i64 1,.int .i64 7] ?_;(with_reducible refine (spec_l1In.calls (l0.length:Int) 1 7 false _ A33.out).mono ?_);rintro e w' ⟨rfl,⟨nd,rfl⟩⟩;refine ⟨_,rfl,?_⟩))
           go_ret
           exact ⟨eW,by repeat (first|(with_reducible first|exact HB.out|apply bal|apply pbN|apply bd1)|exact HB.out)⟩
def spec_l8Uses.l0:Nat → List (SiS28) → List (SiU30) → Int → Option (Bool)
 |0,_,_,_=>none
 |k + 1,x0,x1,x5=>if x5 < (x1.length:Int) then (if 0 ≤ x5 then (if x5 < (x0.length:Int) then (if ((riU39 x1 x5).f0).toList = ((riS37 x0 x5).f0).toList then ((spec_l1In.f ((riU39 x1 x5).f1) 0 99999).bind fun t153=>(if t153 = true then (spec_l8Uses.l0 k x0 x1 (wrap64 (x5 + 1))) else (some false))) else (some false)) else (none)) else (none)) else (some true)
def spec_l8Uses.f (k:Nat) (l0:List (SiS28)) (l1:List (SiU30)):Option (Bool):=if (l1.length:Int) = (l0.length:Int) then (spec_l8Uses.l0 k l0 l1 0) else (some false)
set_option maxHeartbeats 40000000 in
set_option maxRecDepth 100000 in
theorem spec_l8Uses.calls (k:Nat) (A0:Option Addr) (c0:Nat) (l0:List (SiS28)) (A1:Option Addr) (c1:Nat) (l1:List (SiU30)) (r:Bool) (w:World) (hr0:Kd.C k47 w A0 l0.length l0) (hc0:l0.length ≤ c0) (hr1:Kd.C k49 w A1 l1.length l1) (hc1:l1.length ≤ c1) (h:spec_l8Uses.f k l0 l1 = some r) :
 Calls Tryd.prog 15 #[.slice A0 l0.length c0,.slice A1 l1.length c1] w fun e w'=>e = .returned (.bool r) ∧ Drawn0 w w':=by
 have HR0:=As0.mk hr0;have HC0:=As0.mk hc0;clear hr0 hc0;have HR1:=As0.mk hr1;have HC1:=As0.mk hc1;clear hr1 hc1;have H:(if (l1.length:Int) = (l0.length:Int) then (spec_l8Uses.l0 k l0 l1 0) else (some false)) = some r:=h;clear h;by_cases c3:(l1.length:Int) = (l0.length:Int)
 · rw [if_pos c3] at H
   have c3b0:((l1.length:Int) == (l0.length:Int)) = true:=beq_iff_eq.mpr c3;have c3b1:((l1.length:Int) != (l0.length:Int)) = false:=bne_eq_false_iff_eq.mpr c3;have c3b2:(l1.length == l0.length) = true:=by first|simpa using c3|(simp at c3 ⊢;omega)
   clear c3;have H':=As0.mk H;clear H
   go_enter Tryd.func15,Tryd.ntmps15
   go_wp2
   repeat (go_quiet (fail);try go_wp2)
   show _;go_loopg [5] k (fun kq v5 w'=>∃ (x5_1:Int),v5 = .int .i64 x5_1 ∧ As0 (spec_l8Uses.l0 kq l0 l1 x5_1 = some r) ∧ As0 (kq ≤ k) ∧ Drawn0 w w')
   case atStart=>exact ⟨(0),(by first|rfl|(simp;done)|(simp [*];done)),H',⟨Nat.le_refl _⟩,by repeat (first|exact Drawn0.refl _|apply Drawn0.step)⟩
   case round=>
    clear H'
    try clear c1
    try clear p2
    try clear c3
    try clear c3b0
    try clear c3b1
    try clear c3b2
    obtain ⟨x5_1,rfl,HA,HK1,⟨m1,rfl⟩⟩:=hrel
    cases gk with
    |zero=>exact absurd HA.out (by simp [spec_l8Uses.l0])
    |succ k1=>
     have H:=HA.out;clear HA;simp only [spec_l8Uses.l0] at H;by_cases c4:x5_1 < (l1.length:Int)
     · rw [if_pos c4] at H
       have c4b0:decide (x5_1 < (l1.length:Int)) = true:=decide_eq_true c4;clear c4;by_cases c5:0 ≤ x5_1
       · rw [if_pos c5] at H
         have c5b0:decide (0 ≤ x5_1) = true:=decide_eq_true c5;clear c5;by_cases c6:x5_1 < (l0.length:Int)
         · rw [if_pos c6] at H
           have c6b0:decide (x5_1 < (l0.length:Int)) = true:=decide_eq_true c6;clear c6;by_cases c7:((riU39 l1 x5_1).f0).toList = ((riS37 l0 x5_1).f0).toList
           · rw [if_pos c7] at H
             have c7b0:(((riU39 l1 x5_1).f0).toList == ((riS37 l0 x5_1).f0).toList) = true:=beq_iff_eq.mpr c7;have c7b1:(((riU39 l1 x5_1).f0).toList != ((riS37 l0 x5_1).f0).toList) = false:=bne_eq_false_iff_eq.mpr c7;clear c7;replace H:=Option.bind_eq_some_iff.mp H;obtain ⟨t153,A80,H⟩:=H;(try dsimp only at H);have A8:=As0.mk A80;clear A80;by_cases c9:t153 = true
             · subst c9
               have H1:(spec_l8Uses.l0 k1 l0 l1 (wrap64 (x5_1 + 1))) = some r:=by rw [if_pos rfl] at H;exact H
               clear H;have H:=H1;clear H1;have H':=As0.mk H;clear H;have p150:0 ≤ (x5_1:Int):=odt;have q150:x5_1 < (l1.length:Int):=odt;obtain ⟨ad150,e150,hx150_0,hx150_1⟩:=at_T49 HR1.out x5_1 p150 q150
               cases e150
               replace p150:=eq_true p150;replace q150:=eq_true q150;have p151:0 ≤ (x5_1:Int):=odt;have q151:x5_1 < (l0.length:Int):=odt;obtain ⟨ad151,e151,hx151_0,hx151_1,hx151_2,hx151_3,hx151_4⟩:=at_T47 HR0.out x5_1 p151 q151
               cases e151
               replace p151:=eq_true p151;replace q151:=eq_true q151;have p152:0 ≤ (x5_1:Int):=odt;have q152:x5_1 < (l1.length:Int):=odt;obtain ⟨ad152,e152,hx152_0,hx152_1⟩:=at_T49 HR1.out x5_1 p152 q152;obtain rfl:ad150 = ad152:=(by injection e152);replace p152:=eq_true p152;replace q152:=eq_true q152
               go_wp2_with (first|(go_at_call 13;(with_reducible refine (spec_l1In.calls ((riU39 l1 x5_1).f1) 0 99999 true _ A8.out).mono ?_);rintro e w' ⟨rfl,⟨nd,rfl⟩⟩;(try first|exact ⟨rfl,_,World.drewN_drewN _ _ _⟩|exact ⟨rfl,_,Eq.trans (World.drewN_drewN _ _ _) (congrArg (World.drewN _) (Nat.add_assoc _ _ _))⟩)))
               repeat (go_quiet (first|(go_at_call 13;(with_reducible refine (spec_l1In.calls ((riU39 l1 x5_1).f1) 0 99999 true _ A8.out).mono ?_);rintro e w' ⟨rfl,⟨nd,rfl⟩⟩;(try first|exact ⟨rfl,_,World.drewN_drewN _ _ _⟩|exact ⟨rfl,_,Eq.trans (World.drewN_drewN _ _ _) (congrArg (World.drewN _) (Nat.add_assoc _ _ _))⟩)));try go_wp2_with (first|(go_at_call 13;(with_reducible refine (spec_l1In.calls ((riU39 l1 x5_1).f1) 0 99999 true _ A8.out).mono ?_);rintro e w' ⟨rfl,⟨nd,rfl⟩⟩;(try first|exact ⟨rfl,_,World.drewN_drewN _ _ _⟩|exact ⟨rfl,_,Eq.trans (World.drewN_drewN _ _ _) (congrArg (World.drewN _) (Nat.add_assoc _ _ _))⟩))))
               show _;go_roundg k1
               case measure=>have:=HK1.out;omega
               case rel=>exact ⟨(wrap64 (x5_1 + 1)),(by first|rfl|(simp;done)|(simp [*];done)),H',⟨by have:=HK1.out;omega⟩,by repeat (first|exact Drawn0.refl _|apply Drawn0.step)⟩
             · replace c9:=Bool.eq_false_iff.mpr c9
               subst c9;have H1:(some false) = some r:=by rw [if_neg (show ¬ (false = true) by decide)] at H;exact H
               clear H;have H:=H1;clear H1;obtain rfl:=Option.some.inj H;have p150:0 ≤ (x5_1:Int):=odt;have q150:x5_1 < (l1.length:Int):=odt;obtain ⟨ad150,e150,hx150_0,hx150_1⟩:=at_T49 HR1.out x5_1 p150 q150
               cases e150
               replace p150:=eq_true p150;replace q150:=eq_true q150;have p151:0 ≤ (x5_1:Int):=odt;have q151:x5_1 < (l0.length:Int):=odt;obtain ⟨ad151,e151,hx151_0,hx151_1,hx151_2,hx151_3,hx151_4⟩:=at_T47 HR0.out x5_1 p151 q151
               cases e151
               replace p151:=eq_true p151;replace q151:=eq_true q151;have p152:0 ≤ (x5_1:Int):=odt;have q152:x5_1 < (l1.length:Int):=odt;obtain ⟨ad152,e152,hx152_0,hx152_1⟩:=at_T49 HR1.out x5_1 p152 q152;obtain rfl:ad150 = ad152:=(by injection e152);replace p152:=eq_true p152;replace q152:=eq_true q152
               go_wp2_with (first|(go_at_call 13;(with_reducible refine (spec_l1In.calls ((riU39 l1 x5_1).f1) 0 99999 false _ A8.out).mono ?_);rintro e w' ⟨rfl,⟨nd,rfl⟩⟩;(try first|exact ⟨rfl,_,World.drewN_drewN _ _ _⟩|exact ⟨rfl,_,Eq.trans (World.drewN_drewN _ _ _) (congrArg (World.drewN _) (Nat.add_assoc _ _ _))⟩)))
               repeat (go_quiet (first|(go_at_call 13;(with_reducible refine (spec_l1In.calls ((riU39 l1 x5_1).f1) 0 99999 false _ A8.out).mono ?_);rintro e w' ⟨rfl,⟨nd,rfl⟩⟩;(try first|exact ⟨rfl,_,World.drewN_drewN _ _ _⟩|exact ⟨rfl,_,Eq.trans (World.drewN_drewN _ _ _) (congrArg (World.drewN _) (Nat.add_assoc _ _ _))⟩)));try go_wp2_with (first|(go_at_call 13;(with_reducible refine (spec_l1In.calls ((riU39 l1 x5_1).f1) 0 99999 false _ A8.out).mono ?_);rintro e w' ⟨rfl,⟨nd,rfl⟩⟩;(try first|exact ⟨rfl,_,World.drewN_drewN _ _ _⟩|exact ⟨rfl,_,Eq.trans (World.drewN_drewN _ _ _) (congrArg (World.drewN _) (Nat.add_assoc _ _ _))⟩))))
               go_ret
               exact ⟨by first|rfl|(simp;done)|(simp [*];done),by repeat (first|exact Drawn0.refl _|apply Drawn0.step)⟩
           · rw [if_neg c7] at H
             have c7b0:(((riU39 l1 x5_1).f0).toList == ((riS37 l0 x5_1).f0).toList) = false:=beq_eq_false_iff_ne.mpr c7;have c7b1:(((riU39 l1 x5_1).f0).toList != ((riS37 l0 x5_1).f0).toList) = true:=bne_iff_ne.mpr c7;obtain rfl:=Option.some.inj H;have p150:0 ≤ (x5_1:Int):=odt;have q150:x5_1 < (l1.length:Int):=odt;obtain ⟨ad150,e150,hx150_0,hx150_1⟩:=at_T49 HR1.out x5_1 p150 q150
             cases e150
             replace p150:=eq_true p150;replace q150:=eq_true q150;have p151:0 ≤ (x5_1:Int):=odt;have q151:x5_1 < (l0.length:Int):=odt;obtain ⟨ad151,e151,hx151_0,hx151_1,hx151_2,hx151_3,hx151_4⟩:=at_T47 HR0.out x5_1 p151 q151
             cases e151
             replace p151:=eq_true p151;replace q151:=eq_true q151
             go_wp2
             repeat (go_quiet (fail);try go_wp2)
             go_ret
             exact ⟨by first|rfl|(simp;done)|(simp [*];done),by repeat (first|exact Drawn0.refl _|apply Drawn0.step)⟩
         · rw [if_neg c6] at H
           exact absurd H (by simp)
       · rw [if_neg c5] at H
         exact absurd H (by simp)
     · rw [if_neg c4] at H
       have c4b0:decide (x5_1 < (l1.length:Int)) = false:=decide_eq_false c4;clear c4;obtain rfl:=Option.some.inj H
       go_wp2
       repeat (go_quiet (fail);try go_wp2)
       go_ret
       exact ⟨by first|rfl|(simp;done)|(simp [*];done),by repeat (first|exact Drawn0.refl _|apply Drawn0.step)⟩
 · rw [if_neg c3] at H
   have c3b0:((l1.length:Int) == (l0.length:Int)) = false:=beq_eq_false_iff_ne.mpr c3;have c3b1:((l1.length:Int) != (l0.length:Int)) = true:=bne_iff_ne.mpr c3;have c3b2:(l1.length == l0.length) = false:=by first|simpa using c3|(simp at c3 ⊢;omega)
   obtain rfl:=Option.some.inj H
   go_enter Tryd.func15,Tryd.ntmps15
   go_wp2
   repeat (go_quiet (fail);try go_wp2)
   go_ret
   exact ⟨by first|rfl|(simp;done)|(simp [*];done),by repeat (first|exact Drawn0.refl _|apply Drawn0.step)⟩
def spec_l7Marks.l0:Nat → List ByteArray → Int → Option (Bool)
 |0,_,_=>none
 |k + 1,x0,x3=>if x3 < (x0.length:Int) then (if 0 ≤ x3 then ((spec_NameOk.f k (rdOf ByteArray.empty x0 x3)).bind fun t155=>(if t155 = true then (if x3 > 0 then (if 0 ≤ (wrap64 (x3 - 1)) then (if (wrap64 (x3 - 1)) < (x0.length:Int) then (if ((Op.bytesLess ((rdOf ByteArray.empty x0 (wrap64 (x3 - 1))).toList) ((rdOf ByteArray.empty x0 x3).toList)) = true) then (spec_l7Marks.l0 k x0 (wrap64 (x3 + 1))) else (some false)) else (none)) else (none)) else (spec_l7Marks.l0 k x0 (wrap64 (x3 + 1)))) else (some false))) else (none)) else (some (decide ((x0.length:Int) ≤ 2)))
def spec_l7Marks.f (k:Nat) (l0:List ByteArray):Option (Bool):=spec_l7Marks.l0 k l0 0
set_option maxHeartbeats 40000000 in
set_option maxRecDepth 100000 in
theorem spec_l7Marks.calls (k:Nat) (A0:Option Addr) (c0:Nat) (l0:List ByteArray) (r:Bool) (w:World) (hr0:Kd.C Kd.string w A0 l0.length l0) (hc0:l0.length ≤ c0) (h:spec_l7Marks.f k l0 = some r) :
 Calls Tryd.prog 60 #[.slice A0 l0.length c0] w fun e w'=>e = .returned (.bool r) ∧ Drawn0 w w':=by
 have HR0:=As0.mk hr0;have HC0:=As0.mk hc0;clear hr0 hc0;have H:(spec_l7Marks.l0 k l0 0) = some r:=h;clear h;have H':=As0.mk H;clear H
 go_enter Tryd.func60,Tryd.ntmps60
 go_wp2
 repeat (go_quiet (fail);try go_wp2)
 show _;go_loopg [3] k (fun kq v3 w'=>∃ (x3_1:Int),v3 = .int .i64 x3_1 ∧ As0 (spec_l7Marks.l0 kq l0 x3_1 = some r) ∧ As0 (kq ≤ k) ∧ Drawn0 w w')
 case atStart=>exact ⟨(0),(by first|rfl|(simp;done)|(simp [*];done)),H',⟨Nat.le_refl _⟩,by repeat (first|exact Drawn0.refl _|apply Drawn0.step)⟩
 case round=>
  clear H';obtain ⟨x3_1,rfl,HA,HK1,⟨m1,rfl⟩⟩:=hrel
  cases gk with
  |zero=>exact absurd HA.out (by simp [spec_l7Marks.l0])
  |succ k1=>
   have H:=HA.out;clear HA;simp only [spec_l7Marks.l0] at H;by_cases c2:x3_1 < (l0.length:Int)
   · rw [if_pos c2] at H
     have c2b0:decide (x3_1 < (l0.length:Int)) = true:=decide_eq_true c2;clear c2;by_cases c3:0 ≤ x3_1
     · rw [if_pos c3] at H
       have c3b0:decide (0 ≤ x3_1) = true:=decide_eq_true c3;clear c3;replace H:=Option.bind_eq_some_iff.mp H;obtain ⟨t155,A40,H⟩:=H;(try dsimp only at H);have A4:=As0.mk A40;clear A40;by_cases c5:t155 = true
       · subst c5
         have H1:(if x3_1 > 0 then (if 0 ≤ (wrap64 (x3_1 - 1)) then (if (wrap64 (x3_1 - 1)) < (l0.length:Int) then (if ((Op.bytesLess ((rdOf ByteArray.empty l0 (wrap64 (x3_1 - 1))).toList) ((rdOf ByteArray.empty l0 x3_1).toList)) = true) then (spec_l7Marks.l0 k1 l0 (wrap64 (x3_1 + 1))) else (some false)) else (none)) else (none)) else (spec_l7Marks.l0 k1 l0 (wrap64 (x3_1 + 1)))) = some r:=by rw [if_pos rfl] at H;exact H
         clear H;have H:=H1;clear H1;by_cases c6:x3_1 > 0
         · rw [if_pos c6] at H
           have c6b0:decide (0 < x3_1) = true:=decide_eq_true c6;clear c6;obtain ⟨ji7,hji7⟩:∃ j_:Int,(wrap64 (x3_1 - 1)) = j_:=⟨_,rfl⟩;replace H:(if 0 ≤ (ji7) then (if (ji7) < (l0.length:Int) then (if ((Op.bytesLess ((rdOf ByteArray.empty l0 (ji7)).toList) ((rdOf ByteArray.empty l0 x3_1).toList)) = true) then (spec_l7Marks.l0 k1 l0 (wrap64 (x3_1 + 1))) else (some false)) else (none)) else (none)) = some r:=by first|(rw [hji7] at H;exact H)|(simp only [hji7] at H ⊢;exact H)
           (try rw [hji7] at A4)
           have hji7w:(IntKind.i64.wrap (x3_1 - 1)) = ji7:=(i64_w _).trans hji7;by_cases c8:0 ≤ (ji7)
           · rw [if_pos c8] at H
             have c8b0:decide (0 ≤ (ji7)) = true:=decide_eq_true c8;clear c8;by_cases c9:(ji7) < (l0.length:Int)
             · rw [if_pos c9] at H
               have c9b0:decide ((ji7) < (l0.length:Int)) = true:=decide_eq_true c9;clear c9;by_cases c10:((Op.bytesLess ((rdOf ByteArray.empty l0 (ji7)).toList) ((rdOf ByteArray.empty l0 x3_1).toList)) = true)
               · rw [if_pos c10] at H
                 have c10b0:(Op.bytesLess ((rdOf ByteArray.empty l0 (ji7)).toList) ((rdOf ByteArray.empty l0 x3_1).toList)) = true:=c10;clear c10;have H':=As0.mk H;clear H;have p154:0 ≤ (x3_1:Int):=odt;have q154:x3_1 < (l0.length:Int):=odt;obtain ⟨ad154,e154,hx154_0⟩:=Kd.at_string HR0.out x3_1 p154 q154
                 cases e154
                 replace p154:=eq_true p154;replace q154:=eq_true q154
                 go_wp2_with (first|(go_at_call 59;(with_reducible refine (spec_NameOk.calls k1 (rdOf ByteArray.empty l0 x3_1) true _ A4.out).mono ?_);rintro e w' ⟨rfl,⟨nd,rfl⟩⟩;(try first|exact ⟨rfl,_,World.drewN_drewN _ _ _⟩|exact ⟨rfl,_,Eq.trans (World.drewN_drewN _ _ _) (congrArg (World.drewN _) (Nat.add_assoc _ _ _))⟩);have p156:0 ≤ ((ji7):Int):=odt;have q156:(ji7) < (l0.length:Int):=odt;obtain ⟨ad156,e156,hx156_0⟩:=Kd.at_string HR0.out (ji7) p156 q156;obtain rfl:ad154 = ad156:=(by injection e156);replace p156:=eq_true p156;replace q156:=eq_true q156;have p157:0 ≤ (x3_1:Int):=odt;have q157:x3_1 < (l0.length:Int):=odt;obtain ⟨ad157,e157,hx157_0⟩:=Kd.at_string HR0.out x3_1 p157 q157;obtain rfl:ad154 = ad157:=(by injection e157);replace p157:=eq_true p157;replace q157:=eq_true q157))
                 repeat (go_quiet (first|(go_at_call 59;(with_reducible refine (spec_NameOk.calls k1 (rdOf ByteArray.empty l0 x3_1) true _ A4.out).mono ?_);rintro e w' ⟨rfl,⟨nd,rfl⟩⟩;(try first|exact ⟨rfl,_,World.drewN_drewN _ _ _⟩|exact ⟨rfl,_,Eq.trans (World.drewN_drewN _ _ _) (congrArg (World.drewN _) (Nat.add_assoc _ _ _))⟩);have p156:0 ≤ ((ji7):Int):=odt;have q156:(ji7) < (l0.length:Int):=odt;obtain ⟨ad156,e156,hx156_0⟩:=Kd.at_string HR0.out (ji7) p156 q156;obtain rfl:ad154 = ad156:=(by injection e156);replace p156:=eq_true p156;replace q156:=eq_true q156;have p157:0 ≤ (x3_1:Int):=odt;have q157:x3_1 < (l0.length:Int):=odt;obtain ⟨ad157,e157,hx157_0⟩:=Kd.at_string HR0.out x3_1 p157 q157;obtain rfl:ad154 = ad157:=(by injection e157);replace p157:=eq_true p157;replace q157:=eq_true q157));try go_wp2_with (first|(go_at_call 59;(with_reducible refine (spec_NameOk.calls k1 (rdOf ByteArray.empty l0 x3_1) true _ A4.out).mono ?_);rintro e w' ⟨rfl,⟨nd,rfl⟩⟩;(try first|exact ⟨rfl,_,World.drewN_drewN _ _ _⟩|exact ⟨rfl,_,Eq.trans (World.drewN_drewN _ _ _) (congrArg (World.drewN _) (Nat.add_assoc _ _ _))⟩);have p156:0 ≤ ((ji7):Int):=odt;have q156:(ji7) < (l0.length:Int):=odt;obtain ⟨ad156,e156,hx156_0⟩:=Kd.at_string HR0.out (ji7) p156 q156;obtain rfl:ad154 = ad156:=(by injection e156);replace p156:=eq_true p156;replace q156:=eq_true q156;have p157:0 ≤ (x3_1:Int):=odt;have q157:x3_1 < (l0.length:Int):=odt;obtain ⟨ad157,e157,hx157_0⟩:=Kd.at_string HR0.out x3_1 p157 q157;obtain rfl:ad154 = ad157:=(by injection e157);replace p157:=eq_true p157;replace q157:=eq_true q157)))
                 show _;go_roundg k1
                 case measure=>have:=HK1.out;omega
                 case rel=>exact ⟨(wrap64 (x3_1 + 1)),(by first|rfl|(simp;done)|(simp [*];done)),H',⟨by have:=HK1.out;omega⟩,by repeat (first|exact Drawn0.refl _|apply Drawn0.step)⟩
               · rw [if_neg c10] at H
                 have c10b0:(Op.bytesLess ((rdOf ByteArray.empty l0 (ji7)).toList) ((rdOf ByteArray.empty l0 x3_1).toList)) = false:=by simpa using c10
                 clear c10;obtain rfl:=Option.some.inj H;have p154:0 ≤ (x3_1:Int):=odt;have q154:x3_1 < (l0.length:Int):=odt;obtain ⟨ad154,e154,hx154_0⟩:=Kd.at_string HR0.out x3_1 p154 q154
                 cases e154
                 replace p154:=eq_true p154;replace q154:=eq_true q154
                 go_wp2_with (first|(go_at_call 59;(with_reducible refine (spec_NameOk.calls k1 (rdOf ByteArray.empty l0 x3_1) true _ A4.out).mono ?_);rintro e w' ⟨rfl,⟨nd,rfl⟩⟩;(try first|exact ⟨rfl,_,World.drewN_drewN _ _ _⟩|exact ⟨rfl,_,Eq.trans (World.drewN_drewN _ _ _) (congrArg (World.drewN _) (Nat.add_assoc _ _ _))⟩);have p156:0 ≤ ((ji7):Int):=odt;have q156:(ji7) < (l0.length:Int):=odt;obtain ⟨ad156,e156,hx156_0⟩:=Kd.at_string HR0.out (ji7) p156 q156;obtain rfl:ad154 = ad156:=(by injection e156);replace p156:=eq_true p156;replace q156:=eq_true q156;have p157:0 ≤ (x3_1:Int):=odt;have q157:x3_1 < (l0.length:Int):=odt;obtain ⟨ad157,e157,hx157_0⟩:=Kd.at_string HR0.out x3_1 p157 q157;obtain rfl:ad154 = ad157:=(by injection e157);replace p157:=eq_true p157;replace q157:=eq_true q157))
                 repeat (go_quiet (first|(go_at_call 59;(with_reducible refine (spec_NameOk.calls k1 (rdOf ByteArray.empty l0 x3_1) true _ A4.out).mono ?_);rintro e w' ⟨rfl,⟨nd,rfl⟩⟩;(try first|exact ⟨rfl,_,World.drewN_drewN _ _ _⟩|exact ⟨rfl,_,Eq.trans (World.drewN_drewN _ _ _) (congrArg (World.drewN _) (Nat.add_assoc _ _ _))⟩);have p156:0 ≤ ((ji7):Int):=odt;have q156:(ji7) < (l0.length:Int):=odt;obtain ⟨ad156,e156,hx156_0⟩:=Kd.at_string HR0.out (ji7) p156 q156;obtain rfl:ad154 = ad156:=(by injection e156);replace p156:=eq_true p156;replace q156:=eq_true q156;have p157:0 ≤ (x3_1:Int):=odt;have q157:x3_1 < (l0.length:Int):=odt;obtain ⟨ad157,e157,hx157_0⟩:=Kd.at_string HR0.out x3_1 p157 q157;obtain rfl:ad154 = ad157:=(by injection e157);replace p157:=eq_true p157;replace q157:=eq_true q157));try go_wp2_with (first|(go_at_call 59;(with_reducible refine (spec_NameOk.calls k1 (rdOf ByteArray.empty l0 x3_1) true _ A4.out).mono ?_);rintro e w' ⟨rfl,⟨nd,rfl⟩⟩;(try first|exact ⟨rfl,_,World.drewN_drewN _ _ _⟩|exact ⟨rfl,_,Eq.trans (World.drewN_drewN _ _ _) (congrArg (World.drewN _) (Nat.add_assoc _ _ _))⟩);have p156:0 ≤ ((ji7):Int):=odt;have q156:(ji7) < (l0.length:Int):=odt;obtain ⟨ad156,e156,hx156_0⟩:=Kd.at_string HR0.out (ji7) p156 q156;obtain rfl:ad154 = ad156:=(by injection e156);replace p156:=eq_true p156;replace q156:=eq_true q156;have p157:0 ≤ (x3_1:Int):=odt;have q157:x3_1 < (l0.length:Int):=odt;obtain ⟨ad157,e157,hx157_0⟩:=Kd.at_string HR0.out x3_1 p157 q157;obtain rfl:ad154 = ad157:=(by injection e157);replace p157:=eq_true p157;replace q157:=eq_true q157)))
                 go_ret
                 exact ⟨by first|rfl|(simp;done)|(simp only [← hji7] <;> (first|rfl|simp))|(simp [*];done),by repeat (first|exact Drawn0.refl _|apply Drawn0.step)⟩
             · rw [if_neg c9] at H
               exact absurd H (by simp)
           · rw [if_neg c8] at H
             exact absurd H (by simp)
         · rw [if_neg c6] at H
           have c6b0:decide (0 < x3_1) = false:=decide_eq_false c6;clear c6;have H':=As0.mk H;clear H;have p154:0 ≤ (x3_1:Int):=odt;have q154:x3_1 < (l0.length:Int):=odt;obtain ⟨ad154,e154,hx154_0⟩:=Kd.at_string HR0.out x3_1 p154 q154
           cases e154
           replace p154:=eq_true p154;replace q154:=eq_true q154
           go_wp2_with (first|(go_at_call 59;(with_reducible refine (spec_NameOk.calls k1 (rdOf ByteArray.empty l0 x3_1) true _ A4.out).mono ?_);rintro e w' ⟨rfl,⟨nd,rfl⟩⟩;(try first|exact ⟨rfl,_,World.drewN_drewN _ _ _⟩|exact ⟨rfl,_,Eq.trans (World.drewN_drewN _ _ _) (congrArg (World.drewN _) (Nat.add_assoc _ _ _))⟩)))
           repeat (go_quiet (first|(go_at_call 59;(with_reducible refine (spec_NameOk.calls k1 (rdOf ByteArray.empty l0 x3_1) true _ A4.out).mono ?_);rintro e w' ⟨rfl,⟨nd,rfl⟩⟩;(try first|exact ⟨rfl,_,World.drewN_drewN _ _ _⟩|exact ⟨rfl,_,Eq.trans (World.drewN_drewN _ _ _) (congrArg (World.drewN _) (Nat.add_assoc _ _ _))⟩)));try go_wp2_with (first|(go_at_call 59;(with_reducible refine (spec_NameOk.calls k1 (rdOf ByteArray.empty l0 x3_1) true _ A4.out).mono ?_);rintro e w' ⟨rfl,⟨nd,rfl⟩⟩;(try first|exact ⟨rfl,_,World.drewN_drewN _ _ _⟩|exact ⟨rfl,_,Eq.trans (World.drewN_drewN _ _ _) (congrArg (World.drewN _) (Nat.add_assoc _ _ _))⟩))))
           show _;go_roundg k1
           case measure=>have:=HK1.out;omega
           case rel=>exact ⟨(wrap64 (x3_1 + 1)),(by first|rfl|(simp;done)|(simp [*];done)),H',⟨by have:=HK1.out;omega⟩,by repeat (first|exact Drawn0.refl _|apply Drawn0.step)⟩
       · replace c5:=Bool.eq_false_iff.mpr c5
         subst c5;have H1:(some false) = some r:=by rw [if_neg (show ¬ (false = true) by decide)] at H;exact H
         clear H;have H:=H1;clear H1;obtain rfl:=Option.some.inj H;have p154:0 ≤ (x3_1:Int):=odt;have q154:x3_1 < (l0.length:Int):=odt;obtain ⟨ad154,e154,hx154_0⟩:=Kd.at_string HR0.out x3_1 p154 q154
         cases e154
         replace p154:=eq_true p154;replace q154:=eq_true q154
         go_wp2_with (first|(go_at_call 59;(with_reducible refine (spec_NameOk.calls k1 (rdOf ByteArray.empty l0 x3_1) false _ A4.out).mono ?_);rintro e w' ⟨rfl,⟨nd,rfl⟩⟩;(try first|exact ⟨rfl,_,World.drewN_drewN _ _ _⟩|exact ⟨rfl,_,Eq.trans (World.drewN_drewN _ _ _) (congrArg (World.drewN _) (Nat.add_assoc _ _ _))⟩)))
         repeat (go_quiet (first|(go_at_call 59;(with_reducible refine (spec_NameOk.calls k1 (rdOf ByteArray.empty l0 x3_1) false _ A4.out).mono ?_);rintro e w' ⟨rfl,⟨nd,rfl⟩⟩;(try first|exact ⟨rfl,_,World.drewN_drewN _ _ _⟩|exact ⟨rfl,_,Eq.trans (World.drewN_drewN _ _ _) (congrArg (World.drewN _) (Nat.add_assoc _ _ _))⟩)));try go_wp2_with (first|(go_at_call 59;(with_reducible refine (spec_NameOk.calls k1 (rdOf ByteArray.empty l0 x3_1) false _ A4.out).mono ?_);rintro e w' ⟨rfl,⟨nd,rfl⟩⟩;(try first|exact ⟨rfl,_,World.drewN_drewN _ _ _⟩|exact ⟨rfl,_,Eq.trans (World.drewN_drewN _ _ _) (congrArg (World.drewN _) (Nat.add_assoc _ _ _))⟩))))
         go_ret
         exact ⟨by first|rfl|(simp;done)|(simp [*];done),by repeat (first|exact Drawn0.refl _|apply Drawn0.step)⟩
     · rw [if_neg c3] at H
       exact absurd H (by simp)
   · rw [if_neg c2] at H
     have c2b0:decide (x3_1 < (l0.length:Int)) = false:=decide_eq_false c2;clear c2;obtain rfl:=Option.some.inj H
     go_wp2
     repeat (go_quiet (fail);try go_wp2)
     go_ret
     exact ⟨by first|rfl|(simp;done)|(simp [*];done),by repeat (first|exact Drawn0.refl _|apply Drawn0.step)⟩
def spec_l4Value.l0:Nat → ByteArray → Int → Option (Bool)
 |0,_,_=>none
 |k + 1,x0,x3=>if x3 < (x0.size:Int) then (if 0 ≤ x3 then (if (bt x0 x3) < 32 then (some false) else (if (bt x0 x3) > 126 then (some false) else (spec_l4Value.l0 k x0 (wrap64 (x3 + 1))))) else (none)) else (some (decide ((x0.size:Int) ≤ 80)))
def spec_l4Value.f (k:Nat) (a0:ByteArray):Option (Bool):=spec_l4Value.l0 k a0 0
set_option maxHeartbeats 40000000 in
set_option maxRecDepth 100000 in
theorem spec_l4Value.calls (k:Nat) (a0:ByteArray) (r:Bool) (w:World) (h:spec_l4Value.f k a0 = some r) :
 Calls Tryd.prog 76 #[.string a0] w fun e w'=>e = .returned (.bool r) ∧ Drawn0 w w':=by
 have H:(spec_l4Value.l0 k a0 0) = some r:=h;clear h;have H':=As0.mk H;clear H
 go_enter Tryd.func76,Tryd.ntmps76
 go_wp2
 show _;go_loopg [3] k (fun kq v3 w'=>∃ (x3_1:Int),v3 = .int .i64 x3_1 ∧ As0 (spec_l4Value.l0 kq a0 x3_1 = some r) ∧ As0 (kq ≤ k) ∧ Drawn0 w w')
 case atStart=>exact ⟨(0),(by first|rfl|(simp;done)|(simp [*];done)),H',⟨Nat.le_refl _⟩,by repeat (first|exact Drawn0.refl _|apply Drawn0.step)⟩
 case round=>
  clear H';obtain ⟨x3_1,rfl,HA,HK1,⟨m1,rfl⟩⟩:=hrel
  cases gk with
  |zero=>exact absurd HA.out (by simp [spec_l4Value.l0])
  |succ k1=>
   have H:=HA.out;clear HA;simp only [spec_l4Value.l0] at H;by_cases c2:x3_1 < (a0.size:Int)
   · rw [if_pos c2] at H
     have c2b0:decide (x3_1 < (a0.size:Int)) = true:=decide_eq_true c2;clear c2;by_cases c3:0 ≤ x3_1
     · rw [if_pos c3] at H
       have c3b0:decide (0 ≤ x3_1) = true:=decide_eq_true c3;clear c3;by_cases c5:(bt a0 x3_1) < 32
       · rw [if_pos c5] at H
         have c5b0:decide ((bt a0 x3_1) < 32) = true:=decide_eq_true c5;clear c5;obtain rfl:=Option.some.inj H;have p4:0 ≤ (x3_1:Int):=odt;have q4:x3_1 < (a0.size:Int):=odt;have hx4:=bt_at a0 x3_1;replace p4:=eq_true p4;replace q4:=eq_true q4
         go_wp2
         go_ret
         exact ⟨by first|rfl|(simp;done)|(simp [*];done),by repeat (first|exact Drawn0.refl _|apply Drawn0.step)⟩
       · rw [if_neg c5] at H
         have c5b0:decide ((bt a0 x3_1) < 32) = false:=decide_eq_false c5;clear c5;by_cases c7:(bt a0 x3_1) > 126
         · rw [if_pos c7] at H
           have c7b0:decide (126 < (bt a0 x3_1)) = true:=decide_eq_true c7;clear c7;obtain rfl:=Option.some.inj H;have p4:0 ≤ (x3_1:Int):=odt;have q4:x3_1 < (a0.size:Int):=odt;have hx4:=bt_at a0 x3_1;replace p4:=eq_true p4;replace q4:=eq_true q4;have p6:0 ≤ (x3_1:Int):=odt;have q6:x3_1 < (a0.size:Int):=odt;have hx6:=bt_at a0 x3_1;replace p6:=eq_true p6;replace q6:=eq_true q6
           go_wp2
           go_ret
           exact ⟨by first|rfl|(simp;done)|(simp [*];done),by repeat (first|exact Drawn0.refl _|apply Drawn0.step)⟩
         · rw [if_neg c7] at H
           have c7b0:decide (126 < (bt a0 x3_1)) = false:=decide_eq_false c7;clear c7;have H':=As0.mk H;clear H;have p4:0 ≤ (x3_1:Int):=odt;have q4:x3_1 < (a0.size:Int):=odt;have hx4:=bt_at a0 x3_1;replace p4:=eq_true p4;replace q4:=eq_true q4;have p6:0 ≤ (x3_1:Int):=odt;have q6:x3_1 < (a0.size:Int):=odt;have hx6:=bt_at a0 x3_1;replace p6:=eq_true p6;replace q6:=eq_true q6
           go_wp2
           show _;go_roundg k1
           case measure=>have:=HK1.out;omega
           case rel=>exact ⟨(wrap64 (x3_1 + 1)),(by first|rfl|(simp;done)|(simp [*];done)),H',⟨by have:=HK1.out;omega⟩,by repeat (first|exact Drawn0.refl _|apply Drawn0.step)⟩
     · rw [if_neg c3] at H
       exact absurd H (by simp)
   · rw [if_neg c2] at H
     have c2b0:decide (x3_1 < (a0.size:Int)) = false:=decide_eq_false c2;clear c2;obtain rfl:=Option.some.inj H
     go_wp2
     go_ret
     exact ⟨by first|rfl|(simp;done)|(simp [*];done),by repeat (first|exact Drawn0.refl _|apply Drawn0.step)⟩
def spec_l7Body.f (k:Nat) (a0:ByteArray):Option (Bool):=(spec_l4Value.f k a0).bind fun t158=>(if t158 = true then (some (decide ((a0.size:Int) ≤ 40))) else (some false))
set_option maxHeartbeats 40000000 in
set_option maxRecDepth 100000 in
theorem spec_l7Body.calls (k:Nat) (a0:ByteArray) (r:Bool) (w:World) (h:spec_l7Body.f k a0 = some r) :
 Calls Tryd.prog 61 #[.string a0] w fun e w'=>e = .returned (.bool r) ∧ Drawn0 w w':=by
 have H:((spec_l4Value.f k a0).bind fun t158=>(if t158 = true then (some (decide ((a0.size:Int) ≤ 40))) else (some false))) = some r:=h;clear h;replace H:=Option.bind_eq_some_iff.mp H;obtain ⟨t158,A20,H⟩:=H;(try dsimp only at H);have A2:=As0.mk A20;clear A20;by_cases c3:t158 = true
 · subst c3
   have H1:(some (decide ((a0.size:Int) ≤ 40))) = some r:=by rw [if_pos rfl] at H;exact H
   clear H;have H:=H1;clear H1;obtain rfl:=Option.some.inj H
   go_enter Tryd.func61,Tryd.ntmps61
   go_wp2_with (first|((with_reducible refine gca (f:=76) rfl ?_);refine gL (some 4) Tryd.func76 #[.string a0] ?_;(with_reducible refine (spec_l4Value.calls k a0 true _ A2.out).mono ?_);rintro e w' ⟨rfl,⟨nd,rfl⟩⟩;refine ⟨_,rfl,?_⟩))
   go_ret
   exact ⟨by first|rfl|(simp;done)|(simp [*];done),by repeat (first|exact Drawn0.refl _|apply Drawn0.step)⟩
 · replace c3:=Bool.eq_false_iff.mpr c3
   subst c3;have H1:(some false) = some r:=by rw [if_neg (show ¬ (false = true) by decide)] at H;exact H
   clear H;have H:=H1;clear H1;obtain rfl:=Option.some.inj H
   go_enter Tryd.func61,Tryd.ntmps61
   go_wp2_with (first|((with_reducible refine gca (f:=76) rfl ?_);refine gL (some 4) Tryd.func76 #[.string a0] ?_;(with_reducible refine (spec_l4Value.calls k a0 false _ A2.out).mono ?_);rintro e w' ⟨rfl,⟨nd,rfl⟩⟩;refine ⟨_,rfl,?_⟩))
   go_ret
   exact ⟨by first|rfl|(simp;done)|(simp [*];done),by repeat (first|exact Drawn0.refl _|apply Drawn0.step)⟩
def spec_ThingOk.f (k:Nat) (a0_0:ByteArray) (a0_1:ByteArray) (a0_2:Int) (a0_3:Int) (a0_4:Bool) (l0_5:List ByteArray) (a0_6:ByteArray):Option (Bool):=(spec_NameOk.f k a0_0).bind fun t160=>(if t160 = true then ((spec_NameOk.f k a0_1).bind fun t161=>(if t161 = true then ((spec_l1In.f a0_2 1 99999).bind fun t162=>(if t162 = true then ((spec_l1In.f a0_3 1 99999).bind fun t163=>(if t163 = true then ((spec_l7Marks.f k l0_5).bind fun t164=>(if t164 = true then ((spec_l7Body.f k a0_6).bind fun t165=>(if t165 = true then (if a0_4 = true then (some (decide ((l0_5.length:Int) > 0))) else (some true)) else (some false))) else (some false))) else (some false))) else (some false))) else (some false))) else (some false))
set_option maxHeartbeats 40000000 in
set_option maxRecDepth 100000 in
theorem spec_ThingOk.calls (k:Nat) (a0_0:ByteArray) (a0_1:ByteArray) (a0_2:Int) (a0_3:Int) (a0_4:Bool) (A0_5:Option Addr) (c0_5:Nat) (l0_5:List ByteArray) (a0_6:ByteArray) (r:Bool) (w:World) (hr0_5:Kd.C Kd.string w A0_5 l0_5.length l0_5) (hc0_5:l0_5.length ≤ c0_5) (h:spec_ThingOk.f k a0_0 a0_1 a0_2 a0_3 a0_4 l0_5 a0_6 = some r) :
 Calls Tryd.prog 35 #[.agg #[.string a0_0,.string a0_1,.int .i64 a0_2,.int .i64 a0_3,.bool a0_4,.slice A0_5 l0_5.length c0_5,.string a0_6]] w fun e w'=>e = .returned (.bool r) ∧ Below w.heap.size w w':=by
 have hu73:=Tryd.underlying73;have HR0_5:=As0.mk hr0_5;have HC0_5:=As0.mk hc0_5;clear hr0_5 hc0_5;have HB:=As0.mk (Below.refl w.heap.size w);have H:((spec_NameOk.f k a0_0).bind fun t160=>(if t160 = true then ((spec_NameOk.f k a0_1).bind fun t161=>(if t161 = true then ((spec_l1In.f a0_2 1 99999).bind fun t162=>(if t162 = true then ((spec_l1In.f a0_3 1 99999).bind fun t163=>(if t163 = true then ((spec_l7Marks.f k l0_5).bind fun t164=>(if t164 = true then ((spec_l7Body.f k a0_6).bind fun t165=>(if t165 = true then (if a0_4 = true then (some (decide ((l0_5.length:Int) > 0))) else (some true)) else (some false))) else (some false))) else (some false))) else (some false))) else (some false))) else (some false))) = some r:=h;clear h;replace H:=Option.bind_eq_some_iff.mp H;obtain ⟨t160,A20,H⟩:=H;(try dsimp only at H);have A2:=As0.mk A20;clear A20;by_cases c3:t160 = true
 · subst c3
   have H1:((spec_NameOk.f k a0_1).bind fun t161=>(if t161 = true then ((spec_l1In.f a0_2 1 99999).bind fun t162=>(if t162 = true then ((spec_l1In.f a0_3 1 99999).bind fun t163=>(if t163 = true then ((spec_l7Marks.f k l0_5).bind fun t164=>(if t164 = true then ((spec_l7Body.f k a0_6).bind fun t165=>(if t165 = true then (if a0_4 = true then (some (decide ((l0_5.length:Int) > 0))) else (some true)) else (some false))) else (some false))) else (some false))) else (some false))) else (some false))) = some r:=by rw [if_pos rfl] at H;exact H
   clear H;have H:=H1;clear H1;replace H:=Option.bind_eq_some_iff.mp H;obtain ⟨t161,A40,H⟩:=H;(try dsimp only at H);have A4:=As0.mk A40;clear A40;by_cases c5:t161 = true
   · subst c5
     have H1:((spec_l1In.f a0_2 1 99999).bind fun t162=>(if t162 = true then ((spec_l1In.f a0_3 1 99999).bind fun t163=>(if t163 = true then ((spec_l7Marks.f k l0_5).bind fun t164=>(if t164 = true then ((spec_l7Body.f k a0_6).bind fun t165=>(if t165 = true then (if a0_4 = true then (some (decide ((l0_5.length:Int) > 0))) else (some true)) else (some false))) else (some false))) else (some false))) else (some false))) = some r:=by rw [if_pos rfl] at H;exact H
     clear H;have H:=H1;clear H1;replace H:=Option.bind_eq_some_iff.mp H;obtain ⟨t162,A60,H⟩:=H;(try dsimp only at H);have A6:=As0.mk A60;clear A60;by_cases c7:t162 = true
     · subst c7
       have H1:((spec_l1In.f a0_3 1 99999).bind fun t163=>(if t163 = true then ((spec_l7Marks.f k l0_5).bind fun t164=>(if t164 = true then ((spec_l7Body.f k a0_6).bind fun t165=>(if t165 = true then (if a0_4 = true then (some (decide ((l0_5.length:Int) > 0))) else (some true)) else (some false))) else (some false))) else (some false))) = some r:=by rw [if_pos rfl] at H;exact H
       clear H;have H:=H1;clear H1;replace H:=Option.bind_eq_some_iff.mp H;obtain ⟨t163,A80,H⟩:=H;(try dsimp only at H);have A8:=As0.mk A80;clear A80;by_cases c9:t163 = true
       · subst c9
         have H1:((spec_l7Marks.f k l0_5).bind fun t164=>(if t164 = true then ((spec_l7Body.f k a0_6).bind fun t165=>(if t165 = true then (if a0_4 = true then (some (decide ((l0_5.length:Int) > 0))) else (some true)) else (some false))) else (some false))) = some r:=by rw [if_pos rfl] at H;exact H
         clear H;have H:=H1;clear H1;replace H:=Option.bind_eq_some_iff.mp H;obtain ⟨t164,A100,H⟩:=H;(try dsimp only at H);have A10:=As0.mk A100;clear A100;by_cases c11:t164 = true
         · subst c11
           have H1:((spec_l7Body.f k a0_6).bind fun t165=>(if t165 = true then (if a0_4 = true then (some (decide ((l0_5.length:Int) > 0))) else (some true)) else (some false))) = some r:=by rw [if_pos rfl] at H;exact H
           clear H;have H:=H1;clear H1;replace H:=Option.bind_eq_some_iff.mp H;obtain ⟨t165,A120,H⟩:=H;(try dsimp only at H);have A12:=As0.mk A120;clear A120;by_cases c13:t165 = true
           · subst c13
             have H1:(if a0_4 = true then (some (decide ((l0_5.length:Int) > 0))) else (some true)) = some r:=by rw [if_pos rfl] at H;exact H
             clear H;have H:=H1;clear H1;by_cases c14:a0_4 = true
             · subst c14
               have H1:(some (decide ((l0_5.length:Int) > 0))) = some r:=by rw [if_pos rfl] at H;exact H
               clear H;have H:=H1;clear H1;obtain rfl:=Option.some.inj H
               go_enter Tryd.func35,Tryd.ntmps35
               go_wp2_with (first|((with_reducible refine gate_dst (N:=1) rfl ?_);(try (refine gate_guard (by rfl) ?_;dsimp only));refine bE 1 #[.string a0_0,.string a0_1,.int .i64 a0_2,.int .i64 a0_3,.bool true,.slice A0_5 l0_5.length c0_5,.string a0_6] 73 ?_;intro gb159 hg w15 hbox hb;have BK159:=As0.mk (hbox);have GW159:=As0.mk ((by rw [hg];exact (bsz (by repeat (first|(with_reducible first|exact HB.out|apply bal|apply pbN|apply bd1)|exact HB.out))):w.heap.size ≤ gb159));have GE159:=GW159;replace HB:=As0.mk (b3 HB.out hb);clear hb hbox hg;obtain ⟨hcz16_0,hcz16_1,hcz16_2,hcz16_3,hcz16_4,hcz16_5,hcz16_6⟩:=qc7 BK159.out;obtain ⟨hfz16_0,hfz16_1,hfz16_2,hfz16_3,hfz16_4,hfz16_5,hfz16_6⟩:=qz7 BK159.out)|((with_reducible refine gca (f:=59) rfl ?_);refine gL (some 5) Tryd.func59 #[.string a0_0] ?_;(with_reducible refine (spec_NameOk.calls k a0_0 true _ A2.out).mono ?_);rintro e w' ⟨rfl,⟨nd,rfl⟩⟩;refine ⟨_,rfl,?_⟩)|(go_at_call 59;(with_reducible refine (spec_NameOk.calls k a0_1 true _ A4.out).mono ?_);rintro e w' ⟨rfl,⟨nd,rfl⟩⟩)|(go_at_call 13;(with_reducible refine (spec_l1In.calls a0_2 1 99999 true _ A6.out).mono ?_);rintro e w' ⟨rfl,⟨nd,rfl⟩⟩)|(go_at_call 13;(with_reducible refine (spec_l1In.calls a0_3 1 99999 true _ A8.out).mono ?_);rintro e w' ⟨rfl,⟨nd,rfl⟩⟩)|(go_at_call 60;(with_reducible refine (spec_l7Marks.calls k _ _ l0_5 true _ ?side1 ?side2 A10.out).mono ?_);(case side1=>repeat (first|exact (Kd.C_below HR0_5.out (by repeat (first|(with_reducible first|exact HB.out|apply bal|apply pbN|apply bd1|refine bst ?_ GE159.out)|exact HB.out)))|(with_reducible first|refine Kd.C_alloc ?_ _|refine Kd.C_drewN ?_ _|refine Kd.C_drew ?_)));(case side2=>exact HC0_5.out);rintro e w' ⟨rfl,⟨nd,rfl⟩⟩)|(go_at_call 61;(with_reducible refine (spec_l7Body.calls k a0_6 true _ A12.out).mono ?_);rintro e w' ⟨rfl,⟨nd,rfl⟩⟩))
               go_ret
               exact ⟨eW,by repeat (first|(with_reducible first|exact HB.out|apply bal|apply pbN|apply bd1|refine bst ?_ GE159.out)|exact HB.out)⟩
             · replace c14:=Bool.eq_false_iff.mpr c14
               subst c14;have H1:(some true) = some r:=by rw [if_neg (show ¬ (false = true) by decide)] at H;exact H
               clear H;have H:=H1;clear H1;obtain rfl:=Option.some.inj H
               go_enter Tryd.func35,Tryd.ntmps35
               go_wp2_with (first|((with_reducible refine gate_dst (N:=1) rfl ?_);(try (refine gate_guard (by rfl) ?_;dsimp only));refine bE 1 #[.string a0_0,.string a0_1,.int .i64 a0_2,.int .i64 a0_3,.bool false,.slice A0_5 l0_5.length c0_5,.string a0_6] 73 ?_;intro gb159 hg w17 hbox hb;have BK159:=As0.mk (hbox);have GW159:=As0.mk ((by rw [hg];exact (bsz (by repeat (first|(with_reducible first|exact HB.out|apply bal|apply pbN|apply bd1)|exact HB.out))):w.heap.size ≤ gb159));have GE159:=GW159;replace HB:=As0.mk (b3 HB.out hb);clear hb hbox hg;obtain ⟨hcz18_0,hcz18_1,hcz18_2,hcz18_3,hcz18_4,hcz18_5,hcz18_6⟩:=qc7 BK159.out;obtain ⟨hfz18_0,hfz18_1,hfz18_2,hfz18_3,hfz18_4,hfz18_5,hfz18_6⟩:=qz7 BK159.out)|((with_reducible refine gca (f:=59) rfl ?_);refine gL (some 5) Tryd.func59 #[.string a0_0] ?_;(with_reducible refine (spec_NameOk.calls k a0_0 true _ A2.out).mono ?_);rintro e w' ⟨rfl,⟨nd,rfl⟩⟩;refine ⟨_,rfl,?_⟩)|(go_at_call 59;(with_reducible refine (spec_NameOk.calls k a0_1 true _ A4.out).mono ?_);rintro e w' ⟨rfl,⟨nd,rfl⟩⟩)|(go_at_call 13;(with_reducible refine (spec_l1In.calls a0_2 1 99999 true _ A6.out).mono ?_);rintro e w' ⟨rfl,⟨nd,rfl⟩⟩)|(go_at_call 13;(with_reducible refine (spec_l1In.calls a0_3 1 99999 true _ A8.out).mono ?_);rintro e w' ⟨rfl,⟨nd,rfl⟩⟩)|(go_at_call 60;(with_reducible refine (spec_l7Marks.calls k _ _ l0_5 true _ ?side1 ?side2 A10.out).mono ?_);(case side1=>repeat (first|exact (Kd.C_below HR0_5.out (by repeat (first|(with_reducible first|exact HB.out|apply bal|apply pbN|apply bd1|refine bst ?_ GE159.out)|exact HB.out)))|(with_reducible first|refine Kd.C_alloc ?_ _|refine Kd.C_drewN ?_ _|refine Kd.C_drew ?_)));(case side2=>exact HC0_5.out);rintro e w' ⟨rfl,⟨nd,rfl⟩⟩)|(go_at_call 61;(with_reducible refine (spec_l7Body.calls k a0_6 true _ A12.out).mono ?_);rintro e w' ⟨rfl,⟨nd,rfl⟩⟩))
               go_ret
               exact ⟨eW,by repeat (first|(with_reducible first|exact HB.out|apply bal|apply pbN|apply bd1|refine bst ?_ GE159.out)|exact HB.out)⟩
           · replace c13:=Bool.eq_false_iff.mpr c13
             subst c13;have H1:(some false) = some r:=by rw [if_neg (show ¬ (false = true) by decide)] at H;exact H
             clear H;have H:=H1;clear H1;obtain rfl:=Option.some.inj H
             go_enter Tryd.func35,Tryd.ntmps35
             go_wp2_with (first|((with_reducible refine gate_dst (N:=1) rfl ?_);(try (refine gate_guard (by rfl) ?_;dsimp only));refine bE 1 #[.string a0_0,.string a0_1,.int .i64 a0_2,.int .i64 a0_3,.bool a0_4,.slice A0_5 l0_5.length c0_5,.string a0_6] 73 ?_;intro gb159 hg w19 hbox hb;have BK159:=As0.mk (hbox);have GW159:=As0.mk ((by rw [hg];exact (bsz (by repeat (first|(with_reducible first|exact HB.out|apply bal|apply pbN|apply bd1)|exact HB.out))):w.heap.size ≤ gb159));have GE159:=GW159;replace HB:=As0.mk (b3 HB.out hb);clear hb hbox hg;obtain ⟨hcz20_0,hcz20_1,hcz20_2,hcz20_3,hcz20_4,hcz20_5,hcz20_6⟩:=qc7 BK159.out;obtain ⟨hfz20_0,hfz20_1,hfz20_2,hfz20_3,hfz20_4,hfz20_5,hfz20_6⟩:=qz7 BK159.out)|((with_reducible refine gca (f:=59) rfl ?_);refine gL (some 5) Tryd.func59 #[.string a0_0] ?_;(with_reducible refine (spec_NameOk.calls k a0_0 true _ A2.out).mono ?_);rintro e w' ⟨rfl,⟨nd,rfl⟩⟩;refine ⟨_,rfl,?_⟩)|(go_at_call 59;(with_reducible refine (spec_NameOk.calls k a0_1 true _ A4.out).mono ?_);rintro e w' ⟨rfl,⟨nd,rfl⟩⟩)|(go_at_call 13;(with_reducible refine (spec_l1In.calls a0_2 1 99999 true _ A6.out).mono ?_);rintro e w' ⟨rfl,⟨nd,rfl⟩⟩)|(go_at_call 13;(with_reducible refine (spec_l1In.calls a0_3 1 99999 true _ A8.out).mono ?_);rintro e w' ⟨rfl,⟨nd,rfl⟩⟩)|(go_at_call 60;(with_reducible refine (spec_l7Marks.calls k _ _ l0_5 true _ ?side1 ?side2 A10.out).mono ?_);(case side1=>repeat (first|exact (Kd.C_below HR0_5.out (by repeat (first|(with_reducible first|exact HB.out|apply bal|apply pbN|apply bd1|refine bst ?_ GE159.out)|exact HB.out)))|(with_reducible first|refine Kd.C_alloc ?_ _|refine Kd.C_drewN ?_ _|refine Kd.C_drew ?_)));(case side2=>exact HC0_5.out);rintro e w' ⟨rfl,⟨nd,rfl⟩⟩)|(go_at_call 61;(with_reducible refine (spec_l7Body.calls k a0_6 false _ A12.out).mono ?_);rintro e w' ⟨rfl,⟨nd,rfl⟩⟩))
             go_ret
             exact ⟨eW,by repeat (first|(with_reducible first|exact HB.out|apply bal|apply pbN|apply bd1|refine bst ?_ GE159.out)|exact HB.out)⟩
         · replace c11:=Bool.eq_false_iff.mpr c11
           subst c11;have H1:(some false) = some r:=by rw [if_neg (show ¬ (false = true) by decide)] at H;exact H
           clear H;have H:=H1;clear H1;obtain rfl:=Option.some.inj H
           go_enter Tryd.func35,Tryd.ntmps35
           go_wp2_with (first|((with_reducible refine gate_dst (N:=1) rfl ?_);(try (refine gate_guard (by rfl) ?_;dsimp only));refine bE 1 #[.string a0_0,.string a0_1,.int .i64 a0_2,.int .i64 a0_3,.bool a0_4,.slice A0_5 l0_5.length c0_5,.string a0_6] 73 ?_;intro gb159 hg w21 hbox hb;have BK159:=As0.mk (hbox);have GW159:=As0.mk ((by rw [hg];exact (bsz (by repeat (first|(with_reducible first|exact HB.out|apply bal|apply pbN|apply bd1)|exact HB.out))):w.heap.size ≤ gb159));have GE159:=GW159;replace HB:=As0.mk (b3 HB.out hb);clear hb hbox hg;obtain ⟨hcz22_0,hcz22_1,hcz22_2,hcz22_3,hcz22_4,hcz22_5,hcz22_6⟩:=qc7 BK159.out;obtain ⟨hfz22_0,hfz22_1,hfz22_2,hfz22_3,hfz22_4,hfz22_5,hfz22_6⟩:=qz7 BK159.out)|((with_reducible refine gca (f:=59) rfl ?_);refine gL (some 5) Tryd.func59 #[.string a0_0] ?_;(with_reducible refine (spec_NameOk.calls k a0_0 true _ A2.out).mono ?_);rintro e w' ⟨rfl,⟨nd,rfl⟩⟩;refine ⟨_,rfl,?_⟩)|(go_at_call 59;(with_reducible refine (spec_NameOk.calls k a0_1 true _ A4.out).mono ?_);rintro e w' ⟨rfl,⟨nd,rfl⟩⟩)|(go_at_call 13;(with_reducible refine (spec_l1In.calls a0_2 1 99999 true _ A6.out).mono ?_);rintro e w' ⟨rfl,⟨nd,rfl⟩⟩)|(go_at_call 13;(with_reducible refine (spec_l1In.calls a0_3 1 99999 true _ A8.out).mono ?_);rintro e w' ⟨rfl,⟨nd,rfl⟩⟩)|(go_at_call 60;(with_reducible refine (spec_l7Marks.calls k _ _ l0_5 false _ ?side1 ?side2 A10.out).mono ?_);(case side1=>repeat (first|exact (Kd.C_below HR0_5.out (by repeat (first|(with_reducible first|exact HB.out|apply bal|apply pbN|apply bd1|refine bst ?_ GE159.out)|exact HB.out)))|(with_reducible first|refine Kd.C_alloc ?_ _|refine Kd.C_drewN ?_ _|refine Kd.C_drew ?_)));(case side2=>exact HC0_5.out);rintro e w' ⟨rfl,⟨nd,rfl⟩⟩))
           go_ret
           exact ⟨eW,by repeat (first|(with_reducible first|exact HB.out|apply bal|apply pbN|apply bd1|refine bst ?_ GE159.out)|exact HB.out)⟩
       · replace c9:=Bool.eq_false_iff.mpr c9
         subst c9;have H1:(some false) = some r:=by rw [if_neg (show ¬ (false = true) by decide)] at H;exact H
         clear H;have H:=H1;clear H1;obtain rfl:=Option.some.inj H
         go_enter Tryd.func35,Tryd.ntmps35
         go_wp2_with (first|((with_reducible refine gate_dst (N:=1) rfl ?_);(try (refine gate_guard (by rfl) ?_;dsimp only));refine bE 1 #[.string a0_0,.string a0_1,.int .i64 a0_2,.int .i64 a0_3,.bool a0_4,.slice A0_5 l0_5.length c0_5,.string a0_6] 73 ?_;intro gb159 hg w23 hbox hb;have BK159:=As0.mk (hbox);have GW159:=As0.mk ((by rw [hg];exact (bsz (by repeat (first|(with_reducible first|exact HB.out|apply bal|apply pbN|apply bd1)|exact HB.out))):w.heap.size ≤ gb159));have GE159:=GW159;replace HB:=As0.mk (b3 HB.out hb);clear hb hbox hg;obtain ⟨hcz24_0,hcz24_1,hcz24_2,hcz24_3,hcz24_4,hcz24_5,hcz24_6⟩:=qc7 BK159.out;obtain ⟨hfz24_0,hfz24_1,hfz24_2,hfz24_3,hfz24_4,hfz24_5,hfz24_6⟩:=qz7 BK159.out)|((with_reducible refine gca (f:=59) rfl ?_);refine gL (some 5) Tryd.func59 #[.string a0_0] ?_;(with_reducible refine (spec_NameOk.calls k a0_0 true _ A2.out).mono ?_);rintro e w' ⟨rfl,⟨nd,rfl⟩⟩;refine ⟨_,rfl,?_⟩)|(go_at_call 59;(with_reducible refine (spec_NameOk.calls k a0_1 true _ A4.out).mono ?_);rintro e w' ⟨rfl,⟨nd,rfl⟩⟩)|(go_at_call 13;(with_reducible refine (spec_l1In.calls a0_2 1 99999 true _ A6.out).mono ?_);rintro e w' ⟨rfl,⟨nd,rfl⟩⟩)|(go_at_call 13;(with_reducible refine (spec_l1In.calls a0_3 1 99999 false _ A8.out).mono ?_);rintro e w' ⟨rfl,⟨nd,rfl⟩⟩))
         go_ret
         exact ⟨eW,by repeat (first|(with_reducible first|exact HB.out|apply bal|apply pbN|apply bd1|refine bst ?_ GE159.out)|exact HB.out)⟩
     · replace c7:=Bool.eq_false_iff.mpr c7
       subst c7;have H1:(some false) = some r:=by rw [if_neg (show ¬ (false = true) by decide)] at H;exact H
       clear H;have H:=H1;clear H1;obtain rfl:=Option.some.inj H
       go_enter Tryd.func35,Tryd.ntmps35
       go_wp2_with (first|((with_reducible refine gate_dst (N:=1) rfl ?_);(try (refine gate_guard (by rfl) ?_;dsimp only));refine bE 1 #[.string a0_0,.string a0_1,.int .i64 a0_2,.int .i64 a0_3,.bool a0_4,.slice A0_5 l0_5.length c0_5,.string a0_6] 73 ?_;intro gb159 hg w25 hbox hb;have BK159:=As0.mk (hbox);have GW159:=As0.mk ((by rw [hg];exact (bsz (by repeat (first|(with_reducible first|exact HB.out|apply bal|apply pbN|apply bd1)|exact HB.out))):w.heap.size ≤ gb159));have GE159:=GW159;replace HB:=As0.mk (b3 HB.out hb);clear hb hbox hg;obtain ⟨hcz26_0,hcz26_1,hcz26_2,hcz26_3,hcz26_4,hcz26_5,hcz26_6⟩:=qc7 BK159.out;obtain ⟨hfz26_0,hfz26_1,hfz26_2,hfz26_3,hfz26_4,hfz26_5,hfz26_6⟩:=qz7 BK159.out)|((with_reducible refine gca (f:=59) rfl ?_);refine gL (some 5) Tryd.func59 #[.string a0_0] ?_;(with_reducible refine (spec_NameOk.calls k a0_0 true _ A2.out).mono ?_);rintro e w' ⟨rfl,⟨nd,rfl⟩⟩;refine ⟨_,rfl,?_⟩)|(go_at_call 59;(with_reducible refine (spec_NameOk.calls k a0_1 true _ A4.out).mono ?_);rintro e w' ⟨rfl,⟨nd,rfl⟩⟩)|(go_at_call 13;(with_reducible refine (spec_l1In.calls a0_2 1 99999 false _ A6.out).mono ?_);rintro e w' ⟨rfl,⟨nd,rfl⟩⟩))
       go_ret
       exact ⟨eW,by repeat (first|(with_reducible first|exact HB.out|apply bal|apply pbN|apply bd1|refine bst ?_ GE159.out)|exact HB.out)⟩
   · replace c5:=Bool.eq_false_iff.mpr c5
     subst c5;have H1:(some false) = some r:=by rw [if_neg (show ¬ (false = true) by decide)] at H;exact H
     clear H;have H:=H1;clear H1;obtain rfl:=Option.some.inj H
     go_enter Tryd.func35,Tryd.ntmps35
     go_wp2_with (first|((with_reducible refine gate_dst (N:=1) rfl ?_);(try (refine gate_guard (by rfl) ?_;dsimp only));refine bE 1 #[.string a0_0,.string a0_1,.int .i64 a0_2,.int .i64 a0_3,.bool a0_4,.slice A0_5 l0_5.length c0_5,.string a0_6] 73 ?_;intro gb159 hg w27 hbox hb;have BK159:=As0.mk (hbox);have GW159:=As0.mk ((by rw [hg];exact (bsz (by repeat (first|(with_reducible first|exact HB.out|apply bal|apply pbN|apply bd1)|exact HB.out))):w.heap.size ≤ gb159));have GE159:=GW159;replace HB:=As0.mk (b3 HB.out hb);clear hb hbox hg;obtain ⟨hcz28_0,hcz28_1,hcz28_2,hcz28_3,hcz28_4,hcz28_5,hcz28_6⟩:=qc7 BK159.out;obtain ⟨hfz28_0,hfz28_1,hfz28_2,hfz28_3,hfz28_4,hfz28_5,hfz28_6⟩:=qz7 BK159.out)|((with_reducible refine gca (f:=59) rfl ?_);refine gL (some 5) Tryd.func59 #[.string a0_0] ?_;(with_reducible refine (spec_NameOk.calls k a0_0 true _ A2.out).mono ?_);rintro e w' ⟨rfl,⟨nd,rfl⟩⟩;refine ⟨_,rfl,?_⟩)|(go_at_call 59;(with_reducible refine (spec_NameOk.calls k a0_1 false _ A4.out).mono ?_);rintro e w' ⟨rfl,⟨nd,rfl⟩⟩))
     go_ret
     exact ⟨eW,by repeat (first|(with_reducible first|exact HB.out|apply bal|apply pbN|apply bd1|refine bst ?_ GE159.out)|exact HB.out)⟩
 · replace c3:=Bool.eq_false_iff.mpr c3
   subst c3;have H1:(some false) = some r:=by rw [if_neg (show ¬ (false = true) by decide)] at H;exact H
   clear H;have H:=H1;clear H1;obtain rfl:=Option.some.inj H
   go_enter Tryd.func35,Tryd.ntmps35
   go_wp2_with (first|((with_reducible refine gate_dst (N:=1) rfl ?_);(try (refine gate_guard (by rfl) ?_;dsimp only));refine bE 1 #[.string a0_0,.string a0_1,.int .i64 a0_2,.int .i64 a0_3,.bool a0_4,.slice A0_5 l0_5.length c0_5,.string a0_6] 73 ?_;intro gb159 hg w29 hbox hb;have BK159:=As0.mk (hbox);have GW159:=As0.mk ((by rw [hg];exact (bsz (by repeat (first|(with_reducible first|exact HB.out|apply bal|apply pbN|apply bd1)|exact HB.out))):w.heap.size ≤ gb159));have GE159:=GW159;replace HB:=As0.mk (b3 HB.out hb);clear hb hbox hg;obtain ⟨hcz30_0,hcz30_1,hcz30_2,hcz30_3,hcz30_4,hcz30_5,hcz30_6⟩:=qc7 BK159.out;obtain ⟨hfz30_0,hfz30_1,hfz30_2,hfz30_3,hfz30_4,hfz30_5,hfz30_6⟩:=qz7 BK159.out)|((with_reducible refine gca (f:=59) rfl ?_);refine gL (some 5) Tryd.func59 #[.string a0_0] ?_;(with_reducible refine (spec_NameOk.calls k a0_0 false _ A2.out).mono ?_);rintro e w' ⟨rfl,⟨nd,rfl⟩⟩;refine ⟨_,rfl,?_⟩))
   go_ret
   exact ⟨eW,by repeat (first|(with_reducible first|exact HB.out|apply bal|apply pbN|apply bd1|refine bst ?_ GE159.out)|exact HB.out)⟩
def spec_l10Less.f (a0_0:ByteArray) (a0_1:ByteArray) (a0_2:Int) (a0_3:Int) (a0_4:Bool) (l0_5:List ByteArray) (a0_6:ByteArray) (a1_0:ByteArray) (a1_1:ByteArray) (a1_2:Int) (a1_3:Int) (a1_4:Bool) (l1_5:List ByteArray) (a1_6:ByteArray):Option (Bool):=if (Op.bytesLess a0_0.toList a1_0.toList) = true then (some true) else (if a0_0.toList = a1_0.toList then (some (Op.bytesLess a0_1.toList a1_1.toList)) else (some false))
set_option maxHeartbeats 40000000 in
set_option maxRecDepth 100000 in
theorem spec_l10Less.calls (a0_0:ByteArray) (a0_1:ByteArray) (a0_2:Int) (a0_3:Int) (a0_4:Bool) (A0_5:Option Addr) (c0_5:Nat) (l0_5:List ByteArray) (a0_6:ByteArray) (a1_0:ByteArray) (a1_1:ByteArray) (a1_2:Int) (a1_3:Int) (a1_4:Bool) (A1_5:Option Addr) (c1_5:Nat) (l1_5:List ByteArray) (a1_6:ByteArray) (r:Bool) (w:World) (hr0_5:Kd.C Kd.string w A0_5 l0_5.length l0_5) (hc0_5:l0_5.length ≤ c0_5) (hr1_5:Kd.C Kd.string w A1_5 l1_5.length l1_5) (hc1_5:l1_5.length ≤ c1_5) (h:spec_l10Less.f a0_0 a0_1 a0_2 a0_3 a0_4 l0_5 a0_6 a1_0 a1_1 a1_2 a1_3 a1_4 l1_5 a1_6 = some r) :
 Calls Tryd.prog 36 #[.agg #[.string a0_0,.string a0_1,.int .i64 a0_2,.int .i64 a0_3,.bool a0_4,.slice A0_5 l0_5.length c0_5,.string a0_6],.agg #[.string a1_0,.string a1_1,.int .i64 a1_2,.int .i64 a1_3,.bool a1_4,.slice A1_5 l1_5.length c1_5,.string a1_6]] w fun e w'=>e = .returned (.bool r) ∧ Below w.heap.size w w':=by
 have hu73:=Tryd.underlying73;have HR0_5:=As0.mk hr0_5;have HC0_5:=As0.mk hc0_5;clear hr0_5 hc0_5;have HR1_5:=As0.mk hr1_5;have HC1_5:=As0.mk hc1_5;clear hr1_5 hc1_5;have HB:=As0.mk (Below.refl w.heap.size w);have H:(if (Op.bytesLess a0_0.toList a1_0.toList) = true then (some true) else (if a0_0.toList = a1_0.toList then (some (Op.bytesLess a0_1.toList a1_1.toList)) else (some false))) = some r:=h;clear h;by_cases c3:(Op.bytesLess a0_0.toList a1_0.toList) = true
 · rw [if_pos c3] at H
   have c3b0:(Op.bytesLess a0_0.toList a1_0.toList) = true:=c3;clear c3;obtain rfl:=Option.some.inj H
   go_enter Tryd.func36,Tryd.ntmps36
   go_wp2_with (first|((with_reducible refine gate_dst (N:=2) rfl ?_);refine bE 2 #[.string a0_0,.string a0_1,.int .i64 a0_2,.int .i64 a0_3,.bool a0_4,.slice A0_5 l0_5.length c0_5,.string a0_6] 73 ?_;intro gb166 hg w4 hbox hb;have BK166:=As0.mk (hbox);have GW166:=As0.mk ((by rw [hg];exact (bsz (by repeat (first|(with_reducible first|exact HB.out|apply bal|apply pbN|apply bd1)|exact HB.out))):w.heap.size ≤ gb166));have GE166:=GW166;replace HB:=As0.mk (b3 HB.out hb);clear hb hbox hg)|((with_reducible refine gate_dst (N:=3) rfl ?_);refine bE 3 #[.string a1_0,.string a1_1,.int .i64 a1_2,.int .i64 a1_3,.bool a1_4,.slice A1_5 l1_5.length c1_5,.string a1_6] 73 ?_;intro gb167 hg w5 hbox hb;have BK167:=As0.mk (hbox);have GW167:=As0.mk ((by rw [hg];exact (bsz (by repeat (first|(with_reducible first|exact HB.out|apply bal|apply pbN|apply bd1|refine bst ?_ GE166.out)|exact HB.out))):w.heap.size ≤ gb167));have GE167:=GW167;replace HB:=As0.mk (bsp (by repeat (first|(with_reducible first|exact HB.out|apply bal|apply pbN|apply bd1|refine bst ?_ GE166.out)|exact HB.out)) hb);have NB166_167:=As0.mk ((by rw [hg];exact Nat.ne_of_lt (blk_lt (g:=gb166) (o:=.cells #[.string a0_0,.string a0_1,.int .i64 a0_2,.int .i64 a0_3,.bool a0_4,.slice A0_5 l0_5.length c0_5,.string a0_6] 73 (0,0)) (by (with_reducible repeat (first|refine bkN ?_ _|refine bkD ?_|refine bkA ?_ _));exact BK166.out)):gb166 ≠ gb167));have NB167_166:=As0.mk (Ne.symm NB166_167.out);replace BK166:=As0.mk (bb hb BK166.out);clear hb hbox hg;have hnb6:=NB166_167.out;have hnc6:=NB167_166.out;obtain ⟨hcz7_0,hcz7_1,hcz7_2,hcz7_3,hcz7_4,hcz7_5,hcz7_6⟩:=qc7 BK166.out;obtain ⟨hfz7_0,hfz7_1,hfz7_2,hfz7_3,hfz7_4,hfz7_5,hfz7_6⟩:=qz7 BK166.out;obtain ⟨hcz8_0,hcz8_1,hcz8_2,hcz8_3,hcz8_4,hcz8_5,hcz8_6⟩:=qc7 BK167.out;obtain ⟨hfz8_0,hfz8_1,hfz8_2,hfz8_3,hfz8_4,hfz8_5,hfz8_6⟩:=qz7 BK167.out))
   go_ret
   exact ⟨eW,by repeat (first|(with_reducible first|exact HB.out|apply bal|apply pbN|apply bd1|refine bst ?_ GE166.out|refine bst ?_ GE167.out)|exact HB.out)⟩
 · rw [if_neg c3] at H
   have c3b0:(Op.bytesLess a0_0.toList a1_0.toList) = false:=by simpa using c3
   clear c3;by_cases c9:a0_0.toList = a1_0.toList
   · rw [if_pos c9] at H
     have c9b0:(a0_0.toList == a1_0.toList) = true:=beq_iff_eq.mpr c9;have c9b1:(a0_0.toList != a1_0.toList) = false:=bne_eq_false_iff_eq.mpr c9;clear c9;obtain rfl:=Option.some.inj H
     go_enter Tryd.func36,Tryd.ntmps36
     go_wp2_with (first|((with_reducible refine gate_dst (N:=2) rfl ?_);refine bE 2 #[.string a0_0,.string a0_1,.int .i64 a0_2,.int .i64 a0_3,.bool a0_4,.slice A0_5 l0_5.length c0_5,.string a0_6] 73 ?_;intro gb166 hg w10 hbox hb;have BK166:=As0.mk (hbox);have GW166:=As0.mk ((by rw [hg];exact (bsz (by repeat (first|(with_reducible first|exact HB.out|apply bal|apply pbN|apply bd1)|exact HB.out))):w.heap.size ≤ gb166));have GE166:=GW166;replace HB:=As0.mk (b3 HB.out hb);clear hb hbox hg)|((with_reducible refine gate_dst (N:=3) rfl ?_);refine bE 3 #[.string a1_0,.string a1_1,.int .i64 a1_2,.int .i64 a1_3,.bool a1_4,.slice A1_5 l1_5.length c1_5,.string a1_6] 73 ?_;intro gb167 hg w11 hbox hb;have BK167:=As0.mk (hbox);have GW167:=As0.mk ((by rw [hg];exact (bsz (by repeat (first|(with_reducible first|exact HB.out|apply bal|apply pbN|apply bd1|refine bst ?_ GE166.out)|exact HB.out))):w.heap.size ≤ gb167));have GE167:=GW167;replace HB:=As0.mk (bsp (by repeat (first|(with_reducible first|exact HB.out|apply bal|apply pbN|apply bd1|refine bst ?_ GE166.out)|exact HB.out)) hb);have NB166_167:=As0.mk ((by rw [hg];exact Nat.ne_of_lt (blk_lt (g:=gb166) (o:=.cells #[.string a0_0,.string a0_1,.int .i64 a0_2,.int .i64 a0_3,.bool a0_4,.slice A0_5 l0_5.length c0_5,.string a0_6] 73 (0,0)) (by (with_reducible repeat (first|refine bkN ?_ _|refine bkD ?_|refine bkA ?_ _));exact BK166.out)):gb166 ≠ gb167));have NB167_166:=As0.mk (Ne.symm NB166_167.out);replace BK166:=As0.mk (bb hb BK166.out);clear hb hbox hg;have hnb12:=NB166_167.out;have hnc12:=NB167_166.out;obtain ⟨hcz13_0,hcz13_1,hcz13_2,hcz13_3,hcz13_4,hcz13_5,hcz13_6⟩:=qc7 BK166.out;obtain ⟨hfz13_0,hfz13_1,hfz13_2,hfz13_3,hfz13_4,hfz13_5,hfz13_6⟩:=qz7 BK166.out;obtain ⟨hcz14_0,hcz14_1,hcz14_2,hcz14_3,hcz14_4,hcz14_5,hcz14_6⟩:=qc7 BK167.out;obtain ⟨hfz14_0,hfz14_1,hfz14_2,hfz14_3,hfz14_4,hfz14_5,hfz14_6⟩:=qz7 BK167.out))
     go_ret
     exact ⟨eW,by repeat (first|(with_reducible first|exact HB.out|apply bal|apply pbN|apply bd1|refine bst ?_ GE166.out|refine bst ?_ GE167.out)|exact HB.out)⟩
   · rw [if_neg c9] at H
     have c9b0:(a0_0.toList == a1_0.toList) = false:=beq_eq_false_iff_ne.mpr c9;have c9b1:(a0_0.toList != a1_0.toList) = true:=bne_iff_ne.mpr c9;obtain rfl:=Option.some.inj H
     go_enter Tryd.func36,Tryd.ntmps36
     go_wp2_with (first|((with_reducible refine gate_dst (N:=2) rfl ?_);refine bE 2 #[.string a0_0,.string a0_1,.int .i64 a0_2,.int .i64 a0_3,.bool a0_4,.slice A0_5 l0_5.length c0_5,.string a0_6] 73 ?_;intro gb166 hg w15 hbox hb;have BK166:=As0.mk (hbox);have GW166:=As0.mk ((by rw [hg];exact (bsz (by repeat (first|(with_reducible first|exact HB.out|apply bal|apply pbN|apply bd1)|exact HB.out))):w.heap.size ≤ gb166));have GE166:=GW166;replace HB:=As0.mk (b3 HB.out hb);clear hb hbox hg)|((with_reducible refine gate_dst (N:=3) rfl ?_);refine bE 3 #[.string a1_0,.string a1_1,.int .i64 a1_2,.int .i64 a1_3,.bool a1_4,.slice A1_5 l1_5.length c1_5,.string a1_6] 73 ?_;intro gb167 hg w16 hbox hb;have BK167:=As0.mk (hbox);have GW167:=As0.mk ((by rw [hg];exact (bsz (by repeat (first|(with_reducible first|exact HB.out|apply bal|apply pbN|apply bd1|refine bst ?_ GE166.out)|exact HB.out))):w.heap.size ≤ gb167));have GE167:=GW167;replace HB:=As0.mk (bsp (by repeat (first|(with_reducible first|exact HB.out|apply bal|apply pbN|apply bd1|refine bst ?_ GE166.out)|exact HB.out)) hb);have NB166_167:=As0.mk ((by rw [hg];exact Nat.ne_of_lt (blk_lt (g:=gb166) (o:=.cells #[.string a0_0,.string a0_1,.int .i64 a0_2,.int .i64 a0_3,.bool a0_4,.slice A0_5 l0_5.length c0_5,.string a0_6] 73 (0,0)) (by (with_reducible repeat (first|refine bkN ?_ _|refine bkD ?_|refine bkA ?_ _));exact BK166.out)):gb166 ≠ gb167));have NB167_166:=As0.mk (Ne.symm NB166_167.out);replace BK166:=As0.mk (bb hb BK166.out);clear hb hbox hg;have hnb17:=NB166_167.out;have hnc17:=NB167_166.out;obtain ⟨hcz18_0,hcz18_1,hcz18_2,hcz18_3,hcz18_4,hcz18_5,hcz18_6⟩:=qc7 BK166.out;obtain ⟨hfz18_0,hfz18_1,hfz18_2,hfz18_3,hfz18_4,hfz18_5,hfz18_6⟩:=qz7 BK166.out;obtain ⟨hcz19_0,hcz19_1,hcz19_2,hcz19_3,hcz19_4,hcz19_5,hcz19_6⟩:=qc7 BK167.out;obtain ⟨hfz19_0,hfz19_1,hfz19_2,hfz19_3,hfz19_4,hfz19_5,hfz19_6⟩:=qz7 BK167.out))
     go_ret
     exact ⟨eW,by repeat (first|(with_reducible first|exact HB.out|apply bal|apply pbN|apply bd1|refine bst ?_ GE166.out|refine bst ?_ GE167.out)|exact HB.out)⟩
end Go.Proofs.YtclgmogfkoinbaaDoor.P
/- Worlds that keep what stood, boxes of five and seven cells, and a region of open order that only reads (and makes). -/
namespace Go.Proofs.YtclgmogfkoinbaaDoor.P
open Go.RowKit Go.Proofs.YtclgmogfkoinbaaDoorW.PrintWords Go.Proofs.YtclgmogfkoinbaaDoorW.PrintLast Go.Proofs.YtclgmogfkoinbaaDoorW.PrintMore
structure mq.QW (w:World) where
 u:World
 le:Below w.heap.size w u
instance mq.inst (w:World):Nonempty (mq.QW w):=⟨⟨w,Below.refl _ _⟩⟩
theorem mq.cell {w:World} {a:Addr} {v:Value} (h:w.cell? a = some v) (x:mq.QW w):x.1.cell? a = some v:=(x.2.cell (World.block_lt_of_cell? w _ h)).trans h
theorem mq.c7 {w:World} {g:Nat} {t:TypeId} {a b c d e f i:Value} (h:w.heap[g]? = some (.cells #[a,b,c,d,e,f,i] t (0,0))):(∀ x:mq.QW w,x.1.cell? ⟨g,0,none⟩ = some a) ∧ (∀ x:mq.QW w,x.1.cell? ⟨g,1,none⟩ = some b) ∧ (∀ x:mq.QW w,x.1.cell? ⟨g,2,none⟩ = some c) ∧ (∀ x:mq.QW w,x.1.cell? ⟨g,3,none⟩ = some d) ∧ (∀ x:mq.QW w,x.1.cell? ⟨g,4,none⟩ = some e) ∧ (∀ x:mq.QW w,x.1.cell? ⟨g,5,none⟩ = some f) ∧ (∀ x:mq.QW w,x.1.cell? ⟨g,6,none⟩ = some i):=
 ⟨mq.cell ((bkC h 0).trans rfl),mq.cell ((bkC h 1).trans rfl),mq.cell ((bkC h 2).trans rfl),mq.cell ((bkC h 3).trans rfl),mq.cell ((bkC h 4).trans rfl),mq.cell ((bkC h 5).trans rfl),mq.cell ((bkC h 6).trans rfl)⟩
theorem mq.b7 {w:World} {g:Nat} {t:TypeId} {a b c d e f i:Value} (h:w.heap[g]? = some (.cells #[a,b,c,d,e,f,i] t (0,0))):w.cell? ⟨g,0,none⟩ = some a ∧ w.cell? ⟨g,1,none⟩ = some b ∧ w.cell? ⟨g,2,none⟩ = some c ∧ w.cell? ⟨g,3,none⟩ = some d ∧ w.cell? ⟨g,4,none⟩ = some e ∧ w.cell? ⟨g,5,none⟩ = some f ∧ w.cell? ⟨g,6,none⟩ = some i:=
 ⟨(bkC h 0).trans rfl,(bkC h 1).trans rfl,(bkC h 2).trans rfl,(bkC h 3).trans rfl,(bkC h 4).trans rfl,(bkC h 5).trans rfl,(bkC h 6).trans rfl⟩
theorem mq.b5 {w:World} {g:Nat} {t:TypeId} {a b c d e:Value} (h:w.heap[g]? = some (.cells #[a,b,c,d,e] t (0,0))):w.cell? ⟨g,0,none⟩ = some a ∧ w.cell? ⟨g,1,none⟩ = some b ∧ w.cell? ⟨g,2,none⟩ = some c ∧ w.cell? ⟨g,3,none⟩ = some d ∧ w.cell? ⟨g,4,none⟩ = some e:=
 ⟨(bkC h 0).trans rfl,(bkC h 1).trans rfl,(bkC h 2).trans rfl,(bkC h 3).trans rfl,(bkC h 4).trans rfl⟩
def mq.put5 (w:World) (g:Nat) (a b c d e:Value):World:=(((((w.setCell ⟨g,0,none⟩ a).setCell ⟨g,1,none⟩ b).setCell ⟨g,2,none⟩ c).setCell ⟨g,3,none⟩ d).setCell ⟨g,4,none⟩ e)
def mq.put7 (w:World) (g:Nat) (a b c d e f i:Value):World:=(((mq.put5 w g a b c d e).setCell ⟨g,5,none⟩ f).setCell ⟨g,6,none⟩ i)
theorem mq.blk5 {w:World} {g:Nat} {t:TypeId} {z0 z1 z2 z3 z4:Value} (h:w.heap[g]? = some (.cells #[z0,z1,z2,z3,z4] t (0,0))) {a b c d e:Value} {W2:World} (hw:W2 = mq.put5 w g a b c d e):W2.heap[g]? = some (.cells #[a,b,c,d,e] t (0,0)):=by
 subst hw
 exact blk_put (blk_put (blk_put (blk_put (blk_put h 0 a rfl) 1 b rfl) 2 c rfl) 3 d rfl) 4 e rfl
theorem mq.blk5x {w:World} {g:Nat} {t:TypeId} {z0 z1 z2 z3 z4 z5 z6:Value} (h:w.heap[g]? = some (.cells #[z0,z1,z2,z3,z4,z5,z6] t (0,0))) (a b c d e:Value):(mq.put5 w g a b c d e).heap[g]? = some (.cells #[a,b,c,d,e,z5,z6] t (0,0)):=
 blk_put (blk_put (blk_put (blk_put (blk_put h 0 a rfl) 1 b rfl) 2 c rfl) 3 d rfl) 4 e rfl
theorem mq.region {P:Program} {id:Nat} {Q:Exit → Act → World → Prop} {a:Act} {w:World} {l:List Oper} (hm:P.follows .mixedOrders = true) (hB:Region.lexB .any l.toArray = true)
 (h:wpQuiet P l.toArray (fun w'=>∃ x:mq.QW w,w' = x.1) (fun a'=>∀ w',Below w.heap.size w w' → Q .normal a' w') l a):(Code.region id l.toArray true).wp P Q a w:=
 wp_region_quiet (C:=fun w'=>∃ x:mq.QW w,w' = x.1) hm hB ⟨⟨w.drew,bd1 (Below.refl _ _)⟩,rfl⟩ (by
  have e:(fun a':Act=>∀ w':World,(∃ x:mq.QW w,w' = x.1) → Q .normal a' w') = fun a'=>∀ w',Below w.heap.size w w' → Q .normal a' w':=by
   funext a'
   exact propext ⟨fun h w' hw=>h w' ⟨⟨w',hw⟩,rfl⟩,fun h w' ⟨x,hx⟩=>hx ▸ h x.1 x.2⟩
  rw [e];simpa using h)
theorem mq.wid {i:Int} (h:-9223372036854775808 ≤ i) (h':i ≤ 9223372036854775807):wrap64 i = i:=by unfold wrap64;omega
theorem mq.blk7 {w:World} {g:Nat} {t:TypeId} {z0 z1 z2 z3 z4 z5 z6:Value} (h:w.heap[g]? = some (.cells #[z0,z1,z2,z3,z4,z5,z6] t (0,0))) {a b c d e f i:Value} {W2:World} (hw:W2 = mq.put7 w g a b c d e f i):W2.heap[g]? = some (.cells #[a,b,c,d,e,f,i] t (0,0)):=by
 subst hw
 exact blk_put (blk_put (mq.blk5x h a b c d e) 5 f rfl) 6 i rfl
theorem mq.below5 {w W W2:World} {g:Nat} {a b c d e:Value} (h:Below w.heap.size w W) (hg:w.heap.size ≤ g) (hw:W2 = mq.put5 W g a b c d e):Below w.heap.size w W2:=by
 subst hw
 exact bst (bst (bst (bst (bst h hg) hg) hg) hg) hg
theorem mq.below7 {w W W2:World} {g:Nat} {a b c d e f i:Value} (h:Below w.heap.size w W) (hg:w.heap.size ≤ g) (hw:W2 = mq.put7 W g a b c d e f i):Below w.heap.size w W2:=by
 subst hw
 exact bst (bst (mq.below5 h hg rfl) hg) hg
end Go.Proofs.YtclgmogfkoinbaaDoor.P
namespace Go.Proofs.YtclgmogfkoinbaaDoor.P
open Go.RowKit Go.Proofs.YtclgmogfkoinbaaDoorW.PrintWords Go.Proofs.YtclgmogfkoinbaaDoorW.PrintLast Go.Proofs.YtclgmogfkoinbaaDoorW.PrintMore
attribute [local go_sem] max2_int min2_int max_two min_two max_three min_three max_four min_four
set_option linter.unusedVariables false
set_option linter.unusedSimpArgs false
def spec_l10Things.th (k:Nat) (rev uid:Int) (sp:List (SiS28)) (x:SiT29) (p:Option (SiT29)):Option Bool:=
 (spec_ThingOk.f k x.f0 x.f1 x.f2 x.f3 x.f4 x.f5 x.f6).bind fun b=>if b = true then (spec_l8At.f k sp x.f0).bind fun i=>if i < 0 then some false else if rev < x.f3 then some false else if uid < x.f2 then some false else (match p with|none=>some true|some y=>(spec_l10Less.f y.f0 y.f1 y.f2 y.f3 y.f4 y.f5 y.f6 x.f0 x.f1 x.f2 x.f3 x.f4 x.f5 x.f6).bind fun c=>some c) else some false
def spec_l10Things.l1 (k:Nat) (rev uid:Int) (sp:List (SiS28)) (T:List (SiT29)):Nat → Int → Option Bool
 |0,_=>some true
 |m + 1,i=>(spec_l10Things.th k rev uid sp (riT38 T i) (if 0 < i then some (riT38 T (i - 1)) else none)).bind fun b=>if b = true then (if (T.take i.toNat).any (fun y=>decide (y.f2 = (riT38 T i).f2)) = true then some false else spec_l10Things.l1 k rev uid sp T m (i + 1)) else some false
def spec_l10Things.f (k:Nat) (rev uid fl:Int) (sp:List (SiS28)) (us:List (SiU30)) (T:List (SiT29)) (P:List (SiP27)):Option Bool:=
 (spec_l10Things.l1 k rev uid sp T T.length 0).bind fun b=>if b = true then some (decide (T.length ≤ 10)) else some false
theorem spec_l10Things.th_cases {k:Nat} {rev uid:Int} {sp:List (SiS28)} {x y:SiT29} {p:Option (SiT29)} {b:Bool} (h:spec_l10Things.th k rev uid sp x p = some b) (hp:p = none ∨ p = some y) :
 (b = false ∧ As0 (spec_ThingOk.f k x.f0 x.f1 x.f2 x.f3 x.f4 x.f5 x.f6 = some false)) ∨ (∃ i,(b = false ∧ As0 (spec_ThingOk.f k x.f0 x.f1 x.f2 x.f3 x.f4 x.f5 x.f6 = some true) ∧ As0 (spec_l8At.f k sp x.f0 = some i) ∧ decide (i < 0) = true)) ∨ (∃ i,(b = false ∧ As0 (spec_ThingOk.f k x.f0 x.f1 x.f2 x.f3 x.f4 x.f5 x.f6 = some true) ∧ As0 (spec_l8At.f k sp x.f0 = some i) ∧ decide (i < 0) = false ∧ decide (rev < x.f3) = true)) ∨ (∃ i,(b = false ∧ As0 (spec_ThingOk.f k x.f0 x.f1 x.f2 x.f3 x.f4 x.f5 x.f6 = some true) ∧ As0 (spec_l8At.f k sp x.f0 = some i) ∧ decide (i < 0) = false ∧ decide (rev < x.f3) = false ∧ decide (uid < x.f2) = true)) ∨ (∃ i,(p = none ∧ b = true ∧ As0 (spec_ThingOk.f k x.f0 x.f1 x.f2 x.f3 x.f4 x.f5 x.f6 = some true) ∧ As0 (spec_l8At.f k sp x.f0 = some i) ∧ decide (i < 0) = false ∧ decide (rev < x.f3) = false ∧ decide (uid < x.f2) = false)) ∨ (∃ i,(p = some y ∧ As0 (spec_ThingOk.f k x.f0 x.f1 x.f2 x.f3 x.f4 x.f5 x.f6 = some true) ∧ As0 (spec_l8At.f k sp x.f0 = some i) ∧ decide (i < 0) = false ∧ decide (rev < x.f3) = false ∧ decide (uid < x.f2) = false ∧ As0 (spec_l10Less.f y.f0 y.f1 y.f2 y.f3 y.f4 y.f5 y.f6 x.f0 x.f1 x.f2 x.f3 x.f4 x.f5 x.f6 = some b))):=by
 unfold spec_l10Things.th at h;obtain ⟨t,ht,h⟩:=Option.bind_eq_some_iff.mp h
 cases t with
 |false=>exact .inl ⟨by simpa using h.symm,⟨ht⟩⟩
 |true=>
 rw [if_pos rfl] at h;obtain ⟨i,hi,h⟩:=Option.bind_eq_some_iff.mp h;by_cases c1:i < 0
 · rw [if_pos c1] at h;exact .inr (.inl ⟨i,(Option.some.inj h).symm,⟨ht⟩,⟨hi⟩,decide_eq_true c1⟩)
 rw [if_neg c1] at h;by_cases c2:rev < x.f3
 · rw [if_pos c2] at h;exact .inr (.inr (.inl ⟨i,(Option.some.inj h).symm,⟨ht⟩,⟨hi⟩,decide_eq_false c1,decide_eq_true c2⟩))
 rw [if_neg c2] at h;by_cases c3:uid < x.f2
 · rw [if_pos c3] at h;exact .inr (.inr (.inr (.inl ⟨i,(Option.some.inj h).symm,⟨ht⟩,⟨hi⟩,decide_eq_false c1,decide_eq_false c2,decide_eq_true c3⟩)))
 rw [if_neg c3] at h;rcases hp with rfl|rfl
 · exact .inr (.inr (.inr (.inr (.inl ⟨i,rfl,(Option.some.inj h).symm,⟨ht⟩,⟨hi⟩,decide_eq_false c1,decide_eq_false c2,decide_eq_false c3⟩))))
 · obtain ⟨c,hc,h⟩:=Option.bind_eq_some_iff.mp h
   obtain rfl:=Option.some.inj h
   exact .inr (.inr (.inr (.inr (.inr ⟨i,rfl,⟨ht⟩,⟨hi⟩,decide_eq_false c1,decide_eq_false c2,decide_eq_false c3,⟨hc⟩⟩))))
set_option maxHeartbeats 16000000 in
set_option maxRecDepth 100000 in
theorem spec_l10Things.calls (k:Nat) (rev uid fl:Int) (A3:Option Addr) (c3:Nat) (sp:List (SiS28)) (A4:Option Addr) (c4:Nat) (us:List (SiU30)) (A5:Option Addr) (c5:Nat) (T:List (SiT29)) (A6:Option Addr) (c6:Nat) (P:List (SiP27)) (r:Bool) (w:World) (hr3:Kd.C k47 w A3 sp.length sp) (hc3:sp.length ≤ c3) (hr4:Kd.C k49 w A4 us.length us) (hc4:us.length ≤ c4) (hr5:Kd.C k73 w A5 T.length T) (hc5:T.length ≤ c5) (hr6:Kd.C k77 w A6 P.length P) (hc6:P.length ≤ c6) (h:spec_l10Things.f k rev uid fl sp us T P = some r) :
 Calls Tryd.prog 16 #[.agg #[.int .i64 rev,.int .i64 uid,.int .i64 fl,.slice A3 sp.length c3,.slice A4 us.length c4,.slice A5 T.length c5,.slice A6 P.length c6]] w fun e w'=>e = .returned (.bool r) ∧ Below w.heap.size w w':=by
 have hu28:=Tryd.underlying35;have hu44:=Tryd.underlying73;have HR3:=As0.mk hr3;have HC3:=As0.mk hc3;clear hr3 hc3;have HR4:=As0.mk hr4;have HC4:=As0.mk hc4;clear hr4 hc4;have HR5:=As0.mk hr5;have HC5:=As0.mk hc5;clear hr5 hc5;have HR6:=As0.mk hr6;have HC6:=As0.mk hc6;clear hr6 hc6;have HB:=As0.mk (Below.refl w.heap.size w);unfold spec_l10Things.f at h;obtain ⟨b4,hb4,h⟩:=Option.bind_eq_some_iff.mp h;have H:=As0.mk hb4;have HE:=As0.mk h;clear h hb4;have hb5:T.length ≤ 9223372036854775807:=HR5.out.2.1;have HN5:=As0.mk hb5;clear hb5
 go_enter Tryd.func16,Tryd.ntmps16
 go_wp2_with (first
  |((with_reducible refine gate_dst (N:=1) rfl ?_);refine bE 1 #[.int .i64 rev,.int .i64 uid,.int .i64 fl,.slice A3 sp.length c3,.slice A4 us.length c4,.slice A5 T.length c5,.slice A6 P.length c6] 35 ?_;intro gb hg w1 hbox hb;have n0_:=As0.mk (bsp HB.out hb);have BM:=As0.mk hbox;clear HB hb hg hbox;have HB:=n0_;clear n0_))
 show _;go_loopg [3] T.length (fun m v w'=>∃ ii:Int,v = .int .i64 ii ∧ As0 (0 ≤ ii ∧ ii + m = T.length) ∧ As0 (spec_l10Things.l1 k rev uid sp T m ii = some b4) ∧ As0 (Below w.heap.size w w') ∧ As0 (w'.heap[gb]? = some (.cells #[.int .i64 rev,.int .i64 uid,.int .i64 fl,.slice A3 sp.length c3,.slice A4 us.length c4,.slice A5 T.length c5,.slice A6 P.length c6] 35 (0,0))))
 case atStart=>exact ⟨0,(by first|rfl|(simp;done)),⟨⟨Int.le_refl _,by simp⟩⟩,⟨H.out⟩,HB,BM⟩
 case round=>
  clear HB BM H;obtain ⟨ii,rfl,HM,H,HB,BM⟩:=hrel;obtain ⟨kc0,kc1,kc2,kc3,kc4,kc5,kc6⟩:=mq.b7 BM.out
  cases gk with
  |zero=>
   have hm:=HM.out;have t0:decide (ii < (T.length:Int)) = false:=decide_eq_false (by have:=hm.2;omega);have h:=H.out;rw [spec_l10Things.l1] at h;obtain rfl:=Option.some.inj h;have h:=HE.out;rw [if_pos rfl] at h;obtain rfl:=Option.some.inj h;clear hm HM H HE h
   go_wp2
   go_ret
   exact ⟨by first|rfl|(simp;done)|(congr 2;simp;omega),HB.out⟩
  |succ k2=>
   have hm:=HM.out;have hi0:0 ≤ ii:=hm.1;have hin:ii < (T.length:Int):=by have:=hm.2;omega
   have t0:decide (ii < (T.length:Int)) = true:=decide_eq_true hin;have p0:(0 ≤ ii) = True:=eq_true hi0;have q0:(ii < (T.length:Int)) = True:=eq_true hin;have q1_:(ii.toNat < T.length) = True:=eq_true (by omega);have hw1:wrap64 (ii + 1) = ii + 1:=mq.wid (by have:=HN5.out;omega) (by have:=HN5.out;omega);have W0:=As0.mk hw1;have hit:ii.toNat ≤ T.length:=by omega
   have HM2:=As0.mk (show 0 ≤ ii + 1 ∧ ii + 1 + (k2:Nat) = (T.length:Int) from by have:=hm.2;constructor <;> omega);obtain ⟨ad,X5,y5,e0,hx0,hx1,hx2,hx3,hx4,hx5,hx6,l5,g5⟩:=at_T73 HR5.out ii hi0 hin
   cases e0
   replace hx0:=bx HB.out rfl hx0;replace hx1:=bx HB.out rfl hx1;replace hx2:=bx HB.out rfl hx2;replace hx3:=bx HB.out rfl hx3;replace hx4:=bx HB.out rfl hx4;replace hx5:=bx HB.out rfl hx5;replace hx6:=bx HB.out rfl hx6;have L5:=As0.mk l5;have G5:=As0.mk g5;clear l5 g5;have h:=H.out;rw [spec_l10Things.l1] at h;obtain ⟨b,hb,h⟩:=Option.bind_eq_some_iff.mp h
   show _;go_upto_region 5 with (first
    |((with_reducible refine gate_dst (N:=4) rfl ?_);refine bE 4 #[.string ⟨#[]⟩,.string ⟨#[]⟩,.int .i64 0,.int .i64 0,.bool false,.slice none 0 0,.string ⟨#[]⟩] 73 ?_;intro gx hg w6 hbox hb;have BZ:=As0.mk hbox;have HZ:=As0.mk hb;have GX:=As0.mk (show wr.heap.size ≤ gx from Nat.le_of_eq hg.symm);clear hb hg hbox;have z0:=bkF BZ.out 0;have z1:=bkF BZ.out 1;have z2:=bkF BZ.out 2;have z3:=bkF BZ.out 3;have z4:=bkF BZ.out 4;have z5:=bkF BZ.out 5;have z6:=bkF BZ.out 6;obtain ⟨j0,j1,j2,j3,j4,j5,j6⟩:=mq.b7 BZ.out)
    |((with_reducible refine gate_store (t:=73) (p:=4) rfl ?_);refine store_event (t:=73) (p:=4) (v:=?vo_c) (w1:=mq.put7 w6 gx (.string (riT38 T ii).f0) (.string (riT38 T ii).f1) (.int .i64 (riT38 T ii).f2) (.int .i64 (riT38 T ii).f3) (.bool (riT38 T ii).f4) (.slice X5 (riT38 T ii).f5.length y5) (.string (riT38 T ii).f6)) ?hg ?ho ?hn ?hr ?_;(case ho=>rfl);(case hg=>rfl);(case hn=>rfl);(case hr=>(first|(unfold mq.put7;unfold mq.put5)|unfold mq.put5);first|done|(go_simp;done)|(go_simp;rfl));intro w7 hw;have hb:=mq.below7 HZ.out GX.out hw;have BX:=As0.mk (mq.blk7 BZ.out hw);clear hw HZ BZ GX z0 z1 z2 z3 z4 z5 z6 j0 j1 j2 j3 j4 j5 j6 kc0 kc1 kc2 kc3 kc4 kc5 kc6;have n0_:=As0.mk (bsp HB.out hb);have n1_:=As0.mk (blk_below BM.out hb);clear HB BM hb;have HB:=n0_;have BM:=n1_;clear n0_ n1_;clear hx0 hx1 hx2 hx3 hx4 hx5 hx6))
   (try simp only [Act.put,sA,sZ,sS])
   have hA5:=HC5.out;obtain ⟨q0,q1,q2,q3,q4,q5,q6⟩:=mq.c7 BM.out;obtain ⟨g0,g1,g2,g3,g4,g5_,g6⟩:=mq.c7 BX.out;obtain ⟨y,hy⟩:∃ y,y = riT38 T (ii - 1):=⟨_,rfl⟩
   have hp:(if 0 < ii then some (riT38 T (ii - 1)) else none) = none ∨ (if 0 < ii then some (riT38 T (ii - 1)) else none) = some y:=by
    rw [hy];split <;> simp
   have hn0:(if 0 < ii then some (riT38 T (ii - 1)) else none) = none → decide (0 < ii) = false:=fun h_=>by
    by_cases c_:0 < ii
    · rw [if_pos c_] at h_;cases h_
    · exact decide_eq_false c_
   have hn1:(if 0 < ii then some (riT38 T (ii - 1)) else none) = some y → 0 < ii:=fun h_=>by
    by_cases c_:0 < ii
    · exact c_
    · rw [if_neg c_] at h_;cases h_
   clear hm HM H hw1
   cases b with
   |false=>
    rw [if_neg (by decide)] at h;obtain rfl:=Option.some.inj h;have h:=HE.out;rw [if_neg (by decide)] at h;obtain rfl:=Option.some.inj h;clear h HE;rcases spec_l10Things.th_cases hb hp with ⟨hc,A1⟩|⟨i0,hc,A1,A2,u1⟩|⟨i0,hc,A1,A2,u1,u2⟩|⟨i0,hc,A1,A2,u1,u2,u3⟩|⟨i0,hn,hc,A1,A2,u1,u2,u3⟩|⟨i0,hn,A1,A2,u1,u2,u3,AL6⟩
    rotate_left 5;have hii:=hn1 hn;have v0:decide (0 < ii) = true:=decide_eq_true hii;obtain ⟨pj,hpj⟩:∃ z,ii - 1 = z:=⟨_,rfl⟩;have hj0:0 ≤ pj:=by omega
    have hj1:pj < (T.length:Int):=by omega
    have hj2:pj.toNat < T.length:=by omega
    have hj3:wrap64 (ii - 1) = pj:=by rw [hpj];exact mq.wid (by omega) (by have:=HN5.out;omega)
    have e1:IntKind.i64.wrap (ii - 1) = pj:=(i64_w _).trans hj3;rw [hpj] at hy;subst hy;obtain ⟨ad',Z5,y6,e0,ex0,ex1,ex2,ex3,ex4,ex5,ex6,l6,G6_⟩:=at_T73 HR5.out pj hj0 hj1;obtain rfl:ad = ad':=by injection e0
    have d0:=mq.cell ((HB.out.cell (World.block_lt_of_cell? w _ ex0)).trans ex0);have d1:=mq.cell ((HB.out.cell (World.block_lt_of_cell? w _ ex1)).trans ex1);have d2:=mq.cell ((HB.out.cell (World.block_lt_of_cell? w _ ex2)).trans ex2);have d3:=mq.cell ((HB.out.cell (World.block_lt_of_cell? w _ ex3)).trans ex3);have d4:=mq.cell ((HB.out.cell (World.block_lt_of_cell? w _ ex4)).trans ex4);have d5:=mq.cell ((HB.out.cell (World.block_lt_of_cell? w _ ex5)).trans ex5);have d6:=mq.cell ((HB.out.cell (World.block_lt_of_cell? w _ ex6)).trans ex6);have G6:=As0.mk G6_;have L6:=As0.mk l6;have j0_:(0 ≤ pj) = True:=eq_true hj0;have j1_:(pj < (T.length:Int)) = True:=eq_true hj1;have j2_:(pj.toNat < T.length) = True:=eq_true hj2;clear ex0 ex1 ex2 ex3 ex4 ex5 ex6 G6_ l6 e0 hj0 hj1 hj2 hpj hii;rotate_right
    exact absurd hc (by decide)
    all_goals
     clear hp hn0 hn1 hb hit hin hi0 hA5;refine mq.region (by kernel_rfl) (by kernel_rfl) ?_
     repeat (go_big_quiet_step (first
      |(rename_i x;go_at_call 35;refine (spec_ThingOk.calls k _ _ _ _ _ _ _ _ _ _ _ (Kd.C_below (Kd.C_below G5.out HB.out) x.2) L5.out A1.out).mono ?_;rintro e w8 ⟨rfl,hb⟩;exact ⟨rfl,⟨_,bsp x.2 hb⟩,rfl⟩)
      |(rename_i x;go_at_call 34;refine (spec_l8At.calls k _ _ sp _ _ _ (Kd.C_below (Kd.C_below HR3.out HB.out) x.2) HC3.out A2.out).mono ?_;rintro e w8 ⟨rfl,hd⟩;have hb:=hd.below;exact ⟨rfl,⟨_,bsp x.2 hb⟩,rfl⟩)
      |(rename_i x;go_at_call 36;refine (spec_l10Less.calls _ _ _ _ _ _ _ _ _ _ _ _ _ _ _ _ _ _ _ _ (Kd.C_below (Kd.C_below G6.out HB.out) x.2) L6.out (Kd.C_below (Kd.C_below G5.out HB.out) x.2) L5.out AL6.out).mono ?_;rintro e w8 ⟨rfl,hb⟩;exact ⟨rfl,⟨_,bsp x.2 hb⟩,rfl⟩)))
     refine wpQuiet_nil ?_;intro w8 hb;replace HB:=As0.mk (bsp HB.out hb);replace BM:=As0.mk (blk_below BM.out hb);replace BX:=As0.mk (blk_below BX.out hb);clear hb q0 q1 q2 q3 q4 q5 q6 g0 g1 g2 g3 g4 g5_ g6
     go_wp2
     go_ret
     exact ⟨by first|rfl|(simp;done),HB.out⟩
   |true=>
    rw [if_pos rfl] at h;have HII:=As0.mk (show 0 ≤ ii ∧ ii < (T.length:Int) from ⟨hi0,hin⟩);rcases spec_l10Things.th_cases hb hp with ⟨hc,A1⟩|⟨i0,hc,A1,A2,u1⟩|⟨i0,hc,A1,A2,u1,u2⟩|⟨i0,hc,A1,A2,u1,u2,u3⟩|⟨i0,hn,hc,A1,A2,u1,u2,u3⟩|⟨i0,hn,A1,A2,u1,u2,u3,AL6⟩
    all_goals try exact absurd hc (by decide)
    rotate_left;have hii:=hn1 hn;have v0:decide (0 < ii) = true:=decide_eq_true hii;obtain ⟨pj,hpj⟩:∃ z,ii - 1 = z:=⟨_,rfl⟩;have hj0:0 ≤ pj:=by omega
    have hj1:pj < (T.length:Int):=by omega
    have hj2:pj.toNat < T.length:=by omega
    have hj3:wrap64 (ii - 1) = pj:=by rw [hpj];exact mq.wid (by omega) (by have:=HN5.out;omega)
    have e1:IntKind.i64.wrap (ii - 1) = pj:=(i64_w _).trans hj3;rw [hpj] at hy;subst hy;obtain ⟨ad',Z5,y6,e0,ex0,ex1,ex2,ex3,ex4,ex5,ex6,l6,G6_⟩:=at_T73 HR5.out pj hj0 hj1;obtain rfl:ad = ad':=by injection e0
    have d0:=mq.cell ((HB.out.cell (World.block_lt_of_cell? w _ ex0)).trans ex0);have d1:=mq.cell ((HB.out.cell (World.block_lt_of_cell? w _ ex1)).trans ex1);have d2:=mq.cell ((HB.out.cell (World.block_lt_of_cell? w _ ex2)).trans ex2);have d3:=mq.cell ((HB.out.cell (World.block_lt_of_cell? w _ ex3)).trans ex3);have d4:=mq.cell ((HB.out.cell (World.block_lt_of_cell? w _ ex4)).trans ex4);have d5:=mq.cell ((HB.out.cell (World.block_lt_of_cell? w _ ex5)).trans ex5);have d6:=mq.cell ((HB.out.cell (World.block_lt_of_cell? w _ ex6)).trans ex6);have G6:=As0.mk G6_;have L6:=As0.mk l6;have j0_:(0 ≤ pj) = True:=eq_true hj0;have j1_:(pj < (T.length:Int)) = True:=eq_true hj1;have j2_:(pj.toNat < T.length) = True:=eq_true hj2;clear ex0 ex1 ex2 ex3 ex4 ex5 ex6 G6_ l6 e0 hj0 hj1 hj2 hpj hii;rotate_left;have v0:=hn0 hn
    all_goals
     clear hp hn0 hn1 hb hit hin hi0 hA5;refine mq.region (by kernel_rfl) (by kernel_rfl) ?_
     repeat (go_big_quiet_step (first
      |(rename_i x;go_at_call 35;refine (spec_ThingOk.calls k _ _ _ _ _ _ _ _ _ _ _ (Kd.C_below (Kd.C_below G5.out HB.out) x.2) L5.out A1.out).mono ?_;rintro e w8 ⟨rfl,hb⟩;exact ⟨rfl,⟨_,bsp x.2 hb⟩,rfl⟩)
      |(rename_i x;go_at_call 34;refine (spec_l8At.calls k _ _ sp _ _ _ (Kd.C_below (Kd.C_below HR3.out HB.out) x.2) HC3.out A2.out).mono ?_;rintro e w8 ⟨rfl,hd⟩;have hb:=hd.below;exact ⟨rfl,⟨_,bsp x.2 hb⟩,rfl⟩)
      |(rename_i x;go_at_call 36;refine (spec_l10Less.calls _ _ _ _ _ _ _ _ _ _ _ _ _ _ _ _ _ _ _ _ (Kd.C_below (Kd.C_below G6.out HB.out) x.2) L6.out (Kd.C_below (Kd.C_below G5.out HB.out) x.2) L5.out AL6.out).mono ?_;rintro e w8 ⟨rfl,hb⟩;exact ⟨rfl,⟨_,bsp x.2 hb⟩,rfl⟩)))
     refine wpQuiet_nil ?_;intro w8 hb;replace HB:=As0.mk (bsp HB.out hb);replace BM:=As0.mk (blk_below BM.out hb);replace BX:=As0.mk (blk_below BX.out hb);clear hb q0 q1 q2 q3 q4 q5 q6 g0 g1 g2 g3 g4 g5_ g6
     show _;go_upto_region 7 with (fail)
     go_wp2
     have HIN:=As0.mk h;clear h
     (try clear d0 d1 d2 d3 d4 d5 d6)
     show _;go_loopg [5] ii.toNat (fun m v w'=>∃ jj:Int,v = .int .i64 jj ∧ As0 (0 ≤ jj ∧ jj + m = ii) ∧ As0 ((if ((T.take ii.toNat).drop jj.toNat).any (fun y=>decide (y.f2 = (riT38 T ii).f2)) = true then some false else spec_l10Things.l1 k rev uid sp T k2 (ii + 1)) = some b4) ∧ As0 (Below w.heap.size w w') ∧ As0 (w'.heap[gb]? = some (.cells #[.int .i64 rev,.int .i64 uid,.int .i64 fl,.slice A3 sp.length c3,.slice A4 us.length c4,.slice (some ad) T.length c5,.slice A6 P.length c6] 35 (0,0))) ∧ As0 (w'.heap[gx]? = some (.cells #[.string (riT38 T ii).f0,.string (riT38 T ii).f1,.int .i64 (riT38 T ii).f2,.int .i64 (riT38 T ii).f3,.bool (riT38 T ii).f4,.slice X5 (riT38 T ii).f5.length y5,.string (riT38 T ii).f6] 73 (0,0))))
     case atStart=>exact ⟨0,(by first|rfl|(simp;done)),⟨⟨Int.le_refl _,by have:=HII.out.1;omega⟩⟩,⟨HIN.out⟩,HB,BM,BX⟩
     case round=>
      clear HB BM BX HIN;obtain ⟨jj,rfl,HJ,HIN,HB,BM,BX⟩:=hrel
      cases gk with
      |zero=>
       have hj:=HJ.out;have t8:decide (jj < ii) = false:=decide_eq_false (by have:=hj.2;omega);have h:=HIN.out;rw [List.drop_of_length_le (by rw [List.length_take];have:=hj.2;omega),List.any_nil,if_neg (by decide)] at h;have H:=As0.mk h;clear h hj HJ HIN
       go_wp2
       show _;go_roundg k2
       case measure=>omega
       case rel=>exact ⟨ii + 1,(by first|rw [W0.out]|(simp [W0.out];done)|(simp;done)),HM2,H,HB,BM⟩
      |succ k3=>
       have hj:=HJ.out;have hj0:0 ≤ jj:=hj.1;have hji:jj < ii:=by have:=hj.2;omega
       have hjn:jj < (T.length:Int):=Int.lt_trans hji HII.out.2;have hjt:jj.toNat < (T.take ii.toNat).length:=by rw [List.length_take];have:=HII.out.2;omega
       have h:=HIN.out
       have hrd:(T.take ii.toNat)[jj.toNat] = riT38 T jj:=by
        rw [List.getElem_take];simp [riT38,List.getElem?_eq_getElem (show jj.toNat < T.length by omega)]
       rw [List.drop_eq_getElem_cons hjt,List.any_cons,hrd] at h;have HJ2:=As0.mk (show 0 ≤ jj + 1 ∧ jj + 1 + (k3:Nat) = ii from by have:=hj.2;constructor <;> omega);have hw2:wrap64 (jj + 1) = jj + 1:=mq.wid (by omega) (by have:=HN5.out;omega);have W2:=As0.mk hw2;have t8:decide (jj < ii) = true:=decide_eq_true hji;obtain ⟨ad2,Z5,z5,e0,ex0,ex1,ex2,ex3,ex4,ex5,ex6,l6,g6_⟩:=at_T73 HR5.out jj hj0 hjn;obtain rfl:ad = ad2:=by injection e0
       have d2:=mq.cell ((HB.out.cell (World.block_lt_of_cell? w _ ex2)).trans ex2);have j0_:(0 ≤ jj) = True:=eq_true hj0;have j1_:(jj < (T.length:Int)) = True:=eq_true hjn;have j2_:(jj.toNat < T.length) = True:=eq_true (by omega);have hjj:(jj + 1).toNat = jj.toNat + 1:=by omega
       clear ex0 ex1 ex2 ex3 ex4 ex5 ex6 l6 g6_ e0 hrd hw2 hj HJ HIN hjt;obtain ⟨q0,q1,q2,q3,q4,q5,q6⟩:=mq.c7 BM.out;obtain ⟨g0,g1,g2,g3,g4,g5_,g6⟩:=mq.c7 BX.out;by_cases hv:(riT38 T jj).f2 = (riT38 T ii).f2
       · rw [decide_eq_true hv,Bool.true_or,if_pos rfl] at h
         obtain rfl:=Option.some.inj h;have h:=HE.out;rw [if_neg (by decide)] at h;obtain rfl:=Option.some.inj h;have t9:((riT38 T jj).f2 == (riT38 T ii).f2) = true:=beq_iff_eq.mpr hv;have t10:decide ((riT38 T jj).f2 = (riT38 T ii).f2) = true:=decide_eq_true hv;clear h hv HE
         show _;go_upto_region 10 with (fail)
         refine mq.region (by kernel_rfl) (by kernel_rfl) ?_
         repeat (go_big_quiet_step (fail))
         refine wpQuiet_nil ?_;intro w8 hb;replace HB:=As0.mk (bsp HB.out hb);replace BM:=As0.mk (blk_below BM.out hb);replace BX:=As0.mk (blk_below BX.out hb);clear hb q0 q1 q2 q3 q4 q5 q6 g0 g1 g2 g3 g4 g5_ g6 d2
         go_wp2
         go_ret
         exact ⟨by first|rfl|(simp;done),HB.out⟩
       · rw [decide_eq_false hv,Bool.false_or] at h
         have t9:((riT38 T jj).f2 == (riT38 T ii).f2) = false:=beq_eq_false_iff_ne.mpr hv;have t10:decide ((riT38 T jj).f2 = (riT38 T ii).f2) = false:=decide_eq_false hv;have HIN:=As0.mk (show (if ((T.take ii.toNat).drop (jj + 1).toNat).any (fun y=>decide (y.f2 = (riT38 T ii).f2)) = true then some false else spec_l10Things.l1 k rev uid sp T k2 (ii + 1)) = some b4 from by rw [hjj];exact h);clear h hv hjj
         show _;go_upto_region 10 with (fail)
         refine mq.region (by kernel_rfl) (by kernel_rfl) ?_
         repeat (go_big_quiet_step (fail))
         refine wpQuiet_nil ?_;intro w8 hb;replace HB:=As0.mk (bsp HB.out hb);replace BM:=As0.mk (blk_below BM.out hb);replace BX:=As0.mk (blk_below BX.out hb);clear hb q0 q1 q2 q3 q4 q5 q6 g0 g1 g2 g3 g4 g5_ g6 d2
         go_wp2
         show _;go_roundg k3
         case measure=>omega
         case rel=>exact ⟨jj + 1,(by first|rw [W2.out]|(simp [W2.out];done)|(simp;done)),HJ2,HIN,HB,BM,BX⟩
end Go.Proofs.YtclgmogfkoinbaaDoor.P
