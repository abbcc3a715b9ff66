/- Functions of the law FnUseSum as_ plain Lean functions, and that the machine's calls do what they say. -/
import Derived.Test.YtlddibclbhhjoaaDoorZFnUseSum0
import Derived.Test.YtlddibclbhhjoaaDoorZFnUseSum1
import Derived.Test.YtlddibclbhhjoaaDoorZFnUseSum5
import Derived.Test.YtlddibclbhhjoaaDoorZFnUseSum4
namespace Go.Proofs.YtlddibclbhhjoaaDoor.P
open Go.RowKit Go.Proofs.YtlddibclbhhjoaaDoorW.PrintWords Go.Proofs.YtlddibclbhhjoaaDoorW.PrintLast Go.Proofs.YtlddibclbhhjoaaDoorW.PrintMore
attribute [local go_sem] max2_int min2_int max_two min_two max_three min_three max_four min_four
set_option linter.unusedVariables false
set_option linter.unusedSimpArgs false
mutual
def spec_SpacesOk.l0:Nat → List (SiS23) → Int → Option (Bool)
 |0,_,_=>none
 |k + 1,x0,x3=>if x3 < (x0.length:Int) then (if 0 ≤ x3 then ((spec_l8Ok.f k ((riS26 x0 x3).f0) ((riS26 x0 x3).f1) ((riS26 x0 x3).f2) ((riS26 x0 x3).f3) ((riS26 x0 x3).f4)).bind fun t508=>(if t508 = true then (if x3 > 0 then (if 0 ≤ (wrap64 (x3 - 1)) then (if (wrap64 (x3 - 1)) < (x0.length:Int) then (if ((Op.bytesLess (((riS26 x0 (wrap64 (x3 - 1))).f0).toList) (((riS26 x0 x3).f0).toList)) = true) then (spec_SpacesOk.l0 k x0 (wrap64 (x3 + 1))) else (some false)) else (none)) else (none)) else (spec_SpacesOk.l0 k x0 (wrap64 (x3 + 1)))) else (some false))) else (none)) else (spec_SpacesOk.l1 k x0 0)
def spec_SpacesOk.l1:Nat → List (SiS23) → Int → Option (Bool)
 |0,_,_=>none
 |k + 1,x0,x4=>if x4 < (x0.length:Int) then (if 0 ≤ x4 then ((spec_l8Up.f k x0 ((riS26 x0 x4).f0)).bind fun t512=>(if (t512.length:Int) > (x0.length:Int) then (some false) else (if 0 ≤ (wrap64 ((t512.length:Int) - 1)) then (if (wrap64 ((t512.length:Int) - 1)) < (t512.length:Int) then (if (rdOf ByteArray.empty t512 (wrap64 ((t512.length:Int) - 1))).toList = ([97,108,108]:List UInt8) then (spec_SpacesOk.l1 k x0 (wrap64 (x4 + 1))) else (some false)) else (none)) else (none)))) else (none)) else ((spec_l1In.f (x0.length:Int) 1 7).bind fun t516=>(if t516 = true then ((spec_l8At.f k x0 (⟨#[97,108,108]⟩:ByteArray)).bind fun t517=>(some (decide (t517 ≥ 0)))) else (some false)))
end
def spec_SpacesOk.f (k:Nat) (l0:List (SiS23)):Option (Bool):=spec_SpacesOk.l0 k l0 0
def spec_SpacesOk.T4:Bool × List (List Nat × List Nat):=(true,[([],[]),([],[]),([0,1],[0,1]),([2],[2]),([3],[3]),([4],[4]),([5,4],[5]),([6],[6]),([7,6],[6,7]),([8,6,6],[6,8]),([9],[9]),([9],[9]),([11,9],[9,11]),([10,12,9],[9,10,12]),([13,9],[9,13]),([14,9],[9,14]),([9],[9]),([9],[9]),([16,17,9],[9,16,17]),([18,9],[9,18]),([19,9],[9,19]),([15,20,9],[9,15,20]),([9,21,6],[6,9,21]),([6,22],[6,22])])
def spec_SpacesOk.B4:List Nat:=[0,0,3,7,15,31,63,127,255,511,1023,1023,3071,8191,16383,32767,1023,1023,197631,459775,984063,2097151,4194303,8388607]
theorem spec_SpacesOk.tab4:rtab .any (opsOf Tryd.f8 4) = spec_SpacesOk.T4:=by kernel_rfl
theorem spec_SpacesOk.bits4:waitsOk spec_SpacesOk.T4.2 spec_SpacesOk.B4 = true:=by kernel_rfl
abbrev spec_SpacesOk.calls.a0:Array Bool:=#[false,false,false,false,false,false,false,false,false,false,false,false,false,false,false,false,false,false,false,false,false,false,false,false]
abbrev spec_SpacesOk.calls.a1:Array Bool:=#[true,false,false,false,false,false,false,false,false,false,false,false,false,false,false,false,false,false,false,false,false,false,false,false]
abbrev spec_SpacesOk.calls.a2:Array Bool:=#[true,true,false,false,false,false,false,false,false,false,false,false,false,false,false,false,false,false,false,false,false,false,false,false]
abbrev spec_SpacesOk.calls.a3:Array Bool:=#[true,true,true,false,false,false,false,false,false,false,false,false,false,false,false,false,false,false,false,false,false,false,false,false]
abbrev spec_SpacesOk.calls.a4:Array Bool:=#[true,true,true,true,false,false,false,false,false,false,false,false,false,false,false,false,false,false,false,false,false,false,false,false]
abbrev spec_SpacesOk.calls.a5:Array Bool:=#[true,true,true,true,true,false,false,false,false,false,false,false,false,false,false,false,false,false,false,false,false,false,false,false]
abbrev spec_SpacesOk.calls.a6:Array Bool:=#[true,true,true,true,true,true,false,false,false,false,false,false,false,false,false,false,false,false,false,false,false,false,false,false]
abbrev spec_SpacesOk.calls.a7:Array Bool:=#[true,true,true,true,true,true,true,false,false,false,false,false,false,false,false,false,false,false,false,false,false,false,false,false]
abbrev spec_SpacesOk.calls.a8:Array Bool:=#[true,true,true,true,true,true,true,true,false,false,false,false,false,false,false,false,false,false,false,false,false,false,false,false]
abbrev spec_SpacesOk.calls.a9:Array Bool:=#[true,true,true,true,true,true,true,true,true,false,false,false,false,false,false,false,false,false,false,false,false,false,false,false]
abbrev spec_SpacesOk.calls.a10:Array Bool:=#[true,true,true,true,true,true,true,true,true,true,false,false,false,false,false,false,false,false,false,false,false,false,false,false]
abbrev spec_SpacesOk.calls.a11:Array Bool:=#[true,true,true,true,true,true,true,true,true,true,true,false,false,false,false,false,false,false,false,false,false,false,false,false]
abbrev spec_SpacesOk.calls.a12:Array Bool:=#[true,true,true,true,true,true,true,true,true,true,true,true,false,false,false,false,false,false,false,false,false,false,false,false]
abbrev spec_SpacesOk.calls.a13:Array Bool:=#[true,true,true,true,true,true,true,true,true,true,true,true,true,false,false,false,false,false,false,false,false,false,false,false]
abbrev spec_SpacesOk.calls.a14:Array Bool:=#[true,true,true,true,true,true,true,true,true,true,true,true,true,true,false,false,false,false,false,false,false,false,false,false]
abbrev spec_SpacesOk.calls.a15:Array Bool:=#[true,true,true,true,true,true,true,true,true,true,true,true,true,true,true,false,false,false,false,false,false,false,false,false]
abbrev spec_SpacesOk.calls.a16:Array Bool:=#[true,true,true,true,true,true,true,true,true,true,true,true,true,true,true,true,true,true,true,true,false,false,false,false]
abbrev spec_SpacesOk.calls.a17:Array Bool:=#[true,true,true,true,true,true,true,true,true,true,true,true,true,true,true,true,true,true,true,true,true,false,false,false]
abbrev spec_SpacesOk.calls.a18:Array Bool:=#[true,true,true,true,true,true,true,true,true,true,true,true,true,true,true,true,true,true,true,true,true,true,false,false]
abbrev spec_SpacesOk.calls.a19:Array Bool:=#[true,true,true,true,true,true,true,true,true,true,true,true,true,true,true,true,true,true,true,true,true,true,true,false]
abbrev spec_SpacesOk.calls.a20:Array Bool:=#[true,true,true,true,true,true,true,true,true,true,true,true,true,true,true,true,true,true,true,true,true,true,true,true]
abbrev spec_SpacesOk.calls.a21:Array Bool:=#[true,true,true,true,true,true,true,true,true,true,true,true,true,true,true,false,true,false,false,false,false,false,false,false]
abbrev spec_SpacesOk.calls.a22:Array Bool:=#[true,true,true,true,true,true,true,true,true,true,true,true,true,true,true,false,true,true,false,false,false,false,false,false]
abbrev spec_SpacesOk.calls.a23:Array Bool:=#[true,true,true,true,true,true,true,true,true,true,true,true,true,true,true,false,true,true,true,false,false,false,false,false]
abbrev spec_SpacesOk.calls.a24:Array Bool:=#[true,true,true,true,true,true,true,true,true,true,true,true,true,true,true,false,true,true,true,true,false,false,false,false]
abbrev spec_SpacesOk.calls.a25:Array Bool:=#[true,true,true,true,true,true,true,true,true,true,true,true,true,true,true,true,false,false,false,false,false,false,false,false]
abbrev spec_SpacesOk.calls.a26:Array Bool:=#[true,true,true,true,true,true,true,true,true,true,true,true,true,true,true,true,true,false,false,false,false,false,false,false]
abbrev spec_SpacesOk.calls.a27:Array Bool:=#[true,true,true,true,true,true,true,true,true,true,true,true,true,true,true,true,true,true,false,false,false,false,false,false]
abbrev spec_SpacesOk.calls.a28:Array Bool:=#[true,true,true,true,true,true,true,true,true,true,true,true,true,true,true,true,true,true,true,false,false,false,false,false]
set_option maxHeartbeats 40000000 in
set_option maxRecDepth 100000 in
theorem spec_SpacesOk.calls (k:Nat) (A0:Option Addr) (c0:Nat) (l0:List (SiS23)) (r:Bool) (w:World) (hr0:Kd.C k30 w A0 l0.length l0) (hc0:l0.length ≤ c0) (h:spec_SpacesOk.f k l0 = some r) :
 Calls Tryd.prog 8 #[.slice A0 l0.length c0] w fun e w'=>e = .returned (.bool r) ∧ Below w.heap.size w w':=by
 have hu30:=Tryd.underlying30;have HR0:=As0.mk hr0;have HC0:=As0.mk hc0;clear hr0 hc0;have HB:=As0.mk (Below.refl w.heap.size w);have H:(spec_SpacesOk.l0 k l0 0) = some r:=h;clear h;have H':=As0.mk H;clear H
 go_enter Tryd.func8,Tryd.ntmps8
 go_wp2
 show _;go_loopg [3] k (fun kq v3 w'=>∃ (x3_1:Int),v3 = .int .i64 x3_1 ∧ As0 (spec_SpacesOk.l0 kq l0 x3_1 = some r) ∧ As0 (kq ≤ k) ∧ As0 (Below w.heap.size w w'))
 case atStart=>exact ⟨(0),(by first|rfl|(simp;done)|(simp [*];done)),H',⟨Nat.le_refl _⟩,⟨HB.out⟩⟩
 case round=>
  clear H';obtain ⟨x3_1,rfl,HA,HK1,HB⟩:=hrel
  cases gk with
  |zero=>exact absurd HA.out (by simp [spec_SpacesOk.l0])
  |succ k1=>
   have H:=HA.out;clear HA;simp only [spec_SpacesOk.l0] at H;by_cases c2:x3_1 < (l0.length:Int)
   · rw [if_pos c2] at H
     have c2b0:decide (x3_1 < (l0.length:Int)) = true:=decide_eq_true c2;clear c2;by_cases c3:0 ≤ x3_1
     · rw [if_pos c3] at H
       have c3b0:decide (0 ≤ x3_1) = true:=decide_eq_true c3;clear c3;replace H:=Option.bind_eq_some_iff.mp H;obtain ⟨t508,A40,H⟩:=H;(try dsimp only at H);have A4:=As0.mk A40;clear A40;by_cases c5:t508 = true
       · subst c5
         have H1:(if x3_1 > 0 then (if 0 ≤ (wrap64 (x3_1 - 1)) then (if (wrap64 (x3_1 - 1)) < (l0.length:Int) then (if ((Op.bytesLess (((riS26 l0 (wrap64 (x3_1 - 1))).f0).toList) (((riS26 l0 x3_1).f0).toList)) = true) then (spec_SpacesOk.l0 k1 l0 (wrap64 (x3_1 + 1))) else (some false)) else (none)) else (none)) else (spec_SpacesOk.l0 k1 l0 (wrap64 (x3_1 + 1)))) = some r:=by rw [if_pos rfl] at H;exact H
         clear H;have H:=H1;clear H1;by_cases c6:x3_1 > 0
         · rw [if_pos c6] at H
           have c6b0:decide (0 < x3_1) = true:=decide_eq_true c6;clear c6;obtain ⟨ji7,hji7⟩:∃ j_:Int,(wrap64 (x3_1 - 1)) = j_:=⟨_,rfl⟩;replace H:(if 0 ≤ (ji7) then (if (ji7) < (l0.length:Int) then (if ((Op.bytesLess (((riS26 l0 (ji7)).f0).toList) (((riS26 l0 x3_1).f0).toList)) = true) then (spec_SpacesOk.l0 k1 l0 (wrap64 (x3_1 + 1))) else (some false)) else (none)) else (none)) = some r:=by first|(rw [hji7] at H;exact H)|(simp only [hji7] at H ⊢;exact H)
           (try rw [hji7] at A4)
           have hji7w:(IntKind.i64.wrap (x3_1 - 1)) = ji7:=(i64_w _).trans hji7;by_cases c8:0 ≤ (ji7)
           · rw [if_pos c8] at H
             have c8b0:decide (0 ≤ (ji7)) = true:=decide_eq_true c8;clear c8;by_cases c9:(ji7) < (l0.length:Int)
             · rw [if_pos c9] at H
               have c9b0:decide ((ji7) < (l0.length:Int)) = true:=decide_eq_true c9;clear c9;by_cases c10:((Op.bytesLess (((riS26 l0 (ji7)).f0).toList) (((riS26 l0 x3_1).f0).toList)) = true)
               · rw [if_pos c10] at H
                 have c10b0:(Op.bytesLess (((riS26 l0 (ji7)).f0).toList) (((riS26 l0 x3_1).f0).toList)) = true:=c10;clear c10;have H':=As0.mk H;clear H
                 try go_wp2
                 replace HB:=As0.mk (bd1 HB.out);have p507:0 ≤ (x3_1:Int):=odt;have q507:x3_1 < (l0.length:Int):=odt;obtain ⟨ad507,e507,hx507_0,hx507_1,hx507_2,hx507_3,hx507_4⟩:=at_T30 HR0.out x3_1 p507 q507;have hw507_4:=hx507_4;have hw507_3:=hx507_3;have hw507_2:=hx507_2;have hw507_1:=hx507_1;have hw507_0:=hx507_0
                 cases e507
                 replace hx507_0:=bx HB.out rfl hx507_0;replace hx507_1:=bx HB.out rfl hx507_1;replace hx507_2:=bx HB.out rfl hx507_2;replace hx507_3:=bx HB.out rfl hx507_3;replace hx507_4:=bx HB.out rfl hx507_4;replace p507:=eq_true p507;replace q507:=eq_true q507;have p509:0 ≤ ((ji7):Int):=odt;have q509:(ji7) < (l0.length:Int):=odt;obtain ⟨ad509,e509,hx509_0,hx509_1,hx509_2,hx509_3,hx509_4⟩:=at_T30 HR0.out (ji7) p509 q509;have hw509_4:=hx509_4;have hw509_3:=hx509_3;have hw509_2:=hx509_2;have hw509_1:=hx509_1;have hw509_0:=hx509_0;obtain rfl:ad507 = ad509:=(by injection e509);replace hx509_0:=bx HB.out rfl hx509_0;replace hx509_1:=bx HB.out rfl hx509_1;replace hx509_2:=bx HB.out rfl hx509_2;replace hx509_3:=bx HB.out rfl hx509_3;replace hx509_4:=bx HB.out rfl hx509_4;replace p509:=eq_true p509;replace q509:=eq_true q509;have p510:0 ≤ (x3_1:Int):=odt;have q510:x3_1 < (l0.length:Int):=odt;obtain ⟨ad510,e510,hx510_0,hx510_1,hx510_2,hx510_3,hx510_4⟩:=at_T30 HR0.out x3_1 p510 q510;have hw510_4:=hx510_4;have hw510_3:=hx510_3;have hw510_2:=hx510_2;have hw510_1:=hx510_1;have hw510_0:=hx510_0;obtain rfl:ad507 = ad510:=(by injection e510);replace hx510_0:=bx HB.out rfl hx510_0;replace hx510_1:=bx HB.out rfl hx510_1;replace hx510_2:=bx HB.out rfl hx510_2;replace hx510_3:=bx HB.out rfl hx510_3;replace hx510_4:=bx HB.out rfl hx510_4;replace p510:=eq_true p510;replace q510:=eq_true q510;refine start_ (n:=24) (S:=fun w'=>w'.cell? (ad507.add ((x3_1).toNat * 5)) = some (.string ((riS26 l0 x3_1).f0)) ∧ w'.cell? ⟨(ad507.add ((x3_1).toNat * 5)).block,(ad507.add ((x3_1).toNat * 5)).off + 1,none⟩ = some (.string ((riS26 l0 x3_1).f1)) ∧ w'.cell? ⟨(ad507.add ((x3_1).toNat * 5)).block,(ad507.add ((x3_1).toNat * 5)).off + 2,none⟩ = some (.int .i64 ((riS26 l0 x3_1).f2)) ∧ w'.cell? ⟨(ad507.add ((x3_1).toNat * 5)).block,(ad507.add ((x3_1).toNat * 5)).off + 3,none⟩ = some (.bool ((riS26 l0 x3_1).f3)) ∧ w'.cell? ⟨(ad507.add ((x3_1).toNat * 5)).block,(ad507.add ((x3_1).toNat * 5)).off + 4,none⟩ = some (.int .i64 ((riS26 l0 x3_1).f4)) ∧ w'.cell? (ad507.add (((ji7)).toNat * 5)) = some (.string ((riS26 l0 (ji7)).f0)) ∧ w'.cell? ⟨(ad507.add (((ji7)).toNat * 5)).block,(ad507.add (((ji7)).toNat * 5)).off + 1,none⟩ = some (.string ((riS26 l0 (ji7)).f1)) ∧ w'.cell? ⟨(ad507.add (((ji7)).toNat * 5)).block,(ad507.add (((ji7)).toNat * 5)).off + 2,none⟩ = some (.int .i64 ((riS26 l0 (ji7)).f2)) ∧ w'.cell? ⟨(ad507.add (((ji7)).toNat * 5)).block,(ad507.add (((ji7)).toNat * 5)).off + 3,none⟩ = some (.bool ((riS26 l0 (ji7)).f3)) ∧ w'.cell? ⟨(ad507.add (((ji7)).toNat * 5)).block,(ad507.add (((ji7)).toNat * 5)).off + 4,none⟩ = some (.int .i64 ((riS26 l0 (ji7)).f4)) ∧ w'.cell? (ad507.add ((x3_1).toNat * 5)) = some (.string ((riS26 l0 x3_1).f0)) ∧ w'.cell? ⟨(ad507.add ((x3_1).toNat * 5)).block,(ad507.add ((x3_1).toNat * 5)).off + 1,none⟩ = some (.string ((riS26 l0 x3_1).f1)) ∧ w'.cell? ⟨(ad507.add ((x3_1).toNat * 5)).block,(ad507.add ((x3_1).toNat * 5)).off + 2,none⟩ = some (.int .i64 ((riS26 l0 x3_1).f2)) ∧ w'.cell? ⟨(ad507.add ((x3_1).toNat * 5)).block,(ad507.add ((x3_1).toNat * 5)).off + 3,none⟩ = some (.bool ((riS26 l0 x3_1).f3)) ∧ w'.cell? ⟨(ad507.add ((x3_1).toNat * 5)).block,(ad507.add ((x3_1).toNat * 5)).off + 4,none⟩ = some (.int .i64 ((riS26 l0 x3_1).f4))) (ds:=[]) spec_SpacesOk.calls.a0 (by kernel_rfl) rfl rfl ⟨((HB.out.cell (World.block_lt_of_cell? w _ hw507_0)).trans hw507_0),((HB.out.cell (World.block_lt_of_cell? w _ hw507_1)).trans hw507_1),((HB.out.cell (World.block_lt_of_cell? w _ hw507_2)).trans hw507_2),((HB.out.cell (World.block_lt_of_cell? w _ hw507_3)).trans hw507_3),((HB.out.cell (World.block_lt_of_cell? w _ hw507_4)).trans hw507_4),((HB.out.cell (World.block_lt_of_cell? w _ hw509_0)).trans hw509_0),((HB.out.cell (World.block_lt_of_cell? w _ hw509_1)).trans hw509_1),((HB.out.cell (World.block_lt_of_cell? w _ hw509_2)).trans hw509_2),((HB.out.cell (World.block_lt_of_cell? w _ hw509_3)).trans hw509_3),((HB.out.cell (World.block_lt_of_cell? w _ hw509_4)).trans hw509_4),((HB.out.cell (World.block_lt_of_cell? w _ hw510_0)).trans hw510_0),((HB.out.cell (World.block_lt_of_cell? w _ hw510_1)).trans hw510_1),((HB.out.cell (World.block_lt_of_cell? w _ hw510_2)).trans hw510_2),((HB.out.cell (World.block_lt_of_cell? w _ hw510_3)).trans hw510_3),((HB.out.cell (World.block_lt_of_cell? w _ hw510_4)).trans hw510_4)⟩ (fun hHeld=>?_);refine with_tabW spec_SpacesOk.tab4 spec_SpacesOk.bits4 (fun HT_ HW_=>?_);generalize wr.drew = w11 at HB hx507_0 hx507_1 hx507_2 hx507_3 hx507_4 hx509_0 hx509_1 hx509_2 hx509_3 hx509_4 hx510_0 hx510_1 hx510_2 hx510_3 hx510_4 hHeld ⊢
                 refine pu 0 (some 12) spec_SpacesOk.calls.a1 rfl rfl HT_.out ?_;refine pu 1 (some 13) spec_SpacesOk.calls.a2 rfl rfl HT_.out ?_;refine pu 2 (some 14) spec_SpacesOk.calls.a3 rfl rfl HT_.out ?_;refine tk 3 (some 15) spec_SpacesOk.calls.a4 rfl rfl HT_.out HW_.out hHeld (by rintro w' ⟨s0,s1,s2,s3,s4,s5,s6,s7,s8,s9,s10,s11,s12,s13,s14⟩;go_simp;with_reducible rfl) ?_;refine one_ (i:=4) (N:=some 16) spec_SpacesOk.calls.a5 rfl rfl (one_of HT_.out (by kernel_rfl)) (by decide) (fun K hK=>?_);refine goes_ Tryd.func24 (by kernel_rfl) rfl #[.agg #[.string ((riS26 l0 x3_1).f0),.string ((riS26 l0 x3_1).f1),.int .i64 ((riS26 l0 x3_1).f2),.bool ((riS26 l0 x3_1).f3),.int .i64 ((riS26 l0 x3_1).f4)]] (by rfl) rfl rfl (by (try simp only [List.map_toArray,List.map_cons,List.map_nil]);first|done|rfl|(simp only [List.length_drop,List.length_take];rfl)) ?_;with_reducible refine (spec_l8Ok.calls k1 ((riS26 l0 x3_1).f0) ((riS26 l0 x3_1).f1) ((riS26 l0 x3_1).f2) ((riS26 l0 x3_1).f3) ((riS26 l0 x3_1).f4) true _ A4.out).mono ?_
                 rintro e w12 ⟨rfl,hb⟩;refine ⟨_,rfl,?_⟩;replace HB:=As0.mk (bsp HB.out hb)
                    
                    
                    
                    
                 refine hK.out _ _ ⟨((HB.out.cell (World.block_lt_of_cell? w _ hw507_0)).trans hw507_0),((HB.out.cell (World.block_lt_of_cell? w _ hw507_1)).trans hw507_1),((HB.out.cell (World.block_lt_of_cell? w _ hw507_2)).trans hw507_2),((HB.out.cell (World.block_lt_of_cell? w _ hw507_3)).trans hw507_3),((HB.out.cell (World.block_lt_of_cell? w _ hw507_4)).trans hw507_4),((HB.out.cell (World.block_lt_of_cell? w _ hw509_0)).trans hw509_0),((HB.out.cell (World.block_lt_of_cell? w _ hw509_1)).trans hw509_1),((HB.out.cell (World.block_lt_of_cell? w _ hw509_2)).trans hw509_2),((HB.out.cell (World.block_lt_of_cell? w _ hw509_3)).trans hw509_3),((HB.out.cell (World.block_lt_of_cell? w _ hw509_4)).trans hw509_4),((HB.out.cell (World.block_lt_of_cell? w _ hw510_0)).trans hw510_0),((HB.out.cell (World.block_lt_of_cell? w _ hw510_1)).trans hw510_1),((HB.out.cell (World.block_lt_of_cell? w _ hw510_2)).trans hw510_2),((HB.out.cell (World.block_lt_of_cell? w _ hw510_3)).trans hw510_3),((HB.out.cell (World.block_lt_of_cell? w _ hw510_4)).trans hw510_4)⟩ (fun hHeld=>?_);clear hK K;refine norm_ (a':=?_) ?_ ?_;rotate_left
                 · show Act.put _ (some 16) _ = _
                   simp only [Act.put,sA,sZ,sS,i64_w,i32_w];rfl
                 refine pu 5 (some 17) spec_SpacesOk.calls.a6 rfl rfl HT_.out ?_;refine pu 6 (some 18) spec_SpacesOk.calls.a7 rfl rfl HT_.out ?_;refine pu 7 (some 19) spec_SpacesOk.calls.a8 rfl rfl HT_.out ?_;refine pu 8 (some 20) spec_SpacesOk.calls.a9 rfl rfl HT_.out ?_;refine pu 9 (some 21) spec_SpacesOk.calls.a10 rfl rfl HT_.out ?_;refine pu 10 (some 22) spec_SpacesOk.calls.a11 rfl rfl HT_.out ?_;refine pu 11 (some 23) spec_SpacesOk.calls.a12 rfl rfl HT_.out ?_;refine pu 12 (some 24) spec_SpacesOk.calls.a13 rfl rfl HT_.out ?_;refine pu 13 (some 25) spec_SpacesOk.calls.a14 rfl rfl HT_.out ?_;refine pu 14 (some 26) spec_SpacesOk.calls.a15 rfl rfl HT_.out ?_;refine pu 16 (some 28) spec_SpacesOk.calls.a21 rfl rfl HT_.out ?_;refine pu 17 (some 29) spec_SpacesOk.calls.a22 rfl rfl HT_.out ?_;refine pu 18 (some 30) spec_SpacesOk.calls.a23 rfl rfl HT_.out ?_;refine pu 19 (some 31) spec_SpacesOk.calls.a24 rfl rfl HT_.out ?_;refine tk 15 (some 27) spec_SpacesOk.calls.a16 rfl rfl HT_.out HW_.out hHeld (by rintro w' ⟨s0,s1,s2,s3,s4,s5,s6,s7,s8,s9,s10,s11,s12,s13,s14⟩;go_simp;with_reducible rfl) ?_;refine tk 20 (some 32) spec_SpacesOk.calls.a17 rfl rfl HT_.out HW_.out hHeld (by rintro w' ⟨s0,s1,s2,s3,s4,s5,s6,s7,s8,s9,s10,s11,s12,s13,s14⟩;go_simp;with_reducible rfl) ?_;refine pu 21 (some 33) spec_SpacesOk.calls.a18 rfl rfl HT_.out ?_;refine pu 22 (some 34) spec_SpacesOk.calls.a19 rfl rfl HT_.out ?_;refine pu 23 (some 35) spec_SpacesOk.calls.a20 rfl rfl HT_.out ?_;refine done_ (done_of HT_.out (by kernel_rfl)) ?_
                 try go_wp2
                 show _;go_roundg k1
                 case measure=>have:=HK1.out;omega
                 case rel=>exact ⟨(wrap64 (x3_1 + 1)),(by first|rfl|(simp;done)|(simp [*];done)),H',⟨by have:=HK1.out;omega⟩,⟨HB.out⟩⟩
               · rw [if_neg c10] at H
                 have c10b0:(Op.bytesLess (((riS26 l0 (ji7)).f0).toList) (((riS26 l0 x3_1).f0).toList)) = false:=by simpa using c10
                 clear c10;obtain rfl:=Option.some.inj H
                 try go_wp2
                 replace HB:=As0.mk (bd1 HB.out);have p507:0 ≤ (x3_1:Int):=odt;have q507:x3_1 < (l0.length:Int):=odt;obtain ⟨ad507,e507,hx507_0,hx507_1,hx507_2,hx507_3,hx507_4⟩:=at_T30 HR0.out x3_1 p507 q507;have hw507_4:=hx507_4;have hw507_3:=hx507_3;have hw507_2:=hx507_2;have hw507_1:=hx507_1;have hw507_0:=hx507_0
                 cases e507
                 replace hx507_0:=bx HB.out rfl hx507_0;replace hx507_1:=bx HB.out rfl hx507_1;replace hx507_2:=bx HB.out rfl hx507_2;replace hx507_3:=bx HB.out rfl hx507_3;replace hx507_4:=bx HB.out rfl hx507_4;replace p507:=eq_true p507;replace q507:=eq_true q507;have p509:0 ≤ ((ji7):Int):=odt;have q509:(ji7) < (l0.length:Int):=odt;obtain ⟨ad509,e509,hx509_0,hx509_1,hx509_2,hx509_3,hx509_4⟩:=at_T30 HR0.out (ji7) p509 q509;have hw509_4:=hx509_4;have hw509_3:=hx509_3;have hw509_2:=hx509_2;have hw509_1:=hx509_1;have hw509_0:=hx509_0;obtain rfl:ad507 = ad509:=(by injection e509);replace hx509_0:=bx HB.out rfl hx509_0;replace hx509_1:=bx HB.out rfl hx509_1;replace hx509_2:=bx HB.out rfl hx509_2;replace hx509_3:=bx HB.out rfl hx509_3;replace hx509_4:=bx HB.out rfl hx509_4;replace p509:=eq_true p509;replace q509:=eq_true q509;have p510:0 ≤ (x3_1:Int):=odt;have q510:x3_1 < (l0.length:Int):=odt;obtain ⟨ad510,e510,hx510_0,hx510_1,hx510_2,hx510_3,hx510_4⟩:=at_T30 HR0.out x3_1 p510 q510;have hw510_4:=hx510_4;have hw510_3:=hx510_3;have hw510_2:=hx510_2;have hw510_1:=hx510_1;have hw510_0:=hx510_0;obtain rfl:ad507 = ad510:=(by injection e510);replace hx510_0:=bx HB.out rfl hx510_0;replace hx510_1:=bx HB.out rfl hx510_1;replace hx510_2:=bx HB.out rfl hx510_2;replace hx510_3:=bx HB.out rfl hx510_3;replace hx510_4:=bx HB.out rfl hx510_4;replace p510:=eq_true p510;replace q510:=eq_true q510;refine start_ (n:=24) (S:=fun w'=>w'.cell? (ad507.add ((x3_1).toNat * 5)) = some (.string ((riS26 l0 x3_1).f0)) ∧ w'.cell? ⟨(ad507.add ((x3_1).toNat * 5)).block,(ad507.add ((x3_1).toNat * 5)).off + 1,none⟩ = some (.string ((riS26 l0 x3_1).f1)) ∧ w'.cell? ⟨(ad507.add ((x3_1).toNat * 5)).block,(ad507.add ((x3_1).toNat * 5)).off + 2,none⟩ = some (.int .i64 ((riS26 l0 x3_1).f2)) ∧ w'.cell? ⟨(ad507.add ((x3_1).toNat * 5)).block,(ad507.add ((x3_1).toNat * 5)).off + 3,none⟩ = some (.bool ((riS26 l0 x3_1).f3)) ∧ w'.cell? ⟨(ad507.add ((x3_1).toNat * 5)).block,(ad507.add ((x3_1).toNat * 5)).off + 4,none⟩ = some (.int .i64 ((riS26 l0 x3_1).f4)) ∧ w'.cell? (ad507.add (((ji7)).toNat * 5)) = some (.string ((riS26 l0 (ji7)).f0)) ∧ w'.cell? ⟨(ad507.add (((ji7)).toNat * 5)).block,(ad507.add (((ji7)).toNat * 5)).off + 1,none⟩ = some (.string ((riS26 l0 (ji7)).f1)) ∧ w'.cell? ⟨(ad507.add (((ji7)).toNat * 5)).block,(ad507.add (((ji7)).toNat * 5)).off + 2,none⟩ = some (.int .i64 ((riS26 l0 (ji7)).f2)) ∧ w'.cell? ⟨(ad507.add (((ji7)).toNat * 5)).block,(ad507.add (((ji7)).toNat * 5)).off + 3,none⟩ = some (.bool ((riS26 l0 (ji7)).f3)) ∧ w'.cell? ⟨(ad507.add (((ji7)).toNat * 5)).block,(ad507.add (((ji7)).toNat * 5)).off + 4,none⟩ = some (.int .i64 ((riS26 l0 (ji7)).f4)) ∧ w'.cell? (ad507.add ((x3_1).toNat * 5)) = some (.string ((riS26 l0 x3_1).f0)) ∧ w'.cell? ⟨(ad507.add ((x3_1).toNat * 5)).block,(ad507.add ((x3_1).toNat * 5)).off + 1,none⟩ = some (.string ((riS26 l0 x3_1).f1)) ∧ w'.cell? ⟨(ad507.add ((x3_1).toNat * 5)).block,(ad507.add ((x3_1).toNat * 5)).off + 2,none⟩ = some (.int .i64 ((riS26 l0 x3_1).f2)) ∧ w'.cell? ⟨(ad507.add ((x3_1).toNat * 5)).block,(ad507.add ((x3_1).toNat * 5)).off + 3,none⟩ = some (.bool ((riS26 l0 x3_1).f3)) ∧ w'.cell? ⟨(ad507.add ((x3_1).toNat * 5)).block,(ad507.add ((x3_1).toNat * 5)).off + 4,none⟩ = some (.int .i64 ((riS26 l0 x3_1).f4))) (ds:=[]) spec_SpacesOk.calls.a0 (by kernel_rfl) rfl rfl ⟨((HB.out.cell (World.block_lt_of_cell? w _ hw507_0)).trans hw507_0),((HB.out.cell (World.block_lt_of_cell? w _ hw507_1)).trans hw507_1),((HB.out.cell (World.block_lt_of_cell? w _ hw507_2)).trans hw507_2),((HB.out.cell (World.block_lt_of_cell? w _ hw507_3)).trans hw507_3),((HB.out.cell (World.block_lt_of_cell? w _ hw507_4)).trans hw507_4),((HB.out.cell (World.block_lt_of_cell? w _ hw509_0)).trans hw509_0),((HB.out.cell (World.block_lt_of_cell? w _ hw509_1)).trans hw509_1),((HB.out.cell (World.block_lt_of_cell? w _ hw509_2)).trans hw509_2),((HB.out.cell (World.block_lt_of_cell? w _ hw509_3)).trans hw509_3),((HB.out.cell (World.block_lt_of_cell? w _ hw509_4)).trans hw509_4),((HB.out.cell (World.block_lt_of_cell? w _ hw510_0)).trans hw510_0),((HB.out.cell (World.block_lt_of_cell? w _ hw510_1)).trans hw510_1),((HB.out.cell (World.block_lt_of_cell? w _ hw510_2)).trans hw510_2),((HB.out.cell (World.block_lt_of_cell? w _ hw510_3)).trans hw510_3),((HB.out.cell (World.block_lt_of_cell? w _ hw510_4)).trans hw510_4)⟩ (fun hHeld=>?_);refine with_tabW spec_SpacesOk.tab4 spec_SpacesOk.bits4 (fun HT_ HW_=>?_);generalize wr.drew = w13 at HB hx507_0 hx507_1 hx507_2 hx507_3 hx507_4 hx509_0 hx509_1 hx509_2 hx509_3 hx509_4 hx510_0 hx510_1 hx510_2 hx510_3 hx510_4 hHeld ⊢
                 refine pu 0 (some 12) spec_SpacesOk.calls.a1 rfl rfl HT_.out ?_;refine pu 1 (some 13) spec_SpacesOk.calls.a2 rfl rfl HT_.out ?_;refine pu 2 (some 14) spec_SpacesOk.calls.a3 rfl rfl HT_.out ?_;refine tk 3 (some 15) spec_SpacesOk.calls.a4 rfl rfl HT_.out HW_.out hHeld (by rintro w' ⟨s0,s1,s2,s3,s4,s5,s6,s7,s8,s9,s10,s11,s12,s13,s14⟩;go_simp;with_reducible rfl) ?_;refine one_ (i:=4) (N:=some 16) spec_SpacesOk.calls.a5 rfl rfl (one_of HT_.out (by kernel_rfl)) (by decide) (fun K hK=>?_);refine goes_ Tryd.func24 (by kernel_rfl) rfl #[.agg #[.string ((riS26 l0 x3_1).f0),.string ((riS26 l0 x3_1).f1),.int .i64 ((riS26 l0 x3_1).f2),.bool ((riS26 l0 x3_1).f3),.int .i64 ((riS26 l0 x3_1).f4)]] (by rfl) rfl rfl (by (try simp only [List.map_toArray,List.map_cons,List.map_nil]);first|done|rfl|(simp only [List.length_drop,List.length_take];rfl)) ?_;with_reducible refine (spec_l8Ok.calls k1 ((riS26 l0 x3_1).f0) ((riS26 l0 x3_1).f1) ((riS26 l0 x3_1).f2) ((riS26 l0 x3_1).f3) ((riS26 l0 x3_1).f4) true _ A4.out).mono ?_
                 rintro e w14 ⟨rfl,hb⟩;refine ⟨_,rfl,?_⟩;replace HB:=As0.mk (bsp HB.out hb)
                    
                    
                    
                    
                 refine hK.out _ _ ⟨((HB.out.cell (World.block_lt_of_cell? w _ hw507_0)).trans hw507_0),((HB.out.cell (World.block_lt_of_cell? w _ hw507_1)).trans hw507_1),((HB.out.cell (World.block_lt_of_cell? w _ hw507_2)).trans hw507_2),((HB.out.cell (World.block_lt_of_cell? w _ hw507_3)).trans hw507_3),((HB.out.cell (World.block_lt_of_cell? w _ hw507_4)).trans hw507_4),((HB.out.cell (World.block_lt_of_cell? w _ hw509_0)).trans hw509_0),((HB.out.cell (World.block_lt_of_cell? w _ hw509_1)).trans hw509_1),((HB.out.cell (World.block_lt_of_cell? w _ hw509_2)).trans hw509_2),((HB.out.cell (World.block_lt_of_cell? w _ hw509_3)).trans hw509_3),((HB.out.cell (World.block_lt_of_cell? w _ hw509_4)).trans hw509_4),((HB.out.cell (World.block_lt_of_cell? w _ hw510_0)).trans hw510_0),((HB.out.cell (World.block_lt_of_cell? w _ hw510_1)).trans hw510_1),((HB.out.cell (World.block_lt_of_cell? w _ hw510_2)).trans hw510_2),((HB.out.cell (World.block_lt_of_cell? w _ hw510_3)).trans hw510_3),((HB.out.cell (World.block_lt_of_cell? w _ hw510_4)).trans hw510_4)⟩ (fun hHeld=>?_);clear hK K;refine norm_ (a':=?_) ?_ ?_;rotate_left
                 · show Act.put _ (some 16) _ = _
                   simp only [Act.put,sA,sZ,sS,i64_w,i32_w];rfl
                 refine pu 5 (some 17) spec_SpacesOk.calls.a6 rfl rfl HT_.out ?_;refine pu 6 (some 18) spec_SpacesOk.calls.a7 rfl rfl HT_.out ?_;refine pu 7 (some 19) spec_SpacesOk.calls.a8 rfl rfl HT_.out ?_;refine pu 8 (some 20) spec_SpacesOk.calls.a9 rfl rfl HT_.out ?_;refine pu 9 (some 21) spec_SpacesOk.calls.a10 rfl rfl HT_.out ?_;refine pu 10 (some 22) spec_SpacesOk.calls.a11 rfl rfl HT_.out ?_;refine pu 11 (some 23) spec_SpacesOk.calls.a12 rfl rfl HT_.out ?_;refine pu 12 (some 24) spec_SpacesOk.calls.a13 rfl rfl HT_.out ?_;refine pu 13 (some 25) spec_SpacesOk.calls.a14 rfl rfl HT_.out ?_;refine pu 14 (some 26) spec_SpacesOk.calls.a15 rfl rfl HT_.out ?_;refine pu 16 (some 28) spec_SpacesOk.calls.a21 rfl rfl HT_.out ?_;refine pu 17 (some 29) spec_SpacesOk.calls.a22 rfl rfl HT_.out ?_;refine pu 18 (some 30) spec_SpacesOk.calls.a23 rfl rfl HT_.out ?_;refine pu 19 (some 31) spec_SpacesOk.calls.a24 rfl rfl HT_.out ?_;refine tk 15 (some 27) spec_SpacesOk.calls.a16 rfl rfl HT_.out HW_.out hHeld (by rintro w' ⟨s0,s1,s2,s3,s4,s5,s6,s7,s8,s9,s10,s11,s12,s13,s14⟩;go_simp;with_reducible rfl) ?_;refine tk 20 (some 32) spec_SpacesOk.calls.a17 rfl rfl HT_.out HW_.out hHeld (by rintro w' ⟨s0,s1,s2,s3,s4,s5,s6,s7,s8,s9,s10,s11,s12,s13,s14⟩;go_simp;with_reducible rfl) ?_;refine pu 21 (some 33) spec_SpacesOk.calls.a18 rfl rfl HT_.out ?_;refine pu 22 (some 34) spec_SpacesOk.calls.a19 rfl rfl HT_.out ?_;refine pu 23 (some 35) spec_SpacesOk.calls.a20 rfl rfl HT_.out ?_;refine done_ (done_of HT_.out (by kernel_rfl)) ?_
                 try go_wp2
                 go_ret
                 exact ⟨by first|rfl|(simp [errW_none,errW_some] <;> rfl)|(simp only [← hji7];first|rfl|(simp [errW_none,errW_some] <;> rfl))|(simp [*,errW_none,errW_some] <;> rfl),HB.out⟩
             · rw [if_neg c9] at H
               exact absurd H (by simp)
           · rw [if_neg c8] at H
             exact absurd H (by simp)
         · rw [if_neg c6] at H
           have c6b0:decide (0 < x3_1) = false:=decide_eq_false c6;clear c6;have H':=As0.mk H;clear H
           try go_wp2
           replace HB:=As0.mk (bd1 HB.out);have p507:0 ≤ (x3_1:Int):=odt;have q507:x3_1 < (l0.length:Int):=odt;obtain ⟨ad507,e507,hx507_0,hx507_1,hx507_2,hx507_3,hx507_4⟩:=at_T30 HR0.out x3_1 p507 q507;have hw507_4:=hx507_4;have hw507_3:=hx507_3;have hw507_2:=hx507_2;have hw507_1:=hx507_1;have hw507_0:=hx507_0
           cases e507
           replace hx507_0:=bx HB.out rfl hx507_0;replace hx507_1:=bx HB.out rfl hx507_1;replace hx507_2:=bx HB.out rfl hx507_2;replace hx507_3:=bx HB.out rfl hx507_3;replace hx507_4:=bx HB.out rfl hx507_4;replace p507:=eq_true p507;replace q507:=eq_true q507;refine start_ (n:=24) (S:=fun w'=>w'.cell? (ad507.add ((x3_1).toNat * 5)) = some (.string ((riS26 l0 x3_1).f0)) ∧ w'.cell? ⟨(ad507.add ((x3_1).toNat * 5)).block,(ad507.add ((x3_1).toNat * 5)).off + 1,none⟩ = some (.string ((riS26 l0 x3_1).f1)) ∧ w'.cell? ⟨(ad507.add ((x3_1).toNat * 5)).block,(ad507.add ((x3_1).toNat * 5)).off + 2,none⟩ = some (.int .i64 ((riS26 l0 x3_1).f2)) ∧ w'.cell? ⟨(ad507.add ((x3_1).toNat * 5)).block,(ad507.add ((x3_1).toNat * 5)).off + 3,none⟩ = some (.bool ((riS26 l0 x3_1).f3)) ∧ w'.cell? ⟨(ad507.add ((x3_1).toNat * 5)).block,(ad507.add ((x3_1).toNat * 5)).off + 4,none⟩ = some (.int .i64 ((riS26 l0 x3_1).f4))) (ds:=[]) spec_SpacesOk.calls.a0 (by kernel_rfl) rfl rfl ⟨((HB.out.cell (World.block_lt_of_cell? w _ hw507_0)).trans hw507_0),((HB.out.cell (World.block_lt_of_cell? w _ hw507_1)).trans hw507_1),((HB.out.cell (World.block_lt_of_cell? w _ hw507_2)).trans hw507_2),((HB.out.cell (World.block_lt_of_cell? w _ hw507_3)).trans hw507_3),((HB.out.cell (World.block_lt_of_cell? w _ hw507_4)).trans hw507_4)⟩ (fun hHeld=>?_);refine with_tabW spec_SpacesOk.tab4 spec_SpacesOk.bits4 (fun HT_ HW_=>?_);generalize wr.drew = w15 at HB hx507_0 hx507_1 hx507_2 hx507_3 hx507_4 hHeld ⊢
           refine pu 0 (some 12) spec_SpacesOk.calls.a1 rfl rfl HT_.out ?_;refine pu 1 (some 13) spec_SpacesOk.calls.a2 rfl rfl HT_.out ?_;refine pu 2 (some 14) spec_SpacesOk.calls.a3 rfl rfl HT_.out ?_;refine tk 3 (some 15) spec_SpacesOk.calls.a4 rfl rfl HT_.out HW_.out hHeld (by rintro w' ⟨s0,s1,s2,s3,s4⟩;go_simp;with_reducible rfl) ?_;refine one_ (i:=4) (N:=some 16) spec_SpacesOk.calls.a5 rfl rfl (one_of HT_.out (by kernel_rfl)) (by decide) (fun K hK=>?_);refine goes_ Tryd.func24 (by kernel_rfl) rfl #[.agg #[.string ((riS26 l0 x3_1).f0),.string ((riS26 l0 x3_1).f1),.int .i64 ((riS26 l0 x3_1).f2),.bool ((riS26 l0 x3_1).f3),.int .i64 ((riS26 l0 x3_1).f4)]] (by rfl) rfl rfl (by (try simp only [List.map_toArray,List.map_cons,List.map_nil]);first|done|rfl|(simp only [List.length_drop,List.length_take];rfl)) ?_;with_reducible refine (spec_l8Ok.calls k1 ((riS26 l0 x3_1).f0) ((riS26 l0 x3_1).f1) ((riS26 l0 x3_1).f2) ((riS26 l0 x3_1).f3) ((riS26 l0 x3_1).f4) true _ A4.out).mono ?_
           rintro e w16 ⟨rfl,hb⟩;refine ⟨_,rfl,?_⟩;replace HB:=As0.mk (bsp HB.out hb)
              
              
              
              
           refine hK.out _ _ ⟨((HB.out.cell (World.block_lt_of_cell? w _ hw507_0)).trans hw507_0),((HB.out.cell (World.block_lt_of_cell? w _ hw507_1)).trans hw507_1),((HB.out.cell (World.block_lt_of_cell? w _ hw507_2)).trans hw507_2),((HB.out.cell (World.block_lt_of_cell? w _ hw507_3)).trans hw507_3),((HB.out.cell (World.block_lt_of_cell? w _ hw507_4)).trans hw507_4)⟩ (fun hHeld=>?_);clear hK K;refine norm_ (a':=?_) ?_ ?_;rotate_left
           · show Act.put _ (some 16) _ = _
             simp only [Act.put,sA,sZ,sS,i64_w,i32_w];rfl
           refine pu 5 (some 17) spec_SpacesOk.calls.a6 rfl rfl HT_.out ?_;refine pu 6 (some 18) spec_SpacesOk.calls.a7 rfl rfl HT_.out ?_;refine pu 7 (some 19) spec_SpacesOk.calls.a8 rfl rfl HT_.out ?_;refine pu 8 (some 20) spec_SpacesOk.calls.a9 rfl rfl HT_.out ?_;refine pu 9 (some 21) spec_SpacesOk.calls.a10 rfl rfl HT_.out ?_;refine pn 10 (some 22) spec_SpacesOk.calls.a11 rfl rfl HT_.out ?_;refine pn 11 (some 23) spec_SpacesOk.calls.a12 rfl rfl HT_.out ?_;refine pn 12 (some 24) spec_SpacesOk.calls.a13 rfl rfl HT_.out ?_;refine pn 13 (some 25) spec_SpacesOk.calls.a14 rfl rfl HT_.out ?_;refine pn 14 (some 26) spec_SpacesOk.calls.a15 rfl rfl HT_.out ?_;refine pn 15 (some 27) spec_SpacesOk.calls.a25 rfl rfl HT_.out ?_;refine pn 16 (some 28) spec_SpacesOk.calls.a26 rfl rfl HT_.out ?_;refine pn 17 (some 29) spec_SpacesOk.calls.a27 rfl rfl HT_.out ?_;refine pn 18 (some 30) spec_SpacesOk.calls.a28 rfl rfl HT_.out ?_;refine pn 19 (some 31) spec_SpacesOk.calls.a16 rfl rfl HT_.out ?_;refine pn 20 (some 32) spec_SpacesOk.calls.a17 rfl rfl HT_.out ?_;refine pn 21 (some 33) spec_SpacesOk.calls.a18 rfl rfl HT_.out ?_;refine pu 22 (some 34) spec_SpacesOk.calls.a19 rfl rfl HT_.out ?_;refine pu 23 (some 35) spec_SpacesOk.calls.a20 rfl rfl HT_.out ?_;refine done_ (done_of HT_.out (by kernel_rfl)) ?_
           try go_wp2
           show _;go_roundg k1
           case measure=>have:=HK1.out;omega
           case rel=>exact ⟨(wrap64 (x3_1 + 1)),(by first|rfl|(simp;done)|(simp [*];done)),H',⟨by have:=HK1.out;omega⟩,⟨HB.out⟩⟩
       · replace c5:=Bool.eq_false_iff.mpr c5
         subst c5;have H1:(some false) = some r:=by rw [if_neg (show ¬ (false = true) by decide)] at H;exact H
         clear H;have H:=H1;clear H1;obtain rfl:=Option.some.inj H
         try go_wp2
         replace HB:=As0.mk (bd1 HB.out);have p507:0 ≤ (x3_1:Int):=odt;have q507:x3_1 < (l0.length:Int):=odt;obtain ⟨ad507,e507,hx507_0,hx507_1,hx507_2,hx507_3,hx507_4⟩:=at_T30 HR0.out x3_1 p507 q507;have hw507_4:=hx507_4;have hw507_3:=hx507_3;have hw507_2:=hx507_2;have hw507_1:=hx507_1;have hw507_0:=hx507_0
         cases e507
         replace hx507_0:=bx HB.out rfl hx507_0;replace hx507_1:=bx HB.out rfl hx507_1;replace hx507_2:=bx HB.out rfl hx507_2;replace hx507_3:=bx HB.out rfl hx507_3;replace hx507_4:=bx HB.out rfl hx507_4;replace p507:=eq_true p507;replace q507:=eq_true q507;refine start_ (n:=24) (S:=fun w'=>w'.cell? (ad507.add ((x3_1).toNat * 5)) = some (.string ((riS26 l0 x3_1).f0)) ∧ w'.cell? ⟨(ad507.add ((x3_1).toNat * 5)).block,(ad507.add ((x3_1).toNat * 5)).off + 1,none⟩ = some (.string ((riS26 l0 x3_1).f1)) ∧ w'.cell? ⟨(ad507.add ((x3_1).toNat * 5)).block,(ad507.add ((x3_1).toNat * 5)).off + 2,none⟩ = some (.int .i64 ((riS26 l0 x3_1).f2)) ∧ w'.cell? ⟨(ad507.add ((x3_1).toNat * 5)).block,(ad507.add ((x3_1).toNat * 5)).off + 3,none⟩ = some (.bool ((riS26 l0 x3_1).f3)) ∧ w'.cell? ⟨(ad507.add ((x3_1).toNat * 5)).block,(ad507.add ((x3_1).toNat * 5)).off + 4,none⟩ = some (.int .i64 ((riS26 l0 x3_1).f4))) (ds:=[]) spec_SpacesOk.calls.a0 (by kernel_rfl) rfl rfl ⟨((HB.out.cell (World.block_lt_of_cell? w _ hw507_0)).trans hw507_0),((HB.out.cell (World.block_lt_of_cell? w _ hw507_1)).trans hw507_1),((HB.out.cell (World.block_lt_of_cell? w _ hw507_2)).trans hw507_2),((HB.out.cell (World.block_lt_of_cell? w _ hw507_3)).trans hw507_3),((HB.out.cell (World.block_lt_of_cell? w _ hw507_4)).trans hw507_4)⟩ (fun hHeld=>?_);refine with_tabW spec_SpacesOk.tab4 spec_SpacesOk.bits4 (fun HT_ HW_=>?_);generalize wr.drew = w17 at HB hx507_0 hx507_1 hx507_2 hx507_3 hx507_4 hHeld ⊢
         refine pu 0 (some 12) spec_SpacesOk.calls.a1 rfl rfl HT_.out ?_;refine pu 1 (some 13) spec_SpacesOk.calls.a2 rfl rfl HT_.out ?_;refine pu 2 (some 14) spec_SpacesOk.calls.a3 rfl rfl HT_.out ?_;refine tk 3 (some 15) spec_SpacesOk.calls.a4 rfl rfl HT_.out HW_.out hHeld (by rintro w' ⟨s0,s1,s2,s3,s4⟩;go_simp;with_reducible rfl) ?_;refine one_ (i:=4) (N:=some 16) spec_SpacesOk.calls.a5 rfl rfl (one_of HT_.out (by kernel_rfl)) (by decide) (fun K hK=>?_);refine goes_ Tryd.func24 (by kernel_rfl) rfl #[.agg #[.string ((riS26 l0 x3_1).f0),.string ((riS26 l0 x3_1).f1),.int .i64 ((riS26 l0 x3_1).f2),.bool ((riS26 l0 x3_1).f3),.int .i64 ((riS26 l0 x3_1).f4)]] (by rfl) rfl rfl (by (try simp only [List.map_toArray,List.map_cons,List.map_nil]);first|done|rfl|(simp only [List.length_drop,List.length_take];rfl)) ?_;with_reducible refine (spec_l8Ok.calls k1 ((riS26 l0 x3_1).f0) ((riS26 l0 x3_1).f1) ((riS26 l0 x3_1).f2) ((riS26 l0 x3_1).f3) ((riS26 l0 x3_1).f4) false _ A4.out).mono ?_
         rintro e w18 ⟨rfl,hb⟩;refine ⟨_,rfl,?_⟩;replace HB:=As0.mk (bsp HB.out hb)
            
            
            
            
         refine hK.out _ _ ⟨((HB.out.cell (World.block_lt_of_cell? w _ hw507_0)).trans hw507_0),((HB.out.cell (World.block_lt_of_cell? w _ hw507_1)).trans hw507_1),((HB.out.cell (World.block_lt_of_cell? w _ hw507_2)).trans hw507_2),((HB.out.cell (World.block_lt_of_cell? w _ hw507_3)).trans hw507_3),((HB.out.cell (World.block_lt_of_cell? w _ hw507_4)).trans hw507_4)⟩ (fun hHeld=>?_);clear hK K;refine norm_ (a':=?_) ?_ ?_;rotate_left
         · show Act.put _ (some 16) _ = _
           simp only [Act.put,sA,sZ,sS,i64_w,i32_w];rfl
         refine pu 5 (some 17) spec_SpacesOk.calls.a6 rfl rfl HT_.out ?_;refine pu 6 (some 18) spec_SpacesOk.calls.a7 rfl rfl HT_.out ?_;refine pn 7 (some 19) spec_SpacesOk.calls.a8 rfl rfl HT_.out ?_;refine pn 8 (some 20) spec_SpacesOk.calls.a9 rfl rfl HT_.out ?_;refine pn 9 (some 21) spec_SpacesOk.calls.a10 rfl rfl HT_.out ?_;refine pn 10 (some 22) spec_SpacesOk.calls.a11 rfl rfl HT_.out ?_;refine pn 11 (some 23) spec_SpacesOk.calls.a12 rfl rfl HT_.out ?_;refine pn 12 (some 24) spec_SpacesOk.calls.a13 rfl rfl HT_.out ?_;refine pn 13 (some 25) spec_SpacesOk.calls.a14 rfl rfl HT_.out ?_;refine pn 14 (some 26) spec_SpacesOk.calls.a15 rfl rfl HT_.out ?_;refine pn 15 (some 27) spec_SpacesOk.calls.a25 rfl rfl HT_.out ?_;refine pn 16 (some 28) spec_SpacesOk.calls.a26 rfl rfl HT_.out ?_;refine pn 17 (some 29) spec_SpacesOk.calls.a27 rfl rfl HT_.out ?_;refine pn 18 (some 30) spec_SpacesOk.calls.a28 rfl rfl HT_.out ?_;refine pn 19 (some 31) spec_SpacesOk.calls.a16 rfl rfl HT_.out ?_;refine pn 20 (some 32) spec_SpacesOk.calls.a17 rfl rfl HT_.out ?_;refine pn 21 (some 33) spec_SpacesOk.calls.a18 rfl rfl HT_.out ?_;refine pn 22 (some 34) spec_SpacesOk.calls.a19 rfl rfl HT_.out ?_;refine pu 23 (some 35) spec_SpacesOk.calls.a20 rfl rfl HT_.out ?_;refine done_ (done_of HT_.out (by kernel_rfl)) ?_
         try go_wp2
         go_ret
         exact ⟨eW,HB.out⟩
     · rw [if_neg c3] at H
       exact absurd H (by simp)
   · rw [if_neg c2] at H
     have c2b0:decide (x3_1 < (l0.length:Int)) = false:=decide_eq_false c2;clear c2;have H':=As0.mk H;clear H
     go_wp2
     show _;go_loopg [4] k1 (fun kq v4 w'=>∃ (x4_2:Int),v4 = .int .i64 x4_2 ∧ As0 (spec_SpacesOk.l1 kq l0 x4_2 = some r) ∧ As0 (kq ≤ k1) ∧ As0 (Below w.heap.size w w'))
     case atStart=>exact ⟨(0),(by first|rfl|(simp;done)|(simp [*];done)),H',⟨Nat.le_refl _⟩,⟨HB.out⟩⟩
     case round=>
      clear H'
      try clear c2
      try clear c2b0
      try clear p2
      try clear c3
      try clear c5
      try clear p5
      try clear q5
      try clear hx5
      try clear c6
      try clear c6b0
      try clear p6
      try clear c8
      try clear c9
      try clear hx507_0
      try clear hx507_1
      try clear hx507_2
      try clear hx507_3
      try clear hx507_4
      try clear hx509_0
      try clear hx509_1
      try clear hx509_2
      try clear hx509_3
      try clear hx509_4
      try clear hx510_0
      try clear hx510_1
      try clear hx510_2
      try clear hx510_3
      try clear hx510_4
      try clear p507
      try clear p510
      try clear q507
      try clear q510
      obtain ⟨x4_2,rfl,HA,HK2,HB⟩:=hrel
      cases gk with
      |zero=>exact absurd HA.out (by simp [spec_SpacesOk.l1])
      |succ k2=>
       have H:=HA.out;clear HA;simp only [spec_SpacesOk.l1] at H;by_cases c19:x4_2 < (l0.length:Int)
       · rw [if_pos c19] at H
         have c19b0:decide (x4_2 < (l0.length:Int)) = true:=decide_eq_true c19;clear c19;by_cases c20:0 ≤ x4_2
         · rw [if_pos c20] at H
           have c20b0:decide (0 ≤ x4_2) = true:=decide_eq_true c20;clear c20;replace H:=Option.bind_eq_some_iff.mp H;obtain ⟨t512,A210,H⟩:=H;(try dsimp only at H);have A21:=As0.mk A210;clear A210;by_cases c22:(t512.length:Int) > (l0.length:Int)
           · rw [if_pos c22] at H
             have c22b0:decide ((l0.length:Int) < (t512.length:Int)) = true:=decide_eq_true c22;have c22b1:decide (l0.length < t512.length) = true:=decide_eq_true (Int.ofNat_lt.mp c22);clear c22;obtain rfl:=Option.some.inj H;have p511:0 ≤ (x4_2:Int):=odt;have q511:x4_2 < (l0.length:Int):=odt;obtain ⟨ad511,e511,hx511_0,hx511_1,hx511_2,hx511_3,hx511_4⟩:=at_T30 HR0.out x4_2 p511 q511
             cases e511
             replace hx511_0:=bx HB.out rfl hx511_0;replace hx511_1:=bx HB.out rfl hx511_1;replace hx511_2:=bx HB.out rfl hx511_2;replace hx511_3:=bx HB.out rfl hx511_3;replace hx511_4:=bx HB.out rfl hx511_4;replace p511:=eq_true p511;replace q511:=eq_true q511
             go_wp2_with (first|((with_reducible refine gca (f:=25) rfl ?_);refine gL (some 48) Tryd.func25 #[.slice (some ad511) l0.length c0,.string ((riS26 l0 x4_2).f0)] ?_;(with_reducible refine (spec_l8Up.calls k2 _ _ l0 ((riS26 l0 x4_2).f0) t512 _ ?side1 ?side2 A21.out).mono ?_);(case side1=>exact (Kd.C_below HR0.out HB.out));(case side2=>exact HC0.out);rintro e w23 ⟨v513,rfl,ho0,hb⟩;refine ⟨_,rfl,?_⟩;have HO514:=As0.mk (Kd.R_lower ho0 (bsz HB.out));replace HB:=As0.mk (bsp HB.out hb);clear hb ho0;obtain ⟨Ao24,co24,eo24⟩:=Kd.R_slice HO514.out;subst eo24))
             go_ret
             exact ⟨eW,HB.out⟩
           · rw [if_neg c22] at H
             have c22b0:decide ((l0.length:Int) < (t512.length:Int)) = false:=decide_eq_false c22;have c22b1:decide (l0.length < t512.length) = false:=decide_eq_false (fun h=>c22 (Int.ofNat_lt.mpr h));clear c22;obtain ⟨ji25,hji25⟩:∃ j_:Int,(wrap64 ((t512.length:Int) - 1)) = j_:=⟨_,rfl⟩;replace H:(if 0 ≤ (ji25) then (if (ji25) < (t512.length:Int) then (if (rdOf ByteArray.empty t512 (ji25)).toList = ([97,108,108]:List UInt8) then (spec_SpacesOk.l1 k2 l0 (wrap64 (x4_2 + 1))) else (some false)) else (none)) else (none)) = some r:=by first|(rw [hji25] at H;exact H)|(simp only [hji25] at H ⊢;exact H)
             (try rw [hji25] at A21)
             have hji25w:(IntKind.i64.wrap ((t512.length:Int) - 1)) = ji25:=(i64_w _).trans hji25;by_cases c26:0 ≤ (ji25)
             · rw [if_pos c26] at H
               have c26b0:decide (0 ≤ (ji25)) = true:=decide_eq_true c26;clear c26;by_cases c27:(ji25) < (t512.length:Int)
               · rw [if_pos c27] at H
                 have c27b0:decide ((ji25) < (t512.length:Int)) = true:=decide_eq_true c27;clear c27;by_cases c28:(rdOf ByteArray.empty t512 (ji25)).toList = ([97,108,108]:List UInt8)
                 · rw [if_pos c28] at H
                   have c28b0:((rdOf ByteArray.empty t512 (ji25)).toList == ([97,108,108]:List UInt8)) = true:=beq_iff_eq.mpr c28;have c28b1:((rdOf ByteArray.empty t512 (ji25)).toList != ([97,108,108]:List UInt8)) = false:=bne_eq_false_iff_eq.mpr c28;clear c28;have H':=As0.mk H;clear H;have p511:0 ≤ (x4_2:Int):=odt;have q511:x4_2 < (l0.length:Int):=odt;obtain ⟨ad511,e511,hx511_0,hx511_1,hx511_2,hx511_3,hx511_4⟩:=at_T30 HR0.out x4_2 p511 q511
                   cases e511
                   replace hx511_0:=bx HB.out rfl hx511_0;replace hx511_1:=bx HB.out rfl hx511_1;replace hx511_2:=bx HB.out rfl hx511_2;replace hx511_3:=bx HB.out rfl hx511_3;replace hx511_4:=bx HB.out rfl hx511_4;replace p511:=eq_true p511;replace q511:=eq_true q511
                   go_wp2_with (first|((with_reducible refine gca (f:=25) rfl ?_);refine gL (some 48) Tryd.func25 #[.slice (some ad511) l0.length c0,.string ((riS26 l0 x4_2).f0)] ?_;(with_reducible refine (spec_l8Up.calls k2 _ _ l0 ((riS26 l0 x4_2).f0) t512 _ ?side1 ?side2 A21.out).mono ?_);(case side1=>exact (Kd.C_below HR0.out HB.out));(case side2=>exact HC0.out);rintro e w29 ⟨v513,rfl,ho0,hb⟩;refine ⟨_,rfl,?_⟩;have HO514:=As0.mk (Kd.R_lower ho0 (bsz HB.out));replace HB:=As0.mk (bsp HB.out hb);clear hb ho0;obtain ⟨Ao30,co30,eo30⟩:=Kd.R_slice HO514.out;subst eo30;have p515:0 ≤ ((ji25):Int):=odt;have q515:(ji25) < (t512.length:Int):=odt;obtain ⟨ad515,e515,hx515_0⟩:=Kd.at_string (Kd.R_reads' HO514.out).2.2 (ji25) p515 q515;cases e515;replace p515:=eq_true p515;replace q515:=eq_true q515))
                   show _;go_roundg k2
                   case measure=>have:=HK1.out;have:=HK2.out;omega
                   case rel=>exact ⟨(wrap64 (x4_2 + 1)),(by first|rfl|(simp;done)|(simp [*];done)),H',⟨by have:=HK1.out;have:=HK2.out;omega⟩,⟨HB.out⟩⟩
                 · rw [if_neg c28] at H
                   have c28b0:((rdOf ByteArray.empty t512 (ji25)).toList == ([97,108,108]:List UInt8)) = false:=beq_eq_false_iff_ne.mpr c28;have c28b1:((rdOf ByteArray.empty t512 (ji25)).toList != ([97,108,108]:List UInt8)) = true:=bne_iff_ne.mpr c28;obtain rfl:=Option.some.inj H;have p511:0 ≤ (x4_2:Int):=odt;have q511:x4_2 < (l0.length:Int):=odt;obtain ⟨ad511,e511,hx511_0,hx511_1,hx511_2,hx511_3,hx511_4⟩:=at_T30 HR0.out x4_2 p511 q511
                   cases e511
                   replace hx511_0:=bx HB.out rfl hx511_0;replace hx511_1:=bx HB.out rfl hx511_1;replace hx511_2:=bx HB.out rfl hx511_2;replace hx511_3:=bx HB.out rfl hx511_3;replace hx511_4:=bx HB.out rfl hx511_4;replace p511:=eq_true p511;replace q511:=eq_true q511
                   go_wp2_with (first|((with_reducible refine gca (f:=25) rfl ?_);refine gL (some 48) Tryd.func25 #[.slice (some ad511) l0.length c0,.string ((riS26 l0 x4_2).f0)] ?_;(with_reducible refine (spec_l8Up.calls k2 _ _ l0 ((riS26 l0 x4_2).f0) t512 _ ?side1 ?side2 A21.out).mono ?_);(case side1=>exact (Kd.C_below HR0.out HB.out));(case side2=>exact HC0.out);rintro e w31 ⟨v513,rfl,ho0,hb⟩;refine ⟨_,rfl,?_⟩;have HO514:=As0.mk (Kd.R_lower ho0 (bsz HB.out));replace HB:=As0.mk (bsp HB.out hb);clear hb ho0;obtain ⟨Ao32,co32,eo32⟩:=Kd.R_slice HO514.out;subst eo32;have p515:0 ≤ ((ji25):Int):=odt;have q515:(ji25) < (t512.length:Int):=odt;obtain ⟨ad515,e515,hx515_0⟩:=Kd.at_string (Kd.R_reads' HO514.out).2.2 (ji25) p515 q515;cases e515;replace p515:=eq_true p515;replace q515:=eq_true q515))
                   go_ret
                   exact ⟨by first|rfl|(simp [errW_none,errW_some] <;> rfl)|(simp only [← hji25];first|rfl|(simp [errW_none,errW_some] <;> rfl))|(simp [*,errW_none,errW_some] <;> rfl),HB.out⟩
               · rw [if_neg c27] at H
                 exact absurd H (by simp)
             · rw [if_neg c26] at H
               exact absurd H (by simp)
         · rw [if_neg c20] at H
           exact absurd H (by simp)
       · rw [if_neg c19] at H
         have c19b0:decide (x4_2 < (l0.length:Int)) = false:=decide_eq_false c19;clear c19;replace H:=Option.bind_eq_some_iff.mp H;obtain ⟨t516,A330,H⟩:=H;(try dsimp only at H);have A33:=As0.mk A330;clear A330;by_cases c34:t516 = true
         · subst c34
           have H1:((spec_l8At.f k2 l0 (⟨#[97,108,108]⟩:ByteArray)).bind fun t517=>(some (decide (t517 ≥ 0)))) = some r:=by rw [if_pos rfl] at H;exact H
           clear H;have H:=H1;clear H1;replace H:=Option.bind_eq_some_iff.mp H;obtain ⟨t517,A350,H⟩:=H;(try dsimp only at H);have A35:=As0.mk A350;clear A350;obtain rfl:=Option.some.inj H
           go_wp2_with (first|((with_reducible refine gca (f:=26) rfl ?_);refine gL (some 65) Tryd.func26 #[.int .i64 (l0.length:Int),.int .i64 1,.int .i64 7] ?_;(with_reducible refine (spec_l1In.calls (l0.length:Int) 1 7 true _ A33.out).mono ?_);rintro e w' ⟨rfl,⟨nd,rfl⟩⟩;refine ⟨_,rfl,?_⟩)|(go_at_call 27;(with_reducible refine (spec_l8At.calls k2 _ _ l0 (⟨#[97,108,108]⟩:ByteArray) t517 _ ?side1 ?side2 A35.out).mono ?_);(case side1=>repeat (first|exact (Kd.C_below HR0.out HB.out)|(with_reducible first|refine Kd.C_alloc ?_ _|refine Kd.C_drewN ?_ _|refine Kd.C_drew ?_)));(case side2=>exact HC0.out);rintro e w' ⟨rfl,⟨nd,rfl⟩⟩))
           go_ret
           exact ⟨eW,by repeat (first|(with_reducible first|exact HB.out|apply bal|apply pbN|apply bd1)|exact HB.out)⟩
         · replace c34:=Bool.eq_false_iff.mpr c34
           subst c34;have H1:(some false) = some r:=by rw [if_neg (show ¬ (false = true) by decide)] at H;exact H
           clear H;have H:=H1;clear H1;obtain rfl:=Option.some.inj H
           go_wp2_with (first|((with_reducible refine gca (f:=26) rfl ?_);refine gL (some 65) Tryd.func26 #[.int .i64 (l0.length:Int),.int .i64 1,.int .i64 7] ?_;(with_reducible refine (spec_l1In.calls (l0.length:Int) 1 7 false _ A33.out).mono ?_);rintro e w' ⟨rfl,⟨nd,rfl⟩⟩;refine ⟨_,rfl,?_⟩))
           go_ret
           exact ⟨eW,by repeat (first|(with_reducible first|exact HB.out|apply bal|apply pbN|apply bd1)|exact HB.out)⟩
def spec_l7Marks.l0:Nat → List ByteArray → Int → Option (Bool)
 |0,_,_=>none
 |k + 1,x0,x3=>if x3 < (x0.length:Int) then (if 0 ≤ x3 then ((spec_NameOk.f k (rdOf ByteArray.empty x0 x3)).bind fun t519=>(if t519 = true then (if x3 > 0 then (if 0 ≤ (wrap64 (x3 - 1)) then (if (wrap64 (x3 - 1)) < (x0.length:Int) then (if ((Op.bytesLess ((rdOf ByteArray.empty x0 (wrap64 (x3 - 1))).toList) ((rdOf ByteArray.empty x0 x3).toList)) = true) then (spec_l7Marks.l0 k x0 (wrap64 (x3 + 1))) else (some false)) else (none)) else (none)) else (spec_l7Marks.l0 k x0 (wrap64 (x3 + 1)))) else (some false))) else (none)) else (some (decide ((x0.length:Int) ≤ 2)))
def spec_l7Marks.f (k:Nat) (l0:List ByteArray):Option (Bool):=spec_l7Marks.l0 k l0 0
set_option maxHeartbeats 40000000 in
set_option maxRecDepth 100000 in
theorem spec_l7Marks.calls (k:Nat) (A0:Option Addr) (c0:Nat) (l0:List ByteArray) (r:Bool) (w:World) (hr0:Kd.C Kd.string w A0 l0.length l0) (hc0:l0.length ≤ c0) (h:spec_l7Marks.f k l0 = some r) :
 Calls Tryd.prog 42 #[.slice A0 l0.length c0] w fun e w'=>e = .returned (.bool r) ∧ Drawn0 w w':=by
 have HR0:=As0.mk hr0;have HC0:=As0.mk hc0;clear hr0 hc0;have H:(spec_l7Marks.l0 k l0 0) = some r:=h;clear h;have H':=As0.mk H;clear H
 go_enter Tryd.func42,Tryd.ntmps42
 go_wp2
 repeat (go_quiet (fail);try go_wp2)
 show _;go_loopg [3] k (fun kq v3 w'=>∃ (x3_1:Int),v3 = .int .i64 x3_1 ∧ As0 (spec_l7Marks.l0 kq l0 x3_1 = some r) ∧ As0 (kq ≤ k) ∧ Drawn0 w w')
 case atStart=>exact ⟨(0),(by first|rfl|(simp;done)|(simp [*];done)),H',⟨Nat.le_refl _⟩,by repeat (first|exact Drawn0.refl _|apply Drawn0.step)⟩
 case round=>
  clear H';obtain ⟨x3_1,rfl,HA,HK1,⟨m1,rfl⟩⟩:=hrel
  cases gk with
  |zero=>exact absurd HA.out (by simp [spec_l7Marks.l0])
  |succ k1=>
   have H:=HA.out;clear HA;simp only [spec_l7Marks.l0] at H;by_cases c2:x3_1 < (l0.length:Int)
   · rw [if_pos c2] at H
     have c2b0:decide (x3_1 < (l0.length:Int)) = true:=decide_eq_true c2;clear c2;by_cases c3:0 ≤ x3_1
     · rw [if_pos c3] at H
       have c3b0:decide (0 ≤ x3_1) = true:=decide_eq_true c3;clear c3;replace H:=Option.bind_eq_some_iff.mp H;obtain ⟨t519,A40,H⟩:=H;(try dsimp only at H);have A4:=As0.mk A40;clear A40;by_cases c5:t519 = true
       · subst c5
         have H1:(if x3_1 > 0 then (if 0 ≤ (wrap64 (x3_1 - 1)) then (if (wrap64 (x3_1 - 1)) < (l0.length:Int) then (if ((Op.bytesLess ((rdOf ByteArray.empty l0 (wrap64 (x3_1 - 1))).toList) ((rdOf ByteArray.empty l0 x3_1).toList)) = true) then (spec_l7Marks.l0 k1 l0 (wrap64 (x3_1 + 1))) else (some false)) else (none)) else (none)) else (spec_l7Marks.l0 k1 l0 (wrap64 (x3_1 + 1)))) = some r:=by rw [if_pos rfl] at H;exact H
         clear H;have H:=H1;clear H1;by_cases c6:x3_1 > 0
         · rw [if_pos c6] at H
           have c6b0:decide (0 < x3_1) = true:=decide_eq_true c6;clear c6;obtain ⟨ji7,hji7⟩:∃ j_:Int,(wrap64 (x3_1 - 1)) = j_:=⟨_,rfl⟩;replace H:(if 0 ≤ (ji7) then (if (ji7) < (l0.length:Int) then (if ((Op.bytesLess ((rdOf ByteArray.empty l0 (ji7)).toList) ((rdOf ByteArray.empty l0 x3_1).toList)) = true) then (spec_l7Marks.l0 k1 l0 (wrap64 (x3_1 + 1))) else (some false)) else (none)) else (none)) = some r:=by first|(rw [hji7] at H;exact H)|(simp only [hji7] at H ⊢;exact H)
           (try rw [hji7] at A4)
           have hji7w:(IntKind.i64.wrap (x3_1 - 1)) = ji7:=(i64_w _).trans hji7;by_cases c8:0 ≤ (ji7)
           · rw [if_pos c8] at H
             have c8b0:decide (0 ≤ (ji7)) = true:=decide_eq_true c8;clear c8;by_cases c9:(ji7) < (l0.length:Int)
             · rw [if_pos c9] at H
               have c9b0:decide ((ji7) < (l0.length:Int)) = true:=decide_eq_true c9;clear c9;by_cases c10:((Op.bytesLess ((rdOf ByteArray.empty l0 (ji7)).toList) ((rdOf ByteArray.empty l0 x3_1).toList)) = true)
               · rw [if_pos c10] at H
                 have c10b0:(Op.bytesLess ((rdOf ByteArray.empty l0 (ji7)).toList) ((rdOf ByteArray.empty l0 x3_1).toList)) = true:=c10;clear c10;have H':=As0.mk H;clear H;have p518:0 ≤ (x3_1:Int):=odt;have q518:x3_1 < (l0.length:Int):=odt;obtain ⟨ad518,e518,hx518_0⟩:=Kd.at_string HR0.out x3_1 p518 q518
                 cases e518
                 replace p518:=eq_true p518;replace q518:=eq_true q518
                 go_wp2_with (first|(go_at_call 41;(with_reducible refine (spec_NameOk.calls k1 (rdOf ByteArray.empty l0 x3_1) true _ A4.out).mono ?_);rintro e w' ⟨rfl,⟨nd,rfl⟩⟩;(try first|exact ⟨rfl,_,World.drewN_drewN _ _ _⟩|exact ⟨rfl,_,Eq.trans (World.drewN_drewN _ _ _) (congrArg (World.drewN _) (Nat.add_assoc _ _ _))⟩);have p520:0 ≤ ((ji7):Int):=odt;have q520:(ji7) < (l0.length:Int):=odt;obtain ⟨ad520,e520,hx520_0⟩:=Kd.at_string HR0.out (ji7) p520 q520;obtain rfl:ad518 = ad520:=(by injection e520);replace p520:=eq_true p520;replace q520:=eq_true q520;have p521:0 ≤ (x3_1:Int):=odt;have q521:x3_1 < (l0.length:Int):=odt;obtain ⟨ad521,e521,hx521_0⟩:=Kd.at_string HR0.out x3_1 p521 q521;obtain rfl:ad518 = ad521:=(by injection e521);replace p521:=eq_true p521;replace q521:=eq_true q521))
                 repeat (go_quiet (first|(go_at_call 41;(with_reducible refine (spec_NameOk.calls k1 (rdOf ByteArray.empty l0 x3_1) true _ A4.out).mono ?_);rintro e w' ⟨rfl,⟨nd,rfl⟩⟩;(try first|exact ⟨rfl,_,World.drewN_drewN _ _ _⟩|exact ⟨rfl,_,Eq.trans (World.drewN_drewN _ _ _) (congrArg (World.drewN _) (Nat.add_assoc _ _ _))⟩);have p520:0 ≤ ((ji7):Int):=odt;have q520:(ji7) < (l0.length:Int):=odt;obtain ⟨ad520,e520,hx520_0⟩:=Kd.at_string HR0.out (ji7) p520 q520;obtain rfl:ad518 = ad520:=(by injection e520);replace p520:=eq_true p520;replace q520:=eq_true q520;have p521:0 ≤ (x3_1:Int):=odt;have q521:x3_1 < (l0.length:Int):=odt;obtain ⟨ad521,e521,hx521_0⟩:=Kd.at_string HR0.out x3_1 p521 q521;obtain rfl:ad518 = ad521:=(by injection e521);replace p521:=eq_true p521;replace q521:=eq_true q521));try go_wp2_with (first|(go_at_call 41;(with_reducible refine (spec_NameOk.calls k1 (rdOf ByteArray.empty l0 x3_1) true _ A4.out).mono ?_);rintro e w' ⟨rfl,⟨nd,rfl⟩⟩;(try first|exact ⟨rfl,_,World.drewN_drewN _ _ _⟩|exact ⟨rfl,_,Eq.trans (World.drewN_drewN _ _ _) (congrArg (World.drewN _) (Nat.add_assoc _ _ _))⟩);have p520:0 ≤ ((ji7):Int):=odt;have q520:(ji7) < (l0.length:Int):=odt;obtain ⟨ad520,e520,hx520_0⟩:=Kd.at_string HR0.out (ji7) p520 q520;obtain rfl:ad518 = ad520:=(by injection e520);replace p520:=eq_true p520;replace q520:=eq_true q520;have p521:0 ≤ (x3_1:Int):=odt;have q521:x3_1 < (l0.length:Int):=odt;obtain ⟨ad521,e521,hx521_0⟩:=Kd.at_string HR0.out x3_1 p521 q521;obtain rfl:ad518 = ad521:=(by injection e521);replace p521:=eq_true p521;replace q521:=eq_true q521)))
                 show _;go_roundg k1
                 case measure=>have:=HK1.out;omega
                 case rel=>exact ⟨(wrap64 (x3_1 + 1)),(by first|rfl|(simp;done)|(simp [*];done)),H',⟨by have:=HK1.out;omega⟩,by repeat (first|exact Drawn0.refl _|apply Drawn0.step)⟩
               · rw [if_neg c10] at H
                 have c10b0:(Op.bytesLess ((rdOf ByteArray.empty l0 (ji7)).toList) ((rdOf ByteArray.empty l0 x3_1).toList)) = false:=by simpa using c10
                 clear c10;obtain rfl:=Option.some.inj H;have p518:0 ≤ (x3_1:Int):=odt;have q518:x3_1 < (l0.length:Int):=odt;obtain ⟨ad518,e518,hx518_0⟩:=Kd.at_string HR0.out x3_1 p518 q518
                 cases e518
                 replace p518:=eq_true p518;replace q518:=eq_true q518
                 go_wp2_with (first|(go_at_call 41;(with_reducible refine (spec_NameOk.calls k1 (rdOf ByteArray.empty l0 x3_1) true _ A4.out).mono ?_);rintro e w' ⟨rfl,⟨nd,rfl⟩⟩;(try first|exact ⟨rfl,_,World.drewN_drewN _ _ _⟩|exact ⟨rfl,_,Eq.trans (World.drewN_drewN _ _ _) (congrArg (World.drewN _) (Nat.add_assoc _ _ _))⟩);have p520:0 ≤ ((ji7):Int):=odt;have q520:(ji7) < (l0.length:Int):=odt;obtain ⟨ad520,e520,hx520_0⟩:=Kd.at_string HR0.out (ji7) p520 q520;obtain rfl:ad518 = ad520:=(by injection e520);replace p520:=eq_true p520;replace q520:=eq_true q520;have p521:0 ≤ (x3_1:Int):=odt;have q521:x3_1 < (l0.length:Int):=odt;obtain ⟨ad521,e521,hx521_0⟩:=Kd.at_string HR0.out x3_1 p521 q521;obtain rfl:ad518 = ad521:=(by injection e521);replace p521:=eq_true p521;replace q521:=eq_true q521))
                 repeat (go_quiet (first|(go_at_call 41;(with_reducible refine (spec_NameOk.calls k1 (rdOf ByteArray.empty l0 x3_1) true _ A4.out).mono ?_);rintro e w' ⟨rfl,⟨nd,rfl⟩⟩;(try first|exact ⟨rfl,_,World.drewN_drewN _ _ _⟩|exact ⟨rfl,_,Eq.trans (World.drewN_drewN _ _ _) (congrArg (World.drewN _) (Nat.add_assoc _ _ _))⟩);have p520:0 ≤ ((ji7):Int):=odt;have q520:(ji7) < (l0.length:Int):=odt;obtain ⟨ad520,e520,hx520_0⟩:=Kd.at_string HR0.out (ji7) p520 q520;obtain rfl:ad518 = ad520:=(by injection e520);replace p520:=eq_true p520;replace q520:=eq_true q520;have p521:0 ≤ (x3_1:Int):=odt;have q521:x3_1 < (l0.length:Int):=odt;obtain ⟨ad521,e521,hx521_0⟩:=Kd.at_string HR0.out x3_1 p521 q521;obtain rfl:ad518 = ad521:=(by injection e521);replace p521:=eq_true p521;replace q521:=eq_true q521));try go_wp2_with (first|(go_at_call 41;(with_reducible refine (spec_NameOk.calls k1 (rdOf ByteArray.empty l0 x3_1) true _ A4.out).mono ?_);rintro e w' ⟨rfl,⟨nd,rfl⟩⟩;(try first|exact ⟨rfl,_,World.drewN_drewN _ _ _⟩|exact ⟨rfl,_,Eq.trans (World.drewN_drewN _ _ _) (congrArg (World.drewN _) (Nat.add_assoc _ _ _))⟩);have p520:0 ≤ ((ji7):Int):=odt;have q520:(ji7) < (l0.length:Int):=odt;obtain ⟨ad520,e520,hx520_0⟩:=Kd.at_string HR0.out (ji7) p520 q520;obtain rfl:ad518 = ad520:=(by injection e520);replace p520:=eq_true p520;replace q520:=eq_true q520;have p521:0 ≤ (x3_1:Int):=odt;have q521:x3_1 < (l0.length:Int):=odt;obtain ⟨ad521,e521,hx521_0⟩:=Kd.at_string HR0.out x3_1 p521 q521;obtain rfl:ad518 = ad521:=(by injection e521);replace p521:=eq_true p521;replace q521:=eq_true q521)))
                 go_ret
                 exact ⟨by first|rfl|(simp;done)|(simp only [← hji7] <;> (first|rfl|simp))|(simp [*];done),by repeat (first|exact Drawn0.refl _|apply Drawn0.step)⟩
             · rw [if_neg c9] at H
               exact absurd H (by simp)
           · rw [if_neg c8] at H
             exact absurd H (by simp)
         · rw [if_neg c6] at H
           have c6b0:decide (0 < x3_1) = false:=decide_eq_false c6;clear c6;have H':=As0.mk H;clear H;have p518:0 ≤ (x3_1:Int):=odt;have q518:x3_1 < (l0.length:Int):=odt;obtain ⟨ad518,e518,hx518_0⟩:=Kd.at_string HR0.out x3_1 p518 q518
           cases e518
           replace p518:=eq_true p518;replace q518:=eq_true q518
           go_wp2_with (first|(go_at_call 41;(with_reducible refine (spec_NameOk.calls k1 (rdOf ByteArray.empty l0 x3_1) true _ A4.out).mono ?_);rintro e w' ⟨rfl,⟨nd,rfl⟩⟩;(try first|exact ⟨rfl,_,World.drewN_drewN _ _ _⟩|exact ⟨rfl,_,Eq.trans (World.drewN_drewN _ _ _) (congrArg (World.drewN _) (Nat.add_assoc _ _ _))⟩)))
           repeat (go_quiet (first|(go_at_call 41;(with_reducible refine (spec_NameOk.calls k1 (rdOf ByteArray.empty l0 x3_1) true _ A4.out).mono ?_);rintro e w' ⟨rfl,⟨nd,rfl⟩⟩;(try first|exact ⟨rfl,_,World.drewN_drewN _ _ _⟩|exact ⟨rfl,_,Eq.trans (World.drewN_drewN _ _ _) (congrArg (World.drewN _) (Nat.add_assoc _ _ _))⟩)));try go_wp2_with (first|(go_at_call 41;(with_reducible refine (spec_NameOk.calls k1 (rdOf ByteArray.empty l0 x3_1) true _ A4.out).mono ?_);rintro e w' ⟨rfl,⟨nd,rfl⟩⟩;(try first|exact ⟨rfl,_,World.drewN_drewN _ _ _⟩|exact ⟨rfl,_,Eq.trans (World.drewN_drewN _ _ _) (congrArg (World.drewN _) (Nat.add_assoc _ _ _))⟩))))
           show _;go_roundg k1
           case measure=>have:=HK1.out;omega
           case rel=>exact ⟨(wrap64 (x3_1 + 1)),(by first|rfl|(simp;done)|(simp [*];done)),H',⟨by have:=HK1.out;omega⟩,by repeat (first|exact Drawn0.refl _|apply Drawn0.step)⟩
       · replace c5:=Bool.eq_false_iff.mpr c5
         subst c5;have H1:(some false) = some r:=by rw [if_neg (show ¬ (false = true) by decide)] at H;exact H
         clear H;have H:=H1;clear H1;obtain rfl:=Option.some.inj H;have p518:0 ≤ (x3_1:Int):=odt;have q518:x3_1 < (l0.length:Int):=odt;obtain ⟨ad518,e518,hx518_0⟩:=Kd.at_string HR0.out x3_1 p518 q518
         cases e518
         replace p518:=eq_true p518;replace q518:=eq_true q518
         go_wp2_with (first|(go_at_call 41;(with_reducible refine (spec_NameOk.calls k1 (rdOf ByteArray.empty l0 x3_1) false _ A4.out).mono ?_);rintro e w' ⟨rfl,⟨nd,rfl⟩⟩;(try first|exact ⟨rfl,_,World.drewN_drewN _ _ _⟩|exact ⟨rfl,_,Eq.trans (World.drewN_drewN _ _ _) (congrArg (World.drewN _) (Nat.add_assoc _ _ _))⟩)))
         repeat (go_quiet (first|(go_at_call 41;(with_reducible refine (spec_NameOk.calls k1 (rdOf ByteArray.empty l0 x3_1) false _ A4.out).mono ?_);rintro e w' ⟨rfl,⟨nd,rfl⟩⟩;(try first|exact ⟨rfl,_,World.drewN_drewN _ _ _⟩|exact ⟨rfl,_,Eq.trans (World.drewN_drewN _ _ _) (congrArg (World.drewN _) (Nat.add_assoc _ _ _))⟩)));try go_wp2_with (first|(go_at_call 41;(with_reducible refine (spec_NameOk.calls k1 (rdOf ByteArray.empty l0 x3_1) false _ A4.out).mono ?_);rintro e w' ⟨rfl,⟨nd,rfl⟩⟩;(try first|exact ⟨rfl,_,World.drewN_drewN _ _ _⟩|exact ⟨rfl,_,Eq.trans (World.drewN_drewN _ _ _) (congrArg (World.drewN _) (Nat.add_assoc _ _ _))⟩))))
         go_ret
         exact ⟨by first|rfl|(simp;done)|(simp [*];done),by repeat (first|exact Drawn0.refl _|apply Drawn0.step)⟩
     · rw [if_neg c3] at H
       exact absurd H (by simp)
   · rw [if_neg c2] at H
     have c2b0:decide (x3_1 < (l0.length:Int)) = false:=decide_eq_false c2;clear c2;obtain rfl:=Option.some.inj H
     go_wp2
     repeat (go_quiet (fail);try go_wp2)
     go_ret
     exact ⟨by first|rfl|(simp;done)|(simp [*];done),by repeat (first|exact Drawn0.refl _|apply Drawn0.step)⟩
def spec_l4Value.l0:Nat → ByteArray → Int → Option (Bool)
 |0,_,_=>none
 |k + 1,x0,x3=>if x3 < (x0.size:Int) then (if 0 ≤ x3 then (if (bt x0 x3) < 32 then (some false) else (if (bt x0 x3) > 126 then (some false) else (spec_l4Value.l0 k x0 (wrap64 (x3 + 1))))) else (none)) else (some (decide ((x0.size:Int) ≤ 80)))
def spec_l4Value.f (k:Nat) (a0:ByteArray):Option (Bool):=spec_l4Value.l0 k a0 0
set_option maxHeartbeats 40000000 in
set_option maxRecDepth 100000 in
theorem spec_l4Value.calls (k:Nat) (a0:ByteArray) (r:Bool) (w:World) (h:spec_l4Value.f k a0 = some r) :
 Calls Tryd.prog 51 #[.string a0] w fun e w'=>e = .returned (.bool r) ∧ Drawn0 w w':=by
 have H:(spec_l4Value.l0 k a0 0) = some r:=h;clear h;have H':=As0.mk H;clear H
 go_enter Tryd.func51,Tryd.ntmps51
 go_wp2
 show _;go_loopg [3] k (fun kq v3 w'=>∃ (x3_1:Int),v3 = .int .i64 x3_1 ∧ As0 (spec_l4Value.l0 kq a0 x3_1 = some r) ∧ As0 (kq ≤ k) ∧ Drawn0 w w')
 case atStart=>exact ⟨(0),(by first|rfl|(simp;done)|(simp [*];done)),H',⟨Nat.le_refl _⟩,by repeat (first|exact Drawn0.refl _|apply Drawn0.step)⟩
 case round=>
  clear H';obtain ⟨x3_1,rfl,HA,HK1,⟨m1,rfl⟩⟩:=hrel
  cases gk with
  |zero=>exact absurd HA.out (by simp [spec_l4Value.l0])
  |succ k1=>
   have H:=HA.out;clear HA;simp only [spec_l4Value.l0] at H;by_cases c2:x3_1 < (a0.size:Int)
   · rw [if_pos c2] at H
     have c2b0:decide (x3_1 < (a0.size:Int)) = true:=decide_eq_true c2;clear c2;by_cases c3:0 ≤ x3_1
     · rw [if_pos c3] at H
       have c3b0:decide (0 ≤ x3_1) = true:=decide_eq_true c3;clear c3;by_cases c5:(bt a0 x3_1) < 32
       · rw [if_pos c5] at H
         have c5b0:decide ((bt a0 x3_1) < 32) = true:=decide_eq_true c5;clear c5;obtain rfl:=Option.some.inj H;have p4:0 ≤ (x3_1:Int):=odt;have q4:x3_1 < (a0.size:Int):=odt;have hx4:=bt_at a0 x3_1;replace p4:=eq_true p4;replace q4:=eq_true q4
         go_wp2
         go_ret
         exact ⟨by first|rfl|(simp;done)|(simp [*];done),by repeat (first|exact Drawn0.refl _|apply Drawn0.step)⟩
       · rw [if_neg c5] at H
         have c5b0:decide ((bt a0 x3_1) < 32) = false:=decide_eq_false c5;clear c5;by_cases c7:(bt a0 x3_1) > 126
         · rw [if_pos c7] at H
           have c7b0:decide (126 < (bt a0 x3_1)) = true:=decide_eq_true c7;clear c7;obtain rfl:=Option.some.inj H;have p4:0 ≤ (x3_1:Int):=odt;have q4:x3_1 < (a0.size:Int):=odt;have hx4:=bt_at a0 x3_1;replace p4:=eq_true p4;replace q4:=eq_true q4;have p6:0 ≤ (x3_1:Int):=odt;have q6:x3_1 < (a0.size:Int):=odt;have hx6:=bt_at a0 x3_1;replace p6:=eq_true p6;replace q6:=eq_true q6
           go_wp2
           go_ret
           exact ⟨by first|rfl|(simp;done)|(simp [*];done),by repeat (first|exact Drawn0.refl _|apply Drawn0.step)⟩
         · rw [if_neg c7] at H
           have c7b0:decide (126 < (bt a0 x3_1)) = false:=decide_eq_false c7;clear c7;have H':=As0.mk H;clear H;have p4:0 ≤ (x3_1:Int):=odt;have q4:x3_1 < (a0.size:Int):=odt;have hx4:=bt_at a0 x3_1;replace p4:=eq_true p4;replace q4:=eq_true q4;have p6:0 ≤ (x3_1:Int):=odt;have q6:x3_1 < (a0.size:Int):=odt;have hx6:=bt_at a0 x3_1;replace p6:=eq_true p6;replace q6:=eq_true q6
           go_wp2
           show _;go_roundg k1
           case measure=>have:=HK1.out;omega
           case rel=>exact ⟨(wrap64 (x3_1 + 1)),(by first|rfl|(simp;done)|(simp [*];done)),H',⟨by have:=HK1.out;omega⟩,by repeat (first|exact Drawn0.refl _|apply Drawn0.step)⟩
     · rw [if_neg c3] at H
       exact absurd H (by simp)
   · rw [if_neg c2] at H
     have c2b0:decide (x3_1 < (a0.size:Int)) = false:=decide_eq_false c2;clear c2;obtain rfl:=Option.some.inj H
     go_wp2
     go_ret
     exact ⟨by first|rfl|(simp;done)|(simp [*];done),by repeat (first|exact Drawn0.refl _|apply Drawn0.step)⟩
def spec_l7Body.f (k:Nat) (a0:ByteArray):Option (Bool):=(spec_l4Value.f k a0).bind fun t522=>(if t522 = true then (some (decide ((a0.size:Int) ≤ 40))) else (some false))
set_option maxHeartbeats 40000000 in
set_option maxRecDepth 100000 in
theorem spec_l7Body.calls (k:Nat) (a0:ByteArray) (r:Bool) (w:World) (h:spec_l7Body.f k a0 = some r) :
 Calls Tryd.prog 43 #[.string a0] w fun e w'=>e = .returned (.bool r) ∧ Drawn0 w w':=by
 have H:((spec_l4Value.f k a0).bind fun t522=>(if t522 = true then (some (decide ((a0.size:Int) ≤ 40))) else (some false))) = some r:=h;clear h;replace H:=Option.bind_eq_some_iff.mp H;obtain ⟨t522,A20,H⟩:=H;(try dsimp only at H);have A2:=As0.mk A20;clear A20;by_cases c3:t522 = true
 · subst c3
   have H1:(some (decide ((a0.size:Int) ≤ 40))) = some r:=by rw [if_pos rfl] at H;exact H
   clear H;have H:=H1;clear H1;obtain rfl:=Option.some.inj H
   go_enter Tryd.func43,Tryd.ntmps43
   go_wp2_with (first|((with_reducible refine gca (f:=51) rfl ?_);refine gL (some 4) Tryd.func51 #[.string a0] ?_;(with_reducible refine (spec_l4Value.calls k a0 true _ A2.out).mono ?_);rintro e w' ⟨rfl,⟨nd,rfl⟩⟩;refine ⟨_,rfl,?_⟩))
   go_ret
   exact ⟨by first|rfl|(simp;done)|(simp [*];done),by repeat (first|exact Drawn0.refl _|apply Drawn0.step)⟩
 · replace c3:=Bool.eq_false_iff.mpr c3
   subst c3;have H1:(some false) = some r:=by rw [if_neg (show ¬ (false = true) by decide)] at H;exact H
   clear H;have H:=H1;clear H1;obtain rfl:=Option.some.inj H
   go_enter Tryd.func43,Tryd.ntmps43
   go_wp2_with (first|((with_reducible refine gca (f:=51) rfl ?_);refine gL (some 4) Tryd.func51 #[.string a0] ?_;(with_reducible refine (spec_l4Value.calls k a0 false _ A2.out).mono ?_);rintro e w' ⟨rfl,⟨nd,rfl⟩⟩;refine ⟨_,rfl,?_⟩))
   go_ret
   exact ⟨by first|rfl|(simp;done)|(simp [*];done),by repeat (first|exact Drawn0.refl _|apply Drawn0.step)⟩
def spec_ThingOk.f (k:Nat) (a0_0:ByteArray) (a0_1:ByteArray) (a0_2:Int) (a0_3:Int) (a0_4:Bool) (l0_5:List ByteArray) (a0_6:ByteArray):Option (Bool):=(spec_NameOk.f k a0_0).bind fun t524=>(if t524 = true then ((spec_NameOk.f k a0_1).bind fun t525=>(if t525 = true then ((spec_l1In.f a0_2 1 99999).bind fun t526=>(if t526 = true then ((spec_l1In.f a0_3 1 99999).bind fun t527=>(if t527 = true then ((spec_l7Marks.f k l0_5).bind fun t528=>(if t528 = true then ((spec_l7Body.f k a0_6).bind fun t529=>(if t529 = true then (if a0_4 = true then (some (decide ((l0_5.length:Int) > 0))) else (some true)) else (some false))) else (some false))) else (some false))) else (some false))) else (some false))) else (some false))
set_option maxHeartbeats 40000000 in
set_option maxRecDepth 100000 in
theorem spec_ThingOk.calls (k:Nat) (a0_0:ByteArray) (a0_1:ByteArray) (a0_2:Int) (a0_3:Int) (a0_4:Bool) (A0_5:Option Addr) (c0_5:Nat) (l0_5:List ByteArray) (a0_6:ByteArray) (r:Bool) (w:World) (hr0_5:Kd.C Kd.string w A0_5 l0_5.length l0_5) (hc0_5:l0_5.length ≤ c0_5) (h:spec_ThingOk.f k a0_0 a0_1 a0_2 a0_3 a0_4 l0_5 a0_6 = some r) :
 Calls Tryd.prog 22 #[.agg #[.string a0_0,.string a0_1,.int .i64 a0_2,.int .i64 a0_3,.bool a0_4,.slice A0_5 l0_5.length c0_5,.string a0_6]] w fun e w'=>e = .returned (.bool r) ∧ Below w.heap.size w w':=by
 have hu34:=Tryd.underlying34;have HR0_5:=As0.mk hr0_5;have HC0_5:=As0.mk hc0_5;clear hr0_5 hc0_5;have HB:=As0.mk (Below.refl w.heap.size w);have H:((spec_NameOk.f k a0_0).bind fun t524=>(if t524 = true then ((spec_NameOk.f k a0_1).bind fun t525=>(if t525 = true then ((spec_l1In.f a0_2 1 99999).bind fun t526=>(if t526 = true then ((spec_l1In.f a0_3 1 99999).bind fun t527=>(if t527 = true then ((spec_l7Marks.f k l0_5).bind fun t528=>(if t528 = true then ((spec_l7Body.f k a0_6).bind fun t529=>(if t529 = true then (if a0_4 = true then (some (decide ((l0_5.length:Int) > 0))) else (some true)) else (some false))) else (some false))) else (some false))) else (some false))) else (some false))) else (some false))) = some r:=h;clear h;replace H:=Option.bind_eq_some_iff.mp H;obtain ⟨t524,A20,H⟩:=H;(try dsimp only at H);have A2:=As0.mk A20;clear A20;by_cases c3:t524 = true
 · subst c3
   have H1:((spec_NameOk.f k a0_1).bind fun t525=>(if t525 = true then ((spec_l1In.f a0_2 1 99999).bind fun t526=>(if t526 = true then ((spec_l1In.f a0_3 1 99999).bind fun t527=>(if t527 = true then ((spec_l7Marks.f k l0_5).bind fun t528=>(if t528 = true then ((spec_l7Body.f k a0_6).bind fun t529=>(if t529 = true then (if a0_4 = true then (some (decide ((l0_5.length:Int) > 0))) else (some true)) else (some false))) else (some false))) else (some false))) else (some false))) else (some false))) = some r:=by rw [if_pos rfl] at H;exact H
   clear H;have H:=H1;clear H1;replace H:=Option.bind_eq_some_iff.mp H;obtain ⟨t525,A40,H⟩:=H;(try dsimp only at H);have A4:=As0.mk A40;clear A40;by_cases c5:t525 = true
   · subst c5
     have H1:((spec_l1In.f a0_2 1 99999).bind fun t526=>(if t526 = true then ((spec_l1In.f a0_3 1 99999).bind fun t527=>(if t527 = true then ((spec_l7Marks.f k l0_5).bind fun t528=>(if t528 = true then ((spec_l7Body.f k a0_6).bind fun t529=>(if t529 = true then (if a0_4 = true then (some (decide ((l0_5.length:Int) > 0))) else (some true)) else (some false))) else (some false))) else (some false))) else (some false))) = some r:=by rw [if_pos rfl] at H;exact H
     clear H;have H:=H1;clear H1;replace H:=Option.bind_eq_some_iff.mp H;obtain ⟨t526,A60,H⟩:=H;(try dsimp only at H);have A6:=As0.mk A60;clear A60;by_cases c7:t526 = true
     · subst c7
       have H1:((spec_l1In.f a0_3 1 99999).bind fun t527=>(if t527 = true then ((spec_l7Marks.f k l0_5).bind fun t528=>(if t528 = true then ((spec_l7Body.f k a0_6).bind fun t529=>(if t529 = true then (if a0_4 = true then (some (decide ((l0_5.length:Int) > 0))) else (some true)) else (some false))) else (some false))) else (some false))) = some r:=by rw [if_pos rfl] at H;exact H
       clear H;have H:=H1;clear H1;replace H:=Option.bind_eq_some_iff.mp H;obtain ⟨t527,A80,H⟩:=H;(try dsimp only at H);have A8:=As0.mk A80;clear A80;by_cases c9:t527 = true
       · subst c9
         have H1:((spec_l7Marks.f k l0_5).bind fun t528=>(if t528 = true then ((spec_l7Body.f k a0_6).bind fun t529=>(if t529 = true then (if a0_4 = true then (some (decide ((l0_5.length:Int) > 0))) else (some true)) else (some false))) else (some false))) = some r:=by rw [if_pos rfl] at H;exact H
         clear H;have H:=H1;clear H1;replace H:=Option.bind_eq_some_iff.mp H;obtain ⟨t528,A100,H⟩:=H;(try dsimp only at H);have A10:=As0.mk A100;clear A100;by_cases c11:t528 = true
         · subst c11
           have H1:((spec_l7Body.f k a0_6).bind fun t529=>(if t529 = true then (if a0_4 = true then (some (decide ((l0_5.length:Int) > 0))) else (some true)) else (some false))) = some r:=by rw [if_pos rfl] at H;exact H
           clear H;have H:=H1;clear H1;replace H:=Option.bind_eq_some_iff.mp H;obtain ⟨t529,A120,H⟩:=H;(try dsimp only at H);have A12:=As0.mk A120;clear A120;by_cases c13:t529 = true
           · subst c13
             have H1:(if a0_4 = true then (some (decide ((l0_5.length:Int) > 0))) else (some true)) = some r:=by rw [if_pos rfl] at H;exact H
             clear H;have H:=H1;clear H1;by_cases c14:a0_4 = true
             · subst c14
               have H1:(some (decide ((l0_5.length:Int) > 0))) = some r:=by rw [if_pos rfl] at H;exact H
               clear H;have H:=H1;clear H1;obtain rfl:=Option.some.inj H
               go_enter Tryd.func22,Tryd.ntmps22
               go_wp2_with (first|((with_reducible refine gate_dst (N:=1) rfl ?_);(try (refine gate_guard (by rfl) ?_;dsimp only));refine bE 1 #[.string a0_0,.string a0_1,.int .i64 a0_2,.int .i64 a0_3,.bool true,.slice A0_5 l0_5.length c0_5,.string a0_6] 34 ?_;intro gb523 hg w15 hbox hb;have BK523:=As0.mk (hbox);have GW523:=As0.mk ((by rw [hg];exact (bsz HB.out):w.heap.size ≤ gb523));have GE523:=GW523;replace HB:=As0.mk (bsp HB.out hb);clear hb hbox hg;obtain ⟨hcz16_0,hcz16_1,hcz16_2,hcz16_3,hcz16_4,hcz16_5,hcz16_6⟩:=qc7 BK523.out;obtain ⟨hfz16_0,hfz16_1,hfz16_2,hfz16_3,hfz16_4,hfz16_5,hfz16_6⟩:=qz7 BK523.out)|((with_reducible refine gca (f:=41) rfl ?_);refine gL (some 5) Tryd.func41 #[.string a0_0] ?_;(with_reducible refine (spec_NameOk.calls k a0_0 true _ A2.out).mono ?_);rintro e w' ⟨rfl,⟨nd,rfl⟩⟩;refine ⟨_,rfl,?_⟩)|(go_at_call 41;(with_reducible refine (spec_NameOk.calls k a0_1 true _ A4.out).mono ?_);rintro e w' ⟨rfl,⟨nd,rfl⟩⟩)|(go_at_call 26;(with_reducible refine (spec_l1In.calls a0_2 1 99999 true _ A6.out).mono ?_);rintro e w' ⟨rfl,⟨nd,rfl⟩⟩)|(go_at_call 26;(with_reducible refine (spec_l1In.calls a0_3 1 99999 true _ A8.out).mono ?_);rintro e w' ⟨rfl,⟨nd,rfl⟩⟩)|(go_at_call 42;(with_reducible refine (spec_l7Marks.calls k _ _ l0_5 true _ ?side1 ?side2 A10.out).mono ?_);(case side1=>repeat (first|exact (Kd.C_below HR0_5.out HB.out)|(with_reducible first|refine Kd.C_alloc ?_ _|refine Kd.C_drewN ?_ _|refine Kd.C_drew ?_)));(case side2=>exact HC0_5.out);rintro e w' ⟨rfl,⟨nd,rfl⟩⟩)|(go_at_call 43;(with_reducible refine (spec_l7Body.calls k a0_6 true _ A12.out).mono ?_);rintro e w' ⟨rfl,⟨nd,rfl⟩⟩))
               go_ret
               exact ⟨eW,by repeat (first|(with_reducible first|exact HB.out|apply bal|apply pbN|apply bd1|refine bst ?_ GE523.out)|exact HB.out)⟩
             · replace c14:=Bool.eq_false_iff.mpr c14
               subst c14;have H1:(some true) = some r:=by rw [if_neg (show ¬ (false = true) by decide)] at H;exact H
               clear H;have H:=H1;clear H1;obtain rfl:=Option.some.inj H
               go_enter Tryd.func22,Tryd.ntmps22
               go_wp2_with (first|((with_reducible refine gate_dst (N:=1) rfl ?_);(try (refine gate_guard (by rfl) ?_;dsimp only));refine bE 1 #[.string a0_0,.string a0_1,.int .i64 a0_2,.int .i64 a0_3,.bool false,.slice A0_5 l0_5.length c0_5,.string a0_6] 34 ?_;intro gb523 hg w17 hbox hb;have BK523:=As0.mk (hbox);have GW523:=As0.mk ((by rw [hg];exact (bsz HB.out):w.heap.size ≤ gb523));have GE523:=GW523;replace HB:=As0.mk (bsp HB.out hb);clear hb hbox hg;obtain ⟨hcz18_0,hcz18_1,hcz18_2,hcz18_3,hcz18_4,hcz18_5,hcz18_6⟩:=qc7 BK523.out;obtain ⟨hfz18_0,hfz18_1,hfz18_2,hfz18_3,hfz18_4,hfz18_5,hfz18_6⟩:=qz7 BK523.out)|((with_reducible refine gca (f:=41) rfl ?_);refine gL (some 5) Tryd.func41 #[.string a0_0] ?_;(with_reducible refine (spec_NameOk.calls k a0_0 true _ A2.out).mono ?_);rintro e w' ⟨rfl,⟨nd,rfl⟩⟩;refine ⟨_,rfl,?_⟩)|(go_at_call 41;(with_reducible refine (spec_NameOk.calls k a0_1 true _ A4.out).mono ?_);rintro e w' ⟨rfl,⟨nd,rfl⟩⟩)|(go_at_call 26;(with_reducible refine (spec_l1In.calls a0_2 1 99999 true _ A6.out).mono ?_);rintro e w' ⟨rfl,⟨nd,rfl⟩⟩)|(go_at_call 26;(with_reducible refine (spec_l1In.calls a0_3 1 99999 true _ A8.out).mono ?_);rintro e w' ⟨rfl,⟨nd,rfl⟩⟩)|(go_at_call 42;(with_reducible refine (spec_l7Marks.calls k _ _ l0_5 true _ ?side1 ?side2 A10.out).mono ?_);(case side1=>repeat (first|exact (Kd.C_below HR0_5.out HB.out)|(with_reducible first|refine Kd.C_alloc ?_ _|refine Kd.C_drewN ?_ _|refine Kd.C_drew ?_)));(case side2=>exact HC0_5.out);rintro e w' ⟨rfl,⟨nd,rfl⟩⟩)|(go_at_call 43;(with_reducible refine (spec_l7Body.calls k a0_6 true _ A12.out).mono ?_);rintro e w' ⟨rfl,⟨nd,rfl⟩⟩))
               go_ret
               exact ⟨eW,by repeat (first|(with_reducible first|exact HB.out|apply bal|apply pbN|apply bd1|refine bst ?_ GE523.out)|exact HB.out)⟩
           · replace c13:=Bool.eq_false_iff.mpr c13
             subst c13;have H1:(some false) = some r:=by rw [if_neg (show ¬ (false = true) by decide)] at H;exact H
             clear H;have H:=H1;clear H1;obtain rfl:=Option.some.inj H
             go_enter Tryd.func22,Tryd.ntmps22
             go_wp2_with (first|((with_reducible refine gate_dst (N:=1) rfl ?_);(try (refine gate_guard (by rfl) ?_;dsimp only));refine bE 1 #[.string a0_0,.string a0_1,.int .i64 a0_2,.int .i64 a0_3,.bool a0_4,.slice A0_5 l0_5.length c0_5,.string a0_6] 34 ?_;intro gb523 hg w19 hbox hb;have BK523:=As0.mk (hbox);have GW523:=As0.mk ((by rw [hg];exact (bsz HB.out):w.heap.size ≤ gb523));have GE523:=GW523;replace HB:=As0.mk (bsp HB.out hb);clear hb hbox hg;obtain ⟨hcz20_0,hcz20_1,hcz20_2,hcz20_3,hcz20_4,hcz20_5,hcz20_6⟩:=qc7 BK523.out;obtain ⟨hfz20_0,hfz20_1,hfz20_2,hfz20_3,hfz20_4,hfz20_5,hfz20_6⟩:=qz7 BK523.out)|((with_reducible refine gca (f:=41) rfl ?_);refine gL (some 5) Tryd.func41 #[.string a0_0] ?_;(with_reducible refine (spec_NameOk.calls k a0_0 true _ A2.out).mono ?_);rintro e w' ⟨rfl,⟨nd,rfl⟩⟩;refine ⟨_,rfl,?_⟩)|(go_at_call 41;(with_reducible refine (spec_NameOk.calls k a0_1 true _ A4.out).mono ?_);rintro e w' ⟨rfl,⟨nd,rfl⟩⟩)|(go_at_call 26;(with_reducible refine (spec_l1In.calls a0_2 1 99999 true _ A6.out).mono ?_);rintro e w' ⟨rfl,⟨nd,rfl⟩⟩)|(go_at_call 26;(with_reducible refine (spec_l1In.calls a0_3 1 99999 true _ A8.out).mono ?_);rintro e w' ⟨rfl,⟨nd,rfl⟩⟩)|(go_at_call 42;(with_reducible refine (spec_l7Marks.calls k _ _ l0_5 true _ ?side1 ?side2 A10.out).mono ?_);(case side1=>repeat (first|exact (Kd.C_below HR0_5.out HB.out)|(with_reducible first|refine Kd.C_alloc ?_ _|refine Kd.C_drewN ?_ _|refine Kd.C_drew ?_)));(case side2=>exact HC0_5.out);rintro e w' ⟨rfl,⟨nd,rfl⟩⟩)|(go_at_call 43;(with_reducible refine (spec_l7Body.calls k a0_6 false _ A12.out).mono ?_);rintro e w' ⟨rfl,⟨nd,rfl⟩⟩))
             go_ret
             exact ⟨eW,by repeat (first|(with_reducible first|exact HB.out|apply bal|apply pbN|apply bd1|refine bst ?_ GE523.out)|exact HB.out)⟩
         · replace c11:=Bool.eq_false_iff.mpr c11
           subst c11;have H1:(some false) = some r:=by rw [if_neg (show ¬ (false = true) by decide)] at H;exact H
           clear H;have H:=H1;clear H1;obtain rfl:=Option.some.inj H
           go_enter Tryd.func22,Tryd.ntmps22
           go_wp2_with (first|((with_reducible refine gate_dst (N:=1) rfl ?_);(try (refine gate_guard (by rfl) ?_;dsimp only));refine bE 1 #[.string a0_0,.string a0_1,.int .i64 a0_2,.int .i64 a0_3,.bool a0_4,.slice A0_5 l0_5.length c0_5,.string a0_6] 34 ?_;intro gb523 hg w21 hbox hb;have BK523:=As0.mk (hbox);have GW523:=As0.mk ((by rw [hg];exact (bsz HB.out):w.heap.size ≤ gb523));have GE523:=GW523;replace HB:=As0.mk (bsp HB.out hb);clear hb hbox hg;obtain ⟨hcz22_0,hcz22_1,hcz22_2,hcz22_3,hcz22_4,hcz22_5,hcz22_6⟩:=qc7 BK523.out;obtain ⟨hfz22_0,hfz22_1,hfz22_2,hfz22_3,hfz22_4,hfz22_5,hfz22_6⟩:=qz7 BK523.out)|((with_reducible refine gca (f:=41) rfl ?_);refine gL (some 5) Tryd.func41 #[.string a0_0] ?_;(with_reducible refine (spec_NameOk.calls k a0_0 true _ A2.out).mono ?_);rintro e w' ⟨rfl,⟨nd,rfl⟩⟩;refine ⟨_,rfl,?_⟩)|(go_at_call 41;(with_reducible refine (spec_NameOk.calls k a0_1 true _ A4.out).mono ?_);rintro e w' ⟨rfl,⟨nd,rfl⟩⟩)|(go_at_call 26;(with_reducible refine (spec_l1In.calls a0_2 1 99999 true _ A6.out).mono ?_);rintro e w' ⟨rfl,⟨nd,rfl⟩⟩)|(go_at_call 26;(with_reducible refine (spec_l1In.calls a0_3 1 99999 true _ A8.out).mono ?_);rintro e w' ⟨rfl,⟨nd,rfl⟩⟩)|(go_at_call 42;(with_reducible refine (spec_l7Marks.calls k _ _ l0_5 false _ ?side1 ?side2 A10.out).mono ?_);(case side1=>repeat (first|exact (Kd.C_below HR0_5.out HB.out)|(with_reducible first|refine Kd.C_alloc ?_ _|refine Kd.C_drewN ?_ _|refine Kd.C_drew ?_)));(case side2=>exact HC0_5.out);rintro e w' ⟨rfl,⟨nd,rfl⟩⟩))
           go_ret
           exact ⟨eW,by repeat (first|(with_reducible first|exact HB.out|apply bal|apply pbN|apply bd1|refine bst ?_ GE523.out)|exact HB.out)⟩
       · replace c9:=Bool.eq_false_iff.mpr c9
         subst c9;have H1:(some false) = some r:=by rw [if_neg (show ¬ (false = true) by decide)] at H;exact H
         clear H;have H:=H1;clear H1;obtain rfl:=Option.some.inj H
         go_enter Tryd.func22,Tryd.ntmps22
         go_wp2_with (first|((with_reducible refine gate_dst (N:=1) rfl ?_);(try (refine gate_guard (by rfl) ?_;dsimp only));refine bE 1 #[.string a0_0,.string a0_1,.int .i64 a0_2,.int .i64 a0_3,.bool a0_4,.slice A0_5 l0_5.length c0_5,.string a0_6] 34 ?_;intro gb523 hg w23 hbox hb;have BK523:=As0.mk (hbox);have GW523:=As0.mk ((by rw [hg];exact (bsz HB.out):w.heap.size ≤ gb523));have GE523:=GW523;replace HB:=As0.mk (bsp HB.out hb);clear hb hbox hg;obtain ⟨hcz24_0,hcz24_1,hcz24_2,hcz24_3,hcz24_4,hcz24_5,hcz24_6⟩:=qc7 BK523.out;obtain ⟨hfz24_0,hfz24_1,hfz24_2,hfz24_3,hfz24_4,hfz24_5,hfz24_6⟩:=qz7 BK523.out)|((with_reducible refine gca (f:=41) rfl ?_);refine gL (some 5) Tryd.func41 #[.string a0_0] ?_;(with_reducible refine (spec_NameOk.calls k a0_0 true _ A2.out).mono ?_);rintro e w' ⟨rfl,⟨nd,rfl⟩⟩;refine ⟨_,rfl,?_⟩)|(go_at_call 41;(with_reducible refine (spec_NameOk.calls k a0_1 true _ A4.out).mono ?_);rintro e w' ⟨rfl,⟨nd,rfl⟩⟩)|(go_at_call 26;(with_reducible refine (spec_l1In.calls a0_2 1 99999 true _ A6.out).mono ?_);rintro e w' ⟨rfl,⟨nd,rfl⟩⟩)|(go_at_call 26;(with_reducible refine (spec_l1In.calls a0_3 1 99999 false _ A8.out).mono ?_);rintro e w' ⟨rfl,⟨nd,rfl⟩⟩))
         go_ret
         exact ⟨eW,by repeat (first|(with_reducible first|exact HB.out|apply bal|apply pbN|apply bd1|refine bst ?_ GE523.out)|exact HB.out)⟩
     · replace c7:=Bool.eq_false_iff.mpr c7
       subst c7;have H1:(some false) = some r:=by rw [if_neg (show ¬ (false = true) by decide)] at H;exact H
       clear H;have H:=H1;clear H1;obtain rfl:=Option.some.inj H
       go_enter Tryd.func22,Tryd.ntmps22
       go_wp2_with (first|((with_reducible refine gate_dst (N:=1) rfl ?_);(try (refine gate_guard (by rfl) ?_;dsimp only));refine bE 1 #[.string a0_0,.string a0_1,.int .i64 a0_2,.int .i64 a0_3,.bool a0_4,.slice A0_5 l0_5.length c0_5,.string a0_6] 34 ?_;intro gb523 hg w25 hbox hb;have BK523:=As0.mk (hbox);have GW523:=As0.mk ((by rw [hg];exact (bsz HB.out):w.heap.size ≤ gb523));have GE523:=GW523;replace HB:=As0.mk (bsp HB.out hb);clear hb hbox hg;obtain ⟨hcz26_0,hcz26_1,hcz26_2,hcz26_3,hcz26_4,hcz26_5,hcz26_6⟩:=qc7 BK523.out;obtain ⟨hfz26_0,hfz26_1,hfz26_2,hfz26_3,hfz26_4,hfz26_5,hfz26_6⟩:=qz7 BK523.out)|((with_reducible refine gca (f:=41) rfl ?_);refine gL (some 5) Tryd.func41 #[.string a0_0] ?_;(with_reducible refine (spec_NameOk.calls k a0_0 true _ A2.out).mono ?_);rintro e w' ⟨rfl,⟨nd,rfl⟩⟩;refine ⟨_,rfl,?_⟩)|(go_at_call 41;(with_reducible refine (spec_NameOk.calls k a0_1 true _ A4.out).mono ?_);rintro e w' ⟨rfl,⟨nd,rfl⟩⟩)|(go_at_call 26;(with_reducible refine (spec_l1In.calls a0_2 1 99999 false _ A6.out).mono ?_);rintro e w' ⟨rfl,⟨nd,rfl⟩⟩))
       go_ret
       exact ⟨eW,by repeat (first|(with_reducible first|exact HB.out|apply bal|apply pbN|apply bd1|refine bst ?_ GE523.out)|exact HB.out)⟩
   · replace c5:=Bool.eq_false_iff.mpr c5
     subst c5;have H1:(some false) = some r:=by rw [if_neg (show ¬ (false = true) by decide)] at H;exact H
     clear H;have H:=H1;clear H1;obtain rfl:=Option.some.inj H
     go_enter Tryd.func22,Tryd.ntmps22
     go_wp2_with (first|((with_reducible refine gate_dst (N:=1) rfl ?_);(try (refine gate_guard (by rfl) ?_;dsimp only));refine bE 1 #[.string a0_0,.string a0_1,.int .i64 a0_2,.int .i64 a0_3,.bool a0_4,.slice A0_5 l0_5.length c0_5,.string a0_6] 34 ?_;intro gb523 hg w27 hbox hb;have BK523:=As0.mk (hbox);have GW523:=As0.mk ((by rw [hg];exact (bsz HB.out):w.heap.size ≤ gb523));have GE523:=GW523;replace HB:=As0.mk (bsp HB.out hb);clear hb hbox hg;obtain ⟨hcz28_0,hcz28_1,hcz28_2,hcz28_3,hcz28_4,hcz28_5,hcz28_6⟩:=qc7 BK523.out;obtain ⟨hfz28_0,hfz28_1,hfz28_2,hfz28_3,hfz28_4,hfz28_5,hfz28_6⟩:=qz7 BK523.out)|((with_reducible refine gca (f:=41) rfl ?_);refine gL (some 5) Tryd.func41 #[.string a0_0] ?_;(with_reducible refine (spec_NameOk.calls k a0_0 true _ A2.out).mono ?_);rintro e w' ⟨rfl,⟨nd,rfl⟩⟩;refine ⟨_,rfl,?_⟩)|(go_at_call 41;(with_reducible refine (spec_NameOk.calls k a0_1 false _ A4.out).mono ?_);rintro e w' ⟨rfl,⟨nd,rfl⟩⟩))
     go_ret
     exact ⟨eW,by repeat (first|(with_reducible first|exact HB.out|apply bal|apply pbN|apply bd1|refine bst ?_ GE523.out)|exact HB.out)⟩
 · replace c3:=Bool.eq_false_iff.mpr c3
   subst c3;have H1:(some false) = some r:=by rw [if_neg (show ¬ (false = true) by decide)] at H;exact H
   clear H;have H:=H1;clear H1;obtain rfl:=Option.some.inj H
   go_enter Tryd.func22,Tryd.ntmps22
   go_wp2_with (first|((with_reducible refine gate_dst (N:=1) rfl ?_);(try (refine gate_guard (by rfl) ?_;dsimp only));refine bE 1 #[.string a0_0,.string a0_1,.int .i64 a0_2,.int .i64 a0_3,.bool a0_4,.slice A0_5 l0_5.length c0_5,.string a0_6] 34 ?_;intro gb523 hg w29 hbox hb;have BK523:=As0.mk (hbox);have GW523:=As0.mk ((by rw [hg];exact (bsz HB.out):w.heap.size ≤ gb523));have GE523:=GW523;replace HB:=As0.mk (bsp HB.out hb);clear hb hbox hg;obtain ⟨hcz30_0,hcz30_1,hcz30_2,hcz30_3,hcz30_4,hcz30_5,hcz30_6⟩:=qc7 BK523.out;obtain ⟨hfz30_0,hfz30_1,hfz30_2,hfz30_3,hfz30_4,hfz30_5,hfz30_6⟩:=qz7 BK523.out)|((with_reducible refine gca (f:=41) rfl ?_);refine gL (some 5) Tryd.func41 #[.string a0_0] ?_;(with_reducible refine (spec_NameOk.calls k a0_0 false _ A2.out).mono ?_);rintro e w' ⟨rfl,⟨nd,rfl⟩⟩;refine ⟨_,rfl,?_⟩))
   go_ret
   exact ⟨eW,by repeat (first|(with_reducible first|exact HB.out|apply bal|apply pbN|apply bd1|refine bst ?_ GE523.out)|exact HB.out)⟩
def spec_l8In.l0:Nat → ByteArray → List ByteArray → Int → Option (Bool)
 |0,_,_,_=>none
 |k + 1,x2,x7,x8=>if x8 < (x7.length:Int) then (if 0 ≤ x8 then (if (rdOf ByteArray.empty x7 x8).toList = x2.toList then (some true) else (spec_l8In.l0 k x2 x7 (wrap64 (x8 + 1)))) else (none)) else (some false)
def spec_l8In.f (k:Nat) (l0:List (SiS23)) (a1:ByteArray) (a2:ByteArray):Option (Bool):=(spec_l8Up.f k l0 a1).bind fun t530=>(spec_l8In.l0 k a2 t530 0)
set_option maxHeartbeats 40000000 in
set_option maxRecDepth 100000 in
theorem spec_l8In.calls (k:Nat) (A0:Option Addr) (c0:Nat) (l0:List (SiS23)) (a1:ByteArray) (a2:ByteArray) (r:Bool) (w:World) (hr0:Kd.C k30 w A0 l0.length l0) (hc0:l0.length ≤ c0) (h:spec_l8In.f k l0 a1 a2 = some r) :
 Calls Tryd.prog 44 #[.slice A0 l0.length c0,.string a1,.string a2] w fun e w'=>e = .returned (.bool r) ∧ Below w.heap.size w w':=by
 have HR0:=As0.mk hr0;have HC0:=As0.mk hc0;clear hr0 hc0;have HB:=As0.mk (Below.refl w.heap.size w);have H:((spec_l8Up.f k l0 a1).bind fun t530=>(spec_l8In.l0 k a2 t530 0)) = some r:=h;clear h;replace H:=Option.bind_eq_some_iff.mp H;obtain ⟨t530,A40,H⟩:=H;(try dsimp only at H);have A4:=As0.mk A40;clear A40;have H':=As0.mk H;clear H
 go_enter Tryd.func44,Tryd.ntmps44
 go_wp2_with (first|((with_reducible refine gca (f:=25) rfl ?_);refine gL (some 11) Tryd.func25 #[.slice A0 l0.length c0,.string a1] ?_;(with_reducible refine (spec_l8Up.calls k _ _ l0 a1 t530 _ ?side1 ?side2 A4.out).mono ?_);(case side1=>repeat (first|exact HR0.out|(with_reducible first|refine Kd.C_alloc ?_ _|refine Kd.C_drewN ?_ _|refine Kd.C_drew ?_)));(case side2=>exact HC0.out);rintro e w5 ⟨v531,rfl,ho0,hb⟩;refine ⟨_,rfl,?_⟩;have HO532:=As0.mk (Kd.R_lower ho0 (bsz (by repeat (first|(with_reducible first|exact HB.out|apply bal|apply pbN|apply bd1)|exact HB.out))));replace HB:=As0.mk (b3 HB.out hb);clear hb ho0))
 show _;go_loopg [8] k (fun kq v8 w'=>∃ (x8_1:Int),v8 = .int .i64 x8_1 ∧ As0 (spec_l8In.l0 kq a2 t530 x8_1 = some r) ∧ As0 (kq ≤ k) ∧ As0 (Kd.R Kd.string 9 w' w.heap.size (fun _=>True) v531 t530) ∧ As0 (Below w.heap.size w w'))
 case atStart=>exact ⟨(0),(by first|rfl|(simp;done)|(simp [*];done)),H',⟨Nat.le_refl _⟩,⟨by (with_reducible repeat (first|apply Kd.Ral|apply Kd.RdN|apply Kd.R_drew));exact HO532.out⟩,⟨by repeat (first|(with_reducible first|exact HB.out|apply bal|apply pbN|apply bd1)|exact HB.out)⟩⟩
 case round=>
  clear H'
  try clear c2
  try clear p2
  try clear c4
  obtain ⟨x8_1,rfl,HA,HK1,HO_7,HB⟩:=hrel
  cases gk with
  |zero=>exact absurd HA.out (by simp [spec_l8In.l0])
  |succ k1=>
   have H:=HA.out;clear HA;simp only [spec_l8In.l0] at H;by_cases c6:x8_1 < (t530.length:Int)
   · rw [if_pos c6] at H
     have c6b0:decide (x8_1 < (t530.length:Int)) = true:=decide_eq_true c6;clear c6;by_cases c7:0 ≤ x8_1
     · rw [if_pos c7] at H
       have c7b0:decide (0 ≤ x8_1) = true:=decide_eq_true c7;clear c7;by_cases c8:(rdOf ByteArray.empty t530 x8_1).toList = a2.toList
       · rw [if_pos c8] at H
         have c8b0:((rdOf ByteArray.empty t530 x8_1).toList == a2.toList) = true:=beq_iff_eq.mpr c8;have c8b1:((rdOf ByteArray.empty t530 x8_1).toList != a2.toList) = false:=bne_eq_false_iff_eq.mpr c8;clear c8;obtain rfl:=Option.some.inj H;obtain ⟨Ao9,co9,eo9⟩:=Kd.R_slice HO_7.out;subst eo9;have p533:0 ≤ (x8_1:Int):=odt;have q533:x8_1 < (t530.length:Int):=odt;obtain ⟨ad533,e533,hx533_0⟩:=Kd.at_string (Kd.R_reads' HO_7.out).2.2 x8_1 p533 q533
         cases e533
         replace p533:=eq_true p533;replace q533:=eq_true q533
         go_wp2
         go_ret
         exact ⟨eW,by repeat (first|(with_reducible first|exact HB.out|apply bal|apply pbN|apply bd1)|exact HB.out)⟩
       · rw [if_neg c8] at H
         have c8b0:((rdOf ByteArray.empty t530 x8_1).toList == a2.toList) = false:=beq_eq_false_iff_ne.mpr c8;have c8b1:((rdOf ByteArray.empty t530 x8_1).toList != a2.toList) = true:=bne_iff_ne.mpr c8;have H':=As0.mk H;clear H;obtain ⟨Ao10,co10,eo10⟩:=Kd.R_slice HO_7.out;subst eo10;have p533:0 ≤ (x8_1:Int):=odt;have q533:x8_1 < (t530.length:Int):=odt;obtain ⟨ad533,e533,hx533_0⟩:=Kd.at_string (Kd.R_reads' HO_7.out).2.2 x8_1 p533 q533
         cases e533
         replace p533:=eq_true p533;replace q533:=eq_true q533
         go_wp2
         show _;go_roundg k1
         case measure=>have:=HK1.out;omega
         case rel=>exact ⟨(wrap64 (x8_1 + 1)),(by first|rfl|(simp;done)|(simp [*];done)),H',⟨by have:=HK1.out;omega⟩,⟨by (with_reducible repeat (first|apply Kd.Ral|apply Kd.RdN|apply Kd.R_drew));exact HO_7.out⟩,⟨by repeat (first|(with_reducible first|exact HB.out|apply bal|apply pbN|apply bd1)|exact HB.out)⟩⟩
     · rw [if_neg c7] at H
       exact absurd H (by simp)
   · rw [if_neg c6] at H
     have c6b0:decide (x8_1 < (t530.length:Int)) = false:=decide_eq_false c6;clear c6;obtain rfl:=Option.some.inj H;obtain ⟨Ao11,co11,eo11⟩:=Kd.R_slice HO_7.out;subst eo11
     go_wp2
     go_ret
     exact ⟨eW,by repeat (first|(with_reducible first|exact HB.out|apply bal|apply pbN|apply bd1)|exact HB.out)⟩
def spec_l8Sum.l0:Nat → List (SiS23) → List (SiT24) → ByteArray → Int → Int → Option (Int)
 |0,_,_,_,_,_=>none
 |k + 1,x0,x1,x2,x7,x8=>if x8 < (x1.length:Int) then (if 0 ≤ x8 then ((spec_l8In.f k x0 ((riT27 x1 x8).f0) x2).bind fun t535=>(if t535 = true then (spec_l8Sum.l0 k x0 x1 x2 (wrap64 ((wrap64 (x7 + 1)) + (((riT27 x1 x8).f6).size:Int))) (wrap64 (x8 + 1))) else (spec_l8Sum.l0 k x0 x1 x2 x7 (wrap64 (x8 + 1))))) else (none)) else (some x7)
def spec_l8Sum.f (k:Nat) (l0:List (SiS23)) (l1:List (SiT24)) (a2:ByteArray):Option (Int):=spec_l8Sum.l0 k l0 l1 a2 0 0
set_option maxHeartbeats 40000000 in
set_option maxRecDepth 100000 in
theorem spec_l8Sum.calls (k:Nat) (A0:Option Addr) (c0:Nat) (l0:List (SiS23)) (A1:Option Addr) (c1:Nat) (l1:List (SiT24)) (a2:ByteArray) (r:Int) (w:World) (hr0:Kd.C k30 w A0 l0.length l0) (hc0:l0.length ≤ c0) (hr1:Kd.C k34 w A1 l1.length l1) (hc1:l1.length ≤ c1) (h:spec_l8Sum.f k l0 l1 a2 = some r) :
 Calls Tryd.prog 23 #[.slice A0 l0.length c0,.slice A1 l1.length c1,.string a2] w fun e w'=>e = .returned (.int .i64 r) ∧ Below w.heap.size w w':=by
 have HR0:=As0.mk hr0;have HC0:=As0.mk hc0;clear hr0 hc0;have HR1:=As0.mk hr1;have HC1:=As0.mk hc1;clear hr1 hc1;have HB:=As0.mk (Below.refl w.heap.size w);have H:(spec_l8Sum.l0 k l0 l1 a2 0 0) = some r:=h;clear h;have H':=As0.mk H;clear H
 go_enter Tryd.func23,Tryd.ntmps23
 go_wp2
 show _;go_loopg [7,8] k (fun kq v7 v8 w'=>∃ (x7_1:Int) (x8_1:Int),v7 = .int .i64 x7_1 ∧ v8 = .int .i64 x8_1 ∧ As0 (spec_l8Sum.l0 kq l0 l1 a2 x7_1 x8_1 = some r) ∧ As0 (kq ≤ k) ∧ As0 (Below w.heap.size w w'))
 case atStart=>exact ⟨(0),(0),(by first|rfl|(simp;done)|(simp [*];done)),(by first|rfl|(simp;done)|(simp [*];done)),H',⟨Nat.le_refl _⟩,⟨by repeat (first|(with_reducible first|exact HB.out|apply bal|apply pbN|apply bd1)|exact HB.out)⟩⟩
 case round=>
  clear H'
  try clear c1
  try clear c2
  try clear p2
  obtain ⟨x7_1,x8_1,rfl,rfl,HA,HK1,HB⟩:=hrel
  cases gk with
  |zero=>exact absurd HA.out (by simp [spec_l8Sum.l0])
  |succ k1=>
   have H:=HA.out;clear HA;simp only [spec_l8Sum.l0] at H;by_cases c4:x8_1 < (l1.length:Int)
   · rw [if_pos c4] at H
     have c4b0:decide (x8_1 < (l1.length:Int)) = true:=decide_eq_true c4;clear c4;by_cases c5:0 ≤ x8_1
     · rw [if_pos c5] at H
       have c5b0:decide (0 ≤ x8_1) = true:=decide_eq_true c5;clear c5;replace H:=Option.bind_eq_some_iff.mp H;obtain ⟨t535,A60,H⟩:=H;(try dsimp only at H);have A6:=As0.mk A60;clear A60;by_cases c7:t535 = true
       · subst c7
         have H1:(spec_l8Sum.l0 k1 l0 l1 a2 (wrap64 ((wrap64 (x7_1 + 1)) + (((riT27 l1 x8_1).f6).size:Int))) (wrap64 (x8_1 + 1))) = some r:=by rw [if_pos rfl] at H;exact H
         clear H;have H:=H1;clear H1;have H':=As0.mk H;clear H;have p534:0 ≤ (x8_1:Int):=odt;have q534:x8_1 < (l1.length:Int):=odt;obtain ⟨ad534,A534_5,c534_5,e534,hx534_0,hx534_1,hx534_2,hx534_3,hx534_4,hx534_5,hx534_6,hl534_5,hi534_5⟩:=at_T34 HR1.out x8_1 p534 q534
         cases e534
         replace hx534_0:=bx HB.out rfl hx534_0;replace hx534_1:=bx HB.out rfl hx534_1;replace hx534_2:=bx HB.out rfl hx534_2;replace hx534_3:=bx HB.out rfl hx534_3;replace hx534_4:=bx HB.out rfl hx534_4;replace hx534_5:=bx HB.out rfl hx534_5;replace hx534_6:=bx HB.out rfl hx534_6;have HR534_5:=As0.mk hi534_5;have HC534_5:=As0.mk hl534_5;clear hi534_5 hl534_5;replace p534:=eq_true p534;replace q534:=eq_true q534
         go_wp2_with (first|((with_reducible refine gca (f:=44) rfl ?_);refine gL (some 22) Tryd.func44 #[.slice A0 l0.length c0,.string ((riT27 l1 x8_1).f0),.string a2] ?_;(with_reducible refine (spec_l8In.calls k1 _ _ l0 ((riT27 l1 x8_1).f0) a2 true _ ?side1 ?side2 A6.out).mono ?_);(case side1=>repeat (first|exact (Kd.C_below HR0.out HB.out)|(with_reducible first|refine Kd.C_alloc ?_ _|refine Kd.C_drewN ?_ _|refine Kd.C_drew ?_)));(case side2=>exact HC0.out);rintro e w8 ⟨rfl,hb⟩;refine ⟨_,rfl,?_⟩;replace HB:=As0.mk (b3 HB.out hb);clear hb;have p536:0 ≤ (x8_1:Int):=odt;have q536:x8_1 < (l1.length:Int):=odt;obtain ⟨ad536,A536_5,c536_5,e536,hx536_0,hx536_1,hx536_2,hx536_3,hx536_4,hx536_5,hx536_6,hl536_5,hi536_5⟩:=at_T34 HR1.out x8_1 p536 q536;obtain rfl:ad534 = ad536:=(by injection e536);replace hx536_0:=bx HB.out rfl hx536_0;replace hx536_1:=bx HB.out rfl hx536_1;replace hx536_2:=bx HB.out rfl hx536_2;replace hx536_3:=bx HB.out rfl hx536_3;replace hx536_4:=bx HB.out rfl hx536_4;replace hx536_5:=bx HB.out rfl hx536_5;replace hx536_6:=bx HB.out rfl hx536_6;have HR536_5:=As0.mk hi536_5;have HC536_5:=As0.mk hl536_5;clear hi536_5 hl536_5;replace p536:=eq_true p536;replace q536:=eq_true q536))
         show _;go_roundg k1
         case measure=>have:=HK1.out;omega
         case rel=>exact ⟨(wrap64 ((wrap64 (x7_1 + 1)) + (((riT27 l1 x8_1).f6).size:Int))),(wrap64 (x8_1 + 1)),(by first|rfl|(simp;done)|(simp [*];done)),(by first|rfl|(simp;done)|(simp [*];done)),H',⟨by have:=HK1.out;omega⟩,⟨by repeat (first|(with_reducible first|exact HB.out|apply bal|apply pbN|apply bd1)|exact HB.out)⟩⟩
       · replace c7:=Bool.eq_false_iff.mpr c7
         subst c7;have H1:(spec_l8Sum.l0 k1 l0 l1 a2 x7_1 (wrap64 (x8_1 + 1))) = some r:=by rw [if_neg (show ¬ (false = true) by decide)] at H;exact H
         clear H;have H:=H1;clear H1;have H':=As0.mk H;clear H;have p534:0 ≤ (x8_1:Int):=odt;have q534:x8_1 < (l1.length:Int):=odt;obtain ⟨ad534,A534_5,c534_5,e534,hx534_0,hx534_1,hx534_2,hx534_3,hx534_4,hx534_5,hx534_6,hl534_5,hi534_5⟩:=at_T34 HR1.out x8_1 p534 q534
         cases e534
         replace hx534_0:=bx HB.out rfl hx534_0;replace hx534_1:=bx HB.out rfl hx534_1;replace hx534_2:=bx HB.out rfl hx534_2;replace hx534_3:=bx HB.out rfl hx534_3;replace hx534_4:=bx HB.out rfl hx534_4;replace hx534_5:=bx HB.out rfl hx534_5;replace hx534_6:=bx HB.out rfl hx534_6;have HR534_5:=As0.mk hi534_5;have HC534_5:=As0.mk hl534_5;clear hi534_5 hl534_5;replace p534:=eq_true p534;replace q534:=eq_true q534
         go_wp2_with (first|((with_reducible refine gca (f:=44) rfl ?_);refine gL (some 22) Tryd.func44 #[.slice A0 l0.length c0,.string ((riT27 l1 x8_1).f0),.string a2] ?_;(with_reducible refine (spec_l8In.calls k1 _ _ l0 ((riT27 l1 x8_1).f0) a2 false _ ?side1 ?side2 A6.out).mono ?_);(case side1=>repeat (first|exact (Kd.C_below HR0.out HB.out)|(with_reducible first|refine Kd.C_alloc ?_ _|refine Kd.C_drewN ?_ _|refine Kd.C_drew ?_)));(case side2=>exact HC0.out);rintro e w9 ⟨rfl,hb⟩;refine ⟨_,rfl,?_⟩;replace HB:=As0.mk (b3 HB.out hb);clear hb))
         show _;go_roundg k1
         case measure=>have:=HK1.out;omega
         case rel=>exact ⟨(x7_1),(wrap64 (x8_1 + 1)),(by first|rfl|(simp;done)|(simp [*];done)),(by first|rfl|(simp;done)|(simp [*];done)),H',⟨by have:=HK1.out;omega⟩,⟨by repeat (first|(with_reducible first|exact HB.out|apply bal|apply pbN|apply bd1)|exact HB.out)⟩⟩
     · rw [if_neg c5] at H
       exact absurd H (by simp)
   · rw [if_neg c4] at H
     have c4b0:decide (x8_1 < (l1.length:Int)) = false:=decide_eq_false c4;clear c4;obtain rfl:=Option.some.inj H
     go_wp2
     go_ret
     exact ⟨eW,by repeat (first|(with_reducible first|exact HB.out|apply bal|apply pbN|apply bd1)|exact HB.out)⟩
def spec_UseSum.l0:Nat → List (SiS23) → List (SiT24) → ByteArray → Int → Option (Int)
 |0,_,_,_,_=>none
 |k + 1,x0,x1,x2,x7=>if x7 < (x1.length:Int) then (if 0 ≤ x7 then ((spec_ThingOk.f k ((riT27 x1 x7).f0) ((riT27 x1 x7).f1) ((riT27 x1 x7).f2) ((riT27 x1 x7).f3) ((riT27 x1 x7).f4) ((riT27 x1 x7).f5) ((riT27 x1 x7).f6)).bind fun t539=>(if t539 = true then (spec_UseSum.l0 k x0 x1 x2 (wrap64 (x7 + 1))) else (some 0))) else (none)) else ((spec_l8Sum.f k x0 x1 x2).bind fun t540=>(some t540))
def spec_UseSum.f (k:Nat) (l0:List (SiS23)) (l1:List (SiT24)) (a2:ByteArray):Option (Int):=(spec_SpacesOk.f k l0).bind fun t537=>(if t537 = true then (spec_UseSum.l0 k l0 l1 a2 0) else (some 0))
set_option maxHeartbeats 40000000 in
set_option maxRecDepth 100000 in
theorem spec_UseSum.calls (k:Nat) (A0:Option Addr) (c0:Nat) (l0:List (SiS23)) (A1:Option Addr) (c1:Nat) (l1:List (SiT24)) (a2:ByteArray) (r:Int) (w:World) (hr0:Kd.C k30 w A0 l0.length l0) (hc0:l0.length ≤ c0) (hr1:Kd.C k34 w A1 l1.length l1) (hc1:l1.length ≤ c1) (h:spec_UseSum.f k l0 l1 a2 = some r) :
 Calls Tryd.prog 6 #[.slice A0 l0.length c0,.slice A1 l1.length c1,.string a2] w fun e w'=>e = .returned (.int .i64 r) ∧ Below w.heap.size w w':=by
 have hu34:=Tryd.underlying34;have HR0:=As0.mk hr0;have HC0:=As0.mk hc0;clear hr0 hc0;have HR1:=As0.mk hr1;have HC1:=As0.mk hc1;clear hr1 hc1;have HB:=As0.mk (Below.refl w.heap.size w);have H:((spec_SpacesOk.f k l0).bind fun t537=>(if t537 = true then (spec_UseSum.l0 k l0 l1 a2 0) else (some 0))) = some r:=h;clear h;replace H:=Option.bind_eq_some_iff.mp H;obtain ⟨t537,A40,H⟩:=H;(try dsimp only at H);have A4:=As0.mk A40;clear A40;by_cases c5:t537 = true
 · subst c5
   have H1:(spec_UseSum.l0 k l0 l1 a2 0) = some r:=by rw [if_pos rfl] at H;exact H
   clear H;have H:=H1;clear H1;have H':=As0.mk H;clear H
   go_enter Tryd.func6,Tryd.ntmps6
   go_wp2_with (first|((with_reducible refine gca (f:=8) rfl ?_);refine gL (some 9) Tryd.func8 #[.slice A0 l0.length c0] ?_;(with_reducible refine (spec_SpacesOk.calls k _ _ l0 true _ ?side1 ?side2 A4.out).mono ?_);(case side1=>repeat (first|exact HR0.out|(with_reducible first|refine Kd.C_alloc ?_ _|refine Kd.C_drewN ?_ _|refine Kd.C_drew ?_)));(case side2=>exact HC0.out);rintro e w6 ⟨rfl,hb⟩;refine ⟨_,rfl,?_⟩;replace HB:=As0.mk (b3 HB.out hb);clear hb))
   show _;go_loopg [7] k (fun kq v7 w'=>∃ (x7_1:Int),v7 = .int .i64 x7_1 ∧ As0 (spec_UseSum.l0 kq l0 l1 a2 x7_1 = some r) ∧ As0 (kq ≤ k) ∧ As0 (Below w.heap.size w w'))
   case atStart=>exact ⟨(0),(by first|rfl|(simp;done)|(simp [*];done)),H',⟨Nat.le_refl _⟩,⟨by repeat (first|(with_reducible first|exact HB.out|apply bal|apply pbN|apply bd1)|exact HB.out)⟩⟩
   case round=>
    clear H'
    try clear c1
    try clear p2
    try clear c5
    try clear c6
    obtain ⟨x7_1,rfl,HA,HK1,HB⟩:=hrel
    cases gk with
    |zero=>exact absurd HA.out (by simp [spec_UseSum.l0])
    |succ k1=>
     have H:=HA.out;clear HA;simp only [spec_UseSum.l0] at H;by_cases c7:x7_1 < (l1.length:Int)
     · rw [if_pos c7] at H
       have c7b0:decide (x7_1 < (l1.length:Int)) = true:=decide_eq_true c7;clear c7;by_cases c8:0 ≤ x7_1
       · rw [if_pos c8] at H
         have c8b0:decide (0 ≤ x7_1) = true:=decide_eq_true c8;clear c8;replace H:=Option.bind_eq_some_iff.mp H;obtain ⟨t539,A90,H⟩:=H;(try dsimp only at H);have A9:=As0.mk A90;clear A90;by_cases c10:t539 = true
         · subst c10
           have H1:(spec_UseSum.l0 k1 l0 l1 a2 (wrap64 (x7_1 + 1))) = some r:=by rw [if_pos rfl] at H;exact H
           clear H;have H:=H1;clear H1;have H':=As0.mk H;clear H;have p538:0 ≤ (x7_1:Int):=odt;have q538:x7_1 < (l1.length:Int):=odt;obtain ⟨ad538,A538_5,c538_5,e538,hx538_0,hx538_1,hx538_2,hx538_3,hx538_4,hx538_5,hx538_6,hl538_5,hi538_5⟩:=at_T34 HR1.out x7_1 p538 q538
           cases e538
           replace hx538_0:=bx HB.out rfl hx538_0;replace hx538_1:=bx HB.out rfl hx538_1;replace hx538_2:=bx HB.out rfl hx538_2;replace hx538_3:=bx HB.out rfl hx538_3;replace hx538_4:=bx HB.out rfl hx538_4;replace hx538_5:=bx HB.out rfl hx538_5;replace hx538_6:=bx HB.out rfl hx538_6;have HR538_5:=As0.mk hi538_5;have HC538_5:=As0.mk hl538_5;clear hi538_5 hl538_5;replace p538:=eq_true p538;replace q538:=eq_true q538
           go_wp2_with (first|((with_reducible refine gca (f:=22) rfl ?_);refine gL (some 21) Tryd.func22 #[.agg #[.string ((riT27 l1 x7_1).f0),.string ((riT27 l1 x7_1).f1),.int .i64 ((riT27 l1 x7_1).f2),.int .i64 ((riT27 l1 x7_1).f3),.bool ((riT27 l1 x7_1).f4),.slice A538_5 ((riT27 l1 x7_1).f5).length c538_5,.string ((riT27 l1 x7_1).f6)]] ?_;(with_reducible refine (spec_ThingOk.calls k1 ((riT27 l1 x7_1).f0) ((riT27 l1 x7_1).f1) ((riT27 l1 x7_1).f2) ((riT27 l1 x7_1).f3) ((riT27 l1 x7_1).f4) _ _ ((riT27 l1 x7_1).f5) ((riT27 l1 x7_1).f6) true _ ?side1 ?side2 A9.out).mono ?_);(case side1=>repeat (first|exact (Kd.C_below HR538_5.out HB.out)|(with_reducible first|refine Kd.C_alloc ?_ _|refine Kd.C_drewN ?_ _|refine Kd.C_drew ?_)));(case side2=>exact HC538_5.out);rintro e w11 ⟨rfl,hb⟩;refine ⟨_,rfl,?_⟩;replace HB:=As0.mk (b3 HB.out hb);clear hb))
           show _;go_roundg k1
           case measure=>have:=HK1.out;omega
           case rel=>exact ⟨(wrap64 (x7_1 + 1)),(by first|rfl|(simp;done)|(simp [*];done)),H',⟨by have:=HK1.out;omega⟩,⟨by repeat (first|(with_reducible first|exact HB.out|apply bal|apply pbN|apply bd1)|exact HB.out)⟩⟩
         · replace c10:=Bool.eq_false_iff.mpr c10
           subst c10;have H1:(some 0) = some r:=by rw [if_neg (show ¬ (false = true) by decide)] at H;exact H
           clear H;have H:=H1;clear H1;obtain rfl:=Option.some.inj H;have p538:0 ≤ (x7_1:Int):=odt;have q538:x7_1 < (l1.length:Int):=odt;obtain ⟨ad538,A538_5,c538_5,e538,hx538_0,hx538_1,hx538_2,hx538_3,hx538_4,hx538_5,hx538_6,hl538_5,hi538_5⟩:=at_T34 HR1.out x7_1 p538 q538
           cases e538
           replace hx538_0:=bx HB.out rfl hx538_0;replace hx538_1:=bx HB.out rfl hx538_1;replace hx538_2:=bx HB.out rfl hx538_2;replace hx538_3:=bx HB.out rfl hx538_3;replace hx538_4:=bx HB.out rfl hx538_4;replace hx538_5:=bx HB.out rfl hx538_5;replace hx538_6:=bx HB.out rfl hx538_6;have HR538_5:=As0.mk hi538_5;have HC538_5:=As0.mk hl538_5;clear hi538_5 hl538_5;replace p538:=eq_true p538;replace q538:=eq_true q538
           go_wp2_with (first|((with_reducible refine gca (f:=22) rfl ?_);refine gL (some 21) Tryd.func22 #[.agg #[.string ((riT27 l1 x7_1).f0),.string ((riT27 l1 x7_1).f1),.int .i64 ((riT27 l1 x7_1).f2),.int .i64 ((riT27 l1 x7_1).f3),.bool ((riT27 l1 x7_1).f4),.slice A538_5 ((riT27 l1 x7_1).f5).length c538_5,.string ((riT27 l1 x7_1).f6)]] ?_;(with_reducible refine (spec_ThingOk.calls k1 ((riT27 l1 x7_1).f0) ((riT27 l1 x7_1).f1) ((riT27 l1 x7_1).f2) ((riT27 l1 x7_1).f3) ((riT27 l1 x7_1).f4) _ _ ((riT27 l1 x7_1).f5) ((riT27 l1 x7_1).f6) false _ ?side1 ?side2 A9.out).mono ?_);(case side1=>repeat (first|exact (Kd.C_below HR538_5.out HB.out)|(with_reducible first|refine Kd.C_alloc ?_ _|refine Kd.C_drewN ?_ _|refine Kd.C_drew ?_)));(case side2=>exact HC538_5.out);rintro e w12 ⟨rfl,hb⟩;refine ⟨_,rfl,?_⟩;replace HB:=As0.mk (b3 HB.out hb);clear hb))
           go_ret
           exact ⟨eW,by repeat (first|(with_reducible first|exact HB.out|apply bal|apply pbN|apply bd1)|exact HB.out)⟩
       · rw [if_neg c8] at H
         exact absurd H (by simp)
     · rw [if_neg c7] at H
       have c7b0:decide (x7_1 < (l1.length:Int)) = false:=decide_eq_false c7;clear c7;replace H:=Option.bind_eq_some_iff.mp H;obtain ⟨t540,A130,H⟩:=H;(try dsimp only at H);have A13:=As0.mk A130;clear A130;obtain rfl:=Option.some.inj H
       go_wp2_with (first|((with_reducible refine gca (f:=23) rfl ?_);refine gL (some 26) Tryd.func23 #[.slice A0 l0.length c0,.slice A1 l1.length c1,.string a2] ?_;(with_reducible refine (spec_l8Sum.calls k1 _ _ l0 _ _ l1 a2 t540 _ ?side1 ?side2 ?side3 ?side4 A13.out).mono ?_);(case side1=>repeat (first|exact (Kd.C_below HR0.out HB.out)|(with_reducible first|refine Kd.C_alloc ?_ _|refine Kd.C_drewN ?_ _|refine Kd.C_drew ?_)));(case side2=>exact HC0.out);(case side3=>repeat (first|exact (Kd.C_below HR1.out HB.out)|(with_reducible first|refine Kd.C_alloc ?_ _|refine Kd.C_drewN ?_ _|refine Kd.C_drew ?_)));(case side4=>exact HC1.out);rintro e w14 ⟨rfl,hb⟩;refine ⟨_,rfl,?_⟩;replace HB:=As0.mk (b3 HB.out hb);clear hb))
       go_ret
       exact ⟨eW,by repeat (first|(with_reducible first|exact HB.out|apply bal|apply pbN|apply bd1)|exact HB.out)⟩
 · replace c5:=Bool.eq_false_iff.mpr c5
   subst c5;have H1:(some 0) = some r:=by rw [if_neg (show ¬ (false = true) by decide)] at H;exact H
   clear H;have H:=H1;clear H1;obtain rfl:=Option.some.inj H
   go_enter Tryd.func6,Tryd.ntmps6
   go_wp2_with (first|((with_reducible refine gca (f:=8) rfl ?_);refine gL (some 9) Tryd.func8 #[.slice A0 l0.length c0] ?_;(with_reducible refine (spec_SpacesOk.calls k _ _ l0 false _ ?side1 ?side2 A4.out).mono ?_);(case side1=>repeat (first|exact HR0.out|(with_reducible first|refine Kd.C_alloc ?_ _|refine Kd.C_drewN ?_ _|refine Kd.C_drew ?_)));(case side2=>exact HC0.out);rintro e w15 ⟨rfl,hb⟩;refine ⟨_,rfl,?_⟩;replace HB:=As0.mk (b3 HB.out hb);clear hb))
   go_ret
   exact ⟨eW,by repeat (first|(with_reducible first|exact HB.out|apply bal|apply pbN|apply bd1)|exact HB.out)⟩
def impl_SpacesOk.f (k:Nat) (l0:List (SiS23)):Option (Bool):=(impl_areSpaces.f k l0).bind fun t541=>(some t541)
set_option maxHeartbeats 40000000 in
set_option maxRecDepth 100000 in
theorem impl_SpacesOk.calls (k:Nat) (A0:Option Addr) (c0:Nat) (l0:List (SiS23)) (r:Bool) (w:World) (hr0:Kd.C k30 w A0 l0.length l0) (hc0:l0.length ≤ c0) (h:impl_SpacesOk.f k l0 = some r) :
 Calls Tryd.prog 7 #[.slice A0 l0.length c0] w fun e w'=>e = .returned (.bool r) ∧ Below w.heap.size w w':=by
 have HR0:=As0.mk hr0;have HC0:=As0.mk hc0;clear hr0 hc0;have HB:=As0.mk (Below.refl w.heap.size w);have H:((impl_areSpaces.f k l0).bind fun t541=>(some t541)) = some r:=h;clear h;replace H:=Option.bind_eq_some_iff.mp H;obtain ⟨t541,A20,H⟩:=H;(try dsimp only at H);have A2:=As0.mk A20;clear A20;obtain rfl:=Option.some.inj H
 go_enter Tryd.func7,Tryd.ntmps7
 go_wp2_with (first|((with_reducible refine gca (f:=17) rfl ?_);refine gL (some 4) Tryd.func17 #[.slice A0 l0.length c0] ?_;(with_reducible refine (impl_areSpaces.calls k _ _ l0 t541 _ ?side1 ?side2 A2.out).mono ?_);(case side1=>repeat (first|exact HR0.out|(with_reducible first|refine Kd.C_alloc ?_ _|refine Kd.C_drewN ?_ _|refine Kd.C_drew ?_)));(case side2=>exact HC0.out);rintro e w3 ⟨rfl,hb⟩;refine ⟨_,rfl,?_⟩;replace HB:=As0.mk (b3 HB.out hb);clear hb))
 go_ret
 exact ⟨eW,by repeat (first|(with_reducible first|exact HB.out|apply bal|apply pbN|apply bd1)|exact HB.out)⟩
def impl_ThingOk.f (k:Nat) (a0_0:ByteArray) (a0_1:ByteArray) (a0_2:Int) (a0_3:Int) (a0_4:Bool) (l0_5:List ByteArray) (a0_6:ByteArray):Option (Bool):=(impl_isThing.f k a0_0 a0_1 a0_2 a0_3 a0_4 l0_5 a0_6).bind fun t543=>(some t543)
set_option maxHeartbeats 40000000 in
set_option maxRecDepth 100000 in
theorem impl_ThingOk.calls (k:Nat) (a0_0:ByteArray) (a0_1:ByteArray) (a0_2:Int) (a0_3:Int) (a0_4:Bool) (A0_5:Option Addr) (c0_5:Nat) (l0_5:List ByteArray) (a0_6:ByteArray) (r:Bool) (w:World) (hr0_5:Kd.C Kd.string w A0_5 l0_5.length l0_5) (hc0_5:l0_5.length ≤ c0_5) (h:impl_ThingOk.f k a0_0 a0_1 a0_2 a0_3 a0_4 l0_5 a0_6 = some r) :
 Calls Tryd.prog 9 #[.agg #[.string a0_0,.string a0_1,.int .i64 a0_2,.int .i64 a0_3,.bool a0_4,.slice A0_5 l0_5.length c0_5,.string a0_6]] w fun e w'=>e = .returned (.bool r) ∧ Below w.heap.size w w':=by
 have hu34:=Tryd.underlying34;have HR0_5:=As0.mk hr0_5;have HC0_5:=As0.mk hc0_5;clear hr0_5 hc0_5;have HB:=As0.mk (Below.refl w.heap.size w);have H:((impl_isThing.f k a0_0 a0_1 a0_2 a0_3 a0_4 l0_5 a0_6).bind fun t543=>(some t543)) = some r:=h;clear h;replace H:=Option.bind_eq_some_iff.mp H;obtain ⟨t543,A20,H⟩:=H;(try dsimp only at H);have A2:=As0.mk A20;clear A20;obtain rfl:=Option.some.inj H
 go_enter Tryd.func9,Tryd.ntmps9
 go_wp2_with (first|((with_reducible refine gate_dst (N:=1) rfl ?_);refine bE 1 #[.string a0_0,.string a0_1,.int .i64 a0_2,.int .i64 a0_3,.bool a0_4,.slice A0_5 l0_5.length c0_5,.string a0_6] 34 ?_;intro gb542 hg w3 hbox hb;have BK542:=As0.mk (hbox);have GW542:=As0.mk ((by rw [hg];exact (bsz (by repeat (first|(with_reducible first|exact HB.out|apply bal|apply pbN|apply bd1)|exact HB.out))):w.heap.size ≤ gb542));have GE542:=GW542;replace HB:=As0.mk (b3 HB.out hb);clear hb hbox hg;obtain ⟨hcz4_0,hcz4_1,hcz4_2,hcz4_3,hcz4_4,hcz4_5,hcz4_6⟩:=qc7 BK542.out;obtain ⟨hfz4_0,hfz4_1,hfz4_2,hfz4_3,hfz4_4,hfz4_5,hfz4_6⟩:=qz7 BK542.out)|((with_reducible refine gca (f:=20) rfl ?_);refine gL (some 4) Tryd.func20 #[.agg #[.string a0_0,.string a0_1,.int .i64 a0_2,.int .i64 a0_3,.bool a0_4,.slice A0_5 l0_5.length c0_5,.string a0_6]] ?_;(with_reducible refine (impl_isThing.calls k a0_0 a0_1 a0_2 a0_3 a0_4 _ _ l0_5 a0_6 t543 _ ?side1 ?side2 A2.out).mono ?_);(case side1=>repeat (first|exact (Kd.C_below HR0_5.out HB.out)|(with_reducible first|refine Kd.C_alloc ?_ _|refine Kd.C_drewN ?_ _|refine Kd.C_drew ?_)));(case side2=>exact HC0_5.out);rintro e w5 ⟨rfl,hb⟩;refine ⟨_,rfl,?_⟩;replace BK542:=As0.mk (bb hb BK542.out);replace HB:=As0.mk (bsp (by repeat (first|(with_reducible first|exact HB.out|apply bal|apply pbN|apply bd1|refine bst ?_ GE542.out)|exact HB.out)) hb);clear hb))
 go_ret
 exact ⟨eW,by repeat (first|(with_reducible first|exact HB.out|apply bal|apply pbN|apply bd1|refine bst ?_ GE542.out)|exact HB.out)⟩
def impl_ThingCost.f (k:Nat) (a0_0:ByteArray) (a0_1:ByteArray) (a0_2:Int) (a0_3:Int) (a0_4:Bool) (l0_5:List ByteArray) (a0_6:ByteArray):Option (Int):=(impl_isThing.f k a0_0 a0_1 a0_2 a0_3 a0_4 l0_5 a0_6).bind fun t545=>(if t545 = true then ((impl_costOf.f a0_6).bind fun t546=>(some t546)) else (some 0))
set_option maxHeartbeats 40000000 in
set_option maxRecDepth 100000 in
theorem impl_ThingCost.calls (k:Nat) (a0_0:ByteArray) (a0_1:ByteArray) (a0_2:Int) (a0_3:Int) (a0_4:Bool) (A0_5:Option Addr) (c0_5:Nat) (l0_5:List ByteArray) (a0_6:ByteArray) (r:Int) (w:World) (hr0_5:Kd.C Kd.string w A0_5 l0_5.length l0_5) (hc0_5:l0_5.length ≤ c0_5) (h:impl_ThingCost.f k a0_0 a0_1 a0_2 a0_3 a0_4 l0_5 a0_6 = some r) :
 Calls Tryd.prog 10 #[.agg #[.string a0_0,.string a0_1,.int .i64 a0_2,.int .i64 a0_3,.bool a0_4,.slice A0_5 l0_5.length c0_5,.string a0_6]] w fun e w'=>e = .returned (.int .i64 r) ∧ Below w.heap.size w w':=by
 have hu34:=Tryd.underlying34;have HR0_5:=As0.mk hr0_5;have HC0_5:=As0.mk hc0_5;clear hr0_5 hc0_5;have HB:=As0.mk (Below.refl w.heap.size w);have H:((impl_isThing.f k a0_0 a0_1 a0_2 a0_3 a0_4 l0_5 a0_6).bind fun t545=>(if t545 = true then ((impl_costOf.f a0_6).bind fun t546=>(some t546)) else (some 0))) = some r:=h;clear h;replace H:=Option.bind_eq_some_iff.mp H;obtain ⟨t545,A20,H⟩:=H;(try dsimp only at H);have A2:=As0.mk A20;clear A20;by_cases c3:t545 = true
 · subst c3
   have H1:((impl_costOf.f a0_6).bind fun t546=>(some t546)) = some r:=by rw [if_pos rfl] at H;exact H
   clear H;have H:=H1;clear H1;replace H:=Option.bind_eq_some_iff.mp H;obtain ⟨t546,A40,H⟩:=H;(try dsimp only at H);have A4:=As0.mk A40;clear A40;obtain rfl:=Option.some.inj H
   go_enter Tryd.func10,Tryd.ntmps10
   go_wp2_with (first|((with_reducible refine gate_dst (N:=1) rfl ?_);refine bE 1 #[.string a0_0,.string a0_1,.int .i64 a0_2,.int .i64 a0_3,.bool a0_4,.slice A0_5 l0_5.length c0_5,.string a0_6] 34 ?_;intro gb544 hg w5 hbox hb;have BK544:=As0.mk (hbox);have GW544:=As0.mk ((by rw [hg];exact (bsz (by repeat (first|(with_reducible first|exact HB.out|apply bal|apply pbN|apply bd1)|exact HB.out))):w.heap.size ≤ gb544));have GE544:=GW544;replace HB:=As0.mk (b3 HB.out hb);clear hb hbox hg;obtain ⟨hcz6_0,hcz6_1,hcz6_2,hcz6_3,hcz6_4,hcz6_5,hcz6_6⟩:=qc7 BK544.out;obtain ⟨hfz6_0,hfz6_1,hfz6_2,hfz6_3,hfz6_4,hfz6_5,hfz6_6⟩:=qz7 BK544.out)|((with_reducible refine gca (f:=20) rfl ?_);refine gL (some 4) Tryd.func20 #[.agg #[.string a0_0,.string a0_1,.int .i64 a0_2,.int .i64 a0_3,.bool a0_4,.slice A0_5 l0_5.length c0_5,.string a0_6]] ?_;(with_reducible refine (impl_isThing.calls k a0_0 a0_1 a0_2 a0_3 a0_4 _ _ l0_5 a0_6 true _ ?side1 ?side2 A2.out).mono ?_);(case side1=>repeat (first|exact (Kd.C_below HR0_5.out HB.out)|(with_reducible first|refine Kd.C_alloc ?_ _|refine Kd.C_drewN ?_ _|refine Kd.C_drew ?_)));(case side2=>exact HC0_5.out);rintro e w7 ⟨rfl,hb⟩;refine ⟨_,rfl,?_⟩;replace BK544:=As0.mk (bb hb BK544.out);replace HB:=As0.mk (bsp (by repeat (first|(with_reducible first|exact HB.out|apply bal|apply pbN|apply bd1|refine bst ?_ GE544.out)|exact HB.out)) hb);clear hb;obtain ⟨hcz8_0,hcz8_1,hcz8_2,hcz8_3,hcz8_4,hcz8_5,hcz8_6⟩:=qc7 BK544.out;obtain ⟨hfz8_0,hfz8_1,hfz8_2,hfz8_3,hfz8_4,hfz8_5,hfz8_6⟩:=qz7 BK544.out)|((with_reducible refine gca (f:=28) rfl ?_);refine gL (some 8) Tryd.func28 #[.string a0_6] ?_;(with_reducible refine (impl_costOf.calls a0_6 t546 _ A4.out).mono ?_);rintro e w' ⟨rfl,⟨nd,rfl⟩⟩;refine ⟨_,rfl,?_⟩))
   go_ret
   exact ⟨eW,by repeat (first|(with_reducible first|exact HB.out|apply bal|apply pbN|apply bd1|refine bst ?_ GE544.out)|exact HB.out)⟩
 · replace c3:=Bool.eq_false_iff.mpr c3
   subst c3;have H1:(some 0) = some r:=by rw [if_neg (show ¬ (false = true) by decide)] at H;exact H
   clear H;have H:=H1;clear H1;obtain rfl:=Option.some.inj H
   go_enter Tryd.func10,Tryd.ntmps10
   go_wp2_with (first|((with_reducible refine gate_dst (N:=1) rfl ?_);refine bE 1 #[.string a0_0,.string a0_1,.int .i64 a0_2,.int .i64 a0_3,.bool a0_4,.slice A0_5 l0_5.length c0_5,.string a0_6] 34 ?_;intro gb544 hg w9 hbox hb;have BK544:=As0.mk (hbox);have GW544:=As0.mk ((by rw [hg];exact (bsz (by repeat (first|(with_reducible first|exact HB.out|apply bal|apply pbN|apply bd1)|exact HB.out))):w.heap.size ≤ gb544));have GE544:=GW544;replace HB:=As0.mk (b3 HB.out hb);clear hb hbox hg;obtain ⟨hcz10_0,hcz10_1,hcz10_2,hcz10_3,hcz10_4,hcz10_5,hcz10_6⟩:=qc7 BK544.out;obtain ⟨hfz10_0,hfz10_1,hfz10_2,hfz10_3,hfz10_4,hfz10_5,hfz10_6⟩:=qz7 BK544.out)|((with_reducible refine gca (f:=20) rfl ?_);refine gL (some 4) Tryd.func20 #[.agg #[.string a0_0,.string a0_1,.int .i64 a0_2,.int .i64 a0_3,.bool a0_4,.slice A0_5 l0_5.length c0_5,.string a0_6]] ?_;(with_reducible refine (impl_isThing.calls k a0_0 a0_1 a0_2 a0_3 a0_4 _ _ l0_5 a0_6 false _ ?side1 ?side2 A2.out).mono ?_);(case side1=>repeat (first|exact (Kd.C_below HR0_5.out HB.out)|(with_reducible first|refine Kd.C_alloc ?_ _|refine Kd.C_drewN ?_ _|refine Kd.C_drew ?_)));(case side2=>exact HC0_5.out);rintro e w11 ⟨rfl,hb⟩;refine ⟨_,rfl,?_⟩;replace BK544:=As0.mk (bb hb BK544.out);replace HB:=As0.mk (bsp (by repeat (first|(with_reducible first|exact HB.out|apply bal|apply pbN|apply bd1|refine bst ?_ GE544.out)|exact HB.out)) hb);clear hb))
   go_ret
   exact ⟨eW,by repeat (first|(with_reducible first|exact HB.out|apply bal|apply pbN|apply bd1|refine bst ?_ GE544.out)|exact HB.out)⟩
end Go.Proofs.YtlddibclbhhjoaaDoor.P
