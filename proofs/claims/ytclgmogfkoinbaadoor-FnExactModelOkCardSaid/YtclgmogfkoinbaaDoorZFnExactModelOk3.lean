/- Functions of the law FnExactModelOk as_ plain Lean functions, and that the machine's calls do what they say. -/
import Derived.Test.YtclgmogfkoinbaaDoorZFnExactModelOk0
import Derived.Test.YtclgmogfkoinbaaDoorZFnExactModelOk1
import Derived.Test.YtclgmogfkoinbaaDoorZFnExactModelOk2
namespace Go.Proofs.YtclgmogfkoinbaaDoor.P
open Go.RowKit Go.Proofs.YtclgmogfkoinbaaDoorW.PrintWords Go.Proofs.YtclgmogfkoinbaaDoorW.PrintLast Go.Proofs.YtclgmogfkoinbaaDoorW.PrintMore
attribute [local go_sem] max2_int min2_int max_two min_two max_three min_three max_four min_four
set_option linter.unusedVariables false
set_option linter.unusedSimpArgs false
mutual
def spec_ModelOk.j0:Nat → Bool → Int → Int → Int → List (SiS28) → List (SiU30) → List (SiT29) → List (SiP27) → Option (Bool)
 |0,_,_,_,_,_,_,_,_=>none
 |k + 1,x45,x188000,x188001,x188002,x188003,x188004,x188005,x188006=>if x45 = true then (some false) else (spec_ModelOk.l0 k 0 x188000 x188001 x188002 x188003 x188004 x188005 x188006)
def spec_ModelOk.l0:Nat → Int → Int → Int → Int → List (SiS28) → List (SiU30) → List (SiT29) → List (SiP27) → Option (Bool)
 |0,_,_,_,_,_,_,_,_=>none
 |k + 1,x3,x188000,x188001,x188002,x188003,x188004,x188005,x188006=>if x3 < (x188003.length:Int) then (if 0 ≤ x3 then (if ((riS37 x188003 x3).f4) > x188000 then (some false) else (if x3 < (x188004.length:Int) then ((spec_l8Sum.f k x188003 x188005 ((riS37 x188003 x3).f0)).bind fun t198=>(if ((riU39 x188004 x3).f1) = t198 then (spec_ModelOk.l0 k (wrap64 (x3 + 1)) x188000 x188001 x188002 x188003 x188004 x188005 x188006) else (some false))) else (none))) else (none)) else (some true)
end
def spec_ModelOk.f (k:Nat) (a0_0:Int) (a0_1:Int) (a0_2:Int) (l0_3:List (SiS28)) (l0_4:List (SiU30)) (l0_5:List (SiT29)) (l0_6:List (SiP27)):Option (Bool):=(spec_l1In.f a0_0 0 99999).bind fun t188=>(if t188 = true then ((spec_l1In.f a0_1 0 99999).bind fun t189=>(if t189 = true then ((spec_l1In.f a0_2 0 a0_0).bind fun t190=>(if t190 = true then ((spec_SpacesOk.f k l0_3).bind fun t191=>(if t191 = true then ((spec_l8Uses.f k l0_3 l0_4).bind fun t192=>(if t192 = true then ((spec_l10Things.f k a0_0 a0_1 a0_2 l0_3 l0_4 l0_5 l0_6).bind fun t193=>(if t193 = true then ((spec_l10Pasts.f k a0_0 a0_1 a0_2 l0_3 l0_4 l0_5 l0_6).bind fun t194=>(spec_ModelOk.j0 k (!t194) a0_0 a0_1 a0_2 l0_3 l0_4 l0_5 l0_6)) else (spec_ModelOk.j0 k true a0_0 a0_1 a0_2 l0_3 l0_4 l0_5 l0_6))) else (spec_ModelOk.j0 k true a0_0 a0_1 a0_2 l0_3 l0_4 l0_5 l0_6))) else (spec_ModelOk.j0 k true a0_0 a0_1 a0_2 l0_3 l0_4 l0_5 l0_6))) else (spec_ModelOk.j0 k true a0_0 a0_1 a0_2 l0_3 l0_4 l0_5 l0_6))) else (spec_ModelOk.j0 k true a0_0 a0_1 a0_2 l0_3 l0_4 l0_5 l0_6))) else (spec_ModelOk.j0 k true a0_0 a0_1 a0_2 l0_3 l0_4 l0_5 l0_6))
def spec_ModelOk.T6:Bool × List (List Nat × List Nat):=(true,[([],[]),([0],[0]),([],[]),([1,2],[1,2]),([3],[3]),([4],[4]),([],[]),([6],[6]),([5,7],[5,7]),([8],[8]),([9],[9]),([10,9],[9,10]),([9],[9]),([11,12,9],[9,11,12]),([13,9],[9,13]),([14,9],[9,14]),([9],[9]),([16,9],[9,16]),([9],[9]),([18,9],[9,18]),([9],[9]),([20,9],[9,20]),([9],[9]),([21,22,9],[9,21,22]),([23,9],[9,23]),([24,9],[9,24]),([17,19,25,9,9],[9,17,19,25]),([15,26,9],[9,15,26]),([9,27],[9,27])])
def spec_ModelOk.B6:List Nat:=[0,1,0,7,15,31,0,64,255,511,1023,2047,1023,8191,16383,32767,1023,66559,1023,263167,1023,1049599,1023,7341055,15729663,32506879,67044351,134217727,268435455]
theorem spec_ModelOk.tab6:rtab .any (opsOf Tryd.f5 6) = spec_ModelOk.T6:=by kernel_rfl
theorem spec_ModelOk.bits6:waitsOk spec_ModelOk.T6.2 spec_ModelOk.B6 = true:=by kernel_rfl
abbrev spec_ModelOk.calls.a0:Array Bool:=#[false,false,false,false,false,false,false,false,false,false,false,false,false,false,false,false,false,false,false,false,false,false,false,false,false,false,false,false,false]
abbrev spec_ModelOk.calls.a1:Array Bool:=#[true,false,false,false,false,false,false,false,false,false,false,false,false,false,false,false,false,false,false,false,false,false,false,false,false,false,false,false,false]
abbrev spec_ModelOk.calls.a2:Array Bool:=#[true,false,true,false,false,false,false,false,false,false,false,false,false,false,false,false,false,false,false,false,false,false,false,false,false,false,false,false,false]
abbrev spec_ModelOk.calls.a3:Array Bool:=#[true,false,true,false,false,false,true,false,false,false,false,false,false,false,false,false,false,false,false,false,false,false,false,false,false,false,false,false,false]
abbrev spec_ModelOk.calls.a4:Array Bool:=#[true,true,true,false,false,false,true,false,false,false,false,false,false,false,false,false,false,false,false,false,false,false,false,false,false,false,false,false,false]
abbrev spec_ModelOk.calls.a5:Array Bool:=#[true,true,true,true,false,false,true,false,false,false,false,false,false,false,false,false,false,false,false,false,false,false,false,false,false,false,false,false,false]
abbrev spec_ModelOk.calls.a6:Array Bool:=#[true,true,true,true,true,false,true,false,false,false,false,false,false,false,false,false,false,false,false,false,false,false,false,false,false,false,false,false,false]
abbrev spec_ModelOk.calls.a7:Array Bool:=#[true,true,true,true,true,true,true,false,false,false,false,false,false,false,false,false,false,false,false,false,false,false,false,false,false,false,false,false,false]
abbrev spec_ModelOk.calls.a8:Array Bool:=#[true,true,true,true,true,true,true,true,false,false,false,false,false,false,false,false,false,false,false,false,false,false,false,false,false,false,false,false,false]
abbrev spec_ModelOk.calls.a9:Array Bool:=#[true,true,true,true,true,true,true,true,true,false,false,false,false,false,false,false,false,false,false,false,false,false,false,false,false,false,false,false,false]
abbrev spec_ModelOk.calls.a10:Array Bool:=#[true,true,true,true,true,true,true,true,true,true,false,false,false,false,false,false,false,false,false,false,false,false,false,false,false,false,false,false,false]
abbrev spec_ModelOk.calls.a11:Array Bool:=#[true,true,true,true,true,true,true,true,true,true,true,false,false,false,false,false,false,false,false,false,false,false,false,false,false,false,false,false,false]
abbrev spec_ModelOk.calls.a12:Array Bool:=#[true,true,true,true,true,true,true,true,true,true,true,true,true,true,true,true,true,true,true,true,true,true,true,false,false,false,false,false,false]
abbrev spec_ModelOk.calls.a13:Array Bool:=#[true,true,true,true,true,true,true,true,true,true,true,true,true,true,true,true,true,true,true,true,true,true,true,true,false,false,false,false,false]
abbrev spec_ModelOk.calls.a14:Array Bool:=#[true,true,true,true,true,true,true,true,true,true,true,true,true,true,true,true,true,true,true,true,true,true,true,true,true,false,false,false,false]
abbrev spec_ModelOk.calls.a15:Array Bool:=#[true,true,true,true,true,true,true,true,true,true,true,true,true,true,true,true,true,true,true,true,true,true,true,true,true,true,false,false,false]
abbrev spec_ModelOk.calls.a16:Array Bool:=#[true,true,true,true,true,true,true,true,true,true,true,true,true,true,true,true,true,true,true,true,true,true,true,true,true,true,true,false,false]
abbrev spec_ModelOk.calls.a17:Array Bool:=#[true,true,true,true,true,true,true,true,true,true,true,true,true,true,true,true,true,true,true,true,true,true,true,true,true,true,true,true,false]
abbrev spec_ModelOk.calls.a18:Array Bool:=#[true,true,true,true,true,true,true,true,true,true,true,true,true,true,true,true,true,true,true,true,true,true,true,true,true,true,true,true,true]
abbrev spec_ModelOk.calls.a19:Array Bool:=#[true,true,true,true,true,true,true,true,true,true,true,false,true,false,false,false,false,false,false,false,false,false,false,false,false,false,false,false,false]
abbrev spec_ModelOk.calls.a20:Array Bool:=#[true,true,true,true,true,true,true,true,true,true,true,false,true,false,false,false,true,false,false,false,false,false,false,false,false,false,false,false,false]
abbrev spec_ModelOk.calls.a21:Array Bool:=#[true,true,true,true,true,true,true,true,true,true,true,false,true,false,false,false,true,false,true,false,false,false,false,false,false,false,false,false,false]
abbrev spec_ModelOk.calls.a22:Array Bool:=#[true,true,true,true,true,true,true,true,true,true,true,false,true,false,false,false,true,false,true,false,true,false,false,false,false,false,false,false,false]
abbrev spec_ModelOk.calls.a23:Array Bool:=#[true,true,true,true,true,true,true,true,true,true,true,false,true,false,false,false,true,false,true,false,true,false,true,false,false,false,false,false,false]
abbrev spec_ModelOk.calls.a24:Array Bool:=#[true,true,true,true,true,true,true,true,true,true,true,true,true,false,false,false,true,false,true,false,true,false,true,false,false,false,false,false,false]
abbrev spec_ModelOk.calls.a25:Array Bool:=#[true,true,true,true,true,true,true,true,true,true,true,true,true,true,false,false,true,false,true,false,true,false,true,false,false,false,false,false,false]
abbrev spec_ModelOk.calls.a26:Array Bool:=#[true,true,true,true,true,true,true,true,true,true,true,true,true,true,true,false,true,false,true,false,true,false,true,false,false,false,false,false,false]
abbrev spec_ModelOk.calls.a27:Array Bool:=#[true,true,true,true,true,true,true,true,true,true,true,true,true,true,true,true,true,false,true,false,true,false,true,false,false,false,false,false,false]
abbrev spec_ModelOk.calls.a28:Array Bool:=#[true,true,true,true,true,true,true,true,true,true,true,true,true,true,true,true,true,true,true,false,true,false,true,false,false,false,false,false,false]
abbrev spec_ModelOk.calls.a29:Array Bool:=#[true,true,true,true,true,true,true,true,true,true,true,true,true,true,true,true,true,true,true,true,true,false,true,false,false,false,false,false,false]
set_option maxHeartbeats 40000000 in
set_option maxRecDepth 100000 in
theorem spec_ModelOk.calls (k:Nat) (a0_0:Int) (a0_1:Int) (a0_2:Int) (A0_3:Option Addr) (c0_3:Nat) (l0_3:List (SiS28)) (A0_4:Option Addr) (c0_4:Nat) (l0_4:List (SiU30)) (A0_5:Option Addr) (c0_5:Nat) (l0_5:List (SiT29)) (A0_6:Option Addr) (c0_6:Nat) (l0_6:List (SiP27)) (r:Bool) (w:World) (hr0_3:Kd.C k47 w A0_3 l0_3.length l0_3) (hc0_3:l0_3.length ≤ c0_3) (hr0_4:Kd.C k49 w A0_4 l0_4.length l0_4) (hc0_4:l0_4.length ≤ c0_4) (hr0_5:Kd.C k73 w A0_5 l0_5.length l0_5) (hc0_5:l0_5.length ≤ c0_5) (hr0_6:Kd.C k77 w A0_6 l0_6.length l0_6) (hc0_6:l0_6.length ≤ c0_6) (h:spec_ModelOk.f k a0_0 a0_1 a0_2 l0_3 l0_4 l0_5 l0_6 = some r) :
 Calls Tryd.prog 5 #[.agg #[.int .i64 a0_0,.int .i64 a0_1,.int .i64 a0_2,.slice A0_3 l0_3.length c0_3,.slice A0_4 l0_4.length c0_4,.slice A0_5 l0_5.length c0_5,.slice A0_6 l0_6.length c0_6]] w fun e w'=>e = .returned (.bool r) ∧ Below w.heap.size w w':=by
 have hu35:=Tryd.underlying35;have HR0_3:=As0.mk hr0_3;have HC0_3:=As0.mk hc0_3;clear hr0_3 hc0_3;have HR0_4:=As0.mk hr0_4;have HC0_4:=As0.mk hc0_4;clear hr0_4 hc0_4;have HR0_5:=As0.mk hr0_5;have HC0_5:=As0.mk hc0_5;clear hr0_5 hc0_5;have HR0_6:=As0.mk hr0_6;have HC0_6:=As0.mk hc0_6;clear hr0_6 hc0_6;have HB:=As0.mk (Below.refl w.heap.size w);have H:((spec_l1In.f a0_0 0 99999).bind fun t188=>(if t188 = true then ((spec_l1In.f a0_1 0 99999).bind fun t189=>(if t189 = true then ((spec_l1In.f a0_2 0 a0_0).bind fun t190=>(if t190 = true then ((spec_SpacesOk.f k l0_3).bind fun t191=>(if t191 = true then ((spec_l8Uses.f k l0_3 l0_4).bind fun t192=>(if t192 = true then ((spec_l10Things.f k a0_0 a0_1 a0_2 l0_3 l0_4 l0_5 l0_6).bind fun t193=>(if t193 = true then ((spec_l10Pasts.f k a0_0 a0_1 a0_2 l0_3 l0_4 l0_5 l0_6).bind fun t194=>(spec_ModelOk.j0 k (!t194) a0_0 a0_1 a0_2 l0_3 l0_4 l0_5 l0_6)) else (spec_ModelOk.j0 k true a0_0 a0_1 a0_2 l0_3 l0_4 l0_5 l0_6))) else (spec_ModelOk.j0 k true a0_0 a0_1 a0_2 l0_3 l0_4 l0_5 l0_6))) else (spec_ModelOk.j0 k true a0_0 a0_1 a0_2 l0_3 l0_4 l0_5 l0_6))) else (spec_ModelOk.j0 k true a0_0 a0_1 a0_2 l0_3 l0_4 l0_5 l0_6))) else (spec_ModelOk.j0 k true a0_0 a0_1 a0_2 l0_3 l0_4 l0_5 l0_6))) else (spec_ModelOk.j0 k true a0_0 a0_1 a0_2 l0_3 l0_4 l0_5 l0_6))) = some r:=h;clear h;have HC2:=As0.mk H;clear H
 go_enter Tryd.func5,Tryd.ntmps5
 show _;go_upto_region 1 with (first|((with_reducible refine gate_dst (N:=1) rfl ?_);refine bE 1 #[.int .i64 a0_0,.int .i64 a0_1,.int .i64 a0_2,.slice A0_3 l0_3.length c0_3,.slice A0_4 l0_4.length c0_4,.slice A0_5 l0_5.length c0_5,.slice A0_6 l0_6.length c0_6] 35 ?_;intro gb187 hg w3 hbox hb;have n0_:=As0.mk (b3 HB.out hb);have n1_:=As0.mk (hbox);have n2_:=As0.mk ((by rw [hg];exact (bsz (by repeat (first|(with_reducible first|exact HB.out|apply bal|apply pbN|apply bd1)|exact HB.out))):w.heap.size ≤ gb187));have n3_:=As0.mk ((by rw [hg];exact (bsz (by repeat (first|(with_reducible first|exact HB.out|apply bal|apply pbN|apply bd1)|exact HB.out))):w.heap.size ≤ gb187));clear HB;have HB:=n0_;have BK187:=n1_;have GW187:=n2_;have GE187:=n3_;clear n0_ n1_ n2_ n3_;clear hb hbox hg))
 (try simp only [Act.put,sA,sZ,sS])
 show _;go_cut [45] (fun v45 wc=>∃ (kq:Nat) (x45_1:Bool),v45 = .bool x45_1 ∧ As0 (spec_ModelOk.j0 kq x45_1 a0_0 a0_1 a0_2 l0_3 l0_4 l0_5 l0_6 = some r) ∧ As0 (kq ≤ k) ∧ As0 (wc.heap[gb187]? = some (.cells #[.int .i64 a0_0,.int .i64 a0_1,.int .i64 a0_2,(.slice A0_3 l0_3.length c0_3),(.slice A0_4 l0_4.length c0_4),(.slice A0_5 l0_5.length c0_5),(.slice A0_6 l0_6.length c0_6)] 35 (0,0))) ∧ As0 (Below w.heap.size w wc))
 case first=>
  have H:=HC2.out;clear HC2;replace H:=Option.bind_eq_some_iff.mp H;obtain ⟨t188,A40,H⟩:=H;(try dsimp only at H);have A4:=As0.mk A40;clear A40;by_cases c5:t188 = true
  · subst c5
    have H1:((spec_l1In.f a0_1 0 99999).bind fun t189=>(if t189 = true then ((spec_l1In.f a0_2 0 a0_0).bind fun t190=>(if t190 = true then ((spec_SpacesOk.f k l0_3).bind fun t191=>(if t191 = true then ((spec_l8Uses.f k l0_3 l0_4).bind fun t192=>(if t192 = true then ((spec_l10Things.f k a0_0 a0_1 a0_2 l0_3 l0_4 l0_5 l0_6).bind fun t193=>(if t193 = true then ((spec_l10Pasts.f k a0_0 a0_1 a0_2 l0_3 l0_4 l0_5 l0_6).bind fun t194=>(spec_ModelOk.j0 k (!t194) a0_0 a0_1 a0_2 l0_3 l0_4 l0_5 l0_6)) else (spec_ModelOk.j0 k true a0_0 a0_1 a0_2 l0_3 l0_4 l0_5 l0_6))) else (spec_ModelOk.j0 k true a0_0 a0_1 a0_2 l0_3 l0_4 l0_5 l0_6))) else (spec_ModelOk.j0 k true a0_0 a0_1 a0_2 l0_3 l0_4 l0_5 l0_6))) else (spec_ModelOk.j0 k true a0_0 a0_1 a0_2 l0_3 l0_4 l0_5 l0_6))) else (spec_ModelOk.j0 k true a0_0 a0_1 a0_2 l0_3 l0_4 l0_5 l0_6))) = some r:=by rw [if_pos rfl] at H;exact H
    clear H;have H:=H1;clear H1;replace H:=Option.bind_eq_some_iff.mp H;obtain ⟨t189,A60,H⟩:=H;(try dsimp only at H);have A6:=As0.mk A60;clear A60;by_cases c7:t189 = true
    · subst c7
      have H1:((spec_l1In.f a0_2 0 a0_0).bind fun t190=>(if t190 = true then ((spec_SpacesOk.f k l0_3).bind fun t191=>(if t191 = true then ((spec_l8Uses.f k l0_3 l0_4).bind fun t192=>(if t192 = true then ((spec_l10Things.f k a0_0 a0_1 a0_2 l0_3 l0_4 l0_5 l0_6).bind fun t193=>(if t193 = true then ((spec_l10Pasts.f k a0_0 a0_1 a0_2 l0_3 l0_4 l0_5 l0_6).bind fun t194=>(spec_ModelOk.j0 k (!t194) a0_0 a0_1 a0_2 l0_3 l0_4 l0_5 l0_6)) else (spec_ModelOk.j0 k true a0_0 a0_1 a0_2 l0_3 l0_4 l0_5 l0_6))) else (spec_ModelOk.j0 k true a0_0 a0_1 a0_2 l0_3 l0_4 l0_5 l0_6))) else (spec_ModelOk.j0 k true a0_0 a0_1 a0_2 l0_3 l0_4 l0_5 l0_6))) else (spec_ModelOk.j0 k true a0_0 a0_1 a0_2 l0_3 l0_4 l0_5 l0_6))) = some r:=by rw [if_pos rfl] at H;exact H
      clear H;have H:=H1;clear H1;replace H:=Option.bind_eq_some_iff.mp H;obtain ⟨t190,A80,H⟩:=H;(try dsimp only at H);have A8:=As0.mk A80;clear A80;by_cases c9:t190 = true
      · subst c9
        have H1:((spec_SpacesOk.f k l0_3).bind fun t191=>(if t191 = true then ((spec_l8Uses.f k l0_3 l0_4).bind fun t192=>(if t192 = true then ((spec_l10Things.f k a0_0 a0_1 a0_2 l0_3 l0_4 l0_5 l0_6).bind fun t193=>(if t193 = true then ((spec_l10Pasts.f k a0_0 a0_1 a0_2 l0_3 l0_4 l0_5 l0_6).bind fun t194=>(spec_ModelOk.j0 k (!t194) a0_0 a0_1 a0_2 l0_3 l0_4 l0_5 l0_6)) else (spec_ModelOk.j0 k true a0_0 a0_1 a0_2 l0_3 l0_4 l0_5 l0_6))) else (spec_ModelOk.j0 k true a0_0 a0_1 a0_2 l0_3 l0_4 l0_5 l0_6))) else (spec_ModelOk.j0 k true a0_0 a0_1 a0_2 l0_3 l0_4 l0_5 l0_6))) = some r:=by rw [if_pos rfl] at H;exact H
        clear H;have H:=H1;clear H1;replace H:=Option.bind_eq_some_iff.mp H;obtain ⟨t191,A100,H⟩:=H;(try dsimp only at H);have A10:=As0.mk A100;clear A100;by_cases c11:t191 = true
        · subst c11
          have H1:((spec_l8Uses.f k l0_3 l0_4).bind fun t192=>(if t192 = true then ((spec_l10Things.f k a0_0 a0_1 a0_2 l0_3 l0_4 l0_5 l0_6).bind fun t193=>(if t193 = true then ((spec_l10Pasts.f k a0_0 a0_1 a0_2 l0_3 l0_4 l0_5 l0_6).bind fun t194=>(spec_ModelOk.j0 k (!t194) a0_0 a0_1 a0_2 l0_3 l0_4 l0_5 l0_6)) else (spec_ModelOk.j0 k true a0_0 a0_1 a0_2 l0_3 l0_4 l0_5 l0_6))) else (spec_ModelOk.j0 k true a0_0 a0_1 a0_2 l0_3 l0_4 l0_5 l0_6))) = some r:=by rw [if_pos rfl] at H;exact H
          clear H;have H:=H1;clear H1;replace H:=Option.bind_eq_some_iff.mp H;obtain ⟨t192,A120,H⟩:=H;(try dsimp only at H);have A12:=As0.mk A120;clear A120;by_cases c13:t192 = true
          · subst c13
            have H1:((spec_l10Things.f k a0_0 a0_1 a0_2 l0_3 l0_4 l0_5 l0_6).bind fun t193=>(if t193 = true then ((spec_l10Pasts.f k a0_0 a0_1 a0_2 l0_3 l0_4 l0_5 l0_6).bind fun t194=>(spec_ModelOk.j0 k (!t194) a0_0 a0_1 a0_2 l0_3 l0_4 l0_5 l0_6)) else (spec_ModelOk.j0 k true a0_0 a0_1 a0_2 l0_3 l0_4 l0_5 l0_6))) = some r:=by rw [if_pos rfl] at H;exact H
            clear H;have H:=H1;clear H1;replace H:=Option.bind_eq_some_iff.mp H;obtain ⟨t193,A140,H⟩:=H;(try dsimp only at H);have A14:=As0.mk A140;clear A140;by_cases c15:t193 = true
            · subst c15
              have H1:((spec_l10Pasts.f k a0_0 a0_1 a0_2 l0_3 l0_4 l0_5 l0_6).bind fun t194=>(spec_ModelOk.j0 k (!t194) a0_0 a0_1 a0_2 l0_3 l0_4 l0_5 l0_6)) = some r:=by rw [if_pos rfl] at H;exact H
              clear H;have H:=H1;clear H1;replace H:=Option.bind_eq_some_iff.mp H;obtain ⟨t194,A160,H⟩:=H;(try dsimp only at H);have A16:=As0.mk A160;clear A160;have H':=As0.mk H;clear H;obtain ⟨hcz17_0,hcz17_1,hcz17_2,hcz17_3,hcz17_4,hcz17_5,hcz17_6⟩:=qc7 BK187.out;obtain ⟨hfz17_0,hfz17_1,hfz17_2,hfz17_3,hfz17_4,hfz17_5,hfz17_6⟩:=qz7 BK187.out
              go_wp2_with (first|((with_reducible refine gca (f:=13) rfl ?_);refine gL (some 6) Tryd.func13 #[.int .i64 a0_0,.int .i64 0,.int .i64 99999] ?_;(with_reducible refine (spec_l1In.calls a0_0 0 99999 true _ A4.out).mono ?_);rintro e w' ⟨rfl,⟨nd,rfl⟩⟩;refine ⟨_,rfl,?_⟩)|(go_at_call 13;(with_reducible refine (spec_l1In.calls a0_1 0 99999 true _ A6.out).mono ?_);rintro e w' ⟨rfl,⟨nd,rfl⟩⟩)|(go_at_call 13;(with_reducible refine (spec_l1In.calls a0_2 0 a0_0 true _ A8.out).mono ?_);rintro e w' ⟨rfl,⟨nd,rfl⟩⟩)|(go_at_call 14;(with_reducible refine (spec_SpacesOk.calls k _ _ l0_3 true _ ?side1 ?side2 A10.out).mono ?_);(case side1=>repeat (first|exact (Kd.C_below HR0_3.out (by repeat (first|(with_reducible first|exact HB.out|apply bal|apply pbN|apply bd1|refine bst ?_ GE187.out)|exact HB.out)))|(with_reducible first|refine Kd.C_alloc ?_ _|refine Kd.C_drewN ?_ _|refine Kd.C_drew ?_)));(case side2=>exact HC0_3.out);rintro e w18 ⟨rfl,hb⟩;replace BK187:=As0.mk (bb hb BK187.out);replace HB:=As0.mk (bsp (by repeat (first|(with_reducible first|exact HB.out|apply bal|apply pbN|apply bd1|refine bst ?_ GE187.out)|exact HB.out)) hb);clear hb;obtain ⟨hcz19_0,hcz19_1,hcz19_2,hcz19_3,hcz19_4,hcz19_5,hcz19_6⟩:=qc7 BK187.out;obtain ⟨hfz19_0,hfz19_1,hfz19_2,hfz19_3,hfz19_4,hfz19_5,hfz19_6⟩:=qz7 BK187.out)|(go_at_call 15;(with_reducible refine (spec_l8Uses.calls k _ _ l0_3 _ _ l0_4 true _ ?side1 ?side2 ?side3 ?side4 A12.out).mono ?_);(case side1=>repeat (first|exact (Kd.C_below HR0_3.out HB.out)|(with_reducible first|refine Kd.C_alloc ?_ _|refine Kd.C_drewN ?_ _|refine Kd.C_drew ?_)));(case side2=>exact HC0_3.out);(case side3=>repeat (first|exact (Kd.C_below HR0_4.out HB.out)|(with_reducible first|refine Kd.C_alloc ?_ _|refine Kd.C_drewN ?_ _|refine Kd.C_drew ?_)));(case side4=>exact HC0_4.out);rintro e w' ⟨rfl,⟨nd,rfl⟩⟩)|(go_at_call 16;(with_reducible refine (spec_l10Things.calls k a0_0 a0_1 a0_2 _ _ l0_3 _ _ l0_4 _ _ l0_5 _ _ l0_6 true _ ?side1 ?side2 ?side3 ?side4 ?side5 ?side6 ?side7 ?side8 A14.out).mono ?_);(case side1=>repeat (first|exact (Kd.C_below HR0_3.out (by repeat (first|(with_reducible first|exact HB.out|apply bal|apply pbN|apply bd1|refine bst ?_ GE187.out)|exact HB.out)))|(with_reducible first|refine Kd.C_alloc ?_ _|refine Kd.C_drewN ?_ _|refine Kd.C_drew ?_)));(case side2=>exact HC0_3.out);(case side3=>repeat (first|exact (Kd.C_below HR0_4.out (by repeat (first|(with_reducible first|exact HB.out|apply bal|apply pbN|apply bd1|refine bst ?_ GE187.out)|exact HB.out)))|(with_reducible first|refine Kd.C_alloc ?_ _|refine Kd.C_drewN ?_ _|refine Kd.C_drew ?_)));(case side4=>exact HC0_4.out);(case side5=>repeat (first|exact (Kd.C_below HR0_5.out (by repeat (first|(with_reducible first|exact HB.out|apply bal|apply pbN|apply bd1|refine bst ?_ GE187.out)|exact HB.out)))|(with_reducible first|refine Kd.C_alloc ?_ _|refine Kd.C_drewN ?_ _|refine Kd.C_drew ?_)));(case side6=>exact HC0_5.out);(case side7=>repeat (first|exact (Kd.C_below HR0_6.out (by repeat (first|(with_reducible first|exact HB.out|apply bal|apply pbN|apply bd1|refine bst ?_ GE187.out)|exact HB.out)))|(with_reducible first|refine Kd.C_alloc ?_ _|refine Kd.C_drewN ?_ _|refine Kd.C_drew ?_)));(case side8=>exact HC0_6.out);rintro e w20 ⟨rfl,hb⟩;replace BK187:=As0.mk (bb hb BK187.out);replace HB:=As0.mk (bsp (by repeat (first|(with_reducible first|exact HB.out|apply bal|apply pbN|apply bd1|refine bst ?_ GE187.out)|exact HB.out)) hb);clear hb;obtain ⟨hcz21_0,hcz21_1,hcz21_2,hcz21_3,hcz21_4,hcz21_5,hcz21_6⟩:=qc7 BK187.out;obtain ⟨hfz21_0,hfz21_1,hfz21_2,hfz21_3,hfz21_4,hfz21_5,hfz21_6⟩:=qz7 BK187.out)|(go_at_call 17;(with_reducible refine (spec_l10Pasts.calls k a0_0 a0_1 a0_2 _ _ l0_3 _ _ l0_4 _ _ l0_5 _ _ l0_6 t194 _ ?side1 ?side2 ?side3 ?side4 ?side5 ?side6 ?side7 ?side8 A16.out).mono ?_);(case side1=>repeat (first|exact (Kd.C_below HR0_3.out HB.out)|(with_reducible first|refine Kd.C_alloc ?_ _|refine Kd.C_drewN ?_ _|refine Kd.C_drew ?_)));(case side2=>exact HC0_3.out);(case side3=>repeat (first|exact (Kd.C_below HR0_4.out HB.out)|(with_reducible first|refine Kd.C_alloc ?_ _|refine Kd.C_drewN ?_ _|refine Kd.C_drew ?_)));(case side4=>exact HC0_4.out);(case side5=>repeat (first|exact (Kd.C_below HR0_5.out HB.out)|(with_reducible first|refine Kd.C_alloc ?_ _|refine Kd.C_drewN ?_ _|refine Kd.C_drew ?_)));(case side6=>exact HC0_5.out);(case side7=>repeat (first|exact (Kd.C_below HR0_6.out HB.out)|(with_reducible first|refine Kd.C_alloc ?_ _|refine Kd.C_drewN ?_ _|refine Kd.C_drew ?_)));(case side8=>exact HC0_6.out);rintro e w22 ⟨rfl,hb⟩;replace BK187:=As0.mk (bb hb BK187.out);replace HB:=As0.mk (bsp (by repeat (first|(with_reducible first|exact HB.out|apply bal|apply pbN|apply bd1|refine bst ?_ GE187.out)|exact HB.out)) hb);clear hb))
              show _;go_meet
              case rel=>exact ⟨_,(!t194),(by first|rfl|(simp;done)|(simp [*];done)),H',⟨by first|omega|exact Nat.le_refl _⟩,⟨by (with_reducible repeat (first|refine bkN ?_ _|refine bkD ?_|refine bkA ?_ _));exact BK187.out⟩,⟨by repeat (first|(with_reducible first|exact HB.out|apply bal|apply pbN|apply bd1|refine bst ?_ GE187.out)|exact HB.out)⟩⟩
            · replace c15:=Bool.eq_false_iff.mpr c15
              subst c15;have H1:(spec_ModelOk.j0 k true a0_0 a0_1 a0_2 l0_3 l0_4 l0_5 l0_6) = some r:=by rw [if_neg (show ¬ (false = true) by decide)] at H;exact H
              clear H;have H:=H1;clear H1;have H':=As0.mk H;clear H;obtain ⟨hcz23_0,hcz23_1,hcz23_2,hcz23_3,hcz23_4,hcz23_5,hcz23_6⟩:=qc7 BK187.out;obtain ⟨hfz23_0,hfz23_1,hfz23_2,hfz23_3,hfz23_4,hfz23_5,hfz23_6⟩:=qz7 BK187.out
              go_wp2_with (first|((with_reducible refine gca (f:=13) rfl ?_);refine gL (some 6) Tryd.func13 #[.int .i64 a0_0,.int .i64 0,.int .i64 99999] ?_;(with_reducible refine (spec_l1In.calls a0_0 0 99999 true _ A4.out).mono ?_);rintro e w' ⟨rfl,⟨nd,rfl⟩⟩;refine ⟨_,rfl,?_⟩)|(go_at_call 13;(with_reducible refine (spec_l1In.calls a0_1 0 99999 true _ A6.out).mono ?_);rintro e w' ⟨rfl,⟨nd,rfl⟩⟩)|(go_at_call 13;(with_reducible refine (spec_l1In.calls a0_2 0 a0_0 true _ A8.out).mono ?_);rintro e w' ⟨rfl,⟨nd,rfl⟩⟩)|(go_at_call 14;(with_reducible refine (spec_SpacesOk.calls k _ _ l0_3 true _ ?side1 ?side2 A10.out).mono ?_);(case side1=>repeat (first|exact (Kd.C_below HR0_3.out (by repeat (first|(with_reducible first|exact HB.out|apply bal|apply pbN|apply bd1|refine bst ?_ GE187.out)|exact HB.out)))|(with_reducible first|refine Kd.C_alloc ?_ _|refine Kd.C_drewN ?_ _|refine Kd.C_drew ?_)));(case side2=>exact HC0_3.out);rintro e w24 ⟨rfl,hb⟩;replace BK187:=As0.mk (bb hb BK187.out);replace HB:=As0.mk (bsp (by repeat (first|(with_reducible first|exact HB.out|apply bal|apply pbN|apply bd1|refine bst ?_ GE187.out)|exact HB.out)) hb);clear hb;obtain ⟨hcz25_0,hcz25_1,hcz25_2,hcz25_3,hcz25_4,hcz25_5,hcz25_6⟩:=qc7 BK187.out;obtain ⟨hfz25_0,hfz25_1,hfz25_2,hfz25_3,hfz25_4,hfz25_5,hfz25_6⟩:=qz7 BK187.out)|(go_at_call 15;(with_reducible refine (spec_l8Uses.calls k _ _ l0_3 _ _ l0_4 true _ ?side1 ?side2 ?side3 ?side4 A12.out).mono ?_);(case side1=>repeat (first|exact (Kd.C_below HR0_3.out HB.out)|(with_reducible first|refine Kd.C_alloc ?_ _|refine Kd.C_drewN ?_ _|refine Kd.C_drew ?_)));(case side2=>exact HC0_3.out);(case side3=>repeat (first|exact (Kd.C_below HR0_4.out HB.out)|(with_reducible first|refine Kd.C_alloc ?_ _|refine Kd.C_drewN ?_ _|refine Kd.C_drew ?_)));(case side4=>exact HC0_4.out);rintro e w' ⟨rfl,⟨nd,rfl⟩⟩)|(go_at_call 16;(with_reducible refine (spec_l10Things.calls k a0_0 a0_1 a0_2 _ _ l0_3 _ _ l0_4 _ _ l0_5 _ _ l0_6 false _ ?side1 ?side2 ?side3 ?side4 ?side5 ?side6 ?side7 ?side8 A14.out).mono ?_);(case side1=>repeat (first|exact (Kd.C_below HR0_3.out (by repeat (first|(with_reducible first|exact HB.out|apply bal|apply pbN|apply bd1|refine bst ?_ GE187.out)|exact HB.out)))|(with_reducible first|refine Kd.C_alloc ?_ _|refine Kd.C_drewN ?_ _|refine Kd.C_drew ?_)));(case side2=>exact HC0_3.out);(case side3=>repeat (first|exact (Kd.C_below HR0_4.out (by repeat (first|(with_reducible first|exact HB.out|apply bal|apply pbN|apply bd1|refine bst ?_ GE187.out)|exact HB.out)))|(with_reducible first|refine Kd.C_alloc ?_ _|refine Kd.C_drewN ?_ _|refine Kd.C_drew ?_)));(case side4=>exact HC0_4.out);(case side5=>repeat (first|exact (Kd.C_below HR0_5.out (by repeat (first|(with_reducible first|exact HB.out|apply bal|apply pbN|apply bd1|refine bst ?_ GE187.out)|exact HB.out)))|(with_reducible first|refine Kd.C_alloc ?_ _|refine Kd.C_drewN ?_ _|refine Kd.C_drew ?_)));(case side6=>exact HC0_5.out);(case side7=>repeat (first|exact (Kd.C_below HR0_6.out (by repeat (first|(with_reducible first|exact HB.out|apply bal|apply pbN|apply bd1|refine bst ?_ GE187.out)|exact HB.out)))|(with_reducible first|refine Kd.C_alloc ?_ _|refine Kd.C_drewN ?_ _|refine Kd.C_drew ?_)));(case side8=>exact HC0_6.out);rintro e w26 ⟨rfl,hb⟩;replace BK187:=As0.mk (bb hb BK187.out);replace HB:=As0.mk (bsp (by repeat (first|(with_reducible first|exact HB.out|apply bal|apply pbN|apply bd1|refine bst ?_ GE187.out)|exact HB.out)) hb);clear hb))
              show _;go_meet
              case rel=>exact ⟨_,(true),(by first|rfl|(simp;done)|(simp [*];done)),H',⟨by first|omega|exact Nat.le_refl _⟩,⟨by (with_reducible repeat (first|refine bkN ?_ _|refine bkD ?_|refine bkA ?_ _));exact BK187.out⟩,⟨by repeat (first|(with_reducible first|exact HB.out|apply bal|apply pbN|apply bd1|refine bst ?_ GE187.out)|exact HB.out)⟩⟩
          · replace c13:=Bool.eq_false_iff.mpr c13
            subst c13;have H1:(spec_ModelOk.j0 k true a0_0 a0_1 a0_2 l0_3 l0_4 l0_5 l0_6) = some r:=by rw [if_neg (show ¬ (false = true) by decide)] at H;exact H
            clear H;have H:=H1;clear H1;have H':=As0.mk H;clear H;obtain ⟨hcz27_0,hcz27_1,hcz27_2,hcz27_3,hcz27_4,hcz27_5,hcz27_6⟩:=qc7 BK187.out;obtain ⟨hfz27_0,hfz27_1,hfz27_2,hfz27_3,hfz27_4,hfz27_5,hfz27_6⟩:=qz7 BK187.out
            go_wp2_with (first|((with_reducible refine gca (f:=13) rfl ?_);refine gL (some 6) Tryd.func13 #[.int .i64 a0_0,.int .i64 0,.int .i64 99999] ?_;(with_reducible refine (spec_l1In.calls a0_0 0 99999 true _ A4.out).mono ?_);rintro e w' ⟨rfl,⟨nd,rfl⟩⟩;refine ⟨_,rfl,?_⟩)|(go_at_call 13;(with_reducible refine (spec_l1In.calls a0_1 0 99999 true _ A6.out).mono ?_);rintro e w' ⟨rfl,⟨nd,rfl⟩⟩)|(go_at_call 13;(with_reducible refine (spec_l1In.calls a0_2 0 a0_0 true _ A8.out).mono ?_);rintro e w' ⟨rfl,⟨nd,rfl⟩⟩)|(go_at_call 14;(with_reducible refine (spec_SpacesOk.calls k _ _ l0_3 true _ ?side1 ?side2 A10.out).mono ?_);(case side1=>repeat (first|exact (Kd.C_below HR0_3.out (by repeat (first|(with_reducible first|exact HB.out|apply bal|apply pbN|apply bd1|refine bst ?_ GE187.out)|exact HB.out)))|(with_reducible first|refine Kd.C_alloc ?_ _|refine Kd.C_drewN ?_ _|refine Kd.C_drew ?_)));(case side2=>exact HC0_3.out);rintro e w28 ⟨rfl,hb⟩;replace BK187:=As0.mk (bb hb BK187.out);replace HB:=As0.mk (bsp (by repeat (first|(with_reducible first|exact HB.out|apply bal|apply pbN|apply bd1|refine bst ?_ GE187.out)|exact HB.out)) hb);clear hb;obtain ⟨hcz29_0,hcz29_1,hcz29_2,hcz29_3,hcz29_4,hcz29_5,hcz29_6⟩:=qc7 BK187.out;obtain ⟨hfz29_0,hfz29_1,hfz29_2,hfz29_3,hfz29_4,hfz29_5,hfz29_6⟩:=qz7 BK187.out)|(go_at_call 15;(with_reducible refine (spec_l8Uses.calls k _ _ l0_3 _ _ l0_4 false _ ?side1 ?side2 ?side3 ?side4 A12.out).mono ?_);(case side1=>repeat (first|exact (Kd.C_below HR0_3.out HB.out)|(with_reducible first|refine Kd.C_alloc ?_ _|refine Kd.C_drewN ?_ _|refine Kd.C_drew ?_)));(case side2=>exact HC0_3.out);(case side3=>repeat (first|exact (Kd.C_below HR0_4.out HB.out)|(with_reducible first|refine Kd.C_alloc ?_ _|refine Kd.C_drewN ?_ _|refine Kd.C_drew ?_)));(case side4=>exact HC0_4.out);rintro e w' ⟨rfl,⟨nd,rfl⟩⟩))
            show _;go_meet
            case rel=>exact ⟨_,(true),(by first|rfl|(simp;done)|(simp [*];done)),H',⟨by first|omega|exact Nat.le_refl _⟩,⟨by (with_reducible repeat (first|refine bkN ?_ _|refine bkD ?_|refine bkA ?_ _));exact BK187.out⟩,⟨by repeat (first|(with_reducible first|exact HB.out|apply bal|apply pbN|apply bd1|refine bst ?_ GE187.out)|exact HB.out)⟩⟩
        · replace c11:=Bool.eq_false_iff.mpr c11
          subst c11;have H1:(spec_ModelOk.j0 k true a0_0 a0_1 a0_2 l0_3 l0_4 l0_5 l0_6) = some r:=by rw [if_neg (show ¬ (false = true) by decide)] at H;exact H
          clear H;have H:=H1;clear H1;have H':=As0.mk H;clear H;obtain ⟨hcz30_0,hcz30_1,hcz30_2,hcz30_3,hcz30_4,hcz30_5,hcz30_6⟩:=qc7 BK187.out;obtain ⟨hfz30_0,hfz30_1,hfz30_2,hfz30_3,hfz30_4,hfz30_5,hfz30_6⟩:=qz7 BK187.out
          go_wp2_with (first|((with_reducible refine gca (f:=13) rfl ?_);refine gL (some 6) Tryd.func13 #[.int .i64 a0_0,.int .i64 0,.int .i64 99999] ?_;(with_reducible refine (spec_l1In.calls a0_0 0 99999 true _ A4.out).mono ?_);rintro e w' ⟨rfl,⟨nd,rfl⟩⟩;refine ⟨_,rfl,?_⟩)|(go_at_call 13;(with_reducible refine (spec_l1In.calls a0_1 0 99999 true _ A6.out).mono ?_);rintro e w' ⟨rfl,⟨nd,rfl⟩⟩)|(go_at_call 13;(with_reducible refine (spec_l1In.calls a0_2 0 a0_0 true _ A8.out).mono ?_);rintro e w' ⟨rfl,⟨nd,rfl⟩⟩)|(go_at_call 14;(with_reducible refine (spec_SpacesOk.calls k _ _ l0_3 false _ ?side1 ?side2 A10.out).mono ?_);(case side1=>repeat (first|exact (Kd.C_below HR0_3.out (by repeat (first|(with_reducible first|exact HB.out|apply bal|apply pbN|apply bd1|refine bst ?_ GE187.out)|exact HB.out)))|(with_reducible first|refine Kd.C_alloc ?_ _|refine Kd.C_drewN ?_ _|refine Kd.C_drew ?_)));(case side2=>exact HC0_3.out);rintro e w31 ⟨rfl,hb⟩;replace BK187:=As0.mk (bb hb BK187.out);replace HB:=As0.mk (bsp (by repeat (first|(with_reducible first|exact HB.out|apply bal|apply pbN|apply bd1|refine bst ?_ GE187.out)|exact HB.out)) hb);clear hb))
          show _;go_meet
          case rel=>exact ⟨_,(true),(by first|rfl|(simp;done)|(simp [*];done)),H',⟨by first|omega|exact Nat.le_refl _⟩,⟨by (with_reducible repeat (first|refine bkN ?_ _|refine bkD ?_|refine bkA ?_ _));exact BK187.out⟩,⟨by repeat (first|(with_reducible first|exact HB.out|apply bal|apply pbN|apply bd1|refine bst ?_ GE187.out)|exact HB.out)⟩⟩
      · replace c9:=Bool.eq_false_iff.mpr c9
        subst c9;have H1:(spec_ModelOk.j0 k true a0_0 a0_1 a0_2 l0_3 l0_4 l0_5 l0_6) = some r:=by rw [if_neg (show ¬ (false = true) by decide)] at H;exact H
        clear H;have H:=H1;clear H1;have H':=As0.mk H;clear H;obtain ⟨hcz32_0,hcz32_1,hcz32_2,hcz32_3,hcz32_4,hcz32_5,hcz32_6⟩:=qc7 BK187.out;obtain ⟨hfz32_0,hfz32_1,hfz32_2,hfz32_3,hfz32_4,hfz32_5,hfz32_6⟩:=qz7 BK187.out
        go_wp2_with (first|((with_reducible refine gca (f:=13) rfl ?_);refine gL (some 6) Tryd.func13 #[.int .i64 a0_0,.int .i64 0,.int .i64 99999] ?_;(with_reducible refine (spec_l1In.calls a0_0 0 99999 true _ A4.out).mono ?_);rintro e w' ⟨rfl,⟨nd,rfl⟩⟩;refine ⟨_,rfl,?_⟩)|(go_at_call 13;(with_reducible refine (spec_l1In.calls a0_1 0 99999 true _ A6.out).mono ?_);rintro e w' ⟨rfl,⟨nd,rfl⟩⟩)|(go_at_call 13;(with_reducible refine (spec_l1In.calls a0_2 0 a0_0 false _ A8.out).mono ?_);rintro e w' ⟨rfl,⟨nd,rfl⟩⟩))
        show _;go_meet
        case rel=>exact ⟨_,(true),(by first|rfl|(simp;done)|(simp [*];done)),H',⟨by first|omega|exact Nat.le_refl _⟩,⟨by (with_reducible repeat (first|refine bkN ?_ _|refine bkD ?_|refine bkA ?_ _));exact BK187.out⟩,⟨by repeat (first|(with_reducible first|exact HB.out|apply bal|apply pbN|apply bd1|refine bst ?_ GE187.out)|exact HB.out)⟩⟩
    · replace c7:=Bool.eq_false_iff.mpr c7
      subst c7;have H1:(spec_ModelOk.j0 k true a0_0 a0_1 a0_2 l0_3 l0_4 l0_5 l0_6) = some r:=by rw [if_neg (show ¬ (false = true) by decide)] at H;exact H
      clear H;have H:=H1;clear H1;have H':=As0.mk H;clear H;obtain ⟨hcz33_0,hcz33_1,hcz33_2,hcz33_3,hcz33_4,hcz33_5,hcz33_6⟩:=qc7 BK187.out;obtain ⟨hfz33_0,hfz33_1,hfz33_2,hfz33_3,hfz33_4,hfz33_5,hfz33_6⟩:=qz7 BK187.out
      go_wp2_with (first|((with_reducible refine gca (f:=13) rfl ?_);refine gL (some 6) Tryd.func13 #[.int .i64 a0_0,.int .i64 0,.int .i64 99999] ?_;(with_reducible refine (spec_l1In.calls a0_0 0 99999 true _ A4.out).mono ?_);rintro e w' ⟨rfl,⟨nd,rfl⟩⟩;refine ⟨_,rfl,?_⟩)|(go_at_call 13;(with_reducible refine (spec_l1In.calls a0_1 0 99999 false _ A6.out).mono ?_);rintro e w' ⟨rfl,⟨nd,rfl⟩⟩))
      show _;go_meet
      case rel=>exact ⟨_,(true),(by first|rfl|(simp;done)|(simp [*];done)),H',⟨by first|omega|exact Nat.le_refl _⟩,⟨by (with_reducible repeat (first|refine bkN ?_ _|refine bkD ?_|refine bkA ?_ _));exact BK187.out⟩,⟨by repeat (first|(with_reducible first|exact HB.out|apply bal|apply pbN|apply bd1|refine bst ?_ GE187.out)|exact HB.out)⟩⟩
  · replace c5:=Bool.eq_false_iff.mpr c5
    subst c5;have H1:(spec_ModelOk.j0 k true a0_0 a0_1 a0_2 l0_3 l0_4 l0_5 l0_6) = some r:=by rw [if_neg (show ¬ (false = true) by decide)] at H;exact H
    clear H;have H:=H1;clear H1;have H':=As0.mk H;clear H;obtain ⟨hcz34_0,hcz34_1,hcz34_2,hcz34_3,hcz34_4,hcz34_5,hcz34_6⟩:=qc7 BK187.out;obtain ⟨hfz34_0,hfz34_1,hfz34_2,hfz34_3,hfz34_4,hfz34_5,hfz34_6⟩:=qz7 BK187.out
    go_wp2_with (first|((with_reducible refine gca (f:=13) rfl ?_);refine gL (some 6) Tryd.func13 #[.int .i64 a0_0,.int .i64 0,.int .i64 99999] ?_;(with_reducible refine (spec_l1In.calls a0_0 0 99999 false _ A4.out).mono ?_);rintro e w' ⟨rfl,⟨nd,rfl⟩⟩;refine ⟨_,rfl,?_⟩))
    show _;go_meet
    case rel=>exact ⟨_,(true),(by first|rfl|(simp;done)|(simp [*];done)),H',⟨by first|omega|exact Nat.le_refl _⟩,⟨by (with_reducible repeat (first|refine bkN ?_ _|refine bkD ?_|refine bkA ?_ _));exact BK187.out⟩,⟨by repeat (first|(with_reducible first|exact HB.out|apply bal|apply pbN|apply bd1|refine bst ?_ GE187.out)|exact HB.out)⟩⟩
 case rest=>
  clear HC2
  try clear c1
  try clear p2
  try clear c5
  try clear c7
  try clear c9
  try clear c11
  try clear c13
  try clear c15
  try clear hcz17_0
  try clear hcz17_1
  try clear hcz17_2
  try clear hcz17_3
  try clear hcz17_4
  try clear hcz17_5
  try clear hcz17_6
  try clear hcz19_0
  try clear hcz19_1
  try clear hcz19_2
  try clear hcz19_3
  try clear hcz19_4
  try clear hcz19_5
  try clear hcz19_6
  try clear hcz21_0
  try clear hcz21_1
  try clear hcz21_2
  try clear hcz21_3
  try clear hcz21_4
  try clear hcz21_5
  try clear hcz21_6
  try clear hcz23_0
  try clear hcz23_1
  try clear hcz23_2
  try clear hcz23_3
  try clear hcz23_4
  try clear hcz23_5
  try clear hcz23_6
  try clear hcz25_0
  try clear hcz25_1
  try clear hcz25_2
  try clear hcz25_3
  try clear hcz25_4
  try clear hcz25_5
  try clear hcz25_6
  try clear hcz27_0
  try clear hcz27_1
  try clear hcz27_2
  try clear hcz27_3
  try clear hcz27_4
  try clear hcz27_5
  try clear hcz27_6
  try clear hcz29_0
  try clear hcz29_1
  try clear hcz29_2
  try clear hcz29_3
  try clear hcz29_4
  try clear hcz29_5
  try clear hcz29_6
  try clear hcz30_0
  try clear hcz30_1
  try clear hcz30_2
  try clear hcz30_3
  try clear hcz30_4
  try clear hcz30_5
  try clear hcz30_6
  try clear hcz32_0
  try clear hcz32_1
  try clear hcz32_2
  try clear hcz32_3
  try clear hcz32_4
  try clear hcz32_5
  try clear hcz32_6
  try clear hcz33_0
  try clear hcz33_1
  try clear hcz33_2
  try clear hcz33_3
  try clear hcz33_4
  try clear hcz33_5
  try clear hcz33_6
  try clear hcz34_0
  try clear hcz34_1
  try clear hcz34_2
  try clear hcz34_3
  try clear hcz34_4
  try clear hcz34_5
  try clear hcz34_6
  try clear hfz17_0
  try clear hfz17_1
  try clear hfz17_2
  try clear hfz17_3
  try clear hfz17_4
  try clear hfz17_5
  try clear hfz17_6
  try clear hfz19_0
  try clear hfz19_1
  try clear hfz19_2
  try clear hfz19_3
  try clear hfz19_4
  try clear hfz19_5
  try clear hfz19_6
  try clear hfz21_0
  try clear hfz21_1
  try clear hfz21_2
  try clear hfz21_3
  try clear hfz21_4
  try clear hfz21_5
  try clear hfz21_6
  try clear hfz23_0
  try clear hfz23_1
  try clear hfz23_2
  try clear hfz23_3
  try clear hfz23_4
  try clear hfz23_5
  try clear hfz23_6
  try clear hfz25_0
  try clear hfz25_1
  try clear hfz25_2
  try clear hfz25_3
  try clear hfz25_4
  try clear hfz25_5
  try clear hfz25_6
  try clear hfz27_0
  try clear hfz27_1
  try clear hfz27_2
  try clear hfz27_3
  try clear hfz27_4
  try clear hfz27_5
  try clear hfz27_6
  try clear hfz29_0
  try clear hfz29_1
  try clear hfz29_2
  try clear hfz29_3
  try clear hfz29_4
  try clear hfz29_5
  try clear hfz29_6
  try clear hfz30_0
  try clear hfz30_1
  try clear hfz30_2
  try clear hfz30_3
  try clear hfz30_4
  try clear hfz30_5
  try clear hfz30_6
  try clear hfz32_0
  try clear hfz32_1
  try clear hfz32_2
  try clear hfz32_3
  try clear hfz32_4
  try clear hfz32_5
  try clear hfz32_6
  try clear hfz33_0
  try clear hfz33_1
  try clear hfz33_2
  try clear hfz33_3
  try clear hfz33_4
  try clear hfz33_5
  try clear hfz33_6
  try clear hfz34_0
  try clear hfz34_1
  try clear hfz34_2
  try clear hfz34_3
  try clear hfz34_4
  try clear hfz34_5
  try clear hfz34_6
  obtain ⟨kq,x45_1,rfl,HA,HJ1,BK187,HB⟩:=hcut
  cases kq with
  |zero=>exact absurd HA.out (by simp [spec_ModelOk.j0])
  |succ kj1=>
   have H:=HA.out;clear HA;simp only [spec_ModelOk.j0] at H;by_cases c35:x45_1 = true
   · subst c35
     have H1:(some false) = some r:=by rw [if_pos rfl] at H;exact H
     clear H;have H:=H1;clear H1;obtain rfl:=Option.some.inj H
     go_wp2
     go_ret
     exact ⟨eW,by repeat (first|(with_reducible first|exact HB.out|apply bal|apply pbN|apply bd1|refine bst ?_ GE187.out)|exact HB.out)⟩
   · replace c35:=Bool.eq_false_iff.mpr c35
     subst c35;have H1:(spec_ModelOk.l0 kj1 0 a0_0 a0_1 a0_2 l0_3 l0_4 l0_5 l0_6) = some r:=by rw [if_neg (show ¬ (false = true) by decide)] at H;exact H
     clear H;have H:=H1;clear H1;have H':=As0.mk H;clear H
     go_wp2
     show _;go_loopg [3] kj1 (fun kq v3 w'=>∃ (x3_2:Int),v3 = .int .i64 x3_2 ∧ As0 (spec_ModelOk.l0 kq x3_2 a0_0 a0_1 a0_2 l0_3 l0_4 l0_5 l0_6 = some r) ∧ As0 (kq ≤ kj1) ∧ As0 (w'.heap[gb187]? = some (.cells #[.int .i64 a0_0,.int .i64 a0_1,.int .i64 a0_2,(.slice A0_3 l0_3.length c0_3),(.slice A0_4 l0_4.length c0_4),(.slice A0_5 l0_5.length c0_5),(.slice A0_6 l0_6.length c0_6)] 35 (0,0))) ∧ As0 (Below w.heap.size w w'))
     case atStart=>exact ⟨(0),(by first|rfl|(simp;done)|(simp [*];done)),H',⟨Nat.le_refl _⟩,⟨by (with_reducible repeat (first|refine bkN ?_ _|refine bkD ?_|refine bkA ?_ _));exact BK187.out⟩,⟨by repeat (first|(with_reducible first|exact HB.out|apply bal|apply pbN|apply bd1|refine bst ?_ GE187.out)|exact HB.out)⟩⟩
     case round=>
      clear H'
      try clear c1
      try clear p2
      try clear c3
      try clear c5
      try clear c7
      try clear c9
      try clear c11
      try clear c13
      try clear c15
      try clear c35
      try clear hcz17_0
      try clear hcz17_1
      try clear hcz17_2
      try clear hcz17_3
      try clear hcz17_4
      try clear hcz17_5
      try clear hcz17_6
      try clear hcz19_0
      try clear hcz19_1
      try clear hcz19_2
      try clear hcz19_3
      try clear hcz19_4
      try clear hcz19_5
      try clear hcz19_6
      try clear hcz21_0
      try clear hcz21_1
      try clear hcz21_2
      try clear hcz21_3
      try clear hcz21_4
      try clear hcz21_5
      try clear hcz21_6
      try clear hcz23_0
      try clear hcz23_1
      try clear hcz23_2
      try clear hcz23_3
      try clear hcz23_4
      try clear hcz23_5
      try clear hcz23_6
      try clear hcz25_0
      try clear hcz25_1
      try clear hcz25_2
      try clear hcz25_3
      try clear hcz25_4
      try clear hcz25_5
      try clear hcz25_6
      try clear hcz27_0
      try clear hcz27_1
      try clear hcz27_2
      try clear hcz27_3
      try clear hcz27_4
      try clear hcz27_5
      try clear hcz27_6
      try clear hcz29_0
      try clear hcz29_1
      try clear hcz29_2
      try clear hcz29_3
      try clear hcz29_4
      try clear hcz29_5
      try clear hcz29_6
      try clear hcz30_0
      try clear hcz30_1
      try clear hcz30_2
      try clear hcz30_3
      try clear hcz30_4
      try clear hcz30_5
      try clear hcz30_6
      try clear hcz32_0
      try clear hcz32_1
      try clear hcz32_2
      try clear hcz32_3
      try clear hcz32_4
      try clear hcz32_5
      try clear hcz32_6
      try clear hcz33_0
      try clear hcz33_1
      try clear hcz33_2
      try clear hcz33_3
      try clear hcz33_4
      try clear hcz33_5
      try clear hcz33_6
      try clear hcz34_0
      try clear hcz34_1
      try clear hcz34_2
      try clear hcz34_3
      try clear hcz34_4
      try clear hcz34_5
      try clear hcz34_6
      try clear hfz17_0
      try clear hfz17_1
      try clear hfz17_2
      try clear hfz17_3
      try clear hfz17_4
      try clear hfz17_5
      try clear hfz17_6
      try clear hfz19_0
      try clear hfz19_1
      try clear hfz19_2
      try clear hfz19_3
      try clear hfz19_4
      try clear hfz19_5
      try clear hfz19_6
      try clear hfz21_0
      try clear hfz21_1
      try clear hfz21_2
      try clear hfz21_3
      try clear hfz21_4
      try clear hfz21_5
      try clear hfz21_6
      try clear hfz23_0
      try clear hfz23_1
      try clear hfz23_2
      try clear hfz23_3
      try clear hfz23_4
      try clear hfz23_5
      try clear hfz23_6
      try clear hfz25_0
      try clear hfz25_1
      try clear hfz25_2
      try clear hfz25_3
      try clear hfz25_4
      try clear hfz25_5
      try clear hfz25_6
      try clear hfz27_0
      try clear hfz27_1
      try clear hfz27_2
      try clear hfz27_3
      try clear hfz27_4
      try clear hfz27_5
      try clear hfz27_6
      try clear hfz29_0
      try clear hfz29_1
      try clear hfz29_2
      try clear hfz29_3
      try clear hfz29_4
      try clear hfz29_5
      try clear hfz29_6
      try clear hfz30_0
      try clear hfz30_1
      try clear hfz30_2
      try clear hfz30_3
      try clear hfz30_4
      try clear hfz30_5
      try clear hfz30_6
      try clear hfz32_0
      try clear hfz32_1
      try clear hfz32_2
      try clear hfz32_3
      try clear hfz32_4
      try clear hfz32_5
      try clear hfz32_6
      try clear hfz33_0
      try clear hfz33_1
      try clear hfz33_2
      try clear hfz33_3
      try clear hfz33_4
      try clear hfz33_5
      try clear hfz33_6
      try clear hfz34_0
      try clear hfz34_1
      try clear hfz34_2
      try clear hfz34_3
      try clear hfz34_4
      try clear hfz34_5
      try clear hfz34_6
      try clear p2
      obtain ⟨x3_2,rfl,HA,HK2,BK187,HB⟩:=hrel
      cases gk with
      |zero=>exact absurd HA.out (by simp [spec_ModelOk.l0])
      |succ k2=>
       have H:=HA.out;clear HA;simp only [spec_ModelOk.l0] at H;by_cases c36:x3_2 < (l0_3.length:Int)
       · rw [if_pos c36] at H
         have c36b0:decide (x3_2 < (l0_3.length:Int)) = true:=decide_eq_true c36;clear c36;by_cases c37:0 ≤ x3_2
         · rw [if_pos c37] at H
           have c37b0:decide (0 ≤ x3_2) = true:=decide_eq_true c37;clear c37;by_cases c38:((riS37 l0_3 x3_2).f4) > a0_0
           · rw [if_pos c38] at H
             have c38b0:decide (a0_0 < ((riS37 l0_3 x3_2).f4)) = true:=decide_eq_true c38;clear c38;obtain rfl:=Option.some.inj H;obtain ⟨hcz39_0,hcz39_1,hcz39_2,hcz39_3,hcz39_4,hcz39_5,hcz39_6⟩:=qc7 BK187.out;obtain ⟨hfz39_0,hfz39_1,hfz39_2,hfz39_3,hfz39_4,hfz39_5,hfz39_6⟩:=qz7 BK187.out
             try go_wp2
             replace BK187:=As0.mk (bkD BK187.out);replace HB:=As0.mk (bd1 HB.out);have p195:0 ≤ (x3_2:Int):=odt;have q195:x3_2 < (l0_3.length:Int):=odt;obtain ⟨ad195,e195,hx195_0,hx195_1,hx195_2,hx195_3,hx195_4⟩:=at_T47 HR0_3.out x3_2 p195 q195;have hw195_4:=hx195_4;have hw195_3:=hx195_3;have hw195_2:=hx195_2;have hw195_1:=hx195_1;have hw195_0:=hx195_0
             cases e195
             replace hx195_0:=bx HB.out rfl hx195_0;replace hx195_1:=bx HB.out rfl hx195_1;replace hx195_2:=bx HB.out rfl hx195_2;replace hx195_3:=bx HB.out rfl hx195_3;replace hx195_4:=bx HB.out rfl hx195_4;replace p195:=eq_true p195;replace q195:=eq_true q195;refine start_ (n:=29) (S:=fun w'=>w'.cell? ⟨gb187,0,none⟩ = some (.int .i64 a0_0) ∧ w'.cell? ⟨gb187,1,none⟩ = some (.int .i64 a0_1) ∧ w'.cell? ⟨gb187,2,none⟩ = some (.int .i64 a0_2) ∧ w'.cell? ⟨gb187,3,none⟩ = some (.slice (some ad195) l0_3.length c0_3) ∧ w'.cell? ⟨gb187,4,none⟩ = some (.slice A0_4 l0_4.length c0_4) ∧ w'.cell? ⟨gb187,5,none⟩ = some (.slice A0_5 l0_5.length c0_5) ∧ w'.cell? ⟨gb187,6,none⟩ = some (.slice A0_6 l0_6.length c0_6) ∧ w'.cell? (ad195.add ((x3_2).toNat * 5)) = some (.string ((riS37 l0_3 x3_2).f0)) ∧ w'.cell? ⟨(ad195.add ((x3_2).toNat * 5)).block,(ad195.add ((x3_2).toNat * 5)).off + 1,none⟩ = some (.string ((riS37 l0_3 x3_2).f1)) ∧ w'.cell? ⟨(ad195.add ((x3_2).toNat * 5)).block,(ad195.add ((x3_2).toNat * 5)).off + 2,none⟩ = some (.int .i64 ((riS37 l0_3 x3_2).f2)) ∧ w'.cell? ⟨(ad195.add ((x3_2).toNat * 5)).block,(ad195.add ((x3_2).toNat * 5)).off + 3,none⟩ = some (.bool ((riS37 l0_3 x3_2).f3)) ∧ w'.cell? ⟨(ad195.add ((x3_2).toNat * 5)).block,(ad195.add ((x3_2).toNat * 5)).off + 4,none⟩ = some (.int .i64 ((riS37 l0_3 x3_2).f4))) (ds:=[]) spec_ModelOk.calls.a0 (by kernel_rfl) rfl rfl ⟨(bkC BK187.out 0).trans rfl,(bkC BK187.out 1).trans rfl,(bkC BK187.out 2).trans rfl,(bkC BK187.out 3).trans rfl,(bkC BK187.out 4).trans rfl,(bkC BK187.out 5).trans rfl,(bkC BK187.out 6).trans rfl,((HB.out.cell (World.block_lt_of_cell? w _ hw195_0)).trans hw195_0),((HB.out.cell (World.block_lt_of_cell? w _ hw195_1)).trans hw195_1),((HB.out.cell (World.block_lt_of_cell? w _ hw195_2)).trans hw195_2),((HB.out.cell (World.block_lt_of_cell? w _ hw195_3)).trans hw195_3),((HB.out.cell (World.block_lt_of_cell? w _ hw195_4)).trans hw195_4)⟩ (fun hHeld=>?_);refine with_tabW spec_ModelOk.tab6 spec_ModelOk.bits6 (fun HT_ HW_=>?_);generalize wr.drew = w40 at BK187 HB hx195_0 hx195_1 hx195_2 hx195_3 hx195_4 hHeld ⊢
             refine pu 0 (some 53) spec_ModelOk.calls.a1 rfl rfl HT_.out ?_;refine pu 2 (some 55) spec_ModelOk.calls.a2 rfl rfl HT_.out ?_;refine pu 6 (some 59) spec_ModelOk.calls.a3 rfl rfl HT_.out ?_;refine tk 1 (some 54) spec_ModelOk.calls.a4 rfl rfl HT_.out HW_.out hHeld (by rintro w' ⟨s0,s1,s2,s3,s4,s5,s6,s7,s8,s9,s10,s11⟩;go_simp;with_reducible rfl) ?_;refine pu 3 (some 56) spec_ModelOk.calls.a5 rfl rfl HT_.out ?_;refine pu 4 (some 57) spec_ModelOk.calls.a6 rfl rfl HT_.out ?_;refine tk 5 (some 58) spec_ModelOk.calls.a7 rfl rfl HT_.out HW_.out hHeld (by rintro w' ⟨s0,s1,s2,s3,s4,s5,s6,s7,s8,s9,s10,s11⟩;go_simp;with_reducible rfl) ?_;refine tk 7 (some 60) spec_ModelOk.calls.a8 rfl rfl HT_.out HW_.out hHeld (by rintro w' ⟨s0,s1,s2,s3,s4,s5,s6,s7,s8,s9,s10,s11⟩;go_simp;with_reducible rfl) ?_;refine pu 8 (some 61) spec_ModelOk.calls.a9 rfl rfl HT_.out ?_;refine pu 9 (some 62) spec_ModelOk.calls.a10 rfl rfl HT_.out ?_;refine pn 10 (some 63) spec_ModelOk.calls.a11 rfl rfl HT_.out ?_;refine pn 11 (some 64) #[true,true,true,true,true,true,true,true,true,true,true,true,false,false,false,false,false,false,false,false,false,false,false,false,false,false,false,false,false] rfl rfl HT_.out ?_;refine pn 12 (some 65) #[true,true,true,true,true,true,true,true,true,true,true,true,true,false,false,false,false,false,false,false,false,false,false,false,false,false,false,false,false] rfl rfl HT_.out ?_;refine pn 13 (some 66) #[true,true,true,true,true,true,true,true,true,true,true,true,true,true,false,false,false,false,false,false,false,false,false,false,false,false,false,false,false] rfl rfl HT_.out ?_;refine pn 14 (some 67) #[true,true,true,true,true,true,true,true,true,true,true,true,true,true,true,false,false,false,false,false,false,false,false,false,false,false,false,false,false] rfl rfl HT_.out ?_;refine pn 15 (some 68) #[true,true,true,true,true,true,true,true,true,true,true,true,true,true,true,true,false,false,false,false,false,false,false,false,false,false,false,false,false] rfl rfl HT_.out ?_;refine pn 16 (some 69) #[true,true,true,true,true,true,true,true,true,true,true,true,true,true,true,true,true,false,false,false,false,false,false,false,false,false,false,false,false] rfl rfl HT_.out ?_;refine pn 17 (some 70) #[true,true,true,true,true,true,true,true,true,true,true,true,true,true,true,true,true,true,false,false,false,false,false,false,false,false,false,false,false] rfl rfl HT_.out ?_;refine pn 18 (some 71) #[true,true,true,true,true,true,true,true,true,true,true,true,true,true,true,true,true,true,true,false,false,false,false,false,false,false,false,false,false] rfl rfl HT_.out ?_;refine pn 19 (some 72) #[true,true,true,true,true,true,true,true,true,true,true,true,true,true,true,true,true,true,true,true,false,false,false,false,false,false,false,false,false] rfl rfl HT_.out ?_;refine pn 20 (some 73) #[true,true,true,true,true,true,true,true,true,true,true,true,true,true,true,true,true,true,true,true,true,false,false,false,false,false,false,false,false] rfl rfl HT_.out ?_;refine pn 21 (some 74) #[true,true,true,true,true,true,true,true,true,true,true,true,true,true,true,true,true,true,true,true,true,true,false,false,false,false,false,false,false] rfl rfl HT_.out ?_;refine pn 22 (some 75) spec_ModelOk.calls.a12 rfl rfl HT_.out ?_;refine pn 23 (some 76) spec_ModelOk.calls.a13 rfl rfl HT_.out ?_;refine pn 24 (some 77) spec_ModelOk.calls.a14 rfl rfl HT_.out ?_;refine pn 25 (some 78) spec_ModelOk.calls.a15 rfl rfl HT_.out ?_;refine pn 26 (some 79) spec_ModelOk.calls.a16 rfl rfl HT_.out ?_;refine pn 27 (some 80) spec_ModelOk.calls.a17 rfl rfl HT_.out ?_;refine pu 28 (some 81) spec_ModelOk.calls.a18 rfl rfl HT_.out ?_;refine done_ (done_of HT_.out (by kernel_rfl)) ?_
             try go_wp2
             go_ret
             exact ⟨eW,by repeat (first|(with_reducible first|exact HB.out|apply bal|apply pbN|apply bd1|refine bst ?_ GE187.out)|exact HB.out)⟩
           · rw [if_neg c38] at H
             have c38b0:decide (a0_0 < ((riS37 l0_3 x3_2).f4)) = false:=decide_eq_false c38;clear c38;by_cases c41:x3_2 < (l0_4.length:Int)
             · rw [if_pos c41] at H
               have c41b0:decide (x3_2 < (l0_4.length:Int)) = true:=decide_eq_true c41;clear c41;replace H:=Option.bind_eq_some_iff.mp H;obtain ⟨t198,A420,H⟩:=H;(try dsimp only at H);have A42:=As0.mk A420;clear A420;by_cases c43:((riU39 l0_4 x3_2).f1) = t198
               · rw [if_pos c43] at H
                 have c43b0:(((riU39 l0_4 x3_2).f1) == t198) = true:=beq_iff_eq.mpr c43;have c43b1:(((riU39 l0_4 x3_2).f1) != t198) = false:=bne_eq_false_iff_eq.mpr c43;clear c43;have H':=As0.mk H;clear H;obtain ⟨hcz44_0,hcz44_1,hcz44_2,hcz44_3,hcz44_4,hcz44_5,hcz44_6⟩:=qc7 BK187.out;obtain ⟨hfz44_0,hfz44_1,hfz44_2,hfz44_3,hfz44_4,hfz44_5,hfz44_6⟩:=qz7 BK187.out
                 try go_wp2
                 replace BK187:=As0.mk (bkD BK187.out);replace HB:=As0.mk (bd1 HB.out);have p195:0 ≤ (x3_2:Int):=odt;have q195:x3_2 < (l0_3.length:Int):=odt;obtain ⟨ad195,e195,hx195_0,hx195_1,hx195_2,hx195_3,hx195_4⟩:=at_T47 HR0_3.out x3_2 p195 q195;have hw195_4:=hx195_4;have hw195_3:=hx195_3;have hw195_2:=hx195_2;have hw195_1:=hx195_1;have hw195_0:=hx195_0
                 cases e195
                 replace hx195_0:=bx HB.out rfl hx195_0;replace hx195_1:=bx HB.out rfl hx195_1;replace hx195_2:=bx HB.out rfl hx195_2;replace hx195_3:=bx HB.out rfl hx195_3;replace hx195_4:=bx HB.out rfl hx195_4;replace p195:=eq_true p195;replace q195:=eq_true q195;have p196:0 ≤ (x3_2:Int):=odt;have q196:x3_2 < (l0_4.length:Int):=odt;obtain ⟨ad196,e196,hx196_0,hx196_1⟩:=at_T49 HR0_4.out x3_2 p196 q196;have hw196_1:=hx196_1;have hw196_0:=hx196_0
                 cases e196
                 replace hx196_0:=bx HB.out rfl hx196_0;replace hx196_1:=bx HB.out rfl hx196_1;replace p196:=eq_true p196;replace q196:=eq_true q196;have p197:0 ≤ (x3_2:Int):=odt;have q197:x3_2 < (l0_3.length:Int):=odt;obtain ⟨ad197,e197,hx197_0,hx197_1,hx197_2,hx197_3,hx197_4⟩:=at_T47 HR0_3.out x3_2 p197 q197;have hw197_4:=hx197_4;have hw197_3:=hx197_3;have hw197_2:=hx197_2;have hw197_1:=hx197_1;have hw197_0:=hx197_0;obtain rfl:ad195 = ad197:=(by injection e197);replace hx197_0:=bx HB.out rfl hx197_0;replace hx197_1:=bx HB.out rfl hx197_1;replace hx197_2:=bx HB.out rfl hx197_2;replace hx197_3:=bx HB.out rfl hx197_3;replace hx197_4:=bx HB.out rfl hx197_4;replace p197:=eq_true p197;replace q197:=eq_true q197;refine start_ (n:=29) (S:=fun w'=>w'.cell? ⟨gb187,0,none⟩ = some (.int .i64 a0_0) ∧ w'.cell? ⟨gb187,1,none⟩ = some (.int .i64 a0_1) ∧ w'.cell? ⟨gb187,2,none⟩ = some (.int .i64 a0_2) ∧ w'.cell? ⟨gb187,3,none⟩ = some (.slice (some ad195) l0_3.length c0_3) ∧ w'.cell? ⟨gb187,4,none⟩ = some (.slice (some ad196) l0_4.length c0_4) ∧ w'.cell? ⟨gb187,5,none⟩ = some (.slice A0_5 l0_5.length c0_5) ∧ w'.cell? ⟨gb187,6,none⟩ = some (.slice A0_6 l0_6.length c0_6) ∧ w'.cell? (ad195.add ((x3_2).toNat * 5)) = some (.string ((riS37 l0_3 x3_2).f0)) ∧ w'.cell? ⟨(ad195.add ((x3_2).toNat * 5)).block,(ad195.add ((x3_2).toNat * 5)).off + 1,none⟩ = some (.string ((riS37 l0_3 x3_2).f1)) ∧ w'.cell? ⟨(ad195.add ((x3_2).toNat * 5)).block,(ad195.add ((x3_2).toNat * 5)).off + 2,none⟩ = some (.int .i64 ((riS37 l0_3 x3_2).f2)) ∧ w'.cell? ⟨(ad195.add ((x3_2).toNat * 5)).block,(ad195.add ((x3_2).toNat * 5)).off + 3,none⟩ = some (.bool ((riS37 l0_3 x3_2).f3)) ∧ w'.cell? ⟨(ad195.add ((x3_2).toNat * 5)).block,(ad195.add ((x3_2).toNat * 5)).off + 4,none⟩ = some (.int .i64 ((riS37 l0_3 x3_2).f4)) ∧ w'.cell? (ad196.add ((x3_2).toNat * 2)) = some (.string ((riU39 l0_4 x3_2).f0)) ∧ w'.cell? ⟨(ad196.add ((x3_2).toNat * 2)).block,(ad196.add ((x3_2).toNat * 2)).off + 1,none⟩ = some (.int .i64 ((riU39 l0_4 x3_2).f1)) ∧ w'.cell? (ad195.add ((x3_2).toNat * 5)) = some (.string ((riS37 l0_3 x3_2).f0)) ∧ w'.cell? ⟨(ad195.add ((x3_2).toNat * 5)).block,(ad195.add ((x3_2).toNat * 5)).off + 1,none⟩ = some (.string ((riS37 l0_3 x3_2).f1)) ∧ w'.cell? ⟨(ad195.add ((x3_2).toNat * 5)).block,(ad195.add ((x3_2).toNat * 5)).off + 2,none⟩ = some (.int .i64 ((riS37 l0_3 x3_2).f2)) ∧ w'.cell? ⟨(ad195.add ((x3_2).toNat * 5)).block,(ad195.add ((x3_2).toNat * 5)).off + 3,none⟩ = some (.bool ((riS37 l0_3 x3_2).f3)) ∧ w'.cell? ⟨(ad195.add ((x3_2).toNat * 5)).block,(ad195.add ((x3_2).toNat * 5)).off + 4,none⟩ = some (.int .i64 ((riS37 l0_3 x3_2).f4))) (ds:=[]) spec_ModelOk.calls.a0 (by kernel_rfl) rfl rfl ⟨(bkC BK187.out 0).trans rfl,(bkC BK187.out 1).trans rfl,(bkC BK187.out 2).trans rfl,(bkC BK187.out 3).trans rfl,(bkC BK187.out 4).trans rfl,(bkC BK187.out 5).trans rfl,(bkC BK187.out 6).trans rfl,((HB.out.cell (World.block_lt_of_cell? w _ hw195_0)).trans hw195_0),((HB.out.cell (World.block_lt_of_cell? w _ hw195_1)).trans hw195_1),((HB.out.cell (World.block_lt_of_cell? w _ hw195_2)).trans hw195_2),((HB.out.cell (World.block_lt_of_cell? w _ hw195_3)).trans hw195_3),((HB.out.cell (World.block_lt_of_cell? w _ hw195_4)).trans hw195_4),((HB.out.cell (World.block_lt_of_cell? w _ hw196_0)).trans hw196_0),((HB.out.cell (World.block_lt_of_cell? w _ hw196_1)).trans hw196_1),((HB.out.cell (World.block_lt_of_cell? w _ hw197_0)).trans hw197_0),((HB.out.cell (World.block_lt_of_cell? w _ hw197_1)).trans hw197_1),((HB.out.cell (World.block_lt_of_cell? w _ hw197_2)).trans hw197_2),((HB.out.cell (World.block_lt_of_cell? w _ hw197_3)).trans hw197_3),((HB.out.cell (World.block_lt_of_cell? w _ hw197_4)).trans hw197_4)⟩ (fun hHeld=>?_);refine with_tabW spec_ModelOk.tab6 spec_ModelOk.bits6 (fun HT_ HW_=>?_);generalize wr.drew = w45 at BK187 HB hx195_0 hx195_1 hx195_2 hx195_3 hx195_4 hx196_0 hx196_1 hx197_0 hx197_1 hx197_2 hx197_3 hx197_4 hHeld ⊢
                 refine pu 0 (some 53) spec_ModelOk.calls.a1 rfl rfl HT_.out ?_;refine pu 2 (some 55) spec_ModelOk.calls.a2 rfl rfl HT_.out ?_;refine pu 6 (some 59) spec_ModelOk.calls.a3 rfl rfl HT_.out ?_;refine tk 1 (some 54) spec_ModelOk.calls.a4 rfl rfl HT_.out HW_.out hHeld (by rintro w' ⟨s0,s1,s2,s3,s4,s5,s6,s7,s8,s9,s10,s11,s12,s13,s14,s15,s16,s17,s18⟩;go_simp;with_reducible rfl) ?_;refine pu 3 (some 56) spec_ModelOk.calls.a5 rfl rfl HT_.out ?_;refine pu 4 (some 57) spec_ModelOk.calls.a6 rfl rfl HT_.out ?_;refine tk 5 (some 58) spec_ModelOk.calls.a7 rfl rfl HT_.out HW_.out hHeld (by rintro w' ⟨s0,s1,s2,s3,s4,s5,s6,s7,s8,s9,s10,s11,s12,s13,s14,s15,s16,s17,s18⟩;go_simp;with_reducible rfl) ?_;refine tk 7 (some 60) spec_ModelOk.calls.a8 rfl rfl HT_.out HW_.out hHeld (by rintro w' ⟨s0,s1,s2,s3,s4,s5,s6,s7,s8,s9,s10,s11,s12,s13,s14,s15,s16,s17,s18⟩;go_simp;with_reducible rfl) ?_;refine pu 8 (some 61) spec_ModelOk.calls.a9 rfl rfl HT_.out ?_;refine pu 9 (some 62) spec_ModelOk.calls.a10 rfl rfl HT_.out ?_;refine pu 10 (some 63) spec_ModelOk.calls.a11 rfl rfl HT_.out ?_;refine pu 12 (some 65) spec_ModelOk.calls.a19 rfl rfl HT_.out ?_;refine pu 16 (some 69) spec_ModelOk.calls.a20 rfl rfl HT_.out ?_;refine pu 18 (some 71) spec_ModelOk.calls.a21 rfl rfl HT_.out ?_;refine pu 20 (some 73) spec_ModelOk.calls.a22 rfl rfl HT_.out ?_;refine pu 22 (some 75) spec_ModelOk.calls.a23 rfl rfl HT_.out ?_;refine tk 11 (some 64) spec_ModelOk.calls.a24 rfl rfl HT_.out HW_.out hHeld (by rintro w' ⟨s0,s1,s2,s3,s4,s5,s6,s7,s8,s9,s10,s11,s12,s13,s14,s15,s16,s17,s18⟩;go_simp;with_reducible rfl) ?_;refine pu 13 (some 66) spec_ModelOk.calls.a25 rfl rfl HT_.out ?_;refine pu 14 (some 67) spec_ModelOk.calls.a26 rfl rfl HT_.out ?_;refine tk 15 (some 68) spec_ModelOk.calls.a27 rfl rfl HT_.out HW_.out hHeld (by rintro w' ⟨s0,s1,s2,s3,s4,s5,s6,s7,s8,s9,s10,s11,s12,s13,s14,s15,s16,s17,s18⟩;go_simp;with_reducible rfl) ?_;refine tk 17 (some 70) spec_ModelOk.calls.a28 rfl rfl HT_.out HW_.out hHeld (by rintro w' ⟨s0,s1,s2,s3,s4,s5,s6,s7,s8,s9,s10,s11,s12,s13,s14,s15,s16,s17,s18⟩;go_simp;with_reducible rfl) ?_;refine tk 19 (some 72) spec_ModelOk.calls.a29 rfl rfl HT_.out HW_.out hHeld (by rintro w' ⟨s0,s1,s2,s3,s4,s5,s6,s7,s8,s9,s10,s11,s12,s13,s14,s15,s16,s17,s18⟩;go_simp;with_reducible rfl) ?_;refine tk 21 (some 74) spec_ModelOk.calls.a12 rfl rfl HT_.out HW_.out hHeld (by rintro w' ⟨s0,s1,s2,s3,s4,s5,s6,s7,s8,s9,s10,s11,s12,s13,s14,s15,s16,s17,s18⟩;go_simp;with_reducible rfl) ?_;refine pu 23 (some 76) spec_ModelOk.calls.a13 rfl rfl HT_.out ?_;refine pu 24 (some 77) spec_ModelOk.calls.a14 rfl rfl HT_.out ?_;refine tk 25 (some 78) spec_ModelOk.calls.a15 rfl rfl HT_.out HW_.out hHeld (by rintro w' ⟨s0,s1,s2,s3,s4,s5,s6,s7,s8,s9,s10,s11,s12,s13,s14,s15,s16,s17,s18⟩;go_simp;with_reducible rfl) ?_;refine one_ (i:=26) (N:=some 79) spec_ModelOk.calls.a16 rfl rfl (one_of HT_.out (by kernel_rfl)) (by decide) (fun K hK=>?_);refine goes_ Tryd.func18 (by kernel_rfl) rfl #[.slice (some ad195) l0_3.length c0_3,.slice A0_5 l0_5.length c0_5,.string ((riS37 l0_3 x3_2).f0)] (by rfl) rfl rfl (by (try simp only [List.map_toArray,List.map_cons,List.map_nil]);first|done|rfl|(simp only [List.length_drop,List.length_take];rfl)) ?_;with_reducible refine (spec_l8Sum.calls k2 _ _ l0_3 _ _ l0_5 ((riS37 l0_3 x3_2).f0) t198 _ ?side1 ?side2 ?side3 ?side4 A42.out).mono ?_
                 (case side1=>repeat (first|exact (Kd.C_below HR0_3.out HB.out)|(with_reducible first|refine Kd.C_alloc ?_ _|refine Kd.C_drewN ?_ _|refine Kd.C_drew ?_)))
                 (case side2=>exact HC0_3.out)
                 (case side3=>repeat (first|exact (Kd.C_below HR0_5.out HB.out)|(with_reducible first|refine Kd.C_alloc ?_ _|refine Kd.C_drewN ?_ _|refine Kd.C_drew ?_)))
                 (case side4=>exact HC0_5.out)
                 rintro e w46 ⟨rfl,hb⟩;refine ⟨_,rfl,?_⟩;replace BK187:=As0.mk (bb hb BK187.out);replace HB:=As0.mk (bsp (by repeat (first|(with_reducible first|exact HB.out|apply bal|apply pbN|apply bd1|refine bst ?_ GE187.out)|exact HB.out)) hb)
                      
                      
                      
                      
                 refine hK.out _ _ ⟨(bkC BK187.out 0).trans rfl,(bkC BK187.out 1).trans rfl,(bkC BK187.out 2).trans rfl,(bkC BK187.out 3).trans rfl,(bkC BK187.out 4).trans rfl,(bkC BK187.out 5).trans rfl,(bkC BK187.out 6).trans rfl,((HB.out.cell (World.block_lt_of_cell? w _ hw195_0)).trans hw195_0),((HB.out.cell (World.block_lt_of_cell? w _ hw195_1)).trans hw195_1),((HB.out.cell (World.block_lt_of_cell? w _ hw195_2)).trans hw195_2),((HB.out.cell (World.block_lt_of_cell? w _ hw195_3)).trans hw195_3),((HB.out.cell (World.block_lt_of_cell? w _ hw195_4)).trans hw195_4),((HB.out.cell (World.block_lt_of_cell? w _ hw196_0)).trans hw196_0),((HB.out.cell (World.block_lt_of_cell? w _ hw196_1)).trans hw196_1),((HB.out.cell (World.block_lt_of_cell? w _ hw197_0)).trans hw197_0),((HB.out.cell (World.block_lt_of_cell? w _ hw197_1)).trans hw197_1),((HB.out.cell (World.block_lt_of_cell? w _ hw197_2)).trans hw197_2),((HB.out.cell (World.block_lt_of_cell? w _ hw197_3)).trans hw197_3),((HB.out.cell (World.block_lt_of_cell? w _ hw197_4)).trans hw197_4)⟩ (fun hHeld=>?_);clear hK K;refine norm_ (a':=?_) ?_ ?_;rotate_left
                 · show Act.put _ (some 79) _ = _
                   simp only [Act.put,sA,sZ,sS,i64_w,i32_w];rfl
                 refine pu 27 (some 80) spec_ModelOk.calls.a17 rfl rfl HT_.out ?_;refine pu 28 (some 81) spec_ModelOk.calls.a18 rfl rfl HT_.out ?_;refine done_ (done_of HT_.out (by kernel_rfl)) ?_
                 try go_wp2
                 show _;go_roundg k2
                 case measure=>have:=HJ1.out;have:=HK2.out;omega
                 case rel=>exact ⟨(wrap64 (x3_2 + 1)),(by first|rfl|(simp;done)|(simp [*];done)),H',⟨by have:=HJ1.out;have:=HK2.out;omega⟩,⟨by (with_reducible repeat (first|refine bkN ?_ _|refine bkD ?_|refine bkA ?_ _));exact BK187.out⟩,⟨by repeat (first|(with_reducible first|exact HB.out|apply bal|apply pbN|apply bd1|refine bst ?_ GE187.out)|exact HB.out)⟩⟩
               · rw [if_neg c43] at H
                 have c43b0:(((riU39 l0_4 x3_2).f1) == t198) = false:=beq_eq_false_iff_ne.mpr c43;have c43b1:(((riU39 l0_4 x3_2).f1) != t198) = true:=bne_iff_ne.mpr c43;obtain rfl:=Option.some.inj H;obtain ⟨hcz47_0,hcz47_1,hcz47_2,hcz47_3,hcz47_4,hcz47_5,hcz47_6⟩:=qc7 BK187.out;obtain ⟨hfz47_0,hfz47_1,hfz47_2,hfz47_3,hfz47_4,hfz47_5,hfz47_6⟩:=qz7 BK187.out
                 try go_wp2
                 replace BK187:=As0.mk (bkD BK187.out);replace HB:=As0.mk (bd1 HB.out);have p195:0 ≤ (x3_2:Int):=odt;have q195:x3_2 < (l0_3.length:Int):=odt;obtain ⟨ad195,e195,hx195_0,hx195_1,hx195_2,hx195_3,hx195_4⟩:=at_T47 HR0_3.out x3_2 p195 q195;have hw195_4:=hx195_4;have hw195_3:=hx195_3;have hw195_2:=hx195_2;have hw195_1:=hx195_1;have hw195_0:=hx195_0
                 cases e195
                 replace hx195_0:=bx HB.out rfl hx195_0;replace hx195_1:=bx HB.out rfl hx195_1;replace hx195_2:=bx HB.out rfl hx195_2;replace hx195_3:=bx HB.out rfl hx195_3;replace hx195_4:=bx HB.out rfl hx195_4;replace p195:=eq_true p195;replace q195:=eq_true q195;have p196:0 ≤ (x3_2:Int):=odt;have q196:x3_2 < (l0_4.length:Int):=odt;obtain ⟨ad196,e196,hx196_0,hx196_1⟩:=at_T49 HR0_4.out x3_2 p196 q196;have hw196_1:=hx196_1;have hw196_0:=hx196_0
                 cases e196
                 replace hx196_0:=bx HB.out rfl hx196_0;replace hx196_1:=bx HB.out rfl hx196_1;replace p196:=eq_true p196;replace q196:=eq_true q196;have p197:0 ≤ (x3_2:Int):=odt;have q197:x3_2 < (l0_3.length:Int):=odt;obtain ⟨ad197,e197,hx197_0,hx197_1,hx197_2,hx197_3,hx197_4⟩:=at_T47 HR0_3.out x3_2 p197 q197;have hw197_4:=hx197_4;have hw197_3:=hx197_3;have hw197_2:=hx197_2;have hw197_1:=hx197_1;have hw197_0:=hx197_0;obtain rfl:ad195 = ad197:=(by injection e197);replace hx197_0:=bx HB.out rfl hx197_0;replace hx197_1:=bx HB.out rfl hx197_1;replace hx197_2:=bx HB.out rfl hx197_2;replace hx197_3:=bx HB.out rfl hx197_3;replace hx197_4:=bx HB.out rfl hx197_4;replace p197:=eq_true p197;replace q197:=eq_true q197;refine start_ (n:=29) (S:=fun w'=>w'.cell? ⟨gb187,0,none⟩ = some (.int .i64 a0_0) ∧ w'.cell? ⟨gb187,1,none⟩ = some (.int .i64 a0_1) ∧ w'.cell? ⟨gb187,2,none⟩ = some (.int .i64 a0_2) ∧ w'.cell? ⟨gb187,3,none⟩ = some (.slice (some ad195) l0_3.length c0_3) ∧ w'.cell? ⟨gb187,4,none⟩ = some (.slice (some ad196) l0_4.length c0_4) ∧ w'.cell? ⟨gb187,5,none⟩ = some (.slice A0_5 l0_5.length c0_5) ∧ w'.cell? ⟨gb187,6,none⟩ = some (.slice A0_6 l0_6.length c0_6) ∧ w'.cell? (ad195.add ((x3_2).toNat * 5)) = some (.string ((riS37 l0_3 x3_2).f0)) ∧ w'.cell? ⟨(ad195.add ((x3_2).toNat * 5)).block,(ad195.add ((x3_2).toNat * 5)).off + 1,none⟩ = some (.string ((riS37 l0_3 x3_2).f1)) ∧ w'.cell? ⟨(ad195.add ((x3_2).toNat * 5)).block,(ad195.add ((x3_2).toNat * 5)).off + 2,none⟩ = some (.int .i64 ((riS37 l0_3 x3_2).f2)) ∧ w'.cell? ⟨(ad195.add ((x3_2).toNat * 5)).block,(ad195.add ((x3_2).toNat * 5)).off + 3,none⟩ = some (.bool ((riS37 l0_3 x3_2).f3)) ∧ w'.cell? ⟨(ad195.add ((x3_2).toNat * 5)).block,(ad195.add ((x3_2).toNat * 5)).off + 4,none⟩ = some (.int .i64 ((riS37 l0_3 x3_2).f4)) ∧ w'.cell? (ad196.add ((x3_2).toNat * 2)) = some (.string ((riU39 l0_4 x3_2).f0)) ∧ w'.cell? ⟨(ad196.add ((x3_2).toNat * 2)).block,(ad196.add ((x3_2).toNat * 2)).off + 1,none⟩ = some (.int .i64 ((riU39 l0_4 x3_2).f1)) ∧ w'.cell? (ad195.add ((x3_2).toNat * 5)) = some (.string ((riS37 l0_3 x3_2).f0)) ∧ w'.cell? ⟨(ad195.add ((x3_2).toNat * 5)).block,(ad195.add ((x3_2).toNat * 5)).off + 1,none⟩ = some (.string ((riS37 l0_3 x3_2).f1)) ∧ w'.cell? ⟨(ad195.add ((x3_2).toNat * 5)).block,(ad195.add ((x3_2).toNat * 5)).off + 2,none⟩ = some (.int .i64 ((riS37 l0_3 x3_2).f2)) ∧ w'.cell? ⟨(ad195.add ((x3_2).toNat * 5)).block,(ad195.add ((x3_2).toNat * 5)).off + 3,none⟩ = some (.bool ((riS37 l0_3 x3_2).f3)) ∧ w'.cell? ⟨(ad195.add ((x3_2).toNat * 5)).block,(ad195.add ((x3_2).toNat * 5)).off + 4,none⟩ = some (.int .i64 ((riS37 l0_3 x3_2).f4))) (ds:=[]) spec_ModelOk.calls.a0 (by kernel_rfl) rfl rfl ⟨(bkC BK187.out 0).trans rfl,(bkC BK187.out 1).trans rfl,(bkC BK187.out 2).trans rfl,(bkC BK187.out 3).trans rfl,(bkC BK187.out 4).trans rfl,(bkC BK187.out 5).trans rfl,(bkC BK187.out 6).trans rfl,((HB.out.cell (World.block_lt_of_cell? w _ hw195_0)).trans hw195_0),((HB.out.cell (World.block_lt_of_cell? w _ hw195_1)).trans hw195_1),((HB.out.cell (World.block_lt_of_cell? w _ hw195_2)).trans hw195_2),((HB.out.cell (World.block_lt_of_cell? w _ hw195_3)).trans hw195_3),((HB.out.cell (World.block_lt_of_cell? w _ hw195_4)).trans hw195_4),((HB.out.cell (World.block_lt_of_cell? w _ hw196_0)).trans hw196_0),((HB.out.cell (World.block_lt_of_cell? w _ hw196_1)).trans hw196_1),((HB.out.cell (World.block_lt_of_cell? w _ hw197_0)).trans hw197_0),((HB.out.cell (World.block_lt_of_cell? w _ hw197_1)).trans hw197_1),((HB.out.cell (World.block_lt_of_cell? w _ hw197_2)).trans hw197_2),((HB.out.cell (World.block_lt_of_cell? w _ hw197_3)).trans hw197_3),((HB.out.cell (World.block_lt_of_cell? w _ hw197_4)).trans hw197_4)⟩ (fun hHeld=>?_);refine with_tabW spec_ModelOk.tab6 spec_ModelOk.bits6 (fun HT_ HW_=>?_);generalize wr.drew = w48 at BK187 HB hx195_0 hx195_1 hx195_2 hx195_3 hx195_4 hx196_0 hx196_1 hx197_0 hx197_1 hx197_2 hx197_3 hx197_4 hHeld ⊢
                 refine pu 0 (some 53) spec_ModelOk.calls.a1 rfl rfl HT_.out ?_;refine pu 2 (some 55) spec_ModelOk.calls.a2 rfl rfl HT_.out ?_;refine pu 6 (some 59) spec_ModelOk.calls.a3 rfl rfl HT_.out ?_;refine tk 1 (some 54) spec_ModelOk.calls.a4 rfl rfl HT_.out HW_.out hHeld (by rintro w' ⟨s0,s1,s2,s3,s4,s5,s6,s7,s8,s9,s10,s11,s12,s13,s14,s15,s16,s17,s18⟩;go_simp;with_reducible rfl) ?_;refine pu 3 (some 56) spec_ModelOk.calls.a5 rfl rfl HT_.out ?_;refine pu 4 (some 57) spec_ModelOk.calls.a6 rfl rfl HT_.out ?_;refine tk 5 (some 58) spec_ModelOk.calls.a7 rfl rfl HT_.out HW_.out hHeld (by rintro w' ⟨s0,s1,s2,s3,s4,s5,s6,s7,s8,s9,s10,s11,s12,s13,s14,s15,s16,s17,s18⟩;go_simp;with_reducible rfl) ?_;refine tk 7 (some 60) spec_ModelOk.calls.a8 rfl rfl HT_.out HW_.out hHeld (by rintro w' ⟨s0,s1,s2,s3,s4,s5,s6,s7,s8,s9,s10,s11,s12,s13,s14,s15,s16,s17,s18⟩;go_simp;with_reducible rfl) ?_;refine pu 8 (some 61) spec_ModelOk.calls.a9 rfl rfl HT_.out ?_;refine pu 9 (some 62) spec_ModelOk.calls.a10 rfl rfl HT_.out ?_;refine pu 10 (some 63) spec_ModelOk.calls.a11 rfl rfl HT_.out ?_;refine pu 12 (some 65) spec_ModelOk.calls.a19 rfl rfl HT_.out ?_;refine pu 16 (some 69) spec_ModelOk.calls.a20 rfl rfl HT_.out ?_;refine pu 18 (some 71) spec_ModelOk.calls.a21 rfl rfl HT_.out ?_;refine pu 20 (some 73) spec_ModelOk.calls.a22 rfl rfl HT_.out ?_;refine pu 22 (some 75) spec_ModelOk.calls.a23 rfl rfl HT_.out ?_;refine tk 11 (some 64) spec_ModelOk.calls.a24 rfl rfl HT_.out HW_.out hHeld (by rintro w' ⟨s0,s1,s2,s3,s4,s5,s6,s7,s8,s9,s10,s11,s12,s13,s14,s15,s16,s17,s18⟩;go_simp;with_reducible rfl) ?_;refine pu 13 (some 66) spec_ModelOk.calls.a25 rfl rfl HT_.out ?_;refine pu 14 (some 67) spec_ModelOk.calls.a26 rfl rfl HT_.out ?_;refine tk 15 (some 68) spec_ModelOk.calls.a27 rfl rfl HT_.out HW_.out hHeld (by rintro w' ⟨s0,s1,s2,s3,s4,s5,s6,s7,s8,s9,s10,s11,s12,s13,s14,s15,s16,s17,s18⟩;go_simp;with_reducible rfl) ?_;refine tk 17 (some 70) spec_ModelOk.calls.a28 rfl rfl HT_.out HW_.out hHeld (by rintro w' ⟨s0,s1,s2,s3,s4,s5,s6,s7,s8,s9,s10,s11,s12,s13,s14,s15,s16,s17,s18⟩;go_simp;with_reducible rfl) ?_;refine tk 19 (some 72) spec_ModelOk.calls.a29 rfl rfl HT_.out HW_.out hHeld (by rintro w' ⟨s0,s1,s2,s3,s4,s5,s6,s7,s8,s9,s10,s11,s12,s13,s14,s15,s16,s17,s18⟩;go_simp;with_reducible rfl) ?_;refine tk 21 (some 74) spec_ModelOk.calls.a12 rfl rfl HT_.out HW_.out hHeld (by rintro w' ⟨s0,s1,s2,s3,s4,s5,s6,s7,s8,s9,s10,s11,s12,s13,s14,s15,s16,s17,s18⟩;go_simp;with_reducible rfl) ?_;refine pu 23 (some 76) spec_ModelOk.calls.a13 rfl rfl HT_.out ?_;refine pu 24 (some 77) spec_ModelOk.calls.a14 rfl rfl HT_.out ?_;refine tk 25 (some 78) spec_ModelOk.calls.a15 rfl rfl HT_.out HW_.out hHeld (by rintro w' ⟨s0,s1,s2,s3,s4,s5,s6,s7,s8,s9,s10,s11,s12,s13,s14,s15,s16,s17,s18⟩;go_simp;with_reducible rfl) ?_;refine one_ (i:=26) (N:=some 79) spec_ModelOk.calls.a16 rfl rfl (one_of HT_.out (by kernel_rfl)) (by decide) (fun K hK=>?_);refine goes_ Tryd.func18 (by kernel_rfl) rfl #[.slice (some ad195) l0_3.length c0_3,.slice A0_5 l0_5.length c0_5,.string ((riS37 l0_3 x3_2).f0)] (by rfl) rfl rfl (by (try simp only [List.map_toArray,List.map_cons,List.map_nil]);first|done|rfl|(simp only [List.length_drop,List.length_take];rfl)) ?_;with_reducible refine (spec_l8Sum.calls k2 _ _ l0_3 _ _ l0_5 ((riS37 l0_3 x3_2).f0) t198 _ ?side1 ?side2 ?side3 ?side4 A42.out).mono ?_
                 (case side1=>repeat (first|exact (Kd.C_below HR0_3.out HB.out)|(with_reducible first|refine Kd.C_alloc ?_ _|refine Kd.C_drewN ?_ _|refine Kd.C_drew ?_)))
                 (case side2=>exact HC0_3.out)
                 (case side3=>repeat (first|exact (Kd.C_below HR0_5.out HB.out)|(with_reducible first|refine Kd.C_alloc ?_ _|refine Kd.C_drewN ?_ _|refine Kd.C_drew ?_)))
                 (case side4=>exact HC0_5.out)
                 rintro e w49 ⟨rfl,hb⟩;refine ⟨_,rfl,?_⟩;replace BK187:=As0.mk (bb hb BK187.out);replace HB:=As0.mk (bsp (by repeat (first|(with_reducible first|exact HB.out|apply bal|apply pbN|apply bd1|refine bst ?_ GE187.out)|exact HB.out)) hb)
                      
                      
                      
                      
                 refine hK.out _ _ ⟨(bkC BK187.out 0).trans rfl,(bkC BK187.out 1).trans rfl,(bkC BK187.out 2).trans rfl,(bkC BK187.out 3).trans rfl,(bkC BK187.out 4).trans rfl,(bkC BK187.out 5).trans rfl,(bkC BK187.out 6).trans rfl,((HB.out.cell (World.block_lt_of_cell? w _ hw195_0)).trans hw195_0),((HB.out.cell (World.block_lt_of_cell? w _ hw195_1)).trans hw195_1),((HB.out.cell (World.block_lt_of_cell? w _ hw195_2)).trans hw195_2),((HB.out.cell (World.block_lt_of_cell? w _ hw195_3)).trans hw195_3),((HB.out.cell (World.block_lt_of_cell? w _ hw195_4)).trans hw195_4),((HB.out.cell (World.block_lt_of_cell? w _ hw196_0)).trans hw196_0),((HB.out.cell (World.block_lt_of_cell? w _ hw196_1)).trans hw196_1),((HB.out.cell (World.block_lt_of_cell? w _ hw197_0)).trans hw197_0),((HB.out.cell (World.block_lt_of_cell? w _ hw197_1)).trans hw197_1),((HB.out.cell (World.block_lt_of_cell? w _ hw197_2)).trans hw197_2),((HB.out.cell (World.block_lt_of_cell? w _ hw197_3)).trans hw197_3),((HB.out.cell (World.block_lt_of_cell? w _ hw197_4)).trans hw197_4)⟩ (fun hHeld=>?_);clear hK K;refine norm_ (a':=?_) ?_ ?_;rotate_left
                 · show Act.put _ (some 79) _ = _
                   simp only [Act.put,sA,sZ,sS,i64_w,i32_w];rfl
                 refine pu 27 (some 80) spec_ModelOk.calls.a17 rfl rfl HT_.out ?_;refine pu 28 (some 81) spec_ModelOk.calls.a18 rfl rfl HT_.out ?_;refine done_ (done_of HT_.out (by kernel_rfl)) ?_
                 try go_wp2
                 go_ret
                 exact ⟨eW,by repeat (first|(with_reducible first|exact HB.out|apply bal|apply pbN|apply bd1|refine bst ?_ GE187.out)|exact HB.out)⟩
             · rw [if_neg c41] at H
               exact absurd H (by simp)
         · rw [if_neg c37] at H
           exact absurd H (by simp)
       · rw [if_neg c36] at H
         have c36b0:decide (x3_2 < (l0_3.length:Int)) = false:=decide_eq_false c36;clear c36;obtain rfl:=Option.some.inj H;obtain ⟨hcz50_0,hcz50_1,hcz50_2,hcz50_3,hcz50_4,hcz50_5,hcz50_6⟩:=qc7 BK187.out;obtain ⟨hfz50_0,hfz50_1,hfz50_2,hfz50_3,hfz50_4,hfz50_5,hfz50_6⟩:=qz7 BK187.out
         go_wp2
         go_ret
         exact ⟨eW,by repeat (first|(with_reducible first|exact HB.out|apply bal|apply pbN|apply bd1|refine bst ?_ GE187.out)|exact HB.out)⟩
def laws_toSpace.f (a0_0:ByteArray) (a0_1:ByteArray) (a0_2:Int) (a0_3:Bool) (a0_4:Int):Option (ByteArray × ByteArray × Int × Bool × Int):=some (a0_0,a0_1,a0_2,a0_3,a0_4)
set_option maxHeartbeats 40000000 in
set_option maxRecDepth 100000 in
theorem laws_toSpace.calls (a0_0:ByteArray) (a0_1:ByteArray) (a0_2:Int) (a0_3:Bool) (a0_4:Int) (r1:ByteArray) (r2:ByteArray) (r3:Int) (r4:Bool) (r5:Int) (w:World) (h:laws_toSpace.f a0_0 a0_1 a0_2 a0_3 a0_4 = some (r1,r2,r3,r4,r5)) :
 Calls Tryd.prog 39 #[.agg #[.string a0_0,.string a0_1,.int .i64 a0_2,.bool a0_3,.int .i64 a0_4]] w fun e w'=>e = .returned (.agg #[.string r1,.string r2,.int .i64 r3,.bool r4,.int .i64 r5]) ∧ Below w.heap.size w w':=by
 have hu60:=Tryd.underlying60;have hu47:=Tryd.underlying47;have HB:=As0.mk (Below.refl w.heap.size w);have H:(some (a0_0,a0_1,a0_2,a0_3,a0_4)) = some (r1,r2,r3,r4,r5):=h;clear h;simp only [Option.some.injEq,Prod.mk.injEq] at H;obtain ⟨rfl,rfl,rfl,rfl,rfl⟩:=H
 go_enter Tryd.func39,Tryd.ntmps39
 go_wp2_with (first|((with_reducible refine gate_dst (N:=1) rfl ?_);refine bE 1 #[.string a0_0,.string a0_1,.int .i64 a0_2,.bool a0_3,.int .i64 a0_4] 60 ?_;intro gb199 hg w2 hbox hb;have BK199:=As0.mk (hbox);have GW199:=As0.mk ((by rw [hg];exact (bsz (by repeat (first|(with_reducible first|exact HB.out|apply bal|apply pbN|apply bd1)|exact HB.out))):w.heap.size ≤ gb199));have GE199:=GW199;replace HB:=As0.mk (b3 HB.out hb);clear hb hbox hg)|((with_reducible refine gate_dst (N:=2) rfl ?_);refine bE 2 #[.string ⟨#[]⟩,.string ⟨#[]⟩,.int .i64 0,.bool false,.int .i64 0] 47 ?_;intro gb200 hg w3 hbox hb;have BK200:=As0.mk (hbox);have GW200:=As0.mk ((by rw [hg];exact (bsz (by repeat (first|(with_reducible first|exact HB.out|apply bal|apply pbN|apply bd1|refine bst ?_ GE199.out)|exact HB.out))):w.heap.size ≤ gb200));have GE200:=GW200;replace HB:=As0.mk (bsp (by repeat (first|(with_reducible first|exact HB.out|apply bal|apply pbN|apply bd1|refine bst ?_ GE199.out)|exact HB.out)) hb);have NB199_200:=As0.mk ((by rw [hg];exact Nat.ne_of_lt (blk_lt (g:=gb199) (o:=.cells #[.string a0_0,.string a0_1,.int .i64 a0_2,.bool a0_3,.int .i64 a0_4] 60 (0,0)) (by (with_reducible repeat (first|refine bkN ?_ _|refine bkD ?_|refine bkA ?_ _));exact BK199.out)):gb199 ≠ gb200));have NB200_199:=As0.mk (Ne.symm NB199_200.out);replace BK199:=As0.mk (bb hb BK199.out);clear hb hbox hg)|((with_reducible refine gate_dst (N:=3) rfl ?_);refine bE 3 #[.string ⟨#[]⟩,.string ⟨#[]⟩,.int .i64 0,.bool false,.int .i64 0] 47 ?_;intro gb201 hg w4 hbox hb;have BK201:=As0.mk (hbox);have GW201:=As0.mk ((by rw [hg];exact (bsz (by repeat (first|(with_reducible first|exact HB.out|apply bal|apply pbN|apply bd1|refine bst ?_ GE199.out|refine bst ?_ GE200.out)|exact HB.out))):w.heap.size ≤ gb201));have GE201:=GW201;replace HB:=As0.mk (bsp (by repeat (first|(with_reducible first|exact HB.out|apply bal|apply pbN|apply bd1|refine bst ?_ GE199.out|refine bst ?_ GE200.out)|exact HB.out)) hb);have NB199_201:=As0.mk ((by rw [hg];exact Nat.ne_of_lt (blk_lt (g:=gb199) (o:=.cells #[.string a0_0,.string a0_1,.int .i64 a0_2,.bool a0_3,.int .i64 a0_4] 60 (0,0)) (by (with_reducible repeat (first|refine bkN ?_ _|refine bkD ?_|refine bkA ?_ _));exact BK199.out)):gb199 ≠ gb201));have NB201_199:=As0.mk (Ne.symm NB199_201.out);replace BK199:=As0.mk (bb hb BK199.out);have NB200_201:=As0.mk ((by rw [hg];exact Nat.ne_of_lt (blk_lt (g:=gb200) (o:=.cells #[.string ⟨#[]⟩,.string ⟨#[]⟩,.int .i64 0,.bool false,.int .i64 0] 47 (0,0)) (by (with_reducible repeat (first|refine bkN ?_ _|refine bkD ?_|refine bkA ?_ _));exact BK200.out)):gb200 ≠ gb201));have NB201_200:=As0.mk (Ne.symm NB200_201.out);replace BK200:=As0.mk (bb hb BK200.out);clear hb hbox hg;have hnb5:=NB199_200.out;have hnc5:=NB200_199.out;have hnb6:=NB199_201.out;have hnc6:=NB201_199.out;obtain ⟨hcz7_0,hcz7_1,hcz7_2,hcz7_3,hcz7_4⟩:=qc5 BK199.out;obtain ⟨hfz7_0,hfz7_1,hfz7_2,hfz7_3,hfz7_4⟩:=qz5 BK199.out;have hnb8:=NB201_200.out;have hnc8:=NB200_201.out;obtain ⟨hcz9_0,hcz9_1,hcz9_2,hcz9_3,hcz9_4⟩:=qc5 BK201.out;obtain ⟨hfz9_0,hfz9_1,hfz9_2,hfz9_3,hfz9_4⟩:=qz5 BK201.out;obtain ⟨hcz10_0,hcz10_1,hcz10_2,hcz10_3,hcz10_4⟩:=qc5 BK200.out;obtain ⟨hfz10_0,hfz10_1,hfz10_2,hfz10_3,hfz10_4⟩:=qz5 BK200.out))
 refine bodyPost_ret (results_cell_row rfl _ _ gb200 47 #[.string a0_0,.string a0_1,.int .i64 a0_2,.bool a0_3,.int .i64 a0_4] (0,0) _ rfl (by (with_reducible repeat (first|refine bkN ?_ _|refine bkD ?_|refine bkA ?_ _));refine blk_put (cs:=#[.string a0_0,.string a0_1,.int .i64 a0_2,.bool a0_3,.int .i64 0]) ?_ 4 _ rfl;(with_reducible repeat (first|refine bkN ?_ _|refine bkD ?_|refine bkA ?_ _));refine blk_put (cs:=#[.string a0_0,.string a0_1,.int .i64 a0_2,.bool false,.int .i64 0]) ?_ 3 _ rfl;(with_reducible repeat (first|refine bkN ?_ _|refine bkD ?_|refine bkA ?_ _));refine blk_put (cs:=#[.string a0_0,.string a0_1,.int .i64 0,.bool false,.int .i64 0]) ?_ 2 _ rfl;(with_reducible repeat (first|refine bkN ?_ _|refine bkD ?_|refine bkA ?_ _));refine blk_put (cs:=#[.string a0_0,.string ⟨#[]⟩,.int .i64 0,.bool false,.int .i64 0]) ?_ 1 _ rfl;(with_reducible repeat (first|refine bkN ?_ _|refine bkD ?_|refine bkA ?_ _));refine blk_put (cs:=#[.string ⟨#[]⟩,.string ⟨#[]⟩,.int .i64 0,.bool false,.int .i64 0]) ?_ 0 _ rfl;(with_reducible repeat (first|refine bkN ?_ _|refine bkD ?_|refine bkA ?_ _));refine blk_far ?_ NB200_201.out _;(with_reducible repeat (first|refine bkN ?_ _|refine bkD ?_|refine bkA ?_ _));refine blk_far ?_ NB200_201.out _;(with_reducible repeat (first|refine bkN ?_ _|refine bkD ?_|refine bkA ?_ _));refine blk_far ?_ NB200_201.out _;(with_reducible repeat (first|refine bkN ?_ _|refine bkD ?_|refine bkA ?_ _));refine blk_far ?_ NB200_201.out _;(with_reducible repeat (first|refine bkN ?_ _|refine bkD ?_|refine bkA ?_ _));refine blk_far ?_ NB200_201.out _;(with_reducible repeat (first|refine bkN ?_ _|refine bkD ?_|refine bkA ?_ _));exact BK200.out) Tryd.underlying47 rfl (by kernel_rfl)) rfl ?_
 exact ⟨eW,by repeat (first|(with_reducible first|exact HB.out|apply bal|apply pbN|apply bd1|refine bst ?_ GE199.out|refine bst ?_ GE200.out|refine bst ?_ GE201.out)|exact HB.out)⟩
def laws_toSpaceS.l0:Nat → List (SlS33) → List (SiS28) → Int → Option ((List (SiS28)))
 |0,_,_,_=>none
 |k + 1,x0,x3,x4=>if x4 < (x0.length:Int) then (if 0 ≤ x4 then ((laws_toSpace.f ((rlS41 x0 x4).f0) ((rlS41 x0 x4).f1) ((rlS41 x0 x4).f2) ((rlS41 x0 x4).f3) ((rlS41 x0 x4).f4)).bind fun bt206=>(if x4 < (x3.length:Int) then (laws_toSpaceS.l0 k x0 (x3.set (x4:Int).toNat (⟨bt206.1,bt206.2.1,bt206.2.2.1,bt206.2.2.2.1,bt206.2.2.2.2⟩:SiS28)) (wrap64 (x4 + 1))) else (none))) else (none)) else (some x3)
def laws_toSpaceS.f (k:Nat) (l0:List (SlS33)):Option ((List (SiS28))):=if 0 ≤ (l0.length:Int) then (if ((l0.length:Int):Int).toNat ≤ 5026338869833 then (laws_toSpaceS.l0 k l0 (List.replicate ((l0.length:Int):Int).toNat ziS45) 0) else (none)) else (none)
set_option maxHeartbeats 40000000 in
set_option maxRecDepth 100000 in
theorem laws_toSpaceS.calls (k:Nat) (A0:Option Addr) (c0:Nat) (l0:List (SlS33)) (r:List (SiS28)) (w:World) (hr0:Kd.C k60 w A0 l0.length l0) (hc0:l0.length ≤ c0) (h:laws_toSpaceS.f k l0 = some r) :
 Calls Tryd.prog 19 #[.slice A0 l0.length c0] w fun e w'=>∃ v0_:Value,e = .returned (v0_) ∧ Kd.R k47 47 w' w.heap.size (fun _=>True) v0_ r ∧ Below w.heap.size w w':=by
 have hu60:=Tryd.underlying60;have hu47:=Tryd.underlying47;have HR0:=As0.mk hr0;have HC0:=As0.mk hc0;clear hr0 hc0;have HB:=As0.mk (Below.refl w.heap.size w);have H:(if 0 ≤ (l0.length:Int) then (if ((l0.length:Int):Int).toNat ≤ 5026338869833 then (laws_toSpaceS.l0 k l0 (List.replicate ((l0.length:Int):Int).toNat ziS45) 0) else (none)) else (none)) = some r:=h;clear h;by_cases c2:0 ≤ (l0.length:Int)
 · rw [if_pos c2] at H
   have c2b0:=eq_true c2;have c2b1:decide (0 ≤ (l0.length:Int)) = true:=decide_eq_true c2;clear c2;by_cases c3:((l0.length:Int):Int).toNat ≤ 5026338869833
   · rw [if_pos c3] at H
     have c3b0:=eq_true c3;have c3b1:decide (((l0.length:Int):Int).toNat ≤ 5026338869833) = true:=decide_eq_true c3
     (try (have c3xb1:=c3b1;simp only [Int.toNat_natCast] at c3xb1))
     clear c3;obtain ⟨y202,hy202⟩:∃ y_:List (SiS28),y_ = (List.replicate ((l0.length:Int):Int).toNat ziS45):=⟨_,rfl⟩;replace H:(laws_toSpaceS.l0 k l0 y202 0) = some r:=by first|(rw [hy202];with_reducible exact H)|(have H2_:=(Option.bind_some _ _).symm.trans H;rw [hy202];with_reducible exact H2_)|(have H2_:=(Option.bind_some _ _).symm.trans H;with_reducible exact H2_)|with_reducible exact H|(rw [hy202];exact H)|exact H
     have Ny202:=As0.mk hy202;clear hy202;have H':=As0.mk H;clear H
     go_enter Tryd.func19,Tryd.ntmps19
     go_wp2_with (first|((with_reducible refine gate_dst (N:=7) rfl ?_);refine Kd.R_make k47 _ 47 rfl (N:=7) rfl 30 _ _ rfl (l0.length:Int) rfl rfl Tryd.underlying30 (.agg #[(.string ⟨#[]⟩),(.string ⟨#[]⟩),(.int .i64 0),(.bool false),(.int .i64 0)]) 56 info47 rfl (by decide) (by omega) ziS45 (ok:=fun _=>True) (okp:=fun _=>True) (k47_mkM _ _ _ ziS45 ) (fun _ hk=>hk) trivial (odt) (Nat.le_trans (Nat.mul_le_mul_right _ (odt:(l0.length:Int).toNat ≤ 5026338869833)) (by omega)) (Below.refl _ _) (Nat.le_refl _) ?_;intro v203 w4 ho5 hb hg_ hnew_;clear hg_ hnew_;(first|rw [← Ny202.out] at ho5|(simp only [Int.reduceToNat] at ho5;rw [← Ny202.out] at ho5));have HO204:=As0.mk (Kd.R_lower ho5 (bsz (by repeat (first|(with_reducible first|exact HB.out|apply bal|apply pbN|apply bd1)|exact HB.out))));replace HB:=As0.mk (b3 HB.out hb);clear hb ho5))
     show _;go_loopg [4] k (fun kq v4 w'=>∃ (x3_1:List (SiS28)) (x4_1:Int),v4 = .int .i64 x4_1 ∧ As0 (laws_toSpaceS.l0 kq l0 x3_1 x4_1 = some r) ∧ As0 (kq ≤ k) ∧ As0 (Kd.R k47 47 w' w.heap.size (fun _=>True) v203 x3_1) ∧ As0 (Below w.heap.size w w'))
     case atStart=>exact ⟨(y202),(0),(by first|rfl|(simp;done)|(simp [*];done)),H',⟨Nat.le_refl _⟩,⟨by (with_reducible repeat (first|apply Kd.Ral|apply Kd.RdN|apply Kd.R_drew));exact HO204.out⟩,⟨by repeat (first|(with_reducible first|exact HB.out|apply bal|apply pbN|apply bd1)|exact HB.out)⟩⟩
     case round=>
      clear H'
      try clear c1
      try clear c2
      try clear c2b0
      try clear c2b1
      try clear p2
      try clear c3
      try clear c3b0
      try clear c3b1
      obtain ⟨x3_1,x4_1,rfl,HA,HK1,HO_3,HB⟩:=hrel
      cases gk with
      |zero=>exact absurd HA.out (by simp [laws_toSpaceS.l0])
      |succ k1=>
       have H:=HA.out;clear HA;simp only [laws_toSpaceS.l0] at H;by_cases c6:x4_1 < (l0.length:Int)
       · rw [if_pos c6] at H
         have c6b0:decide (x4_1 < (l0.length:Int)) = true:=decide_eq_true c6;clear c6;by_cases c7:0 ≤ x4_1
         · rw [if_pos c7] at H
           have c7b0:decide (0 ≤ x4_1) = true:=decide_eq_true c7;clear c7;replace H:=Option.bind_eq_some_iff.mp H;obtain ⟨⟨t206,t207,t208,t209,t210⟩,A80,H⟩:=H;(try dsimp only at H);have A8:=As0.mk A80;clear A80;by_cases c9:x4_1 < (x3_1.length:Int)
           · rw [if_pos c9] at H
             have c9b0:decide (x4_1 < (x3_1.length:Int)) = true:=decide_eq_true c9;clear c9;obtain ⟨y211,hy211⟩:∃ y_:List (SiS28),y_ = (x3_1.set (x4_1:Int).toNat (⟨t206,t207,t208,t209,t210⟩:SiS28)):=⟨_,rfl⟩;replace H:(laws_toSpaceS.l0 k1 l0 y211 (wrap64 (x4_1 + 1))) = some r:=by first|(rw [hy211];with_reducible exact H)|(have H2_:=(Option.bind_some _ _).symm.trans H;rw [hy211];with_reducible exact H2_)|(have H2_:=(Option.bind_some _ _).symm.trans H;with_reducible exact H2_)|with_reducible exact H|(rw [hy211];exact H)|exact H
             have Ny211:=As0.mk hy211;clear hy211;have H':=As0.mk H;clear H;have p205:0 ≤ (x4_1:Int):=odt;have q205:x4_1 < (l0.length:Int):=odt;obtain ⟨ad205,e205,hx205_0,hx205_1,hx205_2,hx205_3,hx205_4⟩:=at_T60 HR0.out x4_1 p205 q205
             cases e205
             replace hx205_0:=bx HB.out rfl hx205_0;replace hx205_1:=bx HB.out rfl hx205_1;replace hx205_2:=bx HB.out rfl hx205_2;replace hx205_3:=bx HB.out rfl hx205_3;replace hx205_4:=bx HB.out rfl hx205_4;replace p205:=eq_true p205;replace q205:=eq_true q205
             go_wp2_with (first|((with_reducible refine gca (f:=39) rfl ?_);refine gL (some 20) Tryd.func39 #[.agg #[.string ((rlS41 l0 x4_1).f0),.string ((rlS41 l0 x4_1).f1),.int .i64 ((rlS41 l0 x4_1).f2),.bool ((rlS41 l0 x4_1).f3),.int .i64 ((rlS41 l0 x4_1).f4)]] ?_;(with_reducible refine (laws_toSpace.calls ((rlS41 l0 x4_1).f0) ((rlS41 l0 x4_1).f1) ((rlS41 l0 x4_1).f2) ((rlS41 l0 x4_1).f3) ((rlS41 l0 x4_1).f4) t206 t207 t208 t209 t210 _ A8.out).mono ?_);rintro e w11 ⟨rfl,hb⟩;refine ⟨_,rfl,?_⟩;replace HO_3:=As0.mk (Kd.R_below (by (with_reducible repeat (first|apply Kd.Ral|apply Kd.RdN|apply Kd.R_drew));exact HO_3.out) hb);replace HB:=As0.mk (b3 HB.out hb);clear hb;have p10:0 ≤ (x4_1:Int):=odt;have q10:(x4_1:Int) < ((x3_1.length:Int):Int):=odt;obtain ⟨go10,co10,eo10,gb10,gl10,cl10,HG10⟩:=Kd.R_form HO_3.out (by omega);(first|cases eo10|(injection eo10 with ea_ en_ ec_;(first|subst ea_|(injection ea_ with ea_;subst ea_));subst ec_;clear en_));have GB10:=As0.mk gb10;have GG10:=As0.mk HG10;clear gb10 gl10 HG10;obtain ⟨ce10,hcl10,hM10,hcc10,hfr10⟩:=Kd.R_elem HO_3.out ziS45 (x4_1:Int) p10 q10;obtain rfl:=k47_openM hM10;have hx10_0:w11.cell? ⟨go10,(x4_1:Int).toNat * 5,none⟩ = some (.string ((riS37 x3_1 x4_1).f0)):=hcc10 0 _ rfl;have hx10_1:w11.cell? ⟨go10,(x4_1:Int).toNat * 5 + 1,none⟩ = some (.string ((riS37 x3_1 x4_1).f1)):=hcc10 1 _ rfl;have hx10_2:w11.cell? ⟨go10,(x4_1:Int).toNat * 5 + 2,none⟩ = some (.int .i64 ((riS37 x3_1 x4_1).f2)):=hcc10 2 _ rfl;have hx10_3:w11.cell? ⟨go10,(x4_1:Int).toNat * 5 + 3,none⟩ = some (.bool ((riS37 x3_1 x4_1).f3)):=hcc10 3 _ rfl;have hx10_4:w11.cell? ⟨go10,(x4_1:Int).toNat * 5 + 4,none⟩ = some (.int .i64 ((riS37 x3_1 x4_1).f4)):=hcc10 4 _ rfl;have hf10_0:w11.frozen? ⟨go10,(x4_1:Int).toNat * 5,none⟩ = false:=hfr10 0;have hf10_1:w11.frozen? ⟨go10,(x4_1:Int).toNat * 5 + 1,none⟩ = false:=hfr10 1;have hf10_2:w11.frozen? ⟨go10,(x4_1:Int).toNat * 5 + 2,none⟩ = false:=hfr10 2;have hf10_3:w11.frozen? ⟨go10,(x4_1:Int).toNat * 5 + 3,none⟩ = false:=hfr10 3;have hf10_4:w11.frozen? ⟨go10,(x4_1:Int).toNat * 5 + 4,none⟩ = false:=hfr10 4;clear hcl10 hcc10 hfr10 hM10;replace p10:=eq_true p10;replace q10:=eq_true q10;have HX12:=As0.mk (show Kd.R k47 47 w11 w.heap.size (fun _=>True) (.slice (some ⟨go10,0,none⟩) x3_1.length co10) x3_1 from (by (with_reducible repeat (first|apply Kd.Ral|apply Kd.RdN|apply Kd.R_drew));exact HO_3.out));obtain ⟨ce12,hcl12,hM12,hcc12,hfr12⟩:=Kd.R_elem HX12.out ziS45 (x4_1:Int) (odt) (by have h_:(x4_1:Int) < ((x3_1.length:Int):Int):=odt;first|exact h_|(have e_:=(Kd.R_reads' HO_3.out).1;omega)|simpa using h_);obtain rfl:=k47_openM hM12;have HP12:=Kd.R_seg HX12.out (x4_1:Int) (odt) (by have h_:(x4_1:Int) < ((x3_1.length:Int):Int):=odt;first|exact h_|(have e_:=(Kd.R_reads' HO_3.out).1;omega)|simpa using h_) (seg:=[.string t206,.string t207,.int .i64 t208,.bool t209,.int .i64 t210]) (j:=0) hcl12 hcc12 (show 5 ≤ 5 from by decide) (x':=(⟨t206,t207,t208,t209,t210⟩:SiS28)) (k47_mkM _ _ _ (⟨t206,t207,t208,t209,t210⟩:SiS28) ) (fun _ hk=>hk);have hx12_0:=hcc12 0 _ rfl;(try simp only [show (k47).sz = 5 from rfl,Nat.mul_one,Nat.add_zero] at hx12_0);have hf12_0:=hfr12 0;(try simp only [show (k47).sz = 5 from rfl,Nat.mul_one,Nat.add_zero] at hf12_0);have hx12_1:=hcc12 1 _ rfl;(try simp only [show (k47).sz = 5 from rfl,Nat.mul_one,Nat.add_zero] at hx12_1);have hf12_1:=hfr12 1;(try simp only [show (k47).sz = 5 from rfl,Nat.mul_one,Nat.add_zero] at hf12_1);have hx12_2:=hcc12 2 _ rfl;(try simp only [show (k47).sz = 5 from rfl,Nat.mul_one,Nat.add_zero] at hx12_2);have hf12_2:=hfr12 2;(try simp only [show (k47).sz = 5 from rfl,Nat.mul_one,Nat.add_zero] at hf12_2);have hx12_3:=hcc12 3 _ rfl;(try simp only [show (k47).sz = 5 from rfl,Nat.mul_one,Nat.add_zero] at hx12_3);have hf12_3:=hfr12 3;(try simp only [show (k47).sz = 5 from rfl,Nat.mul_one,Nat.add_zero] at hf12_3);have hx12_4:=hcc12 4 _ rfl;(try simp only [show (k47).sz = 5 from rfl,Nat.mul_one,Nat.add_zero] at hx12_4);have hf12_4:=hfr12 4;(try simp only [show (k47).sz = 5 from rfl,Nat.mul_one,Nat.add_zero] at hf12_4);clear hcl12 hcc12 hfr12 hM12)|((with_reducible refine gate_store (t:=47) (p:=21) rfl ?_);refine store_event (t:=47) (p:=21) (v:=?vo_w13) (w1:=(((((w11.setCell ⟨go10,(x4_1:Int).toNat * 5,none⟩ (.string t206)).setCell ⟨go10,(x4_1:Int).toNat * 5 + 1,none⟩ (.string t207)).setCell ⟨go10,(x4_1:Int).toNat * 5 + 2,none⟩ (.int .i64 t208)).setCell ⟨go10,(x4_1:Int).toNat * 5 + 3,none⟩ (.bool t209)).setCell ⟨go10,(x4_1:Int).toNat * 5 + 4,none⟩ (.int .i64 t210))) ?hg ?ho ?hn ?hr ?_;(case ho=>rfl);(case hg=>rfl);(case hn=>rfl);(case hr=>first|(go_simp;done)|(go_simp;rfl));intro w13 hw;have hg:w11.grownBy w13 (some go10):=(by rw [hw];exact HP12.2);have hp_:Kd.R k47 47 w13 w.heap.size (fun _=>True) (.slice (some ⟨go10,0,none⟩) x3_1.length co10) y211:=(by rw [hw,Ny211.out];exact HP12.1);clear HP12;replace HO_3:=As0.mk (hp_);replace HB:=As0.mk ((by rw [hw];exact bst (bst (bst (bst (bst (HB.out) GB10.out) GB10.out) GB10.out) GB10.out) GB10.out:Below w.heap.size w w13));clear hg hw hp_))
             show _;go_roundg k1
             case measure=>have:=HK1.out;omega
             case rel=>exact ⟨(y211),(wrap64 (x4_1 + 1)),(by first|rfl|(simp;done)|(simp [*];done)),H',⟨by have:=HK1.out;omega⟩,⟨by (with_reducible repeat (first|apply Kd.Ral|apply Kd.RdN|apply Kd.R_drew));exact HO_3.out⟩,⟨by repeat (first|(with_reducible first|exact HB.out|apply bal|apply pbN|apply bd1)|exact HB.out)⟩⟩
           · rw [if_neg c9] at H
             exact absurd H (by simp)
         · rw [if_neg c7] at H
           exact absurd H (by simp)
       · rw [if_neg c6] at H
         have c6b0:decide (x4_1 < (l0.length:Int)) = false:=decide_eq_false c6;clear c6;obtain rfl:=Option.some.inj H
         go_wp2
         go_ret
         exact ⟨_,by first|rfl|(simp [errW_none,errW_some] <;> rfl)|(simp [*,errW_none,errW_some] <;> rfl),by (with_reducible repeat (first|apply Kd.Ral|apply Kd.RdN|apply Kd.R_drew));exact HO_3.out,by repeat (first|(with_reducible first|exact HB.out|apply bal|apply pbN|apply bd1)|exact HB.out)⟩
   · rw [if_neg c3] at H
     exact absurd H (by simp)
 · rw [if_neg c2] at H
   exact absurd H (by simp)
def laws_toUse.f (a0_0:ByteArray) (a0_1:Int):Option (ByteArray × Int):=some (a0_0,a0_1)
set_option maxHeartbeats 40000000 in
set_option maxRecDepth 100000 in
theorem laws_toUse.calls (a0_0:ByteArray) (a0_1:Int) (r1:ByteArray) (r2:Int) (w:World) (h:laws_toUse.f a0_0 a0_1 = some (r1,r2)) :
 Calls Tryd.prog 40 #[.agg #[.string a0_0,.int .i64 a0_1]] w fun e w'=>e = .returned (.agg #[.string r1,.int .i64 r2]) ∧ Below w.heap.size w w':=by
 have hu62:=Tryd.underlying62;have hu49:=Tryd.underlying49;have HB:=As0.mk (Below.refl w.heap.size w);have H:(some (a0_0,a0_1)) = some (r1,r2):=h;clear h;simp only [Option.some.injEq,Prod.mk.injEq] at H;obtain ⟨rfl,rfl⟩:=H
 go_enter Tryd.func40,Tryd.ntmps40
 go_wp2_with (first|((with_reducible refine gate_dst (N:=1) rfl ?_);refine bE 1 #[.string a0_0,.int .i64 a0_1] 62 ?_;intro gb212 hg w2 hbox hb;have BK212:=As0.mk (hbox);have GW212:=As0.mk ((by rw [hg];exact (bsz (by repeat (first|(with_reducible first|exact HB.out|apply bal|apply pbN|apply bd1)|exact HB.out))):w.heap.size ≤ gb212));have GE212:=GW212;replace HB:=As0.mk (b3 HB.out hb);clear hb hbox hg)|((with_reducible refine gate_dst (N:=2) rfl ?_);refine bE 2 #[.string ⟨#[]⟩,.int .i64 0] 49 ?_;intro gb213 hg w3 hbox hb;have BK213:=As0.mk (hbox);have GW213:=As0.mk ((by rw [hg];exact (bsz (by repeat (first|(with_reducible first|exact HB.out|apply bal|apply pbN|apply bd1|refine bst ?_ GE212.out)|exact HB.out))):w.heap.size ≤ gb213));have GE213:=GW213;replace HB:=As0.mk (bsp (by repeat (first|(with_reducible first|exact HB.out|apply bal|apply pbN|apply bd1|refine bst ?_ GE212.out)|exact HB.out)) hb);have NB212_213:=As0.mk ((by rw [hg];exact Nat.ne_of_lt (blk_lt (g:=gb212) (o:=.cells #[.string a0_0,.int .i64 a0_1] 62 (0,0)) (by (with_reducible repeat (first|refine bkN ?_ _|refine bkD ?_|refine bkA ?_ _));exact BK212.out)):gb212 ≠ gb213));have NB213_212:=As0.mk (Ne.symm NB212_213.out);replace BK212:=As0.mk (bb hb BK212.out);clear hb hbox hg)|((with_reducible refine gate_dst (N:=3) rfl ?_);refine bE 3 #[.string ⟨#[]⟩,.int .i64 0] 49 ?_;intro gb214 hg w4 hbox hb;have BK214:=As0.mk (hbox);have GW214:=As0.mk ((by rw [hg];exact (bsz (by repeat (first|(with_reducible first|exact HB.out|apply bal|apply pbN|apply bd1|refine bst ?_ GE212.out|refine bst ?_ GE213.out)|exact HB.out))):w.heap.size ≤ gb214));have GE214:=GW214;replace HB:=As0.mk (bsp (by repeat (first|(with_reducible first|exact HB.out|apply bal|apply pbN|apply bd1|refine bst ?_ GE212.out|refine bst ?_ GE213.out)|exact HB.out)) hb);have NB212_214:=As0.mk ((by rw [hg];exact Nat.ne_of_lt (blk_lt (g:=gb212) (o:=.cells #[.string a0_0,.int .i64 a0_1] 62 (0,0)) (by (with_reducible repeat (first|refine bkN ?_ _|refine bkD ?_|refine bkA ?_ _));exact BK212.out)):gb212 ≠ gb214));have NB214_212:=As0.mk (Ne.symm NB212_214.out);replace BK212:=As0.mk (bb hb BK212.out);have NB213_214:=As0.mk ((by rw [hg];exact Nat.ne_of_lt (blk_lt (g:=gb213) (o:=.cells #[.string ⟨#[]⟩,.int .i64 0] 49 (0,0)) (by (with_reducible repeat (first|refine bkN ?_ _|refine bkD ?_|refine bkA ?_ _));exact BK213.out)):gb213 ≠ gb214));have NB214_213:=As0.mk (Ne.symm NB213_214.out);replace BK213:=As0.mk (bb hb BK213.out);clear hb hbox hg;have hnb5:=NB212_213.out;have hnc5:=NB213_212.out;have hnb6:=NB212_214.out;have hnc6:=NB214_212.out;obtain ⟨hcz7_0,hcz7_1⟩:=qc2 BK212.out;obtain ⟨hfz7_0,hfz7_1⟩:=qz2 BK212.out;have hnb8:=NB214_213.out;have hnc8:=NB213_214.out;obtain ⟨hcz9_0,hcz9_1⟩:=qc2 BK214.out;obtain ⟨hfz9_0,hfz9_1⟩:=qz2 BK214.out;obtain ⟨hcz10_0,hcz10_1⟩:=qc2 BK213.out;obtain ⟨hfz10_0,hfz10_1⟩:=qz2 BK213.out))
 refine bodyPost_ret (results_cell_row rfl _ _ gb213 49 #[.string a0_0,.int .i64 a0_1] (0,0) _ rfl (by (with_reducible repeat (first|refine bkN ?_ _|refine bkD ?_|refine bkA ?_ _));refine blk_put (cs:=#[.string a0_0,.int .i64 0]) ?_ 1 _ rfl;(with_reducible repeat (first|refine bkN ?_ _|refine bkD ?_|refine bkA ?_ _));refine blk_put (cs:=#[.string ⟨#[]⟩,.int .i64 0]) ?_ 0 _ rfl;(with_reducible repeat (first|refine bkN ?_ _|refine bkD ?_|refine bkA ?_ _));refine blk_far ?_ NB213_214.out _;(with_reducible repeat (first|refine bkN ?_ _|refine bkD ?_|refine bkA ?_ _));refine blk_far ?_ NB213_214.out _;(with_reducible repeat (first|refine bkN ?_ _|refine bkD ?_|refine bkA ?_ _));exact BK213.out) Tryd.underlying49 rfl (by kernel_rfl)) rfl ?_
 exact ⟨eW,by repeat (first|(with_reducible first|exact HB.out|apply bal|apply pbN|apply bd1|refine bst ?_ GE212.out|refine bst ?_ GE213.out|refine bst ?_ GE214.out)|exact HB.out)⟩
def laws_toUseS.l0:Nat → List (SlU35) → List (SiU30) → Int → Option ((List (SiU30)))
 |0,_,_,_=>none
 |k + 1,x0,x3,x4=>if x4 < (x0.length:Int) then (if 0 ≤ x4 then ((laws_toUse.f ((rlU43 x0 x4).f0) ((rlU43 x0 x4).f1)).bind fun bt219=>(if x4 < (x3.length:Int) then (laws_toUseS.l0 k x0 (x3.set (x4:Int).toNat (⟨bt219.1,bt219.2⟩:SiU30)) (wrap64 (x4 + 1))) else (none))) else (none)) else (some x3)
def laws_toUseS.f (k:Nat) (l0:List (SlU35)):Option ((List (SiU30))):=if 0 ≤ (l0.length:Int) then (if ((l0.length:Int):Int).toNat ≤ 11728124029610 then (laws_toUseS.l0 k l0 (List.replicate ((l0.length:Int):Int).toNat ziU47) 0) else (none)) else (none)
set_option maxHeartbeats 40000000 in
set_option maxRecDepth 100000 in
theorem laws_toUseS.calls (k:Nat) (A0:Option Addr) (c0:Nat) (l0:List (SlU35)) (r:List (SiU30)) (w:World) (hr0:Kd.C k62 w A0 l0.length l0) (hc0:l0.length ≤ c0) (h:laws_toUseS.f k l0 = some r) :
 Calls Tryd.prog 20 #[.slice A0 l0.length c0] w fun e w'=>∃ v0_:Value,e = .returned (v0_) ∧ Kd.R k49 49 w' w.heap.size (fun _=>True) v0_ r ∧ Below w.heap.size w w':=by
 have hu62:=Tryd.underlying62;have hu49:=Tryd.underlying49;have HR0:=As0.mk hr0;have HC0:=As0.mk hc0;clear hr0 hc0;have HB:=As0.mk (Below.refl w.heap.size w);have H:(if 0 ≤ (l0.length:Int) then (if ((l0.length:Int):Int).toNat ≤ 11728124029610 then (laws_toUseS.l0 k l0 (List.replicate ((l0.length:Int):Int).toNat ziU47) 0) else (none)) else (none)) = some r:=h;clear h;by_cases c2:0 ≤ (l0.length:Int)
 · rw [if_pos c2] at H
   have c2b0:=eq_true c2;have c2b1:decide (0 ≤ (l0.length:Int)) = true:=decide_eq_true c2;clear c2;by_cases c3:((l0.length:Int):Int).toNat ≤ 11728124029610
   · rw [if_pos c3] at H
     have c3b0:=eq_true c3;have c3b1:decide (((l0.length:Int):Int).toNat ≤ 11728124029610) = true:=decide_eq_true c3
     (try (have c3xb1:=c3b1;simp only [Int.toNat_natCast] at c3xb1))
     clear c3;obtain ⟨y215,hy215⟩:∃ y_:List (SiU30),y_ = (List.replicate ((l0.length:Int):Int).toNat ziU47):=⟨_,rfl⟩;replace H:(laws_toUseS.l0 k l0 y215 0) = some r:=by first|(rw [hy215];with_reducible exact H)|(have H2_:=(Option.bind_some _ _).symm.trans H;rw [hy215];with_reducible exact H2_)|(have H2_:=(Option.bind_some _ _).symm.trans H;with_reducible exact H2_)|with_reducible exact H|(rw [hy215];exact H)|exact H
     have Ny215:=As0.mk hy215;clear hy215;have H':=As0.mk H;clear H
     go_enter Tryd.func20,Tryd.ntmps20
     go_wp2_with (first|((with_reducible refine gate_dst (N:=7) rfl ?_);refine Kd.R_make k49 _ 49 rfl (N:=7) rfl 31 _ _ rfl (l0.length:Int) rfl rfl Tryd.underlying31 (.agg #[(.string ⟨#[]⟩),(.int .i64 0)]) 24 info49 rfl (by decide) (by omega) ziU47 (ok:=fun _=>True) (okp:=fun _=>True) (k49_mkM _ _ _ ziU47 ) (fun _ hk=>hk) trivial (odt) (Nat.le_trans (Nat.mul_le_mul_right _ (odt:(l0.length:Int).toNat ≤ 11728124029610)) (by omega)) (Below.refl _ _) (Nat.le_refl _) ?_;intro v216 w4 ho5 hb hg_ hnew_;clear hg_ hnew_;(first|rw [← Ny215.out] at ho5|(simp only [Int.reduceToNat] at ho5;rw [← Ny215.out] at ho5));have HO217:=As0.mk (Kd.R_lower ho5 (bsz (by repeat (first|(with_reducible first|exact HB.out|apply bal|apply pbN|apply bd1)|exact HB.out))));replace HB:=As0.mk (b3 HB.out hb);clear hb ho5))
     show _;go_loopg [4] k (fun kq v4 w'=>∃ (x3_1:List (SiU30)) (x4_1:Int),v4 = .int .i64 x4_1 ∧ As0 (laws_toUseS.l0 kq l0 x3_1 x4_1 = some r) ∧ As0 (kq ≤ k) ∧ As0 (Kd.R k49 49 w' w.heap.size (fun _=>True) v216 x3_1) ∧ As0 (Below w.heap.size w w'))
     case atStart=>exact ⟨(y215),(0),(by first|rfl|(simp;done)|(simp [*];done)),H',⟨Nat.le_refl _⟩,⟨by (with_reducible repeat (first|apply Kd.Ral|apply Kd.RdN|apply Kd.R_drew));exact HO217.out⟩,⟨by repeat (first|(with_reducible first|exact HB.out|apply bal|apply pbN|apply bd1)|exact HB.out)⟩⟩
     case round=>
      clear H'
      try clear c2
      try clear c2b0
      try clear c2b1
      try clear p2
      try clear c3
      try clear c3b0
      try clear c3b1
      obtain ⟨x3_1,x4_1,rfl,HA,HK1,HO_3,HB⟩:=hrel
      cases gk with
      |zero=>exact absurd HA.out (by simp [laws_toUseS.l0])
      |succ k1=>
       have H:=HA.out;clear HA;simp only [laws_toUseS.l0] at H;by_cases c6:x4_1 < (l0.length:Int)
       · rw [if_pos c6] at H
         have c6b0:decide (x4_1 < (l0.length:Int)) = true:=decide_eq_true c6;clear c6;by_cases c7:0 ≤ x4_1
         · rw [if_pos c7] at H
           have c7b0:decide (0 ≤ x4_1) = true:=decide_eq_true c7;clear c7;replace H:=Option.bind_eq_some_iff.mp H;obtain ⟨⟨t219,t220⟩,A80,H⟩:=H;(try dsimp only at H);have A8:=As0.mk A80;clear A80;by_cases c9:x4_1 < (x3_1.length:Int)
           · rw [if_pos c9] at H
             have c9b0:decide (x4_1 < (x3_1.length:Int)) = true:=decide_eq_true c9;clear c9;obtain ⟨y221,hy221⟩:∃ y_:List (SiU30),y_ = (x3_1.set (x4_1:Int).toNat (⟨t219,t220⟩:SiU30)):=⟨_,rfl⟩;replace H:(laws_toUseS.l0 k1 l0 y221 (wrap64 (x4_1 + 1))) = some r:=by first|(rw [hy221];with_reducible exact H)|(have H2_:=(Option.bind_some _ _).symm.trans H;rw [hy221];with_reducible exact H2_)|(have H2_:=(Option.bind_some _ _).symm.trans H;with_reducible exact H2_)|with_reducible exact H|(rw [hy221];exact H)|exact H
             have Ny221:=As0.mk hy221;clear hy221;have H':=As0.mk H;clear H;have p218:0 ≤ (x4_1:Int):=odt;have q218:x4_1 < (l0.length:Int):=odt;obtain ⟨ad218,e218,hx218_0,hx218_1⟩:=at_T62 HR0.out x4_1 p218 q218
             cases e218
             replace hx218_0:=bx HB.out rfl hx218_0;replace hx218_1:=bx HB.out rfl hx218_1;replace p218:=eq_true p218;replace q218:=eq_true q218
             go_wp2_with (first|((with_reducible refine gca (f:=40) rfl ?_);refine gL (some 20) Tryd.func40 #[.agg #[.string ((rlU43 l0 x4_1).f0),.int .i64 ((rlU43 l0 x4_1).f1)]] ?_;(with_reducible refine (laws_toUse.calls ((rlU43 l0 x4_1).f0) ((rlU43 l0 x4_1).f1) t219 t220 _ A8.out).mono ?_);rintro e w11 ⟨rfl,hb⟩;refine ⟨_,rfl,?_⟩;replace HO_3:=As0.mk (Kd.R_below (by (with_reducible repeat (first|apply Kd.Ral|apply Kd.RdN|apply Kd.R_drew));exact HO_3.out) hb);replace HB:=As0.mk (b3 HB.out hb);clear hb;have p10:0 ≤ (x4_1:Int):=odt;have q10:(x4_1:Int) < ((x3_1.length:Int):Int):=odt;obtain ⟨go10,co10,eo10,gb10,gl10,cl10,HG10⟩:=Kd.R_form HO_3.out (by omega);(first|cases eo10|(injection eo10 with ea_ en_ ec_;(first|subst ea_|(injection ea_ with ea_;subst ea_));subst ec_;clear en_));have GB10:=As0.mk gb10;have GG10:=As0.mk HG10;clear gb10 gl10 HG10;obtain ⟨ce10,hcl10,hM10,hcc10,hfr10⟩:=Kd.R_elem HO_3.out ziU47 (x4_1:Int) p10 q10;obtain rfl:=k49_openM hM10;have hx10_0:w11.cell? ⟨go10,(x4_1:Int).toNat * 2,none⟩ = some (.string ((riU39 x3_1 x4_1).f0)):=hcc10 0 _ rfl;have hx10_1:w11.cell? ⟨go10,(x4_1:Int).toNat * 2 + 1,none⟩ = some (.int .i64 ((riU39 x3_1 x4_1).f1)):=hcc10 1 _ rfl;have hf10_0:w11.frozen? ⟨go10,(x4_1:Int).toNat * 2,none⟩ = false:=hfr10 0;have hf10_1:w11.frozen? ⟨go10,(x4_1:Int).toNat * 2 + 1,none⟩ = false:=hfr10 1;clear hcl10 hcc10 hfr10 hM10;replace p10:=eq_true p10;replace q10:=eq_true q10;have HX12:=As0.mk (show Kd.R k49 49 w11 w.heap.size (fun _=>True) (.slice (some ⟨go10,0,none⟩) x3_1.length co10) x3_1 from (by (with_reducible repeat (first|apply Kd.Ral|apply Kd.RdN|apply Kd.R_drew));exact HO_3.out));obtain ⟨ce12,hcl12,hM12,hcc12,hfr12⟩:=Kd.R_elem HX12.out ziU47 (x4_1:Int) (odt) (by have h_:(x4_1:Int) < ((x3_1.length:Int):Int):=odt;first|exact h_|(have e_:=(Kd.R_reads' HO_3.out).1;omega)|simpa using h_);obtain rfl:=k49_openM hM12;have HP12:=Kd.R_seg HX12.out (x4_1:Int) (odt) (by have h_:(x4_1:Int) < ((x3_1.length:Int):Int):=odt;first|exact h_|(have e_:=(Kd.R_reads' HO_3.out).1;omega)|simpa using h_) (seg:=[.string t219,.int .i64 t220]) (j:=0) hcl12 hcc12 (show 2 ≤ 2 from by decide) (x':=(⟨t219,t220⟩:SiU30)) (k49_mkM _ _ _ (⟨t219,t220⟩:SiU30) ) (fun _ hk=>hk);have hx12_0:=hcc12 0 _ rfl;(try simp only [show (k49).sz = 2 from rfl,Nat.mul_one,Nat.add_zero] at hx12_0);have hf12_0:=hfr12 0;(try simp only [show (k49).sz = 2 from rfl,Nat.mul_one,Nat.add_zero] at hf12_0);have hx12_1:=hcc12 1 _ rfl;(try simp only [show (k49).sz = 2 from rfl,Nat.mul_one,Nat.add_zero] at hx12_1);have hf12_1:=hfr12 1;(try simp only [show (k49).sz = 2 from rfl,Nat.mul_one,Nat.add_zero] at hf12_1);clear hcl12 hcc12 hfr12 hM12)|((with_reducible refine gate_store (t:=49) (p:=21) rfl ?_);refine store_event (t:=49) (p:=21) (v:=?vo_w13) (w1:=((w11.setCell ⟨go10,(x4_1:Int).toNat * 2,none⟩ (.string t219)).setCell ⟨go10,(x4_1:Int).toNat * 2 + 1,none⟩ (.int .i64 t220))) ?hg ?ho ?hn ?hr ?_;(case ho=>rfl);(case hg=>rfl);(case hn=>rfl);(case hr=>first|(go_simp;done)|(go_simp;rfl));intro w13 hw;have hg:w11.grownBy w13 (some go10):=(by rw [hw];exact HP12.2);have hp_:Kd.R k49 49 w13 w.heap.size (fun _=>True) (.slice (some ⟨go10,0,none⟩) x3_1.length co10) y221:=(by rw [hw,Ny221.out];exact HP12.1);clear HP12;replace HO_3:=As0.mk (hp_);replace HB:=As0.mk ((by rw [hw];exact bst (bst (HB.out) GB10.out) GB10.out:Below w.heap.size w w13));clear hg hw hp_))
             show _;go_roundg k1
             case measure=>have:=HK1.out;omega
             case rel=>exact ⟨(y221),(wrap64 (x4_1 + 1)),(by first|rfl|(simp;done)|(simp [*];done)),H',⟨by have:=HK1.out;omega⟩,⟨by (with_reducible repeat (first|apply Kd.Ral|apply Kd.RdN|apply Kd.R_drew));exact HO_3.out⟩,⟨by repeat (first|(with_reducible first|exact HB.out|apply bal|apply pbN|apply bd1)|exact HB.out)⟩⟩
           · rw [if_neg c9] at H
             exact absurd H (by simp)
         · rw [if_neg c7] at H
           exact absurd H (by simp)
       · rw [if_neg c6] at H
         have c6b0:decide (x4_1 < (l0.length:Int)) = false:=decide_eq_false c6;clear c6;obtain rfl:=Option.some.inj H
         go_wp2
         go_ret
         exact ⟨_,by first|rfl|(simp [errW_none,errW_some] <;> rfl)|(simp [*,errW_none,errW_some] <;> rfl),by (with_reducible repeat (first|apply Kd.Ral|apply Kd.RdN|apply Kd.R_drew));exact HO_3.out,by repeat (first|(with_reducible first|exact HB.out|apply bal|apply pbN|apply bd1)|exact HB.out)⟩
   · rw [if_neg c3] at H
     exact absurd H (by simp)
 · rw [if_neg c2] at H
   exact absurd H (by simp)
def laws_toStringS.l0:Nat → List ByteArray → List ByteArray → Int → Option (List ByteArray)
 |0,_,_,_=>none
 |k + 1,x0,x3,x4=>if x4 < (x0.length:Int) then (if 0 ≤ x4 then (if x4 < (x3.length:Int) then (laws_toStringS.l0 k x0 (x3.set (x4:Int).toNat (rdOf ByteArray.empty x0 x4)) (wrap64 (x4 + 1))) else (none)) else (none)) else (some x3)
def laws_toStringS.f (k:Nat) (l0:List ByteArray):Option (List ByteArray):=if 0 ≤ (l0.length:Int) then (if ((l0.length:Int):Int).toNat ≤ 17592186044416 then (laws_toStringS.l0 k l0 (List.replicate ((l0.length:Int):Int).toNat (⟨#[]⟩:ByteArray)) 0) else (none)) else (none)
set_option maxHeartbeats 40000000 in
set_option maxRecDepth 100000 in
theorem laws_toStringS.calls (k:Nat) (A0:Option Addr) (c0:Nat) (l0:List ByteArray) (r:List ByteArray) (w:World) (hr0:Kd.C Kd.string w A0 l0.length l0) (hc0:l0.length ≤ c0) (h:laws_toStringS.f k l0 = some r) :
 Calls Tryd.prog 62 #[.slice A0 l0.length c0] w fun e w'=>∃ v0_:Value,e = .returned (v0_) ∧ Kd.R Kd.string 9 w' w.heap.size (fun _=>True) v0_ r ∧ Below w.heap.size w w':=by
 have HR0:=As0.mk hr0;have HC0:=As0.mk hc0;clear hr0 hc0;have HB:=As0.mk (Below.refl w.heap.size w);have H:(if 0 ≤ (l0.length:Int) then (if ((l0.length:Int):Int).toNat ≤ 17592186044416 then (laws_toStringS.l0 k l0 (List.replicate ((l0.length:Int):Int).toNat (⟨#[]⟩:ByteArray)) 0) else (none)) else (none)) = some r:=h;clear h;by_cases c2:0 ≤ (l0.length:Int)
 · rw [if_pos c2] at H
   have c2b0:=eq_true c2;have c2b1:decide (0 ≤ (l0.length:Int)) = true:=decide_eq_true c2;clear c2;by_cases c3:((l0.length:Int):Int).toNat ≤ 17592186044416
   · rw [if_pos c3] at H
     have c3b0:=eq_true c3;have c3b1:decide (((l0.length:Int):Int).toNat ≤ 17592186044416) = true:=decide_eq_true c3
     (try (have c3xb1:=c3b1;simp only [Int.toNat_natCast] at c3xb1))
     clear c3;obtain ⟨y222,hy222⟩:∃ y_:List ByteArray,y_ = (List.replicate ((l0.length:Int):Int).toNat (⟨#[]⟩:ByteArray)):=⟨_,rfl⟩;replace H:(laws_toStringS.l0 k l0 y222 0) = some r:=by first|(rw [hy222];with_reducible exact H)|(have H2_:=(Option.bind_some _ _).symm.trans H;rw [hy222];with_reducible exact H2_)|(have H2_:=(Option.bind_some _ _).symm.trans H;with_reducible exact H2_)|with_reducible exact H|(rw [hy222];exact H)|exact H
     have Ny222:=As0.mk hy222;clear hy222;have H':=As0.mk H;clear H
     go_enter Tryd.func62,Tryd.ntmps62
     go_wp2_with (first|((with_reducible refine gate_dst (N:=7) rfl ?_);refine Kd.R_make Kd.string _ 9 rfl (N:=7) rfl 64 _ _ rfl (l0.length:Int) rfl rfl Tryd.underlying64 (.string ⟨#[]⟩) 16 info9 rfl (by decide) (by omega) (⟨#[]⟩:ByteArray) (ok:=fun _=>True) (okp:=fun _=>True) rfl (fun _ hk=>hk) trivial (odt) (Nat.le_trans (Nat.mul_le_mul_right _ (odt:(l0.length:Int).toNat ≤ 17592186044416)) (by omega)) (Below.refl _ _) (Nat.le_refl _) ?_;intro v223 w4 ho5 hb hg_ hnew_;clear hg_ hnew_;(first|rw [← Ny222.out] at ho5|(simp only [Int.reduceToNat] at ho5;rw [← Ny222.out] at ho5));have HO224:=As0.mk (Kd.R_lower ho5 (bsz (by repeat (first|(with_reducible first|exact HB.out|apply bal|apply pbN|apply bd1)|exact HB.out))));replace HB:=As0.mk (b3 HB.out hb);clear hb ho5))
     show _;go_loopg [4] k (fun kq v4 w'=>∃ (x3_1:List ByteArray) (x4_1:Int),v4 = .int .i64 x4_1 ∧ As0 (laws_toStringS.l0 kq l0 x3_1 x4_1 = some r) ∧ As0 (kq ≤ k) ∧ As0 (Kd.R Kd.string 9 w' w.heap.size (fun _=>True) v223 x3_1) ∧ As0 (Below w.heap.size w w'))
     case atStart=>exact ⟨(y222),(0),(by first|rfl|(simp;done)|(simp [*];done)),H',⟨Nat.le_refl _⟩,⟨by (with_reducible repeat (first|apply Kd.Ral|apply Kd.RdN|apply Kd.R_drew));exact HO224.out⟩,⟨by repeat (first|(with_reducible first|exact HB.out|apply bal|apply pbN|apply bd1)|exact HB.out)⟩⟩
     case round=>
      clear H'
      try clear c2
      try clear c2b0
      try clear c2b1
      try clear p2
      try clear c3
      try clear c3b0
      try clear c3b1
      obtain ⟨x3_1,x4_1,rfl,HA,HK1,HO_3,HB⟩:=hrel
      cases gk with
      |zero=>exact absurd HA.out (by simp [laws_toStringS.l0])
      |succ k1=>
       have H:=HA.out;clear HA;simp only [laws_toStringS.l0] at H;by_cases c6:x4_1 < (l0.length:Int)
       · rw [if_pos c6] at H
         have c6b0:decide (x4_1 < (l0.length:Int)) = true:=decide_eq_true c6;clear c6;by_cases c7:0 ≤ x4_1
         · rw [if_pos c7] at H
           have c7b0:decide (0 ≤ x4_1) = true:=decide_eq_true c7;clear c7;by_cases c8:x4_1 < (x3_1.length:Int)
           · rw [if_pos c8] at H
             have c8b0:decide (x4_1 < (x3_1.length:Int)) = true:=decide_eq_true c8;clear c8;obtain ⟨y226,hy226⟩:∃ y_:List ByteArray,y_ = (x3_1.set (x4_1:Int).toNat (rdOf ByteArray.empty l0 x4_1)):=⟨_,rfl⟩;replace H:(laws_toStringS.l0 k1 l0 y226 (wrap64 (x4_1 + 1))) = some r:=by first|(rw [hy226];with_reducible exact H)|(have H2_:=(Option.bind_some _ _).symm.trans H;rw [hy226];with_reducible exact H2_)|(have H2_:=(Option.bind_some _ _).symm.trans H;with_reducible exact H2_)|with_reducible exact H|(rw [hy226];exact H)|exact H
             have Ny226:=As0.mk hy226;clear hy226;have H':=As0.mk H;clear H;have p225:0 ≤ (x4_1:Int):=odt;have q225:x4_1 < (l0.length:Int):=odt;obtain ⟨ad225,e225,hx225_0⟩:=Kd.at_string HR0.out x4_1 p225 q225
             cases e225
             replace hx225_0:=bx HB.out rfl hx225_0;replace p225:=eq_true p225;replace q225:=eq_true q225;have p9:0 ≤ (x4_1:Int):=odt;have q9:(x4_1:Int) < ((x3_1.length:Int):Int):=odt;obtain ⟨go9,co9,eo9,gb9,gl9,cl9,HG9⟩:=Kd.R_form HO_3.out (by omega)
             (first|cases eo9|(injection eo9 with ea_ en_ ec_;(first|subst ea_|(injection ea_ with ea_;subst ea_));subst ec_;clear en_))
             have GB9:=As0.mk gb9;have GG9:=As0.mk HG9;clear gb9 gl9 HG9;obtain ⟨hx9_0,hf9_0⟩:=Kd.R_celln (⟨#[]⟩:ByteArray) HO_3.out (x4_1:Int) p9 q9;replace p9:=eq_true p9;replace q9:=eq_true q9;have HP10:=Kd.R_putg HO_3.out (x4_1:Int) (rdOf ByteArray.empty l0 x4_1)
             go_wp2_with (first|((with_reducible refine gate_store (t:=9) (p:=20) rfl ?_);refine store_event (t:=9) (p:=20) (v:=?vo_w11) (w1:=(wr.setCell ⟨go9,(x4_1:Int).toNat,none⟩ (.string (rdOf ByteArray.empty l0 x4_1)))) ?hg ?ho ?hn ?hr ?_;(case ho=>rfl);(case hg=>rfl);(case hn=>rfl);(case hr=>first|(go_simp;done)|(go_simp;rfl));intro w11 hw;have hg:wr.grownBy w11 (some go9):=(by rw [hw];exact HP10.2);have hp_:Kd.R Kd.string 9 w11 w.heap.size (fun _=>True) (.slice (some ⟨go9,0,none⟩) x3_1.length co9) y226:=(by rw [hw,Ny226.out];exact HP10.1);clear HP10;replace HO_3:=As0.mk (hp_);replace HB:=As0.mk ((by rw [hw];exact bst (HB.out) GB9.out:Below w.heap.size w w11));clear hg hw hp_))
             show _;go_roundg k1
             case measure=>have:=HK1.out;omega
             case rel=>exact ⟨(y226),(wrap64 (x4_1 + 1)),(by first|rfl|(simp;done)|(simp [*];done)),H',⟨by have:=HK1.out;omega⟩,⟨by (with_reducible repeat (first|apply Kd.Ral|apply Kd.RdN|apply Kd.R_drew));exact HO_3.out⟩,⟨by repeat (first|(with_reducible first|exact HB.out|apply bal|apply pbN|apply bd1)|exact HB.out)⟩⟩
           · rw [if_neg c8] at H
             exact absurd H (by simp)
         · rw [if_neg c7] at H
           exact absurd H (by simp)
       · rw [if_neg c6] at H
         have c6b0:decide (x4_1 < (l0.length:Int)) = false:=decide_eq_false c6;clear c6;obtain rfl:=Option.some.inj H
         go_wp2
         go_ret
         exact ⟨_,by first|rfl|(simp [errW_none,errW_some] <;> rfl)|(simp [*,errW_none,errW_some] <;> rfl),by (with_reducible repeat (first|apply Kd.Ral|apply Kd.RdN|apply Kd.R_drew));exact HO_3.out,by repeat (first|(with_reducible first|exact HB.out|apply bal|apply pbN|apply bd1)|exact HB.out)⟩
   · rw [if_neg c3] at H
     exact absurd H (by simp)
 · rw [if_neg c2] at H
   exact absurd H (by simp)
def laws_toThing.f (k:Nat) (a0_0:ByteArray) (a0_1:ByteArray) (a0_2:Int) (a0_3:Int) (a0_4:Bool) (l0_5:List ByteArray) (a0_6:ByteArray):Option (ByteArray × ByteArray × Int × Int × Bool × List ByteArray × ByteArray):=(laws_toStringS.f k l0_5).bind fun t230=>(some (a0_0,a0_1,a0_2,a0_3,a0_4,t230,a0_6))
set_option maxHeartbeats 40000000 in
set_option maxRecDepth 100000 in
theorem laws_toThing.calls (k:Nat) (a0_0:ByteArray) (a0_1:ByteArray) (a0_2:Int) (a0_3:Int) (a0_4:Bool) (A0_5:Option Addr) (c0_5:Nat) (l0_5:List ByteArray) (a0_6:ByteArray) (r1:ByteArray) (r2:ByteArray) (r3:Int) (r4:Int) (r5:Bool) (r6:List ByteArray) (r7:ByteArray) (w:World) (hr0_5:Kd.C Kd.string w A0_5 l0_5.length l0_5) (hc0_5:l0_5.length ≤ c0_5) (h:laws_toThing.f k a0_0 a0_1 a0_2 a0_3 a0_4 l0_5 a0_6 = some (r1,r2,r3,r4,r5,r6,r7)) :
 Calls Tryd.prog 41 #[.agg #[.string a0_0,.string a0_1,.int .i64 a0_2,.int .i64 a0_3,.bool a0_4,.slice A0_5 l0_5.length c0_5,.string a0_6]] w fun e w'=>∃ v5_:Value,e = .returned (.agg #[.string r1,.string r2,.int .i64 r3,.int .i64 r4,.bool r5,v5_,.string r7]) ∧ Kd.R Kd.string 9 w' w.heap.size (fun _=>True) v5_ r6 ∧ Below w.heap.size w w':=by
 have hu66:=Tryd.underlying66;have hu73:=Tryd.underlying73;have HR0_5:=As0.mk hr0_5;have HC0_5:=As0.mk hc0_5;clear hr0_5 hc0_5;have HB:=As0.mk (Below.refl w.heap.size w);have H:((laws_toStringS.f k l0_5).bind fun t230=>(some (a0_0,a0_1,a0_2,a0_3,a0_4,t230,a0_6))) = some (r1,r2,r3,r4,r5,r6,r7):=h;clear h;replace H:=Option.bind_eq_some_iff.mp H;obtain ⟨t230,A20,H⟩:=H;(try dsimp only at H);have A2:=As0.mk A20;clear A20;simp only [Option.some.injEq,Prod.mk.injEq] at H;obtain ⟨rfl,rfl,rfl,rfl,rfl,rfl,rfl⟩:=H
 go_enter Tryd.func41,Tryd.ntmps41
 go_wp2_with (first|((with_reducible refine gate_dst (N:=1) rfl ?_);refine bE 1 #[.string a0_0,.string a0_1,.int .i64 a0_2,.int .i64 a0_3,.bool a0_4,.slice A0_5 l0_5.length c0_5,.string a0_6] 66 ?_;intro gb227 hg w3 hbox hb;have BK227:=As0.mk (hbox);have GW227:=As0.mk ((by rw [hg];exact (bsz (by repeat (first|(with_reducible first|exact HB.out|apply bal|apply pbN|apply bd1)|exact HB.out))):w.heap.size ≤ gb227));have GE227:=GW227;replace HB:=As0.mk (b3 HB.out hb);clear hb hbox hg)|((with_reducible refine gate_dst (N:=2) rfl ?_);refine bE 2 #[.string ⟨#[]⟩,.string ⟨#[]⟩,.int .i64 0,.int .i64 0,.bool false,.slice none 0 0,.string ⟨#[]⟩] 73 ?_;intro gb228 hg w4 hbox hb;have BK228:=As0.mk (hbox);have GW228:=As0.mk ((by rw [hg];exact (bsz (by repeat (first|(with_reducible first|exact HB.out|apply bal|apply pbN|apply bd1|refine bst ?_ GE227.out)|exact HB.out))):w.heap.size ≤ gb228));have GE228:=GW228;replace HB:=As0.mk (bsp (by repeat (first|(with_reducible first|exact HB.out|apply bal|apply pbN|apply bd1|refine bst ?_ GE227.out)|exact HB.out)) hb);have NB227_228:=As0.mk ((by rw [hg];exact Nat.ne_of_lt (blk_lt (g:=gb227) (o:=.cells #[.string a0_0,.string a0_1,.int .i64 a0_2,.int .i64 a0_3,.bool a0_4,.slice A0_5 l0_5.length c0_5,.string a0_6] 66 (0,0)) (by (with_reducible repeat (first|refine bkN ?_ _|refine bkD ?_|refine bkA ?_ _));exact BK227.out)):gb227 ≠ gb228));have NB228_227:=As0.mk (Ne.symm NB227_228.out);replace BK227:=As0.mk (bb hb BK227.out);clear hb hbox hg)|((with_reducible refine gate_dst (N:=3) rfl ?_);refine bE 3 #[.string ⟨#[]⟩,.string ⟨#[]⟩,.int .i64 0,.int .i64 0,.bool false,.slice none 0 0,.string ⟨#[]⟩] 73 ?_;intro gb229 hg w5 hbox hb;have BK229:=As0.mk (hbox);have GW229:=As0.mk ((by rw [hg];exact (bsz (by repeat (first|(with_reducible first|exact HB.out|apply bal|apply pbN|apply bd1|refine bst ?_ GE227.out|refine bst ?_ GE228.out)|exact HB.out))):w.heap.size ≤ gb229));have GE229:=GW229;replace HB:=As0.mk (bsp (by repeat (first|(with_reducible first|exact HB.out|apply bal|apply pbN|apply bd1|refine bst ?_ GE227.out|refine bst ?_ GE228.out)|exact HB.out)) hb);have NB227_229:=As0.mk ((by rw [hg];exact Nat.ne_of_lt (blk_lt (g:=gb227) (o:=.cells #[.string a0_0,.string a0_1,.int .i64 a0_2,.int .i64 a0_3,.bool a0_4,.slice A0_5 l0_5.length c0_5,.string a0_6] 66 (0,0)) (by (with_reducible repeat (first|refine bkN ?_ _|refine bkD ?_|refine bkA ?_ _));exact BK227.out)):gb227 ≠ gb229));have NB229_227:=As0.mk (Ne.symm NB227_229.out);replace BK227:=As0.mk (bb hb BK227.out);have NB228_229:=As0.mk ((by rw [hg];exact Nat.ne_of_lt (blk_lt (g:=gb228) (o:=.cells #[.string ⟨#[]⟩,.string ⟨#[]⟩,.int .i64 0,.int .i64 0,.bool false,.slice none 0 0,.string ⟨#[]⟩] 73 (0,0)) (by (with_reducible repeat (first|refine bkN ?_ _|refine bkD ?_|refine bkA ?_ _));exact BK228.out)):gb228 ≠ gb229));have NB229_228:=As0.mk (Ne.symm NB228_229.out);replace BK228:=As0.mk (bb hb BK228.out);clear hb hbox hg;have hnb6:=NB227_228.out;have hnc6:=NB228_227.out;have hnb7:=NB227_229.out;have hnc7:=NB229_227.out;obtain ⟨hcz8_0,hcz8_1,hcz8_2,hcz8_3,hcz8_4,hcz8_5,hcz8_6⟩:=qc7 BK227.out;obtain ⟨hfz8_0,hfz8_1,hfz8_2,hfz8_3,hfz8_4,hfz8_5,hfz8_6⟩:=qz7 BK227.out;have hnb9:=NB229_228.out;have hnc9:=NB228_229.out;obtain ⟨hcz10_0,hcz10_1,hcz10_2,hcz10_3,hcz10_4,hcz10_5,hcz10_6⟩:=qc7 BK229.out;obtain ⟨hfz10_0,hfz10_1,hfz10_2,hfz10_3,hfz10_4,hfz10_5,hfz10_6⟩:=qz7 BK229.out)|((with_reducible refine gca (f:=62) rfl ?_);refine gL (some 21) Tryd.func62 #[.slice A0_5 l0_5.length c0_5] ?_;(with_reducible refine (laws_toStringS.calls k _ _ l0_5 t230 _ ?side1 ?side2 A2.out).mono ?_);(case side1=>exact Kd.C_below HR0_5.out (by repeat (first|(with_reducible first|exact HB.out|apply bal|apply pbN|apply bd1|refine bst ?_ GE227.out|refine bst ?_ GE228.out|refine bst ?_ GE229.out)|exact HB.out)));(case side2=>exact HC0_5.out);rintro e w11 ⟨v231,rfl,ho0,hb⟩;refine ⟨_,rfl,?_⟩;have HO232:=As0.mk (Kd.R_lower ho0 (bsz (by repeat (first|(with_reducible first|exact HB.out|apply bal|apply pbN|apply bd1|refine bst ?_ GE227.out|refine bst ?_ GE228.out|refine bst ?_ GE229.out)|exact HB.out))));replace BK227:=As0.mk (blk_below (g:=gb227) (o:=.cells #[.string a0_0,.string a0_1,.int .i64 a0_2,.int .i64 a0_3,.bool a0_4,.slice A0_5 l0_5.length c0_5,.string a0_6] 66 (0,0)) (by (with_reducible repeat (first|refine bkN ?_ _|refine bkD ?_|refine bkA ?_ _));refine blk_far ?_ NB227_229.out _;(with_reducible repeat (first|refine bkN ?_ _|refine bkD ?_|refine bkA ?_ _));refine blk_far ?_ NB227_229.out _;(with_reducible repeat (first|refine bkN ?_ _|refine bkD ?_|refine bkA ?_ _));refine blk_far ?_ NB227_229.out _;(with_reducible repeat (first|refine bkN ?_ _|refine bkD ?_|refine bkA ?_ _));refine blk_far ?_ NB227_229.out _;(with_reducible repeat (first|refine bkN ?_ _|refine bkD ?_|refine bkA ?_ _));refine blk_far ?_ NB227_229.out _;(with_reducible repeat (first|refine bkN ?_ _|refine bkD ?_|refine bkA ?_ _));exact BK227.out) hb);replace BK228:=As0.mk (blk_below (g:=gb228) (o:=.cells #[.string ⟨#[]⟩,.string ⟨#[]⟩,.int .i64 0,.int .i64 0,.bool false,.slice none 0 0,.string ⟨#[]⟩] 73 (0,0)) (by (with_reducible repeat (first|refine bkN ?_ _|refine bkD ?_|refine bkA ?_ _));refine blk_far ?_ NB228_229.out _;(with_reducible repeat (first|refine bkN ?_ _|refine bkD ?_|refine bkA ?_ _));refine blk_far ?_ NB228_229.out _;(with_reducible repeat (first|refine bkN ?_ _|refine bkD ?_|refine bkA ?_ _));refine blk_far ?_ NB228_229.out _;(with_reducible repeat (first|refine bkN ?_ _|refine bkD ?_|refine bkA ?_ _));refine blk_far ?_ NB228_229.out _;(with_reducible repeat (first|refine bkN ?_ _|refine bkD ?_|refine bkA ?_ _));refine blk_far ?_ NB228_229.out _;(with_reducible repeat (first|refine bkN ?_ _|refine bkD ?_|refine bkA ?_ _));exact BK228.out) hb);replace BK229:=As0.mk (blk_below (g:=gb229) (o:=.cells #[.string a0_0,.string a0_1,.int .i64 a0_2,.int .i64 a0_3,.bool a0_4,.slice none 0 0,.string ⟨#[]⟩] 73 (0,0)) (by (with_reducible repeat (first|refine bkN ?_ _|refine bkD ?_|refine bkA ?_ _));refine blk_put (cs:=#[.string a0_0,.string a0_1,.int .i64 a0_2,.int .i64 a0_3,.bool false,.slice none 0 0,.string ⟨#[]⟩]) ?_ 4 _ rfl;(with_reducible repeat (first|refine bkN ?_ _|refine bkD ?_|refine bkA ?_ _));refine blk_put (cs:=#[.string a0_0,.string a0_1,.int .i64 a0_2,.int .i64 0,.bool false,.slice none 0 0,.string ⟨#[]⟩]) ?_ 3 _ rfl;(with_reducible repeat (first|refine bkN ?_ _|refine bkD ?_|refine bkA ?_ _));refine blk_put (cs:=#[.string a0_0,.string a0_1,.int .i64 0,.int .i64 0,.bool false,.slice none 0 0,.string ⟨#[]⟩]) ?_ 2 _ rfl;(with_reducible repeat (first|refine bkN ?_ _|refine bkD ?_|refine bkA ?_ _));refine blk_put (cs:=#[.string a0_0,.string ⟨#[]⟩,.int .i64 0,.int .i64 0,.bool false,.slice none 0 0,.string ⟨#[]⟩]) ?_ 1 _ rfl;(with_reducible repeat (first|refine bkN ?_ _|refine bkD ?_|refine bkA ?_ _));refine blk_put (cs:=#[.string ⟨#[]⟩,.string ⟨#[]⟩,.int .i64 0,.int .i64 0,.bool false,.slice none 0 0,.string ⟨#[]⟩]) ?_ 0 _ rfl;(with_reducible repeat (first|refine bkN ?_ _|refine bkD ?_|refine bkA ?_ _));exact BK229.out) hb);replace HB:=As0.mk (bsp (by repeat (first|(with_reducible first|exact HB.out|apply bal|apply pbN|apply bd1|refine bst ?_ GE227.out|refine bst ?_ GE228.out|refine bst ?_ GE229.out)|exact HB.out)) hb);clear hb ho0;obtain ⟨Ao12,co12,eo12⟩:=Kd.R_slice HO232.out;subst eo12;obtain ⟨hcz13_0,hcz13_1,hcz13_2,hcz13_3,hcz13_4,hcz13_5,hcz13_6⟩:=qc7 BK229.out;obtain ⟨hfz13_0,hfz13_1,hfz13_2,hfz13_3,hfz13_4,hfz13_5,hfz13_6⟩:=qz7 BK229.out;obtain ⟨hcz14_0,hcz14_1,hcz14_2,hcz14_3,hcz14_4,hcz14_5,hcz14_6⟩:=qc7 BK227.out;obtain ⟨hfz14_0,hfz14_1,hfz14_2,hfz14_3,hfz14_4,hfz14_5,hfz14_6⟩:=qz7 BK227.out;obtain ⟨hcz15_0,hcz15_1,hcz15_2,hcz15_3,hcz15_4,hcz15_5,hcz15_6⟩:=qc7 BK228.out;obtain ⟨hfz15_0,hfz15_1,hfz15_2,hfz15_3,hfz15_4,hfz15_5,hfz15_6⟩:=qz7 BK228.out))
 refine bodyPost_ret (results_cell_row rfl _ _ gb228 73 #[.string a0_0,.string a0_1,.int .i64 a0_2,.int .i64 a0_3,.bool a0_4,.slice Ao12 t230.length co12,.string a0_6] (0,0) _ rfl (by (with_reducible repeat (first|refine bkN ?_ _|refine bkD ?_|refine bkA ?_ _));refine blk_put (cs:=#[.string a0_0,.string a0_1,.int .i64 a0_2,.int .i64 a0_3,.bool a0_4,.slice Ao12 t230.length co12,.string ⟨#[]⟩]) ?_ 6 _ rfl;(with_reducible repeat (first|refine bkN ?_ _|refine bkD ?_|refine bkA ?_ _));refine blk_put (cs:=#[.string a0_0,.string a0_1,.int .i64 a0_2,.int .i64 a0_3,.bool a0_4,.slice none 0 0,.string ⟨#[]⟩]) ?_ 5 _ rfl;(with_reducible repeat (first|refine bkN ?_ _|refine bkD ?_|refine bkA ?_ _));refine blk_put (cs:=#[.string a0_0,.string a0_1,.int .i64 a0_2,.int .i64 a0_3,.bool false,.slice none 0 0,.string ⟨#[]⟩]) ?_ 4 _ rfl;(with_reducible repeat (first|refine bkN ?_ _|refine bkD ?_|refine bkA ?_ _));refine blk_put (cs:=#[.string a0_0,.string a0_1,.int .i64 a0_2,.int .i64 0,.bool false,.slice none 0 0,.string ⟨#[]⟩]) ?_ 3 _ rfl;(with_reducible repeat (first|refine bkN ?_ _|refine bkD ?_|refine bkA ?_ _));refine blk_put (cs:=#[.string a0_0,.string a0_1,.int .i64 0,.int .i64 0,.bool false,.slice none 0 0,.string ⟨#[]⟩]) ?_ 2 _ rfl;(with_reducible repeat (first|refine bkN ?_ _|refine bkD ?_|refine bkA ?_ _));refine blk_put (cs:=#[.string a0_0,.string ⟨#[]⟩,.int .i64 0,.int .i64 0,.bool false,.slice none 0 0,.string ⟨#[]⟩]) ?_ 1 _ rfl;(with_reducible repeat (first|refine bkN ?_ _|refine bkD ?_|refine bkA ?_ _));refine blk_put (cs:=#[.string ⟨#[]⟩,.string ⟨#[]⟩,.int .i64 0,.int .i64 0,.bool false,.slice none 0 0,.string ⟨#[]⟩]) ?_ 0 _ rfl;(with_reducible repeat (first|refine bkN ?_ _|refine bkD ?_|refine bkA ?_ _));refine blk_far ?_ NB228_229.out _;(with_reducible repeat (first|refine bkN ?_ _|refine bkD ?_|refine bkA ?_ _));refine blk_far ?_ NB228_229.out _;(with_reducible repeat (first|refine bkN ?_ _|refine bkD ?_|refine bkA ?_ _));exact BK228.out) Tryd.underlying73 rfl (by kernel_rfl)) rfl ?_
 exact ⟨_,by first|rfl|(simp [errW_none,errW_some] <;> rfl)|(simp [*,errW_none,errW_some] <;> rfl),by (with_reducible repeat (first|apply Kd.Ral|apply Kd.RdN|apply Kd.R_drew));exact Kd.R_mono (Kd.R_far (p:=⟨gb228,6,none⟩) (Kd.R_far (p:=⟨gb228,5,none⟩) (Kd.R_far (p:=⟨gb228,4,none⟩) (Kd.R_far (p:=⟨gb228,3,none⟩) (Kd.R_far (p:=⟨gb228,2,none⟩) (Kd.R_far (p:=⟨gb228,1,none⟩) (Kd.R_far (p:=⟨gb228,0,none⟩) (Kd.R_far (p:=⟨gb229,6,none⟩) (Kd.R_far (p:=⟨gb229,5,none⟩) (Kd.R_types (Kd.R_types HO232.out BK229.out (by decide)) BK228.out (by decide)) (fun _ hk=>hk.1.2) (.slice Ao12 t230.length co12)) (fun _ hk=>hk.1.2) (.string a0_6)) (fun _ hk=>hk.2) (.string a0_0)) (fun _ hk=>hk.2) (.string a0_1)) (fun _ hk=>hk.2) (.int .i64 a0_2)) (fun _ hk=>hk.2) (.int .i64 a0_3)) (fun _ hk=>hk.2) (.bool a0_4)) (fun _ hk=>hk.2) (.slice Ao12 t230.length co12)) (fun _ hk=>hk.2) (.string a0_6)) (fun _ hk=>trivial),by repeat (first|(with_reducible first|exact HB.out|apply bal|apply pbN|apply bd1|refine bst ?_ GE227.out|refine bst ?_ GE228.out|refine bst ?_ GE229.out)|exact HB.out)⟩
def laws_toThingS.l0:Nat → List (SlT34) → List (SiT29) → Int → Option ((List (SiT29)))
 |0,_,_,_=>none
 |k + 1,x0,x3,x4=>if x4 < (x0.length:Int) then (if 0 ≤ x4 then ((laws_toThing.f k ((rlT42 x0 x4).f0) ((rlT42 x0 x4).f1) ((rlT42 x0 x4).f2) ((rlT42 x0 x4).f3) ((rlT42 x0 x4).f4) ((rlT42 x0 x4).f5) ((rlT42 x0 x4).f6)).bind fun bt237=>(if x4 < (x3.length:Int) then (laws_toThingS.l0 k x0 (x3.set (x4:Int).toNat (⟨bt237.1,bt237.2.1,bt237.2.2.1,bt237.2.2.2.1,bt237.2.2.2.2.1,bt237.2.2.2.2.2.1,bt237.2.2.2.2.2.2⟩:SiT29)) (wrap64 (x4 + 1))) else (none))) else (none)) else (some x3)
def laws_toThingS.f (k:Nat) (l0:List (SlT34)):Option ((List (SiT29))):=if 0 ≤ (l0.length:Int) then (if ((l0.length:Int):Int).toNat ≤ 2932031007402 then (laws_toThingS.l0 k l0 (List.replicate ((l0.length:Int):Int).toNat ziT46) 0) else (none)) else (none)
set_option maxHeartbeats 40000000 in
set_option maxRecDepth 100000 in
theorem laws_toThingS.calls (k:Nat) (A0:Option Addr) (c0:Nat) (l0:List (SlT34)) (r:List (SiT29)) (w:World) (hr0:Kd.C k66 w A0 l0.length l0) (hc0:l0.length ≤ c0) (h:laws_toThingS.f k l0 = some r) :
 Calls Tryd.prog 21 #[.slice A0 l0.length c0] w fun e w'=>∃ v0_:Value,e = .returned (v0_) ∧ Kd.S k73 73 w' w.heap.size (fun _=>True) v0_ r ∧ Below w.heap.size w w':=by
 have hu66:=Tryd.underlying66;have hu73:=Tryd.underlying73;have HR0:=As0.mk hr0;have HC0:=As0.mk hc0;clear hr0 hc0;have HB:=As0.mk (Below.refl w.heap.size w);have H:(if 0 ≤ (l0.length:Int) then (if ((l0.length:Int):Int).toNat ≤ 2932031007402 then (laws_toThingS.l0 k l0 (List.replicate ((l0.length:Int):Int).toNat ziT46) 0) else (none)) else (none)) = some r:=h;clear h;by_cases c2:0 ≤ (l0.length:Int)
 · rw [if_pos c2] at H
   have c2b0:=eq_true c2;have c2b1:decide (0 ≤ (l0.length:Int)) = true:=decide_eq_true c2;clear c2;by_cases c3:((l0.length:Int):Int).toNat ≤ 2932031007402
   · rw [if_pos c3] at H
     have c3b0:=eq_true c3;have c3b1:decide (((l0.length:Int):Int).toNat ≤ 2932031007402) = true:=decide_eq_true c3
     (try (have c3xb1:=c3b1;simp only [Int.toNat_natCast] at c3xb1))
     clear c3;obtain ⟨y233,hy233⟩:∃ y_:List (SiT29),y_ = (List.replicate ((l0.length:Int):Int).toNat ziT46):=⟨_,rfl⟩;replace H:(laws_toThingS.l0 k l0 y233 0) = some r:=by first|(rw [hy233];with_reducible exact H)|(have H2_:=(Option.bind_some _ _).symm.trans H;rw [hy233];with_reducible exact H2_)|(have H2_:=(Option.bind_some _ _).symm.trans H;with_reducible exact H2_)|with_reducible exact H|(rw [hy233];exact H)|exact H
     have Ny233:=As0.mk hy233;clear hy233;have H':=As0.mk H;clear H
     go_enter Tryd.func21,Tryd.ntmps21
     go_wp2_with (first|((with_reducible refine gate_dst (N:=7) rfl ?_);refine Kd.S_make k73 _ 73 rfl (N:=7) rfl 32 _ _ rfl (l0.length:Int) rfl rfl Tryd.underlying32 (.agg #[(.string ⟨#[]⟩),(.string ⟨#[]⟩),(.int .i64 0),(.int .i64 0),(.bool false),(.slice none 0 0),(.string ⟨#[]⟩)]) 96 info73 rfl (by decide) (by omega) ziT46 (ok:=fun _=>True) (okp:=fun _=>True) (k73_mkM _ _ _ ziT46 (Kd.R_nil _ _ _ _ _)) (fun _ hk=>hk) trivial (odt) (Nat.le_trans (Nat.mul_le_mul_right _ (odt:(l0.length:Int).toNat ≤ 2932031007402)) (by omega)) (Below.refl _ _) (Nat.le_refl _) ?_;intro v234 w4 ho5 hb hg_ hnew_;clear hg_ hnew_;(first|rw [← Ny233.out] at ho5|(simp only [Int.reduceToNat] at ho5;rw [← Ny233.out] at ho5));have HO235:=As0.mk (Kd.S_lower ho5 (bsz (by repeat (first|(with_reducible first|exact HB.out|apply bal|apply pbN|apply bd1)|exact HB.out))));replace HB:=As0.mk (b3 HB.out hb);clear hb ho5))
     show _;go_loopg [4] k (fun kq v4 w'=>∃ (x3_1:List (SiT29)) (x4_1:Int),v4 = .int .i64 x4_1 ∧ As0 (laws_toThingS.l0 kq l0 x3_1 x4_1 = some r) ∧ As0 (kq ≤ k) ∧ As0 (Kd.S k73 73 w' w.heap.size (fun _=>True) v234 x3_1) ∧ As0 (Below w.heap.size w w'))
     case atStart=>exact ⟨(y233),(0),(by first|rfl|(simp;done)|(simp [*];done)),H',⟨Nat.le_refl _⟩,⟨by (with_reducible repeat (first|apply Kd.Sal|apply Kd.SdN|apply Kd.S_drew));exact HO235.out⟩,⟨by repeat (first|(with_reducible first|exact HB.out|apply bal|apply pbN|apply bd1)|exact HB.out)⟩⟩
     case round=>
      clear H'
      try clear c2
      try clear c2b0
      try clear c2b1
      try clear p2
      try clear c3
      try clear c3b0
      try clear c3b1
      obtain ⟨x3_1,x4_1,rfl,HA,HK1,HO_3,HB⟩:=hrel
      cases gk with
      |zero=>exact absurd HA.out (by simp [laws_toThingS.l0])
      |succ k1=>
       have H:=HA.out;clear HA;simp only [laws_toThingS.l0] at H;by_cases c6:x4_1 < (l0.length:Int)
       · rw [if_pos c6] at H
         have c6b0:decide (x4_1 < (l0.length:Int)) = true:=decide_eq_true c6;clear c6;by_cases c7:0 ≤ x4_1
         · rw [if_pos c7] at H
           have c7b0:decide (0 ≤ x4_1) = true:=decide_eq_true c7;clear c7;replace H:=Option.bind_eq_some_iff.mp H;obtain ⟨⟨t237,t238,t239,t240,t241,t242,t245⟩,A80,H⟩:=H;(try dsimp only at H);have A8:=As0.mk A80;clear A80;by_cases c9:x4_1 < (x3_1.length:Int)
           · rw [if_pos c9] at H
             have c9b0:decide (x4_1 < (x3_1.length:Int)) = true:=decide_eq_true c9;clear c9;obtain ⟨y246,hy246⟩:∃ y_:List (SiT29),y_ = (x3_1.set (x4_1:Int).toNat (⟨t237,t238,t239,t240,t241,t242,t245⟩:SiT29)):=⟨_,rfl⟩;replace H:(laws_toThingS.l0 k1 l0 y246 (wrap64 (x4_1 + 1))) = some r:=by first|(rw [hy246];with_reducible exact H)|(have H2_:=(Option.bind_some _ _).symm.trans H;rw [hy246];with_reducible exact H2_)|(have H2_:=(Option.bind_some _ _).symm.trans H;with_reducible exact H2_)|with_reducible exact H|(rw [hy246];exact H)|exact H
             have Ny246:=As0.mk hy246;clear hy246;have H':=As0.mk H;clear H;have p236:0 ≤ (x4_1:Int):=odt;have q236:x4_1 < (l0.length:Int):=odt;obtain ⟨ad236,A236_5,c236_5,e236,hx236_0,hx236_1,hx236_2,hx236_3,hx236_4,hx236_5,hx236_6,hl236_5,hi236_5⟩:=at_T66 HR0.out x4_1 p236 q236
             cases e236
             replace hx236_0:=bx HB.out rfl hx236_0;replace hx236_1:=bx HB.out rfl hx236_1;replace hx236_2:=bx HB.out rfl hx236_2;replace hx236_3:=bx HB.out rfl hx236_3;replace hx236_4:=bx HB.out rfl hx236_4;replace hx236_5:=bx HB.out rfl hx236_5;replace hx236_6:=bx HB.out rfl hx236_6;have HR236_5:=As0.mk hi236_5;have HC236_5:=As0.mk hl236_5;clear hi236_5 hl236_5;replace p236:=eq_true p236;replace q236:=eq_true q236
             go_wp2_with (first|((with_reducible refine gca (f:=41) rfl ?_);refine gL (some 20) Tryd.func41 #[.agg #[.string ((rlT42 l0 x4_1).f0),.string ((rlT42 l0 x4_1).f1),.int .i64 ((rlT42 l0 x4_1).f2),.int .i64 ((rlT42 l0 x4_1).f3),.bool ((rlT42 l0 x4_1).f4),.slice A236_5 ((rlT42 l0 x4_1).f5).length c236_5,.string ((rlT42 l0 x4_1).f6)]] ?_;(with_reducible refine (laws_toThing.calls k1 ((rlT42 l0 x4_1).f0) ((rlT42 l0 x4_1).f1) ((rlT42 l0 x4_1).f2) ((rlT42 l0 x4_1).f3) ((rlT42 l0 x4_1).f4) _ _ ((rlT42 l0 x4_1).f5) ((rlT42 l0 x4_1).f6) t237 t238 t239 t240 t241 t242 t245 _ ?side1 ?side2 A8.out).mono ?_);(case side1=>repeat (first|exact (Kd.C_below HR236_5.out HB.out)|(with_reducible first|refine Kd.C_alloc ?_ _|refine Kd.C_drewN ?_ _|refine Kd.C_drew ?_)));(case side2=>exact HC236_5.out);rintro e w11 ⟨v243,rfl,ho0,hb⟩;obtain ⟨sa243,sc243,hv_⟩:=Kd.R_slice ho0;subst hv_;refine ⟨_,rfl,?_⟩;replace HO_3:=As0.mk (Kd.S_elder' (by (with_reducible repeat (first|apply Kd.Sal|apply Kd.SdN|apply Kd.S_drew));exact HO_3.out) (Kd.R_base ho0) hb);have HO244:=As0.mk (Kd.R_lower ho0 (bsz (by repeat (first|(with_reducible first|exact HB.out|apply bal|apply pbN|apply bd1)|exact HB.out))));replace HB:=As0.mk (b3 HB.out hb);clear hb ho0;have p10:0 ≤ (x4_1:Int):=odt;have q10:(x4_1:Int) < ((x3_1.length:Int):Int):=odt;obtain ⟨go10,co10,eo10,gb10,gl10,cl10,HG10⟩:=Kd.S_form HO_3.out (by omega);(first|cases eo10|(injection eo10 with ea_ en_ ec_;(first|subst ea_|(injection ea_ with ea_;subst ea_));subst ec_;clear en_));have GB10:=As0.mk gb10;have GG10:=As0.mk HG10;clear gb10 gl10 HG10;obtain ⟨_,ce10,hcl10,hM10,hcc10,hfr10,_,_⟩:=Kd.S_elem HO_3.out ziT46 (x4_1:Int) p10 q10;obtain ⟨ve10_5,rfl,ge10_5⟩:=k73_openM hM10;have hx10_0:w11.cell? ⟨go10,(x4_1:Int).toNat * 7,none⟩ = some (.string ((riT38 x3_1 x4_1).f0)):=hcc10 0 _ rfl;have hx10_1:w11.cell? ⟨go10,(x4_1:Int).toNat * 7 + 1,none⟩ = some (.string ((riT38 x3_1 x4_1).f1)):=hcc10 1 _ rfl;have hx10_2:w11.cell? ⟨go10,(x4_1:Int).toNat * 7 + 2,none⟩ = some (.int .i64 ((riT38 x3_1 x4_1).f2)):=hcc10 2 _ rfl;have hx10_3:w11.cell? ⟨go10,(x4_1:Int).toNat * 7 + 3,none⟩ = some (.int .i64 ((riT38 x3_1 x4_1).f3)):=hcc10 3 _ rfl;have hx10_4:w11.cell? ⟨go10,(x4_1:Int).toNat * 7 + 4,none⟩ = some (.bool ((riT38 x3_1 x4_1).f4)):=hcc10 4 _ rfl;have hx10_5:w11.cell? ⟨go10,(x4_1:Int).toNat * 7 + 5,none⟩ = some (ve10_5):=hcc10 5 _ rfl;have hx10_6:w11.cell? ⟨go10,(x4_1:Int).toNat * 7 + 6,none⟩ = some (.string ((riT38 x3_1 x4_1).f6)):=hcc10 6 _ rfl;have hf10_0:w11.frozen? ⟨go10,(x4_1:Int).toNat * 7,none⟩ = false:=hfr10 0;have hf10_1:w11.frozen? ⟨go10,(x4_1:Int).toNat * 7 + 1,none⟩ = false:=hfr10 1;have hf10_2:w11.frozen? ⟨go10,(x4_1:Int).toNat * 7 + 2,none⟩ = false:=hfr10 2;have hf10_3:w11.frozen? ⟨go10,(x4_1:Int).toNat * 7 + 3,none⟩ = false:=hfr10 3;have hf10_4:w11.frozen? ⟨go10,(x4_1:Int).toNat * 7 + 4,none⟩ = false:=hfr10 4;have hf10_5:w11.frozen? ⟨go10,(x4_1:Int).toNat * 7 + 5,none⟩ = false:=hfr10 5;have hf10_6:w11.frozen? ⟨go10,(x4_1:Int).toNat * 7 + 6,none⟩ = false:=hfr10 6;clear hcl10 hcc10 hfr10 hM10;replace p10:=eq_true p10;replace q10:=eq_true q10;have n_:=As0.mk (Kd.S_mono (ok':=(fun k_=>some k_ ≠ (.slice sa243 t242.length sc243:Value).ownBlock)) HO_3.out (fun k_ hk=>hk.2));clear HO_3;have HO_3:=n_;clear n_;have HX12:=As0.mk (show Kd.S k73 73 w11 w.heap.size (fun k_=>((fun _=>True)) k_ ∧ ¬ ((fun k_=>some k_ = (.slice sa243 t242.length sc243:Value).ownBlock)) k_) (.slice (some ⟨go10,0,none⟩) x3_1.length co10) x3_1 from (by (with_reducible repeat (first|apply Kd.Sal|apply Kd.SdN|apply Kd.S_drew));exact Kd.S_mono HO_3.out (fun k_ hk=>⟨trivial,fun e_=>hk e_⟩)));obtain ⟨oki12,ce12,hcl12,hM12,hcc12,hfr12,hoki12,hH12⟩:=Kd.S_elem HX12.out ziT46 (x4_1:Int) (odt) (by have h_:(x4_1:Int) < ((x3_1.length:Int):Int):=odt;first|exact h_|(have e_:=(Kd.S_reads' HO_3.out).1;omega)|simpa using h_);obtain ⟨ve12_5,rfl,ge12_5⟩:=k73_openM hM12;have HP12:=Kd.S_seg hH12 (odt) (by have h_:(x4_1:Int) < ((x3_1.length:Int):Int):=odt;first|exact h_|(have e_:=(Kd.S_reads' HO_3.out).1;omega)|simpa using h_) (seg:=[.string t237,.string t238,.int .i64 t239,.int .i64 t240,.bool t241,(.slice sa243 t242.length sc243),.string t245]) (j:=0) (show 7 ≤ 7 from by decide) (x':=(⟨t237,t238,t239,t240,t241,t242,t245⟩:SiT29)) (k73_mkM _ _ _ (⟨t237,t238,t239,t240,t241,t242,t245⟩:SiT29) (Kd.R_mono (Kd.R_tight rfl (Kd.R_mono (ok':=fun k_=>((fun _=>True)) k_ ∧ k_ ≠ go10) (Kd.R_apart' (HO244.out) (Kd.S_typed HO_3.out) (by decide)) (fun k_ hk=>⟨trivial,fun e_=>(hk.2) (by rw [e_];rfl)⟩))) (fun _ h_=>Or.inr (h_)))) (fun _ hk=>hk) (fun k_ hk_=>((Kd.R_mono (ok':=fun k_=>((fun _=>True)) k_ ∧ k_ ≠ go10) (Kd.R_apart' (HO244.out) (Kd.S_typed HO_3.out) (by decide)) (fun k_ hk=>⟨trivial,fun e_=>(hk.2) (by rw [e_];rfl)⟩))).1 k_ hk_.symm);have hx12_0:=hcc12 0 _ rfl;(try simp only [show (k73).sz = 7 from rfl,Nat.mul_one,Nat.add_zero] at hx12_0);have hf12_0:=hfr12 0;(try simp only [show (k73).sz = 7 from rfl,Nat.mul_one,Nat.add_zero] at hf12_0);have hx12_1:=hcc12 1 _ rfl;(try simp only [show (k73).sz = 7 from rfl,Nat.mul_one,Nat.add_zero] at hx12_1);have hf12_1:=hfr12 1;(try simp only [show (k73).sz = 7 from rfl,Nat.mul_one,Nat.add_zero] at hf12_1);have hx12_2:=hcc12 2 _ rfl;(try simp only [show (k73).sz = 7 from rfl,Nat.mul_one,Nat.add_zero] at hx12_2);have hf12_2:=hfr12 2;(try simp only [show (k73).sz = 7 from rfl,Nat.mul_one,Nat.add_zero] at hf12_2);have hx12_3:=hcc12 3 _ rfl;(try simp only [show (k73).sz = 7 from rfl,Nat.mul_one,Nat.add_zero] at hx12_3);have hf12_3:=hfr12 3;(try simp only [show (k73).sz = 7 from rfl,Nat.mul_one,Nat.add_zero] at hf12_3);have hx12_4:=hcc12 4 _ rfl;(try simp only [show (k73).sz = 7 from rfl,Nat.mul_one,Nat.add_zero] at hx12_4);have hf12_4:=hfr12 4;(try simp only [show (k73).sz = 7 from rfl,Nat.mul_one,Nat.add_zero] at hf12_4);have hx12_5:=hcc12 5 _ rfl;(try simp only [show (k73).sz = 7 from rfl,Nat.mul_one,Nat.add_zero] at hx12_5);have hf12_5:=hfr12 5;(try simp only [show (k73).sz = 7 from rfl,Nat.mul_one,Nat.add_zero] at hf12_5);have hx12_6:=hcc12 6 _ rfl;(try simp only [show (k73).sz = 7 from rfl,Nat.mul_one,Nat.add_zero] at hx12_6);have hf12_6:=hfr12 6;(try simp only [show (k73).sz = 7 from rfl,Nat.mul_one,Nat.add_zero] at hf12_6);clear hcl12 hcc12 hfr12 hM12 hoki12 hH12)|((with_reducible refine gate_store (t:=73) (p:=21) rfl ?_);refine store_event (t:=73) (p:=21) (v:=?vo_w13) (w1:=(((((((w11.setCell ⟨go10,(x4_1:Int).toNat * 7,none⟩ (.string t237)).setCell ⟨go10,(x4_1:Int).toNat * 7 + 1,none⟩ (.string t238)).setCell ⟨go10,(x4_1:Int).toNat * 7 + 2,none⟩ (.int .i64 t239)).setCell ⟨go10,(x4_1:Int).toNat * 7 + 3,none⟩ (.int .i64 t240)).setCell ⟨go10,(x4_1:Int).toNat * 7 + 4,none⟩ (.bool t241)).setCell ⟨go10,(x4_1:Int).toNat * 7 + 5,none⟩ ((.slice sa243 t242.length sc243))).setCell ⟨go10,(x4_1:Int).toNat * 7 + 6,none⟩ (.string t245))) ?hg ?ho ?hn ?hr ?_;(case ho=>rfl);(case hg=>rfl);(case hn=>rfl);(case hr=>first|(go_simp;done)|(go_simp;rfl));intro w13 hw;have hg:w11.grownBy w13 (some go10):=(by rw [hw];exact HP12.2);have hp_:Kd.S k73 73 w13 w.heap.size (fun _=>True) (.slice (some ⟨go10,0,none⟩) x3_1.length co10) y246:=(by rw [hw,Ny246.out];exact HP12.1);clear HP12;replace HO_3:=As0.mk (hp_);replace HB:=As0.mk ((by rw [hw];exact bst (bst (bst (bst (bst (bst (bst (HB.out) GB10.out) GB10.out) GB10.out) GB10.out) GB10.out) GB10.out) GB10.out:Below w.heap.size w w13));clear HO244 hg hw hp_))
             show _;go_roundg k1
             case measure=>have:=HK1.out;omega
             case rel=>exact ⟨(y246),(wrap64 (x4_1 + 1)),(by first|rfl|(simp;done)|(simp [*];done)),H',⟨by have:=HK1.out;omega⟩,⟨by (with_reducible repeat (first|apply Kd.Sal|apply Kd.SdN|apply Kd.S_drew));exact HO_3.out⟩,⟨by repeat (first|(with_reducible first|exact HB.out|apply bal|apply pbN|apply bd1)|exact HB.out)⟩⟩
           · rw [if_neg c9] at H
             exact absurd H (by simp)
         · rw [if_neg c7] at H
           exact absurd H (by simp)
       · rw [if_neg c6] at H
         have c6b0:decide (x4_1 < (l0.length:Int)) = false:=decide_eq_false c6;clear c6;obtain rfl:=Option.some.inj H
         go_wp2
         go_ret
         exact ⟨_,by first|rfl|(simp [errW_none,errW_some] <;> rfl)|(simp [*,errW_none,errW_some] <;> rfl),by (with_reducible repeat (first|apply Kd.Sal|apply Kd.SdN|apply Kd.S_drew));exact HO_3.out,by repeat (first|(with_reducible first|exact HB.out|apply bal|apply pbN|apply bd1)|exact HB.out)⟩
   · rw [if_neg c3] at H
     exact absurd H (by simp)
 · rw [if_neg c2] at H
   exact absurd H (by simp)
def laws_toPast.f (a0_0:Int) (a0_1:ByteArray) (a0_2:ByteArray) (a0_3:ByteArray):Option (Int × ByteArray × ByteArray × ByteArray):=some (a0_0,a0_1,a0_2,a0_3)
set_option maxHeartbeats 40000000 in
set_option maxRecDepth 100000 in
theorem laws_toPast.calls (a0_0:Int) (a0_1:ByteArray) (a0_2:ByteArray) (a0_3:ByteArray) (r1:Int) (r2:ByteArray) (r3:ByteArray) (r4:ByteArray) (w:World) (h:laws_toPast.f a0_0 a0_1 a0_2 a0_3 = some (r1,r2,r3,r4)) :
 Calls Tryd.prog 42 #[.agg #[.int .i64 a0_0,.string a0_1,.string a0_2,.string a0_3]] w fun e w'=>e = .returned (.agg #[.int .i64 r1,.string r2,.string r3,.string r4]) ∧ Below w.heap.size w w':=by
 have hu69:=Tryd.underlying69;have hu77:=Tryd.underlying77;have HB:=As0.mk (Below.refl w.heap.size w);have H:(some (a0_0,a0_1,a0_2,a0_3)) = some (r1,r2,r3,r4):=h;clear h;simp only [Option.some.injEq,Prod.mk.injEq] at H;obtain ⟨rfl,rfl,rfl,rfl⟩:=H
 go_enter Tryd.func42,Tryd.ntmps42
 go_wp2_with (first|((with_reducible refine gate_dst (N:=1) rfl ?_);refine bE 1 #[.int .i64 a0_0,.string a0_1,.string a0_2,.string a0_3] 69 ?_;intro gb247 hg w2 hbox hb;have BK247:=As0.mk (hbox);have GW247:=As0.mk ((by rw [hg];exact (bsz (by repeat (first|(with_reducible first|exact HB.out|apply bal|apply pbN|apply bd1)|exact HB.out))):w.heap.size ≤ gb247));have GE247:=GW247;replace HB:=As0.mk (b3 HB.out hb);clear hb hbox hg)|((with_reducible refine gate_dst (N:=2) rfl ?_);refine bE 2 #[.int .i64 0,.string ⟨#[]⟩,.string ⟨#[]⟩,.string ⟨#[]⟩] 77 ?_;intro gb248 hg w3 hbox hb;have BK248:=As0.mk (hbox);have GW248:=As0.mk ((by rw [hg];exact (bsz (by repeat (first|(with_reducible first|exact HB.out|apply bal|apply pbN|apply bd1|refine bst ?_ GE247.out)|exact HB.out))):w.heap.size ≤ gb248));have GE248:=GW248;replace HB:=As0.mk (bsp (by repeat (first|(with_reducible first|exact HB.out|apply bal|apply pbN|apply bd1|refine bst ?_ GE247.out)|exact HB.out)) hb);have NB247_248:=As0.mk ((by rw [hg];exact Nat.ne_of_lt (blk_lt (g:=gb247) (o:=.cells #[.int .i64 a0_0,.string a0_1,.string a0_2,.string a0_3] 69 (0,0)) (by (with_reducible repeat (first|refine bkN ?_ _|refine bkD ?_|refine bkA ?_ _));exact BK247.out)):gb247 ≠ gb248));have NB248_247:=As0.mk (Ne.symm NB247_248.out);replace BK247:=As0.mk (bb hb BK247.out);clear hb hbox hg)|((with_reducible refine gate_dst (N:=3) rfl ?_);refine bE 3 #[.int .i64 0,.string ⟨#[]⟩,.string ⟨#[]⟩,.string ⟨#[]⟩] 77 ?_;intro gb249 hg w4 hbox hb;have BK249:=As0.mk (hbox);have GW249:=As0.mk ((by rw [hg];exact (bsz (by repeat (first|(with_reducible first|exact HB.out|apply bal|apply pbN|apply bd1|refine bst ?_ GE247.out|refine bst ?_ GE248.out)|exact HB.out))):w.heap.size ≤ gb249));have GE249:=GW249;replace HB:=As0.mk (bsp (by repeat (first|(with_reducible first|exact HB.out|apply bal|apply pbN|apply bd1|refine bst ?_ GE247.out|refine bst ?_ GE248.out)|exact HB.out)) hb);have NB247_249:=As0.mk ((by rw [hg];exact Nat.ne_of_lt (blk_lt (g:=gb247) (o:=.cells #[.int .i64 a0_0,.string a0_1,.string a0_2,.string a0_3] 69 (0,0)) (by (with_reducible repeat (first|refine bkN ?_ _|refine bkD ?_|refine bkA ?_ _));exact BK247.out)):gb247 ≠ gb249));have NB249_247:=As0.mk (Ne.symm NB247_249.out);replace BK247:=As0.mk (bb hb BK247.out);have NB248_249:=As0.mk ((by rw [hg];exact Nat.ne_of_lt (blk_lt (g:=gb248) (o:=.cells #[.int .i64 0,.string ⟨#[]⟩,.string ⟨#[]⟩,.string ⟨#[]⟩] 77 (0,0)) (by (with_reducible repeat (first|refine bkN ?_ _|refine bkD ?_|refine bkA ?_ _));exact BK248.out)):gb248 ≠ gb249));have NB249_248:=As0.mk (Ne.symm NB248_249.out);replace BK248:=As0.mk (bb hb BK248.out);clear hb hbox hg;have hnb5:=NB247_248.out;have hnc5:=NB248_247.out;have hnb6:=NB247_249.out;have hnc6:=NB249_247.out;obtain ⟨hcz7_0,hcz7_1,hcz7_2,hcz7_3⟩:=qc4 BK247.out;obtain ⟨hfz7_0,hfz7_1,hfz7_2,hfz7_3⟩:=qz4 BK247.out;have hnb8:=NB249_248.out;have hnc8:=NB248_249.out;obtain ⟨hcz9_0,hcz9_1,hcz9_2,hcz9_3⟩:=qc4 BK249.out;obtain ⟨hfz9_0,hfz9_1,hfz9_2,hfz9_3⟩:=qz4 BK249.out;obtain ⟨hcz10_0,hcz10_1,hcz10_2,hcz10_3⟩:=qc4 BK248.out;obtain ⟨hfz10_0,hfz10_1,hfz10_2,hfz10_3⟩:=qz4 BK248.out))
 refine bodyPost_ret (results_cell_row rfl _ _ gb248 77 #[.int .i64 a0_0,.string a0_1,.string a0_2,.string a0_3] (0,0) _ rfl (by (with_reducible repeat (first|refine bkN ?_ _|refine bkD ?_|refine bkA ?_ _));refine blk_put (cs:=#[.int .i64 a0_0,.string a0_1,.string a0_2,.string ⟨#[]⟩]) ?_ 3 _ rfl;(with_reducible repeat (first|refine bkN ?_ _|refine bkD ?_|refine bkA ?_ _));refine blk_put (cs:=#[.int .i64 a0_0,.string a0_1,.string ⟨#[]⟩,.string ⟨#[]⟩]) ?_ 2 _ rfl;(with_reducible repeat (first|refine bkN ?_ _|refine bkD ?_|refine bkA ?_ _));refine blk_put (cs:=#[.int .i64 a0_0,.string ⟨#[]⟩,.string ⟨#[]⟩,.string ⟨#[]⟩]) ?_ 1 _ rfl;(with_reducible repeat (first|refine bkN ?_ _|refine bkD ?_|refine bkA ?_ _));refine blk_put (cs:=#[.int .i64 0,.string ⟨#[]⟩,.string ⟨#[]⟩,.string ⟨#[]⟩]) ?_ 0 _ rfl;(with_reducible repeat (first|refine bkN ?_ _|refine bkD ?_|refine bkA ?_ _));refine blk_far ?_ NB248_249.out _;(with_reducible repeat (first|refine bkN ?_ _|refine bkD ?_|refine bkA ?_ _));refine blk_far ?_ NB248_249.out _;(with_reducible repeat (first|refine bkN ?_ _|refine bkD ?_|refine bkA ?_ _));refine blk_far ?_ NB248_249.out _;(with_reducible repeat (first|refine bkN ?_ _|refine bkD ?_|refine bkA ?_ _));refine blk_far ?_ NB248_249.out _;(with_reducible repeat (first|refine bkN ?_ _|refine bkD ?_|refine bkA ?_ _));exact BK248.out) Tryd.underlying77 rfl (by kernel_rfl)) rfl ?_
 exact ⟨eW,by repeat (first|(with_reducible first|exact HB.out|apply bal|apply pbN|apply bd1|refine bst ?_ GE247.out|refine bst ?_ GE248.out|refine bst ?_ GE249.out)|exact HB.out)⟩
end Go.Proofs.YtclgmogfkoinbaaDoor.P
