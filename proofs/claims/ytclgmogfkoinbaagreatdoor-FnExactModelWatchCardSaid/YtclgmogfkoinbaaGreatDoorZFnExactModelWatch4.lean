/- Functions of the law FnExactModelWatch as_ plain Lean functions, and that the machine's calls do what they say. -/
import Derived.Test.YtclgmogfkoinbaaGreatDoorZFnExactModelWatch0
import Derived.Test.YtclgmogfkoinbaaGreatDoorZFnExactModelWatch3
import Derived.Test.YtclgmogfkoinbaaGreatDoorZFnExactModelWatchW0
import Derived.Deep.Quiet
import Derived.BigQuiet
namespace Go.Proofs.YtclgmogfkoinbaaGreatDoor.P
open Go.RowKit Go.Proofs.YtclgmogfkoinbaaGreatDoorW.PrintWords Go.Proofs.YtclgmogfkoinbaaGreatDoorW.PrintLast Go.Proofs.YtclgmogfkoinbaaGreatDoorW.PrintMore
attribute [local go_sem] max2_int min2_int max_two min_two max_three min_three max_four min_four
set_option linter.unusedVariables false
set_option linter.unusedSimpArgs false
mutual
def impl_areSpaces.j0:Nat → List (SiS28) → Bool → Option (Bool)
 |0,_,_=>none
 |k + 1,x0,x16=>if x16 = true then (some false) else (impl_areSpaces.l0 k x0 x0 (x0.length:Int) 0)
def impl_areSpaces.l0:Nat → List (SiS28) → List (SiS28) → Int → Int → Option (Bool)
 |0,_,_,_,_=>none
 |k + 1,x0,x17,x18,x19=>if x19 < x18 then (if 0 ≤ x19 then (if x19 < (x17.length:Int) then ((impl_isSpace.f k ((riS37 x17 x19).f0) ((riS37 x17 x19).f1) ((riS37 x17 x19).f2) ((riS37 x17 x19).f3) ((riS37 x17 x19).f4)).bind fun t110=>(if t110 = true then (if x19 > 0 then (if 0 ≤ (wrap64 (x19 - 1)) then (if (wrap64 (x19 - 1)) < (x0.length:Int) then (if ((Op.bytesLess (((riS37 x0 (wrap64 (x19 - 1))).f0).toList) (((riS37 x17 x19).f0).toList)) = true) then (impl_areSpaces.l0 k x0 x17 x18 (wrap64 (x19 + 1))) else (some false)) else (none)) else (none)) else (impl_areSpaces.l0 k x0 x17 x18 (wrap64 (x19 + 1)))) else (some false))) else (none)) else (none)) else (impl_areSpaces.l1 k x0 x0 (x0.length:Int) 0)
def impl_areSpaces.l1:Nat → List (SiS28) → List (SiS28) → Int → Int → Option (Bool)
 |0,_,_,_,_=>none
 |k + 1,x0,x43,x44,x45=>if x45 < x44 then (if 0 ≤ x45 then (if x45 < (x43.length:Int) then (impl_areSpaces.l2 k x0 x43 x44 x45 (x0.length:Int) 0 ((riS37 x43 x45).f0) ((riS37 x43 x45).f1) ((riS37 x43 x45).f2) ((riS37 x43 x45).f3) ((riS37 x43 x45).f4)) else (none)) else (none)) else (some true)
def impl_areSpaces.l2:Nat → List (SiS28) → List (SiS28) → Int → Int → Int → Int → ByteArray → ByteArray → Int → Bool → Int → Option (Bool)
 |0,_,_,_,_,_,_,_,_,_,_,_=>none
 |k + 1,x0,x43,x44,x45,x51,x52,x115000,x115001,x115002,x115003,x115004=>if x52 < x51 then ((impl_findSpace.f x0 x115001).bind fun t115=>(if t115 ≥ 0 then (if 0 ≤ t115 then (if t115 < (x0.length:Int) then (impl_areSpaces.l2 k x0 x43 x44 x45 x51 (wrap64 (x52 + 1)) ((riS37 x0 t115).f0) ((riS37 x0 t115).f1) ((riS37 x0 t115).f2) ((riS37 x0 t115).f3) ((riS37 x0 t115).f4)) else (none)) else (none)) else (impl_areSpaces.l2 k x0 x43 x44 x45 x51 (wrap64 (x52 + 1)) x115000 x115001 x115002 x115003 x115004))) else (if x115000.toList = ([97,108,108]:List UInt8) then (impl_areSpaces.l1 k x0 x43 x44 (wrap64 (x45 + 1))) else (some false))
end
def impl_areSpaces.f (k:Nat) (l0:List (SiS28)):Option (Bool):=if (l0.length:Int) < 1 then (impl_areSpaces.j0 k l0 true) else (impl_areSpaces.j0 k l0 (decide ((l0.length:Int) > 7)))
def impl_areSpaces.T6:Bool × List (List Nat × List Nat):=(true,[([],[]),([0],[0]),([1],[1]),([2,1],[2]),([3],[3]),([4,3],[3,4]),([5,3,3],[3,5]),([6],[6]),([6],[6]),([8,6],[6,8]),([7,9,6],[6,7,9]),([10,6],[6,10]),([11,6],[6,11]),([6],[6]),([13,6],[6,13]),([12,14,6],[6,12,14]),([6,15,3],[3,6,15]),([3,16],[3,16])])
def impl_areSpaces.B6:List Nat:=[0,1,3,7,15,31,63,127,127,383,1023,2047,4095,127,8319,32767,65535,131071]
theorem impl_areSpaces.tab6:rtab .any (opsOf Tryz.f61 6) = impl_areSpaces.T6:=by kernel_rfl
theorem impl_areSpaces.bits6:waitsOk impl_areSpaces.T6.2 impl_areSpaces.B6 = true:=by kernel_rfl
abbrev impl_areSpaces.calls.a0:Array Bool:=#[false,false,false,false,false,false,false,false,false,false,false,false,false,false,false,false,false,false]
abbrev impl_areSpaces.calls.a1:Array Bool:=#[true,false,false,false,false,false,false,false,false,false,false,false,false,false,false,false,false,false]
abbrev impl_areSpaces.calls.a2:Array Bool:=#[true,true,false,false,false,false,false,false,false,false,false,false,false,false,false,false,false,false]
abbrev impl_areSpaces.calls.a3:Array Bool:=#[true,true,true,false,false,false,false,false,false,false,false,false,false,false,false,false,false,false]
abbrev impl_areSpaces.calls.a4:Array Bool:=#[true,true,true,true,false,false,false,false,false,false,false,false,false,false,false,false,false,false]
abbrev impl_areSpaces.calls.a5:Array Bool:=#[true,true,true,true,true,false,false,false,false,false,false,false,false,false,false,false,false,false]
abbrev impl_areSpaces.calls.a6:Array Bool:=#[true,true,true,true,true,true,false,false,false,false,false,false,false,false,false,false,false,false]
abbrev impl_areSpaces.calls.a7:Array Bool:=#[true,true,true,true,true,true,true,false,false,false,false,false,false,false,false,false,false,false]
abbrev impl_areSpaces.calls.a8:Array Bool:=#[true,true,true,true,true,true,true,true,false,false,false,false,false,false,false,false,false,false]
abbrev impl_areSpaces.calls.a9:Array Bool:=#[true,true,true,true,true,true,true,true,true,false,false,false,false,false,false,false,false,false]
abbrev impl_areSpaces.calls.a10:Array Bool:=#[true,true,true,true,true,true,true,true,true,true,false,false,false,false,false,false,false,false]
abbrev impl_areSpaces.calls.a11:Array Bool:=#[true,true,true,true,true,true,true,true,true,true,true,false,false,false,false,false,false,false]
abbrev impl_areSpaces.calls.a12:Array Bool:=#[true,true,true,true,true,true,true,true,true,true,true,true,false,false,false,false,false,false]
abbrev impl_areSpaces.calls.a13:Array Bool:=#[true,true,true,true,true,true,true,true,true,true,true,true,true,true,false,false,false,false]
abbrev impl_areSpaces.calls.a14:Array Bool:=#[true,true,true,true,true,true,true,true,true,true,true,true,true,true,true,false,false,false]
abbrev impl_areSpaces.calls.a15:Array Bool:=#[true,true,true,true,true,true,true,true,true,true,true,true,true,true,true,true,false,false]
abbrev impl_areSpaces.calls.a16:Array Bool:=#[true,true,true,true,true,true,true,true,true,true,true,true,true,true,true,true,true,false]
abbrev impl_areSpaces.calls.a17:Array Bool:=#[true,true,true,true,true,true,true,true,true,true,true,true,true,true,true,true,true,true]
set_option maxHeartbeats 40000000 in
set_option maxRecDepth 100000 in
theorem impl_areSpaces.calls (k:Nat) (A0:Option Addr) (c0:Nat) (l0:List (SiS28)) (r:Bool) (w:World) (hr0:Kd.C k70 w A0 l0.length l0) (hc0:l0.length ≤ c0) (h:impl_areSpaces.f k l0 = some r) :
 Calls Tryz.prog 61 #[.slice A0 l0.length c0] w fun e w'=>e = .returned (.bool r) ∧ Below w.heap.size w w':=by
 have hu70:=Tryz.underlying70;have HR0:=As0.mk hr0;have HC0:=As0.mk hc0;clear hr0 hc0;have HB:=As0.mk (Below.refl w.heap.size w);have H:(if (l0.length:Int) < 1 then (impl_areSpaces.j0 k l0 true) else (impl_areSpaces.j0 k l0 (decide ((l0.length:Int) > 7)))) = some r:=h;clear h;have HC2:=As0.mk H;clear H
 go_enter Tryz.func61,Tryz.ntmps61
 show _;go_upto_region 1 with (fail)
 show _;go_cut [16] (fun v16 wc=>∃ (kq:Nat) (x16_1:Bool),v16 = .bool x16_1 ∧ As0 (impl_areSpaces.j0 kq l0 x16_1 = some r) ∧ As0 (kq ≤ k) ∧ As0 (Below w.heap.size w wc))
 case first=>
  have H:=HC2.out;clear HC2;by_cases c3:(l0.length:Int) < 1
  · rw [if_pos c3] at H
    have c3b0:decide ((l0.length:Int) < 1) = true:=decide_eq_true c3;have c3b1:decide (l0.length < 1) = true:=decide_eq_true (by omega);clear c3
    (first|rw [c3b0]|(simp only [i64_w,i32_w];rw [c3b0])|skip)
    have H':=As0.mk H;clear H
    go_wp2
    show _;go_meet
    case rel=>exact ⟨_,(true),(by first|rfl|(simp;done)|(simp [*];done)),H',⟨by first|omega|exact Nat.le_refl _⟩,⟨by repeat (first|(with_reducible first|exact HB.out|apply bal|apply pbN|apply bd1)|exact HB.out)⟩⟩
  · rw [if_neg c3] at H
    have c3b0:decide ((l0.length:Int) < 1) = false:=decide_eq_false c3;have c3b1:decide (l0.length < 1) = false:=decide_eq_false (by omega);clear c3
    (first|rw [c3b0]|(simp only [i64_w,i32_w];rw [c3b0])|skip)
    have H':=As0.mk H;clear H
    go_wp2
    show _;go_meet
    case rel=>exact ⟨_,(decide ((l0.length:Int) > 7)),(by first|rfl|(simp;done)|(simp [*];done)),H',⟨by first|omega|exact Nat.le_refl _⟩,⟨by repeat (first|(with_reducible first|exact HB.out|apply bal|apply pbN|apply bd1)|exact HB.out)⟩⟩
 case rest=>
  clear HC2
  try clear p2
  try clear c3
  try clear c3b0
  try clear c3b1
  obtain ⟨kq,x16_1,rfl,HA,HJ1,HB⟩:=hcut
  cases kq with
  |zero=>exact absurd HA.out (by simp [impl_areSpaces.j0])
  |succ kj1=>
   have H:=HA.out;clear HA;simp only [impl_areSpaces.j0] at H;by_cases c4:x16_1 = true
   · subst c4
     have H1:(some false) = some r:=by rw [if_pos rfl] at H;exact H
     clear H;have H:=H1;clear H1;obtain rfl:=Option.some.inj H
     go_wp2
     go_ret
     exact ⟨eW,by repeat (first|(with_reducible first|exact HB.out|apply bal|apply pbN|apply bd1)|exact HB.out)⟩
   · replace c4:=Bool.eq_false_iff.mpr c4
     subst c4;have H1:(impl_areSpaces.l0 kj1 l0 l0 (l0.length:Int) 0) = some r:=by rw [if_neg (show ¬ (false = true) by decide)] at H;exact H
     clear H;have H:=H1;clear H1;have H':=As0.mk H;clear H
     go_wp2
     show _;go_loopg [19] kj1 (fun kq v19 w'=>∃ (x19_2:Int),v19 = .int .i64 x19_2 ∧ As0 (impl_areSpaces.l0 kq l0 l0 (l0.length:Int) x19_2 = some r) ∧ As0 (kq ≤ kj1) ∧ As0 (Below w.heap.size w w'))
     case atStart=>exact ⟨(0),(by first|rfl|(simp;done)|(simp [*];done)),H',⟨Nat.le_refl _⟩,⟨by repeat (first|(with_reducible first|exact HB.out|apply bal|apply pbN|apply bd1)|exact HB.out)⟩⟩
     case round=>
      clear H'
      try clear p2
      try clear c3
      try clear c3b0
      try clear c3b1
      try clear c4
      try clear p2
      obtain ⟨x19_2,rfl,HA,HK2,HB⟩:=hrel
      cases gk with
      |zero=>exact absurd HA.out (by simp [impl_areSpaces.l0])
      |succ k2=>
       have H:=HA.out;clear HA;simp only [impl_areSpaces.l0] at H;by_cases c5:x19_2 < (l0.length:Int)
       · rw [if_pos c5] at H
         have c5b0:decide (x19_2 < (l0.length:Int)) = true:=decide_eq_true c5;clear c5;by_cases c6:0 ≤ x19_2
         · rw [if_pos c6] at H
           have c6b0:decide (0 ≤ x19_2) = true:=decide_eq_true c6;clear c6;by_cases c7:x19_2 < (l0.length:Int)
           · rw [if_pos c7] at H
             have c7b0:decide (x19_2 < (l0.length:Int)) = true:=decide_eq_true c7;clear c7;replace H:=Option.bind_eq_some_iff.mp H;obtain ⟨t110,A80,H⟩:=H;(try dsimp only at H);have A8:=As0.mk A80;clear A80;by_cases c9:t110 = true
             · subst c9
               have H1:(if x19_2 > 0 then (if 0 ≤ (wrap64 (x19_2 - 1)) then (if (wrap64 (x19_2 - 1)) < (l0.length:Int) then (if ((Op.bytesLess (((riS37 l0 (wrap64 (x19_2 - 1))).f0).toList) (((riS37 l0 x19_2).f0).toList)) = true) then (impl_areSpaces.l0 k2 l0 l0 (l0.length:Int) (wrap64 (x19_2 + 1))) else (some false)) else (none)) else (none)) else (impl_areSpaces.l0 k2 l0 l0 (l0.length:Int) (wrap64 (x19_2 + 1)))) = some r:=by rw [if_pos rfl] at H;exact H
               clear H;have H:=H1;clear H1;by_cases c10:x19_2 > 0
               · rw [if_pos c10] at H
                 have c10b0:decide (0 < x19_2) = true:=decide_eq_true c10;clear c10;obtain ⟨ji11,hji11⟩:∃ j_:Int,(wrap64 (x19_2 - 1)) = j_:=⟨_,rfl⟩;replace H:(if 0 ≤ (ji11) then (if (ji11) < (l0.length:Int) then (if ((Op.bytesLess (((riS37 l0 (ji11)).f0).toList) (((riS37 l0 x19_2).f0).toList)) = true) then (impl_areSpaces.l0 k2 l0 l0 (l0.length:Int) (wrap64 (x19_2 + 1))) else (some false)) else (none)) else (none)) = some r:=by first|(rw [hji11] at H;exact H)|(simp only [hji11] at H ⊢;exact H)
                 (try rw [hji11] at A8)
                 have hji11w:(IntKind.i64.wrap (x19_2 - 1)) = ji11:=(i64_w _).trans hji11;by_cases c12:0 ≤ (ji11)
                 · rw [if_pos c12] at H
                   have c12b0:decide (0 ≤ (ji11)) = true:=decide_eq_true c12;clear c12;by_cases c13:(ji11) < (l0.length:Int)
                   · rw [if_pos c13] at H
                     have c13b0:decide ((ji11) < (l0.length:Int)) = true:=decide_eq_true c13;clear c13;by_cases c14:((Op.bytesLess (((riS37 l0 (ji11)).f0).toList) (((riS37 l0 x19_2).f0).toList)) = true)
                     · rw [if_pos c14] at H
                       have c14b0:(Op.bytesLess (((riS37 l0 (ji11)).f0).toList) (((riS37 l0 x19_2).f0).toList)) = true:=c14;clear c14;have H':=As0.mk H;clear H;have p108:0 ≤ (x19_2:Int):=odt;have q108:x19_2 < (l0.length:Int):=odt;obtain ⟨ad108,e108,hx108_0,hx108_1,hx108_2,hx108_3,hx108_4⟩:=at_T70 HR0.out x19_2 p108 q108
                       cases e108
                       replace hx108_0:=bx HB.out rfl hx108_0;replace hx108_1:=bx HB.out rfl hx108_1;replace hx108_2:=bx HB.out rfl hx108_2;replace hx108_3:=bx HB.out rfl hx108_3;replace hx108_4:=bx HB.out rfl hx108_4;replace p108:=eq_true p108;replace q108:=eq_true q108
                       try go_wp2_with (first|((with_reducible refine gate_dst (N:=4) rfl ?_);(try (refine gate_guard (by rfl) ?_;dsimp only));refine bE 4 #[.string ⟨#[]⟩,.string ⟨#[]⟩,.int .i64 0,.bool false,.int .i64 0] 70 ?_;intro gb109 hg w15 hbox hb;have BK109:=As0.mk (hbox);have GW109:=As0.mk ((by rw [hg];exact (bsz (by repeat (first|(with_reducible first|exact HB.out|apply bal|apply pbN|apply bd1)|exact HB.out))):w.heap.size ≤ gb109));have GE109:=GW109;replace HB:=As0.mk (b3 HB.out hb);clear hb hbox hg;obtain ⟨hcz16_0,hcz16_1,hcz16_2,hcz16_3,hcz16_4⟩:=qc5 BK109.out;obtain ⟨hfz16_0,hfz16_1,hfz16_2,hfz16_3,hfz16_4⟩:=qz5 BK109.out))
                       have n0_:As0 ((((((w15.setCell ⟨gb109,0,none⟩ (.string ((riS37 l0 x19_2).f0))).setCell ⟨gb109,1,none⟩ (.string ((riS37 l0 x19_2).f1))).setCell ⟨gb109,2,none⟩ (.int .i64 ((riS37 l0 x19_2).f2))).setCell ⟨gb109,3,none⟩ (.bool ((riS37 l0 x19_2).f3))).setCell ⟨gb109,4,none⟩ (.int .i64 ((riS37 l0 x19_2).f4))).heap[gb109]? = some (.cells #[.string ((riS37 l0 x19_2).f0),.string ((riS37 l0 x19_2).f1),.int .i64 ((riS37 l0 x19_2).f2),.bool ((riS37 l0 x19_2).f3),.int .i64 ((riS37 l0 x19_2).f4)] 70 (0,0))):=⟨by (with_reducible repeat (first|refine bkN ?_ _|refine bkD ?_|refine bkA ?_ _));refine blk_put (cs:=#[.string ((riS37 l0 x19_2).f0),.string ((riS37 l0 x19_2).f1),.int .i64 ((riS37 l0 x19_2).f2),.bool ((riS37 l0 x19_2).f3),.int .i64 0]) ?_ 4 _ rfl;(with_reducible repeat (first|refine bkN ?_ _|refine bkD ?_|refine bkA ?_ _));refine blk_put (cs:=#[.string ((riS37 l0 x19_2).f0),.string ((riS37 l0 x19_2).f1),.int .i64 ((riS37 l0 x19_2).f2),.bool false,.int .i64 0]) ?_ 3 _ rfl;(with_reducible repeat (first|refine bkN ?_ _|refine bkD ?_|refine bkA ?_ _));refine blk_put (cs:=#[.string ((riS37 l0 x19_2).f0),.string ((riS37 l0 x19_2).f1),.int .i64 0,.bool false,.int .i64 0]) ?_ 2 _ rfl;(with_reducible repeat (first|refine bkN ?_ _|refine bkD ?_|refine bkA ?_ _));refine blk_put (cs:=#[.string ((riS37 l0 x19_2).f0),.string ⟨#[]⟩,.int .i64 0,.bool false,.int .i64 0]) ?_ 1 _ rfl;(with_reducible repeat (first|refine bkN ?_ _|refine bkD ?_|refine bkA ?_ _));refine blk_put (cs:=#[.string ⟨#[]⟩,.string ⟨#[]⟩,.int .i64 0,.bool false,.int .i64 0]) ?_ 0 _ rfl;(with_reducible repeat (first|refine bkN ?_ _|refine bkD ?_|refine bkA ?_ _));exact BK109.out⟩;have n1_:As0 (Below w.heap.size w (((((w15.setCell ⟨gb109,0,none⟩ (.string ((riS37 l0 x19_2).f0))).setCell ⟨gb109,1,none⟩ (.string ((riS37 l0 x19_2).f1))).setCell ⟨gb109,2,none⟩ (.int .i64 ((riS37 l0 x19_2).f2))).setCell ⟨gb109,3,none⟩ (.bool ((riS37 l0 x19_2).f3))).setCell ⟨gb109,4,none⟩ (.int .i64 ((riS37 l0 x19_2).f4)))):=⟨by repeat (first|(with_reducible first|exact HB.out|apply bal|apply pbN|apply bd1|refine bst ?_ GE109.out)|exact HB.out)⟩
                       (try clear BK109)
                       (try clear HB)
                       (try rw [Opens.setCell_drewN])
                       generalize (((((w15.setCell ⟨gb109,0,none⟩ (.string ((riS37 l0 x19_2).f0))).setCell ⟨gb109,1,none⟩ (.string ((riS37 l0 x19_2).f1))).setCell ⟨gb109,2,none⟩ (.int .i64 ((riS37 l0 x19_2).f2))).setCell ⟨gb109,3,none⟩ (.bool ((riS37 l0 x19_2).f3))).setCell ⟨gb109,4,none⟩ (.int .i64 ((riS37 l0 x19_2).f4))) = w17 at n0_ n1_ ⊢
                       have BK109:=n0_;have HB:=n1_;clear n0_ n1_;replace BK109:=As0.mk (bkD BK109.out);replace HB:=As0.mk (bd1 HB.out);have p111:0 ≤ ((ji11):Int):=odt;have q111:(ji11) < (l0.length:Int):=odt;obtain ⟨ad111,e111,hx111_0,hx111_1,hx111_2,hx111_3,hx111_4⟩:=at_T70 HR0.out (ji11) p111 q111;have hw111_4:=hx111_4;have hw111_3:=hx111_3;have hw111_2:=hx111_2;have hw111_1:=hx111_1;have hw111_0:=hx111_0;obtain rfl:ad108 = ad111:=(by injection e111);replace hx111_0:=bx HB.out rfl hx111_0;replace hx111_1:=bx HB.out rfl hx111_1;replace hx111_2:=bx HB.out rfl hx111_2;replace hx111_3:=bx HB.out rfl hx111_3;replace hx111_4:=bx HB.out rfl hx111_4;replace p111:=eq_true p111;replace q111:=eq_true q111;refine start_ (n:=18) (S:=fun w'=>w'.cell? ⟨gb109,0,none⟩ = some (.string ((riS37 l0 x19_2).f0)) ∧ w'.cell? ⟨gb109,1,none⟩ = some (.string ((riS37 l0 x19_2).f1)) ∧ w'.cell? ⟨gb109,2,none⟩ = some (.int .i64 ((riS37 l0 x19_2).f2)) ∧ w'.cell? ⟨gb109,3,none⟩ = some (.bool ((riS37 l0 x19_2).f3)) ∧ w'.cell? ⟨gb109,4,none⟩ = some (.int .i64 ((riS37 l0 x19_2).f4)) ∧ w'.cell? (ad108.add (((ji11)).toNat * 5)) = some (.string ((riS37 l0 (ji11)).f0)) ∧ w'.cell? ⟨(ad108.add (((ji11)).toNat * 5)).block,(ad108.add (((ji11)).toNat * 5)).off + 1,none⟩ = some (.string ((riS37 l0 (ji11)).f1)) ∧ w'.cell? ⟨(ad108.add (((ji11)).toNat * 5)).block,(ad108.add (((ji11)).toNat * 5)).off + 2,none⟩ = some (.int .i64 ((riS37 l0 (ji11)).f2)) ∧ w'.cell? ⟨(ad108.add (((ji11)).toNat * 5)).block,(ad108.add (((ji11)).toNat * 5)).off + 3,none⟩ = some (.bool ((riS37 l0 (ji11)).f3)) ∧ w'.cell? ⟨(ad108.add (((ji11)).toNat * 5)).block,(ad108.add (((ji11)).toNat * 5)).off + 4,none⟩ = some (.int .i64 ((riS37 l0 (ji11)).f4))) (ds:=[]) impl_areSpaces.calls.a0 (by kernel_rfl) rfl rfl ⟨(bkC BK109.out 0).trans rfl,(bkC BK109.out 1).trans rfl,(bkC BK109.out 2).trans rfl,(bkC BK109.out 3).trans rfl,(bkC BK109.out 4).trans rfl,((HB.out.cell (World.block_lt_of_cell? w _ hw111_0)).trans hw111_0),((HB.out.cell (World.block_lt_of_cell? w _ hw111_1)).trans hw111_1),((HB.out.cell (World.block_lt_of_cell? w _ hw111_2)).trans hw111_2),((HB.out.cell (World.block_lt_of_cell? w _ hw111_3)).trans hw111_3),((HB.out.cell (World.block_lt_of_cell? w _ hw111_4)).trans hw111_4)⟩ (fun hHeld=>?_);refine with_tabW impl_areSpaces.tab6 impl_areSpaces.bits6 (fun HT_ HW_=>?_);generalize w17.drew = w18 at BK109 HB hx111_0 hx111_1 hx111_2 hx111_3 hx111_4 hHeld ⊢
                       refine tk 0 (some 24) impl_areSpaces.calls.a1 rfl rfl HT_.out HW_.out hHeld (by rintro w' ⟨s0,s1,s2,s3,s4,s5,s6,s7,s8,s9⟩;go_simp;with_reducible rfl) ?_;refine one_ (i:=1) (N:=some 25) impl_areSpaces.calls.a2 rfl rfl (one_of HT_.out (by kernel_rfl)) (by decide) (fun K hK=>?_);refine goes_ Tryz.func96 (by kernel_rfl) rfl #[.agg #[.string ((riS37 l0 x19_2).f0),.string ((riS37 l0 x19_2).f1),.int .i64 ((riS37 l0 x19_2).f2),.bool ((riS37 l0 x19_2).f3),.int .i64 ((riS37 l0 x19_2).f4)]] (by rfl) rfl rfl (by (try simp only [List.map_toArray,List.map_cons,List.map_nil]);first|done|rfl|(simp only [List.length_drop,List.length_take];rfl)) ?_;with_reducible refine (impl_isSpace.calls k2 ((riS37 l0 x19_2).f0) ((riS37 l0 x19_2).f1) ((riS37 l0 x19_2).f2) ((riS37 l0 x19_2).f3) ((riS37 l0 x19_2).f4) true _ A8.out).mono ?_
                       rintro e w19 ⟨rfl,hb⟩;refine ⟨_,rfl,?_⟩;replace BK109:=As0.mk (bb hb BK109.out);replace HB:=As0.mk (bsp (by repeat (first|(with_reducible first|exact HB.out|apply bal|apply pbN|apply bd1|refine bst ?_ GE109.out)|exact HB.out)) hb)
                            
                            
                            
                            
                       refine hK.out _ _ ⟨(bkC BK109.out 0).trans rfl,(bkC BK109.out 1).trans rfl,(bkC BK109.out 2).trans rfl,(bkC BK109.out 3).trans rfl,(bkC BK109.out 4).trans rfl,((HB.out.cell (World.block_lt_of_cell? w _ hw111_0)).trans hw111_0),((HB.out.cell (World.block_lt_of_cell? w _ hw111_1)).trans hw111_1),((HB.out.cell (World.block_lt_of_cell? w _ hw111_2)).trans hw111_2),((HB.out.cell (World.block_lt_of_cell? w _ hw111_3)).trans hw111_3),((HB.out.cell (World.block_lt_of_cell? w _ hw111_4)).trans hw111_4)⟩ (fun hHeld=>?_);clear hK K;refine norm_ (a':=?_) ?_ ?_;rotate_left
                       · show Act.put _ (some 25) _ = _
                         simp only [Act.put,sA,sZ,sS,i64_w,i32_w];rfl
                       refine pu 2 (some 26) impl_areSpaces.calls.a3 rfl rfl HT_.out ?_;refine pu 3 (some 27) impl_areSpaces.calls.a4 rfl rfl HT_.out ?_;refine pu 4 (some 28) impl_areSpaces.calls.a5 rfl rfl HT_.out ?_;refine pu 5 (some 29) impl_areSpaces.calls.a6 rfl rfl HT_.out ?_;refine pu 6 (some 30) impl_areSpaces.calls.a7 rfl rfl HT_.out ?_;refine pu 7 (some 31) impl_areSpaces.calls.a8 rfl rfl HT_.out ?_;refine pu 8 (some 32) impl_areSpaces.calls.a9 rfl rfl HT_.out ?_;refine pu 9 (some 33) impl_areSpaces.calls.a10 rfl rfl HT_.out ?_;refine pu 10 (some 34) impl_areSpaces.calls.a11 rfl rfl HT_.out ?_;refine pu 11 (some 35) impl_areSpaces.calls.a12 rfl rfl HT_.out ?_;refine pu 13 (some 37) #[true,true,true,true,true,true,true,true,true,true,true,true,false,true,false,false,false,false] rfl rfl HT_.out ?_;refine tk 12 (some 36) impl_areSpaces.calls.a13 rfl rfl HT_.out HW_.out hHeld (by rintro w' ⟨s0,s1,s2,s3,s4,s5,s6,s7,s8,s9⟩;go_simp;with_reducible rfl) ?_;refine tk 14 (some 38) impl_areSpaces.calls.a14 rfl rfl HT_.out HW_.out hHeld (by rintro w' ⟨s0,s1,s2,s3,s4,s5,s6,s7,s8,s9⟩;go_simp;with_reducible rfl) ?_;refine pu 15 (some 39) impl_areSpaces.calls.a15 rfl rfl HT_.out ?_;refine pu 16 (some 40) impl_areSpaces.calls.a16 rfl rfl HT_.out ?_;refine pu 17 (some 41) impl_areSpaces.calls.a17 rfl rfl HT_.out ?_;refine done_ (done_of HT_.out (by kernel_rfl)) ?_
                       try go_wp2
                       show _;go_roundg k2
                       case measure=>have:=HJ1.out;have:=HK2.out;omega
                       case rel=>exact ⟨(wrap64 (x19_2 + 1)),(by first|rfl|(simp;done)|(simp [*];done)),H',⟨by have:=HJ1.out;have:=HK2.out;omega⟩,⟨by repeat (first|(with_reducible first|exact HB.out|apply bal|apply pbN|apply bd1|refine bst ?_ GE109.out)|exact HB.out)⟩⟩
                     · rw [if_neg c14] at H
                       have c14b0:(Op.bytesLess (((riS37 l0 (ji11)).f0).toList) (((riS37 l0 x19_2).f0).toList)) = false:=by simpa using c14
                       clear c14;obtain rfl:=Option.some.inj H;have p108:0 ≤ (x19_2:Int):=odt;have q108:x19_2 < (l0.length:Int):=odt;obtain ⟨ad108,e108,hx108_0,hx108_1,hx108_2,hx108_3,hx108_4⟩:=at_T70 HR0.out x19_2 p108 q108
                       cases e108
                       replace hx108_0:=bx HB.out rfl hx108_0;replace hx108_1:=bx HB.out rfl hx108_1;replace hx108_2:=bx HB.out rfl hx108_2;replace hx108_3:=bx HB.out rfl hx108_3;replace hx108_4:=bx HB.out rfl hx108_4;replace p108:=eq_true p108;replace q108:=eq_true q108
                       try go_wp2_with (first|((with_reducible refine gate_dst (N:=4) rfl ?_);(try (refine gate_guard (by rfl) ?_;dsimp only));refine bE 4 #[.string ⟨#[]⟩,.string ⟨#[]⟩,.int .i64 0,.bool false,.int .i64 0] 70 ?_;intro gb109 hg w20 hbox hb;have BK109:=As0.mk (hbox);have GW109:=As0.mk ((by rw [hg];exact (bsz (by repeat (first|(with_reducible first|exact HB.out|apply bal|apply pbN|apply bd1)|exact HB.out))):w.heap.size ≤ gb109));have GE109:=GW109;replace HB:=As0.mk (b3 HB.out hb);clear hb hbox hg;obtain ⟨hcz21_0,hcz21_1,hcz21_2,hcz21_3,hcz21_4⟩:=qc5 BK109.out;obtain ⟨hfz21_0,hfz21_1,hfz21_2,hfz21_3,hfz21_4⟩:=qz5 BK109.out))
                       have n0_:As0 ((((((w20.setCell ⟨gb109,0,none⟩ (.string ((riS37 l0 x19_2).f0))).setCell ⟨gb109,1,none⟩ (.string ((riS37 l0 x19_2).f1))).setCell ⟨gb109,2,none⟩ (.int .i64 ((riS37 l0 x19_2).f2))).setCell ⟨gb109,3,none⟩ (.bool ((riS37 l0 x19_2).f3))).setCell ⟨gb109,4,none⟩ (.int .i64 ((riS37 l0 x19_2).f4))).heap[gb109]? = some (.cells #[.string ((riS37 l0 x19_2).f0),.string ((riS37 l0 x19_2).f1),.int .i64 ((riS37 l0 x19_2).f2),.bool ((riS37 l0 x19_2).f3),.int .i64 ((riS37 l0 x19_2).f4)] 70 (0,0))):=⟨by (with_reducible repeat (first|refine bkN ?_ _|refine bkD ?_|refine bkA ?_ _));refine blk_put (cs:=#[.string ((riS37 l0 x19_2).f0),.string ((riS37 l0 x19_2).f1),.int .i64 ((riS37 l0 x19_2).f2),.bool ((riS37 l0 x19_2).f3),.int .i64 0]) ?_ 4 _ rfl;(with_reducible repeat (first|refine bkN ?_ _|refine bkD ?_|refine bkA ?_ _));refine blk_put (cs:=#[.string ((riS37 l0 x19_2).f0),.string ((riS37 l0 x19_2).f1),.int .i64 ((riS37 l0 x19_2).f2),.bool false,.int .i64 0]) ?_ 3 _ rfl;(with_reducible repeat (first|refine bkN ?_ _|refine bkD ?_|refine bkA ?_ _));refine blk_put (cs:=#[.string ((riS37 l0 x19_2).f0),.string ((riS37 l0 x19_2).f1),.int .i64 0,.bool false,.int .i64 0]) ?_ 2 _ rfl;(with_reducible repeat (first|refine bkN ?_ _|refine bkD ?_|refine bkA ?_ _));refine blk_put (cs:=#[.string ((riS37 l0 x19_2).f0),.string ⟨#[]⟩,.int .i64 0,.bool false,.int .i64 0]) ?_ 1 _ rfl;(with_reducible repeat (first|refine bkN ?_ _|refine bkD ?_|refine bkA ?_ _));refine blk_put (cs:=#[.string ⟨#[]⟩,.string ⟨#[]⟩,.int .i64 0,.bool false,.int .i64 0]) ?_ 0 _ rfl;(with_reducible repeat (first|refine bkN ?_ _|refine bkD ?_|refine bkA ?_ _));exact BK109.out⟩;have n1_:As0 (Below w.heap.size w (((((w20.setCell ⟨gb109,0,none⟩ (.string ((riS37 l0 x19_2).f0))).setCell ⟨gb109,1,none⟩ (.string ((riS37 l0 x19_2).f1))).setCell ⟨gb109,2,none⟩ (.int .i64 ((riS37 l0 x19_2).f2))).setCell ⟨gb109,3,none⟩ (.bool ((riS37 l0 x19_2).f3))).setCell ⟨gb109,4,none⟩ (.int .i64 ((riS37 l0 x19_2).f4)))):=⟨by repeat (first|(with_reducible first|exact HB.out|apply bal|apply pbN|apply bd1|refine bst ?_ GE109.out)|exact HB.out)⟩
                       (try clear BK109)
                       (try clear HB)
                       (try rw [Opens.setCell_drewN])
                       generalize (((((w20.setCell ⟨gb109,0,none⟩ (.string ((riS37 l0 x19_2).f0))).setCell ⟨gb109,1,none⟩ (.string ((riS37 l0 x19_2).f1))).setCell ⟨gb109,2,none⟩ (.int .i64 ((riS37 l0 x19_2).f2))).setCell ⟨gb109,3,none⟩ (.bool ((riS37 l0 x19_2).f3))).setCell ⟨gb109,4,none⟩ (.int .i64 ((riS37 l0 x19_2).f4))) = w22 at n0_ n1_ ⊢
                       have BK109:=n0_;have HB:=n1_;clear n0_ n1_;replace BK109:=As0.mk (bkD BK109.out);replace HB:=As0.mk (bd1 HB.out);have p111:0 ≤ ((ji11):Int):=odt;have q111:(ji11) < (l0.length:Int):=odt;obtain ⟨ad111,e111,hx111_0,hx111_1,hx111_2,hx111_3,hx111_4⟩:=at_T70 HR0.out (ji11) p111 q111;have hw111_4:=hx111_4;have hw111_3:=hx111_3;have hw111_2:=hx111_2;have hw111_1:=hx111_1;have hw111_0:=hx111_0;obtain rfl:ad108 = ad111:=(by injection e111);replace hx111_0:=bx HB.out rfl hx111_0;replace hx111_1:=bx HB.out rfl hx111_1;replace hx111_2:=bx HB.out rfl hx111_2;replace hx111_3:=bx HB.out rfl hx111_3;replace hx111_4:=bx HB.out rfl hx111_4;replace p111:=eq_true p111;replace q111:=eq_true q111;refine start_ (n:=18) (S:=fun w'=>w'.cell? ⟨gb109,0,none⟩ = some (.string ((riS37 l0 x19_2).f0)) ∧ w'.cell? ⟨gb109,1,none⟩ = some (.string ((riS37 l0 x19_2).f1)) ∧ w'.cell? ⟨gb109,2,none⟩ = some (.int .i64 ((riS37 l0 x19_2).f2)) ∧ w'.cell? ⟨gb109,3,none⟩ = some (.bool ((riS37 l0 x19_2).f3)) ∧ w'.cell? ⟨gb109,4,none⟩ = some (.int .i64 ((riS37 l0 x19_2).f4)) ∧ w'.cell? (ad108.add (((ji11)).toNat * 5)) = some (.string ((riS37 l0 (ji11)).f0)) ∧ w'.cell? ⟨(ad108.add (((ji11)).toNat * 5)).block,(ad108.add (((ji11)).toNat * 5)).off + 1,none⟩ = some (.string ((riS37 l0 (ji11)).f1)) ∧ w'.cell? ⟨(ad108.add (((ji11)).toNat * 5)).block,(ad108.add (((ji11)).toNat * 5)).off + 2,none⟩ = some (.int .i64 ((riS37 l0 (ji11)).f2)) ∧ w'.cell? ⟨(ad108.add (((ji11)).toNat * 5)).block,(ad108.add (((ji11)).toNat * 5)).off + 3,none⟩ = some (.bool ((riS37 l0 (ji11)).f3)) ∧ w'.cell? ⟨(ad108.add (((ji11)).toNat * 5)).block,(ad108.add (((ji11)).toNat * 5)).off + 4,none⟩ = some (.int .i64 ((riS37 l0 (ji11)).f4))) (ds:=[]) impl_areSpaces.calls.a0 (by kernel_rfl) rfl rfl ⟨(bkC BK109.out 0).trans rfl,(bkC BK109.out 1).trans rfl,(bkC BK109.out 2).trans rfl,(bkC BK109.out 3).trans rfl,(bkC BK109.out 4).trans rfl,((HB.out.cell (World.block_lt_of_cell? w _ hw111_0)).trans hw111_0),((HB.out.cell (World.block_lt_of_cell? w _ hw111_1)).trans hw111_1),((HB.out.cell (World.block_lt_of_cell? w _ hw111_2)).trans hw111_2),((HB.out.cell (World.block_lt_of_cell? w _ hw111_3)).trans hw111_3),((HB.out.cell (World.block_lt_of_cell? w _ hw111_4)).trans hw111_4)⟩ (fun hHeld=>?_);refine with_tabW impl_areSpaces.tab6 impl_areSpaces.bits6 (fun HT_ HW_=>?_);generalize w22.drew = w23 at BK109 HB hx111_0 hx111_1 hx111_2 hx111_3 hx111_4 hHeld ⊢
                       refine tk 0 (some 24) impl_areSpaces.calls.a1 rfl rfl HT_.out HW_.out hHeld (by rintro w' ⟨s0,s1,s2,s3,s4,s5,s6,s7,s8,s9⟩;go_simp;with_reducible rfl) ?_;refine one_ (i:=1) (N:=some 25) impl_areSpaces.calls.a2 rfl rfl (one_of HT_.out (by kernel_rfl)) (by decide) (fun K hK=>?_);refine goes_ Tryz.func96 (by kernel_rfl) rfl #[.agg #[.string ((riS37 l0 x19_2).f0),.string ((riS37 l0 x19_2).f1),.int .i64 ((riS37 l0 x19_2).f2),.bool ((riS37 l0 x19_2).f3),.int .i64 ((riS37 l0 x19_2).f4)]] (by rfl) rfl rfl (by (try simp only [List.map_toArray,List.map_cons,List.map_nil]);first|done|rfl|(simp only [List.length_drop,List.length_take];rfl)) ?_;with_reducible refine (impl_isSpace.calls k2 ((riS37 l0 x19_2).f0) ((riS37 l0 x19_2).f1) ((riS37 l0 x19_2).f2) ((riS37 l0 x19_2).f3) ((riS37 l0 x19_2).f4) true _ A8.out).mono ?_
                       rintro e w24 ⟨rfl,hb⟩;refine ⟨_,rfl,?_⟩;replace BK109:=As0.mk (bb hb BK109.out);replace HB:=As0.mk (bsp (by repeat (first|(with_reducible first|exact HB.out|apply bal|apply pbN|apply bd1|refine bst ?_ GE109.out)|exact HB.out)) hb)
                            
                            
                            
                            
                       refine hK.out _ _ ⟨(bkC BK109.out 0).trans rfl,(bkC BK109.out 1).trans rfl,(bkC BK109.out 2).trans rfl,(bkC BK109.out 3).trans rfl,(bkC BK109.out 4).trans rfl,((HB.out.cell (World.block_lt_of_cell? w _ hw111_0)).trans hw111_0),((HB.out.cell (World.block_lt_of_cell? w _ hw111_1)).trans hw111_1),((HB.out.cell (World.block_lt_of_cell? w _ hw111_2)).trans hw111_2),((HB.out.cell (World.block_lt_of_cell? w _ hw111_3)).trans hw111_3),((HB.out.cell (World.block_lt_of_cell? w _ hw111_4)).trans hw111_4)⟩ (fun hHeld=>?_);clear hK K;refine norm_ (a':=?_) ?_ ?_;rotate_left
                       · show Act.put _ (some 25) _ = _
                         simp only [Act.put,sA,sZ,sS,i64_w,i32_w];rfl
                       refine pu 2 (some 26) impl_areSpaces.calls.a3 rfl rfl HT_.out ?_;refine pu 3 (some 27) impl_areSpaces.calls.a4 rfl rfl HT_.out ?_;refine pu 4 (some 28) impl_areSpaces.calls.a5 rfl rfl HT_.out ?_;refine pu 5 (some 29) impl_areSpaces.calls.a6 rfl rfl HT_.out ?_;refine pu 6 (some 30) impl_areSpaces.calls.a7 rfl rfl HT_.out ?_;refine pu 7 (some 31) impl_areSpaces.calls.a8 rfl rfl HT_.out ?_;refine pu 8 (some 32) impl_areSpaces.calls.a9 rfl rfl HT_.out ?_;refine pu 9 (some 33) impl_areSpaces.calls.a10 rfl rfl HT_.out ?_;refine pu 10 (some 34) impl_areSpaces.calls.a11 rfl rfl HT_.out ?_;refine pu 11 (some 35) impl_areSpaces.calls.a12 rfl rfl HT_.out ?_;refine pu 13 (some 37) #[true,true,true,true,true,true,true,true,true,true,true,true,false,true,false,false,false,false] rfl rfl HT_.out ?_;refine tk 12 (some 36) impl_areSpaces.calls.a13 rfl rfl HT_.out HW_.out hHeld (by rintro w' ⟨s0,s1,s2,s3,s4,s5,s6,s7,s8,s9⟩;go_simp;with_reducible rfl) ?_;refine tk 14 (some 38) impl_areSpaces.calls.a14 rfl rfl HT_.out HW_.out hHeld (by rintro w' ⟨s0,s1,s2,s3,s4,s5,s6,s7,s8,s9⟩;go_simp;with_reducible rfl) ?_;refine pu 15 (some 39) impl_areSpaces.calls.a15 rfl rfl HT_.out ?_;refine pu 16 (some 40) impl_areSpaces.calls.a16 rfl rfl HT_.out ?_;refine pu 17 (some 41) impl_areSpaces.calls.a17 rfl rfl HT_.out ?_;refine done_ (done_of HT_.out (by kernel_rfl)) ?_
                       try go_wp2
                       go_ret
                       exact ⟨by first|rfl|(simp [errW_none,errW_some] <;> rfl)|(simp only [← hji11];first|rfl|(simp [errW_none,errW_some] <;> rfl))|(simp [*,errW_none,errW_some] <;> rfl),by repeat (first|(with_reducible first|exact HB.out|apply bal|apply pbN|apply bd1|refine bst ?_ GE109.out)|exact HB.out)⟩
                   · rw [if_neg c13] at H
                     exact absurd H (by simp)
                 · rw [if_neg c12] at H
                   exact absurd H (by simp)
               · rw [if_neg c10] at H
                 have c10b0:decide (0 < x19_2) = false:=decide_eq_false c10;clear c10;have H':=As0.mk H;clear H;have p108:0 ≤ (x19_2:Int):=odt;have q108:x19_2 < (l0.length:Int):=odt;obtain ⟨ad108,e108,hx108_0,hx108_1,hx108_2,hx108_3,hx108_4⟩:=at_T70 HR0.out x19_2 p108 q108
                 cases e108
                 replace hx108_0:=bx HB.out rfl hx108_0;replace hx108_1:=bx HB.out rfl hx108_1;replace hx108_2:=bx HB.out rfl hx108_2;replace hx108_3:=bx HB.out rfl hx108_3;replace hx108_4:=bx HB.out rfl hx108_4;replace p108:=eq_true p108;replace q108:=eq_true q108
                 try go_wp2_with (first|((with_reducible refine gate_dst (N:=4) rfl ?_);(try (refine gate_guard (by rfl) ?_;dsimp only));refine bE 4 #[.string ⟨#[]⟩,.string ⟨#[]⟩,.int .i64 0,.bool false,.int .i64 0] 70 ?_;intro gb109 hg w25 hbox hb;have BK109:=As0.mk (hbox);have GW109:=As0.mk ((by rw [hg];exact (bsz (by repeat (first|(with_reducible first|exact HB.out|apply bal|apply pbN|apply bd1)|exact HB.out))):w.heap.size ≤ gb109));have GE109:=GW109;replace HB:=As0.mk (b3 HB.out hb);clear hb hbox hg;obtain ⟨hcz26_0,hcz26_1,hcz26_2,hcz26_3,hcz26_4⟩:=qc5 BK109.out;obtain ⟨hfz26_0,hfz26_1,hfz26_2,hfz26_3,hfz26_4⟩:=qz5 BK109.out))
                 have n0_:As0 ((((((w25.setCell ⟨gb109,0,none⟩ (.string ((riS37 l0 x19_2).f0))).setCell ⟨gb109,1,none⟩ (.string ((riS37 l0 x19_2).f1))).setCell ⟨gb109,2,none⟩ (.int .i64 ((riS37 l0 x19_2).f2))).setCell ⟨gb109,3,none⟩ (.bool ((riS37 l0 x19_2).f3))).setCell ⟨gb109,4,none⟩ (.int .i64 ((riS37 l0 x19_2).f4))).heap[gb109]? = some (.cells #[.string ((riS37 l0 x19_2).f0),.string ((riS37 l0 x19_2).f1),.int .i64 ((riS37 l0 x19_2).f2),.bool ((riS37 l0 x19_2).f3),.int .i64 ((riS37 l0 x19_2).f4)] 70 (0,0))):=⟨by (with_reducible repeat (first|refine bkN ?_ _|refine bkD ?_|refine bkA ?_ _));refine blk_put (cs:=#[.string ((riS37 l0 x19_2).f0),.string ((riS37 l0 x19_2).f1),.int .i64 ((riS37 l0 x19_2).f2),.bool ((riS37 l0 x19_2).f3),.int .i64 0]) ?_ 4 _ rfl;(with_reducible repeat (first|refine bkN ?_ _|refine bkD ?_|refine bkA ?_ _));refine blk_put (cs:=#[.string ((riS37 l0 x19_2).f0),.string ((riS37 l0 x19_2).f1),.int .i64 ((riS37 l0 x19_2).f2),.bool false,.int .i64 0]) ?_ 3 _ rfl;(with_reducible repeat (first|refine bkN ?_ _|refine bkD ?_|refine bkA ?_ _));refine blk_put (cs:=#[.string ((riS37 l0 x19_2).f0),.string ((riS37 l0 x19_2).f1),.int .i64 0,.bool false,.int .i64 0]) ?_ 2 _ rfl;(with_reducible repeat (first|refine bkN ?_ _|refine bkD ?_|refine bkA ?_ _));refine blk_put (cs:=#[.string ((riS37 l0 x19_2).f0),.string ⟨#[]⟩,.int .i64 0,.bool false,.int .i64 0]) ?_ 1 _ rfl;(with_reducible repeat (first|refine bkN ?_ _|refine bkD ?_|refine bkA ?_ _));refine blk_put (cs:=#[.string ⟨#[]⟩,.string ⟨#[]⟩,.int .i64 0,.bool false,.int .i64 0]) ?_ 0 _ rfl;(with_reducible repeat (first|refine bkN ?_ _|refine bkD ?_|refine bkA ?_ _));exact BK109.out⟩;have n1_:As0 (Below w.heap.size w (((((w25.setCell ⟨gb109,0,none⟩ (.string ((riS37 l0 x19_2).f0))).setCell ⟨gb109,1,none⟩ (.string ((riS37 l0 x19_2).f1))).setCell ⟨gb109,2,none⟩ (.int .i64 ((riS37 l0 x19_2).f2))).setCell ⟨gb109,3,none⟩ (.bool ((riS37 l0 x19_2).f3))).setCell ⟨gb109,4,none⟩ (.int .i64 ((riS37 l0 x19_2).f4)))):=⟨by repeat (first|(with_reducible first|exact HB.out|apply bal|apply pbN|apply bd1|refine bst ?_ GE109.out)|exact HB.out)⟩
                 (try clear BK109)
                 (try clear HB)
                 (try rw [Opens.setCell_drewN])
                 generalize (((((w25.setCell ⟨gb109,0,none⟩ (.string ((riS37 l0 x19_2).f0))).setCell ⟨gb109,1,none⟩ (.string ((riS37 l0 x19_2).f1))).setCell ⟨gb109,2,none⟩ (.int .i64 ((riS37 l0 x19_2).f2))).setCell ⟨gb109,3,none⟩ (.bool ((riS37 l0 x19_2).f3))).setCell ⟨gb109,4,none⟩ (.int .i64 ((riS37 l0 x19_2).f4))) = w27 at n0_ n1_ ⊢
                 have BK109:=n0_;have HB:=n1_;clear n0_ n1_;replace BK109:=As0.mk (bkD BK109.out);replace HB:=As0.mk (bd1 HB.out);refine start_ (n:=18) (S:=fun w'=>w'.cell? ⟨gb109,0,none⟩ = some (.string ((riS37 l0 x19_2).f0)) ∧ w'.cell? ⟨gb109,1,none⟩ = some (.string ((riS37 l0 x19_2).f1)) ∧ w'.cell? ⟨gb109,2,none⟩ = some (.int .i64 ((riS37 l0 x19_2).f2)) ∧ w'.cell? ⟨gb109,3,none⟩ = some (.bool ((riS37 l0 x19_2).f3)) ∧ w'.cell? ⟨gb109,4,none⟩ = some (.int .i64 ((riS37 l0 x19_2).f4))) (ds:=[]) impl_areSpaces.calls.a0 (by kernel_rfl) rfl rfl (qc5 BK109.out) (fun hHeld=>?_);refine with_tabW impl_areSpaces.tab6 impl_areSpaces.bits6 (fun HT_ HW_=>?_);generalize w27.drew = w28 at BK109 HB hHeld ⊢
                 refine tk 0 (some 24) impl_areSpaces.calls.a1 rfl rfl HT_.out HW_.out hHeld (by rintro w' ⟨s0,s1,s2,s3,s4⟩;go_simp;with_reducible rfl) ?_;refine one_ (i:=1) (N:=some 25) impl_areSpaces.calls.a2 rfl rfl (one_of HT_.out (by kernel_rfl)) (by decide) (fun K hK=>?_);refine goes_ Tryz.func96 (by kernel_rfl) rfl #[.agg #[.string ((riS37 l0 x19_2).f0),.string ((riS37 l0 x19_2).f1),.int .i64 ((riS37 l0 x19_2).f2),.bool ((riS37 l0 x19_2).f3),.int .i64 ((riS37 l0 x19_2).f4)]] (by rfl) rfl rfl (by (try simp only [List.map_toArray,List.map_cons,List.map_nil]);first|done|rfl|(simp only [List.length_drop,List.length_take];rfl)) ?_;with_reducible refine (impl_isSpace.calls k2 ((riS37 l0 x19_2).f0) ((riS37 l0 x19_2).f1) ((riS37 l0 x19_2).f2) ((riS37 l0 x19_2).f3) ((riS37 l0 x19_2).f4) true _ A8.out).mono ?_
                 rintro e w29 ⟨rfl,hb⟩;refine ⟨_,rfl,?_⟩;replace BK109:=As0.mk (bb hb BK109.out);replace HB:=As0.mk (bsp (by repeat (first|(with_reducible first|exact HB.out|apply bal|apply pbN|apply bd1|refine bst ?_ GE109.out)|exact HB.out)) hb)
                      
                      
                      
                      
                 refine hK.out _ _ (qc5 BK109.out) (fun hHeld=>?_);clear hK K;refine norm_ (a':=?_) ?_ ?_;rotate_left
                 · show Act.put _ (some 25) _ = _
                   simp only [Act.put,sA,sZ,sS,i64_w,i32_w];rfl
                 refine pu 2 (some 26) impl_areSpaces.calls.a3 rfl rfl HT_.out ?_;refine pu 3 (some 27) impl_areSpaces.calls.a4 rfl rfl HT_.out ?_;refine pu 4 (some 28) impl_areSpaces.calls.a5 rfl rfl HT_.out ?_;refine pu 5 (some 29) impl_areSpaces.calls.a6 rfl rfl HT_.out ?_;refine pu 6 (some 30) impl_areSpaces.calls.a7 rfl rfl HT_.out ?_;refine pn 7 (some 31) impl_areSpaces.calls.a8 rfl rfl HT_.out ?_;refine pn 8 (some 32) impl_areSpaces.calls.a9 rfl rfl HT_.out ?_;refine pn 9 (some 33) impl_areSpaces.calls.a10 rfl rfl HT_.out ?_;refine pn 10 (some 34) impl_areSpaces.calls.a11 rfl rfl HT_.out ?_;refine pn 11 (some 35) impl_areSpaces.calls.a12 rfl rfl HT_.out ?_;refine pn 12 (some 36) #[true,true,true,true,true,true,true,true,true,true,true,true,true,false,false,false,false,false] rfl rfl HT_.out ?_;refine pn 13 (some 37) impl_areSpaces.calls.a13 rfl rfl HT_.out ?_;refine pn 14 (some 38) impl_areSpaces.calls.a14 rfl rfl HT_.out ?_;refine pn 15 (some 39) impl_areSpaces.calls.a15 rfl rfl HT_.out ?_;refine pu 16 (some 40) impl_areSpaces.calls.a16 rfl rfl HT_.out ?_;refine pu 17 (some 41) impl_areSpaces.calls.a17 rfl rfl HT_.out ?_;refine done_ (done_of HT_.out (by kernel_rfl)) ?_
                 try go_wp2
                 show _;go_roundg k2
                 case measure=>have:=HJ1.out;have:=HK2.out;omega
                 case rel=>exact ⟨(wrap64 (x19_2 + 1)),(by first|rfl|(simp;done)|(simp [*];done)),H',⟨by have:=HJ1.out;have:=HK2.out;omega⟩,⟨by repeat (first|(with_reducible first|exact HB.out|apply bal|apply pbN|apply bd1|refine bst ?_ GE109.out)|exact HB.out)⟩⟩
             · replace c9:=Bool.eq_false_iff.mpr c9
               subst c9;have H1:(some false) = some r:=by rw [if_neg (show ¬ (false = true) by decide)] at H;exact H
               clear H;have H:=H1;clear H1;obtain rfl:=Option.some.inj H;have p108:0 ≤ (x19_2:Int):=odt;have q108:x19_2 < (l0.length:Int):=odt;obtain ⟨ad108,e108,hx108_0,hx108_1,hx108_2,hx108_3,hx108_4⟩:=at_T70 HR0.out x19_2 p108 q108
               cases e108
               replace hx108_0:=bx HB.out rfl hx108_0;replace hx108_1:=bx HB.out rfl hx108_1;replace hx108_2:=bx HB.out rfl hx108_2;replace hx108_3:=bx HB.out rfl hx108_3;replace hx108_4:=bx HB.out rfl hx108_4;replace p108:=eq_true p108;replace q108:=eq_true q108
               try go_wp2_with (first|((with_reducible refine gate_dst (N:=4) rfl ?_);(try (refine gate_guard (by rfl) ?_;dsimp only));refine bE 4 #[.string ⟨#[]⟩,.string ⟨#[]⟩,.int .i64 0,.bool false,.int .i64 0] 70 ?_;intro gb109 hg w30 hbox hb;have BK109:=As0.mk (hbox);have GW109:=As0.mk ((by rw [hg];exact (bsz (by repeat (first|(with_reducible first|exact HB.out|apply bal|apply pbN|apply bd1)|exact HB.out))):w.heap.size ≤ gb109));have GE109:=GW109;replace HB:=As0.mk (b3 HB.out hb);clear hb hbox hg;obtain ⟨hcz31_0,hcz31_1,hcz31_2,hcz31_3,hcz31_4⟩:=qc5 BK109.out;obtain ⟨hfz31_0,hfz31_1,hfz31_2,hfz31_3,hfz31_4⟩:=qz5 BK109.out))
               have n0_:As0 ((((((w30.setCell ⟨gb109,0,none⟩ (.string ((riS37 l0 x19_2).f0))).setCell ⟨gb109,1,none⟩ (.string ((riS37 l0 x19_2).f1))).setCell ⟨gb109,2,none⟩ (.int .i64 ((riS37 l0 x19_2).f2))).setCell ⟨gb109,3,none⟩ (.bool ((riS37 l0 x19_2).f3))).setCell ⟨gb109,4,none⟩ (.int .i64 ((riS37 l0 x19_2).f4))).heap[gb109]? = some (.cells #[.string ((riS37 l0 x19_2).f0),.string ((riS37 l0 x19_2).f1),.int .i64 ((riS37 l0 x19_2).f2),.bool ((riS37 l0 x19_2).f3),.int .i64 ((riS37 l0 x19_2).f4)] 70 (0,0))):=⟨by (with_reducible repeat (first|refine bkN ?_ _|refine bkD ?_|refine bkA ?_ _));refine blk_put (cs:=#[.string ((riS37 l0 x19_2).f0),.string ((riS37 l0 x19_2).f1),.int .i64 ((riS37 l0 x19_2).f2),.bool ((riS37 l0 x19_2).f3),.int .i64 0]) ?_ 4 _ rfl;(with_reducible repeat (first|refine bkN ?_ _|refine bkD ?_|refine bkA ?_ _));refine blk_put (cs:=#[.string ((riS37 l0 x19_2).f0),.string ((riS37 l0 x19_2).f1),.int .i64 ((riS37 l0 x19_2).f2),.bool false,.int .i64 0]) ?_ 3 _ rfl;(with_reducible repeat (first|refine bkN ?_ _|refine bkD ?_|refine bkA ?_ _));refine blk_put (cs:=#[.string ((riS37 l0 x19_2).f0),.string ((riS37 l0 x19_2).f1),.int .i64 0,.bool false,.int .i64 0]) ?_ 2 _ rfl;(with_reducible repeat (first|refine bkN ?_ _|refine bkD ?_|refine bkA ?_ _));refine blk_put (cs:=#[.string ((riS37 l0 x19_2).f0),.string ⟨#[]⟩,.int .i64 0,.bool false,.int .i64 0]) ?_ 1 _ rfl;(with_reducible repeat (first|refine bkN ?_ _|refine bkD ?_|refine bkA ?_ _));refine blk_put (cs:=#[.string ⟨#[]⟩,.string ⟨#[]⟩,.int .i64 0,.bool false,.int .i64 0]) ?_ 0 _ rfl;(with_reducible repeat (first|refine bkN ?_ _|refine bkD ?_|refine bkA ?_ _));exact BK109.out⟩;have n1_:As0 (Below w.heap.size w (((((w30.setCell ⟨gb109,0,none⟩ (.string ((riS37 l0 x19_2).f0))).setCell ⟨gb109,1,none⟩ (.string ((riS37 l0 x19_2).f1))).setCell ⟨gb109,2,none⟩ (.int .i64 ((riS37 l0 x19_2).f2))).setCell ⟨gb109,3,none⟩ (.bool ((riS37 l0 x19_2).f3))).setCell ⟨gb109,4,none⟩ (.int .i64 ((riS37 l0 x19_2).f4)))):=⟨by repeat (first|(with_reducible first|exact HB.out|apply bal|apply pbN|apply bd1|refine bst ?_ GE109.out)|exact HB.out)⟩
               (try clear BK109)
               (try clear HB)
               (try rw [Opens.setCell_drewN])
               generalize (((((w30.setCell ⟨gb109,0,none⟩ (.string ((riS37 l0 x19_2).f0))).setCell ⟨gb109,1,none⟩ (.string ((riS37 l0 x19_2).f1))).setCell ⟨gb109,2,none⟩ (.int .i64 ((riS37 l0 x19_2).f2))).setCell ⟨gb109,3,none⟩ (.bool ((riS37 l0 x19_2).f3))).setCell ⟨gb109,4,none⟩ (.int .i64 ((riS37 l0 x19_2).f4))) = w32 at n0_ n1_ ⊢
               have BK109:=n0_;have HB:=n1_;clear n0_ n1_;replace BK109:=As0.mk (bkD BK109.out);replace HB:=As0.mk (bd1 HB.out);refine start_ (n:=18) (S:=fun w'=>w'.cell? ⟨gb109,0,none⟩ = some (.string ((riS37 l0 x19_2).f0)) ∧ w'.cell? ⟨gb109,1,none⟩ = some (.string ((riS37 l0 x19_2).f1)) ∧ w'.cell? ⟨gb109,2,none⟩ = some (.int .i64 ((riS37 l0 x19_2).f2)) ∧ w'.cell? ⟨gb109,3,none⟩ = some (.bool ((riS37 l0 x19_2).f3)) ∧ w'.cell? ⟨gb109,4,none⟩ = some (.int .i64 ((riS37 l0 x19_2).f4))) (ds:=[]) impl_areSpaces.calls.a0 (by kernel_rfl) rfl rfl (qc5 BK109.out) (fun hHeld=>?_);refine with_tabW impl_areSpaces.tab6 impl_areSpaces.bits6 (fun HT_ HW_=>?_);generalize w32.drew = w33 at BK109 HB hHeld ⊢
               refine tk 0 (some 24) impl_areSpaces.calls.a1 rfl rfl HT_.out HW_.out hHeld (by rintro w' ⟨s0,s1,s2,s3,s4⟩;go_simp;with_reducible rfl) ?_;refine one_ (i:=1) (N:=some 25) impl_areSpaces.calls.a2 rfl rfl (one_of HT_.out (by kernel_rfl)) (by decide) (fun K hK=>?_);refine goes_ Tryz.func96 (by kernel_rfl) rfl #[.agg #[.string ((riS37 l0 x19_2).f0),.string ((riS37 l0 x19_2).f1),.int .i64 ((riS37 l0 x19_2).f2),.bool ((riS37 l0 x19_2).f3),.int .i64 ((riS37 l0 x19_2).f4)]] (by rfl) rfl rfl (by (try simp only [List.map_toArray,List.map_cons,List.map_nil]);first|done|rfl|(simp only [List.length_drop,List.length_take];rfl)) ?_;with_reducible refine (impl_isSpace.calls k2 ((riS37 l0 x19_2).f0) ((riS37 l0 x19_2).f1) ((riS37 l0 x19_2).f2) ((riS37 l0 x19_2).f3) ((riS37 l0 x19_2).f4) false _ A8.out).mono ?_
               rintro e w34 ⟨rfl,hb⟩;refine ⟨_,rfl,?_⟩;replace BK109:=As0.mk (bb hb BK109.out);replace HB:=As0.mk (bsp (by repeat (first|(with_reducible first|exact HB.out|apply bal|apply pbN|apply bd1|refine bst ?_ GE109.out)|exact HB.out)) hb)
                    
                    
                    
                    
               refine hK.out _ _ (qc5 BK109.out) (fun hHeld=>?_);clear hK K;refine norm_ (a':=?_) ?_ ?_;rotate_left
               · show Act.put _ (some 25) _ = _
                 simp only [Act.put,sA,sZ,sS,i64_w,i32_w];rfl
               refine pu 2 (some 26) impl_areSpaces.calls.a3 rfl rfl HT_.out ?_;refine pu 3 (some 27) impl_areSpaces.calls.a4 rfl rfl HT_.out ?_;refine pn 4 (some 28) impl_areSpaces.calls.a5 rfl rfl HT_.out ?_;refine pn 5 (some 29) impl_areSpaces.calls.a6 rfl rfl HT_.out ?_;refine pn 6 (some 30) impl_areSpaces.calls.a7 rfl rfl HT_.out ?_;refine pn 7 (some 31) impl_areSpaces.calls.a8 rfl rfl HT_.out ?_;refine pn 8 (some 32) impl_areSpaces.calls.a9 rfl rfl HT_.out ?_;refine pn 9 (some 33) impl_areSpaces.calls.a10 rfl rfl HT_.out ?_;refine pn 10 (some 34) impl_areSpaces.calls.a11 rfl rfl HT_.out ?_;refine pn 11 (some 35) impl_areSpaces.calls.a12 rfl rfl HT_.out ?_;refine pn 12 (some 36) #[true,true,true,true,true,true,true,true,true,true,true,true,true,false,false,false,false,false] rfl rfl HT_.out ?_;refine pn 13 (some 37) impl_areSpaces.calls.a13 rfl rfl HT_.out ?_;refine pn 14 (some 38) impl_areSpaces.calls.a14 rfl rfl HT_.out ?_;refine pn 15 (some 39) impl_areSpaces.calls.a15 rfl rfl HT_.out ?_;refine pn 16 (some 40) impl_areSpaces.calls.a16 rfl rfl HT_.out ?_;refine pu 17 (some 41) impl_areSpaces.calls.a17 rfl rfl HT_.out ?_;refine done_ (done_of HT_.out (by kernel_rfl)) ?_
               try go_wp2
               go_ret
               exact ⟨eW,by repeat (first|(with_reducible first|exact HB.out|apply bal|apply pbN|apply bd1|refine bst ?_ GE109.out)|exact HB.out)⟩
           · rw [if_neg c7] at H
             exact absurd H (by simp)
         · rw [if_neg c6] at H
           exact absurd H (by simp)
       · rw [if_neg c5] at H
         have c5b0:decide (x19_2 < (l0.length:Int)) = false:=decide_eq_false c5;clear c5;have H':=As0.mk H;clear H
         go_wp2
         show _;go_loopg [45] k2 (fun kq v45 w'=>∃ (x45_3:Int),v45 = .int .i64 x45_3 ∧ As0 (impl_areSpaces.l1 kq l0 l0 (l0.length:Int) x45_3 = some r) ∧ As0 (kq ≤ k2) ∧ As0 (Below w.heap.size w w'))
         case atStart=>exact ⟨(0),(by first|rfl|(simp;done)|(simp [*];done)),H',⟨Nat.le_refl _⟩,⟨by repeat (first|(with_reducible first|exact HB.out|apply bal|apply pbN|apply bd1)|exact HB.out)⟩⟩
         case round=>
          clear H'
          try clear c1
          try clear p1
          try clear q1
          try clear hx1
          try clear p2
          try clear c5
          try clear c5b0
          try clear c6
          try clear p6
          try clear c7
          try clear c9
          try clear c10
          try clear c10b0
          try clear p10
          try clear q10
          try clear hx10
          try clear p11
          try clear q11
          try clear hx11
          try clear c12
          try clear c13
          try clear c14
          try clear c14b0
          try clear hcz21_0
          try clear hcz21_1
          try clear hcz21_2
          try clear hcz21_3
          try clear hcz21_4
          try clear hcz26_0
          try clear hcz26_1
          try clear hcz26_2
          try clear hcz26_3
          try clear hcz26_4
          try clear hcz31_0
          try clear hcz31_1
          try clear hcz31_2
          try clear hcz31_3
          try clear hcz31_4
          try clear hfz21_0
          try clear hfz21_1
          try clear hfz21_2
          try clear hfz21_3
          try clear hfz21_4
          try clear hfz26_0
          try clear hfz26_1
          try clear hfz26_2
          try clear hfz26_3
          try clear hfz26_4
          try clear hfz31_0
          try clear hfz31_1
          try clear hfz31_2
          try clear hfz31_3
          try clear hfz31_4
          try clear hx108_0
          try clear hx108_1
          try clear hx108_2
          try clear hx108_3
          try clear hx108_4
          try clear hx111_0
          try clear hx111_1
          try clear hx111_2
          try clear hx111_3
          try clear hx111_4
          try clear p108
          try clear p111
          try clear q108
          try clear q111
          obtain ⟨x45_3,rfl,HA,HK3,HB⟩:=hrel
          cases gk with
          |zero=>exact absurd HA.out (by simp [impl_areSpaces.l1])
          |succ k3=>
           have H:=HA.out;clear HA;simp only [impl_areSpaces.l1] at H;by_cases c35:x45_3 < (l0.length:Int)
           · rw [if_pos c35] at H
             have c35b0:decide (x45_3 < (l0.length:Int)) = true:=decide_eq_true c35;clear c35;by_cases c36:0 ≤ x45_3
             · rw [if_pos c36] at H
               have c36b0:decide (0 ≤ x45_3) = true:=decide_eq_true c36;clear c36;by_cases c37:x45_3 < (l0.length:Int)
               · rw [if_pos c37] at H
                 have c37b0:decide (x45_3 < (l0.length:Int)) = true:=decide_eq_true c37;clear c37;have H':=As0.mk H;clear H;have p112:0 ≤ (x45_3:Int):=odt;have q112:x45_3 < (l0.length:Int):=odt;obtain ⟨ad112,e112,hx112_0,hx112_1,hx112_2,hx112_3,hx112_4⟩:=at_T70 HR0.out x45_3 p112 q112
                 cases e112
                 replace hx112_0:=bx HB.out rfl hx112_0;replace hx112_1:=bx HB.out rfl hx112_1;replace hx112_2:=bx HB.out rfl hx112_2;replace hx112_3:=bx HB.out rfl hx112_3;replace hx112_4:=bx HB.out rfl hx112_4;replace p112:=eq_true p112;replace q112:=eq_true q112
                 go_wp2_with (first|((with_reducible refine gate_dst (N:=6) rfl ?_);(try (refine gate_guard (by rfl) ?_;dsimp only));refine bE 6 #[.string ⟨#[]⟩,.string ⟨#[]⟩,.int .i64 0,.bool false,.int .i64 0] 70 ?_;intro gb113 hg w38 hbox hb;have BK113:=As0.mk (hbox);have GW113:=As0.mk ((by rw [hg];exact (bsz (by repeat (first|(with_reducible first|exact HB.out|apply bal|apply pbN|apply bd1)|exact HB.out))):w.heap.size ≤ gb113));have GE113:=GW113;replace HB:=As0.mk (b3 HB.out hb);clear hb hbox hg;obtain ⟨hcz39_0,hcz39_1,hcz39_2,hcz39_3,hcz39_4⟩:=qc5 BK113.out;obtain ⟨hfz39_0,hfz39_1,hfz39_2,hfz39_3,hfz39_4⟩:=qz5 BK113.out)|((with_reducible refine gate_dst (N:=7) rfl ?_);(try (refine gate_guard (by rfl) ?_;dsimp only));refine bE 7 #[.string ⟨#[]⟩,.string ⟨#[]⟩,.int .i64 0,.bool false,.int .i64 0] 70 ?_;intro gb114 hg w40 hbox hb;have BK114:=As0.mk (hbox);have GW114:=As0.mk ((by rw [hg];exact (bsz (by repeat (first|(with_reducible first|exact HB.out|apply bal|apply pbN|apply bd1|refine bst ?_ GE113.out)|exact HB.out))):w.heap.size ≤ gb114));have GE114:=GW114;replace HB:=As0.mk (bsp (by repeat (first|(with_reducible first|exact HB.out|apply bal|apply pbN|apply bd1|refine bst ?_ GE113.out)|exact HB.out)) hb);have NB113_114:=As0.mk ((by rw [hg];exact Nat.ne_of_lt (blk_lt (g:=gb113) (o:=.cells #[.string ((riS37 l0 x45_3).f0),.string ((riS37 l0 x45_3).f1),.int .i64 ((riS37 l0 x45_3).f2),.bool ((riS37 l0 x45_3).f3),.int .i64 ((riS37 l0 x45_3).f4)] 70 (0,0)) (by (with_reducible repeat (first|refine bkN ?_ _|refine bkD ?_|refine bkA ?_ _));refine blk_put (cs:=#[.string ((riS37 l0 x45_3).f0),.string ((riS37 l0 x45_3).f1),.int .i64 ((riS37 l0 x45_3).f2),.bool ((riS37 l0 x45_3).f3),.int .i64 0]) ?_ 4 _ rfl;(with_reducible repeat (first|refine bkN ?_ _|refine bkD ?_|refine bkA ?_ _));refine blk_put (cs:=#[.string ((riS37 l0 x45_3).f0),.string ((riS37 l0 x45_3).f1),.int .i64 ((riS37 l0 x45_3).f2),.bool false,.int .i64 0]) ?_ 3 _ rfl;(with_reducible repeat (first|refine bkN ?_ _|refine bkD ?_|refine bkA ?_ _));refine blk_put (cs:=#[.string ((riS37 l0 x45_3).f0),.string ((riS37 l0 x45_3).f1),.int .i64 0,.bool false,.int .i64 0]) ?_ 2 _ rfl;(with_reducible repeat (first|refine bkN ?_ _|refine bkD ?_|refine bkA ?_ _));refine blk_put (cs:=#[.string ((riS37 l0 x45_3).f0),.string ⟨#[]⟩,.int .i64 0,.bool false,.int .i64 0]) ?_ 1 _ rfl;(with_reducible repeat (first|refine bkN ?_ _|refine bkD ?_|refine bkA ?_ _));refine blk_put (cs:=#[.string ⟨#[]⟩,.string ⟨#[]⟩,.int .i64 0,.bool false,.int .i64 0]) ?_ 0 _ rfl;(with_reducible repeat (first|refine bkN ?_ _|refine bkD ?_|refine bkA ?_ _));exact BK113.out)):gb113 ≠ gb114));have NB114_113:=As0.mk (Ne.symm NB113_114.out);replace BK113:=As0.mk (blk_below (g:=gb113) (o:=.cells #[.string ((riS37 l0 x45_3).f0),.string ((riS37 l0 x45_3).f1),.int .i64 ((riS37 l0 x45_3).f2),.bool ((riS37 l0 x45_3).f3),.int .i64 ((riS37 l0 x45_3).f4)] 70 (0,0)) (by (with_reducible repeat (first|refine bkN ?_ _|refine bkD ?_|refine bkA ?_ _));refine blk_put (cs:=#[.string ((riS37 l0 x45_3).f0),.string ((riS37 l0 x45_3).f1),.int .i64 ((riS37 l0 x45_3).f2),.bool ((riS37 l0 x45_3).f3),.int .i64 0]) ?_ 4 _ rfl;(with_reducible repeat (first|refine bkN ?_ _|refine bkD ?_|refine bkA ?_ _));refine blk_put (cs:=#[.string ((riS37 l0 x45_3).f0),.string ((riS37 l0 x45_3).f1),.int .i64 ((riS37 l0 x45_3).f2),.bool false,.int .i64 0]) ?_ 3 _ rfl;(with_reducible repeat (first|refine bkN ?_ _|refine bkD ?_|refine bkA ?_ _));refine blk_put (cs:=#[.string ((riS37 l0 x45_3).f0),.string ((riS37 l0 x45_3).f1),.int .i64 0,.bool false,.int .i64 0]) ?_ 2 _ rfl;(with_reducible repeat (first|refine bkN ?_ _|refine bkD ?_|refine bkA ?_ _));refine blk_put (cs:=#[.string ((riS37 l0 x45_3).f0),.string ⟨#[]⟩,.int .i64 0,.bool false,.int .i64 0]) ?_ 1 _ rfl;(with_reducible repeat (first|refine bkN ?_ _|refine bkD ?_|refine bkA ?_ _));refine blk_put (cs:=#[.string ⟨#[]⟩,.string ⟨#[]⟩,.int .i64 0,.bool false,.int .i64 0]) ?_ 0 _ rfl;(with_reducible repeat (first|refine bkN ?_ _|refine bkD ?_|refine bkA ?_ _));exact BK113.out) hb);clear hb hbox hg;have hnb41:=NB114_113.out;have hnc41:=NB113_114.out;obtain ⟨hcz42_0,hcz42_1,hcz42_2,hcz42_3,hcz42_4⟩:=qc5 BK114.out;obtain ⟨hfz42_0,hfz42_1,hfz42_2,hfz42_3,hfz42_4⟩:=qz5 BK114.out))
                 show _;go_loopg [52] k3 (fun kq v52 w'=>∃ (x52_4:Int) (x115000_4:ByteArray) (x115001_4:ByteArray) (x115002_4:Int) (x115003_4:Bool) (x115004_4:Int),v52 = .int .i64 x52_4 ∧ As0 (impl_areSpaces.l2 kq l0 l0 (l0.length:Int) x45_3 (l0.length:Int) x52_4 x115000_4 x115001_4 x115002_4 x115003_4 x115004_4 = some r) ∧ As0 (kq ≤ k3) ∧ As0 (w'.heap[gb113]? = some (.cells #[.string ((riS37 l0 x45_3).f0),.string ((riS37 l0 x45_3).f1),.int .i64 ((riS37 l0 x45_3).f2),.bool ((riS37 l0 x45_3).f3),.int .i64 ((riS37 l0 x45_3).f4)] 70 (0,0))) ∧ As0 (w'.heap[gb114]? = some (.cells #[.string x115000_4,.string x115001_4,.int .i64 x115002_4,.bool x115003_4,.int .i64 x115004_4] 70 (0,0))) ∧ As0 (Below w.heap.size w w'))
                 case atStart=>exact ⟨(0),((riS37 l0 x45_3).f0),((riS37 l0 x45_3).f1),((riS37 l0 x45_3).f2),((riS37 l0 x45_3).f3),((riS37 l0 x45_3).f4),(by first|rfl|(simp;done)|(simp [*];done)),H',⟨Nat.le_refl _⟩,⟨by (with_reducible repeat (first|refine bkN ?_ _|refine bkD ?_|refine bkA ?_ _));refine blk_far ?_ NB113_114.out _;(with_reducible repeat (first|refine bkN ?_ _|refine bkD ?_|refine bkA ?_ _));refine blk_far ?_ NB113_114.out _;(with_reducible repeat (first|refine bkN ?_ _|refine bkD ?_|refine bkA ?_ _));refine blk_far ?_ NB113_114.out _;(with_reducible repeat (first|refine bkN ?_ _|refine bkD ?_|refine bkA ?_ _));refine blk_far ?_ NB113_114.out _;(with_reducible repeat (first|refine bkN ?_ _|refine bkD ?_|refine bkA ?_ _));refine blk_far ?_ NB113_114.out _;(with_reducible repeat (first|refine bkN ?_ _|refine bkD ?_|refine bkA ?_ _));exact BK113.out⟩,⟨by (with_reducible repeat (first|refine bkN ?_ _|refine bkD ?_|refine bkA ?_ _));refine blk_put (cs:=#[.string ((riS37 l0 x45_3).f0),.string ((riS37 l0 x45_3).f1),.int .i64 ((riS37 l0 x45_3).f2),.bool ((riS37 l0 x45_3).f3),.int .i64 0]) ?_ 4 _ rfl;(with_reducible repeat (first|refine bkN ?_ _|refine bkD ?_|refine bkA ?_ _));refine blk_put (cs:=#[.string ((riS37 l0 x45_3).f0),.string ((riS37 l0 x45_3).f1),.int .i64 ((riS37 l0 x45_3).f2),.bool false,.int .i64 0]) ?_ 3 _ rfl;(with_reducible repeat (first|refine bkN ?_ _|refine bkD ?_|refine bkA ?_ _));refine blk_put (cs:=#[.string ((riS37 l0 x45_3).f0),.string ((riS37 l0 x45_3).f1),.int .i64 0,.bool false,.int .i64 0]) ?_ 2 _ rfl;(with_reducible repeat (first|refine bkN ?_ _|refine bkD ?_|refine bkA ?_ _));refine blk_put (cs:=#[.string ((riS37 l0 x45_3).f0),.string ⟨#[]⟩,.int .i64 0,.bool false,.int .i64 0]) ?_ 1 _ rfl;(with_reducible repeat (first|refine bkN ?_ _|refine bkD ?_|refine bkA ?_ _));refine blk_put (cs:=#[.string ⟨#[]⟩,.string ⟨#[]⟩,.int .i64 0,.bool false,.int .i64 0]) ?_ 0 _ rfl;(with_reducible repeat (first|refine bkN ?_ _|refine bkD ?_|refine bkA ?_ _));exact BK114.out⟩,⟨by repeat (first|(with_reducible first|exact HB.out|apply bal|apply pbN|apply bd1|refine bst ?_ GE113.out|refine bst ?_ GE114.out)|exact HB.out)⟩⟩
                 case round=>
                  clear H'
                  try clear c1
                  try clear p1
                  try clear q1
                  try clear hx1
                  try clear p2
                  try clear c3
                  try clear c4
                  try clear c5
                  try clear c5b0
                  try clear c6
                  try clear p6
                  try clear c7
                  try clear c9
                  try clear c10
                  try clear c10b0
                  try clear p10
                  try clear q10
                  try clear hx10
                  try clear p11
                  try clear q11
                  try clear hx11
                  try clear c12
                  try clear c13
                  try clear c14
                  try clear c14b0
                  try clear c35
                  try clear c35b0
                  try clear c36
                  try clear c36b0
                  try clear c37
                  try clear c37b0
                  try clear c41
                  try clear hcz21_0
                  try clear hcz21_1
                  try clear hcz21_2
                  try clear hcz21_3
                  try clear hcz21_4
                  try clear hcz26_0
                  try clear hcz26_1
                  try clear hcz26_2
                  try clear hcz26_3
                  try clear hcz26_4
                  try clear hcz31_0
                  try clear hcz31_1
                  try clear hcz31_2
                  try clear hcz31_3
                  try clear hcz31_4
                  try clear hcz39_0
                  try clear hcz39_1
                  try clear hcz39_2
                  try clear hcz39_3
                  try clear hcz39_4
                  try clear hcz42_0
                  try clear hcz42_1
                  try clear hcz42_2
                  try clear hcz42_3
                  try clear hcz42_4
                  try clear hfz21_0
                  try clear hfz21_1
                  try clear hfz21_2
                  try clear hfz21_3
                  try clear hfz21_4
                  try clear hfz26_0
                  try clear hfz26_1
                  try clear hfz26_2
                  try clear hfz26_3
                  try clear hfz26_4
                  try clear hfz31_0
                  try clear hfz31_1
                  try clear hfz31_2
                  try clear hfz31_3
                  try clear hfz31_4
                  try clear hfz39_0
                  try clear hfz39_1
                  try clear hfz39_2
                  try clear hfz39_3
                  try clear hfz39_4
                  try clear hfz42_0
                  try clear hfz42_1
                  try clear hfz42_2
                  try clear hfz42_3
                  try clear hfz42_4
                  try clear hx108_0
                  try clear hx108_1
                  try clear hx108_2
                  try clear hx108_3
                  try clear hx108_4
                  try clear hx111_0
                  try clear hx111_1
                  try clear hx111_2
                  try clear hx111_3
                  try clear hx111_4
                  try clear hx112_0
                  try clear hx112_1
                  try clear hx112_2
                  try clear hx112_3
                  try clear hx112_4
                  try clear p1
                  try clear p10
                  try clear p108
                  try clear p11
                  try clear p111
                  try clear p112
                  try clear p2
                  try clear p6
                  try clear q1
                  try clear q10
                  try clear q108
                  try clear q11
                  try clear q111
                  try clear q112
                  obtain ⟨x52_4,x115000_4,x115001_4,x115002_4,x115003_4,x115004_4,rfl,HA,HK4,BK113,BK114,HB⟩:=hrel
                  cases gk with
                  |zero=>exact absurd HA.out (by simp [impl_areSpaces.l2])
                  |succ k4=>
                   have H:=HA.out;clear HA;simp only [impl_areSpaces.l2] at H;by_cases c43:x52_4 < (l0.length:Int)
                   · rw [if_pos c43] at H
                     have c43b0:decide (x52_4 < (l0.length:Int)) = true:=decide_eq_true c43;clear c43;replace H:=Option.bind_eq_some_iff.mp H;obtain ⟨t115,A440,H⟩:=H;(try dsimp only at H);have A44:=As0.mk A440;clear A440;by_cases c45:t115 ≥ 0
                     · rw [if_pos c45] at H
                       have c45b0:decide (0 ≤ t115) = true:=decide_eq_true c45;clear c45;by_cases c46:0 ≤ t115
                       · rw [if_pos c46] at H
                         have c46b0:decide (0 ≤ t115) = true:=decide_eq_true c46;clear c46;by_cases c47:t115 < (l0.length:Int)
                         · rw [if_pos c47] at H
                           have c47b0:decide (t115 < (l0.length:Int)) = true:=decide_eq_true c47;clear c47;have H':=As0.mk H;clear H;have hnb48:=NB114_113.out;have hnc48:=NB113_114.out;obtain ⟨hcz49_0,hcz49_1,hcz49_2,hcz49_3,hcz49_4⟩:=qc5 BK114.out;obtain ⟨hfz49_0,hfz49_1,hfz49_2,hfz49_3,hfz49_4⟩:=qz5 BK114.out
                           go_wp2_with (first|((with_reducible refine gca (f:=65) rfl ?_);refine gL (some 57) Tryz.func65 #[.slice (some ad112) l0.length c0,.string x115001_4] ?_;(with_reducible refine (impl_findSpace.calls _ _ l0 x115001_4 t115 _ ?side1 ?side2 A44.out).mono ?_);(case side1=>repeat (first|exact (Kd.C_below HR0.out HB.out)|(with_reducible first|refine Kd.C_alloc ?_ _|refine Kd.C_drewN ?_ _|refine Kd.C_drew ?_)));(case side2=>exact HC0.out);rintro e w50 ⟨rfl,hb⟩;refine ⟨_,rfl,?_⟩;replace BK113:=As0.mk (bb hb BK113.out);replace BK114:=As0.mk (bb hb BK114.out);replace HB:=As0.mk (bsp (by repeat (first|(with_reducible first|exact HB.out|apply bal|apply pbN|apply bd1|refine bst ?_ GE113.out|refine bst ?_ GE114.out)|exact HB.out)) hb);clear hb;have p116:0 ≤ (t115:Int):=odt;have q116:t115 < (l0.length:Int):=odt;obtain ⟨ad116,e116,hx116_0,hx116_1,hx116_2,hx116_3,hx116_4⟩:=at_T70 HR0.out t115 p116 q116;obtain rfl:ad112 = ad116:=(by injection e116);replace hx116_0:=bx HB.out rfl hx116_0;replace hx116_1:=bx HB.out rfl hx116_1;replace hx116_2:=bx HB.out rfl hx116_2;replace hx116_3:=bx HB.out rfl hx116_3;replace hx116_4:=bx HB.out rfl hx116_4;replace p116:=eq_true p116;replace q116:=eq_true q116;obtain ⟨hcz51_0,hcz51_1,hcz51_2,hcz51_3,hcz51_4⟩:=qc5 BK114.out;obtain ⟨hfz51_0,hfz51_1,hfz51_2,hfz51_3,hfz51_4⟩:=qz5 BK114.out))
                           show _;go_roundg k4
                           case measure=>have:=HJ1.out;have:=HK2.out;have:=HK3.out;have:=HK4.out;omega
                           case rel=>exact ⟨(wrap64 (x52_4 + 1)),((riS37 l0 t115).f0),((riS37 l0 t115).f1),((riS37 l0 t115).f2),((riS37 l0 t115).f3),((riS37 l0 t115).f4),(by first|rfl|(simp;done)|(simp [*];done)),H',⟨by have:=HJ1.out;have:=HK2.out;have:=HK3.out;have:=HK4.out;omega⟩,⟨by (with_reducible repeat (first|refine bkN ?_ _|refine bkD ?_|refine bkA ?_ _));refine blk_far ?_ NB113_114.out _;(with_reducible repeat (first|refine bkN ?_ _|refine bkD ?_|refine bkA ?_ _));refine blk_far ?_ NB113_114.out _;(with_reducible repeat (first|refine bkN ?_ _|refine bkD ?_|refine bkA ?_ _));refine blk_far ?_ NB113_114.out _;(with_reducible repeat (first|refine bkN ?_ _|refine bkD ?_|refine bkA ?_ _));refine blk_far ?_ NB113_114.out _;(with_reducible repeat (first|refine bkN ?_ _|refine bkD ?_|refine bkA ?_ _));refine blk_far ?_ NB113_114.out _;(with_reducible repeat (first|refine bkN ?_ _|refine bkD ?_|refine bkA ?_ _));exact BK113.out⟩,⟨by (with_reducible repeat (first|refine bkN ?_ _|refine bkD ?_|refine bkA ?_ _));refine blk_put (cs:=#[.string ((riS37 l0 t115).f0),.string ((riS37 l0 t115).f1),.int .i64 ((riS37 l0 t115).f2),.bool ((riS37 l0 t115).f3),.int .i64 x115004_4]) ?_ 4 _ rfl;(with_reducible repeat (first|refine bkN ?_ _|refine bkD ?_|refine bkA ?_ _));refine blk_put (cs:=#[.string ((riS37 l0 t115).f0),.string ((riS37 l0 t115).f1),.int .i64 ((riS37 l0 t115).f2),.bool x115003_4,.int .i64 x115004_4]) ?_ 3 _ rfl;(with_reducible repeat (first|refine bkN ?_ _|refine bkD ?_|refine bkA ?_ _));refine blk_put (cs:=#[.string ((riS37 l0 t115).f0),.string ((riS37 l0 t115).f1),.int .i64 x115002_4,.bool x115003_4,.int .i64 x115004_4]) ?_ 2 _ rfl;(with_reducible repeat (first|refine bkN ?_ _|refine bkD ?_|refine bkA ?_ _));refine blk_put (cs:=#[.string ((riS37 l0 t115).f0),.string x115001_4,.int .i64 x115002_4,.bool x115003_4,.int .i64 x115004_4]) ?_ 1 _ rfl;(with_reducible repeat (first|refine bkN ?_ _|refine bkD ?_|refine bkA ?_ _));refine blk_put (cs:=#[.string x115000_4,.string x115001_4,.int .i64 x115002_4,.bool x115003_4,.int .i64 x115004_4]) ?_ 0 _ rfl;(with_reducible repeat (first|refine bkN ?_ _|refine bkD ?_|refine bkA ?_ _));exact BK114.out⟩,⟨by repeat (first|(with_reducible first|exact HB.out|apply bal|apply pbN|apply bd1|refine bst ?_ GE113.out|refine bst ?_ GE114.out)|exact HB.out)⟩⟩
                         · rw [if_neg c47] at H
                           exact absurd H (by simp)
                       · rw [if_neg c46] at H
                         exact absurd H (by simp)
                     · rw [if_neg c45] at H
                       have c45b0:decide (0 ≤ t115) = false:=decide_eq_false c45;clear c45;have H':=As0.mk H;clear H;have hnb52:=NB114_113.out;have hnc52:=NB113_114.out;obtain ⟨hcz53_0,hcz53_1,hcz53_2,hcz53_3,hcz53_4⟩:=qc5 BK114.out;obtain ⟨hfz53_0,hfz53_1,hfz53_2,hfz53_3,hfz53_4⟩:=qz5 BK114.out
                       go_wp2_with (first|((with_reducible refine gca (f:=65) rfl ?_);refine gL (some 57) Tryz.func65 #[.slice (some ad112) l0.length c0,.string x115001_4] ?_;(with_reducible refine (impl_findSpace.calls _ _ l0 x115001_4 t115 _ ?side1 ?side2 A44.out).mono ?_);(case side1=>repeat (first|exact (Kd.C_below HR0.out HB.out)|(with_reducible first|refine Kd.C_alloc ?_ _|refine Kd.C_drewN ?_ _|refine Kd.C_drew ?_)));(case side2=>exact HC0.out);rintro e w54 ⟨rfl,hb⟩;refine ⟨_,rfl,?_⟩;replace BK113:=As0.mk (bb hb BK113.out);replace BK114:=As0.mk (bb hb BK114.out);replace HB:=As0.mk (bsp (by repeat (first|(with_reducible first|exact HB.out|apply bal|apply pbN|apply bd1|refine bst ?_ GE113.out|refine bst ?_ GE114.out)|exact HB.out)) hb);clear hb))
                       show _;go_roundg k4
                       case measure=>have:=HJ1.out;have:=HK2.out;have:=HK3.out;have:=HK4.out;omega
                       case rel=>exact ⟨(wrap64 (x52_4 + 1)),(x115000_4),(x115001_4),(x115002_4),(x115003_4),(x115004_4),(by first|rfl|(simp;done)|(simp [*];done)),H',⟨by have:=HJ1.out;have:=HK2.out;have:=HK3.out;have:=HK4.out;omega⟩,⟨by (with_reducible repeat (first|refine bkN ?_ _|refine bkD ?_|refine bkA ?_ _));exact BK113.out⟩,⟨by (with_reducible repeat (first|refine bkN ?_ _|refine bkD ?_|refine bkA ?_ _));exact BK114.out⟩,⟨by repeat (first|(with_reducible first|exact HB.out|apply bal|apply pbN|apply bd1|refine bst ?_ GE113.out|refine bst ?_ GE114.out)|exact HB.out)⟩⟩
                   · rw [if_neg c43] at H
                     have c43b0:decide (x52_4 < (l0.length:Int)) = false:=decide_eq_false c43;clear c43;by_cases c55:x115000_4.toList = ([97,108,108]:List UInt8)
                     · rw [if_pos c55] at H
                       have c55b0:(x115000_4.toList == ([97,108,108]:List UInt8)) = true:=beq_iff_eq.mpr c55;have c55b1:(x115000_4.toList != ([97,108,108]:List UInt8)) = false:=bne_eq_false_iff_eq.mpr c55;clear c55;have H':=As0.mk H;clear H;have hnb56:=NB114_113.out;have hnc56:=NB113_114.out;obtain ⟨hcz57_0,hcz57_1,hcz57_2,hcz57_3,hcz57_4⟩:=qc5 BK114.out;obtain ⟨hfz57_0,hfz57_1,hfz57_2,hfz57_3,hfz57_4⟩:=qz5 BK114.out
                       go_wp2
                       show _;go_roundg k4
                       case measure=>have:=HJ1.out;have:=HK2.out;have:=HK3.out;have:=HK4.out;omega
                       case rel=>exact ⟨(wrap64 (x45_3 + 1)),(by first|rfl|(simp;done)|(simp [*];done)),H',⟨by have:=HJ1.out;have:=HK2.out;have:=HK3.out;have:=HK4.out;omega⟩,⟨by repeat (first|(with_reducible first|exact HB.out|apply bal|apply pbN|apply bd1|refine bst ?_ GE113.out|refine bst ?_ GE114.out)|exact HB.out)⟩⟩
                     · rw [if_neg c55] at H
                       have c55b0:(x115000_4.toList == ([97,108,108]:List UInt8)) = false:=beq_eq_false_iff_ne.mpr c55;have c55b1:(x115000_4.toList != ([97,108,108]:List UInt8)) = true:=bne_iff_ne.mpr c55;obtain rfl:=Option.some.inj H;have hnb58:=NB114_113.out;have hnc58:=NB113_114.out;obtain ⟨hcz59_0,hcz59_1,hcz59_2,hcz59_3,hcz59_4⟩:=qc5 BK114.out;obtain ⟨hfz59_0,hfz59_1,hfz59_2,hfz59_3,hfz59_4⟩:=qz5 BK114.out
                       go_wp2
                       go_ret
                       exact ⟨eW,by repeat (first|(with_reducible first|exact HB.out|apply bal|apply pbN|apply bd1|refine bst ?_ GE113.out|refine bst ?_ GE114.out)|exact HB.out)⟩
               · rw [if_neg c37] at H
                 exact absurd H (by simp)
             · rw [if_neg c36] at H
               exact absurd H (by simp)
           · rw [if_neg c35] at H
             have c35b0:decide (x45_3 < (l0.length:Int)) = false:=decide_eq_false c35;clear c35;obtain rfl:=Option.some.inj H
             go_wp2
             go_ret
             exact ⟨eW,by repeat (first|(with_reducible first|exact HB.out|apply bal|apply pbN|apply bd1)|exact HB.out)⟩
end Go.Proofs.YtclgmogfkoinbaaGreatDoor.P
/- Worlds that keep what stood, boxes of five and seven cells, and a region of open order that only reads (and makes). -/
namespace Go.Proofs.YtclgmogfkoinbaaGreatDoor.P
open Go.RowKit Go.Proofs.YtclgmogfkoinbaaGreatDoorW.PrintWords Go.Proofs.YtclgmogfkoinbaaGreatDoorW.PrintLast Go.Proofs.YtclgmogfkoinbaaGreatDoorW.PrintMore
structure mq.QW (w:World) where
 u:World
 le:Below w.heap.size w u
instance mq.inst (w:World):Nonempty (mq.QW w):=⟨⟨w,Below.refl _ _⟩⟩
theorem mq.cell {w:World} {a:Addr} {v:Value} (h:w.cell? a = some v) (x:mq.QW w):x.1.cell? a = some v:=(x.2.cell (World.block_lt_of_cell? w _ h)).trans h
theorem mq.c7 {w:World} {g:Nat} {t:TypeId} {a b c d e f i:Value} (h:w.heap[g]? = some (.cells #[a,b,c,d,e,f,i] t (0,0))):(∀ x:mq.QW w,x.1.cell? ⟨g,0,none⟩ = some a) ∧ (∀ x:mq.QW w,x.1.cell? ⟨g,1,none⟩ = some b) ∧ (∀ x:mq.QW w,x.1.cell? ⟨g,2,none⟩ = some c) ∧ (∀ x:mq.QW w,x.1.cell? ⟨g,3,none⟩ = some d) ∧ (∀ x:mq.QW w,x.1.cell? ⟨g,4,none⟩ = some e) ∧ (∀ x:mq.QW w,x.1.cell? ⟨g,5,none⟩ = some f) ∧ (∀ x:mq.QW w,x.1.cell? ⟨g,6,none⟩ = some i):=
 ⟨mq.cell ((bkC h 0).trans rfl),mq.cell ((bkC h 1).trans rfl),mq.cell ((bkC h 2).trans rfl),mq.cell ((bkC h 3).trans rfl),mq.cell ((bkC h 4).trans rfl),mq.cell ((bkC h 5).trans rfl),mq.cell ((bkC h 6).trans rfl)⟩
theorem mq.b7 {w:World} {g:Nat} {t:TypeId} {a b c d e f i:Value} (h:w.heap[g]? = some (.cells #[a,b,c,d,e,f,i] t (0,0))):w.cell? ⟨g,0,none⟩ = some a ∧ w.cell? ⟨g,1,none⟩ = some b ∧ w.cell? ⟨g,2,none⟩ = some c ∧ w.cell? ⟨g,3,none⟩ = some d ∧ w.cell? ⟨g,4,none⟩ = some e ∧ w.cell? ⟨g,5,none⟩ = some f ∧ w.cell? ⟨g,6,none⟩ = some i:=
 ⟨(bkC h 0).trans rfl,(bkC h 1).trans rfl,(bkC h 2).trans rfl,(bkC h 3).trans rfl,(bkC h 4).trans rfl,(bkC h 5).trans rfl,(bkC h 6).trans rfl⟩
theorem mq.b5 {w:World} {g:Nat} {t:TypeId} {a b c d e:Value} (h:w.heap[g]? = some (.cells #[a,b,c,d,e] t (0,0))):w.cell? ⟨g,0,none⟩ = some a ∧ w.cell? ⟨g,1,none⟩ = some b ∧ w.cell? ⟨g,2,none⟩ = some c ∧ w.cell? ⟨g,3,none⟩ = some d ∧ w.cell? ⟨g,4,none⟩ = some e:=
 ⟨(bkC h 0).trans rfl,(bkC h 1).trans rfl,(bkC h 2).trans rfl,(bkC h 3).trans rfl,(bkC h 4).trans rfl⟩
def mq.put5 (w:World) (g:Nat) (a b c d e:Value):World:=(((((w.setCell ⟨g,0,none⟩ a).setCell ⟨g,1,none⟩ b).setCell ⟨g,2,none⟩ c).setCell ⟨g,3,none⟩ d).setCell ⟨g,4,none⟩ e)
def mq.put7 (w:World) (g:Nat) (a b c d e f i:Value):World:=(((mq.put5 w g a b c d e).setCell ⟨g,5,none⟩ f).setCell ⟨g,6,none⟩ i)
theorem mq.blk5 {w:World} {g:Nat} {t:TypeId} {z0 z1 z2 z3 z4:Value} (h:w.heap[g]? = some (.cells #[z0,z1,z2,z3,z4] t (0,0))) {a b c d e:Value} {W2:World} (hw:W2 = mq.put5 w g a b c d e):W2.heap[g]? = some (.cells #[a,b,c,d,e] t (0,0)):=by
 subst hw
 exact blk_put (blk_put (blk_put (blk_put (blk_put h 0 a rfl) 1 b rfl) 2 c rfl) 3 d rfl) 4 e rfl
theorem mq.blk5x {w:World} {g:Nat} {t:TypeId} {z0 z1 z2 z3 z4 z5 z6:Value} (h:w.heap[g]? = some (.cells #[z0,z1,z2,z3,z4,z5,z6] t (0,0))) (a b c d e:Value):(mq.put5 w g a b c d e).heap[g]? = some (.cells #[a,b,c,d,e,z5,z6] t (0,0)):=
 blk_put (blk_put (blk_put (blk_put (blk_put h 0 a rfl) 1 b rfl) 2 c rfl) 3 d rfl) 4 e rfl
theorem mq.region {P:Program} {id:Nat} {Q:Exit → Act → World → Prop} {a:Act} {w:World} {l:List Oper} (hm:P.follows .mixedOrders = true) (hB:Region.lexB .any l.toArray = true)
 (h:wpQuiet P l.toArray (fun w'=>∃ x:mq.QW w,w' = x.1) (fun a'=>∀ w',Below w.heap.size w w' → Q .normal a' w') l a):(Code.region id l.toArray true).wp P Q a w:=
 wp_region_quiet (C:=fun w'=>∃ x:mq.QW w,w' = x.1) hm hB ⟨⟨w.drew,bd1 (Below.refl _ _)⟩,rfl⟩ (by
  have e:(fun a':Act=>∀ w':World,(∃ x:mq.QW w,w' = x.1) → Q .normal a' w') = fun a'=>∀ w',Below w.heap.size w w' → Q .normal a' w':=by
   funext a'
   exact propext ⟨fun h w' hw=>h w' ⟨⟨w',hw⟩,rfl⟩,fun h w' ⟨x,hx⟩=>hx ▸ h x.1 x.2⟩
  rw [e];simpa using h)
theorem mq.wid {i:Int} (h:-9223372036854775808 ≤ i) (h':i ≤ 9223372036854775807):wrap64 i = i:=by unfold wrap64;omega
theorem mq.blk7 {w:World} {g:Nat} {t:TypeId} {z0 z1 z2 z3 z4 z5 z6:Value} (h:w.heap[g]? = some (.cells #[z0,z1,z2,z3,z4,z5,z6] t (0,0))) {a b c d e f i:Value} {W2:World} (hw:W2 = mq.put7 w g a b c d e f i):W2.heap[g]? = some (.cells #[a,b,c,d,e,f,i] t (0,0)):=by
 subst hw
 exact blk_put (blk_put (mq.blk5x h a b c d e) 5 f rfl) 6 i rfl
theorem mq.below5 {w W W2:World} {g:Nat} {a b c d e:Value} (h:Below w.heap.size w W) (hg:w.heap.size ≤ g) (hw:W2 = mq.put5 W g a b c d e):Below w.heap.size w W2:=by
 subst hw
 exact bst (bst (bst (bst (bst h hg) hg) hg) hg) hg
theorem mq.below7 {w W W2:World} {g:Nat} {a b c d e f i:Value} (h:Below w.heap.size w W) (hg:w.heap.size ≤ g) (hw:W2 = mq.put7 W g a b c d e f i):Below w.heap.size w W2:=by
 subst hw
 exact bst (bst (mq.below5 h hg rfl) hg) hg
theorem mq.b4 {w:World} {g:Nat} {t:TypeId} {a b c d:Value} (h:w.heap[g]? = some (.cells #[a,b,c,d] t (0,0))):w.cell? ⟨g,0,none⟩ = some a ∧ w.cell? ⟨g,1,none⟩ = some b ∧ w.cell? ⟨g,2,none⟩ = some c ∧ w.cell? ⟨g,3,none⟩ = some d:=
 ⟨(bkC h 0).trans rfl,(bkC h 1).trans rfl,(bkC h 2).trans rfl,(bkC h 3).trans rfl⟩
def mq.put4 (w:World) (g:Nat) (a b c d:Value):World:=((((w.setCell ⟨g,0,none⟩ a).setCell ⟨g,1,none⟩ b).setCell ⟨g,2,none⟩ c).setCell ⟨g,3,none⟩ d)
theorem mq.blk4 {w:World} {g:Nat} {t:TypeId} {z0 z1 z2 z3:Value} (h:w.heap[g]? = some (.cells #[z0,z1,z2,z3] t (0,0))) {a b c d:Value} {W2:World} (hw:W2 = mq.put4 w g a b c d):W2.heap[g]? = some (.cells #[a,b,c,d] t (0,0)):=by
 subst hw
 exact blk_put (blk_put (blk_put (blk_put h 0 a rfl) 1 b rfl) 2 c rfl) 3 d rfl
theorem mq.below4 {w W W2:World} {g:Nat} {a b c d:Value} (h:Below w.heap.size w W) (hg:w.heap.size ≤ g) (hw:W2 = mq.put4 W g a b c d):Below w.heap.size w W2:=by
 subst hw
 exact bst (bst (bst (bst h hg) hg) hg) hg
theorem mq.bt {α:Type} [BEq α] {a b:α} (h:(a == b) = true):(a != b) = false:=by rw [bne,h];rfl
theorem mq.bf {α:Type} [BEq α] {a b:α} (h:(a == b) = false):(a != b) = true:=by rw [bne,h];rfl
theorem mq.b2 {w:World} {g:Nat} {t:TypeId} {a b:Value} (h:w.heap[g]? = some (.cells #[a,b] t (0,0))):w.cell? ⟨g,0,none⟩ = some a ∧ w.cell? ⟨g,1,none⟩ = some b:=⟨(bkC h 0).trans rfl,(bkC h 1).trans rfl⟩
theorem mq.c2 {w:World} {g:Nat} {t:TypeId} {a b:Value} (h:w.heap[g]? = some (.cells #[a,b] t (0,0))):(∀ x:mq.QW w,x.1.cell? ⟨g,0,none⟩ = some a) ∧ (∀ x:mq.QW w,x.1.cell? ⟨g,1,none⟩ = some b):=⟨mq.cell ((bkC h 0).trans rfl),mq.cell ((bkC h 1).trans rfl)⟩
def mq.put2 (w:World) (g:Nat) (a b:Value):World:=((w.setCell ⟨g,0,none⟩ a).setCell ⟨g,1,none⟩ b)
theorem mq.blk2 {w:World} {g:Nat} {t:TypeId} {z0 z1:Value} (h:w.heap[g]? = some (.cells #[z0,z1] t (0,0))) {a b:Value} {W2:World} (hw:W2 = mq.put2 w g a b):W2.heap[g]? = some (.cells #[a,b] t (0,0)):=by
 subst hw
 exact blk_put (blk_put h 0 a rfl) 1 b rfl
theorem mq.below2 {w W W2:World} {g:Nat} {a b:Value} (h:Below w.heap.size w W) (hg:w.heap.size ≤ g) (hw:W2 = mq.put2 W g a b):Below w.heap.size w W2:=by
 subst hw
 exact bst (bst h hg) hg
end Go.Proofs.YtclgmogfkoinbaaGreatDoor.P
namespace Go.Proofs.YtclgmogfkoinbaaGreatDoor.P
open Go.RowKit Go.Proofs.YtclgmogfkoinbaaGreatDoorW.PrintWords Go.Proofs.YtclgmogfkoinbaaGreatDoorW.PrintLast Go.Proofs.YtclgmogfkoinbaaGreatDoorW.PrintMore
attribute [local go_sem] max2_int min2_int max_two min_two max_three min_three max_four min_four
set_option linter.unusedVariables false
set_option linter.unusedSimpArgs false
def impl_areUses.l1 (sp:List (SiS28)) (us:List (SiU30)):Nat → Int → Option Bool
 |0,_=>some ((us.length:Int) == (sp.length:Int))
 |m + 1,i=>if (sp.length:Int) ≤ i then some false else if (riU39 us i).f0.toList = (riS37 sp i).f0.toList then (if (riU39 us i).f1 < 0 then some false else if 99999 < (riU39 us i).f1 then some false else impl_areUses.l1 sp us m (i + 1)) else some false
def impl_areUses.f (_k:Nat) (sp:List (SiS28)) (us:List (SiU30)):Option Bool:=impl_areUses.l1 sp us us.length 0
set_option maxHeartbeats 40000000 in
set_option maxRecDepth 100000 in
theorem impl_areUses.calls (k:Nat) (A3:Option Addr) (c3:Nat) (sp:List (SiS28)) (A4:Option Addr) (c4:Nat) (us:List (SiU30)) (r:Bool) (w:World) (hr3:Kd.C k70 w A3 sp.length sp) (hc3:sp.length ≤ c3) (hr4:Kd.C k72 w A4 us.length us) (hc4:us.length ≤ c4) (h:impl_areUses.f k sp us = some r) :
 Calls Tryz.prog 62 #[.slice A3 sp.length c3,.slice A4 us.length c4] w fun e w'=>e = .returned (.bool r) ∧ Below w.heap.size w w':=by
 have hu70:=Tryz.underlying70;have hu72:=Tryz.underlying72;have HR3:=As0.mk hr3;have HR4:=As0.mk hr4;have HN4:=As0.mk hr4.2.1;clear hr3 hr4 hc3 hc4;have HB:=As0.mk (Below.refl w.heap.size w);have H:=As0.mk (show impl_areUses.l1 sp us us.length 0 = some r from h);clear h
 go_enter Tryz.func62,Tryz.ntmps62
 go_wp2
 show _;go_loopg [9] us.length (fun m v w'=>∃ ii:Int,v = .int .i64 ii ∧ As0 (0 ≤ ii ∧ ii + m = us.length) ∧ As0 (impl_areUses.l1 sp us m ii = some r) ∧ As0 (Below w.heap.size w w'))
 case atStart=>exact ⟨0,(by first|rfl|(simp;done)),⟨⟨Int.le_refl _,by simp⟩⟩,⟨H.out⟩,HB⟩
 case round=>
  clear HB H;obtain ⟨ii,rfl,HM,H,HB⟩:=hrel
  cases gk with
  |zero=>
   have hm:=HM.out;have t0:decide (ii < (us.length:Int)) = false:=decide_eq_false (by have:=hm.2;omega);obtain rfl:=Option.some.inj H.out;clear hm HM H
   go_wp2
   go_ret
   exact ⟨by first|rfl|(simp;done),HB.out⟩
  |succ k2=>
   have hm:=HM.out;have hi0:0 ≤ ii:=hm.1;have hin:ii < (us.length:Int):=by have:=hm.2;omega
   have t0:decide (ii < (us.length:Int)) = true:=decide_eq_true hin;have p0:(0 ≤ ii) = True:=eq_true hi0;have q0:(ii < (us.length:Int)) = True:=eq_true hin;have q1_:(ii.toNat < us.length) = True:=eq_true (by omega);have hw1:wrap64 (ii + 1) = ii + 1:=mq.wid (by have:=HN4.out;omega) (by have:=HN4.out;omega);have W0:=As0.mk hw1;have HM2:=As0.mk (show 0 ≤ ii + 1 ∧ ii + 1 + (k2:Nat) = (us.length:Int) from by have:=hm.2;constructor <;> omega);obtain ⟨ad,e0,hx0,hx1⟩:=at_T72 HR4.out ii hi0 hin
   cases e0
   replace hx0:=bx HB.out rfl hx0;replace hx1:=bx HB.out rfl hx1;have h:=H.out;rw [impl_areUses.l1] at h;clear H HM hm hw1 hin
   show _;go_upto_region 4 with (first
    |((with_reducible refine gate_dst (N:=6) rfl ?_);refine bE 6 #[.string ⟨#[]⟩,.int .i64 0] 72 ?_;intro gx hg w6 hbox hb;have BZ:=As0.mk hbox;have HZ:=As0.mk hb;have GX:=As0.mk (show wr.heap.size ≤ gx from Nat.le_of_eq hg.symm);clear hb hg hbox;have z0:=bkF BZ.out 0;have z1:=bkF BZ.out 1;obtain ⟨j0,j1⟩:=mq.b2 BZ.out)
    |((with_reducible refine gate_store (t:=72) (p:=6) rfl ?_);refine store_event (t:=72) (p:=6) (v:=?vo_a) (w1:=mq.put2 w6 gx (.string (riU39 us ii).f0) (.int .i64 (riU39 us ii).f1)) ?hg ?ho ?hn ?hr ?_;(case ho=>rfl);(case hg=>rfl);(case hn=>rfl);(case hr=>unfold mq.put2;first|done|(go_simp;done)|(go_simp;rfl));intro w7 hw;have hb:=mq.below2 HZ.out GX.out hw;have BX:=As0.mk (mq.blk2 BZ.out hw);clear hw HZ BZ GX z0 z1 j0 j1 hx0 hx1;have n_:=As0.mk (bsp HB.out hb);clear HB  hb;have HB:=n_;clear n_;obtain ⟨j0,j1⟩:=mq.b2 BX.out;))
   clear j0 j1
   (try simp only [Act.put,sA,sZ,sS])
   obtain ⟨g0,g1⟩:=mq.c2 BX.out;by_cases hl:(sp.length:Int) ≤ ii
   · rw [if_pos hl] at h
     obtain rfl:=Option.some.inj h;have t2:decide ((sp.length:Int) ≤ ii) = true:=decide_eq_true hl;clear hl h;refine mq.region (by kernel_rfl) (by kernel_rfl) ?_
     repeat (go_big_quiet_step (fail))
     refine wpQuiet_nil ?_;intro w8 hb;replace HB:=As0.mk (bsp HB.out hb);clear BX hb g0 g1
     go_wp2
     go_ret
     exact ⟨by first|rfl|(simp;done),HB.out⟩
   rw [if_neg hl] at h;have t2:decide ((sp.length:Int) ≤ ii) = false:=decide_eq_false hl;have his:ii < (sp.length:Int):=Int.lt_of_not_ge hl;have u0:(ii < (sp.length:Int)) = True:=eq_true his;have u1:(ii.toNat < sp.length) = True:=eq_true (by omega);obtain ⟨ad2,e0,x0,x1,x2,x3,x4⟩:=at_T70 HR3.out ii hi0 his
   cases e0
   have d0:=mq.cell ((HB.out.cell (World.block_lt_of_cell? w _ x0)).trans x0);clear hl his hi0 x0 x1 x2 x3 x4;by_cases he:(riU39 us ii).f0.toList = (riS37 sp ii).f0.toList
   rotate_left
   · rw [if_neg he] at h
     obtain rfl:=Option.some.inj h;have s1:((riU39 us ii).f0.toList == (riS37 sp ii).f0.toList) = false:=beq_eq_false_iff_ne.mpr he;have s2:=mq.bf s1;clear he h;refine mq.region (by kernel_rfl) (by kernel_rfl) ?_
     repeat (go_big_quiet_step (fail))
     refine wpQuiet_nil ?_;intro w8 hb;replace HB:=As0.mk (bsp HB.out hb);clear BX hb g0 g1
     go_wp2
     go_ret
     exact ⟨by first|rfl|(simp;done),HB.out⟩
   rw [if_pos he] at h;have s1:((riU39 us ii).f0.toList == (riS37 sp ii).f0.toList) = true:=beq_iff_eq.mpr he;have s2:=mq.bt s1;clear he;by_cases h1:(riU39 us ii).f1 < 0
   · rw [if_pos h1] at h
     obtain rfl:=Option.some.inj h;have t3:decide ((riU39 us ii).f1 < 0) = true:=decide_eq_true h1;clear h1 h;refine mq.region (by kernel_rfl) (by kernel_rfl) ?_
     repeat (go_big_quiet_step (fail))
     refine wpQuiet_nil ?_;intro w8 hb;replace HB:=As0.mk (bsp HB.out hb);clear BX hb g0 g1
     go_wp2
     go_ret
     exact ⟨by first|rfl|(simp;done),HB.out⟩
   rw [if_neg h1] at h;have t3:decide ((riU39 us ii).f1 < 0) = false:=decide_eq_false h1;clear h1;by_cases h1:99999 < (riU39 us ii).f1
   · rw [if_pos h1] at h
     obtain rfl:=Option.some.inj h;have t4:decide (99999 < (riU39 us ii).f1) = true:=decide_eq_true h1;clear h1 h;refine mq.region (by kernel_rfl) (by kernel_rfl) ?_
     repeat (go_big_quiet_step (fail))
     refine wpQuiet_nil ?_;intro w8 hb;replace HB:=As0.mk (bsp HB.out hb);clear BX hb g0 g1
     go_wp2
     go_ret
     exact ⟨by first|rfl|(simp;done),HB.out⟩
   rw [if_neg h1] at h;have t4:decide (99999 < (riU39 us ii).f1) = false:=decide_eq_false h1;have H:=As0.mk h;clear h1 h;refine mq.region (by kernel_rfl) (by kernel_rfl) ?_
   repeat (go_big_quiet_step (fail))
   refine wpQuiet_nil ?_;intro w8 hb;replace HB:=As0.mk (bsp HB.out hb);clear BX hb g0 g1
   go_wp2
   show _;go_roundg k2
   case measure=>omega
   case rel=>exact ⟨ii + 1,(by first|rw [W0.out]|(simp [W0.out];done)|(simp;done)),HM2,H,HB⟩
def impl_arePasts.st (x:SiP27) (G:Option Bool):Option Bool:=
 if x.f1.toList = ([43]:List UInt8) ∨ x.f1.toList = ([61]:List UInt8) ∨ x.f1.toList = ([45]:List UInt8) then (impl_isName.f x.f2).bind fun b=>if b = true then (if x.f3.toList = ([]:List UInt8) then G else (impl_isName.f x.f3).bind fun c=>if c = true then G else some false) else some false else some false
def impl_arePasts.l1 (fl:Int) (P:List (SiP27)):Nat → Int → Option Bool
 |0,_=>some true
 |m + 1,i=>if (riP36 P i).f0 = wrap64 (wrap64 (fl + 1) + i) then impl_arePasts.st (riP36 P i) (impl_arePasts.l1 fl P m (i + 1)) else some false
def impl_arePasts.f (_k:Nat) (rev _uid fl:Int) (_:List (SiS28)) (_:List (SiU30)) (_:List (SiT29)) (P:List (SiP27)):Option Bool:=
 if 8 < P.length then some false else if (P.length:Int) = wrap64 (rev - fl) then impl_arePasts.l1 fl P P.length 0 else some false
theorem impl_arePasts.st_cases {x:SiP27} {G:Option Bool} {b:Bool} (h:impl_arePasts.st x G = some b) :
 (b = false ∧ (x.f1.toList == ([43]:List UInt8)) = false ∧ (x.f1.toList == ([61]:List UInt8)) = false ∧ (x.f1.toList == ([45]:List UInt8)) = false) ∨ (((x.f1.toList == ([43]:List UInt8)) = true ∨ ((x.f1.toList == ([43]:List UInt8)) = false ∧ (x.f1.toList == ([61]:List UInt8)) = true) ∨ ((x.f1.toList == ([43]:List UInt8)) = false ∧ (x.f1.toList == ([61]:List UInt8)) = false ∧ (x.f1.toList == ([45]:List UInt8)) = true)) ∧ ((b = false ∧ As0 (impl_isName.f x.f2 = some false)) ∨ (b = false ∧ As0 (impl_isName.f x.f2 = some true) ∧ (x.f3.toList == ([]:List UInt8)) = false ∧ As0 (impl_isName.f x.f3 = some false)) ∨ (As0 (G = some b) ∧ As0 (impl_isName.f x.f2 = some true) ∧ (x.f3.toList == ([]:List UInt8)) = true) ∨ (As0 (G = some b) ∧ As0 (impl_isName.f x.f2 = some true) ∧ (x.f3.toList == ([]:List UInt8)) = false ∧ As0 (impl_isName.f x.f3 = some true)))):=by
 unfold impl_arePasts.st at h;simp only [beq_iff_eq,beq_eq_false_iff_ne,ne_eq];by_cases c1:x.f1.toList = ([43]:List UInt8) ∨ x.f1.toList = ([61]:List UInt8) ∨ x.f1.toList = ([45]:List UInt8)
 · rw [if_pos c1] at h
   refine .inr ⟨by by_cases a:x.f1.toList = ([43]:List UInt8) <;> by_cases a':x.f1.toList = ([61]:List UInt8) <;> simp_all,?_⟩;obtain ⟨t,ht,h⟩:=Option.bind_eq_some_iff.mp h
   cases t with
   |false=>exact .inl ⟨by simpa using h.symm,⟨ht⟩⟩
   |true=>
   rw [if_pos rfl] at h;by_cases c2:x.f3.toList = ([]:List UInt8)
   · rw [if_pos c2] at h;exact .inr (.inr (.inl ⟨⟨h⟩,⟨ht⟩,c2⟩))
   rw [if_neg c2] at h;obtain ⟨u,hu,h⟩:=Option.bind_eq_some_iff.mp h
   cases u with
   |false=>exact .inr (.inl ⟨by simpa using h.symm,⟨ht⟩,c2,⟨hu⟩⟩)
   |true=>rw [if_pos rfl] at h;exact .inr (.inr (.inr ⟨⟨h⟩,⟨ht⟩,c2,⟨hu⟩⟩))
 · rw [if_neg c1] at h
   exact .inl ⟨(Option.some.inj h).symm,fun a=>c1 (.inl a),fun a=>c1 (.inr (.inl a)),fun a=>c1 (.inr (.inr a))⟩
set_option maxHeartbeats 40000000 in
set_option maxRecDepth 100000 in
theorem impl_arePasts.calls (k:Nat) (rev uid fl:Int) (A3:Option Addr) (c3:Nat) (sp:List (SiS28)) (A4:Option Addr) (c4:Nat) (us:List (SiU30)) (A5:Option Addr) (c5:Nat) (T:List (SiT29)) (A6:Option Addr) (c6:Nat) (P:List (SiP27)) (r:Bool) (w:World) (hr3:Kd.C k70 w A3 sp.length sp) (hc3:sp.length ≤ c3) (hr4:Kd.C k72 w A4 us.length us) (hc4:us.length ≤ c4) (hr5:Kd.C k44 w A5 T.length T) (hc5:T.length ≤ c5) (hr6:Kd.C k36 w A6 P.length P) (hc6:P.length ≤ c6) (h:impl_arePasts.f k rev uid fl sp us T P = some r) :
 Calls Tryz.prog 63 #[.agg #[.int .i64 rev,.int .i64 uid,.int .i64 fl,.slice A3 sp.length c3,.slice A4 us.length c4,.slice A5 T.length c5,.slice A6 P.length c6]] w fun e w'=>e = .returned (.bool r) ∧ Below w.heap.size w w':=by
 have hu28:=Tryz.underlying28;have hu36:=Tryz.underlying36;clear hr3 hc3 hr4 hc4 hr5 hc5;have HR6:=As0.mk hr6;have HN6:=As0.mk hr6.2.1;clear hr6 hc6;have HB:=As0.mk (Below.refl w.heap.size w);unfold impl_arePasts.f at h
 go_enter Tryz.func63,Tryz.ntmps63
 show _;go_upto_region 1 with (first
  |((with_reducible refine gate_dst (N:=1) rfl ?_);refine bE 1 #[.int .i64 rev,.int .i64 uid,.int .i64 fl,.slice A3 sp.length c3,.slice A4 us.length c4,.slice A5 T.length c5,.slice A6 P.length c6] 28 ?_;intro gb hg w1 hbox hb;have n0_:=As0.mk (bsp HB.out hb);have BM:=As0.mk hbox;clear HB hb hg hbox;have HB:=n0_;clear n0_;obtain ⟨kc0,kc1,kc2,kc3,kc4,kc5,kc6⟩:=mq.b7 BM.out))
 by_cases hl:8 < P.length
 · rw [if_pos hl] at h
   obtain rfl:=Option.some.inj h;have t0:decide (8 < (P.length:Int)) = true:=decide_eq_true (by omega);have t1:decide (8 < P.length) = true:=decide_eq_true hl;clear hl h
   go_wp2
   go_ret
   exact ⟨by first|rfl|(simp;done),HB.out⟩
 rw [if_neg hl] at h;have t0:decide (8 < (P.length:Int)) = false:=decide_eq_false (by omega);have t1:decide (8 < P.length) = false:=decide_eq_false hl;clear hl;by_cases he:(P.length:Int) = wrap64 (rev - fl)
 rotate_left
 · rw [if_neg he] at h
   obtain rfl:=Option.some.inj h;have t2:((P.length:Int) != wrap64 (rev - fl)) = true:=bne_iff_ne.mpr he;clear he h
   go_wp2
   go_ret
   exact ⟨by first|rfl|(simp;done),HB.out⟩
 rw [if_pos he] at h;have t2:((P.length:Int) != wrap64 (rev - fl)) = false:=bne_eq_false_iff_eq.mpr he;clear he;have H:=As0.mk h;clear h
 go_wp2
 clear t0 t1 t2
 show _;go_loopg [23] P.length (fun m v w'=>∃ ii:Int,v = .int .i64 ii ∧ As0 (0 ≤ ii ∧ ii + m = P.length) ∧ As0 (impl_arePasts.l1 fl P m ii = some r) ∧ As0 (Below w.heap.size w w') ∧ As0 (w'.heap[gb]? = some (.cells #[.int .i64 rev,.int .i64 uid,.int .i64 fl,.slice A3 sp.length c3,.slice A4 us.length c4,.slice A5 T.length c5,.slice A6 P.length c6] 28 (0,0))))
 case atStart=>exact ⟨0,(by first|rfl|(simp;done)),⟨⟨Int.le_refl _,by simp⟩⟩,⟨H.out⟩,HB,BM⟩
 case round=>
  clear HB BM H kc0 kc1 kc2 kc3 kc4 kc5 kc6;obtain ⟨ii,rfl,HM,H,HB,BM⟩:=hrel;obtain ⟨kc0,kc1,kc2,kc3,kc4,kc5,kc6⟩:=mq.b7 BM.out
  cases gk with
  |zero=>
   have hm:=HM.out;have t0:decide (ii < (P.length:Int)) = false:=decide_eq_false (by have:=hm.2;omega);obtain rfl:=Option.some.inj H.out;clear hm HM H
   go_wp2
   go_ret
   exact ⟨by first|rfl|(simp;done),HB.out⟩
  |succ k2=>
   have hm:=HM.out;have hi0:0 ≤ ii:=hm.1;have hin:ii < (P.length:Int):=by have:=hm.2;omega
   have t0:decide (ii < (P.length:Int)) = true:=decide_eq_true hin;have p0:(0 ≤ ii) = True:=eq_true hi0;have q0:(ii < (P.length:Int)) = True:=eq_true hin;have q1_:(ii.toNat < P.length) = True:=eq_true (by omega);have hw1:wrap64 (ii + 1) = ii + 1:=mq.wid (by have:=HN6.out;omega) (by have:=HN6.out;omega);have W0:=As0.mk hw1;have HM2:=As0.mk (show 0 ≤ ii + 1 ∧ ii + 1 + (k2:Nat) = (P.length:Int) from by have:=hm.2;constructor <;> omega);obtain ⟨ad,e0,hx0,hx1,hx2,hx3⟩:=at_T36 HR6.out ii hi0 hin
   cases e0
   replace hx0:=bx HB.out rfl hx0;replace hx1:=bx HB.out rfl hx1;replace hx2:=bx HB.out rfl hx2;replace hx3:=bx HB.out rfl hx3;have h:=H.out;rw [impl_arePasts.l1] at h;clear H HM hm hw1 hi0 hin;by_cases he:(riP36 P ii).f0 = wrap64 (wrap64 (fl + 1) + ii)
   rotate_left
   · rw [if_neg he] at h
     obtain rfl:=Option.some.inj h;have t2:((riP36 P ii).f0 != wrap64 (wrap64 (fl + 1) + ii)) = true:=bne_iff_ne.mpr he;clear he h
     go_wp2_with (first
      |((with_reducible refine gate_dst (N:=4) rfl ?_);refine bE 4 #[.int .i64 0,.string ⟨#[]⟩,.string ⟨#[]⟩,.string ⟨#[]⟩] 36 ?_;intro gx hg w6 hbox hb;have BZ:=As0.mk hbox;have HZ:=As0.mk hb;have GX:=As0.mk (show wr.heap.size ≤ gx from Nat.le_of_eq hg.symm);clear hb hg hbox;have z0:=bkF BZ.out 0;have z1:=bkF BZ.out 1;have z2:=bkF BZ.out 2;have z3:=bkF BZ.out 3;obtain ⟨j0,j1,j2,j3⟩:=mq.b4 BZ.out)
      |((with_reducible refine gate_store (t:=36) (p:=4) rfl ?_);refine store_event (t:=36) (p:=4) (v:=?vo_b) (w1:=mq.put4 w6 gx (.int .i64 (riP36 P ii).f0) (.string (riP36 P ii).f1) (.string (riP36 P ii).f2) (.string (riP36 P ii).f3)) ?hg ?ho ?hn ?hr ?_;(case ho=>rfl);(case hg=>rfl);(case hn=>rfl);(case hr=>unfold mq.put4;first|done|(go_simp;done)|(go_simp;rfl));intro w7 hw;have hb:=mq.below4 HZ.out GX.out hw;have BX:=As0.mk (mq.blk4 BZ.out hw);clear hw HZ BZ GX z0 z1 z2 z3 j0 j1 j2 j3 hx0 hx1 hx2 hx3 kc0 kc1 kc2 kc3 kc4 kc5 kc6;have n_:=As0.mk (bsp HB.out hb);have n_BM:=As0.mk (blk_below BM.out hb);clear HB BM hb;have HB:=n_;clear n_;have BM:=n_BM;clear n_BM;obtain ⟨j0,j1,j2,j3⟩:=mq.b4 BX.out;obtain ⟨kc0,kc1,kc2,kc3,kc4,kc5,kc6⟩:=mq.b7 BM.out))
     go_ret
     exact ⟨by first|rfl|(simp;done),HB.out⟩
   rw [if_pos he] at h;have t2:((riP36 P ii).f0 != wrap64 (wrap64 (fl + 1) + ii)) = false:=bne_eq_false_iff_eq.mpr he;clear he;rcases impl_arePasts.st_cases h with ⟨rfl,s1,s2,s3⟩|⟨hs,hc⟩
   · have q1:=mq.bf s1;have q2:=mq.bf s2;have q3:=mq.bf s3
     clear h
     go_wp2_with (first
      |((with_reducible refine gate_dst (N:=4) rfl ?_);refine bE 4 #[.int .i64 0,.string ⟨#[]⟩,.string ⟨#[]⟩,.string ⟨#[]⟩] 36 ?_;intro gx hg w6 hbox hb;have BZ:=As0.mk hbox;have HZ:=As0.mk hb;have GX:=As0.mk (show wr.heap.size ≤ gx from Nat.le_of_eq hg.symm);clear hb hg hbox;have z0:=bkF BZ.out 0;have z1:=bkF BZ.out 1;have z2:=bkF BZ.out 2;have z3:=bkF BZ.out 3;obtain ⟨j0,j1,j2,j3⟩:=mq.b4 BZ.out)
      |((with_reducible refine gate_store (t:=36) (p:=4) rfl ?_);refine store_event (t:=36) (p:=4) (v:=?vo_c) (w1:=mq.put4 w6 gx (.int .i64 (riP36 P ii).f0) (.string (riP36 P ii).f1) (.string (riP36 P ii).f2) (.string (riP36 P ii).f3)) ?hg ?ho ?hn ?hr ?_;(case ho=>rfl);(case hg=>rfl);(case hn=>rfl);(case hr=>unfold mq.put4;first|done|(go_simp;done)|(go_simp;rfl));intro w7 hw;have hb:=mq.below4 HZ.out GX.out hw;have BX:=As0.mk (mq.blk4 BZ.out hw);clear hw HZ BZ GX z0 z1 z2 z3 j0 j1 j2 j3 hx0 hx1 hx2 hx3 kc0 kc1 kc2 kc3 kc4 kc5 kc6;have n_:=As0.mk (bsp HB.out hb);have n_BM:=As0.mk (blk_below BM.out hb);clear HB BM hb;have HB:=n_;clear n_;have BM:=n_BM;clear n_BM;obtain ⟨j0,j1,j2,j3⟩:=mq.b4 BX.out;obtain ⟨kc0,kc1,kc2,kc3,kc4,kc5,kc6⟩:=mq.b7 BM.out))
     go_ret
     exact ⟨by first|rfl|(simp;done),HB.out⟩
   clear h;rcases hs with s1|⟨s1,s2⟩|⟨s1,s2,s3⟩
   all_goals
    rcases hc with ⟨rfl,A2⟩|⟨rfl,A2,s4,A3⟩|⟨H,A2,s4⟩|⟨H,A2,s4,A3⟩
    all_goals
     (try (have q1:=mq.bt s1));(try (have q1:=mq.bf s1));(try (have q2:=mq.bt s2));(try (have q2:=mq.bf s2));(try (have q3:=mq.bt s3));(try (have q4:=mq.bt s4));(try (have q4:=mq.bf s4))
     go_wp2_with (first
      |((with_reducible refine gate_dst (N:=4) rfl ?_);refine bE 4 #[.int .i64 0,.string ⟨#[]⟩,.string ⟨#[]⟩,.string ⟨#[]⟩] 36 ?_;intro gx hg w6 hbox hb;have BZ:=As0.mk hbox;have HZ:=As0.mk hb;have GX:=As0.mk (show wr.heap.size ≤ gx from Nat.le_of_eq hg.symm);clear hb hg hbox;have z0:=bkF BZ.out 0;have z1:=bkF BZ.out 1;have z2:=bkF BZ.out 2;have z3:=bkF BZ.out 3;obtain ⟨j0,j1,j2,j3⟩:=mq.b4 BZ.out)
      |((with_reducible refine gate_store (t:=36) (p:=4) rfl ?_);refine store_event (t:=36) (p:=4) (v:=?vo_a) (w1:=mq.put4 w6 gx (.int .i64 (riP36 P ii).f0) (.string (riP36 P ii).f1) (.string (riP36 P ii).f2) (.string (riP36 P ii).f3)) ?hg ?ho ?hn ?hr ?_;(case ho=>rfl);(case hg=>rfl);(case hn=>rfl);(case hr=>unfold mq.put4;first|done|(go_simp;done)|(go_simp;rfl));intro w7 hw;have hb:=mq.below4 HZ.out GX.out hw;have BX:=As0.mk (mq.blk4 BZ.out hw);clear hw HZ BZ GX z0 z1 z2 z3 j0 j1 j2 j3 hx0 hx1 hx2 hx3 kc0 kc1 kc2 kc3 kc4 kc5 kc6;have n_:=As0.mk (bsp HB.out hb);have n_BM:=As0.mk (blk_below BM.out hb);clear HB BM hb;have HB:=n_;clear n_;have BM:=n_BM;clear n_BM;obtain ⟨j0,j1,j2,j3⟩:=mq.b4 BX.out;obtain ⟨kc0,kc1,kc2,kc3,kc4,kc5,kc6⟩:=mq.b7 BM.out)
      |(go_at_call 97;(with_reducible refine (impl_isName.calls _ _ _ A2.out).mono ?_);rintro e w8 ⟨rfl,hb⟩;have n_:=As0.mk (bsp HB.out hb);have n_BM:=As0.mk (blk_below BM.out hb);have n_BX:=As0.mk (blk_below BX.out hb);clear HB BM BX hb kc0 kc1 kc2 kc3 kc4 kc5 kc6 j0 j1 j2 j3;have HB:=n_;clear n_;have BM:=n_BM;clear n_BM;have BX:=n_BX;clear n_BX;obtain ⟨kc0,kc1,kc2,kc3,kc4,kc5,kc6⟩:=mq.b7 BM.out;obtain ⟨j0,j1,j2,j3⟩:=mq.b4 BX.out)
      |(go_at_call 97;(with_reducible refine (impl_isName.calls _ _ _ A3.out).mono ?_);rintro e w9 ⟨rfl,hb⟩;have n_:=As0.mk (bsp HB.out hb);have n_BM:=As0.mk (blk_below BM.out hb);have n_BX:=As0.mk (blk_below BX.out hb);clear HB BM BX hb kc0 kc1 kc2 kc3 kc4 kc5 kc6 j0 j1 j2 j3;have HB:=n_;clear n_;have BM:=n_BM;clear n_BM;have BX:=n_BX;clear n_BX;obtain ⟨kc0,kc1,kc2,kc3,kc4,kc5,kc6⟩:=mq.b7 BM.out;obtain ⟨j0,j1,j2,j3⟩:=mq.b4 BX.out))
     first
      |(go_roundg k2;(case measure=>omega);(case rel=>exact ⟨ii + 1,(by first|rw [W0.out]|(simp [W0.out];done)|(simp;done)),HM2,H,HB,BM⟩))
      |(go_ret;exact ⟨by first|rfl|(simp;done),HB.out⟩)
def impl_isBetween.l0:Nat → ByteArray → Int → Int → Int → Int → Option (Bool)
 |0,_,_,_,_,_=>none
 |k + 1,x0,x1,x2,x9,x10=>if x10 < x9 then (if 0 ≤ x10 then (if x10 < (x0.size:Int) then (if (bt x0 x10) < x1 then (some false) else (if (bt x0 x10) > x2 then (some false) else (impl_isBetween.l0 k x0 x1 x2 x9 (wrap64 (x10 + 1))))) else (none)) else (none)) else (some true)
def impl_isBetween.f (k:Nat) (a0:ByteArray) (a1:Int) (a2:Int):Option (Bool):=impl_isBetween.l0 k a0 a1 a2 (a0.size:Int) 0
set_option maxHeartbeats 40000000 in
set_option maxRecDepth 100000 in
theorem impl_isBetween.calls (k:Nat) (a0:ByteArray) (a1:Int) (a2:Int) (r:Bool) (w:World) (h:impl_isBetween.f k a0 a1 a2 = some r) :
 Calls Tryz.prog 122 #[.string a0,.int .u8 a1,.int .u8 a2] w fun e w'=>e = .returned (.bool r) ∧ Drawn0 w w':=by
 have H:(impl_isBetween.l0 k a0 a1 a2 (a0.size:Int) 0) = some r:=h;clear h;have H':=As0.mk H;clear H
 go_enter Tryz.func122,Tryz.ntmps122
 go_wp2
 show _;go_loopg [10] k (fun kq v10 w'=>∃ (x10_1:Int),v10 = .int .i64 x10_1 ∧ As0 (impl_isBetween.l0 kq a0 a1 a2 (a0.size:Int) x10_1 = some r) ∧ As0 (kq ≤ k) ∧ Drawn0 w w')
 case atStart=>exact ⟨(0),(by first|rfl|(simp;done)|(simp [*];done)),H',⟨Nat.le_refl _⟩,by repeat (first|exact Drawn0.refl _|apply Drawn0.step)⟩
 case round=>
  clear H'
  try clear c1
  try clear p2
  obtain ⟨x10_1,rfl,HA,HK1,⟨m1,rfl⟩⟩:=hrel
  cases gk with
  |zero=>exact absurd HA.out (by simp [impl_isBetween.l0])
  |succ k1=>
   have H:=HA.out;clear HA;simp only [impl_isBetween.l0] at H;by_cases c4:x10_1 < (a0.size:Int)
   · rw [if_pos c4] at H
     have c4b0:decide (x10_1 < (a0.size:Int)) = true:=decide_eq_true c4;clear c4;by_cases c5:0 ≤ x10_1
     · rw [if_pos c5] at H
       have c5b0:decide (0 ≤ x10_1) = true:=decide_eq_true c5;clear c5;by_cases c6:x10_1 < (a0.size:Int)
       · rw [if_pos c6] at H
         have c6b0:decide (x10_1 < (a0.size:Int)) = true:=decide_eq_true c6;clear c6;by_cases c8:(bt a0 x10_1) < a1
         · rw [if_pos c8] at H
           have c8b0:decide ((bt a0 x10_1) < a1) = true:=decide_eq_true c8;clear c8;obtain rfl:=Option.some.inj H;have p7:0 ≤ (x10_1:Int):=odt;have q7:x10_1 < (a0.size:Int):=odt;have hx7:=bt_at a0 x10_1;replace p7:=eq_true p7;replace q7:=eq_true q7
           go_wp2
           go_ret
           exact ⟨by first|rfl|(simp;done)|(simp [*];done),by repeat (first|exact Drawn0.refl _|apply Drawn0.step)⟩
         · rw [if_neg c8] at H
           have c8b0:decide ((bt a0 x10_1) < a1) = false:=decide_eq_false c8;clear c8;by_cases c10:(bt a0 x10_1) > a2
           · rw [if_pos c10] at H
             have c10b0:decide (a2 < (bt a0 x10_1)) = true:=decide_eq_true c10;clear c10;obtain rfl:=Option.some.inj H;have p7:0 ≤ (x10_1:Int):=odt;have q7:x10_1 < (a0.size:Int):=odt;have hx7:=bt_at a0 x10_1;replace p7:=eq_true p7;replace q7:=eq_true q7;have p9:0 ≤ (x10_1:Int):=odt;have q9:x10_1 < (a0.size:Int):=odt;have hx9:=bt_at a0 x10_1;replace p9:=eq_true p9;replace q9:=eq_true q9
             go_wp2
             go_ret
             exact ⟨by first|rfl|(simp;done)|(simp [*];done),by repeat (first|exact Drawn0.refl _|apply Drawn0.step)⟩
           · rw [if_neg c10] at H
             have c10b0:decide (a2 < (bt a0 x10_1)) = false:=decide_eq_false c10;clear c10;have H':=As0.mk H;clear H;have p7:0 ≤ (x10_1:Int):=odt;have q7:x10_1 < (a0.size:Int):=odt;have hx7:=bt_at a0 x10_1;replace p7:=eq_true p7;replace q7:=eq_true q7;have p9:0 ≤ (x10_1:Int):=odt;have q9:x10_1 < (a0.size:Int):=odt;have hx9:=bt_at a0 x10_1;replace p9:=eq_true p9;replace q9:=eq_true q9
             go_wp2
             show _;go_roundg k1
             case measure=>have:=HK1.out;omega
             case rel=>exact ⟨(wrap64 (x10_1 + 1)),(by first|rfl|(simp;done)|(simp [*];done)),H',⟨by have:=HK1.out;omega⟩,by repeat (first|exact Drawn0.refl _|apply Drawn0.step)⟩
       · rw [if_neg c6] at H
         exact absurd H (by simp)
     · rw [if_neg c5] at H
       exact absurd H (by simp)
   · rw [if_neg c4] at H
     have c4b0:decide (x10_1 < (a0.size:Int)) = false:=decide_eq_false c4;clear c4;obtain rfl:=Option.some.inj H
     go_wp2
     go_ret
     exact ⟨by first|rfl|(simp;done)|(simp [*];done),by repeat (first|exact Drawn0.refl _|apply Drawn0.step)⟩
def impl_isBody.f (k:Nat) (a0:ByteArray):Option (Bool):=if (a0.size:Int) ≤ 40 then ((impl_isBetween.f k a0 32 126).bind fun t117=>(some t117)) else (some false)
set_option maxHeartbeats 40000000 in
set_option maxRecDepth 100000 in
theorem impl_isBody.calls (k:Nat) (a0:ByteArray) (r:Bool) (w:World) (h:impl_isBody.f k a0 = some r) :
 Calls Tryz.prog 98 #[.string a0] w fun e w'=>e = .returned (.bool r) ∧ Drawn0 w w':=by
 have H:(if (a0.size:Int) ≤ 40 then ((impl_isBetween.f k a0 32 126).bind fun t117=>(some t117)) else (some false)) = some r:=h;clear h;by_cases c2:(a0.size:Int) ≤ 40
 · rw [if_pos c2] at H
   have c2b0:decide ((a0.size:Int) ≤ 40) = true:=decide_eq_true c2;have c2b1:decide (a0.size ≤ 40) = true:=decide_eq_true (by omega);clear c2;replace H:=Option.bind_eq_some_iff.mp H;obtain ⟨t117,A30,H⟩:=H;(try dsimp only at H);have A3:=As0.mk A30;clear A30;obtain rfl:=Option.some.inj H
   go_enter Tryz.func98,Tryz.ntmps98
   go_wp2_with (first|(go_at_call 122;(with_reducible refine (impl_isBetween.calls k a0 32 126 t117 _ A3.out).mono ?_);rintro e w' ⟨rfl,⟨nd,rfl⟩⟩))
   go_ret
   exact ⟨by first|rfl|(simp;done)|(simp [*];done),by repeat (first|exact Drawn0.refl _|apply Drawn0.step)⟩
 · rw [if_neg c2] at H
   have c2b0:decide ((a0.size:Int) ≤ 40) = false:=decide_eq_false c2;have c2b1:decide (a0.size ≤ 40) = false:=decide_eq_false (by omega);clear c2;obtain rfl:=Option.some.inj H
   go_enter Tryz.func98,Tryz.ntmps98
   go_wp2
   go_ret
   exact ⟨by first|rfl|(simp;done)|(simp [*];done),by repeat (first|exact Drawn0.refl _|apply Drawn0.step)⟩
end Go.Proofs.YtclgmogfkoinbaaGreatDoor.P
