/- Functions of the law FnExactModelOk as_ plain Lean functions, and that the machine's calls do what they say. -/
import Derived.Test.YtclgmogfkoinbaaDoorZFnExactModelOk0
namespace Go.Proofs.YtclgmogfkoinbaaDoor.P
open Go.RowKit Go.Proofs.YtclgmogfkoinbaaDoorW.PrintWords Go.Proofs.YtclgmogfkoinbaaDoorW.PrintLast Go.Proofs.YtclgmogfkoinbaaDoorW.PrintMore
attribute [local go_sem] max2_int min2_int max_two min_two max_three min_three max_four min_four
set_option linter.unusedVariables false
set_option linter.unusedSimpArgs false
def laws_eqSpace.f (a0_0:ByteArray) (a0_1:ByteArray) (a0_2:Int) (a0_3:Bool) (a0_4:Int) (a1_0:ByteArray) (a1_1:ByteArray) (a1_2:Int) (a1_3:Bool) (a1_4:Int):Option (Bool):=if a0_0.toList = a1_0.toList then (if a0_1.toList = a1_1.toList then (if a0_2 = a1_2 then (if (a0_3 != a1_3) = true then (some false) else (if a0_4 = a1_4 then (some true) else (some false))) else (some false)) else (some false)) else (some false)
set_option maxHeartbeats 40000000 in
set_option maxRecDepth 100000 in
theorem laws_eqSpace.calls (a0_0:ByteArray) (a0_1:ByteArray) (a0_2:Int) (a0_3:Bool) (a0_4:Int) (a1_0:ByteArray) (a1_1:ByteArray) (a1_2:Int) (a1_3:Bool) (a1_4:Int) (r:Bool) (w:World) (h:laws_eqSpace.f a0_0 a0_1 a0_2 a0_3 a0_4 a1_0 a1_1 a1_2 a1_3 a1_4 = some r) :
 Calls Tryd.prog 54 #[.agg #[.string a0_0,.string a0_1,.int .i64 a0_2,.bool a0_3,.int .i64 a0_4],.agg #[.string a1_0,.string a1_1,.int .i64 a1_2,.bool a1_3,.int .i64 a1_4]] w fun e w'=>e = .returned (.bool r) ∧ Below w.heap.size w w':=by
 have hu47:=Tryd.underlying47;have HB:=As0.mk (Below.refl w.heap.size w);have H:(if a0_0.toList = a1_0.toList then (if a0_1.toList = a1_1.toList then (if a0_2 = a1_2 then (if (a0_3 != a1_3) = true then (some false) else (if a0_4 = a1_4 then (some true) else (some false))) else (some false)) else (some false)) else (some false)) = some r:=h;clear h;by_cases c3:a0_0.toList = a1_0.toList
 · rw [if_pos c3] at H
   have c3b0:(a0_0.toList == a1_0.toList) = true:=beq_iff_eq.mpr c3;have c3b1:(a0_0.toList != a1_0.toList) = false:=bne_eq_false_iff_eq.mpr c3;clear c3;by_cases c4:a0_1.toList = a1_1.toList
   · rw [if_pos c4] at H
     have c4b0:(a0_1.toList == a1_1.toList) = true:=beq_iff_eq.mpr c4;have c4b1:(a0_1.toList != a1_1.toList) = false:=bne_eq_false_iff_eq.mpr c4;clear c4;by_cases c5:a0_2 = a1_2
     · rw [if_pos c5] at H
       have c5b0:(a0_2 == a1_2) = true:=beq_iff_eq.mpr c5;have c5b1:(a0_2 != a1_2) = false:=bne_eq_false_iff_eq.mpr c5;clear c5;by_cases c6:(a0_3 != a1_3) = true
       · rw [if_pos c6] at H
         have c6b0:(a0_3 != a1_3) = true:=c6
         (try (have c6b1:decide (a0_3 = a1_3) = false:=by simpa using c6))
         (try (have c6b2:(a0_3 == a1_3) = false:=by simpa using c6))
         (try (have c6b3:¬ (a0_3 = a1_3):=by simpa using c6))
         clear c6;obtain rfl:=Option.some.inj H
         go_enter Tryd.func54,Tryd.ntmps54
         go_wp2_with (first|((with_reducible refine gate_dst (N:=2) rfl ?_);refine bE 2 #[.string a0_0,.string a0_1,.int .i64 a0_2,.bool a0_3,.int .i64 a0_4] 47 ?_;intro gb343 hg w7 hbox hb;have BK343:=As0.mk (hbox);have GW343:=As0.mk ((by rw [hg];exact (bsz (by repeat (first|(with_reducible first|exact HB.out|apply bal|apply pbN|apply bd1)|exact HB.out))):w.heap.size ≤ gb343));have GE343:=GW343;replace HB:=As0.mk (b3 HB.out hb);clear hb hbox hg)|((with_reducible refine gate_dst (N:=3) rfl ?_);refine bE 3 #[.string a1_0,.string a1_1,.int .i64 a1_2,.bool a1_3,.int .i64 a1_4] 47 ?_;intro gb344 hg w8 hbox hb;have BK344:=As0.mk (hbox);have GW344:=As0.mk ((by rw [hg];exact (bsz (by repeat (first|(with_reducible first|exact HB.out|apply bal|apply pbN|apply bd1|refine bst ?_ GE343.out)|exact HB.out))):w.heap.size ≤ gb344));have GE344:=GW344;replace HB:=As0.mk (bsp (by repeat (first|(with_reducible first|exact HB.out|apply bal|apply pbN|apply bd1|refine bst ?_ GE343.out)|exact HB.out)) hb);have NB343_344:=As0.mk ((by rw [hg];exact Nat.ne_of_lt (blk_lt (g:=gb343) (o:=.cells #[.string a0_0,.string a0_1,.int .i64 a0_2,.bool a0_3,.int .i64 a0_4] 47 (0,0)) (by (with_reducible repeat (first|refine bkN ?_ _|refine bkD ?_|refine bkA ?_ _));exact BK343.out)):gb343 ≠ gb344));have NB344_343:=As0.mk (Ne.symm NB343_344.out);replace BK343:=As0.mk (bb hb BK343.out);clear hb hbox hg;have hnb9:=NB343_344.out;have hnc9:=NB344_343.out;obtain ⟨hcz10_0,hcz10_1,hcz10_2,hcz10_3,hcz10_4⟩:=qc5 BK343.out;obtain ⟨hfz10_0,hfz10_1,hfz10_2,hfz10_3,hfz10_4⟩:=qz5 BK343.out;obtain ⟨hcz11_0,hcz11_1,hcz11_2,hcz11_3,hcz11_4⟩:=qc5 BK344.out;obtain ⟨hfz11_0,hfz11_1,hfz11_2,hfz11_3,hfz11_4⟩:=qz5 BK344.out))
         go_ret
         exact ⟨eW,by repeat (first|(with_reducible first|exact HB.out|apply bal|apply pbN|apply bd1|refine bst ?_ GE343.out|refine bst ?_ GE344.out)|exact HB.out)⟩
       · rw [if_neg c6] at H
         have c6b0:(a0_3 != a1_3) = false:=by simpa using c6
         (try (have c6b1:decide (a0_3 = a1_3) = true:=by simpa using c6))
         (try (have c6b2:(a0_3 == a1_3) = true:=by simpa using c6))
         clear c6;by_cases c12:a0_4 = a1_4
         · rw [if_pos c12] at H
           have c12b0:(a0_4 == a1_4) = true:=beq_iff_eq.mpr c12;have c12b1:(a0_4 != a1_4) = false:=bne_eq_false_iff_eq.mpr c12;clear c12;obtain rfl:=Option.some.inj H
           go_enter Tryd.func54,Tryd.ntmps54
           go_wp2_with (first|((with_reducible refine gate_dst (N:=2) rfl ?_);refine bE 2 #[.string a0_0,.string a0_1,.int .i64 a0_2,.bool a0_3,.int .i64 a0_4] 47 ?_;intro gb343 hg w13 hbox hb;have BK343:=As0.mk (hbox);have GW343:=As0.mk ((by rw [hg];exact (bsz (by repeat (first|(with_reducible first|exact HB.out|apply bal|apply pbN|apply bd1)|exact HB.out))):w.heap.size ≤ gb343));have GE343:=GW343;replace HB:=As0.mk (b3 HB.out hb);clear hb hbox hg)|((with_reducible refine gate_dst (N:=3) rfl ?_);refine bE 3 #[.string a1_0,.string a1_1,.int .i64 a1_2,.bool a1_3,.int .i64 a1_4] 47 ?_;intro gb344 hg w14 hbox hb;have BK344:=As0.mk (hbox);have GW344:=As0.mk ((by rw [hg];exact (bsz (by repeat (first|(with_reducible first|exact HB.out|apply bal|apply pbN|apply bd1|refine bst ?_ GE343.out)|exact HB.out))):w.heap.size ≤ gb344));have GE344:=GW344;replace HB:=As0.mk (bsp (by repeat (first|(with_reducible first|exact HB.out|apply bal|apply pbN|apply bd1|refine bst ?_ GE343.out)|exact HB.out)) hb);have NB343_344:=As0.mk ((by rw [hg];exact Nat.ne_of_lt (blk_lt (g:=gb343) (o:=.cells #[.string a0_0,.string a0_1,.int .i64 a0_2,.bool a0_3,.int .i64 a0_4] 47 (0,0)) (by (with_reducible repeat (first|refine bkN ?_ _|refine bkD ?_|refine bkA ?_ _));exact BK343.out)):gb343 ≠ gb344));have NB344_343:=As0.mk (Ne.symm NB343_344.out);replace BK343:=As0.mk (bb hb BK343.out);clear hb hbox hg;have hnb15:=NB343_344.out;have hnc15:=NB344_343.out;obtain ⟨hcz16_0,hcz16_1,hcz16_2,hcz16_3,hcz16_4⟩:=qc5 BK343.out;obtain ⟨hfz16_0,hfz16_1,hfz16_2,hfz16_3,hfz16_4⟩:=qz5 BK343.out;obtain ⟨hcz17_0,hcz17_1,hcz17_2,hcz17_3,hcz17_4⟩:=qc5 BK344.out;obtain ⟨hfz17_0,hfz17_1,hfz17_2,hfz17_3,hfz17_4⟩:=qz5 BK344.out))
           go_ret
           exact ⟨eW,by repeat (first|(with_reducible first|exact HB.out|apply bal|apply pbN|apply bd1|refine bst ?_ GE343.out|refine bst ?_ GE344.out)|exact HB.out)⟩
         · rw [if_neg c12] at H
           have c12b0:(a0_4 == a1_4) = false:=beq_eq_false_iff_ne.mpr c12;have c12b1:(a0_4 != a1_4) = true:=bne_iff_ne.mpr c12;obtain rfl:=Option.some.inj H
           go_enter Tryd.func54,Tryd.ntmps54
           go_wp2_with (first|((with_reducible refine gate_dst (N:=2) rfl ?_);refine bE 2 #[.string a0_0,.string a0_1,.int .i64 a0_2,.bool a0_3,.int .i64 a0_4] 47 ?_;intro gb343 hg w18 hbox hb;have BK343:=As0.mk (hbox);have GW343:=As0.mk ((by rw [hg];exact (bsz (by repeat (first|(with_reducible first|exact HB.out|apply bal|apply pbN|apply bd1)|exact HB.out))):w.heap.size ≤ gb343));have GE343:=GW343;replace HB:=As0.mk (b3 HB.out hb);clear hb hbox hg)|((with_reducible refine gate_dst (N:=3) rfl ?_);refine bE 3 #[.string a1_0,.string a1_1,.int .i64 a1_2,.bool a1_3,.int .i64 a1_4] 47 ?_;intro gb344 hg w19 hbox hb;have BK344:=As0.mk (hbox);have GW344:=As0.mk ((by rw [hg];exact (bsz (by repeat (first|(with_reducible first|exact HB.out|apply bal|apply pbN|apply bd1|refine bst ?_ GE343.out)|exact HB.out))):w.heap.size ≤ gb344));have GE344:=GW344;replace HB:=As0.mk (bsp (by repeat (first|(with_reducible first|exact HB.out|apply bal|apply pbN|apply bd1|refine bst ?_ GE343.out)|exact HB.out)) hb);have NB343_344:=As0.mk ((by rw [hg];exact Nat.ne_of_lt (blk_lt (g:=gb343) (o:=.cells #[.string a0_0,.string a0_1,.int .i64 a0_2,.bool a0_3,.int .i64 a0_4] 47 (0,0)) (by (with_reducible repeat (first|refine bkN ?_ _|refine bkD ?_|refine bkA ?_ _));exact BK343.out)):gb343 ≠ gb344));have NB344_343:=As0.mk (Ne.symm NB343_344.out);replace BK343:=As0.mk (bb hb BK343.out);clear hb hbox hg;have hnb20:=NB343_344.out;have hnc20:=NB344_343.out;obtain ⟨hcz21_0,hcz21_1,hcz21_2,hcz21_3,hcz21_4⟩:=qc5 BK343.out;obtain ⟨hfz21_0,hfz21_1,hfz21_2,hfz21_3,hfz21_4⟩:=qz5 BK343.out;obtain ⟨hcz22_0,hcz22_1,hcz22_2,hcz22_3,hcz22_4⟩:=qc5 BK344.out;obtain ⟨hfz22_0,hfz22_1,hfz22_2,hfz22_3,hfz22_4⟩:=qz5 BK344.out))
           go_ret
           exact ⟨eW,by repeat (first|(with_reducible first|exact HB.out|apply bal|apply pbN|apply bd1|refine bst ?_ GE343.out|refine bst ?_ GE344.out)|exact HB.out)⟩
     · rw [if_neg c5] at H
       have c5b0:(a0_2 == a1_2) = false:=beq_eq_false_iff_ne.mpr c5;have c5b1:(a0_2 != a1_2) = true:=bne_iff_ne.mpr c5;obtain rfl:=Option.some.inj H
       go_enter Tryd.func54,Tryd.ntmps54
       go_wp2_with (first|((with_reducible refine gate_dst (N:=2) rfl ?_);refine bE 2 #[.string a0_0,.string a0_1,.int .i64 a0_2,.bool a0_3,.int .i64 a0_4] 47 ?_;intro gb343 hg w23 hbox hb;have BK343:=As0.mk (hbox);have GW343:=As0.mk ((by rw [hg];exact (bsz (by repeat (first|(with_reducible first|exact HB.out|apply bal|apply pbN|apply bd1)|exact HB.out))):w.heap.size ≤ gb343));have GE343:=GW343;replace HB:=As0.mk (b3 HB.out hb);clear hb hbox hg)|((with_reducible refine gate_dst (N:=3) rfl ?_);refine bE 3 #[.string a1_0,.string a1_1,.int .i64 a1_2,.bool a1_3,.int .i64 a1_4] 47 ?_;intro gb344 hg w24 hbox hb;have BK344:=As0.mk (hbox);have GW344:=As0.mk ((by rw [hg];exact (bsz (by repeat (first|(with_reducible first|exact HB.out|apply bal|apply pbN|apply bd1|refine bst ?_ GE343.out)|exact HB.out))):w.heap.size ≤ gb344));have GE344:=GW344;replace HB:=As0.mk (bsp (by repeat (first|(with_reducible first|exact HB.out|apply bal|apply pbN|apply bd1|refine bst ?_ GE343.out)|exact HB.out)) hb);have NB343_344:=As0.mk ((by rw [hg];exact Nat.ne_of_lt (blk_lt (g:=gb343) (o:=.cells #[.string a0_0,.string a0_1,.int .i64 a0_2,.bool a0_3,.int .i64 a0_4] 47 (0,0)) (by (with_reducible repeat (first|refine bkN ?_ _|refine bkD ?_|refine bkA ?_ _));exact BK343.out)):gb343 ≠ gb344));have NB344_343:=As0.mk (Ne.symm NB343_344.out);replace BK343:=As0.mk (bb hb BK343.out);clear hb hbox hg;have hnb25:=NB343_344.out;have hnc25:=NB344_343.out;obtain ⟨hcz26_0,hcz26_1,hcz26_2,hcz26_3,hcz26_4⟩:=qc5 BK343.out;obtain ⟨hfz26_0,hfz26_1,hfz26_2,hfz26_3,hfz26_4⟩:=qz5 BK343.out;obtain ⟨hcz27_0,hcz27_1,hcz27_2,hcz27_3,hcz27_4⟩:=qc5 BK344.out;obtain ⟨hfz27_0,hfz27_1,hfz27_2,hfz27_3,hfz27_4⟩:=qz5 BK344.out))
       go_ret
       exact ⟨eW,by repeat (first|(with_reducible first|exact HB.out|apply bal|apply pbN|apply bd1|refine bst ?_ GE343.out|refine bst ?_ GE344.out)|exact HB.out)⟩
   · rw [if_neg c4] at H
     have c4b0:(a0_1.toList == a1_1.toList) = false:=beq_eq_false_iff_ne.mpr c4;have c4b1:(a0_1.toList != a1_1.toList) = true:=bne_iff_ne.mpr c4;obtain rfl:=Option.some.inj H
     go_enter Tryd.func54,Tryd.ntmps54
     go_wp2_with (first|((with_reducible refine gate_dst (N:=2) rfl ?_);refine bE 2 #[.string a0_0,.string a0_1,.int .i64 a0_2,.bool a0_3,.int .i64 a0_4] 47 ?_;intro gb343 hg w28 hbox hb;have BK343:=As0.mk (hbox);have GW343:=As0.mk ((by rw [hg];exact (bsz (by repeat (first|(with_reducible first|exact HB.out|apply bal|apply pbN|apply bd1)|exact HB.out))):w.heap.size ≤ gb343));have GE343:=GW343;replace HB:=As0.mk (b3 HB.out hb);clear hb hbox hg)|((with_reducible refine gate_dst (N:=3) rfl ?_);refine bE 3 #[.string a1_0,.string a1_1,.int .i64 a1_2,.bool a1_3,.int .i64 a1_4] 47 ?_;intro gb344 hg w29 hbox hb;have BK344:=As0.mk (hbox);have GW344:=As0.mk ((by rw [hg];exact (bsz (by repeat (first|(with_reducible first|exact HB.out|apply bal|apply pbN|apply bd1|refine bst ?_ GE343.out)|exact HB.out))):w.heap.size ≤ gb344));have GE344:=GW344;replace HB:=As0.mk (bsp (by repeat (first|(with_reducible first|exact HB.out|apply bal|apply pbN|apply bd1|refine bst ?_ GE343.out)|exact HB.out)) hb);have NB343_344:=As0.mk ((by rw [hg];exact Nat.ne_of_lt (blk_lt (g:=gb343) (o:=.cells #[.string a0_0,.string a0_1,.int .i64 a0_2,.bool a0_3,.int .i64 a0_4] 47 (0,0)) (by (with_reducible repeat (first|refine bkN ?_ _|refine bkD ?_|refine bkA ?_ _));exact BK343.out)):gb343 ≠ gb344));have NB344_343:=As0.mk (Ne.symm NB343_344.out);replace BK343:=As0.mk (bb hb BK343.out);clear hb hbox hg;have hnb30:=NB343_344.out;have hnc30:=NB344_343.out;obtain ⟨hcz31_0,hcz31_1,hcz31_2,hcz31_3,hcz31_4⟩:=qc5 BK343.out;obtain ⟨hfz31_0,hfz31_1,hfz31_2,hfz31_3,hfz31_4⟩:=qz5 BK343.out;obtain ⟨hcz32_0,hcz32_1,hcz32_2,hcz32_3,hcz32_4⟩:=qc5 BK344.out;obtain ⟨hfz32_0,hfz32_1,hfz32_2,hfz32_3,hfz32_4⟩:=qz5 BK344.out))
     go_ret
     exact ⟨eW,by repeat (first|(with_reducible first|exact HB.out|apply bal|apply pbN|apply bd1|refine bst ?_ GE343.out|refine bst ?_ GE344.out)|exact HB.out)⟩
 · rw [if_neg c3] at H
   have c3b0:(a0_0.toList == a1_0.toList) = false:=beq_eq_false_iff_ne.mpr c3;have c3b1:(a0_0.toList != a1_0.toList) = true:=bne_iff_ne.mpr c3;obtain rfl:=Option.some.inj H
   go_enter Tryd.func54,Tryd.ntmps54
   go_wp2_with (first|((with_reducible refine gate_dst (N:=2) rfl ?_);refine bE 2 #[.string a0_0,.string a0_1,.int .i64 a0_2,.bool a0_3,.int .i64 a0_4] 47 ?_;intro gb343 hg w33 hbox hb;have BK343:=As0.mk (hbox);have GW343:=As0.mk ((by rw [hg];exact (bsz (by repeat (first|(with_reducible first|exact HB.out|apply bal|apply pbN|apply bd1)|exact HB.out))):w.heap.size ≤ gb343));have GE343:=GW343;replace HB:=As0.mk (b3 HB.out hb);clear hb hbox hg)|((with_reducible refine gate_dst (N:=3) rfl ?_);refine bE 3 #[.string a1_0,.string a1_1,.int .i64 a1_2,.bool a1_3,.int .i64 a1_4] 47 ?_;intro gb344 hg w34 hbox hb;have BK344:=As0.mk (hbox);have GW344:=As0.mk ((by rw [hg];exact (bsz (by repeat (first|(with_reducible first|exact HB.out|apply bal|apply pbN|apply bd1|refine bst ?_ GE343.out)|exact HB.out))):w.heap.size ≤ gb344));have GE344:=GW344;replace HB:=As0.mk (bsp (by repeat (first|(with_reducible first|exact HB.out|apply bal|apply pbN|apply bd1|refine bst ?_ GE343.out)|exact HB.out)) hb);have NB343_344:=As0.mk ((by rw [hg];exact Nat.ne_of_lt (blk_lt (g:=gb343) (o:=.cells #[.string a0_0,.string a0_1,.int .i64 a0_2,.bool a0_3,.int .i64 a0_4] 47 (0,0)) (by (with_reducible repeat (first|refine bkN ?_ _|refine bkD ?_|refine bkA ?_ _));exact BK343.out)):gb343 ≠ gb344));have NB344_343:=As0.mk (Ne.symm NB343_344.out);replace BK343:=As0.mk (bb hb BK343.out);clear hb hbox hg;have hnb35:=NB343_344.out;have hnc35:=NB344_343.out;obtain ⟨hcz36_0,hcz36_1,hcz36_2,hcz36_3,hcz36_4⟩:=qc5 BK343.out;obtain ⟨hfz36_0,hfz36_1,hfz36_2,hfz36_3,hfz36_4⟩:=qz5 BK343.out;obtain ⟨hcz37_0,hcz37_1,hcz37_2,hcz37_3,hcz37_4⟩:=qc5 BK344.out;obtain ⟨hfz37_0,hfz37_1,hfz37_2,hfz37_3,hfz37_4⟩:=qz5 BK344.out))
   go_ret
   exact ⟨eW,by repeat (first|(with_reducible first|exact HB.out|apply bal|apply pbN|apply bd1|refine bst ?_ GE343.out|refine bst ?_ GE344.out)|exact HB.out)⟩
def laws_eqSpaceS.l0:Nat → List (SiS28) → List (SiS28) → Int → Option (Bool)
 |0,_,_,_=>none
 |k + 1,x0,x1,x5=>if x5 < (x0.length:Int) then (if 0 ≤ x5 then (if x5 < (x1.length:Int) then ((laws_eqSpace.f ((riS37 x0 x5).f0) ((riS37 x0 x5).f1) ((riS37 x0 x5).f2) ((riS37 x0 x5).f3) ((riS37 x0 x5).f4) ((riS37 x1 x5).f0) ((riS37 x1 x5).f1) ((riS37 x1 x5).f2) ((riS37 x1 x5).f3) ((riS37 x1 x5).f4)).bind fun t347=>(if t347 = true then (laws_eqSpaceS.l0 k x0 x1 (wrap64 (x5 + 1))) else (some false))) else (none)) else (none)) else (some true)
def laws_eqSpaceS.f (k:Nat) (l0:List (SiS28)) (l1:List (SiS28)):Option (Bool):=if (l0.length:Int) = (l1.length:Int) then (laws_eqSpaceS.l0 k l0 l1 0) else (some false)
def laws_eqSpaceS.T6:Bool × List (List Nat × List Nat):=(true,[([],[]),([],[]),([0,1],[0,1]),([2],[2]),([],[]),([],[]),([4,5],[4,5]),([6],[6]),([3,7],[3,7]),([8],[8])])
def laws_eqSpaceS.B6:List Nat:=[0,0,3,7,0,0,48,112,255,511]
theorem laws_eqSpaceS.tab6:rtab .any (opsOf Tryd.f24 6) = laws_eqSpaceS.T6:=by kernel_rfl
theorem laws_eqSpaceS.bits6:waitsOk laws_eqSpaceS.T6.2 laws_eqSpaceS.B6 = true:=by kernel_rfl
set_option maxHeartbeats 40000000 in
set_option maxRecDepth 100000 in
theorem laws_eqSpaceS.calls (k:Nat) (A0:Option Addr) (c0:Nat) (l0:List (SiS28)) (A1:Option Addr) (c1:Nat) (l1:List (SiS28)) (r:Bool) (w:World) (hr0:Kd.C k47 w A0 l0.length l0) (hc0:l0.length ≤ c0) (hr1:Kd.C k47 w A1 l1.length l1) (hc1:l1.length ≤ c1) (h:laws_eqSpaceS.f k l0 l1 = some r) :
 Calls Tryd.prog 24 #[.slice A0 l0.length c0,.slice A1 l1.length c1] w fun e w'=>e = .returned (.bool r) ∧ Below w.heap.size w w':=by
 have hu47:=Tryd.underlying47;have HR0:=As0.mk hr0;have HC0:=As0.mk hc0;clear hr0 hc0;have HR1:=As0.mk hr1;have HC1:=As0.mk hc1;clear hr1 hc1;have HB:=As0.mk (Below.refl w.heap.size w);have H:(if (l0.length:Int) = (l1.length:Int) then (laws_eqSpaceS.l0 k l0 l1 0) else (some false)) = some r:=h;clear h;by_cases c3:(l0.length:Int) = (l1.length:Int)
 · rw [if_pos c3] at H
   have c3b0:((l0.length:Int) == (l1.length:Int)) = true:=beq_iff_eq.mpr c3;have c3b1:((l0.length:Int) != (l1.length:Int)) = false:=bne_eq_false_iff_eq.mpr c3;have c3b2:(l0.length == l1.length) = true:=by first|simpa using c3|(simp at c3 ⊢;omega)
   clear c3;have H':=As0.mk H;clear H
   go_enter Tryd.func24,Tryd.ntmps24
   go_wp2
   show _;go_loopg [5] k (fun kq v5 w'=>∃ (x5_1:Int),v5 = .int .i64 x5_1 ∧ As0 (laws_eqSpaceS.l0 kq l0 l1 x5_1 = some r) ∧ As0 (kq ≤ k) ∧ As0 (Below w.heap.size w w'))
   case atStart=>exact ⟨(0),(by first|rfl|(simp;done)|(simp [*];done)),H',⟨Nat.le_refl _⟩,⟨by repeat (first|(with_reducible first|exact HB.out|apply bal|apply pbN|apply bd1)|exact HB.out)⟩⟩
   case round=>
    clear H'
    try clear c1
    try clear c2
    try clear p2
    try clear c3
    try clear c3b0
    try clear c3b1
    try clear c3b2
    obtain ⟨x5_1,rfl,HA,HK1,HB⟩:=hrel
    cases gk with
    |zero=>exact absurd HA.out (by simp [laws_eqSpaceS.l0])
    |succ k1=>
     have H:=HA.out;clear HA;simp only [laws_eqSpaceS.l0] at H;by_cases c4:x5_1 < (l0.length:Int)
     · rw [if_pos c4] at H
       have c4b0:decide (x5_1 < (l0.length:Int)) = true:=decide_eq_true c4;clear c4;by_cases c5:0 ≤ x5_1
       · rw [if_pos c5] at H
         have c5b0:decide (0 ≤ x5_1) = true:=decide_eq_true c5;clear c5;by_cases c6:x5_1 < (l1.length:Int)
         · rw [if_pos c6] at H
           have c6b0:decide (x5_1 < (l1.length:Int)) = true:=decide_eq_true c6;clear c6;replace H:=Option.bind_eq_some_iff.mp H;obtain ⟨t347,A70,H⟩:=H;(try dsimp only at H);have A7:=As0.mk A70;clear A70;by_cases c8:t347 = true
           · subst c8
             have H1:(laws_eqSpaceS.l0 k1 l0 l1 (wrap64 (x5_1 + 1))) = some r:=by rw [if_pos rfl] at H;exact H
             clear H;have H:=H1;clear H1;have H':=As0.mk H;clear H
             try go_wp2
             replace HB:=As0.mk (bd1 HB.out);have p345:0 ≤ (x5_1:Int):=odt;have q345:x5_1 < (l0.length:Int):=odt;obtain ⟨ad345,e345,hx345_0,hx345_1,hx345_2,hx345_3,hx345_4⟩:=at_T47 HR0.out x5_1 p345 q345;have hw345_4:=hx345_4;have hw345_3:=hx345_3;have hw345_2:=hx345_2;have hw345_1:=hx345_1;have hw345_0:=hx345_0
             cases e345
             replace hx345_0:=bx HB.out rfl hx345_0;replace hx345_1:=bx HB.out rfl hx345_1;replace hx345_2:=bx HB.out rfl hx345_2;replace hx345_3:=bx HB.out rfl hx345_3;replace hx345_4:=bx HB.out rfl hx345_4;replace p345:=eq_true p345;replace q345:=eq_true q345;have p346:0 ≤ (x5_1:Int):=odt;have q346:x5_1 < (l1.length:Int):=odt;obtain ⟨ad346,e346,hx346_0,hx346_1,hx346_2,hx346_3,hx346_4⟩:=at_T47 HR1.out x5_1 p346 q346;have hw346_4:=hx346_4;have hw346_3:=hx346_3;have hw346_2:=hx346_2;have hw346_1:=hx346_1;have hw346_0:=hx346_0
             cases e346
             replace hx346_0:=bx HB.out rfl hx346_0;replace hx346_1:=bx HB.out rfl hx346_1;replace hx346_2:=bx HB.out rfl hx346_2;replace hx346_3:=bx HB.out rfl hx346_3;replace hx346_4:=bx HB.out rfl hx346_4;replace p346:=eq_true p346;replace q346:=eq_true q346;refine start_ (n:=10) (S:=fun w'=>w'.cell? (ad345.add ((x5_1).toNat * 5)) = some (.string ((riS37 l0 x5_1).f0)) ∧ w'.cell? ⟨(ad345.add ((x5_1).toNat * 5)).block,(ad345.add ((x5_1).toNat * 5)).off + 1,none⟩ = some (.string ((riS37 l0 x5_1).f1)) ∧ w'.cell? ⟨(ad345.add ((x5_1).toNat * 5)).block,(ad345.add ((x5_1).toNat * 5)).off + 2,none⟩ = some (.int .i64 ((riS37 l0 x5_1).f2)) ∧ w'.cell? ⟨(ad345.add ((x5_1).toNat * 5)).block,(ad345.add ((x5_1).toNat * 5)).off + 3,none⟩ = some (.bool ((riS37 l0 x5_1).f3)) ∧ w'.cell? ⟨(ad345.add ((x5_1).toNat * 5)).block,(ad345.add ((x5_1).toNat * 5)).off + 4,none⟩ = some (.int .i64 ((riS37 l0 x5_1).f4)) ∧ w'.cell? (ad346.add ((x5_1).toNat * 5)) = some (.string ((riS37 l1 x5_1).f0)) ∧ w'.cell? ⟨(ad346.add ((x5_1).toNat * 5)).block,(ad346.add ((x5_1).toNat * 5)).off + 1,none⟩ = some (.string ((riS37 l1 x5_1).f1)) ∧ w'.cell? ⟨(ad346.add ((x5_1).toNat * 5)).block,(ad346.add ((x5_1).toNat * 5)).off + 2,none⟩ = some (.int .i64 ((riS37 l1 x5_1).f2)) ∧ w'.cell? ⟨(ad346.add ((x5_1).toNat * 5)).block,(ad346.add ((x5_1).toNat * 5)).off + 3,none⟩ = some (.bool ((riS37 l1 x5_1).f3)) ∧ w'.cell? ⟨(ad346.add ((x5_1).toNat * 5)).block,(ad346.add ((x5_1).toNat * 5)).off + 4,none⟩ = some (.int .i64 ((riS37 l1 x5_1).f4))) (ds:=[]) #[false,false,false,false,false,false,false,false,false,false] (by kernel_rfl) rfl rfl ⟨((HB.out.cell (World.block_lt_of_cell? w _ hw345_0)).trans hw345_0),((HB.out.cell (World.block_lt_of_cell? w _ hw345_1)).trans hw345_1),((HB.out.cell (World.block_lt_of_cell? w _ hw345_2)).trans hw345_2),((HB.out.cell (World.block_lt_of_cell? w _ hw345_3)).trans hw345_3),((HB.out.cell (World.block_lt_of_cell? w _ hw345_4)).trans hw345_4),((HB.out.cell (World.block_lt_of_cell? w _ hw346_0)).trans hw346_0),((HB.out.cell (World.block_lt_of_cell? w _ hw346_1)).trans hw346_1),((HB.out.cell (World.block_lt_of_cell? w _ hw346_2)).trans hw346_2),((HB.out.cell (World.block_lt_of_cell? w _ hw346_3)).trans hw346_3),((HB.out.cell (World.block_lt_of_cell? w _ hw346_4)).trans hw346_4)⟩ (fun hHeld=>?_);refine with_tabW laws_eqSpaceS.tab6 laws_eqSpaceS.bits6 (fun HT_ HW_=>?_);generalize wr.drew = w9 at HB hx345_0 hx345_1 hx345_2 hx345_3 hx345_4 hx346_0 hx346_1 hx346_2 hx346_3 hx346_4 hHeld ⊢
             refine pu 0 (some 17) #[true,false,false,false,false,false,false,false,false,false] rfl rfl HT_.out ?_;refine pu 1 (some 18) #[true,true,false,false,false,false,false,false,false,false] rfl rfl HT_.out ?_;refine pu 2 (some 19) #[true,true,true,false,false,false,false,false,false,false] rfl rfl HT_.out ?_;refine pu 4 (some 21) #[true,true,true,false,true,false,false,false,false,false] rfl rfl HT_.out ?_;refine pu 5 (some 22) #[true,true,true,false,true,true,false,false,false,false] rfl rfl HT_.out ?_;refine pu 6 (some 23) #[true,true,true,false,true,true,true,false,false,false] rfl rfl HT_.out ?_;refine tk 3 (some 20) #[true,true,true,true,true,true,true,false,false,false] rfl rfl HT_.out HW_.out hHeld (by rintro w' ⟨s0,s1,s2,s3,s4,s5,s6,s7,s8,s9⟩;go_simp;with_reducible rfl) ?_;refine tk 7 (some 24) #[true,true,true,true,true,true,true,true,false,false] rfl rfl HT_.out HW_.out hHeld (by rintro w' ⟨s0,s1,s2,s3,s4,s5,s6,s7,s8,s9⟩;go_simp;with_reducible rfl) ?_;refine one_ (i:=8) (N:=some 25) #[true,true,true,true,true,true,true,true,true,false] rfl rfl (one_of HT_.out (by kernel_rfl)) (by decide) (fun K hK=>?_);refine goes_ Tryd.func54 (by kernel_rfl) rfl #[.agg #[.string ((riS37 l0 x5_1).f0),.string ((riS37 l0 x5_1).f1),.int .i64 ((riS37 l0 x5_1).f2),.bool ((riS37 l0 x5_1).f3),.int .i64 ((riS37 l0 x5_1).f4)],.agg #[.string ((riS37 l1 x5_1).f0),.string ((riS37 l1 x5_1).f1),.int .i64 ((riS37 l1 x5_1).f2),.bool ((riS37 l1 x5_1).f3),.int .i64 ((riS37 l1 x5_1).f4)]] (by rfl) rfl rfl (by (try simp only [List.map_toArray,List.map_cons,List.map_nil]);first|done|rfl|(simp only [List.length_drop,List.length_take];rfl)) ?_;with_reducible refine (laws_eqSpace.calls ((riS37 l0 x5_1).f0) ((riS37 l0 x5_1).f1) ((riS37 l0 x5_1).f2) ((riS37 l0 x5_1).f3) ((riS37 l0 x5_1).f4) ((riS37 l1 x5_1).f0) ((riS37 l1 x5_1).f1) ((riS37 l1 x5_1).f2) ((riS37 l1 x5_1).f3) ((riS37 l1 x5_1).f4) true _ A7.out).mono ?_
             rintro e w10 ⟨rfl,hb⟩;refine ⟨_,rfl,?_⟩;replace HB:=As0.mk (b3 HB.out hb)
                
                
                
                
             refine hK.out _ _ ⟨((HB.out.cell (World.block_lt_of_cell? w _ hw345_0)).trans hw345_0),((HB.out.cell (World.block_lt_of_cell? w _ hw345_1)).trans hw345_1),((HB.out.cell (World.block_lt_of_cell? w _ hw345_2)).trans hw345_2),((HB.out.cell (World.block_lt_of_cell? w _ hw345_3)).trans hw345_3),((HB.out.cell (World.block_lt_of_cell? w _ hw345_4)).trans hw345_4),((HB.out.cell (World.block_lt_of_cell? w _ hw346_0)).trans hw346_0),((HB.out.cell (World.block_lt_of_cell? w _ hw346_1)).trans hw346_1),((HB.out.cell (World.block_lt_of_cell? w _ hw346_2)).trans hw346_2),((HB.out.cell (World.block_lt_of_cell? w _ hw346_3)).trans hw346_3),((HB.out.cell (World.block_lt_of_cell? w _ hw346_4)).trans hw346_4)⟩ (fun hHeld=>?_);clear hK K;refine norm_ (a':=?_) ?_ ?_;rotate_left
             · show Act.put _ (some 25) _ = _
               simp only [Act.put,sA,sZ,sS,i64_w,i32_w];rfl
             refine pu 9 (some 26) #[true,true,true,true,true,true,true,true,true,true] rfl rfl HT_.out ?_;refine done_ (done_of HT_.out (by kernel_rfl)) ?_
             try go_wp2
             show _;go_roundg k1
             case measure=>have:=HK1.out;omega
             case rel=>exact ⟨(wrap64 (x5_1 + 1)),(by first|rfl|(simp;done)|(simp [*];done)),H',⟨by have:=HK1.out;omega⟩,⟨by repeat (first|(with_reducible first|exact HB.out|apply bal|apply pbN|apply bd1)|exact HB.out)⟩⟩
           · replace c8:=Bool.eq_false_iff.mpr c8
             subst c8;have H1:(some false) = some r:=by rw [if_neg (show ¬ (false = true) by decide)] at H;exact H
             clear H;have H:=H1;clear H1;obtain rfl:=Option.some.inj H
             try go_wp2
             replace HB:=As0.mk (bd1 HB.out);have p345:0 ≤ (x5_1:Int):=odt;have q345:x5_1 < (l0.length:Int):=odt;obtain ⟨ad345,e345,hx345_0,hx345_1,hx345_2,hx345_3,hx345_4⟩:=at_T47 HR0.out x5_1 p345 q345;have hw345_4:=hx345_4;have hw345_3:=hx345_3;have hw345_2:=hx345_2;have hw345_1:=hx345_1;have hw345_0:=hx345_0
             cases e345
             replace hx345_0:=bx HB.out rfl hx345_0;replace hx345_1:=bx HB.out rfl hx345_1;replace hx345_2:=bx HB.out rfl hx345_2;replace hx345_3:=bx HB.out rfl hx345_3;replace hx345_4:=bx HB.out rfl hx345_4;replace p345:=eq_true p345;replace q345:=eq_true q345;have p346:0 ≤ (x5_1:Int):=odt;have q346:x5_1 < (l1.length:Int):=odt;obtain ⟨ad346,e346,hx346_0,hx346_1,hx346_2,hx346_3,hx346_4⟩:=at_T47 HR1.out x5_1 p346 q346;have hw346_4:=hx346_4;have hw346_3:=hx346_3;have hw346_2:=hx346_2;have hw346_1:=hx346_1;have hw346_0:=hx346_0
             cases e346
             replace hx346_0:=bx HB.out rfl hx346_0;replace hx346_1:=bx HB.out rfl hx346_1;replace hx346_2:=bx HB.out rfl hx346_2;replace hx346_3:=bx HB.out rfl hx346_3;replace hx346_4:=bx HB.out rfl hx346_4;replace p346:=eq_true p346;replace q346:=eq_true q346;refine start_ (n:=10) (S:=fun w'=>w'.cell? (ad345.add ((x5_1).toNat * 5)) = some (.string ((riS37 l0 x5_1).f0)) ∧ w'.cell? ⟨(ad345.add ((x5_1).toNat * 5)).block,(ad345.add ((x5_1).toNat * 5)).off + 1,none⟩ = some (.string ((riS37 l0 x5_1).f1)) ∧ w'.cell? ⟨(ad345.add ((x5_1).toNat * 5)).block,(ad345.add ((x5_1).toNat * 5)).off + 2,none⟩ = some (.int .i64 ((riS37 l0 x5_1).f2)) ∧ w'.cell? ⟨(ad345.add ((x5_1).toNat * 5)).block,(ad345.add ((x5_1).toNat * 5)).off + 3,none⟩ = some (.bool ((riS37 l0 x5_1).f3)) ∧ w'.cell? ⟨(ad345.add ((x5_1).toNat * 5)).block,(ad345.add ((x5_1).toNat * 5)).off + 4,none⟩ = some (.int .i64 ((riS37 l0 x5_1).f4)) ∧ w'.cell? (ad346.add ((x5_1).toNat * 5)) = some (.string ((riS37 l1 x5_1).f0)) ∧ w'.cell? ⟨(ad346.add ((x5_1).toNat * 5)).block,(ad346.add ((x5_1).toNat * 5)).off + 1,none⟩ = some (.string ((riS37 l1 x5_1).f1)) ∧ w'.cell? ⟨(ad346.add ((x5_1).toNat * 5)).block,(ad346.add ((x5_1).toNat * 5)).off + 2,none⟩ = some (.int .i64 ((riS37 l1 x5_1).f2)) ∧ w'.cell? ⟨(ad346.add ((x5_1).toNat * 5)).block,(ad346.add ((x5_1).toNat * 5)).off + 3,none⟩ = some (.bool ((riS37 l1 x5_1).f3)) ∧ w'.cell? ⟨(ad346.add ((x5_1).toNat * 5)).block,(ad346.add ((x5_1).toNat * 5)).off + 4,none⟩ = some (.int .i64 ((riS37 l1 x5_1).f4))) (ds:=[]) #[false,false,false,false,false,false,false,false,false,false] (by kernel_rfl) rfl rfl ⟨((HB.out.cell (World.block_lt_of_cell? w _ hw345_0)).trans hw345_0),((HB.out.cell (World.block_lt_of_cell? w _ hw345_1)).trans hw345_1),((HB.out.cell (World.block_lt_of_cell? w _ hw345_2)).trans hw345_2),((HB.out.cell (World.block_lt_of_cell? w _ hw345_3)).trans hw345_3),((HB.out.cell (World.block_lt_of_cell? w _ hw345_4)).trans hw345_4),((HB.out.cell (World.block_lt_of_cell? w _ hw346_0)).trans hw346_0),((HB.out.cell (World.block_lt_of_cell? w _ hw346_1)).trans hw346_1),((HB.out.cell (World.block_lt_of_cell? w _ hw346_2)).trans hw346_2),((HB.out.cell (World.block_lt_of_cell? w _ hw346_3)).trans hw346_3),((HB.out.cell (World.block_lt_of_cell? w _ hw346_4)).trans hw346_4)⟩ (fun hHeld=>?_);refine with_tabW laws_eqSpaceS.tab6 laws_eqSpaceS.bits6 (fun HT_ HW_=>?_);generalize wr.drew = w11 at HB hx345_0 hx345_1 hx345_2 hx345_3 hx345_4 hx346_0 hx346_1 hx346_2 hx346_3 hx346_4 hHeld ⊢
             refine pu 0 (some 17) #[true,false,false,false,false,false,false,false,false,false] rfl rfl HT_.out ?_;refine pu 1 (some 18) #[true,true,false,false,false,false,false,false,false,false] rfl rfl HT_.out ?_;refine pu 2 (some 19) #[true,true,true,false,false,false,false,false,false,false] rfl rfl HT_.out ?_;refine pu 4 (some 21) #[true,true,true,false,true,false,false,false,false,false] rfl rfl HT_.out ?_;refine pu 5 (some 22) #[true,true,true,false,true,true,false,false,false,false] rfl rfl HT_.out ?_;refine pu 6 (some 23) #[true,true,true,false,true,true,true,false,false,false] rfl rfl HT_.out ?_;refine tk 3 (some 20) #[true,true,true,true,true,true,true,false,false,false] rfl rfl HT_.out HW_.out hHeld (by rintro w' ⟨s0,s1,s2,s3,s4,s5,s6,s7,s8,s9⟩;go_simp;with_reducible rfl) ?_;refine tk 7 (some 24) #[true,true,true,true,true,true,true,true,false,false] rfl rfl HT_.out HW_.out hHeld (by rintro w' ⟨s0,s1,s2,s3,s4,s5,s6,s7,s8,s9⟩;go_simp;with_reducible rfl) ?_;refine one_ (i:=8) (N:=some 25) #[true,true,true,true,true,true,true,true,true,false] rfl rfl (one_of HT_.out (by kernel_rfl)) (by decide) (fun K hK=>?_);refine goes_ Tryd.func54 (by kernel_rfl) rfl #[.agg #[.string ((riS37 l0 x5_1).f0),.string ((riS37 l0 x5_1).f1),.int .i64 ((riS37 l0 x5_1).f2),.bool ((riS37 l0 x5_1).f3),.int .i64 ((riS37 l0 x5_1).f4)],.agg #[.string ((riS37 l1 x5_1).f0),.string ((riS37 l1 x5_1).f1),.int .i64 ((riS37 l1 x5_1).f2),.bool ((riS37 l1 x5_1).f3),.int .i64 ((riS37 l1 x5_1).f4)]] (by rfl) rfl rfl (by (try simp only [List.map_toArray,List.map_cons,List.map_nil]);first|done|rfl|(simp only [List.length_drop,List.length_take];rfl)) ?_;with_reducible refine (laws_eqSpace.calls ((riS37 l0 x5_1).f0) ((riS37 l0 x5_1).f1) ((riS37 l0 x5_1).f2) ((riS37 l0 x5_1).f3) ((riS37 l0 x5_1).f4) ((riS37 l1 x5_1).f0) ((riS37 l1 x5_1).f1) ((riS37 l1 x5_1).f2) ((riS37 l1 x5_1).f3) ((riS37 l1 x5_1).f4) false _ A7.out).mono ?_
             rintro e w12 ⟨rfl,hb⟩;refine ⟨_,rfl,?_⟩;replace HB:=As0.mk (b3 HB.out hb)
                
                
                
                
             refine hK.out _ _ ⟨((HB.out.cell (World.block_lt_of_cell? w _ hw345_0)).trans hw345_0),((HB.out.cell (World.block_lt_of_cell? w _ hw345_1)).trans hw345_1),((HB.out.cell (World.block_lt_of_cell? w _ hw345_2)).trans hw345_2),((HB.out.cell (World.block_lt_of_cell? w _ hw345_3)).trans hw345_3),((HB.out.cell (World.block_lt_of_cell? w _ hw345_4)).trans hw345_4),((HB.out.cell (World.block_lt_of_cell? w _ hw346_0)).trans hw346_0),((HB.out.cell (World.block_lt_of_cell? w _ hw346_1)).trans hw346_1),((HB.out.cell (World.block_lt_of_cell? w _ hw346_2)).trans hw346_2),((HB.out.cell (World.block_lt_of_cell? w _ hw346_3)).trans hw346_3),((HB.out.cell (World.block_lt_of_cell? w _ hw346_4)).trans hw346_4)⟩ (fun hHeld=>?_);clear hK K;refine norm_ (a':=?_) ?_ ?_;rotate_left
             · show Act.put _ (some 25) _ = _
               simp only [Act.put,sA,sZ,sS,i64_w,i32_w];rfl
             refine pu 9 (some 26) #[true,true,true,true,true,true,true,true,true,true] rfl rfl HT_.out ?_;refine done_ (done_of HT_.out (by kernel_rfl)) ?_
             try go_wp2
             go_ret
             exact ⟨eW,by repeat (first|(with_reducible first|exact HB.out|apply bal|apply pbN|apply bd1)|exact HB.out)⟩
         · rw [if_neg c6] at H
           exact absurd H (by simp)
       · rw [if_neg c5] at H
         exact absurd H (by simp)
     · rw [if_neg c4] at H
       have c4b0:decide (x5_1 < (l0.length:Int)) = false:=decide_eq_false c4;clear c4;obtain rfl:=Option.some.inj H
       go_wp2
       go_ret
       exact ⟨eW,by repeat (first|(with_reducible first|exact HB.out|apply bal|apply pbN|apply bd1)|exact HB.out)⟩
 · rw [if_neg c3] at H
   have c3b0:((l0.length:Int) == (l1.length:Int)) = false:=beq_eq_false_iff_ne.mpr c3;have c3b1:((l0.length:Int) != (l1.length:Int)) = true:=bne_iff_ne.mpr c3;have c3b2:(l0.length == l1.length) = false:=by first|simpa using c3|(simp at c3 ⊢;omega)
   obtain rfl:=Option.some.inj H
   go_enter Tryd.func24,Tryd.ntmps24
   go_wp2
   go_ret
   exact ⟨eW,by repeat (first|(with_reducible first|exact HB.out|apply bal|apply pbN|apply bd1)|exact HB.out)⟩
def laws_eqUse.f (a0_0:ByteArray) (a0_1:Int) (a1_0:ByteArray) (a1_1:Int):Option (Bool):=if a0_0.toList = a1_0.toList then (if a0_1 = a1_1 then (some true) else (some false)) else (some false)
set_option maxHeartbeats 40000000 in
set_option maxRecDepth 100000 in
theorem laws_eqUse.calls (a0_0:ByteArray) (a0_1:Int) (a1_0:ByteArray) (a1_1:Int) (r:Bool) (w:World) (h:laws_eqUse.f a0_0 a0_1 a1_0 a1_1 = some r) :
 Calls Tryd.prog 55 #[.agg #[.string a0_0,.int .i64 a0_1],.agg #[.string a1_0,.int .i64 a1_1]] w fun e w'=>e = .returned (.bool r) ∧ Below w.heap.size w w':=by
 have hu49:=Tryd.underlying49;have HB:=As0.mk (Below.refl w.heap.size w);have H:(if a0_0.toList = a1_0.toList then (if a0_1 = a1_1 then (some true) else (some false)) else (some false)) = some r:=h;clear h;by_cases c3:a0_0.toList = a1_0.toList
 · rw [if_pos c3] at H
   have c3b0:(a0_0.toList == a1_0.toList) = true:=beq_iff_eq.mpr c3;have c3b1:(a0_0.toList != a1_0.toList) = false:=bne_eq_false_iff_eq.mpr c3;clear c3;by_cases c4:a0_1 = a1_1
   · rw [if_pos c4] at H
     have c4b0:(a0_1 == a1_1) = true:=beq_iff_eq.mpr c4;have c4b1:(a0_1 != a1_1) = false:=bne_eq_false_iff_eq.mpr c4;clear c4;obtain rfl:=Option.some.inj H
     go_enter Tryd.func55,Tryd.ntmps55
     go_wp2_with (first|((with_reducible refine gate_dst (N:=2) rfl ?_);refine bE 2 #[.string a0_0,.int .i64 a0_1] 49 ?_;intro gb348 hg w5 hbox hb;have BK348:=As0.mk (hbox);have GW348:=As0.mk ((by rw [hg];exact (bsz (by repeat (first|(with_reducible first|exact HB.out|apply bal|apply pbN|apply bd1)|exact HB.out))):w.heap.size ≤ gb348));have GE348:=GW348;replace HB:=As0.mk (b3 HB.out hb);clear hb hbox hg)|((with_reducible refine gate_dst (N:=3) rfl ?_);refine bE 3 #[.string a1_0,.int .i64 a1_1] 49 ?_;intro gb349 hg w6 hbox hb;have BK349:=As0.mk (hbox);have GW349:=As0.mk ((by rw [hg];exact (bsz (by repeat (first|(with_reducible first|exact HB.out|apply bal|apply pbN|apply bd1|refine bst ?_ GE348.out)|exact HB.out))):w.heap.size ≤ gb349));have GE349:=GW349;replace HB:=As0.mk (bsp (by repeat (first|(with_reducible first|exact HB.out|apply bal|apply pbN|apply bd1|refine bst ?_ GE348.out)|exact HB.out)) hb);have NB348_349:=As0.mk ((by rw [hg];exact Nat.ne_of_lt (blk_lt (g:=gb348) (o:=.cells #[.string a0_0,.int .i64 a0_1] 49 (0,0)) (by (with_reducible repeat (first|refine bkN ?_ _|refine bkD ?_|refine bkA ?_ _));exact BK348.out)):gb348 ≠ gb349));have NB349_348:=As0.mk (Ne.symm NB348_349.out);replace BK348:=As0.mk (bb hb BK348.out);clear hb hbox hg;have hnb7:=NB348_349.out;have hnc7:=NB349_348.out;obtain ⟨hcz8_0,hcz8_1⟩:=qc2 BK348.out;obtain ⟨hfz8_0,hfz8_1⟩:=qz2 BK348.out;obtain ⟨hcz9_0,hcz9_1⟩:=qc2 BK349.out;obtain ⟨hfz9_0,hfz9_1⟩:=qz2 BK349.out))
     go_ret
     exact ⟨eW,by repeat (first|(with_reducible first|exact HB.out|apply bal|apply pbN|apply bd1|refine bst ?_ GE348.out|refine bst ?_ GE349.out)|exact HB.out)⟩
   · rw [if_neg c4] at H
     have c4b0:(a0_1 == a1_1) = false:=beq_eq_false_iff_ne.mpr c4;have c4b1:(a0_1 != a1_1) = true:=bne_iff_ne.mpr c4;obtain rfl:=Option.some.inj H
     go_enter Tryd.func55,Tryd.ntmps55
     go_wp2_with (first|((with_reducible refine gate_dst (N:=2) rfl ?_);refine bE 2 #[.string a0_0,.int .i64 a0_1] 49 ?_;intro gb348 hg w10 hbox hb;have BK348:=As0.mk (hbox);have GW348:=As0.mk ((by rw [hg];exact (bsz (by repeat (first|(with_reducible first|exact HB.out|apply bal|apply pbN|apply bd1)|exact HB.out))):w.heap.size ≤ gb348));have GE348:=GW348;replace HB:=As0.mk (b3 HB.out hb);clear hb hbox hg)|((with_reducible refine gate_dst (N:=3) rfl ?_);refine bE 3 #[.string a1_0,.int .i64 a1_1] 49 ?_;intro gb349 hg w11 hbox hb;have BK349:=As0.mk (hbox);have GW349:=As0.mk ((by rw [hg];exact (bsz (by repeat (first|(with_reducible first|exact HB.out|apply bal|apply pbN|apply bd1|refine bst ?_ GE348.out)|exact HB.out))):w.heap.size ≤ gb349));have GE349:=GW349;replace HB:=As0.mk (bsp (by repeat (first|(with_reducible first|exact HB.out|apply bal|apply pbN|apply bd1|refine bst ?_ GE348.out)|exact HB.out)) hb);have NB348_349:=As0.mk ((by rw [hg];exact Nat.ne_of_lt (blk_lt (g:=gb348) (o:=.cells #[.string a0_0,.int .i64 a0_1] 49 (0,0)) (by (with_reducible repeat (first|refine bkN ?_ _|refine bkD ?_|refine bkA ?_ _));exact BK348.out)):gb348 ≠ gb349));have NB349_348:=As0.mk (Ne.symm NB348_349.out);replace BK348:=As0.mk (bb hb BK348.out);clear hb hbox hg;have hnb12:=NB348_349.out;have hnc12:=NB349_348.out;obtain ⟨hcz13_0,hcz13_1⟩:=qc2 BK348.out;obtain ⟨hfz13_0,hfz13_1⟩:=qz2 BK348.out;obtain ⟨hcz14_0,hcz14_1⟩:=qc2 BK349.out;obtain ⟨hfz14_0,hfz14_1⟩:=qz2 BK349.out))
     go_ret
     exact ⟨eW,by repeat (first|(with_reducible first|exact HB.out|apply bal|apply pbN|apply bd1|refine bst ?_ GE348.out|refine bst ?_ GE349.out)|exact HB.out)⟩
 · rw [if_neg c3] at H
   have c3b0:(a0_0.toList == a1_0.toList) = false:=beq_eq_false_iff_ne.mpr c3;have c3b1:(a0_0.toList != a1_0.toList) = true:=bne_iff_ne.mpr c3;obtain rfl:=Option.some.inj H
   go_enter Tryd.func55,Tryd.ntmps55
   go_wp2_with (first|((with_reducible refine gate_dst (N:=2) rfl ?_);refine bE 2 #[.string a0_0,.int .i64 a0_1] 49 ?_;intro gb348 hg w15 hbox hb;have BK348:=As0.mk (hbox);have GW348:=As0.mk ((by rw [hg];exact (bsz (by repeat (first|(with_reducible first|exact HB.out|apply bal|apply pbN|apply bd1)|exact HB.out))):w.heap.size ≤ gb348));have GE348:=GW348;replace HB:=As0.mk (b3 HB.out hb);clear hb hbox hg)|((with_reducible refine gate_dst (N:=3) rfl ?_);refine bE 3 #[.string a1_0,.int .i64 a1_1] 49 ?_;intro gb349 hg w16 hbox hb;have BK349:=As0.mk (hbox);have GW349:=As0.mk ((by rw [hg];exact (bsz (by repeat (first|(with_reducible first|exact HB.out|apply bal|apply pbN|apply bd1|refine bst ?_ GE348.out)|exact HB.out))):w.heap.size ≤ gb349));have GE349:=GW349;replace HB:=As0.mk (bsp (by repeat (first|(with_reducible first|exact HB.out|apply bal|apply pbN|apply bd1|refine bst ?_ GE348.out)|exact HB.out)) hb);have NB348_349:=As0.mk ((by rw [hg];exact Nat.ne_of_lt (blk_lt (g:=gb348) (o:=.cells #[.string a0_0,.int .i64 a0_1] 49 (0,0)) (by (with_reducible repeat (first|refine bkN ?_ _|refine bkD ?_|refine bkA ?_ _));exact BK348.out)):gb348 ≠ gb349));have NB349_348:=As0.mk (Ne.symm NB348_349.out);replace BK348:=As0.mk (bb hb BK348.out);clear hb hbox hg;have hnb17:=NB348_349.out;have hnc17:=NB349_348.out;obtain ⟨hcz18_0,hcz18_1⟩:=qc2 BK348.out;obtain ⟨hfz18_0,hfz18_1⟩:=qz2 BK348.out;obtain ⟨hcz19_0,hcz19_1⟩:=qc2 BK349.out;obtain ⟨hfz19_0,hfz19_1⟩:=qz2 BK349.out))
   go_ret
   exact ⟨eW,by repeat (first|(with_reducible first|exact HB.out|apply bal|apply pbN|apply bd1|refine bst ?_ GE348.out|refine bst ?_ GE349.out)|exact HB.out)⟩
def laws_eqUseS.l0:Nat → List (SiU30) → List (SiU30) → Int → Option (Bool)
 |0,_,_,_=>none
 |k + 1,x0,x1,x5=>if x5 < (x0.length:Int) then (if 0 ≤ x5 then (if x5 < (x1.length:Int) then ((laws_eqUse.f ((riU39 x0 x5).f0) ((riU39 x0 x5).f1) ((riU39 x1 x5).f0) ((riU39 x1 x5).f1)).bind fun t352=>(if t352 = true then (laws_eqUseS.l0 k x0 x1 (wrap64 (x5 + 1))) else (some false))) else (none)) else (none)) else (some true)
def laws_eqUseS.f (k:Nat) (l0:List (SiU30)) (l1:List (SiU30)):Option (Bool):=if (l0.length:Int) = (l1.length:Int) then (laws_eqUseS.l0 k l0 l1 0) else (some false)
def laws_eqUseS.T6:Bool × List (List Nat × List Nat):=(true,[([],[]),([],[]),([0,1],[0,1]),([2],[2]),([],[]),([],[]),([4,5],[4,5]),([6],[6]),([3,7],[3,7]),([8],[8])])
def laws_eqUseS.B6:List Nat:=[0,0,3,7,0,0,48,112,255,511]
theorem laws_eqUseS.tab6:rtab .any (opsOf Tryd.f25 6) = laws_eqUseS.T6:=by kernel_rfl
theorem laws_eqUseS.bits6:waitsOk laws_eqUseS.T6.2 laws_eqUseS.B6 = true:=by kernel_rfl
set_option maxHeartbeats 40000000 in
set_option maxRecDepth 100000 in
theorem laws_eqUseS.calls (k:Nat) (A0:Option Addr) (c0:Nat) (l0:List (SiU30)) (A1:Option Addr) (c1:Nat) (l1:List (SiU30)) (r:Bool) (w:World) (hr0:Kd.C k49 w A0 l0.length l0) (hc0:l0.length ≤ c0) (hr1:Kd.C k49 w A1 l1.length l1) (hc1:l1.length ≤ c1) (h:laws_eqUseS.f k l0 l1 = some r) :
 Calls Tryd.prog 25 #[.slice A0 l0.length c0,.slice A1 l1.length c1] w fun e w'=>e = .returned (.bool r) ∧ Below w.heap.size w w':=by
 have hu49:=Tryd.underlying49;have HR0:=As0.mk hr0;have HC0:=As0.mk hc0;clear hr0 hc0;have HR1:=As0.mk hr1;have HC1:=As0.mk hc1;clear hr1 hc1;have HB:=As0.mk (Below.refl w.heap.size w);have H:(if (l0.length:Int) = (l1.length:Int) then (laws_eqUseS.l0 k l0 l1 0) else (some false)) = some r:=h;clear h;by_cases c3:(l0.length:Int) = (l1.length:Int)
 · rw [if_pos c3] at H
   have c3b0:((l0.length:Int) == (l1.length:Int)) = true:=beq_iff_eq.mpr c3;have c3b1:((l0.length:Int) != (l1.length:Int)) = false:=bne_eq_false_iff_eq.mpr c3;have c3b2:(l0.length == l1.length) = true:=by first|simpa using c3|(simp at c3 ⊢;omega)
   clear c3;have H':=As0.mk H;clear H
   go_enter Tryd.func25,Tryd.ntmps25
   go_wp2
   show _;go_loopg [5] k (fun kq v5 w'=>∃ (x5_1:Int),v5 = .int .i64 x5_1 ∧ As0 (laws_eqUseS.l0 kq l0 l1 x5_1 = some r) ∧ As0 (kq ≤ k) ∧ As0 (Below w.heap.size w w'))
   case atStart=>exact ⟨(0),(by first|rfl|(simp;done)|(simp [*];done)),H',⟨Nat.le_refl _⟩,⟨by repeat (first|(with_reducible first|exact HB.out|apply bal|apply pbN|apply bd1)|exact HB.out)⟩⟩
   case round=>
    clear H'
    try clear c1
    try clear c2
    try clear p2
    try clear c3
    try clear c3b0
    try clear c3b1
    try clear c3b2
    obtain ⟨x5_1,rfl,HA,HK1,HB⟩:=hrel
    cases gk with
    |zero=>exact absurd HA.out (by simp [laws_eqUseS.l0])
    |succ k1=>
     have H:=HA.out;clear HA;simp only [laws_eqUseS.l0] at H;by_cases c4:x5_1 < (l0.length:Int)
     · rw [if_pos c4] at H
       have c4b0:decide (x5_1 < (l0.length:Int)) = true:=decide_eq_true c4;clear c4;by_cases c5:0 ≤ x5_1
       · rw [if_pos c5] at H
         have c5b0:decide (0 ≤ x5_1) = true:=decide_eq_true c5;clear c5;by_cases c6:x5_1 < (l1.length:Int)
         · rw [if_pos c6] at H
           have c6b0:decide (x5_1 < (l1.length:Int)) = true:=decide_eq_true c6;clear c6;replace H:=Option.bind_eq_some_iff.mp H;obtain ⟨t352,A70,H⟩:=H;(try dsimp only at H);have A7:=As0.mk A70;clear A70;by_cases c8:t352 = true
           · subst c8
             have H1:(laws_eqUseS.l0 k1 l0 l1 (wrap64 (x5_1 + 1))) = some r:=by rw [if_pos rfl] at H;exact H
             clear H;have H:=H1;clear H1;have H':=As0.mk H;clear H
             try go_wp2
             replace HB:=As0.mk (bd1 HB.out);have p350:0 ≤ (x5_1:Int):=odt;have q350:x5_1 < (l0.length:Int):=odt;obtain ⟨ad350,e350,hx350_0,hx350_1⟩:=at_T49 HR0.out x5_1 p350 q350;have hw350_1:=hx350_1;have hw350_0:=hx350_0
             cases e350
             replace hx350_0:=bx HB.out rfl hx350_0;replace hx350_1:=bx HB.out rfl hx350_1;replace p350:=eq_true p350;replace q350:=eq_true q350;have p351:0 ≤ (x5_1:Int):=odt;have q351:x5_1 < (l1.length:Int):=odt;obtain ⟨ad351,e351,hx351_0,hx351_1⟩:=at_T49 HR1.out x5_1 p351 q351;have hw351_1:=hx351_1;have hw351_0:=hx351_0
             cases e351
             replace hx351_0:=bx HB.out rfl hx351_0;replace hx351_1:=bx HB.out rfl hx351_1;replace p351:=eq_true p351;replace q351:=eq_true q351;refine start_ (n:=10) (S:=fun w'=>w'.cell? (ad350.add ((x5_1).toNat * 2)) = some (.string ((riU39 l0 x5_1).f0)) ∧ w'.cell? ⟨(ad350.add ((x5_1).toNat * 2)).block,(ad350.add ((x5_1).toNat * 2)).off + 1,none⟩ = some (.int .i64 ((riU39 l0 x5_1).f1)) ∧ w'.cell? (ad351.add ((x5_1).toNat * 2)) = some (.string ((riU39 l1 x5_1).f0)) ∧ w'.cell? ⟨(ad351.add ((x5_1).toNat * 2)).block,(ad351.add ((x5_1).toNat * 2)).off + 1,none⟩ = some (.int .i64 ((riU39 l1 x5_1).f1))) (ds:=[]) #[false,false,false,false,false,false,false,false,false,false] (by kernel_rfl) rfl rfl ⟨((HB.out.cell (World.block_lt_of_cell? w _ hw350_0)).trans hw350_0),((HB.out.cell (World.block_lt_of_cell? w _ hw350_1)).trans hw350_1),((HB.out.cell (World.block_lt_of_cell? w _ hw351_0)).trans hw351_0),((HB.out.cell (World.block_lt_of_cell? w _ hw351_1)).trans hw351_1)⟩ (fun hHeld=>?_);refine with_tabW laws_eqUseS.tab6 laws_eqUseS.bits6 (fun HT_ HW_=>?_);generalize wr.drew = w9 at HB hx350_0 hx350_1 hx351_0 hx351_1 hHeld ⊢
             refine pu 0 (some 17) #[true,false,false,false,false,false,false,false,false,false] rfl rfl HT_.out ?_;refine pu 1 (some 18) #[true,true,false,false,false,false,false,false,false,false] rfl rfl HT_.out ?_;refine pu 2 (some 19) #[true,true,true,false,false,false,false,false,false,false] rfl rfl HT_.out ?_;refine pu 4 (some 21) #[true,true,true,false,true,false,false,false,false,false] rfl rfl HT_.out ?_;refine pu 5 (some 22) #[true,true,true,false,true,true,false,false,false,false] rfl rfl HT_.out ?_;refine pu 6 (some 23) #[true,true,true,false,true,true,true,false,false,false] rfl rfl HT_.out ?_;refine tk 3 (some 20) #[true,true,true,true,true,true,true,false,false,false] rfl rfl HT_.out HW_.out hHeld (by rintro w' ⟨s0,s1,s2,s3⟩;go_simp;with_reducible rfl) ?_;refine tk 7 (some 24) #[true,true,true,true,true,true,true,true,false,false] rfl rfl HT_.out HW_.out hHeld (by rintro w' ⟨s0,s1,s2,s3⟩;go_simp;with_reducible rfl) ?_;refine one_ (i:=8) (N:=some 25) #[true,true,true,true,true,true,true,true,true,false] rfl rfl (one_of HT_.out (by kernel_rfl)) (by decide) (fun K hK=>?_);refine goes_ Tryd.func55 (by kernel_rfl) rfl #[.agg #[.string ((riU39 l0 x5_1).f0),.int .i64 ((riU39 l0 x5_1).f1)],.agg #[.string ((riU39 l1 x5_1).f0),.int .i64 ((riU39 l1 x5_1).f1)]] (by rfl) rfl rfl (by (try simp only [List.map_toArray,List.map_cons,List.map_nil]);first|done|rfl|(simp only [List.length_drop,List.length_take];rfl)) ?_;with_reducible refine (laws_eqUse.calls ((riU39 l0 x5_1).f0) ((riU39 l0 x5_1).f1) ((riU39 l1 x5_1).f0) ((riU39 l1 x5_1).f1) true _ A7.out).mono ?_
             rintro e w10 ⟨rfl,hb⟩;refine ⟨_,rfl,?_⟩;replace HB:=As0.mk (b3 HB.out hb)
                
                
                
                
             refine hK.out _ _ ⟨((HB.out.cell (World.block_lt_of_cell? w _ hw350_0)).trans hw350_0),((HB.out.cell (World.block_lt_of_cell? w _ hw350_1)).trans hw350_1),((HB.out.cell (World.block_lt_of_cell? w _ hw351_0)).trans hw351_0),((HB.out.cell (World.block_lt_of_cell? w _ hw351_1)).trans hw351_1)⟩ (fun hHeld=>?_);clear hK K;refine norm_ (a':=?_) ?_ ?_;rotate_left
             · show Act.put _ (some 25) _ = _
               simp only [Act.put,sA,sZ,sS,i64_w,i32_w];rfl
             refine pu 9 (some 26) #[true,true,true,true,true,true,true,true,true,true] rfl rfl HT_.out ?_;refine done_ (done_of HT_.out (by kernel_rfl)) ?_
             try go_wp2
             show _;go_roundg k1
             case measure=>have:=HK1.out;omega
             case rel=>exact ⟨(wrap64 (x5_1 + 1)),(by first|rfl|(simp;done)|(simp [*];done)),H',⟨by have:=HK1.out;omega⟩,⟨by repeat (first|(with_reducible first|exact HB.out|apply bal|apply pbN|apply bd1)|exact HB.out)⟩⟩
           · replace c8:=Bool.eq_false_iff.mpr c8
             subst c8;have H1:(some false) = some r:=by rw [if_neg (show ¬ (false = true) by decide)] at H;exact H
             clear H;have H:=H1;clear H1;obtain rfl:=Option.some.inj H
             try go_wp2
             replace HB:=As0.mk (bd1 HB.out);have p350:0 ≤ (x5_1:Int):=odt;have q350:x5_1 < (l0.length:Int):=odt;obtain ⟨ad350,e350,hx350_0,hx350_1⟩:=at_T49 HR0.out x5_1 p350 q350;have hw350_1:=hx350_1;have hw350_0:=hx350_0
             cases e350
             replace hx350_0:=bx HB.out rfl hx350_0;replace hx350_1:=bx HB.out rfl hx350_1;replace p350:=eq_true p350;replace q350:=eq_true q350;have p351:0 ≤ (x5_1:Int):=odt;have q351:x5_1 < (l1.length:Int):=odt;obtain ⟨ad351,e351,hx351_0,hx351_1⟩:=at_T49 HR1.out x5_1 p351 q351;have hw351_1:=hx351_1;have hw351_0:=hx351_0
             cases e351
             replace hx351_0:=bx HB.out rfl hx351_0;replace hx351_1:=bx HB.out rfl hx351_1;replace p351:=eq_true p351;replace q351:=eq_true q351;refine start_ (n:=10) (S:=fun w'=>w'.cell? (ad350.add ((x5_1).toNat * 2)) = some (.string ((riU39 l0 x5_1).f0)) ∧ w'.cell? ⟨(ad350.add ((x5_1).toNat * 2)).block,(ad350.add ((x5_1).toNat * 2)).off + 1,none⟩ = some (.int .i64 ((riU39 l0 x5_1).f1)) ∧ w'.cell? (ad351.add ((x5_1).toNat * 2)) = some (.string ((riU39 l1 x5_1).f0)) ∧ w'.cell? ⟨(ad351.add ((x5_1).toNat * 2)).block,(ad351.add ((x5_1).toNat * 2)).off + 1,none⟩ = some (.int .i64 ((riU39 l1 x5_1).f1))) (ds:=[]) #[false,false,false,false,false,false,false,false,false,false] (by kernel_rfl) rfl rfl ⟨((HB.out.cell (World.block_lt_of_cell? w _ hw350_0)).trans hw350_0),((HB.out.cell (World.block_lt_of_cell? w _ hw350_1)).trans hw350_1),((HB.out.cell (World.block_lt_of_cell? w _ hw351_0)).trans hw351_0),((HB.out.cell (World.block_lt_of_cell? w _ hw351_1)).trans hw351_1)⟩ (fun hHeld=>?_);refine with_tabW laws_eqUseS.tab6 laws_eqUseS.bits6 (fun HT_ HW_=>?_);generalize wr.drew = w11 at HB hx350_0 hx350_1 hx351_0 hx351_1 hHeld ⊢
             refine pu 0 (some 17) #[true,false,false,false,false,false,false,false,false,false] rfl rfl HT_.out ?_;refine pu 1 (some 18) #[true,true,false,false,false,false,false,false,false,false] rfl rfl HT_.out ?_;refine pu 2 (some 19) #[true,true,true,false,false,false,false,false,false,false] rfl rfl HT_.out ?_;refine pu 4 (some 21) #[true,true,true,false,true,false,false,false,false,false] rfl rfl HT_.out ?_;refine pu 5 (some 22) #[true,true,true,false,true,true,false,false,false,false] rfl rfl HT_.out ?_;refine pu 6 (some 23) #[true,true,true,false,true,true,true,false,false,false] rfl rfl HT_.out ?_;refine tk 3 (some 20) #[true,true,true,true,true,true,true,false,false,false] rfl rfl HT_.out HW_.out hHeld (by rintro w' ⟨s0,s1,s2,s3⟩;go_simp;with_reducible rfl) ?_;refine tk 7 (some 24) #[true,true,true,true,true,true,true,true,false,false] rfl rfl HT_.out HW_.out hHeld (by rintro w' ⟨s0,s1,s2,s3⟩;go_simp;with_reducible rfl) ?_;refine one_ (i:=8) (N:=some 25) #[true,true,true,true,true,true,true,true,true,false] rfl rfl (one_of HT_.out (by kernel_rfl)) (by decide) (fun K hK=>?_);refine goes_ Tryd.func55 (by kernel_rfl) rfl #[.agg #[.string ((riU39 l0 x5_1).f0),.int .i64 ((riU39 l0 x5_1).f1)],.agg #[.string ((riU39 l1 x5_1).f0),.int .i64 ((riU39 l1 x5_1).f1)]] (by rfl) rfl rfl (by (try simp only [List.map_toArray,List.map_cons,List.map_nil]);first|done|rfl|(simp only [List.length_drop,List.length_take];rfl)) ?_;with_reducible refine (laws_eqUse.calls ((riU39 l0 x5_1).f0) ((riU39 l0 x5_1).f1) ((riU39 l1 x5_1).f0) ((riU39 l1 x5_1).f1) false _ A7.out).mono ?_
             rintro e w12 ⟨rfl,hb⟩;refine ⟨_,rfl,?_⟩;replace HB:=As0.mk (b3 HB.out hb)
                
                
                
                
             refine hK.out _ _ ⟨((HB.out.cell (World.block_lt_of_cell? w _ hw350_0)).trans hw350_0),((HB.out.cell (World.block_lt_of_cell? w _ hw350_1)).trans hw350_1),((HB.out.cell (World.block_lt_of_cell? w _ hw351_0)).trans hw351_0),((HB.out.cell (World.block_lt_of_cell? w _ hw351_1)).trans hw351_1)⟩ (fun hHeld=>?_);clear hK K;refine norm_ (a':=?_) ?_ ?_;rotate_left
             · show Act.put _ (some 25) _ = _
               simp only [Act.put,sA,sZ,sS,i64_w,i32_w];rfl
             refine pu 9 (some 26) #[true,true,true,true,true,true,true,true,true,true] rfl rfl HT_.out ?_;refine done_ (done_of HT_.out (by kernel_rfl)) ?_
             try go_wp2
             go_ret
             exact ⟨eW,by repeat (first|(with_reducible first|exact HB.out|apply bal|apply pbN|apply bd1)|exact HB.out)⟩
         · rw [if_neg c6] at H
           exact absurd H (by simp)
       · rw [if_neg c5] at H
         exact absurd H (by simp)
     · rw [if_neg c4] at H
       have c4b0:decide (x5_1 < (l0.length:Int)) = false:=decide_eq_false c4;clear c4;obtain rfl:=Option.some.inj H
       go_wp2
       go_ret
       exact ⟨eW,by repeat (first|(with_reducible first|exact HB.out|apply bal|apply pbN|apply bd1)|exact HB.out)⟩
 · rw [if_neg c3] at H
   have c3b0:((l0.length:Int) == (l1.length:Int)) = false:=beq_eq_false_iff_ne.mpr c3;have c3b1:((l0.length:Int) != (l1.length:Int)) = true:=bne_iff_ne.mpr c3;have c3b2:(l0.length == l1.length) = false:=by first|simpa using c3|(simp at c3 ⊢;omega)
   obtain rfl:=Option.some.inj H
   go_enter Tryd.func25,Tryd.ntmps25
   go_wp2
   go_ret
   exact ⟨eW,by repeat (first|(with_reducible first|exact HB.out|apply bal|apply pbN|apply bd1)|exact HB.out)⟩
def laws_eqStringS.l0:Nat → List ByteArray → List ByteArray → Int → Option (Bool)
 |0,_,_,_=>none
 |k + 1,x0,x1,x5=>if x5 < (x0.length:Int) then (if 0 ≤ x5 then (if x5 < (x1.length:Int) then (if (rdOf ByteArray.empty x0 x5).toList = (rdOf ByteArray.empty x1 x5).toList then (laws_eqStringS.l0 k x0 x1 (wrap64 (x5 + 1))) else (some false)) else (none)) else (none)) else (some true)
def laws_eqStringS.f (k:Nat) (l0:List ByteArray) (l1:List ByteArray):Option (Bool):=if (l0.length:Int) = (l1.length:Int) then (laws_eqStringS.l0 k l0 l1 0) else (some false)
set_option maxHeartbeats 40000000 in
set_option maxRecDepth 100000 in
theorem laws_eqStringS.calls (k:Nat) (A0:Option Addr) (c0:Nat) (l0:List ByteArray) (A1:Option Addr) (c1:Nat) (l1:List ByteArray) (r:Bool) (w:World) (hr0:Kd.C Kd.string w A0 l0.length l0) (hc0:l0.length ≤ c0) (hr1:Kd.C Kd.string w A1 l1.length l1) (hc1:l1.length ≤ c1) (h:laws_eqStringS.f k l0 l1 = some r) :
 Calls Tryd.prog 75 #[.slice A0 l0.length c0,.slice A1 l1.length c1] w fun e w'=>e = .returned (.bool r) ∧ Drawn0 w w':=by
 have HR0:=As0.mk hr0;have HC0:=As0.mk hc0;clear hr0 hc0;have HR1:=As0.mk hr1;have HC1:=As0.mk hc1;clear hr1 hc1;have H:(if (l0.length:Int) = (l1.length:Int) then (laws_eqStringS.l0 k l0 l1 0) else (some false)) = some r:=h;clear h;by_cases c3:(l0.length:Int) = (l1.length:Int)
 · rw [if_pos c3] at H
   have c3b0:((l0.length:Int) == (l1.length:Int)) = true:=beq_iff_eq.mpr c3;have c3b1:((l0.length:Int) != (l1.length:Int)) = false:=bne_eq_false_iff_eq.mpr c3;have c3b2:(l0.length == l1.length) = true:=by first|simpa using c3|(simp at c3 ⊢;omega)
   clear c3;have H':=As0.mk H;clear H
   go_enter Tryd.func75,Tryd.ntmps75
   go_wp2
   repeat (go_quiet (fail);try go_wp2)
   show _;go_loopg [5] k (fun kq v5 w'=>∃ (x5_1:Int),v5 = .int .i64 x5_1 ∧ As0 (laws_eqStringS.l0 kq l0 l1 x5_1 = some r) ∧ As0 (kq ≤ k) ∧ Drawn0 w w')
   case atStart=>exact ⟨(0),(by first|rfl|(simp;done)|(simp [*];done)),H',⟨Nat.le_refl _⟩,by repeat (first|exact Drawn0.refl _|apply Drawn0.step)⟩
   case round=>
    clear H'
    try clear c1
    try clear p2
    try clear c3
    try clear c3b0
    try clear c3b1
    try clear c3b2
    obtain ⟨x5_1,rfl,HA,HK1,⟨m1,rfl⟩⟩:=hrel
    cases gk with
    |zero=>exact absurd HA.out (by simp [laws_eqStringS.l0])
    |succ k1=>
     have H:=HA.out;clear HA;simp only [laws_eqStringS.l0] at H;by_cases c4:x5_1 < (l0.length:Int)
     · rw [if_pos c4] at H
       have c4b0:decide (x5_1 < (l0.length:Int)) = true:=decide_eq_true c4;clear c4;by_cases c5:0 ≤ x5_1
       · rw [if_pos c5] at H
         have c5b0:decide (0 ≤ x5_1) = true:=decide_eq_true c5;clear c5;by_cases c6:x5_1 < (l1.length:Int)
         · rw [if_pos c6] at H
           have c6b0:decide (x5_1 < (l1.length:Int)) = true:=decide_eq_true c6;clear c6;by_cases c7:(rdOf ByteArray.empty l0 x5_1).toList = (rdOf ByteArray.empty l1 x5_1).toList
           · rw [if_pos c7] at H
             have c7b0:((rdOf ByteArray.empty l0 x5_1).toList == (rdOf ByteArray.empty l1 x5_1).toList) = true:=beq_iff_eq.mpr c7;have c7b1:((rdOf ByteArray.empty l0 x5_1).toList != (rdOf ByteArray.empty l1 x5_1).toList) = false:=bne_eq_false_iff_eq.mpr c7;clear c7;have H':=As0.mk H;clear H;have p353:0 ≤ (x5_1:Int):=odt;have q353:x5_1 < (l0.length:Int):=odt;obtain ⟨ad353,e353,hx353_0⟩:=Kd.at_string HR0.out x5_1 p353 q353
             cases e353
             replace p353:=eq_true p353;replace q353:=eq_true q353;have p354:0 ≤ (x5_1:Int):=odt;have q354:x5_1 < (l1.length:Int):=odt;obtain ⟨ad354,e354,hx354_0⟩:=Kd.at_string HR1.out x5_1 p354 q354
             cases e354
             replace p354:=eq_true p354;replace q354:=eq_true q354
             go_wp2
             repeat (go_quiet (fail);try go_wp2)
             show _;go_roundg k1
             case measure=>have:=HK1.out;omega
             case rel=>exact ⟨(wrap64 (x5_1 + 1)),(by first|rfl|(simp;done)|(simp [*];done)),H',⟨by have:=HK1.out;omega⟩,by repeat (first|exact Drawn0.refl _|apply Drawn0.step)⟩
           · rw [if_neg c7] at H
             have c7b0:((rdOf ByteArray.empty l0 x5_1).toList == (rdOf ByteArray.empty l1 x5_1).toList) = false:=beq_eq_false_iff_ne.mpr c7;have c7b1:((rdOf ByteArray.empty l0 x5_1).toList != (rdOf ByteArray.empty l1 x5_1).toList) = true:=bne_iff_ne.mpr c7;obtain rfl:=Option.some.inj H;have p353:0 ≤ (x5_1:Int):=odt;have q353:x5_1 < (l0.length:Int):=odt;obtain ⟨ad353,e353,hx353_0⟩:=Kd.at_string HR0.out x5_1 p353 q353
             cases e353
             replace p353:=eq_true p353;replace q353:=eq_true q353;have p354:0 ≤ (x5_1:Int):=odt;have q354:x5_1 < (l1.length:Int):=odt;obtain ⟨ad354,e354,hx354_0⟩:=Kd.at_string HR1.out x5_1 p354 q354
             cases e354
             replace p354:=eq_true p354;replace q354:=eq_true q354
             go_wp2
             repeat (go_quiet (fail);try go_wp2)
             go_ret
             exact ⟨by first|rfl|(simp;done)|(simp [*];done),by repeat (first|exact Drawn0.refl _|apply Drawn0.step)⟩
         · rw [if_neg c6] at H
           exact absurd H (by simp)
       · rw [if_neg c5] at H
         exact absurd H (by simp)
     · rw [if_neg c4] at H
       have c4b0:decide (x5_1 < (l0.length:Int)) = false:=decide_eq_false c4;clear c4;obtain rfl:=Option.some.inj H
       go_wp2
       repeat (go_quiet (fail);try go_wp2)
       go_ret
       exact ⟨by first|rfl|(simp;done)|(simp [*];done),by repeat (first|exact Drawn0.refl _|apply Drawn0.step)⟩
 · rw [if_neg c3] at H
   have c3b0:((l0.length:Int) == (l1.length:Int)) = false:=beq_eq_false_iff_ne.mpr c3;have c3b1:((l0.length:Int) != (l1.length:Int)) = true:=bne_iff_ne.mpr c3;have c3b2:(l0.length == l1.length) = false:=by first|simpa using c3|(simp at c3 ⊢;omega)
   obtain rfl:=Option.some.inj H
   go_enter Tryd.func75,Tryd.ntmps75
   go_wp2
   repeat (go_quiet (fail);try go_wp2)
   go_ret
   exact ⟨by first|rfl|(simp;done)|(simp [*];done),by repeat (first|exact Drawn0.refl _|apply Drawn0.step)⟩
def laws_eqThing.f (k:Nat) (a0_0:ByteArray) (a0_1:ByteArray) (a0_2:Int) (a0_3:Int) (a0_4:Bool) (l0_5:List ByteArray) (a0_6:ByteArray) (a1_0:ByteArray) (a1_1:ByteArray) (a1_2:Int) (a1_3:Int) (a1_4:Bool) (l1_5:List ByteArray) (a1_6:ByteArray):Option (Bool):=if a0_0.toList = a1_0.toList then (if a0_1.toList = a1_1.toList then (if a0_2 = a1_2 then (if a0_3 = a1_3 then (if (a0_4 != a1_4) = true then (some false) else ((laws_eqStringS.f k l0_5 l1_5).bind fun t357=>(if t357 = true then (if a0_6.toList = a1_6.toList then (some true) else (some false)) else (some false)))) else (some false)) else (some false)) else (some false)) else (some false)
set_option maxHeartbeats 40000000 in
set_option maxRecDepth 100000 in
theorem laws_eqThing.calls (k:Nat) (a0_0:ByteArray) (a0_1:ByteArray) (a0_2:Int) (a0_3:Int) (a0_4:Bool) (A0_5:Option Addr) (c0_5:Nat) (l0_5:List ByteArray) (a0_6:ByteArray) (a1_0:ByteArray) (a1_1:ByteArray) (a1_2:Int) (a1_3:Int) (a1_4:Bool) (A1_5:Option Addr) (c1_5:Nat) (l1_5:List ByteArray) (a1_6:ByteArray) (r:Bool) (w:World) (hr0_5:Kd.C Kd.string w A0_5 l0_5.length l0_5) (hc0_5:l0_5.length ≤ c0_5) (hr1_5:Kd.C Kd.string w A1_5 l1_5.length l1_5) (hc1_5:l1_5.length ≤ c1_5) (h:laws_eqThing.f k a0_0 a0_1 a0_2 a0_3 a0_4 l0_5 a0_6 a1_0 a1_1 a1_2 a1_3 a1_4 l1_5 a1_6 = some r) :
 Calls Tryd.prog 56 #[.agg #[.string a0_0,.string a0_1,.int .i64 a0_2,.int .i64 a0_3,.bool a0_4,.slice A0_5 l0_5.length c0_5,.string a0_6],.agg #[.string a1_0,.string a1_1,.int .i64 a1_2,.int .i64 a1_3,.bool a1_4,.slice A1_5 l1_5.length c1_5,.string a1_6]] w fun e w'=>e = .returned (.bool r) ∧ Below w.heap.size w w':=by
 have hu73:=Tryd.underlying73;have HR0_5:=As0.mk hr0_5;have HC0_5:=As0.mk hc0_5;clear hr0_5 hc0_5;have HR1_5:=As0.mk hr1_5;have HC1_5:=As0.mk hc1_5;clear hr1_5 hc1_5;have HB:=As0.mk (Below.refl w.heap.size w);have H:(if a0_0.toList = a1_0.toList then (if a0_1.toList = a1_1.toList then (if a0_2 = a1_2 then (if a0_3 = a1_3 then (if (a0_4 != a1_4) = true then (some false) else ((laws_eqStringS.f k l0_5 l1_5).bind fun t357=>(if t357 = true then (if a0_6.toList = a1_6.toList then (some true) else (some false)) else (some false)))) else (some false)) else (some false)) else (some false)) else (some false)) = some r:=h;clear h;by_cases c3:a0_0.toList = a1_0.toList
 · rw [if_pos c3] at H
   have c3b0:(a0_0.toList == a1_0.toList) = true:=beq_iff_eq.mpr c3;have c3b1:(a0_0.toList != a1_0.toList) = false:=bne_eq_false_iff_eq.mpr c3;clear c3;by_cases c4:a0_1.toList = a1_1.toList
   · rw [if_pos c4] at H
     have c4b0:(a0_1.toList == a1_1.toList) = true:=beq_iff_eq.mpr c4;have c4b1:(a0_1.toList != a1_1.toList) = false:=bne_eq_false_iff_eq.mpr c4;clear c4;by_cases c5:a0_2 = a1_2
     · rw [if_pos c5] at H
       have c5b0:(a0_2 == a1_2) = true:=beq_iff_eq.mpr c5;have c5b1:(a0_2 != a1_2) = false:=bne_eq_false_iff_eq.mpr c5;clear c5;by_cases c6:a0_3 = a1_3
       · rw [if_pos c6] at H
         have c6b0:(a0_3 == a1_3) = true:=beq_iff_eq.mpr c6;have c6b1:(a0_3 != a1_3) = false:=bne_eq_false_iff_eq.mpr c6;clear c6;by_cases c7:(a0_4 != a1_4) = true
         · rw [if_pos c7] at H
           have c7b0:(a0_4 != a1_4) = true:=c7
           (try (have c7b1:decide (a0_4 = a1_4) = false:=by simpa using c7))
           (try (have c7b2:(a0_4 == a1_4) = false:=by simpa using c7))
           (try (have c7b3:¬ (a0_4 = a1_4):=by simpa using c7))
           clear c7;obtain rfl:=Option.some.inj H
           go_enter Tryd.func56,Tryd.ntmps56
           go_wp2_with (first|((with_reducible refine gate_dst (N:=2) rfl ?_);refine bE 2 #[.string a0_0,.string a0_1,.int .i64 a0_2,.int .i64 a0_3,.bool a0_4,.slice A0_5 l0_5.length c0_5,.string a0_6] 73 ?_;intro gb355 hg w8 hbox hb;have BK355:=As0.mk (hbox);have GW355:=As0.mk ((by rw [hg];exact (bsz (by repeat (first|(with_reducible first|exact HB.out|apply bal|apply pbN|apply bd1)|exact HB.out))):w.heap.size ≤ gb355));have GE355:=GW355;replace HB:=As0.mk (b3 HB.out hb);clear hb hbox hg)|((with_reducible refine gate_dst (N:=3) rfl ?_);refine bE 3 #[.string a1_0,.string a1_1,.int .i64 a1_2,.int .i64 a1_3,.bool a1_4,.slice A1_5 l1_5.length c1_5,.string a1_6] 73 ?_;intro gb356 hg w9 hbox hb;have BK356:=As0.mk (hbox);have GW356:=As0.mk ((by rw [hg];exact (bsz (by repeat (first|(with_reducible first|exact HB.out|apply bal|apply pbN|apply bd1|refine bst ?_ GE355.out)|exact HB.out))):w.heap.size ≤ gb356));have GE356:=GW356;replace HB:=As0.mk (bsp (by repeat (first|(with_reducible first|exact HB.out|apply bal|apply pbN|apply bd1|refine bst ?_ GE355.out)|exact HB.out)) hb);have NB355_356:=As0.mk ((by rw [hg];exact Nat.ne_of_lt (blk_lt (g:=gb355) (o:=.cells #[.string a0_0,.string a0_1,.int .i64 a0_2,.int .i64 a0_3,.bool a0_4,.slice A0_5 l0_5.length c0_5,.string a0_6] 73 (0,0)) (by (with_reducible repeat (first|refine bkN ?_ _|refine bkD ?_|refine bkA ?_ _));exact BK355.out)):gb355 ≠ gb356));have NB356_355:=As0.mk (Ne.symm NB355_356.out);replace BK355:=As0.mk (bb hb BK355.out);clear hb hbox hg;have hnb10:=NB355_356.out;have hnc10:=NB356_355.out;obtain ⟨hcz11_0,hcz11_1,hcz11_2,hcz11_3,hcz11_4,hcz11_5,hcz11_6⟩:=qc7 BK355.out;obtain ⟨hfz11_0,hfz11_1,hfz11_2,hfz11_3,hfz11_4,hfz11_5,hfz11_6⟩:=qz7 BK355.out;obtain ⟨hcz12_0,hcz12_1,hcz12_2,hcz12_3,hcz12_4,hcz12_5,hcz12_6⟩:=qc7 BK356.out;obtain ⟨hfz12_0,hfz12_1,hfz12_2,hfz12_3,hfz12_4,hfz12_5,hfz12_6⟩:=qz7 BK356.out))
           go_ret
           exact ⟨eW,by repeat (first|(with_reducible first|exact HB.out|apply bal|apply pbN|apply bd1|refine bst ?_ GE355.out|refine bst ?_ GE356.out)|exact HB.out)⟩
         · rw [if_neg c7] at H
           have c7b0:(a0_4 != a1_4) = false:=by simpa using c7
           (try (have c7b1:decide (a0_4 = a1_4) = true:=by simpa using c7))
           (try (have c7b2:(a0_4 == a1_4) = true:=by simpa using c7))
           clear c7;replace H:=Option.bind_eq_some_iff.mp H;obtain ⟨t357,A130,H⟩:=H;(try dsimp only at H);have A13:=As0.mk A130;clear A130;by_cases c14:t357 = true
           · subst c14
             have H1:(if a0_6.toList = a1_6.toList then (some true) else (some false)) = some r:=by rw [if_pos rfl] at H;exact H
             clear H;have H:=H1;clear H1;by_cases c15:a0_6.toList = a1_6.toList
             · rw [if_pos c15] at H
               have c15b0:(a0_6.toList == a1_6.toList) = true:=beq_iff_eq.mpr c15;have c15b1:(a0_6.toList != a1_6.toList) = false:=bne_eq_false_iff_eq.mpr c15;clear c15;obtain rfl:=Option.some.inj H
               go_enter Tryd.func56,Tryd.ntmps56
               go_wp2_with (first|((with_reducible refine gate_dst (N:=2) rfl ?_);refine bE 2 #[.string a0_0,.string a0_1,.int .i64 a0_2,.int .i64 a0_3,.bool a0_4,.slice A0_5 l0_5.length c0_5,.string a0_6] 73 ?_;intro gb355 hg w16 hbox hb;have BK355:=As0.mk (hbox);have GW355:=As0.mk ((by rw [hg];exact (bsz (by repeat (first|(with_reducible first|exact HB.out|apply bal|apply pbN|apply bd1)|exact HB.out))):w.heap.size ≤ gb355));have GE355:=GW355;replace HB:=As0.mk (b3 HB.out hb);clear hb hbox hg)|((with_reducible refine gate_dst (N:=3) rfl ?_);refine bE 3 #[.string a1_0,.string a1_1,.int .i64 a1_2,.int .i64 a1_3,.bool a1_4,.slice A1_5 l1_5.length c1_5,.string a1_6] 73 ?_;intro gb356 hg w17 hbox hb;have BK356:=As0.mk (hbox);have GW356:=As0.mk ((by rw [hg];exact (bsz (by repeat (first|(with_reducible first|exact HB.out|apply bal|apply pbN|apply bd1|refine bst ?_ GE355.out)|exact HB.out))):w.heap.size ≤ gb356));have GE356:=GW356;replace HB:=As0.mk (bsp (by repeat (first|(with_reducible first|exact HB.out|apply bal|apply pbN|apply bd1|refine bst ?_ GE355.out)|exact HB.out)) hb);have NB355_356:=As0.mk ((by rw [hg];exact Nat.ne_of_lt (blk_lt (g:=gb355) (o:=.cells #[.string a0_0,.string a0_1,.int .i64 a0_2,.int .i64 a0_3,.bool a0_4,.slice A0_5 l0_5.length c0_5,.string a0_6] 73 (0,0)) (by (with_reducible repeat (first|refine bkN ?_ _|refine bkD ?_|refine bkA ?_ _));exact BK355.out)):gb355 ≠ gb356));have NB356_355:=As0.mk (Ne.symm NB355_356.out);replace BK355:=As0.mk (bb hb BK355.out);clear hb hbox hg;have hnb18:=NB355_356.out;have hnc18:=NB356_355.out;obtain ⟨hcz19_0,hcz19_1,hcz19_2,hcz19_3,hcz19_4,hcz19_5,hcz19_6⟩:=qc7 BK355.out;obtain ⟨hfz19_0,hfz19_1,hfz19_2,hfz19_3,hfz19_4,hfz19_5,hfz19_6⟩:=qz7 BK355.out;obtain ⟨hcz20_0,hcz20_1,hcz20_2,hcz20_3,hcz20_4,hcz20_5,hcz20_6⟩:=qc7 BK356.out;obtain ⟨hfz20_0,hfz20_1,hfz20_2,hfz20_3,hfz20_4,hfz20_5,hfz20_6⟩:=qz7 BK356.out)|((with_reducible refine gca (f:=75) rfl ?_);refine gL (some 34) Tryd.func75 #[.slice A0_5 l0_5.length c0_5,.slice A1_5 l1_5.length c1_5] ?_;(with_reducible refine (laws_eqStringS.calls k _ _ l0_5 _ _ l1_5 true _ ?side1 ?side2 ?side3 ?side4 A13.out).mono ?_);(case side1=>repeat (first|exact (Kd.C_below HR0_5.out HB.out)|(with_reducible first|refine Kd.C_alloc ?_ _|refine Kd.C_drewN ?_ _|refine Kd.C_drew ?_)));(case side2=>exact HC0_5.out);(case side3=>repeat (first|exact (Kd.C_below HR1_5.out HB.out)|(with_reducible first|refine Kd.C_alloc ?_ _|refine Kd.C_drewN ?_ _|refine Kd.C_drew ?_)));(case side4=>exact HC1_5.out);rintro e w' ⟨rfl,⟨nd,rfl⟩⟩;refine ⟨_,rfl,?_⟩))
               go_ret
               exact ⟨eW,by repeat (first|(with_reducible first|exact HB.out|apply bal|apply pbN|apply bd1|refine bst ?_ GE355.out|refine bst ?_ GE356.out)|exact HB.out)⟩
             · rw [if_neg c15] at H
               have c15b0:(a0_6.toList == a1_6.toList) = false:=beq_eq_false_iff_ne.mpr c15;have c15b1:(a0_6.toList != a1_6.toList) = true:=bne_iff_ne.mpr c15;obtain rfl:=Option.some.inj H
               go_enter Tryd.func56,Tryd.ntmps56
               go_wp2_with (first|((with_reducible refine gate_dst (N:=2) rfl ?_);refine bE 2 #[.string a0_0,.string a0_1,.int .i64 a0_2,.int .i64 a0_3,.bool a0_4,.slice A0_5 l0_5.length c0_5,.string a0_6] 73 ?_;intro gb355 hg w21 hbox hb;have BK355:=As0.mk (hbox);have GW355:=As0.mk ((by rw [hg];exact (bsz (by repeat (first|(with_reducible first|exact HB.out|apply bal|apply pbN|apply bd1)|exact HB.out))):w.heap.size ≤ gb355));have GE355:=GW355;replace HB:=As0.mk (b3 HB.out hb);clear hb hbox hg)|((with_reducible refine gate_dst (N:=3) rfl ?_);refine bE 3 #[.string a1_0,.string a1_1,.int .i64 a1_2,.int .i64 a1_3,.bool a1_4,.slice A1_5 l1_5.length c1_5,.string a1_6] 73 ?_;intro gb356 hg w22 hbox hb;have BK356:=As0.mk (hbox);have GW356:=As0.mk ((by rw [hg];exact (bsz (by repeat (first|(with_reducible first|exact HB.out|apply bal|apply pbN|apply bd1|refine bst ?_ GE355.out)|exact HB.out))):w.heap.size ≤ gb356));have GE356:=GW356;replace HB:=As0.mk (bsp (by repeat (first|(with_reducible first|exact HB.out|apply bal|apply pbN|apply bd1|refine bst ?_ GE355.out)|exact HB.out)) hb);have NB355_356:=As0.mk ((by rw [hg];exact Nat.ne_of_lt (blk_lt (g:=gb355) (o:=.cells #[.string a0_0,.string a0_1,.int .i64 a0_2,.int .i64 a0_3,.bool a0_4,.slice A0_5 l0_5.length c0_5,.string a0_6] 73 (0,0)) (by (with_reducible repeat (first|refine bkN ?_ _|refine bkD ?_|refine bkA ?_ _));exact BK355.out)):gb355 ≠ gb356));have NB356_355:=As0.mk (Ne.symm NB355_356.out);replace BK355:=As0.mk (bb hb BK355.out);clear hb hbox hg;have hnb23:=NB355_356.out;have hnc23:=NB356_355.out;obtain ⟨hcz24_0,hcz24_1,hcz24_2,hcz24_3,hcz24_4,hcz24_5,hcz24_6⟩:=qc7 BK355.out;obtain ⟨hfz24_0,hfz24_1,hfz24_2,hfz24_3,hfz24_4,hfz24_5,hfz24_6⟩:=qz7 BK355.out;obtain ⟨hcz25_0,hcz25_1,hcz25_2,hcz25_3,hcz25_4,hcz25_5,hcz25_6⟩:=qc7 BK356.out;obtain ⟨hfz25_0,hfz25_1,hfz25_2,hfz25_3,hfz25_4,hfz25_5,hfz25_6⟩:=qz7 BK356.out)|((with_reducible refine gca (f:=75) rfl ?_);refine gL (some 34) Tryd.func75 #[.slice A0_5 l0_5.length c0_5,.slice A1_5 l1_5.length c1_5] ?_;(with_reducible refine (laws_eqStringS.calls k _ _ l0_5 _ _ l1_5 true _ ?side1 ?side2 ?side3 ?side4 A13.out).mono ?_);(case side1=>repeat (first|exact (Kd.C_below HR0_5.out HB.out)|(with_reducible first|refine Kd.C_alloc ?_ _|refine Kd.C_drewN ?_ _|refine Kd.C_drew ?_)));(case side2=>exact HC0_5.out);(case side3=>repeat (first|exact (Kd.C_below HR1_5.out HB.out)|(with_reducible first|refine Kd.C_alloc ?_ _|refine Kd.C_drewN ?_ _|refine Kd.C_drew ?_)));(case side4=>exact HC1_5.out);rintro e w' ⟨rfl,⟨nd,rfl⟩⟩;refine ⟨_,rfl,?_⟩))
               go_ret
               exact ⟨eW,by repeat (first|(with_reducible first|exact HB.out|apply bal|apply pbN|apply bd1|refine bst ?_ GE355.out|refine bst ?_ GE356.out)|exact HB.out)⟩
           · replace c14:=Bool.eq_false_iff.mpr c14
             subst c14;have H1:(some false) = some r:=by rw [if_neg (show ¬ (false = true) by decide)] at H;exact H
             clear H;have H:=H1;clear H1;obtain rfl:=Option.some.inj H
             go_enter Tryd.func56,Tryd.ntmps56
             go_wp2_with (first|((with_reducible refine gate_dst (N:=2) rfl ?_);refine bE 2 #[.string a0_0,.string a0_1,.int .i64 a0_2,.int .i64 a0_3,.bool a0_4,.slice A0_5 l0_5.length c0_5,.string a0_6] 73 ?_;intro gb355 hg w26 hbox hb;have BK355:=As0.mk (hbox);have GW355:=As0.mk ((by rw [hg];exact (bsz (by repeat (first|(with_reducible first|exact HB.out|apply bal|apply pbN|apply bd1)|exact HB.out))):w.heap.size ≤ gb355));have GE355:=GW355;replace HB:=As0.mk (b3 HB.out hb);clear hb hbox hg)|((with_reducible refine gate_dst (N:=3) rfl ?_);refine bE 3 #[.string a1_0,.string a1_1,.int .i64 a1_2,.int .i64 a1_3,.bool a1_4,.slice A1_5 l1_5.length c1_5,.string a1_6] 73 ?_;intro gb356 hg w27 hbox hb;have BK356:=As0.mk (hbox);have GW356:=As0.mk ((by rw [hg];exact (bsz (by repeat (first|(with_reducible first|exact HB.out|apply bal|apply pbN|apply bd1|refine bst ?_ GE355.out)|exact HB.out))):w.heap.size ≤ gb356));have GE356:=GW356;replace HB:=As0.mk (bsp (by repeat (first|(with_reducible first|exact HB.out|apply bal|apply pbN|apply bd1|refine bst ?_ GE355.out)|exact HB.out)) hb);have NB355_356:=As0.mk ((by rw [hg];exact Nat.ne_of_lt (blk_lt (g:=gb355) (o:=.cells #[.string a0_0,.string a0_1,.int .i64 a0_2,.int .i64 a0_3,.bool a0_4,.slice A0_5 l0_5.length c0_5,.string a0_6] 73 (0,0)) (by (with_reducible repeat (first|refine bkN ?_ _|refine bkD ?_|refine bkA ?_ _));exact BK355.out)):gb355 ≠ gb356));have NB356_355:=As0.mk (Ne.symm NB355_356.out);replace BK355:=As0.mk (bb hb BK355.out);clear hb hbox hg;have hnb28:=NB355_356.out;have hnc28:=NB356_355.out;obtain ⟨hcz29_0,hcz29_1,hcz29_2,hcz29_3,hcz29_4,hcz29_5,hcz29_6⟩:=qc7 BK355.out;obtain ⟨hfz29_0,hfz29_1,hfz29_2,hfz29_3,hfz29_4,hfz29_5,hfz29_6⟩:=qz7 BK355.out;obtain ⟨hcz30_0,hcz30_1,hcz30_2,hcz30_3,hcz30_4,hcz30_5,hcz30_6⟩:=qc7 BK356.out;obtain ⟨hfz30_0,hfz30_1,hfz30_2,hfz30_3,hfz30_4,hfz30_5,hfz30_6⟩:=qz7 BK356.out)|((with_reducible refine gca (f:=75) rfl ?_);refine gL (some 34) Tryd.func75 #[.slice A0_5 l0_5.length c0_5,.slice A1_5 l1_5.length c1_5] ?_;(with_reducible refine (laws_eqStringS.calls k _ _ l0_5 _ _ l1_5 false _ ?side1 ?side2 ?side3 ?side4 A13.out).mono ?_);(case side1=>repeat (first|exact (Kd.C_below HR0_5.out HB.out)|(with_reducible first|refine Kd.C_alloc ?_ _|refine Kd.C_drewN ?_ _|refine Kd.C_drew ?_)));(case side2=>exact HC0_5.out);(case side3=>repeat (first|exact (Kd.C_below HR1_5.out HB.out)|(with_reducible first|refine Kd.C_alloc ?_ _|refine Kd.C_drewN ?_ _|refine Kd.C_drew ?_)));(case side4=>exact HC1_5.out);rintro e w' ⟨rfl,⟨nd,rfl⟩⟩;refine ⟨_,rfl,?_⟩))
             go_ret
             exact ⟨eW,by repeat (first|(with_reducible first|exact HB.out|apply bal|apply pbN|apply bd1|refine bst ?_ GE355.out|refine bst ?_ GE356.out)|exact HB.out)⟩
       · rw [if_neg c6] at H
         have c6b0:(a0_3 == a1_3) = false:=beq_eq_false_iff_ne.mpr c6;have c6b1:(a0_3 != a1_3) = true:=bne_iff_ne.mpr c6;obtain rfl:=Option.some.inj H
         go_enter Tryd.func56,Tryd.ntmps56
         go_wp2_with (first|((with_reducible refine gate_dst (N:=2) rfl ?_);refine bE 2 #[.string a0_0,.string a0_1,.int .i64 a0_2,.int .i64 a0_3,.bool a0_4,.slice A0_5 l0_5.length c0_5,.string a0_6] 73 ?_;intro gb355 hg w31 hbox hb;have BK355:=As0.mk (hbox);have GW355:=As0.mk ((by rw [hg];exact (bsz (by repeat (first|(with_reducible first|exact HB.out|apply bal|apply pbN|apply bd1)|exact HB.out))):w.heap.size ≤ gb355));have GE355:=GW355;replace HB:=As0.mk (b3 HB.out hb);clear hb hbox hg)|((with_reducible refine gate_dst (N:=3) rfl ?_);refine bE 3 #[.string a1_0,.string a1_1,.int .i64 a1_2,.int .i64 a1_3,.bool a1_4,.slice A1_5 l1_5.length c1_5,.string a1_6] 73 ?_;intro gb356 hg w32 hbox hb;have BK356:=As0.mk (hbox);have GW356:=As0.mk ((by rw [hg];exact (bsz (by repeat (first|(with_reducible first|exact HB.out|apply bal|apply pbN|apply bd1|refine bst ?_ GE355.out)|exact HB.out))):w.heap.size ≤ gb356));have GE356:=GW356;replace HB:=As0.mk (bsp (by repeat (first|(with_reducible first|exact HB.out|apply bal|apply pbN|apply bd1|refine bst ?_ GE355.out)|exact HB.out)) hb);have NB355_356:=As0.mk ((by rw [hg];exact Nat.ne_of_lt (blk_lt (g:=gb355) (o:=.cells #[.string a0_0,.string a0_1,.int .i64 a0_2,.int .i64 a0_3,.bool a0_4,.slice A0_5 l0_5.length c0_5,.string a0_6] 73 (0,0)) (by (with_reducible repeat (first|refine bkN ?_ _|refine bkD ?_|refine bkA ?_ _));exact BK355.out)):gb355 ≠ gb356));have NB356_355:=As0.mk (Ne.symm NB355_356.out);replace BK355:=As0.mk (bb hb BK355.out);clear hb hbox hg;have hnb33:=NB355_356.out;have hnc33:=NB356_355.out;obtain ⟨hcz34_0,hcz34_1,hcz34_2,hcz34_3,hcz34_4,hcz34_5,hcz34_6⟩:=qc7 BK355.out;obtain ⟨hfz34_0,hfz34_1,hfz34_2,hfz34_3,hfz34_4,hfz34_5,hfz34_6⟩:=qz7 BK355.out;obtain ⟨hcz35_0,hcz35_1,hcz35_2,hcz35_3,hcz35_4,hcz35_5,hcz35_6⟩:=qc7 BK356.out;obtain ⟨hfz35_0,hfz35_1,hfz35_2,hfz35_3,hfz35_4,hfz35_5,hfz35_6⟩:=qz7 BK356.out))
         go_ret
         exact ⟨eW,by repeat (first|(with_reducible first|exact HB.out|apply bal|apply pbN|apply bd1|refine bst ?_ GE355.out|refine bst ?_ GE356.out)|exact HB.out)⟩
     · rw [if_neg c5] at H
       have c5b0:(a0_2 == a1_2) = false:=beq_eq_false_iff_ne.mpr c5;have c5b1:(a0_2 != a1_2) = true:=bne_iff_ne.mpr c5;obtain rfl:=Option.some.inj H
       go_enter Tryd.func56,Tryd.ntmps56
       go_wp2_with (first|((with_reducible refine gate_dst (N:=2) rfl ?_);refine bE 2 #[.string a0_0,.string a0_1,.int .i64 a0_2,.int .i64 a0_3,.bool a0_4,.slice A0_5 l0_5.length c0_5,.string a0_6] 73 ?_;intro gb355 hg w36 hbox hb;have BK355:=As0.mk (hbox);have GW355:=As0.mk ((by rw [hg];exact (bsz (by repeat (first|(with_reducible first|exact HB.out|apply bal|apply pbN|apply bd1)|exact HB.out))):w.heap.size ≤ gb355));have GE355:=GW355;replace HB:=As0.mk (b3 HB.out hb);clear hb hbox hg)|((with_reducible refine gate_dst (N:=3) rfl ?_);refine bE 3 #[.string a1_0,.string a1_1,.int .i64 a1_2,.int .i64 a1_3,.bool a1_4,.slice A1_5 l1_5.length c1_5,.string a1_6] 73 ?_;intro gb356 hg w37 hbox hb;have BK356:=As0.mk (hbox);have GW356:=As0.mk ((by rw [hg];exact (bsz (by repeat (first|(with_reducible first|exact HB.out|apply bal|apply pbN|apply bd1|refine bst ?_ GE355.out)|exact HB.out))):w.heap.size ≤ gb356));have GE356:=GW356;replace HB:=As0.mk (bsp (by repeat (first|(with_reducible first|exact HB.out|apply bal|apply pbN|apply bd1|refine bst ?_ GE355.out)|exact HB.out)) hb);have NB355_356:=As0.mk ((by rw [hg];exact Nat.ne_of_lt (blk_lt (g:=gb355) (o:=.cells #[.string a0_0,.string a0_1,.int .i64 a0_2,.int .i64 a0_3,.bool a0_4,.slice A0_5 l0_5.length c0_5,.string a0_6] 73 (0,0)) (by (with_reducible repeat (first|refine bkN ?_ _|refine bkD ?_|refine bkA ?_ _));exact BK355.out)):gb355 ≠ gb356));have NB356_355:=As0.mk (Ne.symm NB355_356.out);replace BK355:=As0.mk (bb hb BK355.out);clear hb hbox hg;have hnb38:=NB355_356.out;have hnc38:=NB356_355.out;obtain ⟨hcz39_0,hcz39_1,hcz39_2,hcz39_3,hcz39_4,hcz39_5,hcz39_6⟩:=qc7 BK355.out;obtain ⟨hfz39_0,hfz39_1,hfz39_2,hfz39_3,hfz39_4,hfz39_5,hfz39_6⟩:=qz7 BK355.out;obtain ⟨hcz40_0,hcz40_1,hcz40_2,hcz40_3,hcz40_4,hcz40_5,hcz40_6⟩:=qc7 BK356.out;obtain ⟨hfz40_0,hfz40_1,hfz40_2,hfz40_3,hfz40_4,hfz40_5,hfz40_6⟩:=qz7 BK356.out))
       go_ret
       exact ⟨eW,by repeat (first|(with_reducible first|exact HB.out|apply bal|apply pbN|apply bd1|refine bst ?_ GE355.out|refine bst ?_ GE356.out)|exact HB.out)⟩
   · rw [if_neg c4] at H
     have c4b0:(a0_1.toList == a1_1.toList) = false:=beq_eq_false_iff_ne.mpr c4;have c4b1:(a0_1.toList != a1_1.toList) = true:=bne_iff_ne.mpr c4;obtain rfl:=Option.some.inj H
     go_enter Tryd.func56,Tryd.ntmps56
     go_wp2_with (first|((with_reducible refine gate_dst (N:=2) rfl ?_);refine bE 2 #[.string a0_0,.string a0_1,.int .i64 a0_2,.int .i64 a0_3,.bool a0_4,.slice A0_5 l0_5.length c0_5,.string a0_6] 73 ?_;intro gb355 hg w41 hbox hb;have BK355:=As0.mk (hbox);have GW355:=As0.mk ((by rw [hg];exact (bsz (by repeat (first|(with_reducible first|exact HB.out|apply bal|apply pbN|apply bd1)|exact HB.out))):w.heap.size ≤ gb355));have GE355:=GW355;replace HB:=As0.mk (b3 HB.out hb);clear hb hbox hg)|((with_reducible refine gate_dst (N:=3) rfl ?_);refine bE 3 #[.string a1_0,.string a1_1,.int .i64 a1_2,.int .i64 a1_3,.bool a1_4,.slice A1_5 l1_5.length c1_5,.string a1_6] 73 ?_;intro gb356 hg w42 hbox hb;have BK356:=As0.mk (hbox);have GW356:=As0.mk ((by rw [hg];exact (bsz (by repeat (first|(with_reducible first|exact HB.out|apply bal|apply pbN|apply bd1|refine bst ?_ GE355.out)|exact HB.out))):w.heap.size ≤ gb356));have GE356:=GW356;replace HB:=As0.mk (bsp (by repeat (first|(with_reducible first|exact HB.out|apply bal|apply pbN|apply bd1|refine bst ?_ GE355.out)|exact HB.out)) hb);have NB355_356:=As0.mk ((by rw [hg];exact Nat.ne_of_lt (blk_lt (g:=gb355) (o:=.cells #[.string a0_0,.string a0_1,.int .i64 a0_2,.int .i64 a0_3,.bool a0_4,.slice A0_5 l0_5.length c0_5,.string a0_6] 73 (0,0)) (by (with_reducible repeat (first|refine bkN ?_ _|refine bkD ?_|refine bkA ?_ _));exact BK355.out)):gb355 ≠ gb356));have NB356_355:=As0.mk (Ne.symm NB355_356.out);replace BK355:=As0.mk (bb hb BK355.out);clear hb hbox hg;have hnb43:=NB355_356.out;have hnc43:=NB356_355.out;obtain ⟨hcz44_0,hcz44_1,hcz44_2,hcz44_3,hcz44_4,hcz44_5,hcz44_6⟩:=qc7 BK355.out;obtain ⟨hfz44_0,hfz44_1,hfz44_2,hfz44_3,hfz44_4,hfz44_5,hfz44_6⟩:=qz7 BK355.out;obtain ⟨hcz45_0,hcz45_1,hcz45_2,hcz45_3,hcz45_4,hcz45_5,hcz45_6⟩:=qc7 BK356.out;obtain ⟨hfz45_0,hfz45_1,hfz45_2,hfz45_3,hfz45_4,hfz45_5,hfz45_6⟩:=qz7 BK356.out))
     go_ret
     exact ⟨eW,by repeat (first|(with_reducible first|exact HB.out|apply bal|apply pbN|apply bd1|refine bst ?_ GE355.out|refine bst ?_ GE356.out)|exact HB.out)⟩
 · rw [if_neg c3] at H
   have c3b0:(a0_0.toList == a1_0.toList) = false:=beq_eq_false_iff_ne.mpr c3;have c3b1:(a0_0.toList != a1_0.toList) = true:=bne_iff_ne.mpr c3;obtain rfl:=Option.some.inj H
   go_enter Tryd.func56,Tryd.ntmps56
   go_wp2_with (first|((with_reducible refine gate_dst (N:=2) rfl ?_);refine bE 2 #[.string a0_0,.string a0_1,.int .i64 a0_2,.int .i64 a0_3,.bool a0_4,.slice A0_5 l0_5.length c0_5,.string a0_6] 73 ?_;intro gb355 hg w46 hbox hb;have BK355:=As0.mk (hbox);have GW355:=As0.mk ((by rw [hg];exact (bsz (by repeat (first|(with_reducible first|exact HB.out|apply bal|apply pbN|apply bd1)|exact HB.out))):w.heap.size ≤ gb355));have GE355:=GW355;replace HB:=As0.mk (b3 HB.out hb);clear hb hbox hg)|((with_reducible refine gate_dst (N:=3) rfl ?_);refine bE 3 #[.string a1_0,.string a1_1,.int .i64 a1_2,.int .i64 a1_3,.bool a1_4,.slice A1_5 l1_5.length c1_5,.string a1_6] 73 ?_;intro gb356 hg w47 hbox hb;have BK356:=As0.mk (hbox);have GW356:=As0.mk ((by rw [hg];exact (bsz (by repeat (first|(with_reducible first|exact HB.out|apply bal|apply pbN|apply bd1|refine bst ?_ GE355.out)|exact HB.out))):w.heap.size ≤ gb356));have GE356:=GW356;replace HB:=As0.mk (bsp (by repeat (first|(with_reducible first|exact HB.out|apply bal|apply pbN|apply bd1|refine bst ?_ GE355.out)|exact HB.out)) hb);have NB355_356:=As0.mk ((by rw [hg];exact Nat.ne_of_lt (blk_lt (g:=gb355) (o:=.cells #[.string a0_0,.string a0_1,.int .i64 a0_2,.int .i64 a0_3,.bool a0_4,.slice A0_5 l0_5.length c0_5,.string a0_6] 73 (0,0)) (by (with_reducible repeat (first|refine bkN ?_ _|refine bkD ?_|refine bkA ?_ _));exact BK355.out)):gb355 ≠ gb356));have NB356_355:=As0.mk (Ne.symm NB355_356.out);replace BK355:=As0.mk (bb hb BK355.out);clear hb hbox hg;have hnb48:=NB355_356.out;have hnc48:=NB356_355.out;obtain ⟨hcz49_0,hcz49_1,hcz49_2,hcz49_3,hcz49_4,hcz49_5,hcz49_6⟩:=qc7 BK355.out;obtain ⟨hfz49_0,hfz49_1,hfz49_2,hfz49_3,hfz49_4,hfz49_5,hfz49_6⟩:=qz7 BK355.out;obtain ⟨hcz50_0,hcz50_1,hcz50_2,hcz50_3,hcz50_4,hcz50_5,hcz50_6⟩:=qc7 BK356.out;obtain ⟨hfz50_0,hfz50_1,hfz50_2,hfz50_3,hfz50_4,hfz50_5,hfz50_6⟩:=qz7 BK356.out))
   go_ret
   exact ⟨eW,by repeat (first|(with_reducible first|exact HB.out|apply bal|apply pbN|apply bd1|refine bst ?_ GE355.out|refine bst ?_ GE356.out)|exact HB.out)⟩
def laws_eqThingS.l0:Nat → List (SiT29) → List (SiT29) → Int → Option (Bool)
 |0,_,_,_=>none
 |k + 1,x0,x1,x5=>if x5 < (x0.length:Int) then (if 0 ≤ x5 then (if x5 < (x1.length:Int) then ((laws_eqThing.f k ((riT38 x0 x5).f0) ((riT38 x0 x5).f1) ((riT38 x0 x5).f2) ((riT38 x0 x5).f3) ((riT38 x0 x5).f4) ((riT38 x0 x5).f5) ((riT38 x0 x5).f6) ((riT38 x1 x5).f0) ((riT38 x1 x5).f1) ((riT38 x1 x5).f2) ((riT38 x1 x5).f3) ((riT38 x1 x5).f4) ((riT38 x1 x5).f5) ((riT38 x1 x5).f6)).bind fun t360=>(if t360 = true then (laws_eqThingS.l0 k x0 x1 (wrap64 (x5 + 1))) else (some false))) else (none)) else (none)) else (some true)
def laws_eqThingS.f (k:Nat) (l0:List (SiT29)) (l1:List (SiT29)):Option (Bool):=if (l0.length:Int) = (l1.length:Int) then (laws_eqThingS.l0 k l0 l1 0) else (some false)
def laws_eqThingS.T6:Bool × List (List Nat × List Nat):=(true,[([],[]),([],[]),([0,1],[0,1]),([2],[2]),([],[]),([],[]),([4,5],[4,5]),([6],[6]),([3,7],[3,7]),([8],[8])])
def laws_eqThingS.B6:List Nat:=[0,0,3,7,0,0,48,112,255,511]
theorem laws_eqThingS.tab6:rtab .any (opsOf Tryd.f26 6) = laws_eqThingS.T6:=by kernel_rfl
theorem laws_eqThingS.bits6:waitsOk laws_eqThingS.T6.2 laws_eqThingS.B6 = true:=by kernel_rfl
set_option maxHeartbeats 40000000 in
set_option maxRecDepth 100000 in
theorem laws_eqThingS.calls (k:Nat) (A0:Option Addr) (c0:Nat) (l0:List (SiT29)) (A1:Option Addr) (c1:Nat) (l1:List (SiT29)) (r:Bool) (w:World) (hr0:Kd.C k73 w A0 l0.length l0) (hc0:l0.length ≤ c0) (hr1:Kd.C k73 w A1 l1.length l1) (hc1:l1.length ≤ c1) (h:laws_eqThingS.f k l0 l1 = some r) :
 Calls Tryd.prog 26 #[.slice A0 l0.length c0,.slice A1 l1.length c1] w fun e w'=>e = .returned (.bool r) ∧ Below w.heap.size w w':=by
 have hu73:=Tryd.underlying73;have HR0:=As0.mk hr0;have HC0:=As0.mk hc0;clear hr0 hc0;have HR1:=As0.mk hr1;have HC1:=As0.mk hc1;clear hr1 hc1;have HB:=As0.mk (Below.refl w.heap.size w);have H:(if (l0.length:Int) = (l1.length:Int) then (laws_eqThingS.l0 k l0 l1 0) else (some false)) = some r:=h;clear h;by_cases c3:(l0.length:Int) = (l1.length:Int)
 · rw [if_pos c3] at H
   have c3b0:((l0.length:Int) == (l1.length:Int)) = true:=beq_iff_eq.mpr c3;have c3b1:((l0.length:Int) != (l1.length:Int)) = false:=bne_eq_false_iff_eq.mpr c3;have c3b2:(l0.length == l1.length) = true:=by first|simpa using c3|(simp at c3 ⊢;omega)
   clear c3;have H':=As0.mk H;clear H
   go_enter Tryd.func26,Tryd.ntmps26
   go_wp2
   show _;go_loopg [5] k (fun kq v5 w'=>∃ (x5_1:Int),v5 = .int .i64 x5_1 ∧ As0 (laws_eqThingS.l0 kq l0 l1 x5_1 = some r) ∧ As0 (kq ≤ k) ∧ As0 (Below w.heap.size w w'))
   case atStart=>exact ⟨(0),(by first|rfl|(simp;done)|(simp [*];done)),H',⟨Nat.le_refl _⟩,⟨by repeat (first|(with_reducible first|exact HB.out|apply bal|apply pbN|apply bd1)|exact HB.out)⟩⟩
   case round=>
    clear H'
    try clear c1
    try clear c2
    try clear p2
    try clear c3
    try clear c3b0
    try clear c3b1
    try clear c3b2
    obtain ⟨x5_1,rfl,HA,HK1,HB⟩:=hrel
    cases gk with
    |zero=>exact absurd HA.out (by simp [laws_eqThingS.l0])
    |succ k1=>
     have H:=HA.out;clear HA;simp only [laws_eqThingS.l0] at H;by_cases c4:x5_1 < (l0.length:Int)
     · rw [if_pos c4] at H
       have c4b0:decide (x5_1 < (l0.length:Int)) = true:=decide_eq_true c4;clear c4;by_cases c5:0 ≤ x5_1
       · rw [if_pos c5] at H
         have c5b0:decide (0 ≤ x5_1) = true:=decide_eq_true c5;clear c5;by_cases c6:x5_1 < (l1.length:Int)
         · rw [if_pos c6] at H
           have c6b0:decide (x5_1 < (l1.length:Int)) = true:=decide_eq_true c6;clear c6;replace H:=Option.bind_eq_some_iff.mp H;obtain ⟨t360,A70,H⟩:=H;(try dsimp only at H);have A7:=As0.mk A70;clear A70;by_cases c8:t360 = true
           · subst c8
             have H1:(laws_eqThingS.l0 k1 l0 l1 (wrap64 (x5_1 + 1))) = some r:=by rw [if_pos rfl] at H;exact H
             clear H;have H:=H1;clear H1;have H':=As0.mk H;clear H
             try go_wp2
             replace HB:=As0.mk (bd1 HB.out);have p358:0 ≤ (x5_1:Int):=odt;have q358:x5_1 < (l0.length:Int):=odt;obtain ⟨ad358,A358_5,c358_5,e358,hx358_0,hx358_1,hx358_2,hx358_3,hx358_4,hx358_5,hx358_6,hl358_5,hi358_5⟩:=at_T73 HR0.out x5_1 p358 q358;have hw358_6:=hx358_6;have hw358_5:=hx358_5;have hw358_4:=hx358_4;have hw358_3:=hx358_3;have hw358_2:=hx358_2;have hw358_1:=hx358_1;have hw358_0:=hx358_0
             cases e358
             replace hx358_0:=bx HB.out rfl hx358_0;replace hx358_1:=bx HB.out rfl hx358_1;replace hx358_2:=bx HB.out rfl hx358_2;replace hx358_3:=bx HB.out rfl hx358_3;replace hx358_4:=bx HB.out rfl hx358_4;replace hx358_5:=bx HB.out rfl hx358_5;replace hx358_6:=bx HB.out rfl hx358_6;have HR358_5:=As0.mk hi358_5;have HC358_5:=As0.mk hl358_5;clear hi358_5 hl358_5;replace p358:=eq_true p358;replace q358:=eq_true q358;have p359:0 ≤ (x5_1:Int):=odt;have q359:x5_1 < (l1.length:Int):=odt;obtain ⟨ad359,A359_5,c359_5,e359,hx359_0,hx359_1,hx359_2,hx359_3,hx359_4,hx359_5,hx359_6,hl359_5,hi359_5⟩:=at_T73 HR1.out x5_1 p359 q359;have hw359_6:=hx359_6;have hw359_5:=hx359_5;have hw359_4:=hx359_4;have hw359_3:=hx359_3;have hw359_2:=hx359_2;have hw359_1:=hx359_1;have hw359_0:=hx359_0
             cases e359
             replace hx359_0:=bx HB.out rfl hx359_0;replace hx359_1:=bx HB.out rfl hx359_1;replace hx359_2:=bx HB.out rfl hx359_2;replace hx359_3:=bx HB.out rfl hx359_3;replace hx359_4:=bx HB.out rfl hx359_4;replace hx359_5:=bx HB.out rfl hx359_5;replace hx359_6:=bx HB.out rfl hx359_6;have HR359_5:=As0.mk hi359_5;have HC359_5:=As0.mk hl359_5;clear hi359_5 hl359_5;replace p359:=eq_true p359;replace q359:=eq_true q359;refine start_ (n:=10) (S:=fun w'=>w'.cell? (ad358.add ((x5_1).toNat * 7)) = some (.string ((riT38 l0 x5_1).f0)) ∧ w'.cell? ⟨(ad358.add ((x5_1).toNat * 7)).block,(ad358.add ((x5_1).toNat * 7)).off + 1,none⟩ = some (.string ((riT38 l0 x5_1).f1)) ∧ w'.cell? ⟨(ad358.add ((x5_1).toNat * 7)).block,(ad358.add ((x5_1).toNat * 7)).off + 2,none⟩ = some (.int .i64 ((riT38 l0 x5_1).f2)) ∧ w'.cell? ⟨(ad358.add ((x5_1).toNat * 7)).block,(ad358.add ((x5_1).toNat * 7)).off + 3,none⟩ = some (.int .i64 ((riT38 l0 x5_1).f3)) ∧ w'.cell? ⟨(ad358.add ((x5_1).toNat * 7)).block,(ad358.add ((x5_1).toNat * 7)).off + 4,none⟩ = some (.bool ((riT38 l0 x5_1).f4)) ∧ w'.cell? ⟨(ad358.add ((x5_1).toNat * 7)).block,(ad358.add ((x5_1).toNat * 7)).off + 5,none⟩ = some (.slice A358_5 ((riT38 l0 x5_1).f5).length c358_5) ∧ w'.cell? ⟨(ad358.add ((x5_1).toNat * 7)).block,(ad358.add ((x5_1).toNat * 7)).off + 6,none⟩ = some (.string ((riT38 l0 x5_1).f6)) ∧ w'.cell? (ad359.add ((x5_1).toNat * 7)) = some (.string ((riT38 l1 x5_1).f0)) ∧ w'.cell? ⟨(ad359.add ((x5_1).toNat * 7)).block,(ad359.add ((x5_1).toNat * 7)).off + 1,none⟩ = some (.string ((riT38 l1 x5_1).f1)) ∧ w'.cell? ⟨(ad359.add ((x5_1).toNat * 7)).block,(ad359.add ((x5_1).toNat * 7)).off + 2,none⟩ = some (.int .i64 ((riT38 l1 x5_1).f2)) ∧ w'.cell? ⟨(ad359.add ((x5_1).toNat * 7)).block,(ad359.add ((x5_1).toNat * 7)).off + 3,none⟩ = some (.int .i64 ((riT38 l1 x5_1).f3)) ∧ w'.cell? ⟨(ad359.add ((x5_1).toNat * 7)).block,(ad359.add ((x5_1).toNat * 7)).off + 4,none⟩ = some (.bool ((riT38 l1 x5_1).f4)) ∧ w'.cell? ⟨(ad359.add ((x5_1).toNat * 7)).block,(ad359.add ((x5_1).toNat * 7)).off + 5,none⟩ = some (.slice A359_5 ((riT38 l1 x5_1).f5).length c359_5) ∧ w'.cell? ⟨(ad359.add ((x5_1).toNat * 7)).block,(ad359.add ((x5_1).toNat * 7)).off + 6,none⟩ = some (.string ((riT38 l1 x5_1).f6))) (ds:=[]) #[false,false,false,false,false,false,false,false,false,false] (by kernel_rfl) rfl rfl ⟨((HB.out.cell (World.block_lt_of_cell? w _ hw358_0)).trans hw358_0),((HB.out.cell (World.block_lt_of_cell? w _ hw358_1)).trans hw358_1),((HB.out.cell (World.block_lt_of_cell? w _ hw358_2)).trans hw358_2),((HB.out.cell (World.block_lt_of_cell? w _ hw358_3)).trans hw358_3),((HB.out.cell (World.block_lt_of_cell? w _ hw358_4)).trans hw358_4),((HB.out.cell (World.block_lt_of_cell? w _ hw358_5)).trans hw358_5),((HB.out.cell (World.block_lt_of_cell? w _ hw358_6)).trans hw358_6),((HB.out.cell (World.block_lt_of_cell? w _ hw359_0)).trans hw359_0),((HB.out.cell (World.block_lt_of_cell? w _ hw359_1)).trans hw359_1),((HB.out.cell (World.block_lt_of_cell? w _ hw359_2)).trans hw359_2),((HB.out.cell (World.block_lt_of_cell? w _ hw359_3)).trans hw359_3),((HB.out.cell (World.block_lt_of_cell? w _ hw359_4)).trans hw359_4),((HB.out.cell (World.block_lt_of_cell? w _ hw359_5)).trans hw359_5),((HB.out.cell (World.block_lt_of_cell? w _ hw359_6)).trans hw359_6)⟩ (fun hHeld=>?_);refine with_tabW laws_eqThingS.tab6 laws_eqThingS.bits6 (fun HT_ HW_=>?_);generalize wr.drew = w9 at HB HR358_5 HR359_5 hx358_0 hx358_1 hx358_2 hx358_3 hx358_4 hx358_5 hx358_6 hx359_0 hx359_1 hx359_2 hx359_3 hx359_4 hx359_5 hx359_6 hHeld ⊢
             refine pu 0 (some 17) #[true,false,false,false,false,false,false,false,false,false] rfl rfl HT_.out ?_;refine pu 1 (some 18) #[true,true,false,false,false,false,false,false,false,false] rfl rfl HT_.out ?_;refine pu 2 (some 19) #[true,true,true,false,false,false,false,false,false,false] rfl rfl HT_.out ?_;refine pu 4 (some 21) #[true,true,true,false,true,false,false,false,false,false] rfl rfl HT_.out ?_;refine pu 5 (some 22) #[true,true,true,false,true,true,false,false,false,false] rfl rfl HT_.out ?_;refine pu 6 (some 23) #[true,true,true,false,true,true,true,false,false,false] rfl rfl HT_.out ?_;refine tk 3 (some 20) #[true,true,true,true,true,true,true,false,false,false] rfl rfl HT_.out HW_.out hHeld (by rintro w' ⟨s0,s1,s2,s3,s4,s5,s6,s7,s8,s9,s10,s11,s12,s13⟩;go_simp;with_reducible rfl) ?_;refine tk 7 (some 24) #[true,true,true,true,true,true,true,true,false,false] rfl rfl HT_.out HW_.out hHeld (by rintro w' ⟨s0,s1,s2,s3,s4,s5,s6,s7,s8,s9,s10,s11,s12,s13⟩;go_simp;with_reducible rfl) ?_;refine one_ (i:=8) (N:=some 25) #[true,true,true,true,true,true,true,true,true,false] rfl rfl (one_of HT_.out (by kernel_rfl)) (by decide) (fun K hK=>?_);refine goes_ Tryd.func56 (by kernel_rfl) rfl #[.agg #[.string ((riT38 l0 x5_1).f0),.string ((riT38 l0 x5_1).f1),.int .i64 ((riT38 l0 x5_1).f2),.int .i64 ((riT38 l0 x5_1).f3),.bool ((riT38 l0 x5_1).f4),.slice A358_5 ((riT38 l0 x5_1).f5).length c358_5,.string ((riT38 l0 x5_1).f6)],.agg #[.string ((riT38 l1 x5_1).f0),.string ((riT38 l1 x5_1).f1),.int .i64 ((riT38 l1 x5_1).f2),.int .i64 ((riT38 l1 x5_1).f3),.bool ((riT38 l1 x5_1).f4),.slice A359_5 ((riT38 l1 x5_1).f5).length c359_5,.string ((riT38 l1 x5_1).f6)]] (by rfl) rfl rfl (by (try simp only [List.map_toArray,List.map_cons,List.map_nil]);first|done|rfl|(simp only [List.length_drop,List.length_take];rfl)) ?_;with_reducible refine (laws_eqThing.calls k1 ((riT38 l0 x5_1).f0) ((riT38 l0 x5_1).f1) ((riT38 l0 x5_1).f2) ((riT38 l0 x5_1).f3) ((riT38 l0 x5_1).f4) _ _ ((riT38 l0 x5_1).f5) ((riT38 l0 x5_1).f6) ((riT38 l1 x5_1).f0) ((riT38 l1 x5_1).f1) ((riT38 l1 x5_1).f2) ((riT38 l1 x5_1).f3) ((riT38 l1 x5_1).f4) _ _ ((riT38 l1 x5_1).f5) ((riT38 l1 x5_1).f6) true _ ?side1 ?side2 ?side3 ?side4 A7.out).mono ?_
             (case side1=>repeat (first|exact (Kd.C_below HR358_5.out HB.out)|(with_reducible first|refine Kd.C_alloc ?_ _|refine Kd.C_drewN ?_ _|refine Kd.C_drew ?_)))
             (case side2=>exact HC358_5.out)
             (case side3=>repeat (first|exact (Kd.C_below HR359_5.out HB.out)|(with_reducible first|refine Kd.C_alloc ?_ _|refine Kd.C_drewN ?_ _|refine Kd.C_drew ?_)))
             (case side4=>exact HC359_5.out)
             rintro e w10 ⟨rfl,hb⟩;refine ⟨_,rfl,?_⟩;replace HB:=As0.mk (b3 HB.out hb)
                
                
                
                
             refine hK.out _ _ ⟨((HB.out.cell (World.block_lt_of_cell? w _ hw358_0)).trans hw358_0),((HB.out.cell (World.block_lt_of_cell? w _ hw358_1)).trans hw358_1),((HB.out.cell (World.block_lt_of_cell? w _ hw358_2)).trans hw358_2),((HB.out.cell (World.block_lt_of_cell? w _ hw358_3)).trans hw358_3),((HB.out.cell (World.block_lt_of_cell? w _ hw358_4)).trans hw358_4),((HB.out.cell (World.block_lt_of_cell? w _ hw358_5)).trans hw358_5),((HB.out.cell (World.block_lt_of_cell? w _ hw358_6)).trans hw358_6),((HB.out.cell (World.block_lt_of_cell? w _ hw359_0)).trans hw359_0),((HB.out.cell (World.block_lt_of_cell? w _ hw359_1)).trans hw359_1),((HB.out.cell (World.block_lt_of_cell? w _ hw359_2)).trans hw359_2),((HB.out.cell (World.block_lt_of_cell? w _ hw359_3)).trans hw359_3),((HB.out.cell (World.block_lt_of_cell? w _ hw359_4)).trans hw359_4),((HB.out.cell (World.block_lt_of_cell? w _ hw359_5)).trans hw359_5),((HB.out.cell (World.block_lt_of_cell? w _ hw359_6)).trans hw359_6)⟩ (fun hHeld=>?_);clear hK K;refine norm_ (a':=?_) ?_ ?_;rotate_left
             · show Act.put _ (some 25) _ = _
               simp only [Act.put,sA,sZ,sS,i64_w,i32_w];rfl
             refine pu 9 (some 26) #[true,true,true,true,true,true,true,true,true,true] rfl rfl HT_.out ?_;refine done_ (done_of HT_.out (by kernel_rfl)) ?_
             try go_wp2
             show _;go_roundg k1
             case measure=>have:=HK1.out;omega
             case rel=>exact ⟨(wrap64 (x5_1 + 1)),(by first|rfl|(simp;done)|(simp [*];done)),H',⟨by have:=HK1.out;omega⟩,⟨by repeat (first|(with_reducible first|exact HB.out|apply bal|apply pbN|apply bd1)|exact HB.out)⟩⟩
           · replace c8:=Bool.eq_false_iff.mpr c8
             subst c8;have H1:(some false) = some r:=by rw [if_neg (show ¬ (false = true) by decide)] at H;exact H
             clear H;have H:=H1;clear H1;obtain rfl:=Option.some.inj H
             try go_wp2
             replace HB:=As0.mk (bd1 HB.out);have p358:0 ≤ (x5_1:Int):=odt;have q358:x5_1 < (l0.length:Int):=odt;obtain ⟨ad358,A358_5,c358_5,e358,hx358_0,hx358_1,hx358_2,hx358_3,hx358_4,hx358_5,hx358_6,hl358_5,hi358_5⟩:=at_T73 HR0.out x5_1 p358 q358;have hw358_6:=hx358_6;have hw358_5:=hx358_5;have hw358_4:=hx358_4;have hw358_3:=hx358_3;have hw358_2:=hx358_2;have hw358_1:=hx358_1;have hw358_0:=hx358_0
             cases e358
             replace hx358_0:=bx HB.out rfl hx358_0;replace hx358_1:=bx HB.out rfl hx358_1;replace hx358_2:=bx HB.out rfl hx358_2;replace hx358_3:=bx HB.out rfl hx358_3;replace hx358_4:=bx HB.out rfl hx358_4;replace hx358_5:=bx HB.out rfl hx358_5;replace hx358_6:=bx HB.out rfl hx358_6;have HR358_5:=As0.mk hi358_5;have HC358_5:=As0.mk hl358_5;clear hi358_5 hl358_5;replace p358:=eq_true p358;replace q358:=eq_true q358;have p359:0 ≤ (x5_1:Int):=odt;have q359:x5_1 < (l1.length:Int):=odt;obtain ⟨ad359,A359_5,c359_5,e359,hx359_0,hx359_1,hx359_2,hx359_3,hx359_4,hx359_5,hx359_6,hl359_5,hi359_5⟩:=at_T73 HR1.out x5_1 p359 q359;have hw359_6:=hx359_6;have hw359_5:=hx359_5;have hw359_4:=hx359_4;have hw359_3:=hx359_3;have hw359_2:=hx359_2;have hw359_1:=hx359_1;have hw359_0:=hx359_0
             cases e359
             replace hx359_0:=bx HB.out rfl hx359_0;replace hx359_1:=bx HB.out rfl hx359_1;replace hx359_2:=bx HB.out rfl hx359_2;replace hx359_3:=bx HB.out rfl hx359_3;replace hx359_4:=bx HB.out rfl hx359_4;replace hx359_5:=bx HB.out rfl hx359_5;replace hx359_6:=bx HB.out rfl hx359_6;have HR359_5:=As0.mk hi359_5;have HC359_5:=As0.mk hl359_5;clear hi359_5 hl359_5;replace p359:=eq_true p359;replace q359:=eq_true q359;refine start_ (n:=10) (S:=fun w'=>w'.cell? (ad358.add ((x5_1).toNat * 7)) = some (.string ((riT38 l0 x5_1).f0)) ∧ w'.cell? ⟨(ad358.add ((x5_1).toNat * 7)).block,(ad358.add ((x5_1).toNat * 7)).off + 1,none⟩ = some (.string ((riT38 l0 x5_1).f1)) ∧ w'.cell? ⟨(ad358.add ((x5_1).toNat * 7)).block,(ad358.add ((x5_1).toNat * 7)).off + 2,none⟩ = some (.int .i64 ((riT38 l0 x5_1).f2)) ∧ w'.cell? ⟨(ad358.add ((x5_1).toNat * 7)).block,(ad358.add ((x5_1).toNat * 7)).off + 3,none⟩ = some (.int .i64 ((riT38 l0 x5_1).f3)) ∧ w'.cell? ⟨(ad358.add ((x5_1).toNat * 7)).block,(ad358.add ((x5_1).toNat * 7)).off + 4,none⟩ = some (.bool ((riT38 l0 x5_1).f4)) ∧ w'.cell? ⟨(ad358.add ((x5_1).toNat * 7)).block,(ad358.add ((x5_1).toNat * 7)).off + 5,none⟩ = some (.slice A358_5 ((riT38 l0 x5_1).f5).length c358_5) ∧ w'.cell? ⟨(ad358.add ((x5_1).toNat * 7)).block,(ad358.add ((x5_1).toNat * 7)).off + 6,none⟩ = some (.string ((riT38 l0 x5_1).f6)) ∧ w'.cell? (ad359.add ((x5_1).toNat * 7)) = some (.string ((riT38 l1 x5_1).f0)) ∧ w'.cell? ⟨(ad359.add ((x5_1).toNat * 7)).block,(ad359.add ((x5_1).toNat * 7)).off + 1,none⟩ = some (.string ((riT38 l1 x5_1).f1)) ∧ w'.cell? ⟨(ad359.add ((x5_1).toNat * 7)).block,(ad359.add ((x5_1).toNat * 7)).off + 2,none⟩ = some (.int .i64 ((riT38 l1 x5_1).f2)) ∧ w'.cell? ⟨(ad359.add ((x5_1).toNat * 7)).block,(ad359.add ((x5_1).toNat * 7)).off + 3,none⟩ = some (.int .i64 ((riT38 l1 x5_1).f3)) ∧ w'.cell? ⟨(ad359.add ((x5_1).toNat * 7)).block,(ad359.add ((x5_1).toNat * 7)).off + 4,none⟩ = some (.bool ((riT38 l1 x5_1).f4)) ∧ w'.cell? ⟨(ad359.add ((x5_1).toNat * 7)).block,(ad359.add ((x5_1).toNat * 7)).off + 5,none⟩ = some (.slice A359_5 ((riT38 l1 x5_1).f5).length c359_5) ∧ w'.cell? ⟨(ad359.add ((x5_1).toNat * 7)).block,(ad359.add ((x5_1).toNat * 7)).off + 6,none⟩ = some (.string ((riT38 l1 x5_1).f6))) (ds:=[]) #[false,false,false,false,false,false,false,false,false,false] (by kernel_rfl) rfl rfl ⟨((HB.out.cell (World.block_lt_of_cell? w _ hw358_0)).trans hw358_0),((HB.out.cell (World.block_lt_of_cell? w _ hw358_1)).trans hw358_1),((HB.out.cell (World.block_lt_of_cell? w _ hw358_2)).trans hw358_2),((HB.out.cell (World.block_lt_of_cell? w _ hw358_3)).trans hw358_3),((HB.out.cell (World.block_lt_of_cell? w _ hw358_4)).trans hw358_4),((HB.out.cell (World.block_lt_of_cell? w _ hw358_5)).trans hw358_5),((HB.out.cell (World.block_lt_of_cell? w _ hw358_6)).trans hw358_6),((HB.out.cell (World.block_lt_of_cell? w _ hw359_0)).trans hw359_0),((HB.out.cell (World.block_lt_of_cell? w _ hw359_1)).trans hw359_1),((HB.out.cell (World.block_lt_of_cell? w _ hw359_2)).trans hw359_2),((HB.out.cell (World.block_lt_of_cell? w _ hw359_3)).trans hw359_3),((HB.out.cell (World.block_lt_of_cell? w _ hw359_4)).trans hw359_4),((HB.out.cell (World.block_lt_of_cell? w _ hw359_5)).trans hw359_5),((HB.out.cell (World.block_lt_of_cell? w _ hw359_6)).trans hw359_6)⟩ (fun hHeld=>?_);refine with_tabW laws_eqThingS.tab6 laws_eqThingS.bits6 (fun HT_ HW_=>?_);generalize wr.drew = w11 at HB HR358_5 HR359_5 hx358_0 hx358_1 hx358_2 hx358_3 hx358_4 hx358_5 hx358_6 hx359_0 hx359_1 hx359_2 hx359_3 hx359_4 hx359_5 hx359_6 hHeld ⊢
             refine pu 0 (some 17) #[true,false,false,false,false,false,false,false,false,false] rfl rfl HT_.out ?_;refine pu 1 (some 18) #[true,true,false,false,false,false,false,false,false,false] rfl rfl HT_.out ?_;refine pu 2 (some 19) #[true,true,true,false,false,false,false,false,false,false] rfl rfl HT_.out ?_;refine pu 4 (some 21) #[true,true,true,false,true,false,false,false,false,false] rfl rfl HT_.out ?_;refine pu 5 (some 22) #[true,true,true,false,true,true,false,false,false,false] rfl rfl HT_.out ?_;refine pu 6 (some 23) #[true,true,true,false,true,true,true,false,false,false] rfl rfl HT_.out ?_;refine tk 3 (some 20) #[true,true,true,true,true,true,true,false,false,false] rfl rfl HT_.out HW_.out hHeld (by rintro w' ⟨s0,s1,s2,s3,s4,s5,s6,s7,s8,s9,s10,s11,s12,s13⟩;go_simp;with_reducible rfl) ?_;refine tk 7 (some 24) #[true,true,true,true,true,true,true,true,false,false] rfl rfl HT_.out HW_.out hHeld (by rintro w' ⟨s0,s1,s2,s3,s4,s5,s6,s7,s8,s9,s10,s11,s12,s13⟩;go_simp;with_reducible rfl) ?_;refine one_ (i:=8) (N:=some 25) #[true,true,true,true,true,true,true,true,true,false] rfl rfl (one_of HT_.out (by kernel_rfl)) (by decide) (fun K hK=>?_);refine goes_ Tryd.func56 (by kernel_rfl) rfl #[.agg #[.string ((riT38 l0 x5_1).f0),.string ((riT38 l0 x5_1).f1),.int .i64 ((riT38 l0 x5_1).f2),.int .i64 ((riT38 l0 x5_1).f3),.bool ((riT38 l0 x5_1).f4),.slice A358_5 ((riT38 l0 x5_1).f5).length c358_5,.string ((riT38 l0 x5_1).f6)],.agg #[.string ((riT38 l1 x5_1).f0),.string ((riT38 l1 x5_1).f1),.int .i64 ((riT38 l1 x5_1).f2),.int .i64 ((riT38 l1 x5_1).f3),.bool ((riT38 l1 x5_1).f4),.slice A359_5 ((riT38 l1 x5_1).f5).length c359_5,.string ((riT38 l1 x5_1).f6)]] (by rfl) rfl rfl (by (try simp only [List.map_toArray,List.map_cons,List.map_nil]);first|done|rfl|(simp only [List.length_drop,List.length_take];rfl)) ?_;with_reducible refine (laws_eqThing.calls k1 ((riT38 l0 x5_1).f0) ((riT38 l0 x5_1).f1) ((riT38 l0 x5_1).f2) ((riT38 l0 x5_1).f3) ((riT38 l0 x5_1).f4) _ _ ((riT38 l0 x5_1).f5) ((riT38 l0 x5_1).f6) ((riT38 l1 x5_1).f0) ((riT38 l1 x5_1).f1) ((riT38 l1 x5_1).f2) ((riT38 l1 x5_1).f3) ((riT38 l1 x5_1).f4) _ _ ((riT38 l1 x5_1).f5) ((riT38 l1 x5_1).f6) false _ ?side1 ?side2 ?side3 ?side4 A7.out).mono ?_
             (case side1=>repeat (first|exact (Kd.C_below HR358_5.out HB.out)|(with_reducible first|refine Kd.C_alloc ?_ _|refine Kd.C_drewN ?_ _|refine Kd.C_drew ?_)))
             (case side2=>exact HC358_5.out)
             (case side3=>repeat (first|exact (Kd.C_below HR359_5.out HB.out)|(with_reducible first|refine Kd.C_alloc ?_ _|refine Kd.C_drewN ?_ _|refine Kd.C_drew ?_)))
             (case side4=>exact HC359_5.out)
             rintro e w12 ⟨rfl,hb⟩;refine ⟨_,rfl,?_⟩;replace HB:=As0.mk (b3 HB.out hb)
                
                
                
                
             refine hK.out _ _ ⟨((HB.out.cell (World.block_lt_of_cell? w _ hw358_0)).trans hw358_0),((HB.out.cell (World.block_lt_of_cell? w _ hw358_1)).trans hw358_1),((HB.out.cell (World.block_lt_of_cell? w _ hw358_2)).trans hw358_2),((HB.out.cell (World.block_lt_of_cell? w _ hw358_3)).trans hw358_3),((HB.out.cell (World.block_lt_of_cell? w _ hw358_4)).trans hw358_4),((HB.out.cell (World.block_lt_of_cell? w _ hw358_5)).trans hw358_5),((HB.out.cell (World.block_lt_of_cell? w _ hw358_6)).trans hw358_6),((HB.out.cell (World.block_lt_of_cell? w _ hw359_0)).trans hw359_0),((HB.out.cell (World.block_lt_of_cell? w _ hw359_1)).trans hw359_1),((HB.out.cell (World.block_lt_of_cell? w _ hw359_2)).trans hw359_2),((HB.out.cell (World.block_lt_of_cell? w _ hw359_3)).trans hw359_3),((HB.out.cell (World.block_lt_of_cell? w _ hw359_4)).trans hw359_4),((HB.out.cell (World.block_lt_of_cell? w _ hw359_5)).trans hw359_5),((HB.out.cell (World.block_lt_of_cell? w _ hw359_6)).trans hw359_6)⟩ (fun hHeld=>?_);clear hK K;refine norm_ (a':=?_) ?_ ?_;rotate_left
             · show Act.put _ (some 25) _ = _
               simp only [Act.put,sA,sZ,sS,i64_w,i32_w];rfl
             refine pu 9 (some 26) #[true,true,true,true,true,true,true,true,true,true] rfl rfl HT_.out ?_;refine done_ (done_of HT_.out (by kernel_rfl)) ?_
             try go_wp2
             go_ret
             exact ⟨eW,by repeat (first|(with_reducible first|exact HB.out|apply bal|apply pbN|apply bd1)|exact HB.out)⟩
         · rw [if_neg c6] at H
           exact absurd H (by simp)
       · rw [if_neg c5] at H
         exact absurd H (by simp)
     · rw [if_neg c4] at H
       have c4b0:decide (x5_1 < (l0.length:Int)) = false:=decide_eq_false c4;clear c4;obtain rfl:=Option.some.inj H
       go_wp2
       go_ret
       exact ⟨eW,by repeat (first|(with_reducible first|exact HB.out|apply bal|apply pbN|apply bd1)|exact HB.out)⟩
 · rw [if_neg c3] at H
   have c3b0:((l0.length:Int) == (l1.length:Int)) = false:=beq_eq_false_iff_ne.mpr c3;have c3b1:((l0.length:Int) != (l1.length:Int)) = true:=bne_iff_ne.mpr c3;have c3b2:(l0.length == l1.length) = false:=by first|simpa using c3|(simp at c3 ⊢;omega)
   obtain rfl:=Option.some.inj H
   go_enter Tryd.func26,Tryd.ntmps26
   go_wp2
   go_ret
   exact ⟨eW,by repeat (first|(with_reducible first|exact HB.out|apply bal|apply pbN|apply bd1)|exact HB.out)⟩
def laws_eqPast.f (a0_0:Int) (a0_1:ByteArray) (a0_2:ByteArray) (a0_3:ByteArray) (a1_0:Int) (a1_1:ByteArray) (a1_2:ByteArray) (a1_3:ByteArray):Option (Bool):=if a0_0 = a1_0 then (if a0_1.toList = a1_1.toList then (if a0_2.toList = a1_2.toList then (if a0_3.toList = a1_3.toList then (some true) else (some false)) else (some false)) else (some false)) else (some false)
set_option maxHeartbeats 40000000 in
set_option maxRecDepth 100000 in
theorem laws_eqPast.calls (a0_0:Int) (a0_1:ByteArray) (a0_2:ByteArray) (a0_3:ByteArray) (a1_0:Int) (a1_1:ByteArray) (a1_2:ByteArray) (a1_3:ByteArray) (r:Bool) (w:World) (h:laws_eqPast.f a0_0 a0_1 a0_2 a0_3 a1_0 a1_1 a1_2 a1_3 = some r) :
 Calls Tryd.prog 57 #[.agg #[.int .i64 a0_0,.string a0_1,.string a0_2,.string a0_3],.agg #[.int .i64 a1_0,.string a1_1,.string a1_2,.string a1_3]] w fun e w'=>e = .returned (.bool r) ∧ Below w.heap.size w w':=by
 have hu77:=Tryd.underlying77;have HB:=As0.mk (Below.refl w.heap.size w);have H:(if a0_0 = a1_0 then (if a0_1.toList = a1_1.toList then (if a0_2.toList = a1_2.toList then (if a0_3.toList = a1_3.toList then (some true) else (some false)) else (some false)) else (some false)) else (some false)) = some r:=h;clear h;by_cases c3:a0_0 = a1_0
 · rw [if_pos c3] at H
   have c3b0:(a0_0 == a1_0) = true:=beq_iff_eq.mpr c3;have c3b1:(a0_0 != a1_0) = false:=bne_eq_false_iff_eq.mpr c3;clear c3;by_cases c4:a0_1.toList = a1_1.toList
   · rw [if_pos c4] at H
     have c4b0:(a0_1.toList == a1_1.toList) = true:=beq_iff_eq.mpr c4;have c4b1:(a0_1.toList != a1_1.toList) = false:=bne_eq_false_iff_eq.mpr c4;clear c4;by_cases c5:a0_2.toList = a1_2.toList
     · rw [if_pos c5] at H
       have c5b0:(a0_2.toList == a1_2.toList) = true:=beq_iff_eq.mpr c5;have c5b1:(a0_2.toList != a1_2.toList) = false:=bne_eq_false_iff_eq.mpr c5;clear c5;by_cases c6:a0_3.toList = a1_3.toList
       · rw [if_pos c6] at H
         have c6b0:(a0_3.toList == a1_3.toList) = true:=beq_iff_eq.mpr c6;have c6b1:(a0_3.toList != a1_3.toList) = false:=bne_eq_false_iff_eq.mpr c6;clear c6;obtain rfl:=Option.some.inj H
         go_enter Tryd.func57,Tryd.ntmps57
         go_wp2_with (first|((with_reducible refine gate_dst (N:=2) rfl ?_);refine bE 2 #[.int .i64 a0_0,.string a0_1,.string a0_2,.string a0_3] 77 ?_;intro gb361 hg w7 hbox hb;have BK361:=As0.mk (hbox);have GW361:=As0.mk ((by rw [hg];exact (bsz (by repeat (first|(with_reducible first|exact HB.out|apply bal|apply pbN|apply bd1)|exact HB.out))):w.heap.size ≤ gb361));have GE361:=GW361;replace HB:=As0.mk (b3 HB.out hb);clear hb hbox hg)|((with_reducible refine gate_dst (N:=3) rfl ?_);refine bE 3 #[.int .i64 a1_0,.string a1_1,.string a1_2,.string a1_3] 77 ?_;intro gb362 hg w8 hbox hb;have BK362:=As0.mk (hbox);have GW362:=As0.mk ((by rw [hg];exact (bsz (by repeat (first|(with_reducible first|exact HB.out|apply bal|apply pbN|apply bd1|refine bst ?_ GE361.out)|exact HB.out))):w.heap.size ≤ gb362));have GE362:=GW362;replace HB:=As0.mk (bsp (by repeat (first|(with_reducible first|exact HB.out|apply bal|apply pbN|apply bd1|refine bst ?_ GE361.out)|exact HB.out)) hb);have NB361_362:=As0.mk ((by rw [hg];exact Nat.ne_of_lt (blk_lt (g:=gb361) (o:=.cells #[.int .i64 a0_0,.string a0_1,.string a0_2,.string a0_3] 77 (0,0)) (by (with_reducible repeat (first|refine bkN ?_ _|refine bkD ?_|refine bkA ?_ _));exact BK361.out)):gb361 ≠ gb362));have NB362_361:=As0.mk (Ne.symm NB361_362.out);replace BK361:=As0.mk (bb hb BK361.out);clear hb hbox hg;have hnb9:=NB361_362.out;have hnc9:=NB362_361.out;obtain ⟨hcz10_0,hcz10_1,hcz10_2,hcz10_3⟩:=qc4 BK361.out;obtain ⟨hfz10_0,hfz10_1,hfz10_2,hfz10_3⟩:=qz4 BK361.out;obtain ⟨hcz11_0,hcz11_1,hcz11_2,hcz11_3⟩:=qc4 BK362.out;obtain ⟨hfz11_0,hfz11_1,hfz11_2,hfz11_3⟩:=qz4 BK362.out))
         go_ret
         exact ⟨eW,by repeat (first|(with_reducible first|exact HB.out|apply bal|apply pbN|apply bd1|refine bst ?_ GE361.out|refine bst ?_ GE362.out)|exact HB.out)⟩
       · rw [if_neg c6] at H
         have c6b0:(a0_3.toList == a1_3.toList) = false:=beq_eq_false_iff_ne.mpr c6;have c6b1:(a0_3.toList != a1_3.toList) = true:=bne_iff_ne.mpr c6;obtain rfl:=Option.some.inj H
         go_enter Tryd.func57,Tryd.ntmps57
         go_wp2_with (first|((with_reducible refine gate_dst (N:=2) rfl ?_);refine bE 2 #[.int .i64 a0_0,.string a0_1,.string a0_2,.string a0_3] 77 ?_;intro gb361 hg w12 hbox hb;have BK361:=As0.mk (hbox);have GW361:=As0.mk ((by rw [hg];exact (bsz (by repeat (first|(with_reducible first|exact HB.out|apply bal|apply pbN|apply bd1)|exact HB.out))):w.heap.size ≤ gb361));have GE361:=GW361;replace HB:=As0.mk (b3 HB.out hb);clear hb hbox hg)|((with_reducible refine gate_dst (N:=3) rfl ?_);refine bE 3 #[.int .i64 a1_0,.string a1_1,.string a1_2,.string a1_3] 77 ?_;intro gb362 hg w13 hbox hb;have BK362:=As0.mk (hbox);have GW362:=As0.mk ((by rw [hg];exact (bsz (by repeat (first|(with_reducible first|exact HB.out|apply bal|apply pbN|apply bd1|refine bst ?_ GE361.out)|exact HB.out))):w.heap.size ≤ gb362));have GE362:=GW362;replace HB:=As0.mk (bsp (by repeat (first|(with_reducible first|exact HB.out|apply bal|apply pbN|apply bd1|refine bst ?_ GE361.out)|exact HB.out)) hb);have NB361_362:=As0.mk ((by rw [hg];exact Nat.ne_of_lt (blk_lt (g:=gb361) (o:=.cells #[.int .i64 a0_0,.string a0_1,.string a0_2,.string a0_3] 77 (0,0)) (by (with_reducible repeat (first|refine bkN ?_ _|refine bkD ?_|refine bkA ?_ _));exact BK361.out)):gb361 ≠ gb362));have NB362_361:=As0.mk (Ne.symm NB361_362.out);replace BK361:=As0.mk (bb hb BK361.out);clear hb hbox hg;have hnb14:=NB361_362.out;have hnc14:=NB362_361.out;obtain ⟨hcz15_0,hcz15_1,hcz15_2,hcz15_3⟩:=qc4 BK361.out;obtain ⟨hfz15_0,hfz15_1,hfz15_2,hfz15_3⟩:=qz4 BK361.out;obtain ⟨hcz16_0,hcz16_1,hcz16_2,hcz16_3⟩:=qc4 BK362.out;obtain ⟨hfz16_0,hfz16_1,hfz16_2,hfz16_3⟩:=qz4 BK362.out))
         go_ret
         exact ⟨eW,by repeat (first|(with_reducible first|exact HB.out|apply bal|apply pbN|apply bd1|refine bst ?_ GE361.out|refine bst ?_ GE362.out)|exact HB.out)⟩
     · rw [if_neg c5] at H
       have c5b0:(a0_2.toList == a1_2.toList) = false:=beq_eq_false_iff_ne.mpr c5;have c5b1:(a0_2.toList != a1_2.toList) = true:=bne_iff_ne.mpr c5;obtain rfl:=Option.some.inj H
       go_enter Tryd.func57,Tryd.ntmps57
       go_wp2_with (first|((with_reducible refine gate_dst (N:=2) rfl ?_);refine bE 2 #[.int .i64 a0_0,.string a0_1,.string a0_2,.string a0_3] 77 ?_;intro gb361 hg w17 hbox hb;have BK361:=As0.mk (hbox);have GW361:=As0.mk ((by rw [hg];exact (bsz (by repeat (first|(with_reducible first|exact HB.out|apply bal|apply pbN|apply bd1)|exact HB.out))):w.heap.size ≤ gb361));have GE361:=GW361;replace HB:=As0.mk (b3 HB.out hb);clear hb hbox hg)|((with_reducible refine gate_dst (N:=3) rfl ?_);refine bE 3 #[.int .i64 a1_0,.string a1_1,.string a1_2,.string a1_3] 77 ?_;intro gb362 hg w18 hbox hb;have BK362:=As0.mk (hbox);have GW362:=As0.mk ((by rw [hg];exact (bsz (by repeat (first|(with_reducible first|exact HB.out|apply bal|apply pbN|apply bd1|refine bst ?_ GE361.out)|exact HB.out))):w.heap.size ≤ gb362));have GE362:=GW362;replace HB:=As0.mk (bsp (by repeat (first|(with_reducible first|exact HB.out|apply bal|apply pbN|apply bd1|refine bst ?_ GE361.out)|exact HB.out)) hb);have NB361_362:=As0.mk ((by rw [hg];exact Nat.ne_of_lt (blk_lt (g:=gb361) (o:=.cells #[.int .i64 a0_0,.string a0_1,.string a0_2,.string a0_3] 77 (0,0)) (by (with_reducible repeat (first|refine bkN ?_ _|refine bkD ?_|refine bkA ?_ _));exact BK361.out)):gb361 ≠ gb362));have NB362_361:=As0.mk (Ne.symm NB361_362.out);replace BK361:=As0.mk (bb hb BK361.out);clear hb hbox hg;have hnb19:=NB361_362.out;have hnc19:=NB362_361.out;obtain ⟨hcz20_0,hcz20_1,hcz20_2,hcz20_3⟩:=qc4 BK361.out;obtain ⟨hfz20_0,hfz20_1,hfz20_2,hfz20_3⟩:=qz4 BK361.out;obtain ⟨hcz21_0,hcz21_1,hcz21_2,hcz21_3⟩:=qc4 BK362.out;obtain ⟨hfz21_0,hfz21_1,hfz21_2,hfz21_3⟩:=qz4 BK362.out))
       go_ret
       exact ⟨eW,by repeat (first|(with_reducible first|exact HB.out|apply bal|apply pbN|apply bd1|refine bst ?_ GE361.out|refine bst ?_ GE362.out)|exact HB.out)⟩
   · rw [if_neg c4] at H
     have c4b0:(a0_1.toList == a1_1.toList) = false:=beq_eq_false_iff_ne.mpr c4;have c4b1:(a0_1.toList != a1_1.toList) = true:=bne_iff_ne.mpr c4;obtain rfl:=Option.some.inj H
     go_enter Tryd.func57,Tryd.ntmps57
     go_wp2_with (first|((with_reducible refine gate_dst (N:=2) rfl ?_);refine bE 2 #[.int .i64 a0_0,.string a0_1,.string a0_2,.string a0_3] 77 ?_;intro gb361 hg w22 hbox hb;have BK361:=As0.mk (hbox);have GW361:=As0.mk ((by rw [hg];exact (bsz (by repeat (first|(with_reducible first|exact HB.out|apply bal|apply pbN|apply bd1)|exact HB.out))):w.heap.size ≤ gb361));have GE361:=GW361;replace HB:=As0.mk (b3 HB.out hb);clear hb hbox hg)|((with_reducible refine gate_dst (N:=3) rfl ?_);refine bE 3 #[.int .i64 a1_0,.string a1_1,.string a1_2,.string a1_3] 77 ?_;intro gb362 hg w23 hbox hb;have BK362:=As0.mk (hbox);have GW362:=As0.mk ((by rw [hg];exact (bsz (by repeat (first|(with_reducible first|exact HB.out|apply bal|apply pbN|apply bd1|refine bst ?_ GE361.out)|exact HB.out))):w.heap.size ≤ gb362));have GE362:=GW362;replace HB:=As0.mk (bsp (by repeat (first|(with_reducible first|exact HB.out|apply bal|apply pbN|apply bd1|refine bst ?_ GE361.out)|exact HB.out)) hb);have NB361_362:=As0.mk ((by rw [hg];exact Nat.ne_of_lt (blk_lt (g:=gb361) (o:=.cells #[.int .i64 a0_0,.string a0_1,.string a0_2,.string a0_3] 77 (0,0)) (by (with_reducible repeat (first|refine bkN ?_ _|refine bkD ?_|refine bkA ?_ _));exact BK361.out)):gb361 ≠ gb362));have NB362_361:=As0.mk (Ne.symm NB361_362.out);replace BK361:=As0.mk (bb hb BK361.out);clear hb hbox hg;have hnb24:=NB361_362.out;have hnc24:=NB362_361.out;obtain ⟨hcz25_0,hcz25_1,hcz25_2,hcz25_3⟩:=qc4 BK361.out;obtain ⟨hfz25_0,hfz25_1,hfz25_2,hfz25_3⟩:=qz4 BK361.out;obtain ⟨hcz26_0,hcz26_1,hcz26_2,hcz26_3⟩:=qc4 BK362.out;obtain ⟨hfz26_0,hfz26_1,hfz26_2,hfz26_3⟩:=qz4 BK362.out))
     go_ret
     exact ⟨eW,by repeat (first|(with_reducible first|exact HB.out|apply bal|apply pbN|apply bd1|refine bst ?_ GE361.out|refine bst ?_ GE362.out)|exact HB.out)⟩
 · rw [if_neg c3] at H
   have c3b0:(a0_0 == a1_0) = false:=beq_eq_false_iff_ne.mpr c3;have c3b1:(a0_0 != a1_0) = true:=bne_iff_ne.mpr c3;obtain rfl:=Option.some.inj H
   go_enter Tryd.func57,Tryd.ntmps57
   go_wp2_with (first|((with_reducible refine gate_dst (N:=2) rfl ?_);refine bE 2 #[.int .i64 a0_0,.string a0_1,.string a0_2,.string a0_3] 77 ?_;intro gb361 hg w27 hbox hb;have BK361:=As0.mk (hbox);have GW361:=As0.mk ((by rw [hg];exact (bsz (by repeat (first|(with_reducible first|exact HB.out|apply bal|apply pbN|apply bd1)|exact HB.out))):w.heap.size ≤ gb361));have GE361:=GW361;replace HB:=As0.mk (b3 HB.out hb);clear hb hbox hg)|((with_reducible refine gate_dst (N:=3) rfl ?_);refine bE 3 #[.int .i64 a1_0,.string a1_1,.string a1_2,.string a1_3] 77 ?_;intro gb362 hg w28 hbox hb;have BK362:=As0.mk (hbox);have GW362:=As0.mk ((by rw [hg];exact (bsz (by repeat (first|(with_reducible first|exact HB.out|apply bal|apply pbN|apply bd1|refine bst ?_ GE361.out)|exact HB.out))):w.heap.size ≤ gb362));have GE362:=GW362;replace HB:=As0.mk (bsp (by repeat (first|(with_reducible first|exact HB.out|apply bal|apply pbN|apply bd1|refine bst ?_ GE361.out)|exact HB.out)) hb);have NB361_362:=As0.mk ((by rw [hg];exact Nat.ne_of_lt (blk_lt (g:=gb361) (o:=.cells #[.int .i64 a0_0,.string a0_1,.string a0_2,.string a0_3] 77 (0,0)) (by (with_reducible repeat (first|refine bkN ?_ _|refine bkD ?_|refine bkA ?_ _));exact BK361.out)):gb361 ≠ gb362));have NB362_361:=As0.mk (Ne.symm NB361_362.out);replace BK361:=As0.mk (bb hb BK361.out);clear hb hbox hg;have hnb29:=NB361_362.out;have hnc29:=NB362_361.out;obtain ⟨hcz30_0,hcz30_1,hcz30_2,hcz30_3⟩:=qc4 BK361.out;obtain ⟨hfz30_0,hfz30_1,hfz30_2,hfz30_3⟩:=qz4 BK361.out;obtain ⟨hcz31_0,hcz31_1,hcz31_2,hcz31_3⟩:=qc4 BK362.out;obtain ⟨hfz31_0,hfz31_1,hfz31_2,hfz31_3⟩:=qz4 BK362.out))
   go_ret
   exact ⟨eW,by repeat (first|(with_reducible first|exact HB.out|apply bal|apply pbN|apply bd1|refine bst ?_ GE361.out|refine bst ?_ GE362.out)|exact HB.out)⟩
def laws_eqPastS.l0:Nat → List (SiP27) → List (SiP27) → Int → Option (Bool)
 |0,_,_,_=>none
 |k + 1,x0,x1,x5=>if x5 < (x0.length:Int) then (if 0 ≤ x5 then (if x5 < (x1.length:Int) then ((laws_eqPast.f ((riP36 x0 x5).f0) ((riP36 x0 x5).f1) ((riP36 x0 x5).f2) ((riP36 x0 x5).f3) ((riP36 x1 x5).f0) ((riP36 x1 x5).f1) ((riP36 x1 x5).f2) ((riP36 x1 x5).f3)).bind fun t365=>(if t365 = true then (laws_eqPastS.l0 k x0 x1 (wrap64 (x5 + 1))) else (some false))) else (none)) else (none)) else (some true)
def laws_eqPastS.f (k:Nat) (l0:List (SiP27)) (l1:List (SiP27)):Option (Bool):=if (l0.length:Int) = (l1.length:Int) then (laws_eqPastS.l0 k l0 l1 0) else (some false)
def laws_eqPastS.T6:Bool × List (List Nat × List Nat):=(true,[([],[]),([],[]),([0,1],[0,1]),([2],[2]),([],[]),([],[]),([4,5],[4,5]),([6],[6]),([3,7],[3,7]),([8],[8])])
def laws_eqPastS.B6:List Nat:=[0,0,3,7,0,0,48,112,255,511]
theorem laws_eqPastS.tab6:rtab .any (opsOf Tryd.f27 6) = laws_eqPastS.T6:=by kernel_rfl
theorem laws_eqPastS.bits6:waitsOk laws_eqPastS.T6.2 laws_eqPastS.B6 = true:=by kernel_rfl
set_option maxHeartbeats 40000000 in
set_option maxRecDepth 100000 in
theorem laws_eqPastS.calls (k:Nat) (A0:Option Addr) (c0:Nat) (l0:List (SiP27)) (A1:Option Addr) (c1:Nat) (l1:List (SiP27)) (r:Bool) (w:World) (hr0:Kd.C k77 w A0 l0.length l0) (hc0:l0.length ≤ c0) (hr1:Kd.C k77 w A1 l1.length l1) (hc1:l1.length ≤ c1) (h:laws_eqPastS.f k l0 l1 = some r) :
 Calls Tryd.prog 27 #[.slice A0 l0.length c0,.slice A1 l1.length c1] w fun e w'=>e = .returned (.bool r) ∧ Below w.heap.size w w':=by
 have hu77:=Tryd.underlying77;have HR0:=As0.mk hr0;have HC0:=As0.mk hc0;clear hr0 hc0;have HR1:=As0.mk hr1;have HC1:=As0.mk hc1;clear hr1 hc1;have HB:=As0.mk (Below.refl w.heap.size w);have H:(if (l0.length:Int) = (l1.length:Int) then (laws_eqPastS.l0 k l0 l1 0) else (some false)) = some r:=h;clear h;by_cases c3:(l0.length:Int) = (l1.length:Int)
 · rw [if_pos c3] at H
   have c3b0:((l0.length:Int) == (l1.length:Int)) = true:=beq_iff_eq.mpr c3;have c3b1:((l0.length:Int) != (l1.length:Int)) = false:=bne_eq_false_iff_eq.mpr c3;have c3b2:(l0.length == l1.length) = true:=by first|simpa using c3|(simp at c3 ⊢;omega)
   clear c3;have H':=As0.mk H;clear H
   go_enter Tryd.func27,Tryd.ntmps27
   go_wp2
   show _;go_loopg [5] k (fun kq v5 w'=>∃ (x5_1:Int),v5 = .int .i64 x5_1 ∧ As0 (laws_eqPastS.l0 kq l0 l1 x5_1 = some r) ∧ As0 (kq ≤ k) ∧ As0 (Below w.heap.size w w'))
   case atStart=>exact ⟨(0),(by first|rfl|(simp;done)|(simp [*];done)),H',⟨Nat.le_refl _⟩,⟨by repeat (first|(with_reducible first|exact HB.out|apply bal|apply pbN|apply bd1)|exact HB.out)⟩⟩
   case round=>
    clear H'
    try clear c1
    try clear c2
    try clear p2
    try clear c3
    try clear c3b0
    try clear c3b1
    try clear c3b2
    obtain ⟨x5_1,rfl,HA,HK1,HB⟩:=hrel
    cases gk with
    |zero=>exact absurd HA.out (by simp [laws_eqPastS.l0])
    |succ k1=>
     have H:=HA.out;clear HA;simp only [laws_eqPastS.l0] at H;by_cases c4:x5_1 < (l0.length:Int)
     · rw [if_pos c4] at H
       have c4b0:decide (x5_1 < (l0.length:Int)) = true:=decide_eq_true c4;clear c4;by_cases c5:0 ≤ x5_1
       · rw [if_pos c5] at H
         have c5b0:decide (0 ≤ x5_1) = true:=decide_eq_true c5;clear c5;by_cases c6:x5_1 < (l1.length:Int)
         · rw [if_pos c6] at H
           have c6b0:decide (x5_1 < (l1.length:Int)) = true:=decide_eq_true c6;clear c6;replace H:=Option.bind_eq_some_iff.mp H;obtain ⟨t365,A70,H⟩:=H;(try dsimp only at H);have A7:=As0.mk A70;clear A70;by_cases c8:t365 = true
           · subst c8
             have H1:(laws_eqPastS.l0 k1 l0 l1 (wrap64 (x5_1 + 1))) = some r:=by rw [if_pos rfl] at H;exact H
             clear H;have H:=H1;clear H1;have H':=As0.mk H;clear H
             try go_wp2
             replace HB:=As0.mk (bd1 HB.out);have p363:0 ≤ (x5_1:Int):=odt;have q363:x5_1 < (l0.length:Int):=odt;obtain ⟨ad363,e363,hx363_0,hx363_1,hx363_2,hx363_3⟩:=at_T77 HR0.out x5_1 p363 q363;have hw363_3:=hx363_3;have hw363_2:=hx363_2;have hw363_1:=hx363_1;have hw363_0:=hx363_0
             cases e363
             replace hx363_0:=bx HB.out rfl hx363_0;replace hx363_1:=bx HB.out rfl hx363_1;replace hx363_2:=bx HB.out rfl hx363_2;replace hx363_3:=bx HB.out rfl hx363_3;replace p363:=eq_true p363;replace q363:=eq_true q363;have p364:0 ≤ (x5_1:Int):=odt;have q364:x5_1 < (l1.length:Int):=odt;obtain ⟨ad364,e364,hx364_0,hx364_1,hx364_2,hx364_3⟩:=at_T77 HR1.out x5_1 p364 q364;have hw364_3:=hx364_3;have hw364_2:=hx364_2;have hw364_1:=hx364_1;have hw364_0:=hx364_0
             cases e364
             replace hx364_0:=bx HB.out rfl hx364_0;replace hx364_1:=bx HB.out rfl hx364_1;replace hx364_2:=bx HB.out rfl hx364_2;replace hx364_3:=bx HB.out rfl hx364_3;replace p364:=eq_true p364;replace q364:=eq_true q364;refine start_ (n:=10) (S:=fun w'=>w'.cell? (ad363.add ((x5_1).toNat * 4)) = some (.int .i64 ((riP36 l0 x5_1).f0)) ∧ w'.cell? ⟨(ad363.add ((x5_1).toNat * 4)).block,(ad363.add ((x5_1).toNat * 4)).off + 1,none⟩ = some (.string ((riP36 l0 x5_1).f1)) ∧ w'.cell? ⟨(ad363.add ((x5_1).toNat * 4)).block,(ad363.add ((x5_1).toNat * 4)).off + 2,none⟩ = some (.string ((riP36 l0 x5_1).f2)) ∧ w'.cell? ⟨(ad363.add ((x5_1).toNat * 4)).block,(ad363.add ((x5_1).toNat * 4)).off + 3,none⟩ = some (.string ((riP36 l0 x5_1).f3)) ∧ w'.cell? (ad364.add ((x5_1).toNat * 4)) = some (.int .i64 ((riP36 l1 x5_1).f0)) ∧ w'.cell? ⟨(ad364.add ((x5_1).toNat * 4)).block,(ad364.add ((x5_1).toNat * 4)).off + 1,none⟩ = some (.string ((riP36 l1 x5_1).f1)) ∧ w'.cell? ⟨(ad364.add ((x5_1).toNat * 4)).block,(ad364.add ((x5_1).toNat * 4)).off + 2,none⟩ = some (.string ((riP36 l1 x5_1).f2)) ∧ w'.cell? ⟨(ad364.add ((x5_1).toNat * 4)).block,(ad364.add ((x5_1).toNat * 4)).off + 3,none⟩ = some (.string ((riP36 l1 x5_1).f3))) (ds:=[]) #[false,false,false,false,false,false,false,false,false,false] (by kernel_rfl) rfl rfl ⟨((HB.out.cell (World.block_lt_of_cell? w _ hw363_0)).trans hw363_0),((HB.out.cell (World.block_lt_of_cell? w _ hw363_1)).trans hw363_1),((HB.out.cell (World.block_lt_of_cell? w _ hw363_2)).trans hw363_2),((HB.out.cell (World.block_lt_of_cell? w _ hw363_3)).trans hw363_3),((HB.out.cell (World.block_lt_of_cell? w _ hw364_0)).trans hw364_0),((HB.out.cell (World.block_lt_of_cell? w _ hw364_1)).trans hw364_1),((HB.out.cell (World.block_lt_of_cell? w _ hw364_2)).trans hw364_2),((HB.out.cell (World.block_lt_of_cell? w _ hw364_3)).trans hw364_3)⟩ (fun hHeld=>?_);refine with_tabW laws_eqPastS.tab6 laws_eqPastS.bits6 (fun HT_ HW_=>?_);generalize wr.drew = w9 at HB hx363_0 hx363_1 hx363_2 hx363_3 hx364_0 hx364_1 hx364_2 hx364_3 hHeld ⊢
             refine pu 0 (some 17) #[true,false,false,false,false,false,false,false,false,false] rfl rfl HT_.out ?_;refine pu 1 (some 18) #[true,true,false,false,false,false,false,false,false,false] rfl rfl HT_.out ?_;refine pu 2 (some 19) #[true,true,true,false,false,false,false,false,false,false] rfl rfl HT_.out ?_;refine pu 4 (some 21) #[true,true,true,false,true,false,false,false,false,false] rfl rfl HT_.out ?_;refine pu 5 (some 22) #[true,true,true,false,true,true,false,false,false,false] rfl rfl HT_.out ?_;refine pu 6 (some 23) #[true,true,true,false,true,true,true,false,false,false] rfl rfl HT_.out ?_;refine tk 3 (some 20) #[true,true,true,true,true,true,true,false,false,false] rfl rfl HT_.out HW_.out hHeld (by rintro w' ⟨s0,s1,s2,s3,s4,s5,s6,s7⟩;go_simp;with_reducible rfl) ?_;refine tk 7 (some 24) #[true,true,true,true,true,true,true,true,false,false] rfl rfl HT_.out HW_.out hHeld (by rintro w' ⟨s0,s1,s2,s3,s4,s5,s6,s7⟩;go_simp;with_reducible rfl) ?_;refine one_ (i:=8) (N:=some 25) #[true,true,true,true,true,true,true,true,true,false] rfl rfl (one_of HT_.out (by kernel_rfl)) (by decide) (fun K hK=>?_);refine goes_ Tryd.func57 (by kernel_rfl) rfl #[.agg #[.int .i64 ((riP36 l0 x5_1).f0),.string ((riP36 l0 x5_1).f1),.string ((riP36 l0 x5_1).f2),.string ((riP36 l0 x5_1).f3)],.agg #[.int .i64 ((riP36 l1 x5_1).f0),.string ((riP36 l1 x5_1).f1),.string ((riP36 l1 x5_1).f2),.string ((riP36 l1 x5_1).f3)]] (by rfl) rfl rfl (by (try simp only [List.map_toArray,List.map_cons,List.map_nil]);first|done|rfl|(simp only [List.length_drop,List.length_take];rfl)) ?_;with_reducible refine (laws_eqPast.calls ((riP36 l0 x5_1).f0) ((riP36 l0 x5_1).f1) ((riP36 l0 x5_1).f2) ((riP36 l0 x5_1).f3) ((riP36 l1 x5_1).f0) ((riP36 l1 x5_1).f1) ((riP36 l1 x5_1).f2) ((riP36 l1 x5_1).f3) true _ A7.out).mono ?_
             rintro e w10 ⟨rfl,hb⟩;refine ⟨_,rfl,?_⟩;replace HB:=As0.mk (b3 HB.out hb)
                
                
                
                
             refine hK.out _ _ ⟨((HB.out.cell (World.block_lt_of_cell? w _ hw363_0)).trans hw363_0),((HB.out.cell (World.block_lt_of_cell? w _ hw363_1)).trans hw363_1),((HB.out.cell (World.block_lt_of_cell? w _ hw363_2)).trans hw363_2),((HB.out.cell (World.block_lt_of_cell? w _ hw363_3)).trans hw363_3),((HB.out.cell (World.block_lt_of_cell? w _ hw364_0)).trans hw364_0),((HB.out.cell (World.block_lt_of_cell? w _ hw364_1)).trans hw364_1),((HB.out.cell (World.block_lt_of_cell? w _ hw364_2)).trans hw364_2),((HB.out.cell (World.block_lt_of_cell? w _ hw364_3)).trans hw364_3)⟩ (fun hHeld=>?_);clear hK K;refine norm_ (a':=?_) ?_ ?_;rotate_left
             · show Act.put _ (some 25) _ = _
               simp only [Act.put,sA,sZ,sS,i64_w,i32_w];rfl
             refine pu 9 (some 26) #[true,true,true,true,true,true,true,true,true,true] rfl rfl HT_.out ?_;refine done_ (done_of HT_.out (by kernel_rfl)) ?_
             try go_wp2
             show _;go_roundg k1
             case measure=>have:=HK1.out;omega
             case rel=>exact ⟨(wrap64 (x5_1 + 1)),(by first|rfl|(simp;done)|(simp [*];done)),H',⟨by have:=HK1.out;omega⟩,⟨by repeat (first|(with_reducible first|exact HB.out|apply bal|apply pbN|apply bd1)|exact HB.out)⟩⟩
           · replace c8:=Bool.eq_false_iff.mpr c8
             subst c8;have H1:(some false) = some r:=by rw [if_neg (show ¬ (false = true) by decide)] at H;exact H
             clear H;have H:=H1;clear H1;obtain rfl:=Option.some.inj H
             try go_wp2
             replace HB:=As0.mk (bd1 HB.out);have p363:0 ≤ (x5_1:Int):=odt;have q363:x5_1 < (l0.length:Int):=odt;obtain ⟨ad363,e363,hx363_0,hx363_1,hx363_2,hx363_3⟩:=at_T77 HR0.out x5_1 p363 q363;have hw363_3:=hx363_3;have hw363_2:=hx363_2;have hw363_1:=hx363_1;have hw363_0:=hx363_0
             cases e363
             replace hx363_0:=bx HB.out rfl hx363_0;replace hx363_1:=bx HB.out rfl hx363_1;replace hx363_2:=bx HB.out rfl hx363_2;replace hx363_3:=bx HB.out rfl hx363_3;replace p363:=eq_true p363;replace q363:=eq_true q363;have p364:0 ≤ (x5_1:Int):=odt;have q364:x5_1 < (l1.length:Int):=odt;obtain ⟨ad364,e364,hx364_0,hx364_1,hx364_2,hx364_3⟩:=at_T77 HR1.out x5_1 p364 q364;have hw364_3:=hx364_3;have hw364_2:=hx364_2;have hw364_1:=hx364_1;have hw364_0:=hx364_0
             cases e364
             replace hx364_0:=bx HB.out rfl hx364_0;replace hx364_1:=bx HB.out rfl hx364_1;replace hx364_2:=bx HB.out rfl hx364_2;replace hx364_3:=bx HB.out rfl hx364_3;replace p364:=eq_true p364;replace q364:=eq_true q364;refine start_ (n:=10) (S:=fun w'=>w'.cell? (ad363.add ((x5_1).toNat * 4)) = some (.int .i64 ((riP36 l0 x5_1).f0)) ∧ w'.cell? ⟨(ad363.add ((x5_1).toNat * 4)).block,(ad363.add ((x5_1).toNat * 4)).off + 1,none⟩ = some (.string ((riP36 l0 x5_1).f1)) ∧ w'.cell? ⟨(ad363.add ((x5_1).toNat * 4)).block,(ad363.add ((x5_1).toNat * 4)).off + 2,none⟩ = some (.string ((riP36 l0 x5_1).f2)) ∧ w'.cell? ⟨(ad363.add ((x5_1).toNat * 4)).block,(ad363.add ((x5_1).toNat * 4)).off + 3,none⟩ = some (.string ((riP36 l0 x5_1).f3)) ∧ w'.cell? (ad364.add ((x5_1).toNat * 4)) = some (.int .i64 ((riP36 l1 x5_1).f0)) ∧ w'.cell? ⟨(ad364.add ((x5_1).toNat * 4)).block,(ad364.add ((x5_1).toNat * 4)).off + 1,none⟩ = some (.string ((riP36 l1 x5_1).f1)) ∧ w'.cell? ⟨(ad364.add ((x5_1).toNat * 4)).block,(ad364.add ((x5_1).toNat * 4)).off + 2,none⟩ = some (.string ((riP36 l1 x5_1).f2)) ∧ w'.cell? ⟨(ad364.add ((x5_1).toNat * 4)).block,(ad364.add ((x5_1).toNat * 4)).off + 3,none⟩ = some (.string ((riP36 l1 x5_1).f3))) (ds:=[]) #[false,false,false,false,false,false,false,false,false,false] (by kernel_rfl) rfl rfl ⟨((HB.out.cell (World.block_lt_of_cell? w _ hw363_0)).trans hw363_0),((HB.out.cell (World.block_lt_of_cell? w _ hw363_1)).trans hw363_1),((HB.out.cell (World.block_lt_of_cell? w _ hw363_2)).trans hw363_2),((HB.out.cell (World.block_lt_of_cell? w _ hw363_3)).trans hw363_3),((HB.out.cell (World.block_lt_of_cell? w _ hw364_0)).trans hw364_0),((HB.out.cell (World.block_lt_of_cell? w _ hw364_1)).trans hw364_1),((HB.out.cell (World.block_lt_of_cell? w _ hw364_2)).trans hw364_2),((HB.out.cell (World.block_lt_of_cell? w _ hw364_3)).trans hw364_3)⟩ (fun hHeld=>?_);refine with_tabW laws_eqPastS.tab6 laws_eqPastS.bits6 (fun HT_ HW_=>?_);generalize wr.drew = w11 at HB hx363_0 hx363_1 hx363_2 hx363_3 hx364_0 hx364_1 hx364_2 hx364_3 hHeld ⊢
             refine pu 0 (some 17) #[true,false,false,false,false,false,false,false,false,false] rfl rfl HT_.out ?_;refine pu 1 (some 18) #[true,true,false,false,false,false,false,false,false,false] rfl rfl HT_.out ?_;refine pu 2 (some 19) #[true,true,true,false,false,false,false,false,false,false] rfl rfl HT_.out ?_;refine pu 4 (some 21) #[true,true,true,false,true,false,false,false,false,false] rfl rfl HT_.out ?_;refine pu 5 (some 22) #[true,true,true,false,true,true,false,false,false,false] rfl rfl HT_.out ?_;refine pu 6 (some 23) #[true,true,true,false,true,true,true,false,false,false] rfl rfl HT_.out ?_;refine tk 3 (some 20) #[true,true,true,true,true,true,true,false,false,false] rfl rfl HT_.out HW_.out hHeld (by rintro w' ⟨s0,s1,s2,s3,s4,s5,s6,s7⟩;go_simp;with_reducible rfl) ?_;refine tk 7 (some 24) #[true,true,true,true,true,true,true,true,false,false] rfl rfl HT_.out HW_.out hHeld (by rintro w' ⟨s0,s1,s2,s3,s4,s5,s6,s7⟩;go_simp;with_reducible rfl) ?_;refine one_ (i:=8) (N:=some 25) #[true,true,true,true,true,true,true,true,true,false] rfl rfl (one_of HT_.out (by kernel_rfl)) (by decide) (fun K hK=>?_);refine goes_ Tryd.func57 (by kernel_rfl) rfl #[.agg #[.int .i64 ((riP36 l0 x5_1).f0),.string ((riP36 l0 x5_1).f1),.string ((riP36 l0 x5_1).f2),.string ((riP36 l0 x5_1).f3)],.agg #[.int .i64 ((riP36 l1 x5_1).f0),.string ((riP36 l1 x5_1).f1),.string ((riP36 l1 x5_1).f2),.string ((riP36 l1 x5_1).f3)]] (by rfl) rfl rfl (by (try simp only [List.map_toArray,List.map_cons,List.map_nil]);first|done|rfl|(simp only [List.length_drop,List.length_take];rfl)) ?_;with_reducible refine (laws_eqPast.calls ((riP36 l0 x5_1).f0) ((riP36 l0 x5_1).f1) ((riP36 l0 x5_1).f2) ((riP36 l0 x5_1).f3) ((riP36 l1 x5_1).f0) ((riP36 l1 x5_1).f1) ((riP36 l1 x5_1).f2) ((riP36 l1 x5_1).f3) false _ A7.out).mono ?_
             rintro e w12 ⟨rfl,hb⟩;refine ⟨_,rfl,?_⟩;replace HB:=As0.mk (b3 HB.out hb)
                
                
                
                
             refine hK.out _ _ ⟨((HB.out.cell (World.block_lt_of_cell? w _ hw363_0)).trans hw363_0),((HB.out.cell (World.block_lt_of_cell? w _ hw363_1)).trans hw363_1),((HB.out.cell (World.block_lt_of_cell? w _ hw363_2)).trans hw363_2),((HB.out.cell (World.block_lt_of_cell? w _ hw363_3)).trans hw363_3),((HB.out.cell (World.block_lt_of_cell? w _ hw364_0)).trans hw364_0),((HB.out.cell (World.block_lt_of_cell? w _ hw364_1)).trans hw364_1),((HB.out.cell (World.block_lt_of_cell? w _ hw364_2)).trans hw364_2),((HB.out.cell (World.block_lt_of_cell? w _ hw364_3)).trans hw364_3)⟩ (fun hHeld=>?_);clear hK K;refine norm_ (a':=?_) ?_ ?_;rotate_left
             · show Act.put _ (some 25) _ = _
               simp only [Act.put,sA,sZ,sS,i64_w,i32_w];rfl
             refine pu 9 (some 26) #[true,true,true,true,true,true,true,true,true,true] rfl rfl HT_.out ?_;refine done_ (done_of HT_.out (by kernel_rfl)) ?_
             try go_wp2
             go_ret
             exact ⟨eW,by repeat (first|(with_reducible first|exact HB.out|apply bal|apply pbN|apply bd1)|exact HB.out)⟩
         · rw [if_neg c6] at H
           exact absurd H (by simp)
       · rw [if_neg c5] at H
         exact absurd H (by simp)
     · rw [if_neg c4] at H
       have c4b0:decide (x5_1 < (l0.length:Int)) = false:=decide_eq_false c4;clear c4;obtain rfl:=Option.some.inj H
       go_wp2
       go_ret
       exact ⟨eW,by repeat (first|(with_reducible first|exact HB.out|apply bal|apply pbN|apply bd1)|exact HB.out)⟩
 · rw [if_neg c3] at H
   have c3b0:((l0.length:Int) == (l1.length:Int)) = false:=beq_eq_false_iff_ne.mpr c3;have c3b1:((l0.length:Int) != (l1.length:Int)) = true:=bne_iff_ne.mpr c3;have c3b2:(l0.length == l1.length) = false:=by first|simpa using c3|(simp at c3 ⊢;omega)
   obtain rfl:=Option.some.inj H
   go_enter Tryd.func27,Tryd.ntmps27
   go_wp2
   go_ret
   exact ⟨eW,by repeat (first|(with_reducible first|exact HB.out|apply bal|apply pbN|apply bd1)|exact HB.out)⟩
end Go.Proofs.YtclgmogfkoinbaaDoor.P
