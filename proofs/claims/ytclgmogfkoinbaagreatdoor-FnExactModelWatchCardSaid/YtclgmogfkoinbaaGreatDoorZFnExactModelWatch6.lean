/- Functions of the law FnExactModelWatch as_ plain Lean functions, and that the machine's calls do what they say. -/
import Derived.Test.YtclgmogfkoinbaaGreatDoorZFnExactModelWatch0
import Derived.Test.YtclgmogfkoinbaaGreatDoorZFnExactModelWatch5
namespace Go.Proofs.YtclgmogfkoinbaaGreatDoor.P
open Go.RowKit Go.Proofs.YtclgmogfkoinbaaGreatDoorW.PrintWords Go.Proofs.YtclgmogfkoinbaaGreatDoorW.PrintLast Go.Proofs.YtclgmogfkoinbaaGreatDoorW.PrintMore
attribute [local go_sem] max2_int min2_int max_two min_two max_three min_three max_four min_four
set_option linter.unusedVariables false
set_option linter.unusedSimpArgs false
def spec_l8Ok.f (k:Nat) (a0_0:ByteArray) (a0_1:ByteArray) (a0_2:Int) (a0_3:Bool) (a0_4:Int):Option (Bool):=(spec_NameOk.f k a0_0).bind fun t172=>(if t172 = true then (if a0_1.toList = ([]:List UInt8) then (if ((a0_1.toList == ([]:List UInt8)) == (a0_0.toList == ([97,108,108]:List UInt8))) = true then ((spec_l1In.f a0_2 (-1) 99999).bind fun t173=>(if t173 = true then ((spec_l1In.f a0_4 0 99999).bind fun t174=>(if t174 = true then (some (!a0_3)) else (some false))) else (some false))) else (some false)) else ((spec_NameOk.f k a0_1).bind fun t175=>(if t175 = true then (if ((a0_1.toList == ([]:List UInt8)) == (a0_0.toList == ([97,108,108]:List UInt8))) = true then ((spec_l1In.f a0_2 (-1) 99999).bind fun t176=>(if t176 = true then ((spec_l1In.f a0_4 0 99999).bind fun t177=>(if t177 = true then (some true) else (some false))) else (some false))) else (some false)) else (some false)))) else (some false))
set_option maxHeartbeats 40000000 in
set_option maxRecDepth 100000 in
theorem spec_l8Ok.calls (k:Nat) (a0_0:ByteArray) (a0_1:ByteArray) (a0_2:Int) (a0_3:Bool) (a0_4:Int) (r:Bool) (w:World) (h:spec_l8Ok.f k a0_0 a0_1 a0_2 a0_3 a0_4 = some r) :
 Calls Tryz.prog 72 #[.agg #[.string a0_0,.string a0_1,.int .i64 a0_2,.bool a0_3,.int .i64 a0_4]] w fun e w'=>e = .returned (.bool r) ∧ Below w.heap.size w w':=by
 have hu70:=Tryz.underlying70;have HB:=As0.mk (Below.refl w.heap.size w);have H:((spec_NameOk.f k a0_0).bind fun t172=>(if t172 = true then (if a0_1.toList = ([]:List UInt8) then (if ((a0_1.toList == ([]:List UInt8)) == (a0_0.toList == ([97,108,108]:List UInt8))) = true then ((spec_l1In.f a0_2 (-1) 99999).bind fun t173=>(if t173 = true then ((spec_l1In.f a0_4 0 99999).bind fun t174=>(if t174 = true then (some (!a0_3)) else (some false))) else (some false))) else (some false)) else ((spec_NameOk.f k a0_1).bind fun t175=>(if t175 = true then (if ((a0_1.toList == ([]:List UInt8)) == (a0_0.toList == ([97,108,108]:List UInt8))) = true then ((spec_l1In.f a0_2 (-1) 99999).bind fun t176=>(if t176 = true then ((spec_l1In.f a0_4 0 99999).bind fun t177=>(if t177 = true then (some true) else (some false))) else (some false))) else (some false)) else (some false)))) else (some false))) = some r:=h;clear h;replace H:=Option.bind_eq_some_iff.mp H;obtain ⟨t172,A20,H⟩:=H;(try dsimp only at H);have A2:=As0.mk A20;clear A20;by_cases c3:t172 = true
 · subst c3
   have H1:(if a0_1.toList = ([]:List UInt8) then (if ((a0_1.toList == ([]:List UInt8)) == (a0_0.toList == ([97,108,108]:List UInt8))) = true then ((spec_l1In.f a0_2 (-1) 99999).bind fun t173=>(if t173 = true then ((spec_l1In.f a0_4 0 99999).bind fun t174=>(if t174 = true then (some (!a0_3)) else (some false))) else (some false))) else (some false)) else ((spec_NameOk.f k a0_1).bind fun t175=>(if t175 = true then (if ((a0_1.toList == ([]:List UInt8)) == (a0_0.toList == ([97,108,108]:List UInt8))) = true then ((spec_l1In.f a0_2 (-1) 99999).bind fun t176=>(if t176 = true then ((spec_l1In.f a0_4 0 99999).bind fun t177=>(if t177 = true then (some true) else (some false))) else (some false))) else (some false)) else (some false)))) = some r:=by rw [if_pos rfl] at H;exact H
   clear H;have H:=H1;clear H1;by_cases c4:a0_1.toList = ([]:List UInt8)
   · rw [if_pos c4] at H
     have c4b0:(a0_1.toList == ([]:List UInt8)) = true:=beq_iff_eq.mpr c4;have c4b1:(a0_1.toList != ([]:List UInt8)) = false:=bne_eq_false_iff_eq.mpr c4;clear c4;by_cases c5:((a0_1.toList == ([]:List UInt8)) == (a0_0.toList == ([97,108,108]:List UInt8))) = true
     · rw [if_pos c5] at H
       have c5b0:((a0_1.toList == ([]:List UInt8)) == (a0_0.toList == ([97,108,108]:List UInt8))) = true:=c5
       (try (have c5s0a:¬ (a0_1.toList = ([]:List UInt8)):=by simpa using c5b0))
       (try (have c5s0b:(a0_1.toList == ([]:List UInt8)) = false:=by simpa using c5b0))
       (try (have c5s0c:(a0_1.toList == ([]:List UInt8)) = true:=by simpa using c5b0))
       (try (have c5s0d:a0_1.toList.isEmpty = false:=by simpa using c5b0))
       (try (have c5s0e:a0_1.toList.isEmpty = true:=by simpa using c5b0))
       (try (have c5wc4t:(a0_0.toList == ([97,108,108]:List UInt8)) = true:=by have h_:=c5b0;(first|rw [c4b0] at h_|rw [c4b1] at h_);simpa using h_))
       (try (have c5wc4f:(a0_0.toList == ([97,108,108]:List UInt8)) = false:=by have h_:=c5b0;(first|rw [c4b0] at h_|rw [c4b1] at h_);simpa using h_))
       (try (have c5b1:decide ((a0_1.toList == ([]:List UInt8)) = (a0_0.toList == ([97,108,108]:List UInt8))) = true:=by simpa using c5))
       (try (have c5b2:((a0_1.toList == ([]:List UInt8)) == (a0_0.toList == ([97,108,108]:List UInt8))) = true:=by simpa using c5))
       clear c5;replace H:=Option.bind_eq_some_iff.mp H;obtain ⟨t173,A60,H⟩:=H;(try dsimp only at H);have A6:=As0.mk A60;clear A60;by_cases c7:t173 = true
       · subst c7
         have H1:((spec_l1In.f a0_4 0 99999).bind fun t174=>(if t174 = true then (some (!a0_3)) else (some false))) = some r:=by rw [if_pos rfl] at H;exact H
         clear H;have H:=H1;clear H1;replace H:=Option.bind_eq_some_iff.mp H;obtain ⟨t174,A80,H⟩:=H;(try dsimp only at H);have A8:=As0.mk A80;clear A80;by_cases c9:t174 = true
         · subst c9
           have H1:(some (!a0_3)) = some r:=by rw [if_pos rfl] at H;exact H
           clear H;have H:=H1;clear H1;obtain rfl:=Option.some.inj H
           go_enter Tryz.func72,Tryz.ntmps72
           go_wp2_with (first|((with_reducible refine gate_dst (N:=1) rfl ?_);refine bE 1 #[.string a0_0,.string a0_1,.int .i64 a0_2,.bool a0_3,.int .i64 a0_4] 70 ?_;intro gb171 hg w10 hbox hb;have BK171:=As0.mk (hbox);have GW171:=As0.mk ((by rw [hg];exact (bsz (by repeat (first|(with_reducible first|exact HB.out|apply bal|apply pbN|apply bd1)|exact HB.out))):w.heap.size ≤ gb171));have GE171:=GW171;replace HB:=As0.mk (b3 HB.out hb);clear hb hbox hg;obtain ⟨hcz11_0,hcz11_1,hcz11_2,hcz11_3,hcz11_4⟩:=qc5 BK171.out;obtain ⟨hfz11_0,hfz11_1,hfz11_2,hfz11_3,hfz11_4⟩:=qz5 BK171.out)|((with_reducible refine gca (f:=108) rfl ?_);refine gL (some 5) Tryz.func108 #[.string a0_0] ?_;(with_reducible refine (spec_NameOk.calls k a0_0 true _ A2.out).mono ?_);rintro e w' ⟨rfl,⟨nd,rfl⟩⟩;refine ⟨_,rfl,?_⟩)|(go_at_call 35;(with_reducible refine (spec_l1In.calls a0_2 (-1) 99999 true _ A6.out).mono ?_);rintro e w' ⟨rfl,⟨nd,rfl⟩⟩)|(go_at_call 35;(with_reducible refine (spec_l1In.calls a0_4 0 99999 true _ A8.out).mono ?_);rintro e w' ⟨rfl,⟨nd,rfl⟩⟩))
           go_ret
           exact ⟨eW,by repeat (first|(with_reducible first|exact HB.out|apply bal|apply pbN|apply bd1|refine bst ?_ GE171.out)|exact HB.out)⟩
         · replace c9:=Bool.eq_false_iff.mpr c9
           subst c9;have H1:(some false) = some r:=by rw [if_neg (show ¬ (false = true) by decide)] at H;exact H
           clear H;have H:=H1;clear H1;obtain rfl:=Option.some.inj H
           go_enter Tryz.func72,Tryz.ntmps72
           go_wp2_with (first|((with_reducible refine gate_dst (N:=1) rfl ?_);refine bE 1 #[.string a0_0,.string a0_1,.int .i64 a0_2,.bool a0_3,.int .i64 a0_4] 70 ?_;intro gb171 hg w12 hbox hb;have BK171:=As0.mk (hbox);have GW171:=As0.mk ((by rw [hg];exact (bsz (by repeat (first|(with_reducible first|exact HB.out|apply bal|apply pbN|apply bd1)|exact HB.out))):w.heap.size ≤ gb171));have GE171:=GW171;replace HB:=As0.mk (b3 HB.out hb);clear hb hbox hg;obtain ⟨hcz13_0,hcz13_1,hcz13_2,hcz13_3,hcz13_4⟩:=qc5 BK171.out;obtain ⟨hfz13_0,hfz13_1,hfz13_2,hfz13_3,hfz13_4⟩:=qz5 BK171.out)|((with_reducible refine gca (f:=108) rfl ?_);refine gL (some 5) Tryz.func108 #[.string a0_0] ?_;(with_reducible refine (spec_NameOk.calls k a0_0 true _ A2.out).mono ?_);rintro e w' ⟨rfl,⟨nd,rfl⟩⟩;refine ⟨_,rfl,?_⟩)|(go_at_call 35;(with_reducible refine (spec_l1In.calls a0_2 (-1) 99999 true _ A6.out).mono ?_);rintro e w' ⟨rfl,⟨nd,rfl⟩⟩)|(go_at_call 35;(with_reducible refine (spec_l1In.calls a0_4 0 99999 false _ A8.out).mono ?_);rintro e w' ⟨rfl,⟨nd,rfl⟩⟩))
           go_ret
           exact ⟨eW,by repeat (first|(with_reducible first|exact HB.out|apply bal|apply pbN|apply bd1|refine bst ?_ GE171.out)|exact HB.out)⟩
       · replace c7:=Bool.eq_false_iff.mpr c7
         subst c7;have H1:(some false) = some r:=by rw [if_neg (show ¬ (false = true) by decide)] at H;exact H
         clear H;have H:=H1;clear H1;obtain rfl:=Option.some.inj H
         go_enter Tryz.func72,Tryz.ntmps72
         go_wp2_with (first|((with_reducible refine gate_dst (N:=1) rfl ?_);refine bE 1 #[.string a0_0,.string a0_1,.int .i64 a0_2,.bool a0_3,.int .i64 a0_4] 70 ?_;intro gb171 hg w14 hbox hb;have BK171:=As0.mk (hbox);have GW171:=As0.mk ((by rw [hg];exact (bsz (by repeat (first|(with_reducible first|exact HB.out|apply bal|apply pbN|apply bd1)|exact HB.out))):w.heap.size ≤ gb171));have GE171:=GW171;replace HB:=As0.mk (b3 HB.out hb);clear hb hbox hg;obtain ⟨hcz15_0,hcz15_1,hcz15_2,hcz15_3,hcz15_4⟩:=qc5 BK171.out;obtain ⟨hfz15_0,hfz15_1,hfz15_2,hfz15_3,hfz15_4⟩:=qz5 BK171.out)|((with_reducible refine gca (f:=108) rfl ?_);refine gL (some 5) Tryz.func108 #[.string a0_0] ?_;(with_reducible refine (spec_NameOk.calls k a0_0 true _ A2.out).mono ?_);rintro e w' ⟨rfl,⟨nd,rfl⟩⟩;refine ⟨_,rfl,?_⟩)|(go_at_call 35;(with_reducible refine (spec_l1In.calls a0_2 (-1) 99999 false _ A6.out).mono ?_);rintro e w' ⟨rfl,⟨nd,rfl⟩⟩))
         go_ret
         exact ⟨eW,by repeat (first|(with_reducible first|exact HB.out|apply bal|apply pbN|apply bd1|refine bst ?_ GE171.out)|exact HB.out)⟩
     · rw [if_neg c5] at H
       have c5b0:((a0_1.toList == ([]:List UInt8)) == (a0_0.toList == ([97,108,108]:List UInt8))) = false:=by simpa using c5
       (try (have c5s0a:¬ (a0_1.toList = ([]:List UInt8)):=by simpa using c5b0))
       (try (have c5s0b:(a0_1.toList == ([]:List UInt8)) = false:=by simpa using c5b0))
       (try (have c5s0c:(a0_1.toList == ([]:List UInt8)) = true:=by simpa using c5b0))
       (try (have c5s0d:a0_1.toList.isEmpty = false:=by simpa using c5b0))
       (try (have c5s0e:a0_1.toList.isEmpty = true:=by simpa using c5b0))
       (try (have c5wc4t:(a0_0.toList == ([97,108,108]:List UInt8)) = true:=by have h_:=c5b0;(first|rw [c4b0] at h_|rw [c4b1] at h_);simpa using h_))
       (try (have c5wc4f:(a0_0.toList == ([97,108,108]:List UInt8)) = false:=by have h_:=c5b0;(first|rw [c4b0] at h_|rw [c4b1] at h_);simpa using h_))
       (try (have c5b1:decide ((a0_1.toList == ([]:List UInt8)) = (a0_0.toList == ([97,108,108]:List UInt8))) = false:=by simpa using c5))
       (try (have c5b2:((a0_1.toList == ([]:List UInt8)) == (a0_0.toList == ([97,108,108]:List UInt8))) = false:=by simpa using c5))
       (try (have c5b3:¬ ((a0_1.toList == ([]:List UInt8)) = (a0_0.toList == ([97,108,108]:List UInt8))):=by simpa using c5))
       clear c5;obtain rfl:=Option.some.inj H
       go_enter Tryz.func72,Tryz.ntmps72
       go_wp2_with (first|((with_reducible refine gate_dst (N:=1) rfl ?_);refine bE 1 #[.string a0_0,.string a0_1,.int .i64 a0_2,.bool a0_3,.int .i64 a0_4] 70 ?_;intro gb171 hg w16 hbox hb;have BK171:=As0.mk (hbox);have GW171:=As0.mk ((by rw [hg];exact (bsz (by repeat (first|(with_reducible first|exact HB.out|apply bal|apply pbN|apply bd1)|exact HB.out))):w.heap.size ≤ gb171));have GE171:=GW171;replace HB:=As0.mk (b3 HB.out hb);clear hb hbox hg;obtain ⟨hcz17_0,hcz17_1,hcz17_2,hcz17_3,hcz17_4⟩:=qc5 BK171.out;obtain ⟨hfz17_0,hfz17_1,hfz17_2,hfz17_3,hfz17_4⟩:=qz5 BK171.out)|((with_reducible refine gca (f:=108) rfl ?_);refine gL (some 5) Tryz.func108 #[.string a0_0] ?_;(with_reducible refine (spec_NameOk.calls k a0_0 true _ A2.out).mono ?_);rintro e w' ⟨rfl,⟨nd,rfl⟩⟩;refine ⟨_,rfl,?_⟩))
       go_ret
       exact ⟨eW,by repeat (first|(with_reducible first|exact HB.out|apply bal|apply pbN|apply bd1|refine bst ?_ GE171.out)|exact HB.out)⟩
   · rw [if_neg c4] at H
     have c4b0:(a0_1.toList == ([]:List UInt8)) = false:=beq_eq_false_iff_ne.mpr c4;have c4b1:(a0_1.toList != ([]:List UInt8)) = true:=bne_iff_ne.mpr c4;replace H:=Option.bind_eq_some_iff.mp H;obtain ⟨t175,A180,H⟩:=H;(try dsimp only at H);have A18:=As0.mk A180;clear A180;by_cases c19:t175 = true
     · subst c19
       have H1:(if ((a0_1.toList == ([]:List UInt8)) == (a0_0.toList == ([97,108,108]:List UInt8))) = true then ((spec_l1In.f a0_2 (-1) 99999).bind fun t176=>(if t176 = true then ((spec_l1In.f a0_4 0 99999).bind fun t177=>(if t177 = true then (some true) else (some false))) else (some false))) else (some false)) = some r:=by rw [if_pos rfl] at H;exact H
       clear H;have H:=H1;clear H1;by_cases c20:((a0_1.toList == ([]:List UInt8)) == (a0_0.toList == ([97,108,108]:List UInt8))) = true
       · rw [if_pos c20] at H
         have c20b0:((a0_1.toList == ([]:List UInt8)) == (a0_0.toList == ([97,108,108]:List UInt8))) = true:=c20
         (try (have c20s0a:¬ (a0_1.toList = ([]:List UInt8)):=by simpa using c20b0))
         (try (have c20s0b:(a0_1.toList == ([]:List UInt8)) = false:=by simpa using c20b0))
         (try (have c20s0c:(a0_1.toList == ([]:List UInt8)) = true:=by simpa using c20b0))
         (try (have c20s0d:a0_1.toList.isEmpty = false:=by simpa using c20b0))
         (try (have c20s0e:a0_1.toList.isEmpty = true:=by simpa using c20b0))
         (try (have c20wc4t:(a0_0.toList == ([97,108,108]:List UInt8)) = true:=by have h_:=c20b0;(first|rw [c4b0] at h_|rw [c4b1] at h_);simpa using h_))
         (try (have c20wc4f:(a0_0.toList == ([97,108,108]:List UInt8)) = false:=by have h_:=c20b0;(first|rw [c4b0] at h_|rw [c4b1] at h_);simpa using h_))
         (try (have c20b1:decide ((a0_1.toList == ([]:List UInt8)) = (a0_0.toList == ([97,108,108]:List UInt8))) = true:=by simpa using c20))
         (try (have c20b2:((a0_1.toList == ([]:List UInt8)) == (a0_0.toList == ([97,108,108]:List UInt8))) = true:=by simpa using c20))
         clear c20;replace H:=Option.bind_eq_some_iff.mp H;obtain ⟨t176,A210,H⟩:=H;(try dsimp only at H);have A21:=As0.mk A210;clear A210;by_cases c22:t176 = true
         · subst c22
           have H1:((spec_l1In.f a0_4 0 99999).bind fun t177=>(if t177 = true then (some true) else (some false))) = some r:=by rw [if_pos rfl] at H;exact H
           clear H;have H:=H1;clear H1;replace H:=Option.bind_eq_some_iff.mp H;obtain ⟨t177,A230,H⟩:=H;(try dsimp only at H);have A23:=As0.mk A230;clear A230;by_cases c24:t177 = true
           · subst c24
             have H1:(some true) = some r:=by rw [if_pos rfl] at H;exact H
             clear H;have H:=H1;clear H1;obtain rfl:=Option.some.inj H
             go_enter Tryz.func72,Tryz.ntmps72
             go_wp2_with (first|((with_reducible refine gate_dst (N:=1) rfl ?_);refine bE 1 #[.string a0_0,.string a0_1,.int .i64 a0_2,.bool a0_3,.int .i64 a0_4] 70 ?_;intro gb171 hg w25 hbox hb;have BK171:=As0.mk (hbox);have GW171:=As0.mk ((by rw [hg];exact (bsz (by repeat (first|(with_reducible first|exact HB.out|apply bal|apply pbN|apply bd1)|exact HB.out))):w.heap.size ≤ gb171));have GE171:=GW171;replace HB:=As0.mk (b3 HB.out hb);clear hb hbox hg;obtain ⟨hcz26_0,hcz26_1,hcz26_2,hcz26_3,hcz26_4⟩:=qc5 BK171.out;obtain ⟨hfz26_0,hfz26_1,hfz26_2,hfz26_3,hfz26_4⟩:=qz5 BK171.out)|((with_reducible refine gca (f:=108) rfl ?_);refine gL (some 5) Tryz.func108 #[.string a0_0] ?_;(with_reducible refine (spec_NameOk.calls k a0_0 true _ A2.out).mono ?_);rintro e w' ⟨rfl,⟨nd,rfl⟩⟩;refine ⟨_,rfl,?_⟩)|(go_at_call 108;(with_reducible refine (spec_NameOk.calls k a0_1 true _ A18.out).mono ?_);rintro e w' ⟨rfl,⟨nd,rfl⟩⟩)|(go_at_call 35;(with_reducible refine (spec_l1In.calls a0_2 (-1) 99999 true _ A21.out).mono ?_);rintro e w' ⟨rfl,⟨nd,rfl⟩⟩)|(go_at_call 35;(with_reducible refine (spec_l1In.calls a0_4 0 99999 true _ A23.out).mono ?_);rintro e w' ⟨rfl,⟨nd,rfl⟩⟩))
             go_ret
             exact ⟨eW,by repeat (first|(with_reducible first|exact HB.out|apply bal|apply pbN|apply bd1|refine bst ?_ GE171.out)|exact HB.out)⟩
           · replace c24:=Bool.eq_false_iff.mpr c24
             subst c24;have H1:(some false) = some r:=by rw [if_neg (show ¬ (false = true) by decide)] at H;exact H
             clear H;have H:=H1;clear H1;obtain rfl:=Option.some.inj H
             go_enter Tryz.func72,Tryz.ntmps72
             go_wp2_with (first|((with_reducible refine gate_dst (N:=1) rfl ?_);refine bE 1 #[.string a0_0,.string a0_1,.int .i64 a0_2,.bool a0_3,.int .i64 a0_4] 70 ?_;intro gb171 hg w27 hbox hb;have BK171:=As0.mk (hbox);have GW171:=As0.mk ((by rw [hg];exact (bsz (by repeat (first|(with_reducible first|exact HB.out|apply bal|apply pbN|apply bd1)|exact HB.out))):w.heap.size ≤ gb171));have GE171:=GW171;replace HB:=As0.mk (b3 HB.out hb);clear hb hbox hg;obtain ⟨hcz28_0,hcz28_1,hcz28_2,hcz28_3,hcz28_4⟩:=qc5 BK171.out;obtain ⟨hfz28_0,hfz28_1,hfz28_2,hfz28_3,hfz28_4⟩:=qz5 BK171.out)|((with_reducible refine gca (f:=108) rfl ?_);refine gL (some 5) Tryz.func108 #[.string a0_0] ?_;(with_reducible refine (spec_NameOk.calls k a0_0 true _ A2.out).mono ?_);rintro e w' ⟨rfl,⟨nd,rfl⟩⟩;refine ⟨_,rfl,?_⟩)|(go_at_call 108;(with_reducible refine (spec_NameOk.calls k a0_1 true _ A18.out).mono ?_);rintro e w' ⟨rfl,⟨nd,rfl⟩⟩)|(go_at_call 35;(with_reducible refine (spec_l1In.calls a0_2 (-1) 99999 true _ A21.out).mono ?_);rintro e w' ⟨rfl,⟨nd,rfl⟩⟩)|(go_at_call 35;(with_reducible refine (spec_l1In.calls a0_4 0 99999 false _ A23.out).mono ?_);rintro e w' ⟨rfl,⟨nd,rfl⟩⟩))
             go_ret
             exact ⟨eW,by repeat (first|(with_reducible first|exact HB.out|apply bal|apply pbN|apply bd1|refine bst ?_ GE171.out)|exact HB.out)⟩
         · replace c22:=Bool.eq_false_iff.mpr c22
           subst c22;have H1:(some false) = some r:=by rw [if_neg (show ¬ (false = true) by decide)] at H;exact H
           clear H;have H:=H1;clear H1;obtain rfl:=Option.some.inj H
           go_enter Tryz.func72,Tryz.ntmps72
           go_wp2_with (first|((with_reducible refine gate_dst (N:=1) rfl ?_);refine bE 1 #[.string a0_0,.string a0_1,.int .i64 a0_2,.bool a0_3,.int .i64 a0_4] 70 ?_;intro gb171 hg w29 hbox hb;have BK171:=As0.mk (hbox);have GW171:=As0.mk ((by rw [hg];exact (bsz (by repeat (first|(with_reducible first|exact HB.out|apply bal|apply pbN|apply bd1)|exact HB.out))):w.heap.size ≤ gb171));have GE171:=GW171;replace HB:=As0.mk (b3 HB.out hb);clear hb hbox hg;obtain ⟨hcz30_0,hcz30_1,hcz30_2,hcz30_3,hcz30_4⟩:=qc5 BK171.out;obtain ⟨hfz30_0,hfz30_1,hfz30_2,hfz30_3,hfz30_4⟩:=qz5 BK171.out)|((with_reducible refine gca (f:=108) rfl ?_);refine gL (some 5) Tryz.func108 #[.string a0_0] ?_;(with_reducible refine (spec_NameOk.calls k a0_0 true _ A2.out).mono ?_);rintro e w' ⟨rfl,⟨nd,rfl⟩⟩;refine ⟨_,rfl,?_⟩)|(go_at_call 108;(with_reducible refine (spec_NameOk.calls k a0_1 true _ A18.out).mono ?_);rintro e w' ⟨rfl,⟨nd,rfl⟩⟩)|(go_at_call 35;(with_reducible refine (spec_l1In.calls a0_2 (-1) 99999 false _ A21.out).mono ?_);rintro e w' ⟨rfl,⟨nd,rfl⟩⟩))
           go_ret
           exact ⟨eW,by repeat (first|(with_reducible first|exact HB.out|apply bal|apply pbN|apply bd1|refine bst ?_ GE171.out)|exact HB.out)⟩
       · rw [if_neg c20] at H
         have c20b0:((a0_1.toList == ([]:List UInt8)) == (a0_0.toList == ([97,108,108]:List UInt8))) = false:=by simpa using c20
         (try (have c20s0a:¬ (a0_1.toList = ([]:List UInt8)):=by simpa using c20b0))
         (try (have c20s0b:(a0_1.toList == ([]:List UInt8)) = false:=by simpa using c20b0))
         (try (have c20s0c:(a0_1.toList == ([]:List UInt8)) = true:=by simpa using c20b0))
         (try (have c20s0d:a0_1.toList.isEmpty = false:=by simpa using c20b0))
         (try (have c20s0e:a0_1.toList.isEmpty = true:=by simpa using c20b0))
         (try (have c20wc4t:(a0_0.toList == ([97,108,108]:List UInt8)) = true:=by have h_:=c20b0;(first|rw [c4b0] at h_|rw [c4b1] at h_);simpa using h_))
         (try (have c20wc4f:(a0_0.toList == ([97,108,108]:List UInt8)) = false:=by have h_:=c20b0;(first|rw [c4b0] at h_|rw [c4b1] at h_);simpa using h_))
         (try (have c20b1:decide ((a0_1.toList == ([]:List UInt8)) = (a0_0.toList == ([97,108,108]:List UInt8))) = false:=by simpa using c20))
         (try (have c20b2:((a0_1.toList == ([]:List UInt8)) == (a0_0.toList == ([97,108,108]:List UInt8))) = false:=by simpa using c20))
         (try (have c20b3:¬ ((a0_1.toList == ([]:List UInt8)) = (a0_0.toList == ([97,108,108]:List UInt8))):=by simpa using c20))
         clear c20;obtain rfl:=Option.some.inj H
         go_enter Tryz.func72,Tryz.ntmps72
         go_wp2_with (first|((with_reducible refine gate_dst (N:=1) rfl ?_);refine bE 1 #[.string a0_0,.string a0_1,.int .i64 a0_2,.bool a0_3,.int .i64 a0_4] 70 ?_;intro gb171 hg w31 hbox hb;have BK171:=As0.mk (hbox);have GW171:=As0.mk ((by rw [hg];exact (bsz (by repeat (first|(with_reducible first|exact HB.out|apply bal|apply pbN|apply bd1)|exact HB.out))):w.heap.size ≤ gb171));have GE171:=GW171;replace HB:=As0.mk (b3 HB.out hb);clear hb hbox hg;obtain ⟨hcz32_0,hcz32_1,hcz32_2,hcz32_3,hcz32_4⟩:=qc5 BK171.out;obtain ⟨hfz32_0,hfz32_1,hfz32_2,hfz32_3,hfz32_4⟩:=qz5 BK171.out)|((with_reducible refine gca (f:=108) rfl ?_);refine gL (some 5) Tryz.func108 #[.string a0_0] ?_;(with_reducible refine (spec_NameOk.calls k a0_0 true _ A2.out).mono ?_);rintro e w' ⟨rfl,⟨nd,rfl⟩⟩;refine ⟨_,rfl,?_⟩)|(go_at_call 108;(with_reducible refine (spec_NameOk.calls k a0_1 true _ A18.out).mono ?_);rintro e w' ⟨rfl,⟨nd,rfl⟩⟩))
         go_ret
         exact ⟨eW,by repeat (first|(with_reducible first|exact HB.out|apply bal|apply pbN|apply bd1|refine bst ?_ GE171.out)|exact HB.out)⟩
     · replace c19:=Bool.eq_false_iff.mpr c19
       subst c19;have H1:(some false) = some r:=by rw [if_neg (show ¬ (false = true) by decide)] at H;exact H
       clear H;have H:=H1;clear H1;obtain rfl:=Option.some.inj H
       go_enter Tryz.func72,Tryz.ntmps72
       go_wp2_with (first|((with_reducible refine gate_dst (N:=1) rfl ?_);refine bE 1 #[.string a0_0,.string a0_1,.int .i64 a0_2,.bool a0_3,.int .i64 a0_4] 70 ?_;intro gb171 hg w33 hbox hb;have BK171:=As0.mk (hbox);have GW171:=As0.mk ((by rw [hg];exact (bsz (by repeat (first|(with_reducible first|exact HB.out|apply bal|apply pbN|apply bd1)|exact HB.out))):w.heap.size ≤ gb171));have GE171:=GW171;replace HB:=As0.mk (b3 HB.out hb);clear hb hbox hg;obtain ⟨hcz34_0,hcz34_1,hcz34_2,hcz34_3,hcz34_4⟩:=qc5 BK171.out;obtain ⟨hfz34_0,hfz34_1,hfz34_2,hfz34_3,hfz34_4⟩:=qz5 BK171.out)|((with_reducible refine gca (f:=108) rfl ?_);refine gL (some 5) Tryz.func108 #[.string a0_0] ?_;(with_reducible refine (spec_NameOk.calls k a0_0 true _ A2.out).mono ?_);rintro e w' ⟨rfl,⟨nd,rfl⟩⟩;refine ⟨_,rfl,?_⟩)|(go_at_call 108;(with_reducible refine (spec_NameOk.calls k a0_1 false _ A18.out).mono ?_);rintro e w' ⟨rfl,⟨nd,rfl⟩⟩))
       go_ret
       exact ⟨eW,by repeat (first|(with_reducible first|exact HB.out|apply bal|apply pbN|apply bd1|refine bst ?_ GE171.out)|exact HB.out)⟩
 · replace c3:=Bool.eq_false_iff.mpr c3
   subst c3;have H1:(some false) = some r:=by rw [if_neg (show ¬ (false = true) by decide)] at H;exact H
   clear H;have H:=H1;clear H1;obtain rfl:=Option.some.inj H
   go_enter Tryz.func72,Tryz.ntmps72
   go_wp2_with (first|((with_reducible refine gate_dst (N:=1) rfl ?_);refine bE 1 #[.string a0_0,.string a0_1,.int .i64 a0_2,.bool a0_3,.int .i64 a0_4] 70 ?_;intro gb171 hg w35 hbox hb;have BK171:=As0.mk (hbox);have GW171:=As0.mk ((by rw [hg];exact (bsz (by repeat (first|(with_reducible first|exact HB.out|apply bal|apply pbN|apply bd1)|exact HB.out))):w.heap.size ≤ gb171));have GE171:=GW171;replace HB:=As0.mk (b3 HB.out hb);clear hb hbox hg;obtain ⟨hcz36_0,hcz36_1,hcz36_2,hcz36_3,hcz36_4⟩:=qc5 BK171.out;obtain ⟨hfz36_0,hfz36_1,hfz36_2,hfz36_3,hfz36_4⟩:=qz5 BK171.out)|((with_reducible refine gca (f:=108) rfl ?_);refine gL (some 5) Tryz.func108 #[.string a0_0] ?_;(with_reducible refine (spec_NameOk.calls k a0_0 false _ A2.out).mono ?_);rintro e w' ⟨rfl,⟨nd,rfl⟩⟩;refine ⟨_,rfl,?_⟩))
   go_ret
   exact ⟨eW,by repeat (first|(with_reducible first|exact HB.out|apply bal|apply pbN|apply bd1|refine bst ?_ GE171.out)|exact HB.out)⟩
def spec_l8At.l0:Nat → List (SiS28) → ByteArray → Int → Option (Int)
 |0,_,_,_=>none
 |k + 1,x0,x1,x5=>if x5 < (x0.length:Int) then (if 0 ≤ x5 then (if ((riS37 x0 x5).f0).toList = x1.toList then (some x5) else (spec_l8At.l0 k x0 x1 (wrap64 (x5 + 1)))) else (none)) else (some (-1))
def spec_l8At.f (k:Nat) (l0:List (SiS28)) (a1:ByteArray):Option (Int):=spec_l8At.l0 k l0 a1 0
set_option maxHeartbeats 40000000 in
set_option maxRecDepth 100000 in
theorem spec_l8At.calls (k:Nat) (A0:Option Addr) (c0:Nat) (l0:List (SiS28)) (a1:ByteArray) (r:Int) (w:World) (hr0:Kd.C k70 w A0 l0.length l0) (hc0:l0.length ≤ c0) (h:spec_l8At.f k l0 a1 = some r) :
 Calls Tryz.prog 74 #[.slice A0 l0.length c0,.string a1] w fun e w'=>e = .returned (.int .i64 r) ∧ Drawn0 w w':=by
 have HR0:=As0.mk hr0;have HC0:=As0.mk hc0;clear hr0 hc0;have H:(spec_l8At.l0 k l0 a1 0) = some r:=h;clear h;have H':=As0.mk H;clear H
 go_enter Tryz.func74,Tryz.ntmps74
 go_wp2
 show _;go_loopg [5] k (fun kq v5 w'=>∃ (x5_1:Int),v5 = .int .i64 x5_1 ∧ As0 (spec_l8At.l0 kq l0 a1 x5_1 = some r) ∧ As0 (kq ≤ k) ∧ Drawn0 w w')
 case atStart=>exact ⟨(0),(by first|rfl|(simp;done)|(simp [*];done)),H',⟨Nat.le_refl _⟩,by repeat (first|exact Drawn0.refl _|apply Drawn0.step)⟩
 case round=>
  clear H'
  try clear p2
  obtain ⟨x5_1,rfl,HA,HK1,⟨m1,rfl⟩⟩:=hrel
  cases gk with
  |zero=>exact absurd HA.out (by simp [spec_l8At.l0])
  |succ k1=>
   have H:=HA.out;clear HA;simp only [spec_l8At.l0] at H;by_cases c3:x5_1 < (l0.length:Int)
   · rw [if_pos c3] at H
     have c3b0:decide (x5_1 < (l0.length:Int)) = true:=decide_eq_true c3;clear c3;by_cases c4:0 ≤ x5_1
     · rw [if_pos c4] at H
       have c4b0:decide (0 ≤ x5_1) = true:=decide_eq_true c4;clear c4;by_cases c5:((riS37 l0 x5_1).f0).toList = a1.toList
       · rw [if_pos c5] at H
         have c5b0:(((riS37 l0 x5_1).f0).toList == a1.toList) = true:=beq_iff_eq.mpr c5;have c5b1:(((riS37 l0 x5_1).f0).toList != a1.toList) = false:=bne_eq_false_iff_eq.mpr c5;clear c5;obtain rfl:=Option.some.inj H;have p178:0 ≤ (x5_1:Int):=odt;have q178:x5_1 < (l0.length:Int):=odt;obtain ⟨ad178,e178,hx178_0,hx178_1,hx178_2,hx178_3,hx178_4⟩:=at_T70 HR0.out x5_1 p178 q178
         cases e178
         replace p178:=eq_true p178;replace q178:=eq_true q178
         go_wp2
         go_ret
         exact ⟨by first|rfl|(simp;done)|(simp [*];done),by repeat (first|exact Drawn0.refl _|apply Drawn0.step)⟩
       · rw [if_neg c5] at H
         have c5b0:(((riS37 l0 x5_1).f0).toList == a1.toList) = false:=beq_eq_false_iff_ne.mpr c5;have c5b1:(((riS37 l0 x5_1).f0).toList != a1.toList) = true:=bne_iff_ne.mpr c5;have H':=As0.mk H;clear H;have p178:0 ≤ (x5_1:Int):=odt;have q178:x5_1 < (l0.length:Int):=odt;obtain ⟨ad178,e178,hx178_0,hx178_1,hx178_2,hx178_3,hx178_4⟩:=at_T70 HR0.out x5_1 p178 q178
         cases e178
         replace p178:=eq_true p178;replace q178:=eq_true q178
         go_wp2
         show _;go_roundg k1
         case measure=>have:=HK1.out;omega
         case rel=>exact ⟨(wrap64 (x5_1 + 1)),(by first|rfl|(simp;done)|(simp [*];done)),H',⟨by have:=HK1.out;omega⟩,by repeat (first|exact Drawn0.refl _|apply Drawn0.step)⟩
     · rw [if_neg c4] at H
       exact absurd H (by simp)
   · rw [if_neg c3] at H
     have c3b0:decide (x5_1 < (l0.length:Int)) = false:=decide_eq_false c3;clear c3;obtain rfl:=Option.some.inj H
     go_wp2
     go_ret
     exact ⟨by first|rfl|(simp;done)|(simp [*];done),by repeat (first|exact Drawn0.refl _|apply Drawn0.step)⟩
def spec_l8Up.l0:Nat → List (SiS28) → List ByteArray → Int → Option (List ByteArray)
 |0,_,_,_=>none
 |k + 1,x0,x5,x6=>if x6 ≥ 0 then (if (x5.length:Int) ≤ 7 then (if 0 ≤ x6 then (if x6 < (x0.length:Int) then (if x5.length < 8796093022208 then ((spec_l8At.f k x0 ((riS37 x0 x6).f1)).bind fun t188=>(spec_l8Up.l0 k x0 (x5 ++ [(riS37 x0 x6).f0]) t188)) else (none)) else (none)) else (none)) else (some x5)) else (some x5)
def spec_l8Up.f (k:Nat) (l0:List (SiS28)) (a1:ByteArray):Option (List ByteArray):=(spec_l8At.f k l0 a1).bind fun t182=>(spec_l8Up.l0 k l0 (([]:List ByteArray)) t182)
set_option maxHeartbeats 40000000 in
set_option maxRecDepth 100000 in
theorem spec_l8Up.calls (k:Nat) (A0:Option Addr) (c0:Nat) (l0:List (SiS28)) (a1:ByteArray) (r:List ByteArray) (w:World) (hr0:Kd.C k70 w A0 l0.length l0) (hc0:l0.length ≤ c0) (h:spec_l8Up.f k l0 a1 = some r) :
 Calls Tryz.prog 73 #[.slice A0 l0.length c0,.string a1] w fun e w'=>∃ v0_:Value,e = .returned (v0_) ∧ Kd.R Kd.string 9 w' w.heap.size (fun _=>True) v0_ r ∧ Below w.heap.size w w':=by
 have HR0:=As0.mk hr0;have HC0:=As0.mk hc0;clear hr0 hc0;have HB:=As0.mk (Below.refl w.heap.size w);have H:((spec_l8At.f k l0 a1).bind fun t182=>(spec_l8Up.l0 k l0 (([]:List ByteArray)) t182)) = some r:=h;clear h;obtain ⟨y179,hy179⟩:∃ y_:List ByteArray,y_ = (([]:List ByteArray)):=⟨_,rfl⟩;replace H:((spec_l8At.f k l0 a1).bind fun t182=>(spec_l8Up.l0 k l0 y179 t182)) = some r:=by first|(rw [hy179];with_reducible exact H)|(have H2_:=(Option.bind_some _ _).symm.trans H;rw [hy179];with_reducible exact H2_)|(have H2_:=(Option.bind_some _ _).symm.trans H;with_reducible exact H2_)|with_reducible exact H|(rw [hy179];exact H)|exact H
 have Ny179:=As0.mk hy179;clear hy179;replace H:=Option.bind_eq_some_iff.mp H;obtain ⟨t182,A30,H⟩:=H;(try dsimp only at H);have A3:=As0.mk A30;clear A30;have H':=As0.mk H;clear H
 go_enter Tryz.func73,Tryz.ntmps73
 go_wp2_with (first|((with_reducible refine gate_dst (N:=7) rfl ?_);(try (refine gate_guard (by rfl) ?_;dsimp only));refine Kd.R_lit Kd.string _ 9 ?hg (N:=7) ?hd (xs:=([]:List ByteArray)) (inner:=[]) (ok:=fun _=>True) (okp:=fun _=>True) ?hr ?hp (fun _ hk=>hk) trivial (Below.refl _ _) (Nat.le_refl _) (by simp) ?_;(case hd=>rfl);(case hg=>rfl);(case hr=>first|(go_simp;done)|(go_simp;rfl));(case hp=>exact (Reps.none _ _));intro v180 w4 ho5 hb hg_ hnew_;clear hg_ hnew_;(first|rw [← Ny179.out] at ho5|(simp only [Int.reduceToNat] at ho5;rw [← Ny179.out] at ho5));have HO181:=As0.mk (Kd.R_lower ho5 (bsz (by repeat (first|(with_reducible first|exact HB.out|apply bal|apply pbN|apply bd1)|exact HB.out))));replace HB:=As0.mk (b3 HB.out hb);clear hb ho5)|((with_reducible refine gca (f:=74) rfl ?_);refine gL (some 10) Tryz.func74 #[.slice A0 l0.length c0,.string a1] ?_;(with_reducible refine (spec_l8At.calls k _ _ l0 a1 t182 _ ?side1 ?side2 A3.out).mono ?_);(case side1=>repeat (first|exact (Kd.C_below HR0.out HB.out)|(with_reducible first|refine Kd.C_alloc ?_ _|refine Kd.C_drewN ?_ _|refine Kd.C_drew ?_)));(case side2=>exact HC0.out);rintro e w' ⟨rfl,⟨nd,rfl⟩⟩;refine ⟨_,rfl,?_⟩))
 show _;go_loopg [5,6] k (fun kq v5 v6 w'=>∃ (x5_1:List ByteArray) (x6_1:Int),v6 = .int .i64 x6_1 ∧ As0 (spec_l8Up.l0 kq l0 x5_1 x6_1 = some r) ∧ As0 (kq ≤ k) ∧ As0 (Kd.R Kd.string 9 w' w.heap.size (fun _=>True) v5 x5_1) ∧ As0 (Below w.heap.size w w'))
 case atStart=>exact ⟨(y179),(t182),(by first|rfl|(simp;done)|(simp [*];done)),H',⟨Nat.le_refl _⟩,⟨by (with_reducible repeat (first|apply Kd.Ral|apply Kd.RdN|apply Kd.R_drew));exact HO181.out⟩,⟨by repeat (first|(with_reducible first|exact HB.out|apply bal|apply pbN|apply bd1)|exact HB.out)⟩⟩
 case round=>
  clear H'
  try clear p2
  obtain ⟨x5_1,x6_1,rfl,HA,HK1,HO_5,HB⟩:=hrel
  cases gk with
  |zero=>exact absurd HA.out (by simp [spec_l8Up.l0])
  |succ k1=>
   have H:=HA.out;clear HA;simp only [spec_l8Up.l0] at H;by_cases c6:x6_1 ≥ 0
   · rw [if_pos c6] at H
     have c6b0:decide (0 ≤ x6_1) = true:=decide_eq_true c6;clear c6;by_cases c7:(x5_1.length:Int) ≤ 7
     · rw [if_pos c7] at H
       have c7b0:decide ((x5_1.length:Int) ≤ 7) = true:=decide_eq_true c7;have c7b1:decide (x5_1.length ≤ 7) = true:=decide_eq_true (by omega);clear c7;by_cases c8:0 ≤ x6_1
       · rw [if_pos c8] at H
         have c8b0:decide (0 ≤ x6_1) = true:=decide_eq_true c8;clear c8;by_cases c9:x6_1 < (l0.length:Int)
         · rw [if_pos c9] at H
           have c9b0:decide (x6_1 < (l0.length:Int)) = true:=decide_eq_true c9;clear c9;by_cases c10:x5_1.length < 8796093022208
           · rw [if_pos c10] at H
             have LMc10:=As0.mk c10;clear c10;obtain ⟨y184,hy184⟩:∃ y_:List ByteArray,y_ = (x5_1 ++ [(riS37 l0 x6_1).f0]):=⟨_,rfl⟩;replace H:((spec_l8At.f k1 l0 ((riS37 l0 x6_1).f1)).bind fun t188=>(spec_l8Up.l0 k1 l0 y184 t188)) = some r:=by first|(rw [hy184];with_reducible exact H)|(have H2_:=(Option.bind_some _ _).symm.trans H;rw [hy184];with_reducible exact H2_)|(have H2_:=(Option.bind_some _ _).symm.trans H;with_reducible exact H2_)|with_reducible exact H|(rw [hy184];exact H)|exact H
             have Ny184:=As0.mk hy184;clear hy184;replace H:=Option.bind_eq_some_iff.mp H;obtain ⟨t188,A110,H⟩:=H;(try dsimp only at H);have A11:=As0.mk A110;clear A110;have H':=As0.mk H;clear H;obtain ⟨Ao12,co12,eo12⟩:=Kd.R_slice HO_5.out;subst eo12;have p183:0 ≤ (x6_1:Int):=odt;have q183:x6_1 < (l0.length:Int):=odt;obtain ⟨ad183,e183,hx183_0,hx183_1,hx183_2,hx183_3,hx183_4⟩:=at_T70 HR0.out x6_1 p183 q183
             cases e183
             replace hx183_0:=bx HB.out rfl hx183_0;replace hx183_1:=bx HB.out rfl hx183_1;replace hx183_2:=bx HB.out rfl hx183_2;replace hx183_3:=bx HB.out rfl hx183_3;replace hx183_4:=bx HB.out rfl hx183_4;replace p183:=eq_true p183;replace q183:=eq_true q183
             go_wp2_with (first|((with_reducible refine gbi (b:=.append) (xs:=#[.tmp 25,.tmp 31]) rfl ?_);(try (refine gate_guard (by rfl) ?_;dsimp only));at_builtin;refine Kd.R_append Kd.string (w0:=w) w.heap.size rfl (.tmp 25) (.tmp 31) 40 9 (.string ⟨#[]⟩) 16 rfl Tryz.underlying40 info9 rfl (by decide) (by omega) (.slice Ao12 x5_1.length co12) x5_1 ((riS37 l0 x6_1).f0) [.string ((riS37 l0 x6_1).f0)] (fun _=>True) (fun _=>False) rfl rfl ?aP (fun _ hk=>hk.elim) ?aF ?aO ?aB ?aS ?aL ?_;(case aP=>exact rfl);(case aB=>exact (by repeat (first|(with_reducible first|exact HB.out|apply bal|apply pbN|apply bd1)|exact HB.out)));(case aF=>exact (fun _ _=>trivial));(case aO=>exact (by (with_reducible repeat (first|apply Kd.Ral|apply Kd.RdN|apply Kd.R_drew));exact HO_5.out));(case aS=>exact (bsz (by repeat (first|(with_reducible first|exact HB.out|apply bal|apply pbN|apply bd1)|exact HB.out))));(case aL=>have:=LMc10.out;omega);intro v185 w13 ho hb hg hat;rw [← Ny184.out] at ho;replace HB:=As0.mk (hb);have HO186:=As0.mk (ho);clear HO_5 ho hb hg hat;have p187:0 ≤ (x6_1:Int):=odt;have q187:x6_1 < (l0.length:Int):=odt;obtain ⟨ad187,e187,hx187_0,hx187_1,hx187_2,hx187_3,hx187_4⟩:=at_T70 HR0.out x6_1 p187 q187;obtain rfl:ad183 = ad187:=(by injection e187);replace hx187_0:=bx HB.out rfl hx187_0;replace hx187_1:=bx HB.out rfl hx187_1;replace hx187_2:=bx HB.out rfl hx187_2;replace hx187_3:=bx HB.out rfl hx187_3;replace hx187_4:=bx HB.out rfl hx187_4;replace p187:=eq_true p187;replace q187:=eq_true q187)|((with_reducible refine gca (f:=74) rfl ?_);refine gL (some 24) Tryz.func74 #[.slice (some ad183) l0.length c0,.string ((riS37 l0 x6_1).f1)] ?_;(with_reducible refine (spec_l8At.calls k1 _ _ l0 ((riS37 l0 x6_1).f1) t188 _ ?side1 ?side2 A11.out).mono ?_);(case side1=>repeat (first|exact (Kd.C_below HR0.out HB.out)|(with_reducible first|refine Kd.C_alloc ?_ _|refine Kd.C_drewN ?_ _|refine Kd.C_drew ?_)));(case side2=>exact HC0.out);rintro e w' ⟨rfl,⟨nd,rfl⟩⟩;refine ⟨_,rfl,?_⟩))
             show _;go_roundg k1
             case measure=>have:=HK1.out;omega
             case rel=>exact ⟨(y184),(t188),(by first|rfl|(simp;done)|(simp [*];done)),H',⟨by have:=HK1.out;omega⟩,⟨by (with_reducible repeat (first|apply Kd.Ral|apply Kd.RdN|apply Kd.R_drew));exact HO186.out⟩,⟨by repeat (first|(with_reducible first|exact HB.out|apply bal|apply pbN|apply bd1)|exact HB.out)⟩⟩
           · rw [if_neg c10] at H
             exact absurd H (by simp)
         · rw [if_neg c9] at H
           exact absurd H (by simp)
       · rw [if_neg c8] at H
         exact absurd H (by simp)
     · rw [if_neg c7] at H
       have c7b0:decide ((x5_1.length:Int) ≤ 7) = false:=decide_eq_false c7;have c7b1:decide (x5_1.length ≤ 7) = false:=decide_eq_false (by omega);clear c7;obtain rfl:=Option.some.inj H;obtain ⟨Ao14,co14,eo14⟩:=Kd.R_slice HO_5.out;subst eo14
       go_wp2
       go_ret
       exact ⟨_,by first|rfl|(simp [errW_none,errW_some] <;> rfl)|(simp [*,errW_none,errW_some] <;> rfl),by (with_reducible repeat (first|apply Kd.Ral|apply Kd.RdN|apply Kd.R_drew));exact HO_5.out,by repeat (first|(with_reducible first|exact HB.out|apply bal|apply pbN|apply bd1)|exact HB.out)⟩
   · rw [if_neg c6] at H
     have c6b0:decide (0 ≤ x6_1) = false:=decide_eq_false c6;clear c6;obtain rfl:=Option.some.inj H
     go_wp2
     go_ret
     exact ⟨_,by first|rfl|(simp [errW_none,errW_some] <;> rfl)|(simp [*,errW_none,errW_some] <;> rfl),by (with_reducible repeat (first|apply Kd.Ral|apply Kd.RdN|apply Kd.R_drew));exact HO_5.out,by repeat (first|(with_reducible first|exact HB.out|apply bal|apply pbN|apply bd1)|exact HB.out)⟩
mutual
def spec_SpacesOk.l0:Nat → List (SiS28) → Int → Option (Bool)
 |0,_,_=>none
 |k + 1,x0,x3=>if x3 < (x0.length:Int) then (if 0 ≤ x3 then ((spec_l8Ok.f k ((riS37 x0 x3).f0) ((riS37 x0 x3).f1) ((riS37 x0 x3).f2) ((riS37 x0 x3).f3) ((riS37 x0 x3).f4)).bind fun t190=>(if t190 = true then (if x3 > 0 then (if 0 ≤ (wrap64 (x3 - 1)) then (if (wrap64 (x3 - 1)) < (x0.length:Int) then (if ((Op.bytesLess (((riS37 x0 (wrap64 (x3 - 1))).f0).toList) (((riS37 x0 x3).f0).toList)) = true) then (spec_SpacesOk.l0 k x0 (wrap64 (x3 + 1))) else (some false)) else (none)) else (none)) else (spec_SpacesOk.l0 k x0 (wrap64 (x3 + 1)))) else (some false))) else (none)) else (spec_SpacesOk.l1 k x0 0)
def spec_SpacesOk.l1:Nat → List (SiS28) → Int → Option (Bool)
 |0,_,_=>none
 |k + 1,x0,x4=>if x4 < (x0.length:Int) then (if 0 ≤ x4 then ((spec_l8Up.f k x0 ((riS37 x0 x4).f0)).bind fun t194=>(if (t194.length:Int) > (x0.length:Int) then (some false) else (if 0 ≤ (wrap64 ((t194.length:Int) - 1)) then (if (wrap64 ((t194.length:Int) - 1)) < (t194.length:Int) then (if (rdOf ByteArray.empty t194 (wrap64 ((t194.length:Int) - 1))).toList = ([97,108,108]:List UInt8) then (spec_SpacesOk.l1 k x0 (wrap64 (x4 + 1))) else (some false)) else (none)) else (none)))) else (none)) else ((spec_l1In.f (x0.length:Int) 1 7).bind fun t198=>(if t198 = true then ((spec_l8At.f k x0 (⟨#[97,108,108]⟩:ByteArray)).bind fun t199=>(some (decide (t199 ≥ 0)))) else (some false)))
end
def spec_SpacesOk.f (k:Nat) (l0:List (SiS28)):Option (Bool):=spec_SpacesOk.l0 k l0 0
def spec_SpacesOk.T4:Bool × List (List Nat × List Nat):=(true,[([],[]),([],[]),([0,1],[0,1]),([2],[2]),([3],[3]),([4],[4]),([5,4],[5]),([6],[6]),([7,6],[6,7]),([8,6,6],[6,8]),([9],[9]),([9],[9]),([11,9],[9,11]),([10,12,9],[9,10,12]),([13,9],[9,13]),([14,9],[9,14]),([9],[9]),([9],[9]),([16,17,9],[9,16,17]),([18,9],[9,18]),([19,9],[9,19]),([15,20,9],[9,15,20]),([9,21,6],[6,9,21]),([6,22],[6,22])])
def spec_SpacesOk.B4:List Nat:=[0,0,3,7,15,31,63,127,255,511,1023,1023,3071,8191,16383,32767,1023,1023,197631,459775,984063,2097151,4194303,8388607]
theorem spec_SpacesOk.tab4:rtab .any (opsOf Tryz.f36 4) = spec_SpacesOk.T4:=by kernel_rfl
theorem spec_SpacesOk.bits4:waitsOk spec_SpacesOk.T4.2 spec_SpacesOk.B4 = true:=by kernel_rfl
abbrev spec_SpacesOk.calls.a0:Array Bool:=#[false,false,false,false,false,false,false,false,false,false,false,false,false,false,false,false,false,false,false,false,false,false,false,false]
abbrev spec_SpacesOk.calls.a1:Array Bool:=#[true,false,false,false,false,false,false,false,false,false,false,false,false,false,false,false,false,false,false,false,false,false,false,false]
abbrev spec_SpacesOk.calls.a2:Array Bool:=#[true,true,false,false,false,false,false,false,false,false,false,false,false,false,false,false,false,false,false,false,false,false,false,false]
abbrev spec_SpacesOk.calls.a3:Array Bool:=#[true,true,true,false,false,false,false,false,false,false,false,false,false,false,false,false,false,false,false,false,false,false,false,false]
abbrev spec_SpacesOk.calls.a4:Array Bool:=#[true,true,true,true,false,false,false,false,false,false,false,false,false,false,false,false,false,false,false,false,false,false,false,false]
abbrev spec_SpacesOk.calls.a5:Array Bool:=#[true,true,true,true,true,false,false,false,false,false,false,false,false,false,false,false,false,false,false,false,false,false,false,false]
abbrev spec_SpacesOk.calls.a6:Array Bool:=#[true,true,true,true,true,true,false,false,false,false,false,false,false,false,false,false,false,false,false,false,false,false,false,false]
abbrev spec_SpacesOk.calls.a7:Array Bool:=#[true,true,true,true,true,true,true,false,false,false,false,false,false,false,false,false,false,false,false,false,false,false,false,false]
abbrev spec_SpacesOk.calls.a8:Array Bool:=#[true,true,true,true,true,true,true,true,false,false,false,false,false,false,false,false,false,false,false,false,false,false,false,false]
abbrev spec_SpacesOk.calls.a9:Array Bool:=#[true,true,true,true,true,true,true,true,true,false,false,false,false,false,false,false,false,false,false,false,false,false,false,false]
abbrev spec_SpacesOk.calls.a10:Array Bool:=#[true,true,true,true,true,true,true,true,true,true,false,false,false,false,false,false,false,false,false,false,false,false,false,false]
abbrev spec_SpacesOk.calls.a11:Array Bool:=#[true,true,true,true,true,true,true,true,true,true,true,false,false,false,false,false,false,false,false,false,false,false,false,false]
abbrev spec_SpacesOk.calls.a12:Array Bool:=#[true,true,true,true,true,true,true,true,true,true,true,true,false,false,false,false,false,false,false,false,false,false,false,false]
abbrev spec_SpacesOk.calls.a13:Array Bool:=#[true,true,true,true,true,true,true,true,true,true,true,true,true,false,false,false,false,false,false,false,false,false,false,false]
abbrev spec_SpacesOk.calls.a14:Array Bool:=#[true,true,true,true,true,true,true,true,true,true,true,true,true,true,false,false,false,false,false,false,false,false,false,false]
abbrev spec_SpacesOk.calls.a15:Array Bool:=#[true,true,true,true,true,true,true,true,true,true,true,true,true,true,true,false,false,false,false,false,false,false,false,false]
abbrev spec_SpacesOk.calls.a16:Array Bool:=#[true,true,true,true,true,true,true,true,true,true,true,true,true,true,true,true,true,true,true,true,false,false,false,false]
abbrev spec_SpacesOk.calls.a17:Array Bool:=#[true,true,true,true,true,true,true,true,true,true,true,true,true,true,true,true,true,true,true,true,true,false,false,false]
abbrev spec_SpacesOk.calls.a18:Array Bool:=#[true,true,true,true,true,true,true,true,true,true,true,true,true,true,true,true,true,true,true,true,true,true,false,false]
abbrev spec_SpacesOk.calls.a19:Array Bool:=#[true,true,true,true,true,true,true,true,true,true,true,true,true,true,true,true,true,true,true,true,true,true,true,false]
abbrev spec_SpacesOk.calls.a20:Array Bool:=#[true,true,true,true,true,true,true,true,true,true,true,true,true,true,true,true,true,true,true,true,true,true,true,true]
abbrev spec_SpacesOk.calls.a21:Array Bool:=#[true,true,true,true,true,true,true,true,true,true,true,true,true,true,true,false,true,false,false,false,false,false,false,false]
abbrev spec_SpacesOk.calls.a22:Array Bool:=#[true,true,true,true,true,true,true,true,true,true,true,true,true,true,true,false,true,true,false,false,false,false,false,false]
abbrev spec_SpacesOk.calls.a23:Array Bool:=#[true,true,true,true,true,true,true,true,true,true,true,true,true,true,true,false,true,true,true,false,false,false,false,false]
abbrev spec_SpacesOk.calls.a24:Array Bool:=#[true,true,true,true,true,true,true,true,true,true,true,true,true,true,true,false,true,true,true,true,false,false,false,false]
abbrev spec_SpacesOk.calls.a25:Array Bool:=#[true,true,true,true,true,true,true,true,true,true,true,true,true,true,true,true,false,false,false,false,false,false,false,false]
abbrev spec_SpacesOk.calls.a26:Array Bool:=#[true,true,true,true,true,true,true,true,true,true,true,true,true,true,true,true,true,false,false,false,false,false,false,false]
abbrev spec_SpacesOk.calls.a27:Array Bool:=#[true,true,true,true,true,true,true,true,true,true,true,true,true,true,true,true,true,true,false,false,false,false,false,false]
abbrev spec_SpacesOk.calls.a28:Array Bool:=#[true,true,true,true,true,true,true,true,true,true,true,true,true,true,true,true,true,true,true,false,false,false,false,false]
set_option maxHeartbeats 40000000 in
set_option maxRecDepth 100000 in
theorem spec_SpacesOk.calls (k:Nat) (A0:Option Addr) (c0:Nat) (l0:List (SiS28)) (r:Bool) (w:World) (hr0:Kd.C k70 w A0 l0.length l0) (hc0:l0.length ≤ c0) (h:spec_SpacesOk.f k l0 = some r) :
 Calls Tryz.prog 36 #[.slice A0 l0.length c0] w fun e w'=>e = .returned (.bool r) ∧ Below w.heap.size w w':=by
 have hu70:=Tryz.underlying70;have HR0:=As0.mk hr0;have HC0:=As0.mk hc0;clear hr0 hc0;have HB:=As0.mk (Below.refl w.heap.size w);have H:(spec_SpacesOk.l0 k l0 0) = some r:=h;clear h;have H':=As0.mk H;clear H
 go_enter Tryz.func36,Tryz.ntmps36
 go_wp2
 show _;go_loopg [3] k (fun kq v3 w'=>∃ (x3_1:Int),v3 = .int .i64 x3_1 ∧ As0 (spec_SpacesOk.l0 kq l0 x3_1 = some r) ∧ As0 (kq ≤ k) ∧ As0 (Below w.heap.size w w'))
 case atStart=>exact ⟨(0),(by first|rfl|(simp;done)|(simp [*];done)),H',⟨Nat.le_refl _⟩,⟨by repeat (first|(with_reducible first|exact HB.out|apply bal|apply pbN|apply bd1)|exact HB.out)⟩⟩
 case round=>
  clear H';obtain ⟨x3_1,rfl,HA,HK1,HB⟩:=hrel
  cases gk with
  |zero=>exact absurd HA.out (by simp [spec_SpacesOk.l0])
  |succ k1=>
   have H:=HA.out;clear HA;simp only [spec_SpacesOk.l0] at H;by_cases c2:x3_1 < (l0.length:Int)
   · rw [if_pos c2] at H
     have c2b0:decide (x3_1 < (l0.length:Int)) = true:=decide_eq_true c2;clear c2;by_cases c3:0 ≤ x3_1
     · rw [if_pos c3] at H
       have c3b0:decide (0 ≤ x3_1) = true:=decide_eq_true c3;clear c3;replace H:=Option.bind_eq_some_iff.mp H;obtain ⟨t190,A40,H⟩:=H;(try dsimp only at H);have A4:=As0.mk A40;clear A40;by_cases c5:t190 = true
       · subst c5
         have H1:(if x3_1 > 0 then (if 0 ≤ (wrap64 (x3_1 - 1)) then (if (wrap64 (x3_1 - 1)) < (l0.length:Int) then (if ((Op.bytesLess (((riS37 l0 (wrap64 (x3_1 - 1))).f0).toList) (((riS37 l0 x3_1).f0).toList)) = true) then (spec_SpacesOk.l0 k1 l0 (wrap64 (x3_1 + 1))) else (some false)) else (none)) else (none)) else (spec_SpacesOk.l0 k1 l0 (wrap64 (x3_1 + 1)))) = some r:=by rw [if_pos rfl] at H;exact H
         clear H;have H:=H1;clear H1;by_cases c6:x3_1 > 0
         · rw [if_pos c6] at H
           have c6b0:decide (0 < x3_1) = true:=decide_eq_true c6;clear c6;obtain ⟨ji7,hji7⟩:∃ j_:Int,(wrap64 (x3_1 - 1)) = j_:=⟨_,rfl⟩;replace H:(if 0 ≤ (ji7) then (if (ji7) < (l0.length:Int) then (if ((Op.bytesLess (((riS37 l0 (ji7)).f0).toList) (((riS37 l0 x3_1).f0).toList)) = true) then (spec_SpacesOk.l0 k1 l0 (wrap64 (x3_1 + 1))) else (some false)) else (none)) else (none)) = some r:=by first|(rw [hji7] at H;exact H)|(simp only [hji7] at H ⊢;exact H)
           (try rw [hji7] at A4)
           have hji7w:(IntKind.i64.wrap (x3_1 - 1)) = ji7:=(i64_w _).trans hji7;by_cases c8:0 ≤ (ji7)
           · rw [if_pos c8] at H
             have c8b0:decide (0 ≤ (ji7)) = true:=decide_eq_true c8;clear c8;by_cases c9:(ji7) < (l0.length:Int)
             · rw [if_pos c9] at H
               have c9b0:decide ((ji7) < (l0.length:Int)) = true:=decide_eq_true c9;clear c9;by_cases c10:((Op.bytesLess (((riS37 l0 (ji7)).f0).toList) (((riS37 l0 x3_1).f0).toList)) = true)
               · rw [if_pos c10] at H
                 have c10b0:(Op.bytesLess (((riS37 l0 (ji7)).f0).toList) (((riS37 l0 x3_1).f0).toList)) = true:=c10;clear c10;have H':=As0.mk H;clear H
                 try go_wp2
                 replace HB:=As0.mk (bd1 HB.out);have p189:0 ≤ (x3_1:Int):=odt;have q189:x3_1 < (l0.length:Int):=odt;obtain ⟨ad189,e189,hx189_0,hx189_1,hx189_2,hx189_3,hx189_4⟩:=at_T70 HR0.out x3_1 p189 q189;have hw189_4:=hx189_4;have hw189_3:=hx189_3;have hw189_2:=hx189_2;have hw189_1:=hx189_1;have hw189_0:=hx189_0
                 cases e189
                 replace hx189_0:=bx HB.out rfl hx189_0;replace hx189_1:=bx HB.out rfl hx189_1;replace hx189_2:=bx HB.out rfl hx189_2;replace hx189_3:=bx HB.out rfl hx189_3;replace hx189_4:=bx HB.out rfl hx189_4;replace p189:=eq_true p189;replace q189:=eq_true q189;have p191:0 ≤ ((ji7):Int):=odt;have q191:(ji7) < (l0.length:Int):=odt;obtain ⟨ad191,e191,hx191_0,hx191_1,hx191_2,hx191_3,hx191_4⟩:=at_T70 HR0.out (ji7) p191 q191;have hw191_4:=hx191_4;have hw191_3:=hx191_3;have hw191_2:=hx191_2;have hw191_1:=hx191_1;have hw191_0:=hx191_0;obtain rfl:ad189 = ad191:=(by injection e191);replace hx191_0:=bx HB.out rfl hx191_0;replace hx191_1:=bx HB.out rfl hx191_1;replace hx191_2:=bx HB.out rfl hx191_2;replace hx191_3:=bx HB.out rfl hx191_3;replace hx191_4:=bx HB.out rfl hx191_4;replace p191:=eq_true p191;replace q191:=eq_true q191;have p192:0 ≤ (x3_1:Int):=odt;have q192:x3_1 < (l0.length:Int):=odt;obtain ⟨ad192,e192,hx192_0,hx192_1,hx192_2,hx192_3,hx192_4⟩:=at_T70 HR0.out x3_1 p192 q192;have hw192_4:=hx192_4;have hw192_3:=hx192_3;have hw192_2:=hx192_2;have hw192_1:=hx192_1;have hw192_0:=hx192_0;obtain rfl:ad189 = ad192:=(by injection e192);replace hx192_0:=bx HB.out rfl hx192_0;replace hx192_1:=bx HB.out rfl hx192_1;replace hx192_2:=bx HB.out rfl hx192_2;replace hx192_3:=bx HB.out rfl hx192_3;replace hx192_4:=bx HB.out rfl hx192_4;replace p192:=eq_true p192;replace q192:=eq_true q192;refine start_ (n:=24) (S:=fun w'=>w'.cell? (ad189.add ((x3_1).toNat * 5)) = some (.string ((riS37 l0 x3_1).f0)) ∧ w'.cell? ⟨(ad189.add ((x3_1).toNat * 5)).block,(ad189.add ((x3_1).toNat * 5)).off + 1,none⟩ = some (.string ((riS37 l0 x3_1).f1)) ∧ w'.cell? ⟨(ad189.add ((x3_1).toNat * 5)).block,(ad189.add ((x3_1).toNat * 5)).off + 2,none⟩ = some (.int .i64 ((riS37 l0 x3_1).f2)) ∧ w'.cell? ⟨(ad189.add ((x3_1).toNat * 5)).block,(ad189.add ((x3_1).toNat * 5)).off + 3,none⟩ = some (.bool ((riS37 l0 x3_1).f3)) ∧ w'.cell? ⟨(ad189.add ((x3_1).toNat * 5)).block,(ad189.add ((x3_1).toNat * 5)).off + 4,none⟩ = some (.int .i64 ((riS37 l0 x3_1).f4)) ∧ w'.cell? (ad189.add (((ji7)).toNat * 5)) = some (.string ((riS37 l0 (ji7)).f0)) ∧ w'.cell? ⟨(ad189.add (((ji7)).toNat * 5)).block,(ad189.add (((ji7)).toNat * 5)).off + 1,none⟩ = some (.string ((riS37 l0 (ji7)).f1)) ∧ w'.cell? ⟨(ad189.add (((ji7)).toNat * 5)).block,(ad189.add (((ji7)).toNat * 5)).off + 2,none⟩ = some (.int .i64 ((riS37 l0 (ji7)).f2)) ∧ w'.cell? ⟨(ad189.add (((ji7)).toNat * 5)).block,(ad189.add (((ji7)).toNat * 5)).off + 3,none⟩ = some (.bool ((riS37 l0 (ji7)).f3)) ∧ w'.cell? ⟨(ad189.add (((ji7)).toNat * 5)).block,(ad189.add (((ji7)).toNat * 5)).off + 4,none⟩ = some (.int .i64 ((riS37 l0 (ji7)).f4)) ∧ w'.cell? (ad189.add ((x3_1).toNat * 5)) = some (.string ((riS37 l0 x3_1).f0)) ∧ w'.cell? ⟨(ad189.add ((x3_1).toNat * 5)).block,(ad189.add ((x3_1).toNat * 5)).off + 1,none⟩ = some (.string ((riS37 l0 x3_1).f1)) ∧ w'.cell? ⟨(ad189.add ((x3_1).toNat * 5)).block,(ad189.add ((x3_1).toNat * 5)).off + 2,none⟩ = some (.int .i64 ((riS37 l0 x3_1).f2)) ∧ w'.cell? ⟨(ad189.add ((x3_1).toNat * 5)).block,(ad189.add ((x3_1).toNat * 5)).off + 3,none⟩ = some (.bool ((riS37 l0 x3_1).f3)) ∧ w'.cell? ⟨(ad189.add ((x3_1).toNat * 5)).block,(ad189.add ((x3_1).toNat * 5)).off + 4,none⟩ = some (.int .i64 ((riS37 l0 x3_1).f4))) (ds:=[]) spec_SpacesOk.calls.a0 (by kernel_rfl) rfl rfl ⟨((HB.out.cell (World.block_lt_of_cell? w _ hw189_0)).trans hw189_0),((HB.out.cell (World.block_lt_of_cell? w _ hw189_1)).trans hw189_1),((HB.out.cell (World.block_lt_of_cell? w _ hw189_2)).trans hw189_2),((HB.out.cell (World.block_lt_of_cell? w _ hw189_3)).trans hw189_3),((HB.out.cell (World.block_lt_of_cell? w _ hw189_4)).trans hw189_4),((HB.out.cell (World.block_lt_of_cell? w _ hw191_0)).trans hw191_0),((HB.out.cell (World.block_lt_of_cell? w _ hw191_1)).trans hw191_1),((HB.out.cell (World.block_lt_of_cell? w _ hw191_2)).trans hw191_2),((HB.out.cell (World.block_lt_of_cell? w _ hw191_3)).trans hw191_3),((HB.out.cell (World.block_lt_of_cell? w _ hw191_4)).trans hw191_4),((HB.out.cell (World.block_lt_of_cell? w _ hw192_0)).trans hw192_0),((HB.out.cell (World.block_lt_of_cell? w _ hw192_1)).trans hw192_1),((HB.out.cell (World.block_lt_of_cell? w _ hw192_2)).trans hw192_2),((HB.out.cell (World.block_lt_of_cell? w _ hw192_3)).trans hw192_3),((HB.out.cell (World.block_lt_of_cell? w _ hw192_4)).trans hw192_4)⟩ (fun hHeld=>?_);refine with_tabW spec_SpacesOk.tab4 spec_SpacesOk.bits4 (fun HT_ HW_=>?_);generalize wr.drew = w11 at HB hx189_0 hx189_1 hx189_2 hx189_3 hx189_4 hx191_0 hx191_1 hx191_2 hx191_3 hx191_4 hx192_0 hx192_1 hx192_2 hx192_3 hx192_4 hHeld ⊢
                 refine pu 0 (some 12) spec_SpacesOk.calls.a1 rfl rfl HT_.out ?_;refine pu 1 (some 13) spec_SpacesOk.calls.a2 rfl rfl HT_.out ?_;refine pu 2 (some 14) spec_SpacesOk.calls.a3 rfl rfl HT_.out ?_;refine tk 3 (some 15) spec_SpacesOk.calls.a4 rfl rfl HT_.out HW_.out hHeld (by rintro w' ⟨s0,s1,s2,s3,s4,s5,s6,s7,s8,s9,s10,s11,s12,s13,s14⟩;go_simp;with_reducible rfl) ?_;refine one_ (i:=4) (N:=some 16) spec_SpacesOk.calls.a5 rfl rfl (one_of HT_.out (by kernel_rfl)) (by decide) (fun K hK=>?_);refine goes_ Tryz.func72 (by kernel_rfl) rfl #[.agg #[.string ((riS37 l0 x3_1).f0),.string ((riS37 l0 x3_1).f1),.int .i64 ((riS37 l0 x3_1).f2),.bool ((riS37 l0 x3_1).f3),.int .i64 ((riS37 l0 x3_1).f4)]] (by rfl) rfl rfl (by (try simp only [List.map_toArray,List.map_cons,List.map_nil]);first|done|rfl|(simp only [List.length_drop,List.length_take];rfl)) ?_;with_reducible refine (spec_l8Ok.calls k1 ((riS37 l0 x3_1).f0) ((riS37 l0 x3_1).f1) ((riS37 l0 x3_1).f2) ((riS37 l0 x3_1).f3) ((riS37 l0 x3_1).f4) true _ A4.out).mono ?_
                 rintro e w12 ⟨rfl,hb⟩;refine ⟨_,rfl,?_⟩;replace HB:=As0.mk (b3 HB.out hb)
                    
                    
                    
                    
                 refine hK.out _ _ ⟨((HB.out.cell (World.block_lt_of_cell? w _ hw189_0)).trans hw189_0),((HB.out.cell (World.block_lt_of_cell? w _ hw189_1)).trans hw189_1),((HB.out.cell (World.block_lt_of_cell? w _ hw189_2)).trans hw189_2),((HB.out.cell (World.block_lt_of_cell? w _ hw189_3)).trans hw189_3),((HB.out.cell (World.block_lt_of_cell? w _ hw189_4)).trans hw189_4),((HB.out.cell (World.block_lt_of_cell? w _ hw191_0)).trans hw191_0),((HB.out.cell (World.block_lt_of_cell? w _ hw191_1)).trans hw191_1),((HB.out.cell (World.block_lt_of_cell? w _ hw191_2)).trans hw191_2),((HB.out.cell (World.block_lt_of_cell? w _ hw191_3)).trans hw191_3),((HB.out.cell (World.block_lt_of_cell? w _ hw191_4)).trans hw191_4),((HB.out.cell (World.block_lt_of_cell? w _ hw192_0)).trans hw192_0),((HB.out.cell (World.block_lt_of_cell? w _ hw192_1)).trans hw192_1),((HB.out.cell (World.block_lt_of_cell? w _ hw192_2)).trans hw192_2),((HB.out.cell (World.block_lt_of_cell? w _ hw192_3)).trans hw192_3),((HB.out.cell (World.block_lt_of_cell? w _ hw192_4)).trans hw192_4)⟩ (fun hHeld=>?_);clear hK K;refine norm_ (a':=?_) ?_ ?_;rotate_left
                 · show Act.put _ (some 16) _ = _
                   simp only [Act.put,sA,sZ,sS,i64_w,i32_w];rfl
                 refine pu 5 (some 17) spec_SpacesOk.calls.a6 rfl rfl HT_.out ?_;refine pu 6 (some 18) spec_SpacesOk.calls.a7 rfl rfl HT_.out ?_;refine pu 7 (some 19) spec_SpacesOk.calls.a8 rfl rfl HT_.out ?_;refine pu 8 (some 20) spec_SpacesOk.calls.a9 rfl rfl HT_.out ?_;refine pu 9 (some 21) spec_SpacesOk.calls.a10 rfl rfl HT_.out ?_;refine pu 10 (some 22) spec_SpacesOk.calls.a11 rfl rfl HT_.out ?_;refine pu 11 (some 23) spec_SpacesOk.calls.a12 rfl rfl HT_.out ?_;refine pu 12 (some 24) spec_SpacesOk.calls.a13 rfl rfl HT_.out ?_;refine pu 13 (some 25) spec_SpacesOk.calls.a14 rfl rfl HT_.out ?_;refine pu 14 (some 26) spec_SpacesOk.calls.a15 rfl rfl HT_.out ?_;refine pu 16 (some 28) spec_SpacesOk.calls.a21 rfl rfl HT_.out ?_;refine pu 17 (some 29) spec_SpacesOk.calls.a22 rfl rfl HT_.out ?_;refine pu 18 (some 30) spec_SpacesOk.calls.a23 rfl rfl HT_.out ?_;refine pu 19 (some 31) spec_SpacesOk.calls.a24 rfl rfl HT_.out ?_;refine tk 15 (some 27) spec_SpacesOk.calls.a16 rfl rfl HT_.out HW_.out hHeld (by rintro w' ⟨s0,s1,s2,s3,s4,s5,s6,s7,s8,s9,s10,s11,s12,s13,s14⟩;go_simp;with_reducible rfl) ?_;refine tk 20 (some 32) spec_SpacesOk.calls.a17 rfl rfl HT_.out HW_.out hHeld (by rintro w' ⟨s0,s1,s2,s3,s4,s5,s6,s7,s8,s9,s10,s11,s12,s13,s14⟩;go_simp;with_reducible rfl) ?_;refine pu 21 (some 33) spec_SpacesOk.calls.a18 rfl rfl HT_.out ?_;refine pu 22 (some 34) spec_SpacesOk.calls.a19 rfl rfl HT_.out ?_;refine pu 23 (some 35) spec_SpacesOk.calls.a20 rfl rfl HT_.out ?_;refine done_ (done_of HT_.out (by kernel_rfl)) ?_
                 try go_wp2
                 show _;go_roundg k1
                 case measure=>have:=HK1.out;omega
                 case rel=>exact ⟨(wrap64 (x3_1 + 1)),(by first|rfl|(simp;done)|(simp [*];done)),H',⟨by have:=HK1.out;omega⟩,⟨by repeat (first|(with_reducible first|exact HB.out|apply bal|apply pbN|apply bd1)|exact HB.out)⟩⟩
               · rw [if_neg c10] at H
                 have c10b0:(Op.bytesLess (((riS37 l0 (ji7)).f0).toList) (((riS37 l0 x3_1).f0).toList)) = false:=by simpa using c10
                 clear c10;obtain rfl:=Option.some.inj H
                 try go_wp2
                 replace HB:=As0.mk (bd1 HB.out);have p189:0 ≤ (x3_1:Int):=odt;have q189:x3_1 < (l0.length:Int):=odt;obtain ⟨ad189,e189,hx189_0,hx189_1,hx189_2,hx189_3,hx189_4⟩:=at_T70 HR0.out x3_1 p189 q189;have hw189_4:=hx189_4;have hw189_3:=hx189_3;have hw189_2:=hx189_2;have hw189_1:=hx189_1;have hw189_0:=hx189_0
                 cases e189
                 replace hx189_0:=bx HB.out rfl hx189_0;replace hx189_1:=bx HB.out rfl hx189_1;replace hx189_2:=bx HB.out rfl hx189_2;replace hx189_3:=bx HB.out rfl hx189_3;replace hx189_4:=bx HB.out rfl hx189_4;replace p189:=eq_true p189;replace q189:=eq_true q189;have p191:0 ≤ ((ji7):Int):=odt;have q191:(ji7) < (l0.length:Int):=odt;obtain ⟨ad191,e191,hx191_0,hx191_1,hx191_2,hx191_3,hx191_4⟩:=at_T70 HR0.out (ji7) p191 q191;have hw191_4:=hx191_4;have hw191_3:=hx191_3;have hw191_2:=hx191_2;have hw191_1:=hx191_1;have hw191_0:=hx191_0;obtain rfl:ad189 = ad191:=(by injection e191);replace hx191_0:=bx HB.out rfl hx191_0;replace hx191_1:=bx HB.out rfl hx191_1;replace hx191_2:=bx HB.out rfl hx191_2;replace hx191_3:=bx HB.out rfl hx191_3;replace hx191_4:=bx HB.out rfl hx191_4;replace p191:=eq_true p191;replace q191:=eq_true q191;have p192:0 ≤ (x3_1:Int):=odt;have q192:x3_1 < (l0.length:Int):=odt;obtain ⟨ad192,e192,hx192_0,hx192_1,hx192_2,hx192_3,hx192_4⟩:=at_T70 HR0.out x3_1 p192 q192;have hw192_4:=hx192_4;have hw192_3:=hx192_3;have hw192_2:=hx192_2;have hw192_1:=hx192_1;have hw192_0:=hx192_0;obtain rfl:ad189 = ad192:=(by injection e192);replace hx192_0:=bx HB.out rfl hx192_0;replace hx192_1:=bx HB.out rfl hx192_1;replace hx192_2:=bx HB.out rfl hx192_2;replace hx192_3:=bx HB.out rfl hx192_3;replace hx192_4:=bx HB.out rfl hx192_4;replace p192:=eq_true p192;replace q192:=eq_true q192;refine start_ (n:=24) (S:=fun w'=>w'.cell? (ad189.add ((x3_1).toNat * 5)) = some (.string ((riS37 l0 x3_1).f0)) ∧ w'.cell? ⟨(ad189.add ((x3_1).toNat * 5)).block,(ad189.add ((x3_1).toNat * 5)).off + 1,none⟩ = some (.string ((riS37 l0 x3_1).f1)) ∧ w'.cell? ⟨(ad189.add ((x3_1).toNat * 5)).block,(ad189.add ((x3_1).toNat * 5)).off + 2,none⟩ = some (.int .i64 ((riS37 l0 x3_1).f2)) ∧ w'.cell? ⟨(ad189.add ((x3_1).toNat * 5)).block,(ad189.add ((x3_1).toNat * 5)).off + 3,none⟩ = some (.bool ((riS37 l0 x3_1).f3)) ∧ w'.cell? ⟨(ad189.add ((x3_1).toNat * 5)).block,(ad189.add ((x3_1).toNat * 5)).off + 4,none⟩ = some (.int .i64 ((riS37 l0 x3_1).f4)) ∧ w'.cell? (ad189.add (((ji7)).toNat * 5)) = some (.string ((riS37 l0 (ji7)).f0)) ∧ w'.cell? ⟨(ad189.add (((ji7)).toNat * 5)).block,(ad189.add (((ji7)).toNat * 5)).off + 1,none⟩ = some (.string ((riS37 l0 (ji7)).f1)) ∧ w'.cell? ⟨(ad189.add (((ji7)).toNat * 5)).block,(ad189.add (((ji7)).toNat * 5)).off + 2,none⟩ = some (.int .i64 ((riS37 l0 (ji7)).f2)) ∧ w'.cell? ⟨(ad189.add (((ji7)).toNat * 5)).block,(ad189.add (((ji7)).toNat * 5)).off + 3,none⟩ = some (.bool ((riS37 l0 (ji7)).f3)) ∧ w'.cell? ⟨(ad189.add (((ji7)).toNat * 5)).block,(ad189.add (((ji7)).toNat * 5)).off + 4,none⟩ = some (.int .i64 ((riS37 l0 (ji7)).f4)) ∧ w'.cell? (ad189.add ((x3_1).toNat * 5)) = some (.string ((riS37 l0 x3_1).f0)) ∧ w'.cell? ⟨(ad189.add ((x3_1).toNat * 5)).block,(ad189.add ((x3_1).toNat * 5)).off + 1,none⟩ = some (.string ((riS37 l0 x3_1).f1)) ∧ w'.cell? ⟨(ad189.add ((x3_1).toNat * 5)).block,(ad189.add ((x3_1).toNat * 5)).off + 2,none⟩ = some (.int .i64 ((riS37 l0 x3_1).f2)) ∧ w'.cell? ⟨(ad189.add ((x3_1).toNat * 5)).block,(ad189.add ((x3_1).toNat * 5)).off + 3,none⟩ = some (.bool ((riS37 l0 x3_1).f3)) ∧ w'.cell? ⟨(ad189.add ((x3_1).toNat * 5)).block,(ad189.add ((x3_1).toNat * 5)).off + 4,none⟩ = some (.int .i64 ((riS37 l0 x3_1).f4))) (ds:=[]) spec_SpacesOk.calls.a0 (by kernel_rfl) rfl rfl ⟨((HB.out.cell (World.block_lt_of_cell? w _ hw189_0)).trans hw189_0),((HB.out.cell (World.block_lt_of_cell? w _ hw189_1)).trans hw189_1),((HB.out.cell (World.block_lt_of_cell? w _ hw189_2)).trans hw189_2),((HB.out.cell (World.block_lt_of_cell? w _ hw189_3)).trans hw189_3),((HB.out.cell (World.block_lt_of_cell? w _ hw189_4)).trans hw189_4),((HB.out.cell (World.block_lt_of_cell? w _ hw191_0)).trans hw191_0),((HB.out.cell (World.block_lt_of_cell? w _ hw191_1)).trans hw191_1),((HB.out.cell (World.block_lt_of_cell? w _ hw191_2)).trans hw191_2),((HB.out.cell (World.block_lt_of_cell? w _ hw191_3)).trans hw191_3),((HB.out.cell (World.block_lt_of_cell? w _ hw191_4)).trans hw191_4),((HB.out.cell (World.block_lt_of_cell? w _ hw192_0)).trans hw192_0),((HB.out.cell (World.block_lt_of_cell? w _ hw192_1)).trans hw192_1),((HB.out.cell (World.block_lt_of_cell? w _ hw192_2)).trans hw192_2),((HB.out.cell (World.block_lt_of_cell? w _ hw192_3)).trans hw192_3),((HB.out.cell (World.block_lt_of_cell? w _ hw192_4)).trans hw192_4)⟩ (fun hHeld=>?_);refine with_tabW spec_SpacesOk.tab4 spec_SpacesOk.bits4 (fun HT_ HW_=>?_);generalize wr.drew = w13 at HB hx189_0 hx189_1 hx189_2 hx189_3 hx189_4 hx191_0 hx191_1 hx191_2 hx191_3 hx191_4 hx192_0 hx192_1 hx192_2 hx192_3 hx192_4 hHeld ⊢
                 refine pu 0 (some 12) spec_SpacesOk.calls.a1 rfl rfl HT_.out ?_;refine pu 1 (some 13) spec_SpacesOk.calls.a2 rfl rfl HT_.out ?_;refine pu 2 (some 14) spec_SpacesOk.calls.a3 rfl rfl HT_.out ?_;refine tk 3 (some 15) spec_SpacesOk.calls.a4 rfl rfl HT_.out HW_.out hHeld (by rintro w' ⟨s0,s1,s2,s3,s4,s5,s6,s7,s8,s9,s10,s11,s12,s13,s14⟩;go_simp;with_reducible rfl) ?_;refine one_ (i:=4) (N:=some 16) spec_SpacesOk.calls.a5 rfl rfl (one_of HT_.out (by kernel_rfl)) (by decide) (fun K hK=>?_);refine goes_ Tryz.func72 (by kernel_rfl) rfl #[.agg #[.string ((riS37 l0 x3_1).f0),.string ((riS37 l0 x3_1).f1),.int .i64 ((riS37 l0 x3_1).f2),.bool ((riS37 l0 x3_1).f3),.int .i64 ((riS37 l0 x3_1).f4)]] (by rfl) rfl rfl (by (try simp only [List.map_toArray,List.map_cons,List.map_nil]);first|done|rfl|(simp only [List.length_drop,List.length_take];rfl)) ?_;with_reducible refine (spec_l8Ok.calls k1 ((riS37 l0 x3_1).f0) ((riS37 l0 x3_1).f1) ((riS37 l0 x3_1).f2) ((riS37 l0 x3_1).f3) ((riS37 l0 x3_1).f4) true _ A4.out).mono ?_
                 rintro e w14 ⟨rfl,hb⟩;refine ⟨_,rfl,?_⟩;replace HB:=As0.mk (b3 HB.out hb)
                    
                    
                    
                    
                 refine hK.out _ _ ⟨((HB.out.cell (World.block_lt_of_cell? w _ hw189_0)).trans hw189_0),((HB.out.cell (World.block_lt_of_cell? w _ hw189_1)).trans hw189_1),((HB.out.cell (World.block_lt_of_cell? w _ hw189_2)).trans hw189_2),((HB.out.cell (World.block_lt_of_cell? w _ hw189_3)).trans hw189_3),((HB.out.cell (World.block_lt_of_cell? w _ hw189_4)).trans hw189_4),((HB.out.cell (World.block_lt_of_cell? w _ hw191_0)).trans hw191_0),((HB.out.cell (World.block_lt_of_cell? w _ hw191_1)).trans hw191_1),((HB.out.cell (World.block_lt_of_cell? w _ hw191_2)).trans hw191_2),((HB.out.cell (World.block_lt_of_cell? w _ hw191_3)).trans hw191_3),((HB.out.cell (World.block_lt_of_cell? w _ hw191_4)).trans hw191_4),((HB.out.cell (World.block_lt_of_cell? w _ hw192_0)).trans hw192_0),((HB.out.cell (World.block_lt_of_cell? w _ hw192_1)).trans hw192_1),((HB.out.cell (World.block_lt_of_cell? w _ hw192_2)).trans hw192_2),((HB.out.cell (World.block_lt_of_cell? w _ hw192_3)).trans hw192_3),((HB.out.cell (World.block_lt_of_cell? w _ hw192_4)).trans hw192_4)⟩ (fun hHeld=>?_);clear hK K;refine norm_ (a':=?_) ?_ ?_;rotate_left
                 · show Act.put _ (some 16) _ = _
                   simp only [Act.put,sA,sZ,sS,i64_w,i32_w];rfl
                 refine pu 5 (some 17) spec_SpacesOk.calls.a6 rfl rfl HT_.out ?_;refine pu 6 (some 18) spec_SpacesOk.calls.a7 rfl rfl HT_.out ?_;refine pu 7 (some 19) spec_SpacesOk.calls.a8 rfl rfl HT_.out ?_;refine pu 8 (some 20) spec_SpacesOk.calls.a9 rfl rfl HT_.out ?_;refine pu 9 (some 21) spec_SpacesOk.calls.a10 rfl rfl HT_.out ?_;refine pu 10 (some 22) spec_SpacesOk.calls.a11 rfl rfl HT_.out ?_;refine pu 11 (some 23) spec_SpacesOk.calls.a12 rfl rfl HT_.out ?_;refine pu 12 (some 24) spec_SpacesOk.calls.a13 rfl rfl HT_.out ?_;refine pu 13 (some 25) spec_SpacesOk.calls.a14 rfl rfl HT_.out ?_;refine pu 14 (some 26) spec_SpacesOk.calls.a15 rfl rfl HT_.out ?_;refine pu 16 (some 28) spec_SpacesOk.calls.a21 rfl rfl HT_.out ?_;refine pu 17 (some 29) spec_SpacesOk.calls.a22 rfl rfl HT_.out ?_;refine pu 18 (some 30) spec_SpacesOk.calls.a23 rfl rfl HT_.out ?_;refine pu 19 (some 31) spec_SpacesOk.calls.a24 rfl rfl HT_.out ?_;refine tk 15 (some 27) spec_SpacesOk.calls.a16 rfl rfl HT_.out HW_.out hHeld (by rintro w' ⟨s0,s1,s2,s3,s4,s5,s6,s7,s8,s9,s10,s11,s12,s13,s14⟩;go_simp;with_reducible rfl) ?_;refine tk 20 (some 32) spec_SpacesOk.calls.a17 rfl rfl HT_.out HW_.out hHeld (by rintro w' ⟨s0,s1,s2,s3,s4,s5,s6,s7,s8,s9,s10,s11,s12,s13,s14⟩;go_simp;with_reducible rfl) ?_;refine pu 21 (some 33) spec_SpacesOk.calls.a18 rfl rfl HT_.out ?_;refine pu 22 (some 34) spec_SpacesOk.calls.a19 rfl rfl HT_.out ?_;refine pu 23 (some 35) spec_SpacesOk.calls.a20 rfl rfl HT_.out ?_;refine done_ (done_of HT_.out (by kernel_rfl)) ?_
                 try go_wp2
                 go_ret
                 exact ⟨by first|rfl|(simp [errW_none,errW_some] <;> rfl)|(simp only [← hji7];first|rfl|(simp [errW_none,errW_some] <;> rfl))|(simp [*,errW_none,errW_some] <;> rfl),by repeat (first|(with_reducible first|exact HB.out|apply bal|apply pbN|apply bd1)|exact HB.out)⟩
             · rw [if_neg c9] at H
               exact absurd H (by simp)
           · rw [if_neg c8] at H
             exact absurd H (by simp)
         · rw [if_neg c6] at H
           have c6b0:decide (0 < x3_1) = false:=decide_eq_false c6;clear c6;have H':=As0.mk H;clear H
           try go_wp2
           replace HB:=As0.mk (bd1 HB.out);have p189:0 ≤ (x3_1:Int):=odt;have q189:x3_1 < (l0.length:Int):=odt;obtain ⟨ad189,e189,hx189_0,hx189_1,hx189_2,hx189_3,hx189_4⟩:=at_T70 HR0.out x3_1 p189 q189;have hw189_4:=hx189_4;have hw189_3:=hx189_3;have hw189_2:=hx189_2;have hw189_1:=hx189_1;have hw189_0:=hx189_0
           cases e189
           replace hx189_0:=bx HB.out rfl hx189_0;replace hx189_1:=bx HB.out rfl hx189_1;replace hx189_2:=bx HB.out rfl hx189_2;replace hx189_3:=bx HB.out rfl hx189_3;replace hx189_4:=bx HB.out rfl hx189_4;replace p189:=eq_true p189;replace q189:=eq_true q189;refine start_ (n:=24) (S:=fun w'=>w'.cell? (ad189.add ((x3_1).toNat * 5)) = some (.string ((riS37 l0 x3_1).f0)) ∧ w'.cell? ⟨(ad189.add ((x3_1).toNat * 5)).block,(ad189.add ((x3_1).toNat * 5)).off + 1,none⟩ = some (.string ((riS37 l0 x3_1).f1)) ∧ w'.cell? ⟨(ad189.add ((x3_1).toNat * 5)).block,(ad189.add ((x3_1).toNat * 5)).off + 2,none⟩ = some (.int .i64 ((riS37 l0 x3_1).f2)) ∧ w'.cell? ⟨(ad189.add ((x3_1).toNat * 5)).block,(ad189.add ((x3_1).toNat * 5)).off + 3,none⟩ = some (.bool ((riS37 l0 x3_1).f3)) ∧ w'.cell? ⟨(ad189.add ((x3_1).toNat * 5)).block,(ad189.add ((x3_1).toNat * 5)).off + 4,none⟩ = some (.int .i64 ((riS37 l0 x3_1).f4))) (ds:=[]) spec_SpacesOk.calls.a0 (by kernel_rfl) rfl rfl ⟨((HB.out.cell (World.block_lt_of_cell? w _ hw189_0)).trans hw189_0),((HB.out.cell (World.block_lt_of_cell? w _ hw189_1)).trans hw189_1),((HB.out.cell (World.block_lt_of_cell? w _ hw189_2)).trans hw189_2),((HB.out.cell (World.block_lt_of_cell? w _ hw189_3)).trans hw189_3),((HB.out.cell (World.block_lt_of_cell? w _ hw189_4)).trans hw189_4)⟩ (fun hHeld=>?_);refine with_tabW spec_SpacesOk.tab4 spec_SpacesOk.bits4 (fun HT_ HW_=>?_);generalize wr.drew = w15 at HB hx189_0 hx189_1 hx189_2 hx189_3 hx189_4 hHeld ⊢
           refine pu 0 (some 12) spec_SpacesOk.calls.a1 rfl rfl HT_.out ?_;refine pu 1 (some 13) spec_SpacesOk.calls.a2 rfl rfl HT_.out ?_;refine pu 2 (some 14) spec_SpacesOk.calls.a3 rfl rfl HT_.out ?_;refine tk 3 (some 15) spec_SpacesOk.calls.a4 rfl rfl HT_.out HW_.out hHeld (by rintro w' ⟨s0,s1,s2,s3,s4⟩;go_simp;with_reducible rfl) ?_;refine one_ (i:=4) (N:=some 16) spec_SpacesOk.calls.a5 rfl rfl (one_of HT_.out (by kernel_rfl)) (by decide) (fun K hK=>?_);refine goes_ Tryz.func72 (by kernel_rfl) rfl #[.agg #[.string ((riS37 l0 x3_1).f0),.string ((riS37 l0 x3_1).f1),.int .i64 ((riS37 l0 x3_1).f2),.bool ((riS37 l0 x3_1).f3),.int .i64 ((riS37 l0 x3_1).f4)]] (by rfl) rfl rfl (by (try simp only [List.map_toArray,List.map_cons,List.map_nil]);first|done|rfl|(simp only [List.length_drop,List.length_take];rfl)) ?_;with_reducible refine (spec_l8Ok.calls k1 ((riS37 l0 x3_1).f0) ((riS37 l0 x3_1).f1) ((riS37 l0 x3_1).f2) ((riS37 l0 x3_1).f3) ((riS37 l0 x3_1).f4) true _ A4.out).mono ?_
           rintro e w16 ⟨rfl,hb⟩;refine ⟨_,rfl,?_⟩;replace HB:=As0.mk (b3 HB.out hb)
              
              
              
              
           refine hK.out _ _ ⟨((HB.out.cell (World.block_lt_of_cell? w _ hw189_0)).trans hw189_0),((HB.out.cell (World.block_lt_of_cell? w _ hw189_1)).trans hw189_1),((HB.out.cell (World.block_lt_of_cell? w _ hw189_2)).trans hw189_2),((HB.out.cell (World.block_lt_of_cell? w _ hw189_3)).trans hw189_3),((HB.out.cell (World.block_lt_of_cell? w _ hw189_4)).trans hw189_4)⟩ (fun hHeld=>?_);clear hK K;refine norm_ (a':=?_) ?_ ?_;rotate_left
           · show Act.put _ (some 16) _ = _
             simp only [Act.put,sA,sZ,sS,i64_w,i32_w];rfl
           refine pu 5 (some 17) spec_SpacesOk.calls.a6 rfl rfl HT_.out ?_;refine pu 6 (some 18) spec_SpacesOk.calls.a7 rfl rfl HT_.out ?_;refine pu 7 (some 19) spec_SpacesOk.calls.a8 rfl rfl HT_.out ?_;refine pu 8 (some 20) spec_SpacesOk.calls.a9 rfl rfl HT_.out ?_;refine pu 9 (some 21) spec_SpacesOk.calls.a10 rfl rfl HT_.out ?_;refine pn 10 (some 22) spec_SpacesOk.calls.a11 rfl rfl HT_.out ?_;refine pn 11 (some 23) spec_SpacesOk.calls.a12 rfl rfl HT_.out ?_;refine pn 12 (some 24) spec_SpacesOk.calls.a13 rfl rfl HT_.out ?_;refine pn 13 (some 25) spec_SpacesOk.calls.a14 rfl rfl HT_.out ?_;refine pn 14 (some 26) spec_SpacesOk.calls.a15 rfl rfl HT_.out ?_;refine pn 15 (some 27) spec_SpacesOk.calls.a25 rfl rfl HT_.out ?_;refine pn 16 (some 28) spec_SpacesOk.calls.a26 rfl rfl HT_.out ?_;refine pn 17 (some 29) spec_SpacesOk.calls.a27 rfl rfl HT_.out ?_;refine pn 18 (some 30) spec_SpacesOk.calls.a28 rfl rfl HT_.out ?_;refine pn 19 (some 31) spec_SpacesOk.calls.a16 rfl rfl HT_.out ?_;refine pn 20 (some 32) spec_SpacesOk.calls.a17 rfl rfl HT_.out ?_;refine pn 21 (some 33) spec_SpacesOk.calls.a18 rfl rfl HT_.out ?_;refine pu 22 (some 34) spec_SpacesOk.calls.a19 rfl rfl HT_.out ?_;refine pu 23 (some 35) spec_SpacesOk.calls.a20 rfl rfl HT_.out ?_;refine done_ (done_of HT_.out (by kernel_rfl)) ?_
           try go_wp2
           show _;go_roundg k1
           case measure=>have:=HK1.out;omega
           case rel=>exact ⟨(wrap64 (x3_1 + 1)),(by first|rfl|(simp;done)|(simp [*];done)),H',⟨by have:=HK1.out;omega⟩,⟨by repeat (first|(with_reducible first|exact HB.out|apply bal|apply pbN|apply bd1)|exact HB.out)⟩⟩
       · replace c5:=Bool.eq_false_iff.mpr c5
         subst c5;have H1:(some false) = some r:=by rw [if_neg (show ¬ (false = true) by decide)] at H;exact H
         clear H;have H:=H1;clear H1;obtain rfl:=Option.some.inj H
         try go_wp2
         replace HB:=As0.mk (bd1 HB.out);have p189:0 ≤ (x3_1:Int):=odt;have q189:x3_1 < (l0.length:Int):=odt;obtain ⟨ad189,e189,hx189_0,hx189_1,hx189_2,hx189_3,hx189_4⟩:=at_T70 HR0.out x3_1 p189 q189;have hw189_4:=hx189_4;have hw189_3:=hx189_3;have hw189_2:=hx189_2;have hw189_1:=hx189_1;have hw189_0:=hx189_0
         cases e189
         replace hx189_0:=bx HB.out rfl hx189_0;replace hx189_1:=bx HB.out rfl hx189_1;replace hx189_2:=bx HB.out rfl hx189_2;replace hx189_3:=bx HB.out rfl hx189_3;replace hx189_4:=bx HB.out rfl hx189_4;replace p189:=eq_true p189;replace q189:=eq_true q189;refine start_ (n:=24) (S:=fun w'=>w'.cell? (ad189.add ((x3_1).toNat * 5)) = some (.string ((riS37 l0 x3_1).f0)) ∧ w'.cell? ⟨(ad189.add ((x3_1).toNat * 5)).block,(ad189.add ((x3_1).toNat * 5)).off + 1,none⟩ = some (.string ((riS37 l0 x3_1).f1)) ∧ w'.cell? ⟨(ad189.add ((x3_1).toNat * 5)).block,(ad189.add ((x3_1).toNat * 5)).off + 2,none⟩ = some (.int .i64 ((riS37 l0 x3_1).f2)) ∧ w'.cell? ⟨(ad189.add ((x3_1).toNat * 5)).block,(ad189.add ((x3_1).toNat * 5)).off + 3,none⟩ = some (.bool ((riS37 l0 x3_1).f3)) ∧ w'.cell? ⟨(ad189.add ((x3_1).toNat * 5)).block,(ad189.add ((x3_1).toNat * 5)).off + 4,none⟩ = some (.int .i64 ((riS37 l0 x3_1).f4))) (ds:=[]) spec_SpacesOk.calls.a0 (by kernel_rfl) rfl rfl ⟨((HB.out.cell (World.block_lt_of_cell? w _ hw189_0)).trans hw189_0),((HB.out.cell (World.block_lt_of_cell? w _ hw189_1)).trans hw189_1),((HB.out.cell (World.block_lt_of_cell? w _ hw189_2)).trans hw189_2),((HB.out.cell (World.block_lt_of_cell? w _ hw189_3)).trans hw189_3),((HB.out.cell (World.block_lt_of_cell? w _ hw189_4)).trans hw189_4)⟩ (fun hHeld=>?_);refine with_tabW spec_SpacesOk.tab4 spec_SpacesOk.bits4 (fun HT_ HW_=>?_);generalize wr.drew = w17 at HB hx189_0 hx189_1 hx189_2 hx189_3 hx189_4 hHeld ⊢
         refine pu 0 (some 12) spec_SpacesOk.calls.a1 rfl rfl HT_.out ?_;refine pu 1 (some 13) spec_SpacesOk.calls.a2 rfl rfl HT_.out ?_;refine pu 2 (some 14) spec_SpacesOk.calls.a3 rfl rfl HT_.out ?_;refine tk 3 (some 15) spec_SpacesOk.calls.a4 rfl rfl HT_.out HW_.out hHeld (by rintro w' ⟨s0,s1,s2,s3,s4⟩;go_simp;with_reducible rfl) ?_;refine one_ (i:=4) (N:=some 16) spec_SpacesOk.calls.a5 rfl rfl (one_of HT_.out (by kernel_rfl)) (by decide) (fun K hK=>?_);refine goes_ Tryz.func72 (by kernel_rfl) rfl #[.agg #[.string ((riS37 l0 x3_1).f0),.string ((riS37 l0 x3_1).f1),.int .i64 ((riS37 l0 x3_1).f2),.bool ((riS37 l0 x3_1).f3),.int .i64 ((riS37 l0 x3_1).f4)]] (by rfl) rfl rfl (by (try simp only [List.map_toArray,List.map_cons,List.map_nil]);first|done|rfl|(simp only [List.length_drop,List.length_take];rfl)) ?_;with_reducible refine (spec_l8Ok.calls k1 ((riS37 l0 x3_1).f0) ((riS37 l0 x3_1).f1) ((riS37 l0 x3_1).f2) ((riS37 l0 x3_1).f3) ((riS37 l0 x3_1).f4) false _ A4.out).mono ?_
         rintro e w18 ⟨rfl,hb⟩;refine ⟨_,rfl,?_⟩;replace HB:=As0.mk (b3 HB.out hb)
            
            
            
            
         refine hK.out _ _ ⟨((HB.out.cell (World.block_lt_of_cell? w _ hw189_0)).trans hw189_0),((HB.out.cell (World.block_lt_of_cell? w _ hw189_1)).trans hw189_1),((HB.out.cell (World.block_lt_of_cell? w _ hw189_2)).trans hw189_2),((HB.out.cell (World.block_lt_of_cell? w _ hw189_3)).trans hw189_3),((HB.out.cell (World.block_lt_of_cell? w _ hw189_4)).trans hw189_4)⟩ (fun hHeld=>?_);clear hK K;refine norm_ (a':=?_) ?_ ?_;rotate_left
         · show Act.put _ (some 16) _ = _
           simp only [Act.put,sA,sZ,sS,i64_w,i32_w];rfl
         refine pu 5 (some 17) spec_SpacesOk.calls.a6 rfl rfl HT_.out ?_;refine pu 6 (some 18) spec_SpacesOk.calls.a7 rfl rfl HT_.out ?_;refine pn 7 (some 19) spec_SpacesOk.calls.a8 rfl rfl HT_.out ?_;refine pn 8 (some 20) spec_SpacesOk.calls.a9 rfl rfl HT_.out ?_;refine pn 9 (some 21) spec_SpacesOk.calls.a10 rfl rfl HT_.out ?_;refine pn 10 (some 22) spec_SpacesOk.calls.a11 rfl rfl HT_.out ?_;refine pn 11 (some 23) spec_SpacesOk.calls.a12 rfl rfl HT_.out ?_;refine pn 12 (some 24) spec_SpacesOk.calls.a13 rfl rfl HT_.out ?_;refine pn 13 (some 25) spec_SpacesOk.calls.a14 rfl rfl HT_.out ?_;refine pn 14 (some 26) spec_SpacesOk.calls.a15 rfl rfl HT_.out ?_;refine pn 15 (some 27) spec_SpacesOk.calls.a25 rfl rfl HT_.out ?_;refine pn 16 (some 28) spec_SpacesOk.calls.a26 rfl rfl HT_.out ?_;refine pn 17 (some 29) spec_SpacesOk.calls.a27 rfl rfl HT_.out ?_;refine pn 18 (some 30) spec_SpacesOk.calls.a28 rfl rfl HT_.out ?_;refine pn 19 (some 31) spec_SpacesOk.calls.a16 rfl rfl HT_.out ?_;refine pn 20 (some 32) spec_SpacesOk.calls.a17 rfl rfl HT_.out ?_;refine pn 21 (some 33) spec_SpacesOk.calls.a18 rfl rfl HT_.out ?_;refine pn 22 (some 34) spec_SpacesOk.calls.a19 rfl rfl HT_.out ?_;refine pu 23 (some 35) spec_SpacesOk.calls.a20 rfl rfl HT_.out ?_;refine done_ (done_of HT_.out (by kernel_rfl)) ?_
         try go_wp2
         go_ret
         exact ⟨eW,by repeat (first|(with_reducible first|exact HB.out|apply bal|apply pbN|apply bd1)|exact HB.out)⟩
     · rw [if_neg c3] at H
       exact absurd H (by simp)
   · rw [if_neg c2] at H
     have c2b0:decide (x3_1 < (l0.length:Int)) = false:=decide_eq_false c2;clear c2;have H':=As0.mk H;clear H
     go_wp2
     show _;go_loopg [4] k1 (fun kq v4 w'=>∃ (x4_2:Int),v4 = .int .i64 x4_2 ∧ As0 (spec_SpacesOk.l1 kq l0 x4_2 = some r) ∧ As0 (kq ≤ k1) ∧ As0 (Below w.heap.size w w'))
     case atStart=>exact ⟨(0),(by first|rfl|(simp;done)|(simp [*];done)),H',⟨Nat.le_refl _⟩,⟨by repeat (first|(with_reducible first|exact HB.out|apply bal|apply pbN|apply bd1)|exact HB.out)⟩⟩
     case round=>
      clear H'
      try clear p1
      try clear q1
      try clear hx1
      try clear c2
      try clear c2b0
      try clear p2
      try clear c3
      try clear c5
      try clear c6
      try clear c6b0
      try clear p6
      try clear c7
      try clear c8
      try clear c9
      try clear p18
      try clear q18
      try clear hx18
      try clear hx189_0
      try clear hx189_1
      try clear hx189_2
      try clear hx189_3
      try clear hx189_4
      try clear hx191_0
      try clear hx191_1
      try clear hx191_2
      try clear hx191_3
      try clear hx191_4
      try clear hx192_0
      try clear hx192_1
      try clear hx192_2
      try clear hx192_3
      try clear hx192_4
      try clear p189
      try clear p192
      try clear q189
      try clear q192
      obtain ⟨x4_2,rfl,HA,HK2,HB⟩:=hrel
      cases gk with
      |zero=>exact absurd HA.out (by simp [spec_SpacesOk.l1])
      |succ k2=>
       have H:=HA.out;clear HA;simp only [spec_SpacesOk.l1] at H;by_cases c19:x4_2 < (l0.length:Int)
       · rw [if_pos c19] at H
         have c19b0:decide (x4_2 < (l0.length:Int)) = true:=decide_eq_true c19;clear c19;by_cases c20:0 ≤ x4_2
         · rw [if_pos c20] at H
           have c20b0:decide (0 ≤ x4_2) = true:=decide_eq_true c20;clear c20;replace H:=Option.bind_eq_some_iff.mp H;obtain ⟨t194,A210,H⟩:=H;(try dsimp only at H);have A21:=As0.mk A210;clear A210;by_cases c22:(t194.length:Int) > (l0.length:Int)
           · rw [if_pos c22] at H
             have c22b0:decide ((l0.length:Int) < (t194.length:Int)) = true:=decide_eq_true c22;have c22b1:decide (l0.length < t194.length) = true:=decide_eq_true (Int.ofNat_lt.mp c22);clear c22;obtain rfl:=Option.some.inj H;have p193:0 ≤ (x4_2:Int):=odt;have q193:x4_2 < (l0.length:Int):=odt;obtain ⟨ad193,e193,hx193_0,hx193_1,hx193_2,hx193_3,hx193_4⟩:=at_T70 HR0.out x4_2 p193 q193
             cases e193
             replace hx193_0:=bx HB.out rfl hx193_0;replace hx193_1:=bx HB.out rfl hx193_1;replace hx193_2:=bx HB.out rfl hx193_2;replace hx193_3:=bx HB.out rfl hx193_3;replace hx193_4:=bx HB.out rfl hx193_4;replace p193:=eq_true p193;replace q193:=eq_true q193
             go_wp2_with (first|((with_reducible refine gca (f:=73) rfl ?_);refine gL (some 48) Tryz.func73 #[.slice (some ad193) l0.length c0,.string ((riS37 l0 x4_2).f0)] ?_;(with_reducible refine (spec_l8Up.calls k2 _ _ l0 ((riS37 l0 x4_2).f0) t194 _ ?side1 ?side2 A21.out).mono ?_);(case side1=>repeat (first|exact (Kd.C_below HR0.out HB.out)|(with_reducible first|refine Kd.C_alloc ?_ _|refine Kd.C_drewN ?_ _|refine Kd.C_drew ?_)));(case side2=>exact HC0.out);rintro e w23 ⟨v195,rfl,ho0,hb⟩;refine ⟨_,rfl,?_⟩;have HO196:=As0.mk (Kd.R_lower ho0 (bsz (by repeat (first|(with_reducible first|exact HB.out|apply bal|apply pbN|apply bd1)|exact HB.out))));replace HB:=As0.mk (b3 HB.out hb);clear hb ho0;obtain ⟨Ao24,co24,eo24⟩:=Kd.R_slice HO196.out;subst eo24))
             go_ret
             exact ⟨eW,by repeat (first|(with_reducible first|exact HB.out|apply bal|apply pbN|apply bd1)|exact HB.out)⟩
           · rw [if_neg c22] at H
             have c22b0:decide ((l0.length:Int) < (t194.length:Int)) = false:=decide_eq_false c22;have c22b1:decide (l0.length < t194.length) = false:=decide_eq_false (fun h=>c22 (Int.ofNat_lt.mpr h));clear c22;obtain ⟨ji25,hji25⟩:∃ j_:Int,(wrap64 ((t194.length:Int) - 1)) = j_:=⟨_,rfl⟩;replace H:(if 0 ≤ (ji25) then (if (ji25) < (t194.length:Int) then (if (rdOf ByteArray.empty t194 (ji25)).toList = ([97,108,108]:List UInt8) then (spec_SpacesOk.l1 k2 l0 (wrap64 (x4_2 + 1))) else (some false)) else (none)) else (none)) = some r:=by first|(rw [hji25] at H;exact H)|(simp only [hji25] at H ⊢;exact H)
             (try rw [hji25] at A21)
             have hji25w:(IntKind.i64.wrap ((t194.length:Int) - 1)) = ji25:=(i64_w _).trans hji25;by_cases c26:0 ≤ (ji25)
             · rw [if_pos c26] at H
               have c26b0:decide (0 ≤ (ji25)) = true:=decide_eq_true c26;clear c26;by_cases c27:(ji25) < (t194.length:Int)
               · rw [if_pos c27] at H
                 have c27b0:decide ((ji25) < (t194.length:Int)) = true:=decide_eq_true c27;clear c27;by_cases c28:(rdOf ByteArray.empty t194 (ji25)).toList = ([97,108,108]:List UInt8)
                 · rw [if_pos c28] at H
                   have c28b0:((rdOf ByteArray.empty t194 (ji25)).toList == ([97,108,108]:List UInt8)) = true:=beq_iff_eq.mpr c28;have c28b1:((rdOf ByteArray.empty t194 (ji25)).toList != ([97,108,108]:List UInt8)) = false:=bne_eq_false_iff_eq.mpr c28;clear c28;have H':=As0.mk H;clear H;have p193:0 ≤ (x4_2:Int):=odt;have q193:x4_2 < (l0.length:Int):=odt;obtain ⟨ad193,e193,hx193_0,hx193_1,hx193_2,hx193_3,hx193_4⟩:=at_T70 HR0.out x4_2 p193 q193
                   cases e193
                   replace hx193_0:=bx HB.out rfl hx193_0;replace hx193_1:=bx HB.out rfl hx193_1;replace hx193_2:=bx HB.out rfl hx193_2;replace hx193_3:=bx HB.out rfl hx193_3;replace hx193_4:=bx HB.out rfl hx193_4;replace p193:=eq_true p193;replace q193:=eq_true q193
                   go_wp2_with (first|((with_reducible refine gca (f:=73) rfl ?_);refine gL (some 48) Tryz.func73 #[.slice (some ad193) l0.length c0,.string ((riS37 l0 x4_2).f0)] ?_;(with_reducible refine (spec_l8Up.calls k2 _ _ l0 ((riS37 l0 x4_2).f0) t194 _ ?side1 ?side2 A21.out).mono ?_);(case side1=>repeat (first|exact (Kd.C_below HR0.out HB.out)|(with_reducible first|refine Kd.C_alloc ?_ _|refine Kd.C_drewN ?_ _|refine Kd.C_drew ?_)));(case side2=>exact HC0.out);rintro e w29 ⟨v195,rfl,ho0,hb⟩;refine ⟨_,rfl,?_⟩;have HO196:=As0.mk (Kd.R_lower ho0 (bsz (by repeat (first|(with_reducible first|exact HB.out|apply bal|apply pbN|apply bd1)|exact HB.out))));replace HB:=As0.mk (b3 HB.out hb);clear hb ho0;obtain ⟨Ao30,co30,eo30⟩:=Kd.R_slice HO196.out;subst eo30;have p197:0 ≤ ((ji25):Int):=odt;have q197:(ji25) < (t194.length:Int):=odt;obtain ⟨ad197,e197,hx197_0⟩:=Kd.at_string (Kd.R_reads' HO196.out).2.2 (ji25) p197 q197;cases e197;replace p197:=eq_true p197;replace q197:=eq_true q197))
                   show _;go_roundg k2
                   case measure=>have:=HK1.out;have:=HK2.out;omega
                   case rel=>exact ⟨(wrap64 (x4_2 + 1)),(by first|rfl|(simp;done)|(simp [*];done)),H',⟨by have:=HK1.out;have:=HK2.out;omega⟩,⟨by repeat (first|(with_reducible first|exact HB.out|apply bal|apply pbN|apply bd1)|exact HB.out)⟩⟩
                 · rw [if_neg c28] at H
                   have c28b0:((rdOf ByteArray.empty t194 (ji25)).toList == ([97,108,108]:List UInt8)) = false:=beq_eq_false_iff_ne.mpr c28;have c28b1:((rdOf ByteArray.empty t194 (ji25)).toList != ([97,108,108]:List UInt8)) = true:=bne_iff_ne.mpr c28;obtain rfl:=Option.some.inj H;have p193:0 ≤ (x4_2:Int):=odt;have q193:x4_2 < (l0.length:Int):=odt;obtain ⟨ad193,e193,hx193_0,hx193_1,hx193_2,hx193_3,hx193_4⟩:=at_T70 HR0.out x4_2 p193 q193
                   cases e193
                   replace hx193_0:=bx HB.out rfl hx193_0;replace hx193_1:=bx HB.out rfl hx193_1;replace hx193_2:=bx HB.out rfl hx193_2;replace hx193_3:=bx HB.out rfl hx193_3;replace hx193_4:=bx HB.out rfl hx193_4;replace p193:=eq_true p193;replace q193:=eq_true q193
                   go_wp2_with (first|((with_reducible refine gca (f:=73) rfl ?_);refine gL (some 48) Tryz.func73 #[.slice (some ad193) l0.length c0,.string ((riS37 l0 x4_2).f0)] ?_;(with_reducible refine (spec_l8Up.calls k2 _ _ l0 ((riS37 l0 x4_2).f0) t194 _ ?side1 ?side2 A21.out).mono ?_);(case side1=>repeat (first|exact (Kd.C_below HR0.out HB.out)|(with_reducible first|refine Kd.C_alloc ?_ _|refine Kd.C_drewN ?_ _|refine Kd.C_drew ?_)));(case side2=>exact HC0.out);rintro e w31 ⟨v195,rfl,ho0,hb⟩;refine ⟨_,rfl,?_⟩;have HO196:=As0.mk (Kd.R_lower ho0 (bsz (by repeat (first|(with_reducible first|exact HB.out|apply bal|apply pbN|apply bd1)|exact HB.out))));replace HB:=As0.mk (b3 HB.out hb);clear hb ho0;obtain ⟨Ao32,co32,eo32⟩:=Kd.R_slice HO196.out;subst eo32;have p197:0 ≤ ((ji25):Int):=odt;have q197:(ji25) < (t194.length:Int):=odt;obtain ⟨ad197,e197,hx197_0⟩:=Kd.at_string (Kd.R_reads' HO196.out).2.2 (ji25) p197 q197;cases e197;replace p197:=eq_true p197;replace q197:=eq_true q197))
                   go_ret
                   exact ⟨by first|rfl|(simp [errW_none,errW_some] <;> rfl)|(simp only [← hji25];first|rfl|(simp [errW_none,errW_some] <;> rfl))|(simp [*,errW_none,errW_some] <;> rfl),by repeat (first|(with_reducible first|exact HB.out|apply bal|apply pbN|apply bd1)|exact HB.out)⟩
               · rw [if_neg c27] at H
                 exact absurd H (by simp)
             · rw [if_neg c26] at H
               exact absurd H (by simp)
         · rw [if_neg c20] at H
           exact absurd H (by simp)
       · rw [if_neg c19] at H
         have c19b0:decide (x4_2 < (l0.length:Int)) = false:=decide_eq_false c19;clear c19;replace H:=Option.bind_eq_some_iff.mp H;obtain ⟨t198,A330,H⟩:=H;(try dsimp only at H);have A33:=As0.mk A330;clear A330;by_cases c34:t198 = true
         · subst c34
           have H1:((spec_l8At.f k2 l0 (⟨#[97,108,108]⟩:ByteArray)).bind fun t199=>(some (decide (t199 ≥ 0)))) = some r:=by rw [if_pos rfl] at H;exact H
           clear H;have H:=H1;clear H1;replace H:=Option.bind_eq_some_iff.mp H;obtain ⟨t199,A350,H⟩:=H;(try dsimp only at H);have A35:=As0.mk A350;clear A350;obtain rfl:=Option.some.inj H
           go_wp2_with (first|((with_reducible refine gca (f:=35) rfl ?_);refine gL (some 65) Tryz.func35 #[.int .i64 (l0.length:Int),.int .i64 1,.int .i64 7] ?_;(with_reducible refine (spec_l1In.calls (l0.length:Int) 1 7 true _ A33.out).mono ?_);rintro e w' ⟨rfl,⟨nd,rfl⟩⟩;refine ⟨_,rfl,?_⟩)|(go_at_call 74;(with_reducible refine (spec_l8At.calls k2 _ _ l0 (⟨#[97,108,108]⟩:ByteArray) t199 _ ?side1 ?side2 A35.out).mono ?_);(case side1=>repeat (first|exact (Kd.C_below HR0.out (by repeat (first|(with_reducible first|exact HB.out|apply bal|apply pbN|apply bd1)|exact HB.out)))|(with_reducible first|refine Kd.C_alloc ?_ _|refine Kd.C_drewN ?_ _|refine Kd.C_drew ?_)));(case side2=>exact HC0.out);rintro e w' ⟨rfl,⟨nd,rfl⟩⟩))
           go_ret
           exact ⟨eW,by repeat (first|(with_reducible first|exact HB.out|apply bal|apply pbN|apply bd1)|exact HB.out)⟩
         · replace c34:=Bool.eq_false_iff.mpr c34
           subst c34;have H1:(some false) = some r:=by rw [if_neg (show ¬ (false = true) by decide)] at H;exact H
           clear H;have H:=H1;clear H1;obtain rfl:=Option.some.inj H
           go_wp2_with (first|((with_reducible refine gca (f:=35) rfl ?_);refine gL (some 65) Tryz.func35 #[.int .i64 (l0.length:Int),.int .i64 1,.int .i64 7] ?_;(with_reducible refine (spec_l1In.calls (l0.length:Int) 1 7 false _ A33.out).mono ?_);rintro e w' ⟨rfl,⟨nd,rfl⟩⟩;refine ⟨_,rfl,?_⟩))
           go_ret
           exact ⟨eW,by repeat (first|(with_reducible first|exact HB.out|apply bal|apply pbN|apply bd1)|exact HB.out)⟩
def spec_l8Uses.l0:Nat → List (SiS28) → List (SiU30) → Int → Option (Bool)
 |0,_,_,_=>none
 |k + 1,x0,x1,x5=>if x5 < (x1.length:Int) then (if 0 ≤ x5 then (if x5 < (x0.length:Int) then (if ((riU39 x1 x5).f0).toList = ((riS37 x0 x5).f0).toList then ((spec_l1In.f ((riU39 x1 x5).f1) 0 99999).bind fun t203=>(if t203 = true then (spec_l8Uses.l0 k x0 x1 (wrap64 (x5 + 1))) else (some false))) else (some false)) else (none)) else (none)) else (some true)
def spec_l8Uses.f (k:Nat) (l0:List (SiS28)) (l1:List (SiU30)):Option (Bool):=if (l1.length:Int) = (l0.length:Int) then (spec_l8Uses.l0 k l0 l1 0) else (some false)
set_option maxHeartbeats 40000000 in
set_option maxRecDepth 100000 in
theorem spec_l8Uses.calls (k:Nat) (A0:Option Addr) (c0:Nat) (l0:List (SiS28)) (A1:Option Addr) (c1:Nat) (l1:List (SiU30)) (r:Bool) (w:World) (hr0:Kd.C k70 w A0 l0.length l0) (hc0:l0.length ≤ c0) (hr1:Kd.C k72 w A1 l1.length l1) (hc1:l1.length ≤ c1) (h:spec_l8Uses.f k l0 l1 = some r) :
 Calls Tryz.prog 37 #[.slice A0 l0.length c0,.slice A1 l1.length c1] w fun e w'=>e = .returned (.bool r) ∧ Drawn0 w w':=by
 have HR0:=As0.mk hr0;have HC0:=As0.mk hc0;clear hr0 hc0;have HR1:=As0.mk hr1;have HC1:=As0.mk hc1;clear hr1 hc1;have H:(if (l1.length:Int) = (l0.length:Int) then (spec_l8Uses.l0 k l0 l1 0) else (some false)) = some r:=h;clear h;by_cases c3:(l1.length:Int) = (l0.length:Int)
 · rw [if_pos c3] at H
   have c3b0:((l1.length:Int) == (l0.length:Int)) = true:=beq_iff_eq.mpr c3;have c3b1:((l1.length:Int) != (l0.length:Int)) = false:=bne_eq_false_iff_eq.mpr c3;have c3b2:(l1.length == l0.length) = true:=by first|simpa using c3|(simp at c3 ⊢;omega)
   clear c3;have H':=As0.mk H;clear H
   go_enter Tryz.func37,Tryz.ntmps37
   go_wp2
   repeat (go_quiet (fail);try go_wp2)
   show _;go_loopg [5] k (fun kq v5 w'=>∃ (x5_1:Int),v5 = .int .i64 x5_1 ∧ As0 (spec_l8Uses.l0 kq l0 l1 x5_1 = some r) ∧ As0 (kq ≤ k) ∧ Drawn0 w w')
   case atStart=>exact ⟨(0),(by first|rfl|(simp;done)|(simp [*];done)),H',⟨Nat.le_refl _⟩,by repeat (first|exact Drawn0.refl _|apply Drawn0.step)⟩
   case round=>
    clear H'
    try clear c1
    try clear p2
    try clear c3
    try clear c3b0
    try clear c3b1
    try clear c3b2
    obtain ⟨x5_1,rfl,HA,HK1,⟨m1,rfl⟩⟩:=hrel
    cases gk with
    |zero=>exact absurd HA.out (by simp [spec_l8Uses.l0])
    |succ k1=>
     have H:=HA.out;clear HA;simp only [spec_l8Uses.l0] at H;by_cases c4:x5_1 < (l1.length:Int)
     · rw [if_pos c4] at H
       have c4b0:decide (x5_1 < (l1.length:Int)) = true:=decide_eq_true c4;clear c4;by_cases c5:0 ≤ x5_1
       · rw [if_pos c5] at H
         have c5b0:decide (0 ≤ x5_1) = true:=decide_eq_true c5;clear c5;by_cases c6:x5_1 < (l0.length:Int)
         · rw [if_pos c6] at H
           have c6b0:decide (x5_1 < (l0.length:Int)) = true:=decide_eq_true c6;clear c6;by_cases c7:((riU39 l1 x5_1).f0).toList = ((riS37 l0 x5_1).f0).toList
           · rw [if_pos c7] at H
             have c7b0:(((riU39 l1 x5_1).f0).toList == ((riS37 l0 x5_1).f0).toList) = true:=beq_iff_eq.mpr c7;have c7b1:(((riU39 l1 x5_1).f0).toList != ((riS37 l0 x5_1).f0).toList) = false:=bne_eq_false_iff_eq.mpr c7;clear c7;replace H:=Option.bind_eq_some_iff.mp H;obtain ⟨t203,A80,H⟩:=H;(try dsimp only at H);have A8:=As0.mk A80;clear A80;by_cases c9:t203 = true
             · subst c9
               have H1:(spec_l8Uses.l0 k1 l0 l1 (wrap64 (x5_1 + 1))) = some r:=by rw [if_pos rfl] at H;exact H
               clear H;have H:=H1;clear H1;have H':=As0.mk H;clear H;have p200:0 ≤ (x5_1:Int):=odt;have q200:x5_1 < (l1.length:Int):=odt;obtain ⟨ad200,e200,hx200_0,hx200_1⟩:=at_T72 HR1.out x5_1 p200 q200
               cases e200
               replace p200:=eq_true p200;replace q200:=eq_true q200;have p201:0 ≤ (x5_1:Int):=odt;have q201:x5_1 < (l0.length:Int):=odt;obtain ⟨ad201,e201,hx201_0,hx201_1,hx201_2,hx201_3,hx201_4⟩:=at_T70 HR0.out x5_1 p201 q201
               cases e201
               replace p201:=eq_true p201;replace q201:=eq_true q201;have p202:0 ≤ (x5_1:Int):=odt;have q202:x5_1 < (l1.length:Int):=odt;obtain ⟨ad202,e202,hx202_0,hx202_1⟩:=at_T72 HR1.out x5_1 p202 q202;obtain rfl:ad200 = ad202:=(by injection e202);replace p202:=eq_true p202;replace q202:=eq_true q202
               go_wp2_with (first|(go_at_call 35;(with_reducible refine (spec_l1In.calls ((riU39 l1 x5_1).f1) 0 99999 true _ A8.out).mono ?_);rintro e w' ⟨rfl,⟨nd,rfl⟩⟩;(try first|exact ⟨rfl,_,World.drewN_drewN _ _ _⟩|exact ⟨rfl,_,Eq.trans (World.drewN_drewN _ _ _) (congrArg (World.drewN _) (Nat.add_assoc _ _ _))⟩)))
               repeat (go_quiet (first|(go_at_call 35;(with_reducible refine (spec_l1In.calls ((riU39 l1 x5_1).f1) 0 99999 true _ A8.out).mono ?_);rintro e w' ⟨rfl,⟨nd,rfl⟩⟩;(try first|exact ⟨rfl,_,World.drewN_drewN _ _ _⟩|exact ⟨rfl,_,Eq.trans (World.drewN_drewN _ _ _) (congrArg (World.drewN _) (Nat.add_assoc _ _ _))⟩)));try go_wp2_with (first|(go_at_call 35;(with_reducible refine (spec_l1In.calls ((riU39 l1 x5_1).f1) 0 99999 true _ A8.out).mono ?_);rintro e w' ⟨rfl,⟨nd,rfl⟩⟩;(try first|exact ⟨rfl,_,World.drewN_drewN _ _ _⟩|exact ⟨rfl,_,Eq.trans (World.drewN_drewN _ _ _) (congrArg (World.drewN _) (Nat.add_assoc _ _ _))⟩))))
               show _;go_roundg k1
               case measure=>have:=HK1.out;omega
               case rel=>exact ⟨(wrap64 (x5_1 + 1)),(by first|rfl|(simp;done)|(simp [*];done)),H',⟨by have:=HK1.out;omega⟩,by repeat (first|exact Drawn0.refl _|apply Drawn0.step)⟩
             · replace c9:=Bool.eq_false_iff.mpr c9
               subst c9;have H1:(some false) = some r:=by rw [if_neg (show ¬ (false = true) by decide)] at H;exact H
               clear H;have H:=H1;clear H1;obtain rfl:=Option.some.inj H;have p200:0 ≤ (x5_1:Int):=odt;have q200:x5_1 < (l1.length:Int):=odt;obtain ⟨ad200,e200,hx200_0,hx200_1⟩:=at_T72 HR1.out x5_1 p200 q200
               cases e200
               replace p200:=eq_true p200;replace q200:=eq_true q200;have p201:0 ≤ (x5_1:Int):=odt;have q201:x5_1 < (l0.length:Int):=odt;obtain ⟨ad201,e201,hx201_0,hx201_1,hx201_2,hx201_3,hx201_4⟩:=at_T70 HR0.out x5_1 p201 q201
               cases e201
               replace p201:=eq_true p201;replace q201:=eq_true q201;have p202:0 ≤ (x5_1:Int):=odt;have q202:x5_1 < (l1.length:Int):=odt;obtain ⟨ad202,e202,hx202_0,hx202_1⟩:=at_T72 HR1.out x5_1 p202 q202;obtain rfl:ad200 = ad202:=(by injection e202);replace p202:=eq_true p202;replace q202:=eq_true q202
               go_wp2_with (first|(go_at_call 35;(with_reducible refine (spec_l1In.calls ((riU39 l1 x5_1).f1) 0 99999 false _ A8.out).mono ?_);rintro e w' ⟨rfl,⟨nd,rfl⟩⟩;(try first|exact ⟨rfl,_,World.drewN_drewN _ _ _⟩|exact ⟨rfl,_,Eq.trans (World.drewN_drewN _ _ _) (congrArg (World.drewN _) (Nat.add_assoc _ _ _))⟩)))
               repeat (go_quiet (first|(go_at_call 35;(with_reducible refine (spec_l1In.calls ((riU39 l1 x5_1).f1) 0 99999 false _ A8.out).mono ?_);rintro e w' ⟨rfl,⟨nd,rfl⟩⟩;(try first|exact ⟨rfl,_,World.drewN_drewN _ _ _⟩|exact ⟨rfl,_,Eq.trans (World.drewN_drewN _ _ _) (congrArg (World.drewN _) (Nat.add_assoc _ _ _))⟩)));try go_wp2_with (first|(go_at_call 35;(with_reducible refine (spec_l1In.calls ((riU39 l1 x5_1).f1) 0 99999 false _ A8.out).mono ?_);rintro e w' ⟨rfl,⟨nd,rfl⟩⟩;(try first|exact ⟨rfl,_,World.drewN_drewN _ _ _⟩|exact ⟨rfl,_,Eq.trans (World.drewN_drewN _ _ _) (congrArg (World.drewN _) (Nat.add_assoc _ _ _))⟩))))
               go_ret
               exact ⟨by first|rfl|(simp;done)|(simp [*];done),by repeat (first|exact Drawn0.refl _|apply Drawn0.step)⟩
           · rw [if_neg c7] at H
             have c7b0:(((riU39 l1 x5_1).f0).toList == ((riS37 l0 x5_1).f0).toList) = false:=beq_eq_false_iff_ne.mpr c7;have c7b1:(((riU39 l1 x5_1).f0).toList != ((riS37 l0 x5_1).f0).toList) = true:=bne_iff_ne.mpr c7;obtain rfl:=Option.some.inj H;have p200:0 ≤ (x5_1:Int):=odt;have q200:x5_1 < (l1.length:Int):=odt;obtain ⟨ad200,e200,hx200_0,hx200_1⟩:=at_T72 HR1.out x5_1 p200 q200
             cases e200
             replace p200:=eq_true p200;replace q200:=eq_true q200;have p201:0 ≤ (x5_1:Int):=odt;have q201:x5_1 < (l0.length:Int):=odt;obtain ⟨ad201,e201,hx201_0,hx201_1,hx201_2,hx201_3,hx201_4⟩:=at_T70 HR0.out x5_1 p201 q201
             cases e201
             replace p201:=eq_true p201;replace q201:=eq_true q201
             go_wp2
             repeat (go_quiet (fail);try go_wp2)
             go_ret
             exact ⟨by first|rfl|(simp;done)|(simp [*];done),by repeat (first|exact Drawn0.refl _|apply Drawn0.step)⟩
         · rw [if_neg c6] at H
           exact absurd H (by simp)
       · rw [if_neg c5] at H
         exact absurd H (by simp)
     · rw [if_neg c4] at H
       have c4b0:decide (x5_1 < (l1.length:Int)) = false:=decide_eq_false c4;clear c4;obtain rfl:=Option.some.inj H
       go_wp2
       repeat (go_quiet (fail);try go_wp2)
       go_ret
       exact ⟨by first|rfl|(simp;done)|(simp [*];done),by repeat (first|exact Drawn0.refl _|apply Drawn0.step)⟩
 · rw [if_neg c3] at H
   have c3b0:((l1.length:Int) == (l0.length:Int)) = false:=beq_eq_false_iff_ne.mpr c3;have c3b1:((l1.length:Int) != (l0.length:Int)) = true:=bne_iff_ne.mpr c3;have c3b2:(l1.length == l0.length) = false:=by first|simpa using c3|(simp at c3 ⊢;omega)
   obtain rfl:=Option.some.inj H
   go_enter Tryz.func37,Tryz.ntmps37
   go_wp2
   repeat (go_quiet (fail);try go_wp2)
   go_ret
   exact ⟨by first|rfl|(simp;done)|(simp [*];done),by repeat (first|exact Drawn0.refl _|apply Drawn0.step)⟩
def spec_l7Marks.l0:Nat → List ByteArray → Int → Option (Bool)
 |0,_,_=>none
 |k + 1,x0,x3=>if x3 < (x0.length:Int) then (if 0 ≤ x3 then ((spec_NameOk.f k (rdOf ByteArray.empty x0 x3)).bind fun t205=>(if t205 = true then (if x3 > 0 then (if 0 ≤ (wrap64 (x3 - 1)) then (if (wrap64 (x3 - 1)) < (x0.length:Int) then (if ((Op.bytesLess ((rdOf ByteArray.empty x0 (wrap64 (x3 - 1))).toList) ((rdOf ByteArray.empty x0 x3).toList)) = true) then (spec_l7Marks.l0 k x0 (wrap64 (x3 + 1))) else (some false)) else (none)) else (none)) else (spec_l7Marks.l0 k x0 (wrap64 (x3 + 1)))) else (some false))) else (none)) else (some (decide ((x0.length:Int) ≤ 2)))
def spec_l7Marks.f (k:Nat) (l0:List ByteArray):Option (Bool):=spec_l7Marks.l0 k l0 0
set_option maxHeartbeats 40000000 in
set_option maxRecDepth 100000 in
theorem spec_l7Marks.calls (k:Nat) (A0:Option Addr) (c0:Nat) (l0:List ByteArray) (r:Bool) (w:World) (hr0:Kd.C Kd.string w A0 l0.length l0) (hc0:l0.length ≤ c0) (h:spec_l7Marks.f k l0 = some r) :
 Calls Tryz.prog 109 #[.slice A0 l0.length c0] w fun e w'=>e = .returned (.bool r) ∧ Drawn0 w w':=by
 have HR0:=As0.mk hr0;have HC0:=As0.mk hc0;clear hr0 hc0;have H:(spec_l7Marks.l0 k l0 0) = some r:=h;clear h;have H':=As0.mk H;clear H
 go_enter Tryz.func109,Tryz.ntmps109
 go_wp2
 repeat (go_quiet (fail);try go_wp2)
 show _;go_loopg [3] k (fun kq v3 w'=>∃ (x3_1:Int),v3 = .int .i64 x3_1 ∧ As0 (spec_l7Marks.l0 kq l0 x3_1 = some r) ∧ As0 (kq ≤ k) ∧ Drawn0 w w')
 case atStart=>exact ⟨(0),(by first|rfl|(simp;done)|(simp [*];done)),H',⟨Nat.le_refl _⟩,by repeat (first|exact Drawn0.refl _|apply Drawn0.step)⟩
 case round=>
  clear H'
  try clear c1
  obtain ⟨x3_1,rfl,HA,HK1,⟨m1,rfl⟩⟩:=hrel
  cases gk with
  |zero=>exact absurd HA.out (by simp [spec_l7Marks.l0])
  |succ k1=>
   have H:=HA.out;clear HA;simp only [spec_l7Marks.l0] at H;by_cases c2:x3_1 < (l0.length:Int)
   · rw [if_pos c2] at H
     have c2b0:decide (x3_1 < (l0.length:Int)) = true:=decide_eq_true c2;clear c2;by_cases c3:0 ≤ x3_1
     · rw [if_pos c3] at H
       have c3b0:decide (0 ≤ x3_1) = true:=decide_eq_true c3;clear c3;replace H:=Option.bind_eq_some_iff.mp H;obtain ⟨t205,A40,H⟩:=H;(try dsimp only at H);have A4:=As0.mk A40;clear A40;by_cases c5:t205 = true
       · subst c5
         have H1:(if x3_1 > 0 then (if 0 ≤ (wrap64 (x3_1 - 1)) then (if (wrap64 (x3_1 - 1)) < (l0.length:Int) then (if ((Op.bytesLess ((rdOf ByteArray.empty l0 (wrap64 (x3_1 - 1))).toList) ((rdOf ByteArray.empty l0 x3_1).toList)) = true) then (spec_l7Marks.l0 k1 l0 (wrap64 (x3_1 + 1))) else (some false)) else (none)) else (none)) else (spec_l7Marks.l0 k1 l0 (wrap64 (x3_1 + 1)))) = some r:=by rw [if_pos rfl] at H;exact H
         clear H;have H:=H1;clear H1;by_cases c6:x3_1 > 0
         · rw [if_pos c6] at H
           have c6b0:decide (0 < x3_1) = true:=decide_eq_true c6;clear c6;obtain ⟨ji7,hji7⟩:∃ j_:Int,(wrap64 (x3_1 - 1)) = j_:=⟨_,rfl⟩;replace H:(if 0 ≤ (ji7) then (if (ji7) < (l0.length:Int) then (if ((Op.bytesLess ((rdOf ByteArray.empty l0 (ji7)).toList) ((rdOf ByteArray.empty l0 x3_1).toList)) = true) then (spec_l7Marks.l0 k1 l0 (wrap64 (x3_1 + 1))) else (some false)) else (none)) else (none)) = some r:=by first|(rw [hji7] at H;exact H)|(simp only [hji7] at H ⊢;exact H)
           (try rw [hji7] at A4)
           have hji7w:(IntKind.i64.wrap (x3_1 - 1)) = ji7:=(i64_w _).trans hji7;by_cases c8:0 ≤ (ji7)
           · rw [if_pos c8] at H
             have c8b0:decide (0 ≤ (ji7)) = true:=decide_eq_true c8;clear c8;by_cases c9:(ji7) < (l0.length:Int)
             · rw [if_pos c9] at H
               have c9b0:decide ((ji7) < (l0.length:Int)) = true:=decide_eq_true c9;clear c9;by_cases c10:((Op.bytesLess ((rdOf ByteArray.empty l0 (ji7)).toList) ((rdOf ByteArray.empty l0 x3_1).toList)) = true)
               · rw [if_pos c10] at H
                 have c10b0:(Op.bytesLess ((rdOf ByteArray.empty l0 (ji7)).toList) ((rdOf ByteArray.empty l0 x3_1).toList)) = true:=c10;clear c10;have H':=As0.mk H;clear H;have p204:0 ≤ (x3_1:Int):=odt;have q204:x3_1 < (l0.length:Int):=odt;obtain ⟨ad204,e204,hx204_0⟩:=Kd.at_string HR0.out x3_1 p204 q204
                 cases e204
                 replace p204:=eq_true p204;replace q204:=eq_true q204
                 go_wp2_with (first|(go_at_call 108;(with_reducible refine (spec_NameOk.calls k1 (rdOf ByteArray.empty l0 x3_1) true _ A4.out).mono ?_);rintro e w' ⟨rfl,⟨nd,rfl⟩⟩;(try first|exact ⟨rfl,_,World.drewN_drewN _ _ _⟩|exact ⟨rfl,_,Eq.trans (World.drewN_drewN _ _ _) (congrArg (World.drewN _) (Nat.add_assoc _ _ _))⟩);have p206:0 ≤ ((ji7):Int):=odt;have q206:(ji7) < (l0.length:Int):=odt;obtain ⟨ad206,e206,hx206_0⟩:=Kd.at_string HR0.out (ji7) p206 q206;obtain rfl:ad204 = ad206:=(by injection e206);replace p206:=eq_true p206;replace q206:=eq_true q206;have p207:0 ≤ (x3_1:Int):=odt;have q207:x3_1 < (l0.length:Int):=odt;obtain ⟨ad207,e207,hx207_0⟩:=Kd.at_string HR0.out x3_1 p207 q207;obtain rfl:ad204 = ad207:=(by injection e207);replace p207:=eq_true p207;replace q207:=eq_true q207))
                 repeat (go_quiet (first|(go_at_call 108;(with_reducible refine (spec_NameOk.calls k1 (rdOf ByteArray.empty l0 x3_1) true _ A4.out).mono ?_);rintro e w' ⟨rfl,⟨nd,rfl⟩⟩;(try first|exact ⟨rfl,_,World.drewN_drewN _ _ _⟩|exact ⟨rfl,_,Eq.trans (World.drewN_drewN _ _ _) (congrArg (World.drewN _) (Nat.add_assoc _ _ _))⟩);have p206:0 ≤ ((ji7):Int):=odt;have q206:(ji7) < (l0.length:Int):=odt;obtain ⟨ad206,e206,hx206_0⟩:=Kd.at_string HR0.out (ji7) p206 q206;obtain rfl:ad204 = ad206:=(by injection e206);replace p206:=eq_true p206;replace q206:=eq_true q206;have p207:0 ≤ (x3_1:Int):=odt;have q207:x3_1 < (l0.length:Int):=odt;obtain ⟨ad207,e207,hx207_0⟩:=Kd.at_string HR0.out x3_1 p207 q207;obtain rfl:ad204 = ad207:=(by injection e207);replace p207:=eq_true p207;replace q207:=eq_true q207));try go_wp2_with (first|(go_at_call 108;(with_reducible refine (spec_NameOk.calls k1 (rdOf ByteArray.empty l0 x3_1) true _ A4.out).mono ?_);rintro e w' ⟨rfl,⟨nd,rfl⟩⟩;(try first|exact ⟨rfl,_,World.drewN_drewN _ _ _⟩|exact ⟨rfl,_,Eq.trans (World.drewN_drewN _ _ _) (congrArg (World.drewN _) (Nat.add_assoc _ _ _))⟩);have p206:0 ≤ ((ji7):Int):=odt;have q206:(ji7) < (l0.length:Int):=odt;obtain ⟨ad206,e206,hx206_0⟩:=Kd.at_string HR0.out (ji7) p206 q206;obtain rfl:ad204 = ad206:=(by injection e206);replace p206:=eq_true p206;replace q206:=eq_true q206;have p207:0 ≤ (x3_1:Int):=odt;have q207:x3_1 < (l0.length:Int):=odt;obtain ⟨ad207,e207,hx207_0⟩:=Kd.at_string HR0.out x3_1 p207 q207;obtain rfl:ad204 = ad207:=(by injection e207);replace p207:=eq_true p207;replace q207:=eq_true q207)))
                 show _;go_roundg k1
                 case measure=>have:=HK1.out;omega
                 case rel=>exact ⟨(wrap64 (x3_1 + 1)),(by first|rfl|(simp;done)|(simp [*];done)),H',⟨by have:=HK1.out;omega⟩,by repeat (first|exact Drawn0.refl _|apply Drawn0.step)⟩
               · rw [if_neg c10] at H
                 have c10b0:(Op.bytesLess ((rdOf ByteArray.empty l0 (ji7)).toList) ((rdOf ByteArray.empty l0 x3_1).toList)) = false:=by simpa using c10
                 clear c10;obtain rfl:=Option.some.inj H;have p204:0 ≤ (x3_1:Int):=odt;have q204:x3_1 < (l0.length:Int):=odt;obtain ⟨ad204,e204,hx204_0⟩:=Kd.at_string HR0.out x3_1 p204 q204
                 cases e204
                 replace p204:=eq_true p204;replace q204:=eq_true q204
                 go_wp2_with (first|(go_at_call 108;(with_reducible refine (spec_NameOk.calls k1 (rdOf ByteArray.empty l0 x3_1) true _ A4.out).mono ?_);rintro e w' ⟨rfl,⟨nd,rfl⟩⟩;(try first|exact ⟨rfl,_,World.drewN_drewN _ _ _⟩|exact ⟨rfl,_,Eq.trans (World.drewN_drewN _ _ _) (congrArg (World.drewN _) (Nat.add_assoc _ _ _))⟩);have p206:0 ≤ ((ji7):Int):=odt;have q206:(ji7) < (l0.length:Int):=odt;obtain ⟨ad206,e206,hx206_0⟩:=Kd.at_string HR0.out (ji7) p206 q206;obtain rfl:ad204 = ad206:=(by injection e206);replace p206:=eq_true p206;replace q206:=eq_true q206;have p207:0 ≤ (x3_1:Int):=odt;have q207:x3_1 < (l0.length:Int):=odt;obtain ⟨ad207,e207,hx207_0⟩:=Kd.at_string HR0.out x3_1 p207 q207;obtain rfl:ad204 = ad207:=(by injection e207);replace p207:=eq_true p207;replace q207:=eq_true q207))
                 repeat (go_quiet (first|(go_at_call 108;(with_reducible refine (spec_NameOk.calls k1 (rdOf ByteArray.empty l0 x3_1) true _ A4.out).mono ?_);rintro e w' ⟨rfl,⟨nd,rfl⟩⟩;(try first|exact ⟨rfl,_,World.drewN_drewN _ _ _⟩|exact ⟨rfl,_,Eq.trans (World.drewN_drewN _ _ _) (congrArg (World.drewN _) (Nat.add_assoc _ _ _))⟩);have p206:0 ≤ ((ji7):Int):=odt;have q206:(ji7) < (l0.length:Int):=odt;obtain ⟨ad206,e206,hx206_0⟩:=Kd.at_string HR0.out (ji7) p206 q206;obtain rfl:ad204 = ad206:=(by injection e206);replace p206:=eq_true p206;replace q206:=eq_true q206;have p207:0 ≤ (x3_1:Int):=odt;have q207:x3_1 < (l0.length:Int):=odt;obtain ⟨ad207,e207,hx207_0⟩:=Kd.at_string HR0.out x3_1 p207 q207;obtain rfl:ad204 = ad207:=(by injection e207);replace p207:=eq_true p207;replace q207:=eq_true q207));try go_wp2_with (first|(go_at_call 108;(with_reducible refine (spec_NameOk.calls k1 (rdOf ByteArray.empty l0 x3_1) true _ A4.out).mono ?_);rintro e w' ⟨rfl,⟨nd,rfl⟩⟩;(try first|exact ⟨rfl,_,World.drewN_drewN _ _ _⟩|exact ⟨rfl,_,Eq.trans (World.drewN_drewN _ _ _) (congrArg (World.drewN _) (Nat.add_assoc _ _ _))⟩);have p206:0 ≤ ((ji7):Int):=odt;have q206:(ji7) < (l0.length:Int):=odt;obtain ⟨ad206,e206,hx206_0⟩:=Kd.at_string HR0.out (ji7) p206 q206;obtain rfl:ad204 = ad206:=(by injection e206);replace p206:=eq_true p206;replace q206:=eq_true q206;have p207:0 ≤ (x3_1:Int):=odt;have q207:x3_1 < (l0.length:Int):=odt;obtain ⟨ad207,e207,hx207_0⟩:=Kd.at_string HR0.out x3_1 p207 q207;obtain rfl:ad204 = ad207:=(by injection e207);replace p207:=eq_true p207;replace q207:=eq_true q207)))
                 go_ret
                 exact ⟨by first|rfl|(simp;done)|(simp only [← hji7] <;> (first|rfl|simp))|(simp [*];done),by repeat (first|exact Drawn0.refl _|apply Drawn0.step)⟩
             · rw [if_neg c9] at H
               exact absurd H (by simp)
           · rw [if_neg c8] at H
             exact absurd H (by simp)
         · rw [if_neg c6] at H
           have c6b0:decide (0 < x3_1) = false:=decide_eq_false c6;clear c6;have H':=As0.mk H;clear H;have p204:0 ≤ (x3_1:Int):=odt;have q204:x3_1 < (l0.length:Int):=odt;obtain ⟨ad204,e204,hx204_0⟩:=Kd.at_string HR0.out x3_1 p204 q204
           cases e204
           replace p204:=eq_true p204;replace q204:=eq_true q204
           go_wp2_with (first|(go_at_call 108;(with_reducible refine (spec_NameOk.calls k1 (rdOf ByteArray.empty l0 x3_1) true _ A4.out).mono ?_);rintro e w' ⟨rfl,⟨nd,rfl⟩⟩;(try first|exact ⟨rfl,_,World.drewN_drewN _ _ _⟩|exact ⟨rfl,_,Eq.trans (World.drewN_drewN _ _ _) (congrArg (World.drewN _) (Nat.add_assoc _ _ _))⟩)))
           repeat (go_quiet (first|(go_at_call 108;(with_reducible refine (spec_NameOk.calls k1 (rdOf ByteArray.empty l0 x3_1) true _ A4.out).mono ?_);rintro e w' ⟨rfl,⟨nd,rfl⟩⟩;(try first|exact ⟨rfl,_,World.drewN_drewN _ _ _⟩|exact ⟨rfl,_,Eq.trans (World.drewN_drewN _ _ _) (congrArg (World.drewN _) (Nat.add_assoc _ _ _))⟩)));try go_wp2_with (first|(go_at_call 108;(with_reducible refine (spec_NameOk.calls k1 (rdOf ByteArray.empty l0 x3_1) true _ A4.out).mono ?_);rintro e w' ⟨rfl,⟨nd,rfl⟩⟩;(try first|exact ⟨rfl,_,World.drewN_drewN _ _ _⟩|exact ⟨rfl,_,Eq.trans (World.drewN_drewN _ _ _) (congrArg (World.drewN _) (Nat.add_assoc _ _ _))⟩))))
           show _;go_roundg k1
           case measure=>have:=HK1.out;omega
           case rel=>exact ⟨(wrap64 (x3_1 + 1)),(by first|rfl|(simp;done)|(simp [*];done)),H',⟨by have:=HK1.out;omega⟩,by repeat (first|exact Drawn0.refl _|apply Drawn0.step)⟩
       · replace c5:=Bool.eq_false_iff.mpr c5
         subst c5;have H1:(some false) = some r:=by rw [if_neg (show ¬ (false = true) by decide)] at H;exact H
         clear H;have H:=H1;clear H1;obtain rfl:=Option.some.inj H;have p204:0 ≤ (x3_1:Int):=odt;have q204:x3_1 < (l0.length:Int):=odt;obtain ⟨ad204,e204,hx204_0⟩:=Kd.at_string HR0.out x3_1 p204 q204
         cases e204
         replace p204:=eq_true p204;replace q204:=eq_true q204
         go_wp2_with (first|(go_at_call 108;(with_reducible refine (spec_NameOk.calls k1 (rdOf ByteArray.empty l0 x3_1) false _ A4.out).mono ?_);rintro e w' ⟨rfl,⟨nd,rfl⟩⟩;(try first|exact ⟨rfl,_,World.drewN_drewN _ _ _⟩|exact ⟨rfl,_,Eq.trans (World.drewN_drewN _ _ _) (congrArg (World.drewN _) (Nat.add_assoc _ _ _))⟩)))
         repeat (go_quiet (first|(go_at_call 108;(with_reducible refine (spec_NameOk.calls k1 (rdOf ByteArray.empty l0 x3_1) false _ A4.out).mono ?_);rintro e w' ⟨rfl,⟨nd,rfl⟩⟩;(try first|exact ⟨rfl,_,World.drewN_drewN _ _ _⟩|exact ⟨rfl,_,Eq.trans (World.drewN_drewN _ _ _) (congrArg (World.drewN _) (Nat.add_assoc _ _ _))⟩)));try go_wp2_with (first|(go_at_call 108;(with_reducible refine (spec_NameOk.calls k1 (rdOf ByteArray.empty l0 x3_1) false _ A4.out).mono ?_);rintro e w' ⟨rfl,⟨nd,rfl⟩⟩;(try first|exact ⟨rfl,_,World.drewN_drewN _ _ _⟩|exact ⟨rfl,_,Eq.trans (World.drewN_drewN _ _ _) (congrArg (World.drewN _) (Nat.add_assoc _ _ _))⟩))))
         go_ret
         exact ⟨by first|rfl|(simp;done)|(simp [*];done),by repeat (first|exact Drawn0.refl _|apply Drawn0.step)⟩
     · rw [if_neg c3] at H
       exact absurd H (by simp)
   · rw [if_neg c2] at H
     have c2b0:decide (x3_1 < (l0.length:Int)) = false:=decide_eq_false c2;clear c2;obtain rfl:=Option.some.inj H
     go_wp2
     repeat (go_quiet (fail);try go_wp2)
     go_ret
     exact ⟨by first|rfl|(simp;done)|(simp [*];done),by repeat (first|exact Drawn0.refl _|apply Drawn0.step)⟩
def spec_l4Value.l0:Nat → ByteArray → Int → Option (Bool)
 |0,_,_=>none
 |k + 1,x0,x3=>if x3 < (x0.size:Int) then (if 0 ≤ x3 then (if (bt x0 x3) < 32 then (some false) else (if (bt x0 x3) > 126 then (some false) else (spec_l4Value.l0 k x0 (wrap64 (x3 + 1))))) else (none)) else (some (decide ((x0.size:Int) ≤ 80)))
def spec_l4Value.f (k:Nat) (a0:ByteArray):Option (Bool):=spec_l4Value.l0 k a0 0
set_option maxHeartbeats 40000000 in
set_option maxRecDepth 100000 in
theorem spec_l4Value.calls (k:Nat) (a0:ByteArray) (r:Bool) (w:World) (h:spec_l4Value.f k a0 = some r) :
 Calls Tryz.prog 125 #[.string a0] w fun e w'=>e = .returned (.bool r) ∧ Drawn0 w w':=by
 have H:(spec_l4Value.l0 k a0 0) = some r:=h;clear h;have H':=As0.mk H;clear H
 go_enter Tryz.func125,Tryz.ntmps125
 go_wp2
 show _;go_loopg [3] k (fun kq v3 w'=>∃ (x3_1:Int),v3 = .int .i64 x3_1 ∧ As0 (spec_l4Value.l0 kq a0 x3_1 = some r) ∧ As0 (kq ≤ k) ∧ Drawn0 w w')
 case atStart=>exact ⟨(0),(by first|rfl|(simp;done)|(simp [*];done)),H',⟨Nat.le_refl _⟩,by repeat (first|exact Drawn0.refl _|apply Drawn0.step)⟩
 case round=>
  clear H'
  try clear c1
  obtain ⟨x3_1,rfl,HA,HK1,⟨m1,rfl⟩⟩:=hrel
  cases gk with
  |zero=>exact absurd HA.out (by simp [spec_l4Value.l0])
  |succ k1=>
   have H:=HA.out;clear HA;simp only [spec_l4Value.l0] at H;by_cases c2:x3_1 < (a0.size:Int)
   · rw [if_pos c2] at H
     have c2b0:decide (x3_1 < (a0.size:Int)) = true:=decide_eq_true c2;clear c2;by_cases c3:0 ≤ x3_1
     · rw [if_pos c3] at H
       have c3b0:decide (0 ≤ x3_1) = true:=decide_eq_true c3;clear c3;by_cases c5:(bt a0 x3_1) < 32
       · rw [if_pos c5] at H
         have c5b0:decide ((bt a0 x3_1) < 32) = true:=decide_eq_true c5;clear c5;obtain rfl:=Option.some.inj H;have p4:0 ≤ (x3_1:Int):=odt;have q4:x3_1 < (a0.size:Int):=odt;have hx4:=bt_at a0 x3_1;replace p4:=eq_true p4;replace q4:=eq_true q4
         go_wp2
         go_ret
         exact ⟨by first|rfl|(simp;done)|(simp [*];done),by repeat (first|exact Drawn0.refl _|apply Drawn0.step)⟩
       · rw [if_neg c5] at H
         have c5b0:decide ((bt a0 x3_1) < 32) = false:=decide_eq_false c5;clear c5;by_cases c7:(bt a0 x3_1) > 126
         · rw [if_pos c7] at H
           have c7b0:decide (126 < (bt a0 x3_1)) = true:=decide_eq_true c7;clear c7;obtain rfl:=Option.some.inj H;have p4:0 ≤ (x3_1:Int):=odt;have q4:x3_1 < (a0.size:Int):=odt;have hx4:=bt_at a0 x3_1;replace p4:=eq_true p4;replace q4:=eq_true q4;have p6:0 ≤ (x3_1:Int):=odt;have q6:x3_1 < (a0.size:Int):=odt;have hx6:=bt_at a0 x3_1;replace p6:=eq_true p6;replace q6:=eq_true q6
           go_wp2
           go_ret
           exact ⟨by first|rfl|(simp;done)|(simp [*];done),by repeat (first|exact Drawn0.refl _|apply Drawn0.step)⟩
         · rw [if_neg c7] at H
           have c7b0:decide (126 < (bt a0 x3_1)) = false:=decide_eq_false c7;clear c7;have H':=As0.mk H;clear H;have p4:0 ≤ (x3_1:Int):=odt;have q4:x3_1 < (a0.size:Int):=odt;have hx4:=bt_at a0 x3_1;replace p4:=eq_true p4;replace q4:=eq_true q4;have p6:0 ≤ (x3_1:Int):=odt;have q6:x3_1 < (a0.size:Int):=odt;have hx6:=bt_at a0 x3_1;replace p6:=eq_true p6;replace q6:=eq_true q6
           go_wp2
           show _;go_roundg k1
           case measure=>have:=HK1.out;omega
           case rel=>exact ⟨(wrap64 (x3_1 + 1)),(by first|rfl|(simp;done)|(simp [*];done)),H',⟨by have:=HK1.out;omega⟩,by repeat (first|exact Drawn0.refl _|apply Drawn0.step)⟩
     · rw [if_neg c3] at H
       exact absurd H (by simp)
   · rw [if_neg c2] at H
     have c2b0:decide (x3_1 < (a0.size:Int)) = false:=decide_eq_false c2;clear c2;obtain rfl:=Option.some.inj H
     go_wp2
     go_ret
     exact ⟨by first|rfl|(simp;done)|(simp [*];done),by repeat (first|exact Drawn0.refl _|apply Drawn0.step)⟩
def spec_l7Body.f (k:Nat) (a0:ByteArray):Option (Bool):=(spec_l4Value.f k a0).bind fun t208=>(if t208 = true then (some (decide ((a0.size:Int) ≤ 40))) else (some false))
set_option maxHeartbeats 40000000 in
set_option maxRecDepth 100000 in
theorem spec_l7Body.calls (k:Nat) (a0:ByteArray) (r:Bool) (w:World) (h:spec_l7Body.f k a0 = some r) :
 Calls Tryz.prog 110 #[.string a0] w fun e w'=>e = .returned (.bool r) ∧ Drawn0 w w':=by
 have H:((spec_l4Value.f k a0).bind fun t208=>(if t208 = true then (some (decide ((a0.size:Int) ≤ 40))) else (some false))) = some r:=h;clear h;replace H:=Option.bind_eq_some_iff.mp H;obtain ⟨t208,A20,H⟩:=H;(try dsimp only at H);have A2:=As0.mk A20;clear A20;by_cases c3:t208 = true
 · subst c3
   have H1:(some (decide ((a0.size:Int) ≤ 40))) = some r:=by rw [if_pos rfl] at H;exact H
   clear H;have H:=H1;clear H1;obtain rfl:=Option.some.inj H
   go_enter Tryz.func110,Tryz.ntmps110
   go_wp2_with (first|((with_reducible refine gca (f:=125) rfl ?_);refine gL (some 4) Tryz.func125 #[.string a0] ?_;(with_reducible refine (spec_l4Value.calls k a0 true _ A2.out).mono ?_);rintro e w' ⟨rfl,⟨nd,rfl⟩⟩;refine ⟨_,rfl,?_⟩))
   go_ret
   exact ⟨by first|rfl|(simp;done)|(simp [*];done),by repeat (first|exact Drawn0.refl _|apply Drawn0.step)⟩
 · replace c3:=Bool.eq_false_iff.mpr c3
   subst c3;have H1:(some false) = some r:=by rw [if_neg (show ¬ (false = true) by decide)] at H;exact H
   clear H;have H:=H1;clear H1;obtain rfl:=Option.some.inj H
   go_enter Tryz.func110,Tryz.ntmps110
   go_wp2_with (first|((with_reducible refine gca (f:=125) rfl ?_);refine gL (some 4) Tryz.func125 #[.string a0] ?_;(with_reducible refine (spec_l4Value.calls k a0 false _ A2.out).mono ?_);rintro e w' ⟨rfl,⟨nd,rfl⟩⟩;refine ⟨_,rfl,?_⟩))
   go_ret
   exact ⟨by first|rfl|(simp;done)|(simp [*];done),by repeat (first|exact Drawn0.refl _|apply Drawn0.step)⟩
def spec_ThingOk.f (k:Nat) (a0_0:ByteArray) (a0_1:ByteArray) (a0_2:Int) (a0_3:Int) (a0_4:Bool) (l0_5:List ByteArray) (a0_6:ByteArray):Option (Bool):=(spec_NameOk.f k a0_0).bind fun t210=>(if t210 = true then ((spec_NameOk.f k a0_1).bind fun t211=>(if t211 = true then ((spec_l1In.f a0_2 1 99999).bind fun t212=>(if t212 = true then ((spec_l1In.f a0_3 1 99999).bind fun t213=>(if t213 = true then ((spec_l7Marks.f k l0_5).bind fun t214=>(if t214 = true then ((spec_l7Body.f k a0_6).bind fun t215=>(if t215 = true then (if a0_4 = true then (some (decide ((l0_5.length:Int) > 0))) else (some true)) else (some false))) else (some false))) else (some false))) else (some false))) else (some false))) else (some false))
set_option maxHeartbeats 40000000 in
set_option maxRecDepth 100000 in
theorem spec_ThingOk.calls (k:Nat) (a0_0:ByteArray) (a0_1:ByteArray) (a0_2:Int) (a0_3:Int) (a0_4:Bool) (A0_5:Option Addr) (c0_5:Nat) (l0_5:List ByteArray) (a0_6:ByteArray) (r:Bool) (w:World) (hr0_5:Kd.C Kd.string w A0_5 l0_5.length l0_5) (hc0_5:l0_5.length ≤ c0_5) (h:spec_ThingOk.f k a0_0 a0_1 a0_2 a0_3 a0_4 l0_5 a0_6 = some r) :
 Calls Tryz.prog 75 #[.agg #[.string a0_0,.string a0_1,.int .i64 a0_2,.int .i64 a0_3,.bool a0_4,.slice A0_5 l0_5.length c0_5,.string a0_6]] w fun e w'=>e = .returned (.bool r) ∧ Below w.heap.size w w':=by
 have hu44:=Tryz.underlying44;have HR0_5:=As0.mk hr0_5;have HC0_5:=As0.mk hc0_5;clear hr0_5 hc0_5;have HB:=As0.mk (Below.refl w.heap.size w);have H:((spec_NameOk.f k a0_0).bind fun t210=>(if t210 = true then ((spec_NameOk.f k a0_1).bind fun t211=>(if t211 = true then ((spec_l1In.f a0_2 1 99999).bind fun t212=>(if t212 = true then ((spec_l1In.f a0_3 1 99999).bind fun t213=>(if t213 = true then ((spec_l7Marks.f k l0_5).bind fun t214=>(if t214 = true then ((spec_l7Body.f k a0_6).bind fun t215=>(if t215 = true then (if a0_4 = true then (some (decide ((l0_5.length:Int) > 0))) else (some true)) else (some false))) else (some false))) else (some false))) else (some false))) else (some false))) else (some false))) = some r:=h;clear h;replace H:=Option.bind_eq_some_iff.mp H;obtain ⟨t210,A20,H⟩:=H;(try dsimp only at H);have A2:=As0.mk A20;clear A20;by_cases c3:t210 = true
 · subst c3
   have H1:((spec_NameOk.f k a0_1).bind fun t211=>(if t211 = true then ((spec_l1In.f a0_2 1 99999).bind fun t212=>(if t212 = true then ((spec_l1In.f a0_3 1 99999).bind fun t213=>(if t213 = true then ((spec_l7Marks.f k l0_5).bind fun t214=>(if t214 = true then ((spec_l7Body.f k a0_6).bind fun t215=>(if t215 = true then (if a0_4 = true then (some (decide ((l0_5.length:Int) > 0))) else (some true)) else (some false))) else (some false))) else (some false))) else (some false))) else (some false))) = some r:=by rw [if_pos rfl] at H;exact H
   clear H;have H:=H1;clear H1;replace H:=Option.bind_eq_some_iff.mp H;obtain ⟨t211,A40,H⟩:=H;(try dsimp only at H);have A4:=As0.mk A40;clear A40;by_cases c5:t211 = true
   · subst c5
     have H1:((spec_l1In.f a0_2 1 99999).bind fun t212=>(if t212 = true then ((spec_l1In.f a0_3 1 99999).bind fun t213=>(if t213 = true then ((spec_l7Marks.f k l0_5).bind fun t214=>(if t214 = true then ((spec_l7Body.f k a0_6).bind fun t215=>(if t215 = true then (if a0_4 = true then (some (decide ((l0_5.length:Int) > 0))) else (some true)) else (some false))) else (some false))) else (some false))) else (some false))) = some r:=by rw [if_pos rfl] at H;exact H
     clear H;have H:=H1;clear H1;replace H:=Option.bind_eq_some_iff.mp H;obtain ⟨t212,A60,H⟩:=H;(try dsimp only at H);have A6:=As0.mk A60;clear A60;by_cases c7:t212 = true
     · subst c7
       have H1:((spec_l1In.f a0_3 1 99999).bind fun t213=>(if t213 = true then ((spec_l7Marks.f k l0_5).bind fun t214=>(if t214 = true then ((spec_l7Body.f k a0_6).bind fun t215=>(if t215 = true then (if a0_4 = true then (some (decide ((l0_5.length:Int) > 0))) else (some true)) else (some false))) else (some false))) else (some false))) = some r:=by rw [if_pos rfl] at H;exact H
       clear H;have H:=H1;clear H1;replace H:=Option.bind_eq_some_iff.mp H;obtain ⟨t213,A80,H⟩:=H;(try dsimp only at H);have A8:=As0.mk A80;clear A80;by_cases c9:t213 = true
       · subst c9
         have H1:((spec_l7Marks.f k l0_5).bind fun t214=>(if t214 = true then ((spec_l7Body.f k a0_6).bind fun t215=>(if t215 = true then (if a0_4 = true then (some (decide ((l0_5.length:Int) > 0))) else (some true)) else (some false))) else (some false))) = some r:=by rw [if_pos rfl] at H;exact H
         clear H;have H:=H1;clear H1;replace H:=Option.bind_eq_some_iff.mp H;obtain ⟨t214,A100,H⟩:=H;(try dsimp only at H);have A10:=As0.mk A100;clear A100;by_cases c11:t214 = true
         · subst c11
           have H1:((spec_l7Body.f k a0_6).bind fun t215=>(if t215 = true then (if a0_4 = true then (some (decide ((l0_5.length:Int) > 0))) else (some true)) else (some false))) = some r:=by rw [if_pos rfl] at H;exact H
           clear H;have H:=H1;clear H1;replace H:=Option.bind_eq_some_iff.mp H;obtain ⟨t215,A120,H⟩:=H;(try dsimp only at H);have A12:=As0.mk A120;clear A120;by_cases c13:t215 = true
           · subst c13
             have H1:(if a0_4 = true then (some (decide ((l0_5.length:Int) > 0))) else (some true)) = some r:=by rw [if_pos rfl] at H;exact H
             clear H;have H:=H1;clear H1;by_cases c14:a0_4 = true
             · subst c14
               have H1:(some (decide ((l0_5.length:Int) > 0))) = some r:=by rw [if_pos rfl] at H;exact H
               clear H;have H:=H1;clear H1;obtain rfl:=Option.some.inj H
               go_enter Tryz.func75,Tryz.ntmps75
               go_wp2_with (first|((with_reducible refine gate_dst (N:=1) rfl ?_);(try (refine gate_guard (by rfl) ?_;dsimp only));refine bE 1 #[.string a0_0,.string a0_1,.int .i64 a0_2,.int .i64 a0_3,.bool true,.slice A0_5 l0_5.length c0_5,.string a0_6] 44 ?_;intro gb209 hg w15 hbox hb;have BK209:=As0.mk (hbox);have GW209:=As0.mk ((by rw [hg];exact (bsz (by repeat (first|(with_reducible first|exact HB.out|apply bal|apply pbN|apply bd1)|exact HB.out))):w.heap.size ≤ gb209));have GE209:=GW209;replace HB:=As0.mk (b3 HB.out hb);clear hb hbox hg;obtain ⟨hcz16_0,hcz16_1,hcz16_2,hcz16_3,hcz16_4,hcz16_5,hcz16_6⟩:=qc7 BK209.out;obtain ⟨hfz16_0,hfz16_1,hfz16_2,hfz16_3,hfz16_4,hfz16_5,hfz16_6⟩:=qz7 BK209.out)|((with_reducible refine gca (f:=108) rfl ?_);refine gL (some 5) Tryz.func108 #[.string a0_0] ?_;(with_reducible refine (spec_NameOk.calls k a0_0 true _ A2.out).mono ?_);rintro e w' ⟨rfl,⟨nd,rfl⟩⟩;refine ⟨_,rfl,?_⟩)|(go_at_call 108;(with_reducible refine (spec_NameOk.calls k a0_1 true _ A4.out).mono ?_);rintro e w' ⟨rfl,⟨nd,rfl⟩⟩)|(go_at_call 35;(with_reducible refine (spec_l1In.calls a0_2 1 99999 true _ A6.out).mono ?_);rintro e w' ⟨rfl,⟨nd,rfl⟩⟩)|(go_at_call 35;(with_reducible refine (spec_l1In.calls a0_3 1 99999 true _ A8.out).mono ?_);rintro e w' ⟨rfl,⟨nd,rfl⟩⟩)|(go_at_call 109;(with_reducible refine (spec_l7Marks.calls k _ _ l0_5 true _ ?side1 ?side2 A10.out).mono ?_);(case side1=>repeat (first|exact (Kd.C_below HR0_5.out (by repeat (first|(with_reducible first|exact HB.out|apply bal|apply pbN|apply bd1|refine bst ?_ GE209.out)|exact HB.out)))|(with_reducible first|refine Kd.C_alloc ?_ _|refine Kd.C_drewN ?_ _|refine Kd.C_drew ?_)));(case side2=>exact HC0_5.out);rintro e w' ⟨rfl,⟨nd,rfl⟩⟩)|(go_at_call 110;(with_reducible refine (spec_l7Body.calls k a0_6 true _ A12.out).mono ?_);rintro e w' ⟨rfl,⟨nd,rfl⟩⟩))
               go_ret
               exact ⟨eW,by repeat (first|(with_reducible first|exact HB.out|apply bal|apply pbN|apply bd1|refine bst ?_ GE209.out)|exact HB.out)⟩
             · replace c14:=Bool.eq_false_iff.mpr c14
               subst c14;have H1:(some true) = some r:=by rw [if_neg (show ¬ (false = true) by decide)] at H;exact H
               clear H;have H:=H1;clear H1;obtain rfl:=Option.some.inj H
               go_enter Tryz.func75,Tryz.ntmps75
               go_wp2_with (first|((with_reducible refine gate_dst (N:=1) rfl ?_);(try (refine gate_guard (by rfl) ?_;dsimp only));refine bE 1 #[.string a0_0,.string a0_1,.int .i64 a0_2,.int .i64 a0_3,.bool false,.slice A0_5 l0_5.length c0_5,.string a0_6] 44 ?_;intro gb209 hg w17 hbox hb;have BK209:=As0.mk (hbox);have GW209:=As0.mk ((by rw [hg];exact (bsz (by repeat (first|(with_reducible first|exact HB.out|apply bal|apply pbN|apply bd1)|exact HB.out))):w.heap.size ≤ gb209));have GE209:=GW209;replace HB:=As0.mk (b3 HB.out hb);clear hb hbox hg;obtain ⟨hcz18_0,hcz18_1,hcz18_2,hcz18_3,hcz18_4,hcz18_5,hcz18_6⟩:=qc7 BK209.out;obtain ⟨hfz18_0,hfz18_1,hfz18_2,hfz18_3,hfz18_4,hfz18_5,hfz18_6⟩:=qz7 BK209.out)|((with_reducible refine gca (f:=108) rfl ?_);refine gL (some 5) Tryz.func108 #[.string a0_0] ?_;(with_reducible refine (spec_NameOk.calls k a0_0 true _ A2.out).mono ?_);rintro e w' ⟨rfl,⟨nd,rfl⟩⟩;refine ⟨_,rfl,?_⟩)|(go_at_call 108;(with_reducible refine (spec_NameOk.calls k a0_1 true _ A4.out).mono ?_);rintro e w' ⟨rfl,⟨nd,rfl⟩⟩)|(go_at_call 35;(with_reducible refine (spec_l1In.calls a0_2 1 99999 true _ A6.out).mono ?_);rintro e w' ⟨rfl,⟨nd,rfl⟩⟩)|(go_at_call 35;(with_reducible refine (spec_l1In.calls a0_3 1 99999 true _ A8.out).mono ?_);rintro e w' ⟨rfl,⟨nd,rfl⟩⟩)|(go_at_call 109;(with_reducible refine (spec_l7Marks.calls k _ _ l0_5 true _ ?side1 ?side2 A10.out).mono ?_);(case side1=>repeat (first|exact (Kd.C_below HR0_5.out (by repeat (first|(with_reducible first|exact HB.out|apply bal|apply pbN|apply bd1|refine bst ?_ GE209.out)|exact HB.out)))|(with_reducible first|refine Kd.C_alloc ?_ _|refine Kd.C_drewN ?_ _|refine Kd.C_drew ?_)));(case side2=>exact HC0_5.out);rintro e w' ⟨rfl,⟨nd,rfl⟩⟩)|(go_at_call 110;(with_reducible refine (spec_l7Body.calls k a0_6 true _ A12.out).mono ?_);rintro e w' ⟨rfl,⟨nd,rfl⟩⟩))
               go_ret
               exact ⟨eW,by repeat (first|(with_reducible first|exact HB.out|apply bal|apply pbN|apply bd1|refine bst ?_ GE209.out)|exact HB.out)⟩
           · replace c13:=Bool.eq_false_iff.mpr c13
             subst c13;have H1:(some false) = some r:=by rw [if_neg (show ¬ (false = true) by decide)] at H;exact H
             clear H;have H:=H1;clear H1;obtain rfl:=Option.some.inj H
             go_enter Tryz.func75,Tryz.ntmps75
             go_wp2_with (first|((with_reducible refine gate_dst (N:=1) rfl ?_);(try (refine gate_guard (by rfl) ?_;dsimp only));refine bE 1 #[.string a0_0,.string a0_1,.int .i64 a0_2,.int .i64 a0_3,.bool a0_4,.slice A0_5 l0_5.length c0_5,.string a0_6] 44 ?_;intro gb209 hg w19 hbox hb;have BK209:=As0.mk (hbox);have GW209:=As0.mk ((by rw [hg];exact (bsz (by repeat (first|(with_reducible first|exact HB.out|apply bal|apply pbN|apply bd1)|exact HB.out))):w.heap.size ≤ gb209));have GE209:=GW209;replace HB:=As0.mk (b3 HB.out hb);clear hb hbox hg;obtain ⟨hcz20_0,hcz20_1,hcz20_2,hcz20_3,hcz20_4,hcz20_5,hcz20_6⟩:=qc7 BK209.out;obtain ⟨hfz20_0,hfz20_1,hfz20_2,hfz20_3,hfz20_4,hfz20_5,hfz20_6⟩:=qz7 BK209.out)|((with_reducible refine gca (f:=108) rfl ?_);refine gL (some 5) Tryz.func108 #[.string a0_0] ?_;(with_reducible refine (spec_NameOk.calls k a0_0 true _ A2.out).mono ?_);rintro e w' ⟨rfl,⟨nd,rfl⟩⟩;refine ⟨_,rfl,?_⟩)|(go_at_call 108;(with_reducible refine (spec_NameOk.calls k a0_1 true _ A4.out).mono ?_);rintro e w' ⟨rfl,⟨nd,rfl⟩⟩)|(go_at_call 35;(with_reducible refine (spec_l1In.calls a0_2 1 99999 true _ A6.out).mono ?_);rintro e w' ⟨rfl,⟨nd,rfl⟩⟩)|(go_at_call 35;(with_reducible refine (spec_l1In.calls a0_3 1 99999 true _ A8.out).mono ?_);rintro e w' ⟨rfl,⟨nd,rfl⟩⟩)|(go_at_call 109;(with_reducible refine (spec_l7Marks.calls k _ _ l0_5 true _ ?side1 ?side2 A10.out).mono ?_);(case side1=>repeat (first|exact (Kd.C_below HR0_5.out (by repeat (first|(with_reducible first|exact HB.out|apply bal|apply pbN|apply bd1|refine bst ?_ GE209.out)|exact HB.out)))|(with_reducible first|refine Kd.C_alloc ?_ _|refine Kd.C_drewN ?_ _|refine Kd.C_drew ?_)));(case side2=>exact HC0_5.out);rintro e w' ⟨rfl,⟨nd,rfl⟩⟩)|(go_at_call 110;(with_reducible refine (spec_l7Body.calls k a0_6 false _ A12.out).mono ?_);rintro e w' ⟨rfl,⟨nd,rfl⟩⟩))
             go_ret
             exact ⟨eW,by repeat (first|(with_reducible first|exact HB.out|apply bal|apply pbN|apply bd1|refine bst ?_ GE209.out)|exact HB.out)⟩
         · replace c11:=Bool.eq_false_iff.mpr c11
           subst c11;have H1:(some false) = some r:=by rw [if_neg (show ¬ (false = true) by decide)] at H;exact H
           clear H;have H:=H1;clear H1;obtain rfl:=Option.some.inj H
           go_enter Tryz.func75,Tryz.ntmps75
           go_wp2_with (first|((with_reducible refine gate_dst (N:=1) rfl ?_);(try (refine gate_guard (by rfl) ?_;dsimp only));refine bE 1 #[.string a0_0,.string a0_1,.int .i64 a0_2,.int .i64 a0_3,.bool a0_4,.slice A0_5 l0_5.length c0_5,.string a0_6] 44 ?_;intro gb209 hg w21 hbox hb;have BK209:=As0.mk (hbox);have GW209:=As0.mk ((by rw [hg];exact (bsz (by repeat (first|(with_reducible first|exact HB.out|apply bal|apply pbN|apply bd1)|exact HB.out))):w.heap.size ≤ gb209));have GE209:=GW209;replace HB:=As0.mk (b3 HB.out hb);clear hb hbox hg;obtain ⟨hcz22_0,hcz22_1,hcz22_2,hcz22_3,hcz22_4,hcz22_5,hcz22_6⟩:=qc7 BK209.out;obtain ⟨hfz22_0,hfz22_1,hfz22_2,hfz22_3,hfz22_4,hfz22_5,hfz22_6⟩:=qz7 BK209.out)|((with_reducible refine gca (f:=108) rfl ?_);refine gL (some 5) Tryz.func108 #[.string a0_0] ?_;(with_reducible refine (spec_NameOk.calls k a0_0 true _ A2.out).mono ?_);rintro e w' ⟨rfl,⟨nd,rfl⟩⟩;refine ⟨_,rfl,?_⟩)|(go_at_call 108;(with_reducible refine (spec_NameOk.calls k a0_1 true _ A4.out).mono ?_);rintro e w' ⟨rfl,⟨nd,rfl⟩⟩)|(go_at_call 35;(with_reducible refine (spec_l1In.calls a0_2 1 99999 true _ A6.out).mono ?_);rintro e w' ⟨rfl,⟨nd,rfl⟩⟩)|(go_at_call 35;(with_reducible refine (spec_l1In.calls a0_3 1 99999 true _ A8.out).mono ?_);rintro e w' ⟨rfl,⟨nd,rfl⟩⟩)|(go_at_call 109;(with_reducible refine (spec_l7Marks.calls k _ _ l0_5 false _ ?side1 ?side2 A10.out).mono ?_);(case side1=>repeat (first|exact (Kd.C_below HR0_5.out (by repeat (first|(with_reducible first|exact HB.out|apply bal|apply pbN|apply bd1|refine bst ?_ GE209.out)|exact HB.out)))|(with_reducible first|refine Kd.C_alloc ?_ _|refine Kd.C_drewN ?_ _|refine Kd.C_drew ?_)));(case side2=>exact HC0_5.out);rintro e w' ⟨rfl,⟨nd,rfl⟩⟩))
           go_ret
           exact ⟨eW,by repeat (first|(with_reducible first|exact HB.out|apply bal|apply pbN|apply bd1|refine bst ?_ GE209.out)|exact HB.out)⟩
       · replace c9:=Bool.eq_false_iff.mpr c9
         subst c9;have H1:(some false) = some r:=by rw [if_neg (show ¬ (false = true) by decide)] at H;exact H
         clear H;have H:=H1;clear H1;obtain rfl:=Option.some.inj H
         go_enter Tryz.func75,Tryz.ntmps75
         go_wp2_with (first|((with_reducible refine gate_dst (N:=1) rfl ?_);(try (refine gate_guard (by rfl) ?_;dsimp only));refine bE 1 #[.string a0_0,.string a0_1,.int .i64 a0_2,.int .i64 a0_3,.bool a0_4,.slice A0_5 l0_5.length c0_5,.string a0_6] 44 ?_;intro gb209 hg w23 hbox hb;have BK209:=As0.mk (hbox);have GW209:=As0.mk ((by rw [hg];exact (bsz (by repeat (first|(with_reducible first|exact HB.out|apply bal|apply pbN|apply bd1)|exact HB.out))):w.heap.size ≤ gb209));have GE209:=GW209;replace HB:=As0.mk (b3 HB.out hb);clear hb hbox hg;obtain ⟨hcz24_0,hcz24_1,hcz24_2,hcz24_3,hcz24_4,hcz24_5,hcz24_6⟩:=qc7 BK209.out;obtain ⟨hfz24_0,hfz24_1,hfz24_2,hfz24_3,hfz24_4,hfz24_5,hfz24_6⟩:=qz7 BK209.out)|((with_reducible refine gca (f:=108) rfl ?_);refine gL (some 5) Tryz.func108 #[.string a0_0] ?_;(with_reducible refine (spec_NameOk.calls k a0_0 true _ A2.out).mono ?_);rintro e w' ⟨rfl,⟨nd,rfl⟩⟩;refine ⟨_,rfl,?_⟩)|(go_at_call 108;(with_reducible refine (spec_NameOk.calls k a0_1 true _ A4.out).mono ?_);rintro e w' ⟨rfl,⟨nd,rfl⟩⟩)|(go_at_call 35;(with_reducible refine (spec_l1In.calls a0_2 1 99999 true _ A6.out).mono ?_);rintro e w' ⟨rfl,⟨nd,rfl⟩⟩)|(go_at_call 35;(with_reducible refine (spec_l1In.calls a0_3 1 99999 false _ A8.out).mono ?_);rintro e w' ⟨rfl,⟨nd,rfl⟩⟩))
         go_ret
         exact ⟨eW,by repeat (first|(with_reducible first|exact HB.out|apply bal|apply pbN|apply bd1|refine bst ?_ GE209.out)|exact HB.out)⟩
     · replace c7:=Bool.eq_false_iff.mpr c7
       subst c7;have H1:(some false) = some r:=by rw [if_neg (show ¬ (false = true) by decide)] at H;exact H
       clear H;have H:=H1;clear H1;obtain rfl:=Option.some.inj H
       go_enter Tryz.func75,Tryz.ntmps75
       go_wp2_with (first|((with_reducible refine gate_dst (N:=1) rfl ?_);(try (refine gate_guard (by rfl) ?_;dsimp only));refine bE 1 #[.string a0_0,.string a0_1,.int .i64 a0_2,.int .i64 a0_3,.bool a0_4,.slice A0_5 l0_5.length c0_5,.string a0_6] 44 ?_;intro gb209 hg w25 hbox hb;have BK209:=As0.mk (hbox);have GW209:=As0.mk ((by rw [hg];exact (bsz (by repeat (first|(with_reducible first|exact HB.out|apply bal|apply pbN|apply bd1)|exact HB.out))):w.heap.size ≤ gb209));have GE209:=GW209;replace HB:=As0.mk (b3 HB.out hb);clear hb hbox hg;obtain ⟨hcz26_0,hcz26_1,hcz26_2,hcz26_3,hcz26_4,hcz26_5,hcz26_6⟩:=qc7 BK209.out;obtain ⟨hfz26_0,hfz26_1,hfz26_2,hfz26_3,hfz26_4,hfz26_5,hfz26_6⟩:=qz7 BK209.out)|((with_reducible refine gca (f:=108) rfl ?_);refine gL (some 5) Tryz.func108 #[.string a0_0] ?_;(with_reducible refine (spec_NameOk.calls k a0_0 true _ A2.out).mono ?_);rintro e w' ⟨rfl,⟨nd,rfl⟩⟩;refine ⟨_,rfl,?_⟩)|(go_at_call 108;(with_reducible refine (spec_NameOk.calls k a0_1 true _ A4.out).mono ?_);rintro e w' ⟨rfl,⟨nd,rfl⟩⟩)|(go_at_call 35;(with_reducible refine (spec_l1In.calls a0_2 1 99999 false _ A6.out).mono ?_);rintro e w' ⟨rfl,⟨nd,rfl⟩⟩))
       go_ret
       exact ⟨eW,by repeat (first|(with_reducible first|exact HB.out|apply bal|apply pbN|apply bd1|refine bst ?_ GE209.out)|exact HB.out)⟩
   · replace c5:=Bool.eq_false_iff.mpr c5
     subst c5;have H1:(some false) = some r:=by rw [if_neg (show ¬ (false = true) by decide)] at H;exact H
     clear H;have H:=H1;clear H1;obtain rfl:=Option.some.inj H
     go_enter Tryz.func75,Tryz.ntmps75
     go_wp2_with (first|((with_reducible refine gate_dst (N:=1) rfl ?_);(try (refine gate_guard (by rfl) ?_;dsimp only));refine bE 1 #[.string a0_0,.string a0_1,.int .i64 a0_2,.int .i64 a0_3,.bool a0_4,.slice A0_5 l0_5.length c0_5,.string a0_6] 44 ?_;intro gb209 hg w27 hbox hb;have BK209:=As0.mk (hbox);have GW209:=As0.mk ((by rw [hg];exact (bsz (by repeat (first|(with_reducible first|exact HB.out|apply bal|apply pbN|apply bd1)|exact HB.out))):w.heap.size ≤ gb209));have GE209:=GW209;replace HB:=As0.mk (b3 HB.out hb);clear hb hbox hg;obtain ⟨hcz28_0,hcz28_1,hcz28_2,hcz28_3,hcz28_4,hcz28_5,hcz28_6⟩:=qc7 BK209.out;obtain ⟨hfz28_0,hfz28_1,hfz28_2,hfz28_3,hfz28_4,hfz28_5,hfz28_6⟩:=qz7 BK209.out)|((with_reducible refine gca (f:=108) rfl ?_);refine gL (some 5) Tryz.func108 #[.string a0_0] ?_;(with_reducible refine (spec_NameOk.calls k a0_0 true _ A2.out).mono ?_);rintro e w' ⟨rfl,⟨nd,rfl⟩⟩;refine ⟨_,rfl,?_⟩)|(go_at_call 108;(with_reducible refine (spec_NameOk.calls k a0_1 false _ A4.out).mono ?_);rintro e w' ⟨rfl,⟨nd,rfl⟩⟩))
     go_ret
     exact ⟨eW,by repeat (first|(with_reducible first|exact HB.out|apply bal|apply pbN|apply bd1|refine bst ?_ GE209.out)|exact HB.out)⟩
 · replace c3:=Bool.eq_false_iff.mpr c3
   subst c3;have H1:(some false) = some r:=by rw [if_neg (show ¬ (false = true) by decide)] at H;exact H
   clear H;have H:=H1;clear H1;obtain rfl:=Option.some.inj H
   go_enter Tryz.func75,Tryz.ntmps75
   go_wp2_with (first|((with_reducible refine gate_dst (N:=1) rfl ?_);(try (refine gate_guard (by rfl) ?_;dsimp only));refine bE 1 #[.string a0_0,.string a0_1,.int .i64 a0_2,.int .i64 a0_3,.bool a0_4,.slice A0_5 l0_5.length c0_5,.string a0_6] 44 ?_;intro gb209 hg w29 hbox hb;have BK209:=As0.mk (hbox);have GW209:=As0.mk ((by rw [hg];exact (bsz (by repeat (first|(with_reducible first|exact HB.out|apply bal|apply pbN|apply bd1)|exact HB.out))):w.heap.size ≤ gb209));have GE209:=GW209;replace HB:=As0.mk (b3 HB.out hb);clear hb hbox hg;obtain ⟨hcz30_0,hcz30_1,hcz30_2,hcz30_3,hcz30_4,hcz30_5,hcz30_6⟩:=qc7 BK209.out;obtain ⟨hfz30_0,hfz30_1,hfz30_2,hfz30_3,hfz30_4,hfz30_5,hfz30_6⟩:=qz7 BK209.out)|((with_reducible refine gca (f:=108) rfl ?_);refine gL (some 5) Tryz.func108 #[.string a0_0] ?_;(with_reducible refine (spec_NameOk.calls k a0_0 false _ A2.out).mono ?_);rintro e w' ⟨rfl,⟨nd,rfl⟩⟩;refine ⟨_,rfl,?_⟩))
   go_ret
   exact ⟨eW,by repeat (first|(with_reducible first|exact HB.out|apply bal|apply pbN|apply bd1|refine bst ?_ GE209.out)|exact HB.out)⟩
def spec_l10Less.f (a0_0:ByteArray) (a0_1:ByteArray) (a0_2:Int) (a0_3:Int) (a0_4:Bool) (l0_5:List ByteArray) (a0_6:ByteArray) (a1_0:ByteArray) (a1_1:ByteArray) (a1_2:Int) (a1_3:Int) (a1_4:Bool) (l1_5:List ByteArray) (a1_6:ByteArray):Option (Bool):=if (Op.bytesLess a0_0.toList a1_0.toList) = true then (some true) else (if a0_0.toList = a1_0.toList then (some (Op.bytesLess a0_1.toList a1_1.toList)) else (some false))
set_option maxHeartbeats 40000000 in
set_option maxRecDepth 100000 in
theorem spec_l10Less.calls (a0_0:ByteArray) (a0_1:ByteArray) (a0_2:Int) (a0_3:Int) (a0_4:Bool) (A0_5:Option Addr) (c0_5:Nat) (l0_5:List ByteArray) (a0_6:ByteArray) (a1_0:ByteArray) (a1_1:ByteArray) (a1_2:Int) (a1_3:Int) (a1_4:Bool) (A1_5:Option Addr) (c1_5:Nat) (l1_5:List ByteArray) (a1_6:ByteArray) (r:Bool) (w:World) (hr0_5:Kd.C Kd.string w A0_5 l0_5.length l0_5) (hc0_5:l0_5.length ≤ c0_5) (hr1_5:Kd.C Kd.string w A1_5 l1_5.length l1_5) (hc1_5:l1_5.length ≤ c1_5) (h:spec_l10Less.f a0_0 a0_1 a0_2 a0_3 a0_4 l0_5 a0_6 a1_0 a1_1 a1_2 a1_3 a1_4 l1_5 a1_6 = some r) :
 Calls Tryz.prog 76 #[.agg #[.string a0_0,.string a0_1,.int .i64 a0_2,.int .i64 a0_3,.bool a0_4,.slice A0_5 l0_5.length c0_5,.string a0_6],.agg #[.string a1_0,.string a1_1,.int .i64 a1_2,.int .i64 a1_3,.bool a1_4,.slice A1_5 l1_5.length c1_5,.string a1_6]] w fun e w'=>e = .returned (.bool r) ∧ Below w.heap.size w w':=by
 have hu44:=Tryz.underlying44;have HR0_5:=As0.mk hr0_5;have HC0_5:=As0.mk hc0_5;clear hr0_5 hc0_5;have HR1_5:=As0.mk hr1_5;have HC1_5:=As0.mk hc1_5;clear hr1_5 hc1_5;have HB:=As0.mk (Below.refl w.heap.size w);have H:(if (Op.bytesLess a0_0.toList a1_0.toList) = true then (some true) else (if a0_0.toList = a1_0.toList then (some (Op.bytesLess a0_1.toList a1_1.toList)) else (some false))) = some r:=h;clear h;by_cases c3:(Op.bytesLess a0_0.toList a1_0.toList) = true
 · rw [if_pos c3] at H
   have c3b0:(Op.bytesLess a0_0.toList a1_0.toList) = true:=c3;clear c3;obtain rfl:=Option.some.inj H
   go_enter Tryz.func76,Tryz.ntmps76
   go_wp2_with (first|((with_reducible refine gate_dst (N:=2) rfl ?_);refine bE 2 #[.string a0_0,.string a0_1,.int .i64 a0_2,.int .i64 a0_3,.bool a0_4,.slice A0_5 l0_5.length c0_5,.string a0_6] 44 ?_;intro gb216 hg w4 hbox hb;have BK216:=As0.mk (hbox);have GW216:=As0.mk ((by rw [hg];exact (bsz (by repeat (first|(with_reducible first|exact HB.out|apply bal|apply pbN|apply bd1)|exact HB.out))):w.heap.size ≤ gb216));have GE216:=GW216;replace HB:=As0.mk (b3 HB.out hb);clear hb hbox hg)|((with_reducible refine gate_dst (N:=3) rfl ?_);refine bE 3 #[.string a1_0,.string a1_1,.int .i64 a1_2,.int .i64 a1_3,.bool a1_4,.slice A1_5 l1_5.length c1_5,.string a1_6] 44 ?_;intro gb217 hg w5 hbox hb;have BK217:=As0.mk (hbox);have GW217:=As0.mk ((by rw [hg];exact (bsz (by repeat (first|(with_reducible first|exact HB.out|apply bal|apply pbN|apply bd1|refine bst ?_ GE216.out)|exact HB.out))):w.heap.size ≤ gb217));have GE217:=GW217;replace HB:=As0.mk (bsp (by repeat (first|(with_reducible first|exact HB.out|apply bal|apply pbN|apply bd1|refine bst ?_ GE216.out)|exact HB.out)) hb);have NB216_217:=As0.mk ((by rw [hg];exact Nat.ne_of_lt (blk_lt (g:=gb216) (o:=.cells #[.string a0_0,.string a0_1,.int .i64 a0_2,.int .i64 a0_3,.bool a0_4,.slice A0_5 l0_5.length c0_5,.string a0_6] 44 (0,0)) (by (with_reducible repeat (first|refine bkN ?_ _|refine bkD ?_|refine bkA ?_ _));exact BK216.out)):gb216 ≠ gb217));have NB217_216:=As0.mk (Ne.symm NB216_217.out);replace BK216:=As0.mk (bb hb BK216.out);clear hb hbox hg;have hnb6:=NB216_217.out;have hnc6:=NB217_216.out;obtain ⟨hcz7_0,hcz7_1,hcz7_2,hcz7_3,hcz7_4,hcz7_5,hcz7_6⟩:=qc7 BK216.out;obtain ⟨hfz7_0,hfz7_1,hfz7_2,hfz7_3,hfz7_4,hfz7_5,hfz7_6⟩:=qz7 BK216.out;obtain ⟨hcz8_0,hcz8_1,hcz8_2,hcz8_3,hcz8_4,hcz8_5,hcz8_6⟩:=qc7 BK217.out;obtain ⟨hfz8_0,hfz8_1,hfz8_2,hfz8_3,hfz8_4,hfz8_5,hfz8_6⟩:=qz7 BK217.out))
   go_ret
   exact ⟨eW,by repeat (first|(with_reducible first|exact HB.out|apply bal|apply pbN|apply bd1|refine bst ?_ GE216.out|refine bst ?_ GE217.out)|exact HB.out)⟩
 · rw [if_neg c3] at H
   have c3b0:(Op.bytesLess a0_0.toList a1_0.toList) = false:=by simpa using c3
   clear c3;by_cases c9:a0_0.toList = a1_0.toList
   · rw [if_pos c9] at H
     have c9b0:(a0_0.toList == a1_0.toList) = true:=beq_iff_eq.mpr c9;have c9b1:(a0_0.toList != a1_0.toList) = false:=bne_eq_false_iff_eq.mpr c9;clear c9;obtain rfl:=Option.some.inj H
     go_enter Tryz.func76,Tryz.ntmps76
     go_wp2_with (first|((with_reducible refine gate_dst (N:=2) rfl ?_);refine bE 2 #[.string a0_0,.string a0_1,.int .i64 a0_2,.int .i64 a0_3,.bool a0_4,.slice A0_5 l0_5.length c0_5,.string a0_6] 44 ?_;intro gb216 hg w10 hbox hb;have BK216:=As0.mk (hbox);have GW216:=As0.mk ((by rw [hg];exact (bsz (by repeat (first|(with_reducible first|exact HB.out|apply bal|apply pbN|apply bd1)|exact HB.out))):w.heap.size ≤ gb216));have GE216:=GW216;replace HB:=As0.mk (b3 HB.out hb);clear hb hbox hg)|((with_reducible refine gate_dst (N:=3) rfl ?_);refine bE 3 #[.string a1_0,.string a1_1,.int .i64 a1_2,.int .i64 a1_3,.bool a1_4,.slice A1_5 l1_5.length c1_5,.string a1_6] 44 ?_;intro gb217 hg w11 hbox hb;have BK217:=As0.mk (hbox);have GW217:=As0.mk ((by rw [hg];exact (bsz (by repeat (first|(with_reducible first|exact HB.out|apply bal|apply pbN|apply bd1|refine bst ?_ GE216.out)|exact HB.out))):w.heap.size ≤ gb217));have GE217:=GW217;replace HB:=As0.mk (bsp (by repeat (first|(with_reducible first|exact HB.out|apply bal|apply pbN|apply bd1|refine bst ?_ GE216.out)|exact HB.out)) hb);have NB216_217:=As0.mk ((by rw [hg];exact Nat.ne_of_lt (blk_lt (g:=gb216) (o:=.cells #[.string a0_0,.string a0_1,.int .i64 a0_2,.int .i64 a0_3,.bool a0_4,.slice A0_5 l0_5.length c0_5,.string a0_6] 44 (0,0)) (by (with_reducible repeat (first|refine bkN ?_ _|refine bkD ?_|refine bkA ?_ _));exact BK216.out)):gb216 ≠ gb217));have NB217_216:=As0.mk (Ne.symm NB216_217.out);replace BK216:=As0.mk (bb hb BK216.out);clear hb hbox hg;have hnb12:=NB216_217.out;have hnc12:=NB217_216.out;obtain ⟨hcz13_0,hcz13_1,hcz13_2,hcz13_3,hcz13_4,hcz13_5,hcz13_6⟩:=qc7 BK216.out;obtain ⟨hfz13_0,hfz13_1,hfz13_2,hfz13_3,hfz13_4,hfz13_5,hfz13_6⟩:=qz7 BK216.out;obtain ⟨hcz14_0,hcz14_1,hcz14_2,hcz14_3,hcz14_4,hcz14_5,hcz14_6⟩:=qc7 BK217.out;obtain ⟨hfz14_0,hfz14_1,hfz14_2,hfz14_3,hfz14_4,hfz14_5,hfz14_6⟩:=qz7 BK217.out))
     go_ret
     exact ⟨eW,by repeat (first|(with_reducible first|exact HB.out|apply bal|apply pbN|apply bd1|refine bst ?_ GE216.out|refine bst ?_ GE217.out)|exact HB.out)⟩
   · rw [if_neg c9] at H
     have c9b0:(a0_0.toList == a1_0.toList) = false:=beq_eq_false_iff_ne.mpr c9;have c9b1:(a0_0.toList != a1_0.toList) = true:=bne_iff_ne.mpr c9;obtain rfl:=Option.some.inj H
     go_enter Tryz.func76,Tryz.ntmps76
     go_wp2_with (first|((with_reducible refine gate_dst (N:=2) rfl ?_);refine bE 2 #[.string a0_0,.string a0_1,.int .i64 a0_2,.int .i64 a0_3,.bool a0_4,.slice A0_5 l0_5.length c0_5,.string a0_6] 44 ?_;intro gb216 hg w15 hbox hb;have BK216:=As0.mk (hbox);have GW216:=As0.mk ((by rw [hg];exact (bsz (by repeat (first|(with_reducible first|exact HB.out|apply bal|apply pbN|apply bd1)|exact HB.out))):w.heap.size ≤ gb216));have GE216:=GW216;replace HB:=As0.mk (b3 HB.out hb);clear hb hbox hg)|((with_reducible refine gate_dst (N:=3) rfl ?_);refine bE 3 #[.string a1_0,.string a1_1,.int .i64 a1_2,.int .i64 a1_3,.bool a1_4,.slice A1_5 l1_5.length c1_5,.string a1_6] 44 ?_;intro gb217 hg w16 hbox hb;have BK217:=As0.mk (hbox);have GW217:=As0.mk ((by rw [hg];exact (bsz (by repeat (first|(with_reducible first|exact HB.out|apply bal|apply pbN|apply bd1|refine bst ?_ GE216.out)|exact HB.out))):w.heap.size ≤ gb217));have GE217:=GW217;replace HB:=As0.mk (bsp (by repeat (first|(with_reducible first|exact HB.out|apply bal|apply pbN|apply bd1|refine bst ?_ GE216.out)|exact HB.out)) hb);have NB216_217:=As0.mk ((by rw [hg];exact Nat.ne_of_lt (blk_lt (g:=gb216) (o:=.cells #[.string a0_0,.string a0_1,.int .i64 a0_2,.int .i64 a0_3,.bool a0_4,.slice A0_5 l0_5.length c0_5,.string a0_6] 44 (0,0)) (by (with_reducible repeat (first|refine bkN ?_ _|refine bkD ?_|refine bkA ?_ _));exact BK216.out)):gb216 ≠ gb217));have NB217_216:=As0.mk (Ne.symm NB216_217.out);replace BK216:=As0.mk (bb hb BK216.out);clear hb hbox hg;have hnb17:=NB216_217.out;have hnc17:=NB217_216.out;obtain ⟨hcz18_0,hcz18_1,hcz18_2,hcz18_3,hcz18_4,hcz18_5,hcz18_6⟩:=qc7 BK216.out;obtain ⟨hfz18_0,hfz18_1,hfz18_2,hfz18_3,hfz18_4,hfz18_5,hfz18_6⟩:=qz7 BK216.out;obtain ⟨hcz19_0,hcz19_1,hcz19_2,hcz19_3,hcz19_4,hcz19_5,hcz19_6⟩:=qc7 BK217.out;obtain ⟨hfz19_0,hfz19_1,hfz19_2,hfz19_3,hfz19_4,hfz19_5,hfz19_6⟩:=qz7 BK217.out))
     go_ret
     exact ⟨eW,by repeat (first|(with_reducible first|exact HB.out|apply bal|apply pbN|apply bd1|refine bst ?_ GE216.out|refine bst ?_ GE217.out)|exact HB.out)⟩
end Go.Proofs.YtclgmogfkoinbaaGreatDoor.P
