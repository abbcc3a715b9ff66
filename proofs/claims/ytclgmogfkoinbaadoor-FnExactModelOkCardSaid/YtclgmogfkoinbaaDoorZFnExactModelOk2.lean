/- Functions of the law FnExactModelOk as_ plain Lean functions, and that the machine's calls do what they say. -/
import Derived.Test.YtclgmogfkoinbaaDoorZFnExactModelOk0
namespace Go.Proofs.YtclgmogfkoinbaaDoor.P
open Go.RowKit Go.Proofs.YtclgmogfkoinbaaDoorW.PrintWords Go.Proofs.YtclgmogfkoinbaaDoorW.PrintLast Go.Proofs.YtclgmogfkoinbaaDoorW.PrintMore
attribute [local go_sem] max2_int min2_int max_two min_two max_three min_three max_four min_four
set_option linter.unusedVariables false
set_option linter.unusedSimpArgs false
def spec_l10Past.f (k:Nat) (a0_0:Int) (a0_1:ByteArray) (a0_2:ByteArray) (a0_3:ByteArray):Option (Bool):=(spec_l1In.f a0_0 1 99999).bind fun t169=>(if t169 = true then (if a0_1.toList = ([43]:List UInt8) then ((spec_NameOk.f k a0_2).bind fun t170=>(if t170 = true then (if a0_3.toList = ([]:List UInt8) then (some true) else ((spec_NameOk.f k a0_3).bind fun t171=>(some t171))) else (some false))) else (if a0_1.toList = ([61]:List UInt8) then ((spec_NameOk.f k a0_2).bind fun t172=>(if t172 = true then (if a0_3.toList = ([]:List UInt8) then (some true) else ((spec_NameOk.f k a0_3).bind fun t173=>(some t173))) else (some false))) else (if a0_1.toList = ([45]:List UInt8) then ((spec_NameOk.f k a0_2).bind fun t174=>(if t174 = true then (if a0_3.toList = ([]:List UInt8) then (some true) else ((spec_NameOk.f k a0_3).bind fun t175=>(some t175))) else (some false))) else (some false)))) else (some false))
set_option maxHeartbeats 40000000 in
set_option maxRecDepth 100000 in
theorem spec_l10Past.calls (k:Nat) (a0_0:Int) (a0_1:ByteArray) (a0_2:ByteArray) (a0_3:ByteArray) (r:Bool) (w:World) (h:spec_l10Past.f k a0_0 a0_1 a0_2 a0_3 = some r) :
 Calls Tryd.prog 37 #[.agg #[.int .i64 a0_0,.string a0_1,.string a0_2,.string a0_3]] w fun e w'=>e = .returned (.bool r) ∧ Below w.heap.size w w':=by
 have hu77:=Tryd.underlying77;have HB:=As0.mk (Below.refl w.heap.size w);have H:((spec_l1In.f a0_0 1 99999).bind fun t169=>(if t169 = true then (if a0_1.toList = ([43]:List UInt8) then ((spec_NameOk.f k a0_2).bind fun t170=>(if t170 = true then (if a0_3.toList = ([]:List UInt8) then (some true) else ((spec_NameOk.f k a0_3).bind fun t171=>(some t171))) else (some false))) else (if a0_1.toList = ([61]:List UInt8) then ((spec_NameOk.f k a0_2).bind fun t172=>(if t172 = true then (if a0_3.toList = ([]:List UInt8) then (some true) else ((spec_NameOk.f k a0_3).bind fun t173=>(some t173))) else (some false))) else (if a0_1.toList = ([45]:List UInt8) then ((spec_NameOk.f k a0_2).bind fun t174=>(if t174 = true then (if a0_3.toList = ([]:List UInt8) then (some true) else ((spec_NameOk.f k a0_3).bind fun t175=>(some t175))) else (some false))) else (some false)))) else (some false))) = some r:=h;clear h;replace H:=Option.bind_eq_some_iff.mp H;obtain ⟨t169,A20,H⟩:=H;(try dsimp only at H);have A2:=As0.mk A20;clear A20;by_cases c3:t169 = true
 · subst c3
   have H1:(if a0_1.toList = ([43]:List UInt8) then ((spec_NameOk.f k a0_2).bind fun t170=>(if t170 = true then (if a0_3.toList = ([]:List UInt8) then (some true) else ((spec_NameOk.f k a0_3).bind fun t171=>(some t171))) else (some false))) else (if a0_1.toList = ([61]:List UInt8) then ((spec_NameOk.f k a0_2).bind fun t172=>(if t172 = true then (if a0_3.toList = ([]:List UInt8) then (some true) else ((spec_NameOk.f k a0_3).bind fun t173=>(some t173))) else (some false))) else (if a0_1.toList = ([45]:List UInt8) then ((spec_NameOk.f k a0_2).bind fun t174=>(if t174 = true then (if a0_3.toList = ([]:List UInt8) then (some true) else ((spec_NameOk.f k a0_3).bind fun t175=>(some t175))) else (some false))) else (some false)))) = some r:=by rw [if_pos rfl] at H;exact H
   clear H;have H:=H1;clear H1;by_cases c4:a0_1.toList = ([43]:List UInt8)
   · rw [if_pos c4] at H
     have c4b0:(a0_1.toList == ([43]:List UInt8)) = true:=beq_iff_eq.mpr c4;have c4b1:(a0_1.toList != ([43]:List UInt8)) = false:=bne_eq_false_iff_eq.mpr c4;clear c4;replace H:=Option.bind_eq_some_iff.mp H;obtain ⟨t170,A50,H⟩:=H;(try dsimp only at H);have A5:=As0.mk A50;clear A50;by_cases c6:t170 = true
     · subst c6
       have H1:(if a0_3.toList = ([]:List UInt8) then (some true) else ((spec_NameOk.f k a0_3).bind fun t171=>(some t171))) = some r:=by rw [if_pos rfl] at H;exact H
       clear H;have H:=H1;clear H1;by_cases c7:a0_3.toList = ([]:List UInt8)
       · rw [if_pos c7] at H
         have c7b0:(a0_3.toList == ([]:List UInt8)) = true:=beq_iff_eq.mpr c7;have c7b1:(a0_3.toList != ([]:List UInt8)) = false:=bne_eq_false_iff_eq.mpr c7;clear c7;obtain rfl:=Option.some.inj H
         go_enter Tryd.func37,Tryd.ntmps37
         go_wp2_with (first|((with_reducible refine gate_dst (N:=1) rfl ?_);refine bE 1 #[.int .i64 a0_0,.string a0_1,.string a0_2,.string a0_3] 77 ?_;intro gb168 hg w8 hbox hb;have BK168:=As0.mk (hbox);have GW168:=As0.mk ((by rw [hg];exact (bsz (by repeat (first|(with_reducible first|exact HB.out|apply bal|apply pbN|apply bd1)|exact HB.out))):w.heap.size ≤ gb168));have GE168:=GW168;replace HB:=As0.mk (b3 HB.out hb);clear hb hbox hg;obtain ⟨hcz9_0,hcz9_1,hcz9_2,hcz9_3⟩:=qc4 BK168.out;obtain ⟨hfz9_0,hfz9_1,hfz9_2,hfz9_3⟩:=qz4 BK168.out)|((with_reducible refine gca (f:=13) rfl ?_);refine gL (some 5) Tryd.func13 #[.int .i64 a0_0,.int .i64 1,.int .i64 99999] ?_;(with_reducible refine (spec_l1In.calls a0_0 1 99999 true _ A2.out).mono ?_);rintro e w' ⟨rfl,⟨nd,rfl⟩⟩;refine ⟨_,rfl,?_⟩)|(go_at_call 59;(with_reducible refine (spec_NameOk.calls k a0_2 true _ A5.out).mono ?_);rintro e w' ⟨rfl,⟨nd,rfl⟩⟩))
         go_ret
         exact ⟨eW,by repeat (first|(with_reducible first|exact HB.out|apply bal|apply pbN|apply bd1|refine bst ?_ GE168.out)|exact HB.out)⟩
       · rw [if_neg c7] at H
         have c7b0:(a0_3.toList == ([]:List UInt8)) = false:=beq_eq_false_iff_ne.mpr c7;have c7b1:(a0_3.toList != ([]:List UInt8)) = true:=bne_iff_ne.mpr c7;replace H:=Option.bind_eq_some_iff.mp H;obtain ⟨t171,A100,H⟩:=H;(try dsimp only at H);have A10:=As0.mk A100;clear A100;obtain rfl:=Option.some.inj H
         go_enter Tryd.func37,Tryd.ntmps37
         go_wp2_with (first|((with_reducible refine gate_dst (N:=1) rfl ?_);refine bE 1 #[.int .i64 a0_0,.string a0_1,.string a0_2,.string a0_3] 77 ?_;intro gb168 hg w11 hbox hb;have BK168:=As0.mk (hbox);have GW168:=As0.mk ((by rw [hg];exact (bsz (by repeat (first|(with_reducible first|exact HB.out|apply bal|apply pbN|apply bd1)|exact HB.out))):w.heap.size ≤ gb168));have GE168:=GW168;replace HB:=As0.mk (b3 HB.out hb);clear hb hbox hg;obtain ⟨hcz12_0,hcz12_1,hcz12_2,hcz12_3⟩:=qc4 BK168.out;obtain ⟨hfz12_0,hfz12_1,hfz12_2,hfz12_3⟩:=qz4 BK168.out)|((with_reducible refine gca (f:=13) rfl ?_);refine gL (some 5) Tryd.func13 #[.int .i64 a0_0,.int .i64 1,.int .i64 99999] ?_;(with_reducible refine (spec_l1In.calls a0_0 1 99999 true _ A2.out).mono ?_);rintro e w' ⟨rfl,⟨nd,rfl⟩⟩;refine ⟨_,rfl,?_⟩)|(go_at_call 59;(with_reducible refine (spec_NameOk.calls k a0_2 true _ A5.out).mono ?_);rintro e w' ⟨rfl,⟨nd,rfl⟩⟩)|(go_at_call 59;(with_reducible refine (spec_NameOk.calls k a0_3 t171 _ A10.out).mono ?_);rintro e w' ⟨rfl,⟨nd,rfl⟩⟩))
         go_ret
         exact ⟨eW,by repeat (first|(with_reducible first|exact HB.out|apply bal|apply pbN|apply bd1|refine bst ?_ GE168.out)|exact HB.out)⟩
     · replace c6:=Bool.eq_false_iff.mpr c6
       subst c6;have H1:(some false) = some r:=by rw [if_neg (show ¬ (false = true) by decide)] at H;exact H
       clear H;have H:=H1;clear H1;obtain rfl:=Option.some.inj H
       go_enter Tryd.func37,Tryd.ntmps37
       go_wp2_with (first|((with_reducible refine gate_dst (N:=1) rfl ?_);refine bE 1 #[.int .i64 a0_0,.string a0_1,.string a0_2,.string a0_3] 77 ?_;intro gb168 hg w13 hbox hb;have BK168:=As0.mk (hbox);have GW168:=As0.mk ((by rw [hg];exact (bsz (by repeat (first|(with_reducible first|exact HB.out|apply bal|apply pbN|apply bd1)|exact HB.out))):w.heap.size ≤ gb168));have GE168:=GW168;replace HB:=As0.mk (b3 HB.out hb);clear hb hbox hg;obtain ⟨hcz14_0,hcz14_1,hcz14_2,hcz14_3⟩:=qc4 BK168.out;obtain ⟨hfz14_0,hfz14_1,hfz14_2,hfz14_3⟩:=qz4 BK168.out)|((with_reducible refine gca (f:=13) rfl ?_);refine gL (some 5) Tryd.func13 #[.int .i64 a0_0,.int .i64 1,.int .i64 99999] ?_;(with_reducible refine (spec_l1In.calls a0_0 1 99999 true _ A2.out).mono ?_);rintro e w' ⟨rfl,⟨nd,rfl⟩⟩;refine ⟨_,rfl,?_⟩)|(go_at_call 59;(with_reducible refine (spec_NameOk.calls k a0_2 false _ A5.out).mono ?_);rintro e w' ⟨rfl,⟨nd,rfl⟩⟩))
       go_ret
       exact ⟨eW,by repeat (first|(with_reducible first|exact HB.out|apply bal|apply pbN|apply bd1|refine bst ?_ GE168.out)|exact HB.out)⟩
   · rw [if_neg c4] at H
     have c4b0:(a0_1.toList == ([43]:List UInt8)) = false:=beq_eq_false_iff_ne.mpr c4;have c4b1:(a0_1.toList != ([43]:List UInt8)) = true:=bne_iff_ne.mpr c4;by_cases c15:a0_1.toList = ([61]:List UInt8)
     · rw [if_pos c15] at H
       have c15b0:(a0_1.toList == ([61]:List UInt8)) = true:=beq_iff_eq.mpr c15;have c15b1:(a0_1.toList != ([61]:List UInt8)) = false:=bne_eq_false_iff_eq.mpr c15;clear c15;replace H:=Option.bind_eq_some_iff.mp H;obtain ⟨t172,A160,H⟩:=H;(try dsimp only at H);have A16:=As0.mk A160;clear A160;by_cases c17:t172 = true
       · subst c17
         have H1:(if a0_3.toList = ([]:List UInt8) then (some true) else ((spec_NameOk.f k a0_3).bind fun t173=>(some t173))) = some r:=by rw [if_pos rfl] at H;exact H
         clear H;have H:=H1;clear H1;by_cases c18:a0_3.toList = ([]:List UInt8)
         · rw [if_pos c18] at H
           have c18b0:(a0_3.toList == ([]:List UInt8)) = true:=beq_iff_eq.mpr c18;have c18b1:(a0_3.toList != ([]:List UInt8)) = false:=bne_eq_false_iff_eq.mpr c18;clear c18;obtain rfl:=Option.some.inj H
           go_enter Tryd.func37,Tryd.ntmps37
           go_wp2_with (first|((with_reducible refine gate_dst (N:=1) rfl ?_);refine bE 1 #[.int .i64 a0_0,.string a0_1,.string a0_2,.string a0_3] 77 ?_;intro gb168 hg w19 hbox hb;have BK168:=As0.mk (hbox);have GW168:=As0.mk ((by rw [hg];exact (bsz (by repeat (first|(with_reducible first|exact HB.out|apply bal|apply pbN|apply bd1)|exact HB.out))):w.heap.size ≤ gb168));have GE168:=GW168;replace HB:=As0.mk (b3 HB.out hb);clear hb hbox hg;obtain ⟨hcz20_0,hcz20_1,hcz20_2,hcz20_3⟩:=qc4 BK168.out;obtain ⟨hfz20_0,hfz20_1,hfz20_2,hfz20_3⟩:=qz4 BK168.out)|((with_reducible refine gca (f:=13) rfl ?_);refine gL (some 5) Tryd.func13 #[.int .i64 a0_0,.int .i64 1,.int .i64 99999] ?_;(with_reducible refine (spec_l1In.calls a0_0 1 99999 true _ A2.out).mono ?_);rintro e w' ⟨rfl,⟨nd,rfl⟩⟩;refine ⟨_,rfl,?_⟩)|(go_at_call 59;(with_reducible refine (spec_NameOk.calls k a0_2 true _ A16.out).mono ?_);rintro e w' ⟨rfl,⟨nd,rfl⟩⟩))
           go_ret
           exact ⟨eW,by repeat (first|(with_reducible first|exact HB.out|apply bal|apply pbN|apply bd1|refine bst ?_ GE168.out)|exact HB.out)⟩
         · rw [if_neg c18] at H
           have c18b0:(a0_3.toList == ([]:List UInt8)) = false:=beq_eq_false_iff_ne.mpr c18;have c18b1:(a0_3.toList != ([]:List UInt8)) = true:=bne_iff_ne.mpr c18;replace H:=Option.bind_eq_some_iff.mp H;obtain ⟨t173,A210,H⟩:=H;(try dsimp only at H);have A21:=As0.mk A210;clear A210;obtain rfl:=Option.some.inj H
           go_enter Tryd.func37,Tryd.ntmps37
           go_wp2_with (first|((with_reducible refine gate_dst (N:=1) rfl ?_);refine bE 1 #[.int .i64 a0_0,.string a0_1,.string a0_2,.string a0_3] 77 ?_;intro gb168 hg w22 hbox hb;have BK168:=As0.mk (hbox);have GW168:=As0.mk ((by rw [hg];exact (bsz (by repeat (first|(with_reducible first|exact HB.out|apply bal|apply pbN|apply bd1)|exact HB.out))):w.heap.size ≤ gb168));have GE168:=GW168;replace HB:=As0.mk (b3 HB.out hb);clear hb hbox hg;obtain ⟨hcz23_0,hcz23_1,hcz23_2,hcz23_3⟩:=qc4 BK168.out;obtain ⟨hfz23_0,hfz23_1,hfz23_2,hfz23_3⟩:=qz4 BK168.out)|((with_reducible refine gca (f:=13) rfl ?_);refine gL (some 5) Tryd.func13 #[.int .i64 a0_0,.int .i64 1,.int .i64 99999] ?_;(with_reducible refine (spec_l1In.calls a0_0 1 99999 true _ A2.out).mono ?_);rintro e w' ⟨rfl,⟨nd,rfl⟩⟩;refine ⟨_,rfl,?_⟩)|(go_at_call 59;(with_reducible refine (spec_NameOk.calls k a0_2 true _ A16.out).mono ?_);rintro e w' ⟨rfl,⟨nd,rfl⟩⟩)|(go_at_call 59;(with_reducible refine (spec_NameOk.calls k a0_3 t173 _ A21.out).mono ?_);rintro e w' ⟨rfl,⟨nd,rfl⟩⟩))
           go_ret
           exact ⟨eW,by repeat (first|(with_reducible first|exact HB.out|apply bal|apply pbN|apply bd1|refine bst ?_ GE168.out)|exact HB.out)⟩
       · replace c17:=Bool.eq_false_iff.mpr c17
         subst c17;have H1:(some false) = some r:=by rw [if_neg (show ¬ (false = true) by decide)] at H;exact H
         clear H;have H:=H1;clear H1;obtain rfl:=Option.some.inj H
         go_enter Tryd.func37,Tryd.ntmps37
         go_wp2_with (first|((with_reducible refine gate_dst (N:=1) rfl ?_);refine bE 1 #[.int .i64 a0_0,.string a0_1,.string a0_2,.string a0_3] 77 ?_;intro gb168 hg w24 hbox hb;have BK168:=As0.mk (hbox);have GW168:=As0.mk ((by rw [hg];exact (bsz (by repeat (first|(with_reducible first|exact HB.out|apply bal|apply pbN|apply bd1)|exact HB.out))):w.heap.size ≤ gb168));have GE168:=GW168;replace HB:=As0.mk (b3 HB.out hb);clear hb hbox hg;obtain ⟨hcz25_0,hcz25_1,hcz25_2,hcz25_3⟩:=qc4 BK168.out;obtain ⟨hfz25_0,hfz25_1,hfz25_2,hfz25_3⟩:=qz4 BK168.out)|((with_reducible refine gca (f:=13) rfl ?_);refine gL (some 5) Tryd.func13 #[.int .i64 a0_0,.int .i64 1,.int .i64 99999] ?_;(with_reducible refine (spec_l1In.calls a0_0 1 99999 true _ A2.out).mono ?_);rintro e w' ⟨rfl,⟨nd,rfl⟩⟩;refine ⟨_,rfl,?_⟩)|(go_at_call 59;(with_reducible refine (spec_NameOk.calls k a0_2 false _ A16.out).mono ?_);rintro e w' ⟨rfl,⟨nd,rfl⟩⟩))
         go_ret
         exact ⟨eW,by repeat (first|(with_reducible first|exact HB.out|apply bal|apply pbN|apply bd1|refine bst ?_ GE168.out)|exact HB.out)⟩
     · rw [if_neg c15] at H
       have c15b0:(a0_1.toList == ([61]:List UInt8)) = false:=beq_eq_false_iff_ne.mpr c15;have c15b1:(a0_1.toList != ([61]:List UInt8)) = true:=bne_iff_ne.mpr c15;by_cases c26:a0_1.toList = ([45]:List UInt8)
       · rw [if_pos c26] at H
         have c26b0:(a0_1.toList == ([45]:List UInt8)) = true:=beq_iff_eq.mpr c26;have c26b1:(a0_1.toList != ([45]:List UInt8)) = false:=bne_eq_false_iff_eq.mpr c26;clear c26;replace H:=Option.bind_eq_some_iff.mp H;obtain ⟨t174,A270,H⟩:=H;(try dsimp only at H);have A27:=As0.mk A270;clear A270;by_cases c28:t174 = true
         · subst c28
           have H1:(if a0_3.toList = ([]:List UInt8) then (some true) else ((spec_NameOk.f k a0_3).bind fun t175=>(some t175))) = some r:=by rw [if_pos rfl] at H;exact H
           clear H;have H:=H1;clear H1;by_cases c29:a0_3.toList = ([]:List UInt8)
           · rw [if_pos c29] at H
             have c29b0:(a0_3.toList == ([]:List UInt8)) = true:=beq_iff_eq.mpr c29;have c29b1:(a0_3.toList != ([]:List UInt8)) = false:=bne_eq_false_iff_eq.mpr c29;clear c29;obtain rfl:=Option.some.inj H
             go_enter Tryd.func37,Tryd.ntmps37
             go_wp2_with (first|((with_reducible refine gate_dst (N:=1) rfl ?_);refine bE 1 #[.int .i64 a0_0,.string a0_1,.string a0_2,.string a0_3] 77 ?_;intro gb168 hg w30 hbox hb;have BK168:=As0.mk (hbox);have GW168:=As0.mk ((by rw [hg];exact (bsz (by repeat (first|(with_reducible first|exact HB.out|apply bal|apply pbN|apply bd1)|exact HB.out))):w.heap.size ≤ gb168));have GE168:=GW168;replace HB:=As0.mk (b3 HB.out hb);clear hb hbox hg;obtain ⟨hcz31_0,hcz31_1,hcz31_2,hcz31_3⟩:=qc4 BK168.out;obtain ⟨hfz31_0,hfz31_1,hfz31_2,hfz31_3⟩:=qz4 BK168.out)|((with_reducible refine gca (f:=13) rfl ?_);refine gL (some 5) Tryd.func13 #[.int .i64 a0_0,.int .i64 1,.int .i64 99999] ?_;(with_reducible refine (spec_l1In.calls a0_0 1 99999 true _ A2.out).mono ?_);rintro e w' ⟨rfl,⟨nd,rfl⟩⟩;refine ⟨_,rfl,?_⟩)|(go_at_call 59;(with_reducible refine (spec_NameOk.calls k a0_2 true _ A27.out).mono ?_);rintro e w' ⟨rfl,⟨nd,rfl⟩⟩))
             go_ret
             exact ⟨eW,by repeat (first|(with_reducible first|exact HB.out|apply bal|apply pbN|apply bd1|refine bst ?_ GE168.out)|exact HB.out)⟩
           · rw [if_neg c29] at H
             have c29b0:(a0_3.toList == ([]:List UInt8)) = false:=beq_eq_false_iff_ne.mpr c29;have c29b1:(a0_3.toList != ([]:List UInt8)) = true:=bne_iff_ne.mpr c29;replace H:=Option.bind_eq_some_iff.mp H;obtain ⟨t175,A320,H⟩:=H;(try dsimp only at H);have A32:=As0.mk A320;clear A320;obtain rfl:=Option.some.inj H
             go_enter Tryd.func37,Tryd.ntmps37
             go_wp2_with (first|((with_reducible refine gate_dst (N:=1) rfl ?_);refine bE 1 #[.int .i64 a0_0,.string a0_1,.string a0_2,.string a0_3] 77 ?_;intro gb168 hg w33 hbox hb;have BK168:=As0.mk (hbox);have GW168:=As0.mk ((by rw [hg];exact (bsz (by repeat (first|(with_reducible first|exact HB.out|apply bal|apply pbN|apply bd1)|exact HB.out))):w.heap.size ≤ gb168));have GE168:=GW168;replace HB:=As0.mk (b3 HB.out hb);clear hb hbox hg;obtain ⟨hcz34_0,hcz34_1,hcz34_2,hcz34_3⟩:=qc4 BK168.out;obtain ⟨hfz34_0,hfz34_1,hfz34_2,hfz34_3⟩:=qz4 BK168.out)|((with_reducible refine gca (f:=13) rfl ?_);refine gL (some 5) Tryd.func13 #[.int .i64 a0_0,.int .i64 1,.int .i64 99999] ?_;(with_reducible refine (spec_l1In.calls a0_0 1 99999 true _ A2.out).mono ?_);rintro e w' ⟨rfl,⟨nd,rfl⟩⟩;refine ⟨_,rfl,?_⟩)|(go_at_call 59;(with_reducible refine (spec_NameOk.calls k a0_2 true _ A27.out).mono ?_);rintro e w' ⟨rfl,⟨nd,rfl⟩⟩)|(go_at_call 59;(with_reducible refine (spec_NameOk.calls k a0_3 t175 _ A32.out).mono ?_);rintro e w' ⟨rfl,⟨nd,rfl⟩⟩))
             go_ret
             exact ⟨eW,by repeat (first|(with_reducible first|exact HB.out|apply bal|apply pbN|apply bd1|refine bst ?_ GE168.out)|exact HB.out)⟩
         · replace c28:=Bool.eq_false_iff.mpr c28
           subst c28;have H1:(some false) = some r:=by rw [if_neg (show ¬ (false = true) by decide)] at H;exact H
           clear H;have H:=H1;clear H1;obtain rfl:=Option.some.inj H
           go_enter Tryd.func37,Tryd.ntmps37
           go_wp2_with (first|((with_reducible refine gate_dst (N:=1) rfl ?_);refine bE 1 #[.int .i64 a0_0,.string a0_1,.string a0_2,.string a0_3] 77 ?_;intro gb168 hg w35 hbox hb;have BK168:=As0.mk (hbox);have GW168:=As0.mk ((by rw [hg];exact (bsz (by repeat (first|(with_reducible first|exact HB.out|apply bal|apply pbN|apply bd1)|exact HB.out))):w.heap.size ≤ gb168));have GE168:=GW168;replace HB:=As0.mk (b3 HB.out hb);clear hb hbox hg;obtain ⟨hcz36_0,hcz36_1,hcz36_2,hcz36_3⟩:=qc4 BK168.out;obtain ⟨hfz36_0,hfz36_1,hfz36_2,hfz36_3⟩:=qz4 BK168.out)|((with_reducible refine gca (f:=13) rfl ?_);refine gL (some 5) Tryd.func13 #[.int .i64 a0_0,.int .i64 1,.int .i64 99999] ?_;(with_reducible refine (spec_l1In.calls a0_0 1 99999 true _ A2.out).mono ?_);rintro e w' ⟨rfl,⟨nd,rfl⟩⟩;refine ⟨_,rfl,?_⟩)|(go_at_call 59;(with_reducible refine (spec_NameOk.calls k a0_2 false _ A27.out).mono ?_);rintro e w' ⟨rfl,⟨nd,rfl⟩⟩))
           go_ret
           exact ⟨eW,by repeat (first|(with_reducible first|exact HB.out|apply bal|apply pbN|apply bd1|refine bst ?_ GE168.out)|exact HB.out)⟩
       · rw [if_neg c26] at H
         have c26b0:(a0_1.toList == ([45]:List UInt8)) = false:=beq_eq_false_iff_ne.mpr c26;have c26b1:(a0_1.toList != ([45]:List UInt8)) = true:=bne_iff_ne.mpr c26;obtain rfl:=Option.some.inj H
         go_enter Tryd.func37,Tryd.ntmps37
         go_wp2_with (first|((with_reducible refine gate_dst (N:=1) rfl ?_);refine bE 1 #[.int .i64 a0_0,.string a0_1,.string a0_2,.string a0_3] 77 ?_;intro gb168 hg w37 hbox hb;have BK168:=As0.mk (hbox);have GW168:=As0.mk ((by rw [hg];exact (bsz (by repeat (first|(with_reducible first|exact HB.out|apply bal|apply pbN|apply bd1)|exact HB.out))):w.heap.size ≤ gb168));have GE168:=GW168;replace HB:=As0.mk (b3 HB.out hb);clear hb hbox hg;obtain ⟨hcz38_0,hcz38_1,hcz38_2,hcz38_3⟩:=qc4 BK168.out;obtain ⟨hfz38_0,hfz38_1,hfz38_2,hfz38_3⟩:=qz4 BK168.out)|((with_reducible refine gca (f:=13) rfl ?_);refine gL (some 5) Tryd.func13 #[.int .i64 a0_0,.int .i64 1,.int .i64 99999] ?_;(with_reducible refine (spec_l1In.calls a0_0 1 99999 true _ A2.out).mono ?_);rintro e w' ⟨rfl,⟨nd,rfl⟩⟩;refine ⟨_,rfl,?_⟩))
         go_ret
         exact ⟨eW,by repeat (first|(with_reducible first|exact HB.out|apply bal|apply pbN|apply bd1|refine bst ?_ GE168.out)|exact HB.out)⟩
 · replace c3:=Bool.eq_false_iff.mpr c3
   subst c3;have H1:(some false) = some r:=by rw [if_neg (show ¬ (false = true) by decide)] at H;exact H
   clear H;have H:=H1;clear H1;obtain rfl:=Option.some.inj H
   go_enter Tryd.func37,Tryd.ntmps37
   go_wp2_with (first|((with_reducible refine gate_dst (N:=1) rfl ?_);refine bE 1 #[.int .i64 a0_0,.string a0_1,.string a0_2,.string a0_3] 77 ?_;intro gb168 hg w39 hbox hb;have BK168:=As0.mk (hbox);have GW168:=As0.mk ((by rw [hg];exact (bsz (by repeat (first|(with_reducible first|exact HB.out|apply bal|apply pbN|apply bd1)|exact HB.out))):w.heap.size ≤ gb168));have GE168:=GW168;replace HB:=As0.mk (b3 HB.out hb);clear hb hbox hg;obtain ⟨hcz40_0,hcz40_1,hcz40_2,hcz40_3⟩:=qc4 BK168.out;obtain ⟨hfz40_0,hfz40_1,hfz40_2,hfz40_3⟩:=qz4 BK168.out)|((with_reducible refine gca (f:=13) rfl ?_);refine gL (some 5) Tryd.func13 #[.int .i64 a0_0,.int .i64 1,.int .i64 99999] ?_;(with_reducible refine (spec_l1In.calls a0_0 1 99999 false _ A2.out).mono ?_);rintro e w' ⟨rfl,⟨nd,rfl⟩⟩;refine ⟨_,rfl,?_⟩))
   go_ret
   exact ⟨eW,by repeat (first|(with_reducible first|exact HB.out|apply bal|apply pbN|apply bd1|refine bst ?_ GE168.out)|exact HB.out)⟩
def spec_l10Pasts.l0:Nat → Int → Int → Int → Int → List (SiS28) → List (SiU30) → List (SiT29) → List (SiP27) → Option (Bool)
 |0,_,_,_,_,_,_,_,_=>none
 |k + 1,x3,x177000,x177001,x177002,x177003,x177004,x177005,x177006=>if x3 < (x177006.length:Int) then (if 0 ≤ x3 then ((spec_l10Past.f k ((riP36 x177006 x3).f0) ((riP36 x177006 x3).f1) ((riP36 x177006 x3).f2) ((riP36 x177006 x3).f3)).bind fun t178=>(if t178 = true then (if ((riP36 x177006 x3).f0) = (wrap64 ((wrap64 (x177002 + x3)) + 1)) then (spec_l10Pasts.l0 k (wrap64 (x3 + 1)) x177000 x177001 x177002 x177003 x177004 x177005 x177006) else (some false)) else (some false))) else (none)) else (if (wrap64 (x177002 + (x177006.length:Int))) = x177000 then (some (decide ((x177006.length:Int) ≤ 8))) else (some false))
def spec_l10Pasts.f (k:Nat) (a0_0:Int) (a0_1:Int) (a0_2:Int) (l0_3:List (SiS28)) (l0_4:List (SiU30)) (l0_5:List (SiT29)) (l0_6:List (SiP27)):Option (Bool):=spec_l10Pasts.l0 k 0 a0_0 a0_1 a0_2 l0_3 l0_4 l0_5 l0_6
def spec_l10Pasts.T4:Bool × List (List Nat × List Nat):=(true,[([],[]),([0],[0]),([],[]),([1,2],[1,2]),([3],[3]),([4],[4]),([5],[5]),([6,5],[6]),([7],[7]),([8,7],[7,8]),([7],[7]),([9,10,7],[7,9,10]),([11,7],[7,11]),([12,7],[7,12]),([7],[7]),([14,7],[7,14]),([7],[7]),([15,16,7],[7,15,16]),([17,7],[7,17]),([13,18,7],[7,13,18]),([7,19],[7,19])])
def spec_l10Pasts.B4:List Nat:=[0,1,0,7,15,31,63,127,255,511,255,2047,4095,8191,255,16639,255,114943,246015,524287,1048575]
theorem spec_l10Pasts.tab4:rtab .any (opsOf Tryd.f17 4) = spec_l10Pasts.T4:=by kernel_rfl
theorem spec_l10Pasts.bits4:waitsOk spec_l10Pasts.T4.2 spec_l10Pasts.B4 = true:=by kernel_rfl
abbrev spec_l10Pasts.calls.a0:Array Bool:=#[false,false,false,false,false,false,false,false,false,false,false,false,false,false,false,false,false,false,false,false,false]
abbrev spec_l10Pasts.calls.a1:Array Bool:=#[true,false,false,false,false,false,false,false,false,false,false,false,false,false,false,false,false,false,false,false,false]
abbrev spec_l10Pasts.calls.a2:Array Bool:=#[true,false,true,false,false,false,false,false,false,false,false,false,false,false,false,false,false,false,false,false,false]
abbrev spec_l10Pasts.calls.a3:Array Bool:=#[true,true,true,false,false,false,false,false,false,false,false,false,false,false,false,false,false,false,false,false,false]
abbrev spec_l10Pasts.calls.a4:Array Bool:=#[true,true,true,true,false,false,false,false,false,false,false,false,false,false,false,false,false,false,false,false,false]
abbrev spec_l10Pasts.calls.a5:Array Bool:=#[true,true,true,true,true,false,false,false,false,false,false,false,false,false,false,false,false,false,false,false,false]
abbrev spec_l10Pasts.calls.a6:Array Bool:=#[true,true,true,true,true,true,false,false,false,false,false,false,false,false,false,false,false,false,false,false,false]
abbrev spec_l10Pasts.calls.a7:Array Bool:=#[true,true,true,true,true,true,true,false,false,false,false,false,false,false,false,false,false,false,false,false,false]
abbrev spec_l10Pasts.calls.a8:Array Bool:=#[true,true,true,true,true,true,true,true,false,false,false,false,false,false,false,false,false,false,false,false,false]
abbrev spec_l10Pasts.calls.a9:Array Bool:=#[true,true,true,true,true,true,true,true,true,false,false,false,false,false,false,false,false,false,false,false,false]
abbrev spec_l10Pasts.calls.a10:Array Bool:=#[true,true,true,true,true,true,true,true,true,true,true,true,true,true,true,true,true,false,false,false,false]
abbrev spec_l10Pasts.calls.a11:Array Bool:=#[true,true,true,true,true,true,true,true,true,true,true,true,true,true,true,true,true,true,false,false,false]
abbrev spec_l10Pasts.calls.a12:Array Bool:=#[true,true,true,true,true,true,true,true,true,true,true,true,true,true,true,true,true,true,true,false,false]
abbrev spec_l10Pasts.calls.a13:Array Bool:=#[true,true,true,true,true,true,true,true,true,true,true,true,true,true,true,true,true,true,true,true,false]
abbrev spec_l10Pasts.calls.a14:Array Bool:=#[true,true,true,true,true,true,true,true,true,true,true,true,true,true,true,true,true,true,true,true,true]
abbrev spec_l10Pasts.calls.a15:Array Bool:=#[true,true,true,true,true,true,true,true,true,false,true,false,false,false,false,false,false,false,false,false,false]
abbrev spec_l10Pasts.calls.a16:Array Bool:=#[true,true,true,true,true,true,true,true,true,false,true,false,false,false,true,false,false,false,false,false,false]
abbrev spec_l10Pasts.calls.a17:Array Bool:=#[true,true,true,true,true,true,true,true,true,false,true,false,false,false,true,false,true,false,false,false,false]
abbrev spec_l10Pasts.calls.a18:Array Bool:=#[true,true,true,true,true,true,true,true,true,true,true,false,false,false,true,false,true,false,false,false,false]
abbrev spec_l10Pasts.calls.a19:Array Bool:=#[true,true,true,true,true,true,true,true,true,true,true,true,false,false,true,false,true,false,false,false,false]
abbrev spec_l10Pasts.calls.a20:Array Bool:=#[true,true,true,true,true,true,true,true,true,true,true,true,true,false,true,false,true,false,false,false,false]
abbrev spec_l10Pasts.calls.a21:Array Bool:=#[true,true,true,true,true,true,true,true,true,true,true,true,true,true,true,false,true,false,false,false,false]
set_option maxHeartbeats 40000000 in
set_option maxRecDepth 100000 in
theorem spec_l10Pasts.calls (k:Nat) (a0_0:Int) (a0_1:Int) (a0_2:Int) (A0_3:Option Addr) (c0_3:Nat) (l0_3:List (SiS28)) (A0_4:Option Addr) (c0_4:Nat) (l0_4:List (SiU30)) (A0_5:Option Addr) (c0_5:Nat) (l0_5:List (SiT29)) (A0_6:Option Addr) (c0_6:Nat) (l0_6:List (SiP27)) (r:Bool) (w:World) (hr0_3:Kd.C k47 w A0_3 l0_3.length l0_3) (hc0_3:l0_3.length ≤ c0_3) (hr0_4:Kd.C k49 w A0_4 l0_4.length l0_4) (hc0_4:l0_4.length ≤ c0_4) (hr0_5:Kd.C k73 w A0_5 l0_5.length l0_5) (hc0_5:l0_5.length ≤ c0_5) (hr0_6:Kd.C k77 w A0_6 l0_6.length l0_6) (hc0_6:l0_6.length ≤ c0_6) (h:spec_l10Pasts.f k a0_0 a0_1 a0_2 l0_3 l0_4 l0_5 l0_6 = some r) :
 Calls Tryd.prog 17 #[.agg #[.int .i64 a0_0,.int .i64 a0_1,.int .i64 a0_2,.slice A0_3 l0_3.length c0_3,.slice A0_4 l0_4.length c0_4,.slice A0_5 l0_5.length c0_5,.slice A0_6 l0_6.length c0_6]] w fun e w'=>e = .returned (.bool r) ∧ Below w.heap.size w w':=by
 have hu35:=Tryd.underlying35;have hu77:=Tryd.underlying77;have HR0_3:=As0.mk hr0_3;have HC0_3:=As0.mk hc0_3;clear hr0_3 hc0_3;have HR0_4:=As0.mk hr0_4;have HC0_4:=As0.mk hc0_4;clear hr0_4 hc0_4;have HR0_5:=As0.mk hr0_5;have HC0_5:=As0.mk hc0_5;clear hr0_5 hc0_5;have HR0_6:=As0.mk hr0_6;have HC0_6:=As0.mk hc0_6;clear hr0_6 hc0_6;have HB:=As0.mk (Below.refl w.heap.size w);have H:(spec_l10Pasts.l0 k 0 a0_0 a0_1 a0_2 l0_3 l0_4 l0_5 l0_6) = some r:=h;clear h;have H':=As0.mk H;clear H
 go_enter Tryd.func17,Tryd.ntmps17
 go_wp2_with (first|((with_reducible refine gate_dst (N:=1) rfl ?_);(try (refine gate_guard (by rfl) ?_;dsimp only));refine bE 1 #[.int .i64 a0_0,.int .i64 a0_1,.int .i64 a0_2,.slice A0_3 l0_3.length c0_3,.slice A0_4 l0_4.length c0_4,.slice A0_5 l0_5.length c0_5,.slice A0_6 l0_6.length c0_6] 35 ?_;intro gb176 hg w2 hbox hb;have BK176:=As0.mk (hbox);have GW176:=As0.mk ((by rw [hg];exact (bsz (by repeat (first|(with_reducible first|exact HB.out|apply bal|apply pbN|apply bd1)|exact HB.out))):w.heap.size ≤ gb176));have GE176:=GW176;replace HB:=As0.mk (b3 HB.out hb);clear hb hbox hg))
 show _;go_loopg [3] k (fun kq v3 w'=>∃ (x3_1:Int),v3 = .int .i64 x3_1 ∧ As0 (spec_l10Pasts.l0 kq x3_1 a0_0 a0_1 a0_2 l0_3 l0_4 l0_5 l0_6 = some r) ∧ As0 (kq ≤ k) ∧ As0 (w'.heap[gb176]? = some (.cells #[.int .i64 a0_0,.int .i64 a0_1,.int .i64 a0_2,(.slice A0_3 l0_3.length c0_3),(.slice A0_4 l0_4.length c0_4),(.slice A0_5 l0_5.length c0_5),(.slice A0_6 l0_6.length c0_6)] 35 (0,0))) ∧ As0 (Below w.heap.size w w'))
 case atStart=>exact ⟨(0),(by first|rfl|(simp;done)|(simp [*];done)),H',⟨Nat.le_refl _⟩,⟨by (with_reducible repeat (first|refine bkN ?_ _|refine bkD ?_|refine bkA ?_ _));exact BK176.out⟩,⟨by repeat (first|(with_reducible first|exact HB.out|apply bal|apply pbN|apply bd1|refine bst ?_ GE176.out)|exact HB.out)⟩⟩
 case round=>
  clear H'
  try clear c1
  try clear p2
  obtain ⟨x3_1,rfl,HA,HK1,BK176,HB⟩:=hrel
  cases gk with
  |zero=>exact absurd HA.out (by simp [spec_l10Pasts.l0])
  |succ k1=>
   have H:=HA.out;clear HA;simp only [spec_l10Pasts.l0] at H;by_cases c3:x3_1 < (l0_6.length:Int)
   · rw [if_pos c3] at H
     have c3b0:decide (x3_1 < (l0_6.length:Int)) = true:=decide_eq_true c3;clear c3;by_cases c4:0 ≤ x3_1
     · rw [if_pos c4] at H
       have c4b0:decide (0 ≤ x3_1) = true:=decide_eq_true c4;clear c4;replace H:=Option.bind_eq_some_iff.mp H;obtain ⟨t178,A50,H⟩:=H;(try dsimp only at H);have A5:=As0.mk A50;clear A50;by_cases c6:t178 = true
       · subst c6
         have H1:(if ((riP36 l0_6 x3_1).f0) = (wrap64 ((wrap64 (a0_2 + x3_1)) + 1)) then (spec_l10Pasts.l0 k1 (wrap64 (x3_1 + 1)) a0_0 a0_1 a0_2 l0_3 l0_4 l0_5 l0_6) else (some false)) = some r:=by rw [if_pos rfl] at H;exact H
         clear H;have H:=H1;clear H1;by_cases c7:((riP36 l0_6 x3_1).f0) = (wrap64 ((wrap64 (a0_2 + x3_1)) + 1))
         · rw [if_pos c7] at H
           have c7b0:(((riP36 l0_6 x3_1).f0) == (wrap64 ((wrap64 (a0_2 + x3_1)) + 1))) = true:=beq_iff_eq.mpr c7;have c7b1:(((riP36 l0_6 x3_1).f0) != (wrap64 ((wrap64 (a0_2 + x3_1)) + 1))) = false:=bne_eq_false_iff_eq.mpr c7;clear c7;have H':=As0.mk H;clear H;obtain ⟨hcz8_0,hcz8_1,hcz8_2,hcz8_3,hcz8_4,hcz8_5,hcz8_6⟩:=qc7 BK176.out;obtain ⟨hfz8_0,hfz8_1,hfz8_2,hfz8_3,hfz8_4,hfz8_5,hfz8_6⟩:=qz7 BK176.out
           try go_wp2
           replace BK176:=As0.mk (bkD BK176.out);replace HB:=As0.mk (bd1 HB.out);have p177:0 ≤ (x3_1:Int):=odt;have q177:x3_1 < (l0_6.length:Int):=odt;obtain ⟨ad177,e177,hx177_0,hx177_1,hx177_2,hx177_3⟩:=at_T77 HR0_6.out x3_1 p177 q177;have hw177_3:=hx177_3;have hw177_2:=hx177_2;have hw177_1:=hx177_1;have hw177_0:=hx177_0
           cases e177
           replace hx177_0:=bx HB.out rfl hx177_0;replace hx177_1:=bx HB.out rfl hx177_1;replace hx177_2:=bx HB.out rfl hx177_2;replace hx177_3:=bx HB.out rfl hx177_3;replace p177:=eq_true p177;replace q177:=eq_true q177;have p179:0 ≤ (x3_1:Int):=odt;have q179:x3_1 < (l0_6.length:Int):=odt;obtain ⟨ad179,e179,hx179_0,hx179_1,hx179_2,hx179_3⟩:=at_T77 HR0_6.out x3_1 p179 q179;have hw179_3:=hx179_3;have hw179_2:=hx179_2;have hw179_1:=hx179_1;have hw179_0:=hx179_0;obtain rfl:ad177 = ad179:=(by injection e179);replace hx179_0:=bx HB.out rfl hx179_0;replace hx179_1:=bx HB.out rfl hx179_1;replace hx179_2:=bx HB.out rfl hx179_2;replace hx179_3:=bx HB.out rfl hx179_3;replace p179:=eq_true p179;replace q179:=eq_true q179;refine start_ (n:=21) (S:=fun w'=>w'.cell? ⟨gb176,0,none⟩ = some (.int .i64 a0_0) ∧ w'.cell? ⟨gb176,1,none⟩ = some (.int .i64 a0_1) ∧ w'.cell? ⟨gb176,2,none⟩ = some (.int .i64 a0_2) ∧ w'.cell? ⟨gb176,3,none⟩ = some (.slice A0_3 l0_3.length c0_3) ∧ w'.cell? ⟨gb176,4,none⟩ = some (.slice A0_4 l0_4.length c0_4) ∧ w'.cell? ⟨gb176,5,none⟩ = some (.slice A0_5 l0_5.length c0_5) ∧ w'.cell? ⟨gb176,6,none⟩ = some (.slice (some ad177) l0_6.length c0_6) ∧ w'.cell? (ad177.add ((x3_1).toNat * 4)) = some (.int .i64 ((riP36 l0_6 x3_1).f0)) ∧ w'.cell? ⟨(ad177.add ((x3_1).toNat * 4)).block,(ad177.add ((x3_1).toNat * 4)).off + 1,none⟩ = some (.string ((riP36 l0_6 x3_1).f1)) ∧ w'.cell? ⟨(ad177.add ((x3_1).toNat * 4)).block,(ad177.add ((x3_1).toNat * 4)).off + 2,none⟩ = some (.string ((riP36 l0_6 x3_1).f2)) ∧ w'.cell? ⟨(ad177.add ((x3_1).toNat * 4)).block,(ad177.add ((x3_1).toNat * 4)).off + 3,none⟩ = some (.string ((riP36 l0_6 x3_1).f3)) ∧ w'.cell? (ad177.add ((x3_1).toNat * 4)) = some (.int .i64 ((riP36 l0_6 x3_1).f0)) ∧ w'.cell? ⟨(ad177.add ((x3_1).toNat * 4)).block,(ad177.add ((x3_1).toNat * 4)).off + 1,none⟩ = some (.string ((riP36 l0_6 x3_1).f1)) ∧ w'.cell? ⟨(ad177.add ((x3_1).toNat * 4)).block,(ad177.add ((x3_1).toNat * 4)).off + 2,none⟩ = some (.string ((riP36 l0_6 x3_1).f2)) ∧ w'.cell? ⟨(ad177.add ((x3_1).toNat * 4)).block,(ad177.add ((x3_1).toNat * 4)).off + 3,none⟩ = some (.string ((riP36 l0_6 x3_1).f3))) (ds:=[]) spec_l10Pasts.calls.a0 (by kernel_rfl) rfl rfl ⟨(bkC BK176.out 0).trans rfl,(bkC BK176.out 1).trans rfl,(bkC BK176.out 2).trans rfl,(bkC BK176.out 3).trans rfl,(bkC BK176.out 4).trans rfl,(bkC BK176.out 5).trans rfl,(bkC BK176.out 6).trans rfl,((HB.out.cell (World.block_lt_of_cell? w _ hw177_0)).trans hw177_0),((HB.out.cell (World.block_lt_of_cell? w _ hw177_1)).trans hw177_1),((HB.out.cell (World.block_lt_of_cell? w _ hw177_2)).trans hw177_2),((HB.out.cell (World.block_lt_of_cell? w _ hw177_3)).trans hw177_3),((HB.out.cell (World.block_lt_of_cell? w _ hw179_0)).trans hw179_0),((HB.out.cell (World.block_lt_of_cell? w _ hw179_1)).trans hw179_1),((HB.out.cell (World.block_lt_of_cell? w _ hw179_2)).trans hw179_2),((HB.out.cell (World.block_lt_of_cell? w _ hw179_3)).trans hw179_3)⟩ (fun hHeld=>?_);refine with_tabW spec_l10Pasts.tab4 spec_l10Pasts.bits4 (fun HT_ HW_=>?_);generalize wr.drew = w9 at BK176 HB hx177_0 hx177_1 hx177_2 hx177_3 hx179_0 hx179_1 hx179_2 hx179_3 hHeld ⊢
           refine pu 0 (some 11) spec_l10Pasts.calls.a1 rfl rfl HT_.out ?_;refine pu 2 (some 13) spec_l10Pasts.calls.a2 rfl rfl HT_.out ?_;refine tk 1 (some 12) spec_l10Pasts.calls.a3 rfl rfl HT_.out HW_.out hHeld (by rintro w' ⟨s0,s1,s2,s3,s4,s5,s6,s7,s8,s9,s10,s11,s12,s13,s14⟩;go_simp;with_reducible rfl) ?_;refine pu 3 (some 14) spec_l10Pasts.calls.a4 rfl rfl HT_.out ?_;refine tk 4 (some 15) spec_l10Pasts.calls.a5 rfl rfl HT_.out HW_.out hHeld (by rintro w' ⟨s0,s1,s2,s3,s4,s5,s6,s7,s8,s9,s10,s11,s12,s13,s14⟩;go_simp;with_reducible rfl) ?_;refine one_ (i:=5) (N:=some 16) spec_l10Pasts.calls.a6 rfl rfl (one_of HT_.out (by kernel_rfl)) (by decide) (fun K hK=>?_);refine goes_ Tryd.func37 (by kernel_rfl) rfl #[.agg #[.int .i64 ((riP36 l0_6 x3_1).f0),.string ((riP36 l0_6 x3_1).f1),.string ((riP36 l0_6 x3_1).f2),.string ((riP36 l0_6 x3_1).f3)]] (by rfl) rfl rfl (by (try simp only [List.map_toArray,List.map_cons,List.map_nil]);first|done|rfl|(simp only [List.length_drop,List.length_take];rfl)) ?_;with_reducible refine (spec_l10Past.calls k1 ((riP36 l0_6 x3_1).f0) ((riP36 l0_6 x3_1).f1) ((riP36 l0_6 x3_1).f2) ((riP36 l0_6 x3_1).f3) true _ A5.out).mono ?_
           rintro e w10 ⟨rfl,hb⟩;refine ⟨_,rfl,?_⟩;replace BK176:=As0.mk (bb hb BK176.out);replace HB:=As0.mk (bsp (by repeat (first|(with_reducible first|exact HB.out|apply bal|apply pbN|apply bd1|refine bst ?_ GE176.out)|exact HB.out)) hb)
              
              
              
              
           refine hK.out _ _ ⟨(bkC BK176.out 0).trans rfl,(bkC BK176.out 1).trans rfl,(bkC BK176.out 2).trans rfl,(bkC BK176.out 3).trans rfl,(bkC BK176.out 4).trans rfl,(bkC BK176.out 5).trans rfl,(bkC BK176.out 6).trans rfl,((HB.out.cell (World.block_lt_of_cell? w _ hw177_0)).trans hw177_0),((HB.out.cell (World.block_lt_of_cell? w _ hw177_1)).trans hw177_1),((HB.out.cell (World.block_lt_of_cell? w _ hw177_2)).trans hw177_2),((HB.out.cell (World.block_lt_of_cell? w _ hw177_3)).trans hw177_3),((HB.out.cell (World.block_lt_of_cell? w _ hw179_0)).trans hw179_0),((HB.out.cell (World.block_lt_of_cell? w _ hw179_1)).trans hw179_1),((HB.out.cell (World.block_lt_of_cell? w _ hw179_2)).trans hw179_2),((HB.out.cell (World.block_lt_of_cell? w _ hw179_3)).trans hw179_3)⟩ (fun hHeld=>?_);clear hK K;refine norm_ (a':=?_) ?_ ?_;rotate_left
           · show Act.put _ (some 16) _ = _
             simp only [Act.put,sA,sZ,sS,i64_w,i32_w];rfl
           refine pu 6 (some 17) spec_l10Pasts.calls.a7 rfl rfl HT_.out ?_;refine pu 7 (some 18) spec_l10Pasts.calls.a8 rfl rfl HT_.out ?_;refine pu 8 (some 19) spec_l10Pasts.calls.a9 rfl rfl HT_.out ?_;refine pu 10 (some 21) spec_l10Pasts.calls.a15 rfl rfl HT_.out ?_;refine pu 14 (some 25) spec_l10Pasts.calls.a16 rfl rfl HT_.out ?_;refine pu 16 (some 27) spec_l10Pasts.calls.a17 rfl rfl HT_.out ?_;refine tk 9 (some 20) spec_l10Pasts.calls.a18 rfl rfl HT_.out HW_.out hHeld (by rintro w' ⟨s0,s1,s2,s3,s4,s5,s6,s7,s8,s9,s10,s11,s12,s13,s14⟩;go_simp;with_reducible rfl) ?_;refine pu 11 (some 22) spec_l10Pasts.calls.a19 rfl rfl HT_.out ?_;refine pu 12 (some 23) spec_l10Pasts.calls.a20 rfl rfl HT_.out ?_;refine tk 13 (some 24) spec_l10Pasts.calls.a21 rfl rfl HT_.out HW_.out hHeld (by rintro w' ⟨s0,s1,s2,s3,s4,s5,s6,s7,s8,s9,s10,s11,s12,s13,s14⟩;go_simp;with_reducible rfl) ?_;refine tk 15 (some 26) spec_l10Pasts.calls.a10 rfl rfl HT_.out HW_.out hHeld (by rintro w' ⟨s0,s1,s2,s3,s4,s5,s6,s7,s8,s9,s10,s11,s12,s13,s14⟩;go_simp;with_reducible rfl) ?_;refine pu 17 (some 28) spec_l10Pasts.calls.a11 rfl rfl HT_.out ?_;refine pu 18 (some 29) spec_l10Pasts.calls.a12 rfl rfl HT_.out ?_;refine pu 19 (some 30) spec_l10Pasts.calls.a13 rfl rfl HT_.out ?_;refine pu 20 (some 31) spec_l10Pasts.calls.a14 rfl rfl HT_.out ?_;refine done_ (done_of HT_.out (by kernel_rfl)) ?_
           try go_wp2
           show _;go_roundg k1
           case measure=>have:=HK1.out;omega
           case rel=>exact ⟨(wrap64 (x3_1 + 1)),(by first|rfl|(simp;done)|(simp [*];done)),H',⟨by have:=HK1.out;omega⟩,⟨by (with_reducible repeat (first|refine bkN ?_ _|refine bkD ?_|refine bkA ?_ _));exact BK176.out⟩,⟨by repeat (first|(with_reducible first|exact HB.out|apply bal|apply pbN|apply bd1|refine bst ?_ GE176.out)|exact HB.out)⟩⟩
         · rw [if_neg c7] at H
           have c7b0:(((riP36 l0_6 x3_1).f0) == (wrap64 ((wrap64 (a0_2 + x3_1)) + 1))) = false:=beq_eq_false_iff_ne.mpr c7;have c7b1:(((riP36 l0_6 x3_1).f0) != (wrap64 ((wrap64 (a0_2 + x3_1)) + 1))) = true:=bne_iff_ne.mpr c7;obtain rfl:=Option.some.inj H;obtain ⟨hcz11_0,hcz11_1,hcz11_2,hcz11_3,hcz11_4,hcz11_5,hcz11_6⟩:=qc7 BK176.out;obtain ⟨hfz11_0,hfz11_1,hfz11_2,hfz11_3,hfz11_4,hfz11_5,hfz11_6⟩:=qz7 BK176.out
           try go_wp2
           replace BK176:=As0.mk (bkD BK176.out);replace HB:=As0.mk (bd1 HB.out);have p177:0 ≤ (x3_1:Int):=odt;have q177:x3_1 < (l0_6.length:Int):=odt;obtain ⟨ad177,e177,hx177_0,hx177_1,hx177_2,hx177_3⟩:=at_T77 HR0_6.out x3_1 p177 q177;have hw177_3:=hx177_3;have hw177_2:=hx177_2;have hw177_1:=hx177_1;have hw177_0:=hx177_0
           cases e177
           replace hx177_0:=bx HB.out rfl hx177_0;replace hx177_1:=bx HB.out rfl hx177_1;replace hx177_2:=bx HB.out rfl hx177_2;replace hx177_3:=bx HB.out rfl hx177_3;replace p177:=eq_true p177;replace q177:=eq_true q177;have p179:0 ≤ (x3_1:Int):=odt;have q179:x3_1 < (l0_6.length:Int):=odt;obtain ⟨ad179,e179,hx179_0,hx179_1,hx179_2,hx179_3⟩:=at_T77 HR0_6.out x3_1 p179 q179;have hw179_3:=hx179_3;have hw179_2:=hx179_2;have hw179_1:=hx179_1;have hw179_0:=hx179_0;obtain rfl:ad177 = ad179:=(by injection e179);replace hx179_0:=bx HB.out rfl hx179_0;replace hx179_1:=bx HB.out rfl hx179_1;replace hx179_2:=bx HB.out rfl hx179_2;replace hx179_3:=bx HB.out rfl hx179_3;replace p179:=eq_true p179;replace q179:=eq_true q179;refine start_ (n:=21) (S:=fun w'=>w'.cell? ⟨gb176,0,none⟩ = some (.int .i64 a0_0) ∧ w'.cell? ⟨gb176,1,none⟩ = some (.int .i64 a0_1) ∧ w'.cell? ⟨gb176,2,none⟩ = some (.int .i64 a0_2) ∧ w'.cell? ⟨gb176,3,none⟩ = some (.slice A0_3 l0_3.length c0_3) ∧ w'.cell? ⟨gb176,4,none⟩ = some (.slice A0_4 l0_4.length c0_4) ∧ w'.cell? ⟨gb176,5,none⟩ = some (.slice A0_5 l0_5.length c0_5) ∧ w'.cell? ⟨gb176,6,none⟩ = some (.slice (some ad177) l0_6.length c0_6) ∧ w'.cell? (ad177.add ((x3_1).toNat * 4)) = some (.int .i64 ((riP36 l0_6 x3_1).f0)) ∧ w'.cell? ⟨(ad177.add ((x3_1).toNat * 4)).block,(ad177.add ((x3_1).toNat * 4)).off + 1,none⟩ = some (.string ((riP36 l0_6 x3_1).f1)) ∧ w'.cell? ⟨(ad177.add ((x3_1).toNat * 4)).block,(ad177.add ((x3_1).toNat * 4)).off + 2,none⟩ = some (.string ((riP36 l0_6 x3_1).f2)) ∧ w'.cell? ⟨(ad177.add ((x3_1).toNat * 4)).block,(ad177.add ((x3_1).toNat * 4)).off + 3,none⟩ = some (.string ((riP36 l0_6 x3_1).f3)) ∧ w'.cell? (ad177.add ((x3_1).toNat * 4)) = some (.int .i64 ((riP36 l0_6 x3_1).f0)) ∧ w'.cell? ⟨(ad177.add ((x3_1).toNat * 4)).block,(ad177.add ((x3_1).toNat * 4)).off + 1,none⟩ = some (.string ((riP36 l0_6 x3_1).f1)) ∧ w'.cell? ⟨(ad177.add ((x3_1).toNat * 4)).block,(ad177.add ((x3_1).toNat * 4)).off + 2,none⟩ = some (.string ((riP36 l0_6 x3_1).f2)) ∧ w'.cell? ⟨(ad177.add ((x3_1).toNat * 4)).block,(ad177.add ((x3_1).toNat * 4)).off + 3,none⟩ = some (.string ((riP36 l0_6 x3_1).f3))) (ds:=[]) spec_l10Pasts.calls.a0 (by kernel_rfl) rfl rfl ⟨(bkC BK176.out 0).trans rfl,(bkC BK176.out 1).trans rfl,(bkC BK176.out 2).trans rfl,(bkC BK176.out 3).trans rfl,(bkC BK176.out 4).trans rfl,(bkC BK176.out 5).trans rfl,(bkC BK176.out 6).trans rfl,((HB.out.cell (World.block_lt_of_cell? w _ hw177_0)).trans hw177_0),((HB.out.cell (World.block_lt_of_cell? w _ hw177_1)).trans hw177_1),((HB.out.cell (World.block_lt_of_cell? w _ hw177_2)).trans hw177_2),((HB.out.cell (World.block_lt_of_cell? w _ hw177_3)).trans hw177_3),((HB.out.cell (World.block_lt_of_cell? w _ hw179_0)).trans hw179_0),((HB.out.cell (World.block_lt_of_cell? w _ hw179_1)).trans hw179_1),((HB.out.cell (World.block_lt_of_cell? w _ hw179_2)).trans hw179_2),((HB.out.cell (World.block_lt_of_cell? w _ hw179_3)).trans hw179_3)⟩ (fun hHeld=>?_);refine with_tabW spec_l10Pasts.tab4 spec_l10Pasts.bits4 (fun HT_ HW_=>?_);generalize wr.drew = w12 at BK176 HB hx177_0 hx177_1 hx177_2 hx177_3 hx179_0 hx179_1 hx179_2 hx179_3 hHeld ⊢
           refine pu 0 (some 11) spec_l10Pasts.calls.a1 rfl rfl HT_.out ?_;refine pu 2 (some 13) spec_l10Pasts.calls.a2 rfl rfl HT_.out ?_;refine tk 1 (some 12) spec_l10Pasts.calls.a3 rfl rfl HT_.out HW_.out hHeld (by rintro w' ⟨s0,s1,s2,s3,s4,s5,s6,s7,s8,s9,s10,s11,s12,s13,s14⟩;go_simp;with_reducible rfl) ?_;refine pu 3 (some 14) spec_l10Pasts.calls.a4 rfl rfl HT_.out ?_;refine tk 4 (some 15) spec_l10Pasts.calls.a5 rfl rfl HT_.out HW_.out hHeld (by rintro w' ⟨s0,s1,s2,s3,s4,s5,s6,s7,s8,s9,s10,s11,s12,s13,s14⟩;go_simp;with_reducible rfl) ?_;refine one_ (i:=5) (N:=some 16) spec_l10Pasts.calls.a6 rfl rfl (one_of HT_.out (by kernel_rfl)) (by decide) (fun K hK=>?_);refine goes_ Tryd.func37 (by kernel_rfl) rfl #[.agg #[.int .i64 ((riP36 l0_6 x3_1).f0),.string ((riP36 l0_6 x3_1).f1),.string ((riP36 l0_6 x3_1).f2),.string ((riP36 l0_6 x3_1).f3)]] (by rfl) rfl rfl (by (try simp only [List.map_toArray,List.map_cons,List.map_nil]);first|done|rfl|(simp only [List.length_drop,List.length_take];rfl)) ?_;with_reducible refine (spec_l10Past.calls k1 ((riP36 l0_6 x3_1).f0) ((riP36 l0_6 x3_1).f1) ((riP36 l0_6 x3_1).f2) ((riP36 l0_6 x3_1).f3) true _ A5.out).mono ?_
           rintro e w13 ⟨rfl,hb⟩;refine ⟨_,rfl,?_⟩;replace BK176:=As0.mk (bb hb BK176.out);replace HB:=As0.mk (bsp (by repeat (first|(with_reducible first|exact HB.out|apply bal|apply pbN|apply bd1|refine bst ?_ GE176.out)|exact HB.out)) hb)
              
              
              
              
           refine hK.out _ _ ⟨(bkC BK176.out 0).trans rfl,(bkC BK176.out 1).trans rfl,(bkC BK176.out 2).trans rfl,(bkC BK176.out 3).trans rfl,(bkC BK176.out 4).trans rfl,(bkC BK176.out 5).trans rfl,(bkC BK176.out 6).trans rfl,((HB.out.cell (World.block_lt_of_cell? w _ hw177_0)).trans hw177_0),((HB.out.cell (World.block_lt_of_cell? w _ hw177_1)).trans hw177_1),((HB.out.cell (World.block_lt_of_cell? w _ hw177_2)).trans hw177_2),((HB.out.cell (World.block_lt_of_cell? w _ hw177_3)).trans hw177_3),((HB.out.cell (World.block_lt_of_cell? w _ hw179_0)).trans hw179_0),((HB.out.cell (World.block_lt_of_cell? w _ hw179_1)).trans hw179_1),((HB.out.cell (World.block_lt_of_cell? w _ hw179_2)).trans hw179_2),((HB.out.cell (World.block_lt_of_cell? w _ hw179_3)).trans hw179_3)⟩ (fun hHeld=>?_);clear hK K;refine norm_ (a':=?_) ?_ ?_;rotate_left
           · show Act.put _ (some 16) _ = _
             simp only [Act.put,sA,sZ,sS,i64_w,i32_w];rfl
           refine pu 6 (some 17) spec_l10Pasts.calls.a7 rfl rfl HT_.out ?_;refine pu 7 (some 18) spec_l10Pasts.calls.a8 rfl rfl HT_.out ?_;refine pu 8 (some 19) spec_l10Pasts.calls.a9 rfl rfl HT_.out ?_;refine pu 10 (some 21) spec_l10Pasts.calls.a15 rfl rfl HT_.out ?_;refine pu 14 (some 25) spec_l10Pasts.calls.a16 rfl rfl HT_.out ?_;refine pu 16 (some 27) spec_l10Pasts.calls.a17 rfl rfl HT_.out ?_;refine tk 9 (some 20) spec_l10Pasts.calls.a18 rfl rfl HT_.out HW_.out hHeld (by rintro w' ⟨s0,s1,s2,s3,s4,s5,s6,s7,s8,s9,s10,s11,s12,s13,s14⟩;go_simp;with_reducible rfl) ?_;refine pu 11 (some 22) spec_l10Pasts.calls.a19 rfl rfl HT_.out ?_;refine pu 12 (some 23) spec_l10Pasts.calls.a20 rfl rfl HT_.out ?_;refine tk 13 (some 24) spec_l10Pasts.calls.a21 rfl rfl HT_.out HW_.out hHeld (by rintro w' ⟨s0,s1,s2,s3,s4,s5,s6,s7,s8,s9,s10,s11,s12,s13,s14⟩;go_simp;with_reducible rfl) ?_;refine tk 15 (some 26) spec_l10Pasts.calls.a10 rfl rfl HT_.out HW_.out hHeld (by rintro w' ⟨s0,s1,s2,s3,s4,s5,s6,s7,s8,s9,s10,s11,s12,s13,s14⟩;go_simp;with_reducible rfl) ?_;refine pu 17 (some 28) spec_l10Pasts.calls.a11 rfl rfl HT_.out ?_;refine pu 18 (some 29) spec_l10Pasts.calls.a12 rfl rfl HT_.out ?_;refine pu 19 (some 30) spec_l10Pasts.calls.a13 rfl rfl HT_.out ?_;refine pu 20 (some 31) spec_l10Pasts.calls.a14 rfl rfl HT_.out ?_;refine done_ (done_of HT_.out (by kernel_rfl)) ?_
           try go_wp2
           go_ret
           exact ⟨eW,by repeat (first|(with_reducible first|exact HB.out|apply bal|apply pbN|apply bd1|refine bst ?_ GE176.out)|exact HB.out)⟩
       · replace c6:=Bool.eq_false_iff.mpr c6
         subst c6;have H1:(some false) = some r:=by rw [if_neg (show ¬ (false = true) by decide)] at H;exact H
         clear H;have H:=H1;clear H1;obtain rfl:=Option.some.inj H;obtain ⟨hcz14_0,hcz14_1,hcz14_2,hcz14_3,hcz14_4,hcz14_5,hcz14_6⟩:=qc7 BK176.out;obtain ⟨hfz14_0,hfz14_1,hfz14_2,hfz14_3,hfz14_4,hfz14_5,hfz14_6⟩:=qz7 BK176.out
         try go_wp2
         replace BK176:=As0.mk (bkD BK176.out);replace HB:=As0.mk (bd1 HB.out);have p177:0 ≤ (x3_1:Int):=odt;have q177:x3_1 < (l0_6.length:Int):=odt;obtain ⟨ad177,e177,hx177_0,hx177_1,hx177_2,hx177_3⟩:=at_T77 HR0_6.out x3_1 p177 q177;have hw177_3:=hx177_3;have hw177_2:=hx177_2;have hw177_1:=hx177_1;have hw177_0:=hx177_0
         cases e177
         replace hx177_0:=bx HB.out rfl hx177_0;replace hx177_1:=bx HB.out rfl hx177_1;replace hx177_2:=bx HB.out rfl hx177_2;replace hx177_3:=bx HB.out rfl hx177_3;replace p177:=eq_true p177;replace q177:=eq_true q177;refine start_ (n:=21) (S:=fun w'=>w'.cell? ⟨gb176,0,none⟩ = some (.int .i64 a0_0) ∧ w'.cell? ⟨gb176,1,none⟩ = some (.int .i64 a0_1) ∧ w'.cell? ⟨gb176,2,none⟩ = some (.int .i64 a0_2) ∧ w'.cell? ⟨gb176,3,none⟩ = some (.slice A0_3 l0_3.length c0_3) ∧ w'.cell? ⟨gb176,4,none⟩ = some (.slice A0_4 l0_4.length c0_4) ∧ w'.cell? ⟨gb176,5,none⟩ = some (.slice A0_5 l0_5.length c0_5) ∧ w'.cell? ⟨gb176,6,none⟩ = some (.slice (some ad177) l0_6.length c0_6) ∧ w'.cell? (ad177.add ((x3_1).toNat * 4)) = some (.int .i64 ((riP36 l0_6 x3_1).f0)) ∧ w'.cell? ⟨(ad177.add ((x3_1).toNat * 4)).block,(ad177.add ((x3_1).toNat * 4)).off + 1,none⟩ = some (.string ((riP36 l0_6 x3_1).f1)) ∧ w'.cell? ⟨(ad177.add ((x3_1).toNat * 4)).block,(ad177.add ((x3_1).toNat * 4)).off + 2,none⟩ = some (.string ((riP36 l0_6 x3_1).f2)) ∧ w'.cell? ⟨(ad177.add ((x3_1).toNat * 4)).block,(ad177.add ((x3_1).toNat * 4)).off + 3,none⟩ = some (.string ((riP36 l0_6 x3_1).f3))) (ds:=[]) spec_l10Pasts.calls.a0 (by kernel_rfl) rfl rfl ⟨(bkC BK176.out 0).trans rfl,(bkC BK176.out 1).trans rfl,(bkC BK176.out 2).trans rfl,(bkC BK176.out 3).trans rfl,(bkC BK176.out 4).trans rfl,(bkC BK176.out 5).trans rfl,(bkC BK176.out 6).trans rfl,((HB.out.cell (World.block_lt_of_cell? w _ hw177_0)).trans hw177_0),((HB.out.cell (World.block_lt_of_cell? w _ hw177_1)).trans hw177_1),((HB.out.cell (World.block_lt_of_cell? w _ hw177_2)).trans hw177_2),((HB.out.cell (World.block_lt_of_cell? w _ hw177_3)).trans hw177_3)⟩ (fun hHeld=>?_);refine with_tabW spec_l10Pasts.tab4 spec_l10Pasts.bits4 (fun HT_ HW_=>?_);generalize wr.drew = w15 at BK176 HB hx177_0 hx177_1 hx177_2 hx177_3 hHeld ⊢
         refine pu 0 (some 11) spec_l10Pasts.calls.a1 rfl rfl HT_.out ?_;refine pu 2 (some 13) spec_l10Pasts.calls.a2 rfl rfl HT_.out ?_;refine tk 1 (some 12) spec_l10Pasts.calls.a3 rfl rfl HT_.out HW_.out hHeld (by rintro w' ⟨s0,s1,s2,s3,s4,s5,s6,s7,s8,s9,s10⟩;go_simp;with_reducible rfl) ?_;refine pu 3 (some 14) spec_l10Pasts.calls.a4 rfl rfl HT_.out ?_;refine tk 4 (some 15) spec_l10Pasts.calls.a5 rfl rfl HT_.out HW_.out hHeld (by rintro w' ⟨s0,s1,s2,s3,s4,s5,s6,s7,s8,s9,s10⟩;go_simp;with_reducible rfl) ?_;refine one_ (i:=5) (N:=some 16) spec_l10Pasts.calls.a6 rfl rfl (one_of HT_.out (by kernel_rfl)) (by decide) (fun K hK=>?_);refine goes_ Tryd.func37 (by kernel_rfl) rfl #[.agg #[.int .i64 ((riP36 l0_6 x3_1).f0),.string ((riP36 l0_6 x3_1).f1),.string ((riP36 l0_6 x3_1).f2),.string ((riP36 l0_6 x3_1).f3)]] (by rfl) rfl rfl (by (try simp only [List.map_toArray,List.map_cons,List.map_nil]);first|done|rfl|(simp only [List.length_drop,List.length_take];rfl)) ?_;with_reducible refine (spec_l10Past.calls k1 ((riP36 l0_6 x3_1).f0) ((riP36 l0_6 x3_1).f1) ((riP36 l0_6 x3_1).f2) ((riP36 l0_6 x3_1).f3) false _ A5.out).mono ?_
         rintro e w16 ⟨rfl,hb⟩;refine ⟨_,rfl,?_⟩;replace BK176:=As0.mk (bb hb BK176.out);replace HB:=As0.mk (bsp (by repeat (first|(with_reducible first|exact HB.out|apply bal|apply pbN|apply bd1|refine bst ?_ GE176.out)|exact HB.out)) hb)
            
            
            
            
         refine hK.out _ _ ⟨(bkC BK176.out 0).trans rfl,(bkC BK176.out 1).trans rfl,(bkC BK176.out 2).trans rfl,(bkC BK176.out 3).trans rfl,(bkC BK176.out 4).trans rfl,(bkC BK176.out 5).trans rfl,(bkC BK176.out 6).trans rfl,((HB.out.cell (World.block_lt_of_cell? w _ hw177_0)).trans hw177_0),((HB.out.cell (World.block_lt_of_cell? w _ hw177_1)).trans hw177_1),((HB.out.cell (World.block_lt_of_cell? w _ hw177_2)).trans hw177_2),((HB.out.cell (World.block_lt_of_cell? w _ hw177_3)).trans hw177_3)⟩ (fun hHeld=>?_);clear hK K;refine norm_ (a':=?_) ?_ ?_;rotate_left
         · show Act.put _ (some 16) _ = _
           simp only [Act.put,sA,sZ,sS,i64_w,i32_w];rfl
         refine pu 6 (some 17) spec_l10Pasts.calls.a7 rfl rfl HT_.out ?_;refine pu 7 (some 18) spec_l10Pasts.calls.a8 rfl rfl HT_.out ?_;refine pn 8 (some 19) spec_l10Pasts.calls.a9 rfl rfl HT_.out ?_;refine pn 9 (some 20) #[true,true,true,true,true,true,true,true,true,true,false,false,false,false,false,false,false,false,false,false,false] rfl rfl HT_.out ?_;refine pn 10 (some 21) #[true,true,true,true,true,true,true,true,true,true,true,false,false,false,false,false,false,false,false,false,false] rfl rfl HT_.out ?_;refine pn 11 (some 22) #[true,true,true,true,true,true,true,true,true,true,true,true,false,false,false,false,false,false,false,false,false] rfl rfl HT_.out ?_;refine pn 12 (some 23) #[true,true,true,true,true,true,true,true,true,true,true,true,true,false,false,false,false,false,false,false,false] rfl rfl HT_.out ?_;refine pn 13 (some 24) #[true,true,true,true,true,true,true,true,true,true,true,true,true,true,false,false,false,false,false,false,false] rfl rfl HT_.out ?_;refine pn 14 (some 25) #[true,true,true,true,true,true,true,true,true,true,true,true,true,true,true,false,false,false,false,false,false] rfl rfl HT_.out ?_;refine pn 15 (some 26) #[true,true,true,true,true,true,true,true,true,true,true,true,true,true,true,true,false,false,false,false,false] rfl rfl HT_.out ?_;refine pn 16 (some 27) spec_l10Pasts.calls.a10 rfl rfl HT_.out ?_;refine pn 17 (some 28) spec_l10Pasts.calls.a11 rfl rfl HT_.out ?_;refine pn 18 (some 29) spec_l10Pasts.calls.a12 rfl rfl HT_.out ?_;refine pn 19 (some 30) spec_l10Pasts.calls.a13 rfl rfl HT_.out ?_;refine pu 20 (some 31) spec_l10Pasts.calls.a14 rfl rfl HT_.out ?_;refine done_ (done_of HT_.out (by kernel_rfl)) ?_
         try go_wp2
         go_ret
         exact ⟨eW,by repeat (first|(with_reducible first|exact HB.out|apply bal|apply pbN|apply bd1|refine bst ?_ GE176.out)|exact HB.out)⟩
     · rw [if_neg c4] at H
       exact absurd H (by simp)
   · rw [if_neg c3] at H
     have c3b0:decide (x3_1 < (l0_6.length:Int)) = false:=decide_eq_false c3;clear c3;by_cases c17:(wrap64 (a0_2 + (l0_6.length:Int))) = a0_0
     · rw [if_pos c17] at H
       have c17b0:((wrap64 (a0_2 + (l0_6.length:Int))) == a0_0) = true:=beq_iff_eq.mpr c17;have c17b1:((wrap64 (a0_2 + (l0_6.length:Int))) != a0_0) = false:=bne_eq_false_iff_eq.mpr c17;clear c17;obtain rfl:=Option.some.inj H;obtain ⟨hcz18_0,hcz18_1,hcz18_2,hcz18_3,hcz18_4,hcz18_5,hcz18_6⟩:=qc7 BK176.out;obtain ⟨hfz18_0,hfz18_1,hfz18_2,hfz18_3,hfz18_4,hfz18_5,hfz18_6⟩:=qz7 BK176.out
       go_wp2
       go_ret
       exact ⟨eW,by repeat (first|(with_reducible first|exact HB.out|apply bal|apply pbN|apply bd1|refine bst ?_ GE176.out)|exact HB.out)⟩
     · rw [if_neg c17] at H
       have c17b0:((wrap64 (a0_2 + (l0_6.length:Int))) == a0_0) = false:=beq_eq_false_iff_ne.mpr c17;have c17b1:((wrap64 (a0_2 + (l0_6.length:Int))) != a0_0) = true:=bne_iff_ne.mpr c17;obtain rfl:=Option.some.inj H;obtain ⟨hcz19_0,hcz19_1,hcz19_2,hcz19_3,hcz19_4,hcz19_5,hcz19_6⟩:=qc7 BK176.out;obtain ⟨hfz19_0,hfz19_1,hfz19_2,hfz19_3,hfz19_4,hfz19_5,hfz19_6⟩:=qz7 BK176.out
       go_wp2
       go_ret
       exact ⟨eW,by repeat (first|(with_reducible first|exact HB.out|apply bal|apply pbN|apply bd1|refine bst ?_ GE176.out)|exact HB.out)⟩
def spec_l8In.l0:Nat → ByteArray → List ByteArray → Int → Option (Bool)
 |0,_,_,_=>none
 |k + 1,x2,x7,x8=>if x8 < (x7.length:Int) then (if 0 ≤ x8 then (if (rdOf ByteArray.empty x7 x8).toList = x2.toList then (some true) else (spec_l8In.l0 k x2 x7 (wrap64 (x8 + 1)))) else (none)) else (some false)
def spec_l8In.f (k:Nat) (l0:List (SiS28)) (a1:ByteArray) (a2:ByteArray):Option (Bool):=(spec_l8Up.f k l0 a1).bind fun t180=>(spec_l8In.l0 k a2 t180 0)
set_option maxHeartbeats 40000000 in
set_option maxRecDepth 100000 in
theorem spec_l8In.calls (k:Nat) (A0:Option Addr) (c0:Nat) (l0:List (SiS28)) (a1:ByteArray) (a2:ByteArray) (r:Bool) (w:World) (hr0:Kd.C k47 w A0 l0.length l0) (hc0:l0.length ≤ c0) (h:spec_l8In.f k l0 a1 a2 = some r) :
 Calls Tryd.prog 38 #[.slice A0 l0.length c0,.string a1,.string a2] w fun e w'=>e = .returned (.bool r) ∧ Below w.heap.size w w':=by
 have HR0:=As0.mk hr0;have HC0:=As0.mk hc0;clear hr0 hc0;have HB:=As0.mk (Below.refl w.heap.size w);have H:((spec_l8Up.f k l0 a1).bind fun t180=>(spec_l8In.l0 k a2 t180 0)) = some r:=h;clear h;replace H:=Option.bind_eq_some_iff.mp H;obtain ⟨t180,A40,H⟩:=H;(try dsimp only at H);have A4:=As0.mk A40;clear A40;have H':=As0.mk H;clear H
 go_enter Tryd.func38,Tryd.ntmps38
 go_wp2_with (first|((with_reducible refine gca (f:=33) rfl ?_);refine gL (some 11) Tryd.func33 #[.slice A0 l0.length c0,.string a1] ?_;(with_reducible refine (spec_l8Up.calls k _ _ l0 a1 t180 _ ?side1 ?side2 A4.out).mono ?_);(case side1=>repeat (first|exact HR0.out|(with_reducible first|refine Kd.C_alloc ?_ _|refine Kd.C_drewN ?_ _|refine Kd.C_drew ?_)));(case side2=>exact HC0.out);rintro e w5 ⟨v181,rfl,ho0,hb⟩;refine ⟨_,rfl,?_⟩;have HO182:=As0.mk (Kd.R_lower ho0 (bsz (by repeat (first|(with_reducible first|exact HB.out|apply bal|apply pbN|apply bd1)|exact HB.out))));replace HB:=As0.mk (b3 HB.out hb);clear hb ho0))
 show _;go_loopg [8] k (fun kq v8 w'=>∃ (x8_1:Int),v8 = .int .i64 x8_1 ∧ As0 (spec_l8In.l0 kq a2 t180 x8_1 = some r) ∧ As0 (kq ≤ k) ∧ As0 (Kd.R Kd.string 9 w' w.heap.size (fun _=>True) v181 t180) ∧ As0 (Below w.heap.size w w'))
 case atStart=>exact ⟨(0),(by first|rfl|(simp;done)|(simp [*];done)),H',⟨Nat.le_refl _⟩,⟨by (with_reducible repeat (first|apply Kd.Ral|apply Kd.RdN|apply Kd.R_drew));exact HO182.out⟩,⟨by repeat (first|(with_reducible first|exact HB.out|apply bal|apply pbN|apply bd1)|exact HB.out)⟩⟩
 case round=>
  clear H'
  try clear p2
  try clear c3
  obtain ⟨x8_1,rfl,HA,HK1,HO_7,HB⟩:=hrel
  cases gk with
  |zero=>exact absurd HA.out (by simp [spec_l8In.l0])
  |succ k1=>
   have H:=HA.out;clear HA;simp only [spec_l8In.l0] at H;by_cases c6:x8_1 < (t180.length:Int)
   · rw [if_pos c6] at H
     have c6b0:decide (x8_1 < (t180.length:Int)) = true:=decide_eq_true c6;clear c6;by_cases c7:0 ≤ x8_1
     · rw [if_pos c7] at H
       have c7b0:decide (0 ≤ x8_1) = true:=decide_eq_true c7;clear c7;by_cases c8:(rdOf ByteArray.empty t180 x8_1).toList = a2.toList
       · rw [if_pos c8] at H
         have c8b0:((rdOf ByteArray.empty t180 x8_1).toList == a2.toList) = true:=beq_iff_eq.mpr c8;have c8b1:((rdOf ByteArray.empty t180 x8_1).toList != a2.toList) = false:=bne_eq_false_iff_eq.mpr c8;clear c8;obtain rfl:=Option.some.inj H;obtain ⟨Ao9,co9,eo9⟩:=Kd.R_slice HO_7.out;subst eo9;have p183:0 ≤ (x8_1:Int):=odt;have q183:x8_1 < (t180.length:Int):=odt;obtain ⟨ad183,e183,hx183_0⟩:=Kd.at_string (Kd.R_reads' HO_7.out).2.2 x8_1 p183 q183
         cases e183
         replace p183:=eq_true p183;replace q183:=eq_true q183
         go_wp2
         go_ret
         exact ⟨eW,by repeat (first|(with_reducible first|exact HB.out|apply bal|apply pbN|apply bd1)|exact HB.out)⟩
       · rw [if_neg c8] at H
         have c8b0:((rdOf ByteArray.empty t180 x8_1).toList == a2.toList) = false:=beq_eq_false_iff_ne.mpr c8;have c8b1:((rdOf ByteArray.empty t180 x8_1).toList != a2.toList) = true:=bne_iff_ne.mpr c8;have H':=As0.mk H;clear H;obtain ⟨Ao10,co10,eo10⟩:=Kd.R_slice HO_7.out;subst eo10;have p183:0 ≤ (x8_1:Int):=odt;have q183:x8_1 < (t180.length:Int):=odt;obtain ⟨ad183,e183,hx183_0⟩:=Kd.at_string (Kd.R_reads' HO_7.out).2.2 x8_1 p183 q183
         cases e183
         replace p183:=eq_true p183;replace q183:=eq_true q183
         go_wp2
         show _;go_roundg k1
         case measure=>have:=HK1.out;omega
         case rel=>exact ⟨(wrap64 (x8_1 + 1)),(by first|rfl|(simp;done)|(simp [*];done)),H',⟨by have:=HK1.out;omega⟩,⟨by (with_reducible repeat (first|apply Kd.Ral|apply Kd.RdN|apply Kd.R_drew));exact HO_7.out⟩,⟨by repeat (first|(with_reducible first|exact HB.out|apply bal|apply pbN|apply bd1)|exact HB.out)⟩⟩
     · rw [if_neg c7] at H
       exact absurd H (by simp)
   · rw [if_neg c6] at H
     have c6b0:decide (x8_1 < (t180.length:Int)) = false:=decide_eq_false c6;clear c6;obtain rfl:=Option.some.inj H;obtain ⟨Ao11,co11,eo11⟩:=Kd.R_slice HO_7.out;subst eo11
     go_wp2
     go_ret
     exact ⟨eW,by repeat (first|(with_reducible first|exact HB.out|apply bal|apply pbN|apply bd1)|exact HB.out)⟩
def spec_l8Sum.l0:Nat → List (SiS28) → List (SiT29) → ByteArray → Int → Int → Option (Int)
 |0,_,_,_,_,_=>none
 |k + 1,x0,x1,x2,x7,x8=>if x8 < (x1.length:Int) then (if 0 ≤ x8 then ((spec_l8In.f k x0 ((riT38 x1 x8).f0) x2).bind fun t185=>(if t185 = true then (spec_l8Sum.l0 k x0 x1 x2 (wrap64 ((wrap64 (x7 + 1)) + (((riT38 x1 x8).f6).size:Int))) (wrap64 (x8 + 1))) else (spec_l8Sum.l0 k x0 x1 x2 x7 (wrap64 (x8 + 1))))) else (none)) else (some x7)
def spec_l8Sum.f (k:Nat) (l0:List (SiS28)) (l1:List (SiT29)) (a2:ByteArray):Option (Int):=spec_l8Sum.l0 k l0 l1 a2 0 0
set_option maxHeartbeats 40000000 in
set_option maxRecDepth 100000 in
theorem spec_l8Sum.calls (k:Nat) (A0:Option Addr) (c0:Nat) (l0:List (SiS28)) (A1:Option Addr) (c1:Nat) (l1:List (SiT29)) (a2:ByteArray) (r:Int) (w:World) (hr0:Kd.C k47 w A0 l0.length l0) (hc0:l0.length ≤ c0) (hr1:Kd.C k73 w A1 l1.length l1) (hc1:l1.length ≤ c1) (h:spec_l8Sum.f k l0 l1 a2 = some r) :
 Calls Tryd.prog 18 #[.slice A0 l0.length c0,.slice A1 l1.length c1,.string a2] w fun e w'=>e = .returned (.int .i64 r) ∧ Below w.heap.size w w':=by
 have HR0:=As0.mk hr0;have HC0:=As0.mk hc0;clear hr0 hc0;have HR1:=As0.mk hr1;have HC1:=As0.mk hc1;clear hr1 hc1;have HB:=As0.mk (Below.refl w.heap.size w);have H:(spec_l8Sum.l0 k l0 l1 a2 0 0) = some r:=h;clear h;have H':=As0.mk H;clear H
 go_enter Tryd.func18,Tryd.ntmps18
 go_wp2
 show _;go_loopg [7,8] k (fun kq v7 v8 w'=>∃ (x7_1:Int) (x8_1:Int),v7 = .int .i64 x7_1 ∧ v8 = .int .i64 x8_1 ∧ As0 (spec_l8Sum.l0 kq l0 l1 a2 x7_1 x8_1 = some r) ∧ As0 (kq ≤ k) ∧ As0 (Below w.heap.size w w'))
 case atStart=>exact ⟨(0),(0),(by first|rfl|(simp;done)|(simp [*];done)),(by first|rfl|(simp;done)|(simp [*];done)),H',⟨Nat.le_refl _⟩,⟨by repeat (first|(with_reducible first|exact HB.out|apply bal|apply pbN|apply bd1)|exact HB.out)⟩⟩
 case round=>
  clear H'
  try clear c1
  try clear p2
  obtain ⟨x7_1,x8_1,rfl,rfl,HA,HK1,HB⟩:=hrel
  cases gk with
  |zero=>exact absurd HA.out (by simp [spec_l8Sum.l0])
  |succ k1=>
   have H:=HA.out;clear HA;simp only [spec_l8Sum.l0] at H;by_cases c4:x8_1 < (l1.length:Int)
   · rw [if_pos c4] at H
     have c4b0:decide (x8_1 < (l1.length:Int)) = true:=decide_eq_true c4;clear c4;by_cases c5:0 ≤ x8_1
     · rw [if_pos c5] at H
       have c5b0:decide (0 ≤ x8_1) = true:=decide_eq_true c5;clear c5;replace H:=Option.bind_eq_some_iff.mp H;obtain ⟨t185,A60,H⟩:=H;(try dsimp only at H);have A6:=As0.mk A60;clear A60;by_cases c7:t185 = true
       · subst c7
         have H1:(spec_l8Sum.l0 k1 l0 l1 a2 (wrap64 ((wrap64 (x7_1 + 1)) + (((riT38 l1 x8_1).f6).size:Int))) (wrap64 (x8_1 + 1))) = some r:=by rw [if_pos rfl] at H;exact H
         clear H;have H:=H1;clear H1;have H':=As0.mk H;clear H;have p184:0 ≤ (x8_1:Int):=odt;have q184:x8_1 < (l1.length:Int):=odt;obtain ⟨ad184,A184_5,c184_5,e184,hx184_0,hx184_1,hx184_2,hx184_3,hx184_4,hx184_5,hx184_6,hl184_5,hi184_5⟩:=at_T73 HR1.out x8_1 p184 q184
         cases e184
         replace hx184_0:=bx HB.out rfl hx184_0;replace hx184_1:=bx HB.out rfl hx184_1;replace hx184_2:=bx HB.out rfl hx184_2;replace hx184_3:=bx HB.out rfl hx184_3;replace hx184_4:=bx HB.out rfl hx184_4;replace hx184_5:=bx HB.out rfl hx184_5;replace hx184_6:=bx HB.out rfl hx184_6;have HR184_5:=As0.mk hi184_5;have HC184_5:=As0.mk hl184_5;clear hi184_5 hl184_5;replace p184:=eq_true p184;replace q184:=eq_true q184
         go_wp2_with (first|((with_reducible refine gca (f:=38) rfl ?_);refine gL (some 22) Tryd.func38 #[.slice A0 l0.length c0,.string ((riT38 l1 x8_1).f0),.string a2] ?_;(with_reducible refine (spec_l8In.calls k1 _ _ l0 ((riT38 l1 x8_1).f0) a2 true _ ?side1 ?side2 A6.out).mono ?_);(case side1=>repeat (first|exact (Kd.C_below HR0.out HB.out)|(with_reducible first|refine Kd.C_alloc ?_ _|refine Kd.C_drewN ?_ _|refine Kd.C_drew ?_)));(case side2=>exact HC0.out);rintro e w8 ⟨rfl,hb⟩;refine ⟨_,rfl,?_⟩;replace HB:=As0.mk (b3 HB.out hb);clear hb;have p186:0 ≤ (x8_1:Int):=odt;have q186:x8_1 < (l1.length:Int):=odt;obtain ⟨ad186,A186_5,c186_5,e186,hx186_0,hx186_1,hx186_2,hx186_3,hx186_4,hx186_5,hx186_6,hl186_5,hi186_5⟩:=at_T73 HR1.out x8_1 p186 q186;obtain rfl:ad184 = ad186:=(by injection e186);replace hx186_0:=bx HB.out rfl hx186_0;replace hx186_1:=bx HB.out rfl hx186_1;replace hx186_2:=bx HB.out rfl hx186_2;replace hx186_3:=bx HB.out rfl hx186_3;replace hx186_4:=bx HB.out rfl hx186_4;replace hx186_5:=bx HB.out rfl hx186_5;replace hx186_6:=bx HB.out rfl hx186_6;have HR186_5:=As0.mk hi186_5;have HC186_5:=As0.mk hl186_5;clear hi186_5 hl186_5;replace p186:=eq_true p186;replace q186:=eq_true q186))
         show _;go_roundg k1
         case measure=>have:=HK1.out;omega
         case rel=>exact ⟨(wrap64 ((wrap64 (x7_1 + 1)) + (((riT38 l1 x8_1).f6).size:Int))),(wrap64 (x8_1 + 1)),(by first|rfl|(simp;done)|(simp [*];done)),(by first|rfl|(simp;done)|(simp [*];done)),H',⟨by have:=HK1.out;omega⟩,⟨by repeat (first|(with_reducible first|exact HB.out|apply bal|apply pbN|apply bd1)|exact HB.out)⟩⟩
       · replace c7:=Bool.eq_false_iff.mpr c7
         subst c7;have H1:(spec_l8Sum.l0 k1 l0 l1 a2 x7_1 (wrap64 (x8_1 + 1))) = some r:=by rw [if_neg (show ¬ (false = true) by decide)] at H;exact H
         clear H;have H:=H1;clear H1;have H':=As0.mk H;clear H;have p184:0 ≤ (x8_1:Int):=odt;have q184:x8_1 < (l1.length:Int):=odt;obtain ⟨ad184,A184_5,c184_5,e184,hx184_0,hx184_1,hx184_2,hx184_3,hx184_4,hx184_5,hx184_6,hl184_5,hi184_5⟩:=at_T73 HR1.out x8_1 p184 q184
         cases e184
         replace hx184_0:=bx HB.out rfl hx184_0;replace hx184_1:=bx HB.out rfl hx184_1;replace hx184_2:=bx HB.out rfl hx184_2;replace hx184_3:=bx HB.out rfl hx184_3;replace hx184_4:=bx HB.out rfl hx184_4;replace hx184_5:=bx HB.out rfl hx184_5;replace hx184_6:=bx HB.out rfl hx184_6;have HR184_5:=As0.mk hi184_5;have HC184_5:=As0.mk hl184_5;clear hi184_5 hl184_5;replace p184:=eq_true p184;replace q184:=eq_true q184
         go_wp2_with (first|((with_reducible refine gca (f:=38) rfl ?_);refine gL (some 22) Tryd.func38 #[.slice A0 l0.length c0,.string ((riT38 l1 x8_1).f0),.string a2] ?_;(with_reducible refine (spec_l8In.calls k1 _ _ l0 ((riT38 l1 x8_1).f0) a2 false _ ?side1 ?side2 A6.out).mono ?_);(case side1=>repeat (first|exact (Kd.C_below HR0.out HB.out)|(with_reducible first|refine Kd.C_alloc ?_ _|refine Kd.C_drewN ?_ _|refine Kd.C_drew ?_)));(case side2=>exact HC0.out);rintro e w9 ⟨rfl,hb⟩;refine ⟨_,rfl,?_⟩;replace HB:=As0.mk (b3 HB.out hb);clear hb))
         show _;go_roundg k1
         case measure=>have:=HK1.out;omega
         case rel=>exact ⟨(x7_1),(wrap64 (x8_1 + 1)),(by first|rfl|(simp;done)|(simp [*];done)),(by first|rfl|(simp;done)|(simp [*];done)),H',⟨by have:=HK1.out;omega⟩,⟨by repeat (first|(with_reducible first|exact HB.out|apply bal|apply pbN|apply bd1)|exact HB.out)⟩⟩
     · rw [if_neg c5] at H
       exact absurd H (by simp)
   · rw [if_neg c4] at H
     have c4b0:decide (x8_1 < (l1.length:Int)) = false:=decide_eq_false c4;clear c4;obtain rfl:=Option.some.inj H
     go_wp2
     go_ret
     exact ⟨eW,by repeat (first|(with_reducible first|exact HB.out|apply bal|apply pbN|apply bd1)|exact HB.out)⟩
end Go.Proofs.YtclgmogfkoinbaaDoor.P
