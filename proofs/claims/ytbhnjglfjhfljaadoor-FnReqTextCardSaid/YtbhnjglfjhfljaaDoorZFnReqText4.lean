/- Functions of the law FnReqText as_ plain Lean functions, and that the machine's calls do what they say. -/
import Derived.Test.YtbhnjglfjhfljaaDoorZFnReqText0
import Derived.Test.YtbhnjglfjhfljaaDoorZFnReqText2
import Derived.Test.YtbhnjglfjhfljaaDoorZFnReqText3
namespace Go.Proofs.YtbhnjglfjhfljaaDoor.P
open Go.RowKit Go.Proofs.YtbhnjglfjhfljaaDoorW.PrintWords Go.Proofs.YtbhnjglfjhfljaaDoorW.PrintLast Go.Proofs.YtbhnjglfjhfljaaDoorW.PrintMore
attribute [local go_sem] max2_int min2_int max_two min_two max_three min_three max_four min_four
set_option linter.unusedVariables false
set_option linter.unusedSimpArgs false
def impl_readCount.f (a0:ByteArray):Option (Int × Bool):=if (a0.size:Int) < 1 then (some (0,false)) else (if (a0.size:Int) > 8 then (some (0,false)) else (if (a0.size:Int) > 1 then (if 0 < (a0.size:Int) then (if (bt a0 0) = 48 then (some (0,false)) else ((strings_Trim.f a0 (⟨#[48,49,50,51,52,53,54,55,56,57]⟩:ByteArray)).bind fun t304=>(if t304.toList = ([]:List UInt8) then ((strconv_Atoi_50.f a0).bind fun bt305=>(if bt305.2.isNone = true then (some (bt305.1,true)) else (some (bt305.1,false)))) else (some (0,false))))) else (none)) else ((strings_Trim.f a0 (⟨#[48,49,50,51,52,53,54,55,56,57]⟩:ByteArray)).bind fun t308=>(if t308.toList = ([]:List UInt8) then ((strconv_Atoi_50.f a0).bind fun bt309=>(if bt309.2.isNone = true then (some (bt309.1,true)) else (some (bt309.1,false)))) else (some (0,false))))))
set_option maxHeartbeats 40000000 in
set_option maxRecDepth 100000 in
theorem impl_readCount.calls (a0:ByteArray) (r1:Int) (r2:Bool) (w:World) (h:impl_readCount.f a0 = some (r1,r2)) :
 Calls Tryd.prog 45 #[.string a0] w fun e w'=>e = .returned (.tuple #[.int .i64 r1,.bool r2]) ∧ Below w.heap.size w w':=by
 have hu68:=Tryd.underlying68;have hu95:=Tryd.underlying95;have HB:=As0.mk (Below.refl w.heap.size w);have H:(if (a0.size:Int) < 1 then (some (0,false)) else (if (a0.size:Int) > 8 then (some (0,false)) else (if (a0.size:Int) > 1 then (if 0 < (a0.size:Int) then (if (bt a0 0) = 48 then (some (0,false)) else ((strings_Trim.f a0 (⟨#[48,49,50,51,52,53,54,55,56,57]⟩:ByteArray)).bind fun t304=>(if t304.toList = ([]:List UInt8) then ((strconv_Atoi_50.f a0).bind fun bt305=>(if bt305.2.isNone = true then (some (bt305.1,true)) else (some (bt305.1,false)))) else (some (0,false))))) else (none)) else ((strings_Trim.f a0 (⟨#[48,49,50,51,52,53,54,55,56,57]⟩:ByteArray)).bind fun t308=>(if t308.toList = ([]:List UInt8) then ((strconv_Atoi_50.f a0).bind fun bt309=>(if bt309.2.isNone = true then (some (bt309.1,true)) else (some (bt309.1,false)))) else (some (0,false))))))) = some (r1,r2):=h;clear h;by_cases c2:(a0.size:Int) < 1
 · rw [if_pos c2] at H
   have c2b0:decide ((a0.size:Int) < 1) = true:=decide_eq_true c2;have c2b1:decide (a0.size < 1) = true:=decide_eq_true (by omega);clear c2;simp only [Option.some.injEq,Prod.mk.injEq] at H;obtain ⟨rfl,rfl⟩:=H
   go_enter Tryd.func45,Tryd.ntmps45
   go_wp2
   repeat (go_quiet (fail);try go_wp2)
   go_ret2
   exact ⟨eW,by repeat (first|(with_reducible first|exact HB.out|apply bal|apply pbN|apply bd1)|exact HB.out)⟩
 · rw [if_neg c2] at H
   have c2b0:decide ((a0.size:Int) < 1) = false:=decide_eq_false c2;have c2b1:decide (a0.size < 1) = false:=decide_eq_false (by omega);clear c2;by_cases c3:(a0.size:Int) > 8
   · rw [if_pos c3] at H
     have c3b0:decide (8 < (a0.size:Int)) = true:=decide_eq_true c3;have c3b1:decide (8 < a0.size) = true:=decide_eq_true (by omega);clear c3;simp only [Option.some.injEq,Prod.mk.injEq] at H;obtain ⟨rfl,rfl⟩:=H
     go_enter Tryd.func45,Tryd.ntmps45
     go_wp2
     repeat (go_quiet (fail);try go_wp2)
     go_ret2
     exact ⟨eW,by repeat (first|(with_reducible first|exact HB.out|apply bal|apply pbN|apply bd1)|exact HB.out)⟩
   · rw [if_neg c3] at H
     have c3b0:decide (8 < (a0.size:Int)) = false:=decide_eq_false c3;have c3b1:decide (8 < a0.size) = false:=decide_eq_false (by omega);clear c3;by_cases c4:(a0.size:Int) > 1
     · rw [if_pos c4] at H
       have c4b0:decide (1 < (a0.size:Int)) = true:=decide_eq_true c4;have c4b1:decide (1 < a0.size) = true:=decide_eq_true (by omega);clear c4;by_cases c5:0 < (a0.size:Int)
       · rw [if_pos c5] at H
         have c5b0:decide (0 < (a0.size:Int)) = true:=decide_eq_true c5;have c5b1:decide (0 < a0.size) = true:=decide_eq_true (by omega);clear c5;by_cases c7:(bt a0 0) = 48
         · rw [if_pos c7] at H
           have c7b0:((bt a0 0) == 48) = true:=beq_iff_eq.mpr c7;have c7b1:((bt a0 0) != 48) = false:=bne_eq_false_iff_eq.mpr c7;clear c7;simp only [Option.some.injEq,Prod.mk.injEq] at H;obtain ⟨rfl,rfl⟩:=H;have p6:0 ≤ (0:Int):=(by omega);have q6:0 < a0.size:=(by have:(0:Int) < (a0.size:Int):=odt;omega);have hx6:∀ h:0 < a0.size,((a0[0]'h).toNat:Int) = bt a0 0:=bt_at a0 0;clear p6;have qi6:(0 < (a0.size:Int)) = True:=eq_true (odt);replace q6:=eq_true q6
           go_enter Tryd.func45,Tryd.ntmps45
           go_wp2
           repeat (go_quiet (fail);try go_wp2)
           go_ret2
           exact ⟨eW,by repeat (first|(with_reducible first|exact HB.out|apply bal|apply pbN|apply bd1)|exact HB.out)⟩
         · rw [if_neg c7] at H
           have c7b0:((bt a0 0) == 48) = false:=beq_eq_false_iff_ne.mpr c7;have c7b1:((bt a0 0) != 48) = true:=bne_iff_ne.mpr c7;replace H:=Option.bind_eq_some_iff.mp H;obtain ⟨t304,A80,H⟩:=H;(try dsimp only at H);have A8:=As0.mk A80;clear A80;by_cases c9:t304.toList = ([]:List UInt8)
           · rw [if_pos c9] at H
             have c9b0:(t304.toList == ([]:List UInt8)) = true:=beq_iff_eq.mpr c9;have c9b1:(t304.toList != ([]:List UInt8)) = false:=bne_eq_false_iff_eq.mpr c9;clear c9;replace H:=Option.bind_eq_some_iff.mp H;obtain ⟨⟨t305,t306⟩,A100,H⟩:=H;(try dsimp only at H);have A10:=As0.mk A100;clear A100;rcases t306 with _|q307
             · have H1:(some (t305,true)) = some (r1,r2):=by rw [if_pos (show (none:Option Int).isNone = true by rfl)] at H;exact H
               clear H;have H:=H1;clear H1
               try simp only [errW_none,errW_some]
               simp only [Option.some.injEq,Prod.mk.injEq] at H;obtain ⟨rfl,rfl⟩:=H;have p6:0 ≤ (0:Int):=(by omega);have q6:0 < a0.size:=(by have:(0:Int) < (a0.size:Int):=odt;omega);have hx6:∀ h:0 < a0.size,((a0[0]'h).toNat:Int) = bt a0 0:=bt_at a0 0;clear p6;have qi6:(0 < (a0.size:Int)) = True:=eq_true (odt);replace q6:=eq_true q6
               go_enter Tryd.func45,Tryd.ntmps45
               go_wp2_with (first|(go_at_call 46;(with_reducible refine (strings_Trim.calls a0 (⟨#[48,49,50,51,52,53,54,55,56,57]⟩:ByteArray) t304 _ A8.out).mono ?_);rintro e w11 ⟨rfl,hb⟩;replace HB:=As0.mk (b3 HB.out hb);clear hb)|(go_at_call 50;(with_reducible refine (strconv_Atoi_50.calls a0 t305 none _ A10.out).mono ?_);rintro e w12 ⟨rfl,hb⟩;replace HB:=As0.mk (b3 HB.out hb);clear hb;(try simp only [errW_none,errW_some])))
               repeat (go_quiet (first|(go_at_call 46;(with_reducible refine (strings_Trim.calls a0 (⟨#[48,49,50,51,52,53,54,55,56,57]⟩:ByteArray) t304 _ A8.out).mono ?_);rintro e w11 ⟨rfl,hb⟩;have n0_:=As0.mk (b3 HB.out hb);clear HB;have HB:=n0_;clear n0_;(try clear hb);(try clear hb2);(try clear hk);(try clear hi))|(go_at_call 50;(with_reducible refine (strconv_Atoi_50.calls a0 t305 none _ A10.out).mono ?_);rintro e w12 ⟨rfl,hb⟩;have n0_:=As0.mk (b3 HB.out hb);clear HB;have HB:=n0_;clear n0_;(try clear hb);(try clear hb2);(try clear hk);(try clear hi);(try simp only [errW_none,errW_some])));try go_wp2_with (first|(go_at_call 46;(with_reducible refine (strings_Trim.calls a0 (⟨#[48,49,50,51,52,53,54,55,56,57]⟩:ByteArray) t304 _ A8.out).mono ?_);rintro e w11 ⟨rfl,hb⟩;have n0_:=As0.mk (b3 HB.out hb);clear HB;have HB:=n0_;clear n0_;(try clear hb);(try clear hb2);(try clear hk);(try clear hi))|(go_at_call 50;(with_reducible refine (strconv_Atoi_50.calls a0 t305 none _ A10.out).mono ?_);rintro e w12 ⟨rfl,hb⟩;have n0_:=As0.mk (b3 HB.out hb);clear HB;have HB:=n0_;clear n0_;(try clear hb);(try clear hb2);(try clear hk);(try clear hi);(try simp only [errW_none,errW_some]))))
               go_ret2
               exact ⟨eW,by repeat (first|(with_reducible first|exact HB.out|apply bal|apply pbN|apply bd1)|exact HB.out)⟩
             · have H1:(some (t305,false)) = some (r1,r2):=by rw [if_neg (show ¬ (some q307).isNone = true by simp)] at H;exact H
               clear H;have H:=H1;clear H1
               try simp only [errW_none,errW_some]
               simp only [Option.some.injEq,Prod.mk.injEq] at H;obtain ⟨rfl,rfl⟩:=H;have p6:0 ≤ (0:Int):=(by omega);have q6:0 < a0.size:=(by have:(0:Int) < (a0.size:Int):=odt;omega);have hx6:∀ h:0 < a0.size,((a0[0]'h).toNat:Int) = bt a0 0:=bt_at a0 0;clear p6;have qi6:(0 < (a0.size:Int)) = True:=eq_true (odt);replace q6:=eq_true q6
               go_enter Tryd.func45,Tryd.ntmps45
               go_wp2_with (first|(go_at_call 46;(with_reducible refine (strings_Trim.calls a0 (⟨#[48,49,50,51,52,53,54,55,56,57]⟩:ByteArray) t304 _ A8.out).mono ?_);rintro e w13 ⟨rfl,hb⟩;replace HB:=As0.mk (b3 HB.out hb);clear hb)|(go_at_call 50;(with_reducible refine (strconv_Atoi_50.calls a0 t305 (some q307) _ A10.out).mono ?_);rintro e w14 ⟨rfl,hb⟩;replace HB:=As0.mk (b3 HB.out hb);clear hb;(try simp only [errW_none,errW_some])))
               repeat (go_quiet (first|(go_at_call 46;(with_reducible refine (strings_Trim.calls a0 (⟨#[48,49,50,51,52,53,54,55,56,57]⟩:ByteArray) t304 _ A8.out).mono ?_);rintro e w13 ⟨rfl,hb⟩;have n0_:=As0.mk (b3 HB.out hb);clear HB;have HB:=n0_;clear n0_;(try clear hb);(try clear hb2);(try clear hk);(try clear hi))|(go_at_call 50;(with_reducible refine (strconv_Atoi_50.calls a0 t305 (some q307) _ A10.out).mono ?_);rintro e w14 ⟨rfl,hb⟩;have n0_:=As0.mk (b3 HB.out hb);clear HB;have HB:=n0_;clear n0_;(try clear hb);(try clear hb2);(try clear hk);(try clear hi);(try simp only [errW_none,errW_some])));try go_wp2_with (first|(go_at_call 46;(with_reducible refine (strings_Trim.calls a0 (⟨#[48,49,50,51,52,53,54,55,56,57]⟩:ByteArray) t304 _ A8.out).mono ?_);rintro e w13 ⟨rfl,hb⟩;have n0_:=As0.mk (b3 HB.out hb);clear HB;have HB:=n0_;clear n0_;(try clear hb);(try clear hb2);(try clear hk);(try clear hi))|(go_at_call 50;(with_reducible refine (strconv_Atoi_50.calls a0 t305 (some q307) _ A10.out).mono ?_);rintro e w14 ⟨rfl,hb⟩;have n0_:=As0.mk (b3 HB.out hb);clear HB;have HB:=n0_;clear n0_;(try clear hb);(try clear hb2);(try clear hk);(try clear hi);(try simp only [errW_none,errW_some]))))
               go_ret2
               exact ⟨eW,by repeat (first|(with_reducible first|exact HB.out|apply bal|apply pbN|apply bd1)|exact HB.out)⟩
           · rw [if_neg c9] at H
             have c9b0:(t304.toList == ([]:List UInt8)) = false:=beq_eq_false_iff_ne.mpr c9;have c9b1:(t304.toList != ([]:List UInt8)) = true:=bne_iff_ne.mpr c9;simp only [Option.some.injEq,Prod.mk.injEq] at H;obtain ⟨rfl,rfl⟩:=H;have p6:0 ≤ (0:Int):=(by omega);have q6:0 < a0.size:=(by have:(0:Int) < (a0.size:Int):=odt;omega);have hx6:∀ h:0 < a0.size,((a0[0]'h).toNat:Int) = bt a0 0:=bt_at a0 0;clear p6;have qi6:(0 < (a0.size:Int)) = True:=eq_true (odt);replace q6:=eq_true q6
             go_enter Tryd.func45,Tryd.ntmps45
             go_wp2_with (first|(go_at_call 46;(with_reducible refine (strings_Trim.calls a0 (⟨#[48,49,50,51,52,53,54,55,56,57]⟩:ByteArray) t304 _ A8.out).mono ?_);rintro e w15 ⟨rfl,hb⟩;replace HB:=As0.mk (b3 HB.out hb);clear hb))
             repeat (go_quiet (first|(go_at_call 46;(with_reducible refine (strings_Trim.calls a0 (⟨#[48,49,50,51,52,53,54,55,56,57]⟩:ByteArray) t304 _ A8.out).mono ?_);rintro e w15 ⟨rfl,hb⟩;have n0_:=As0.mk (b3 HB.out hb);clear HB;have HB:=n0_;clear n0_;(try clear hb);(try clear hb2);(try clear hk);(try clear hi)));try go_wp2_with (first|(go_at_call 46;(with_reducible refine (strings_Trim.calls a0 (⟨#[48,49,50,51,52,53,54,55,56,57]⟩:ByteArray) t304 _ A8.out).mono ?_);rintro e w15 ⟨rfl,hb⟩;have n0_:=As0.mk (b3 HB.out hb);clear HB;have HB:=n0_;clear n0_;(try clear hb);(try clear hb2);(try clear hk);(try clear hi))))
             go_ret2
             exact ⟨eW,by repeat (first|(with_reducible first|exact HB.out|apply bal|apply pbN|apply bd1)|exact HB.out)⟩
       · rw [if_neg c5] at H
         exact absurd H (by simp)
     · rw [if_neg c4] at H
       have c4b0:decide (1 < (a0.size:Int)) = false:=decide_eq_false c4;have c4b1:decide (1 < a0.size) = false:=decide_eq_false (by omega);clear c4;replace H:=Option.bind_eq_some_iff.mp H;obtain ⟨t308,A160,H⟩:=H;(try dsimp only at H);have A16:=As0.mk A160;clear A160;by_cases c17:t308.toList = ([]:List UInt8)
       · rw [if_pos c17] at H
         have c17b0:(t308.toList == ([]:List UInt8)) = true:=beq_iff_eq.mpr c17;have c17b1:(t308.toList != ([]:List UInt8)) = false:=bne_eq_false_iff_eq.mpr c17;clear c17;replace H:=Option.bind_eq_some_iff.mp H;obtain ⟨⟨t309,t310⟩,A180,H⟩:=H;(try dsimp only at H);have A18:=As0.mk A180;clear A180;rcases t310 with _|q311
         · have H1:(some (t309,true)) = some (r1,r2):=by rw [if_pos (show (none:Option Int).isNone = true by rfl)] at H;exact H
           clear H;have H:=H1;clear H1
           try simp only [errW_none,errW_some]
           simp only [Option.some.injEq,Prod.mk.injEq] at H;obtain ⟨rfl,rfl⟩:=H
           go_enter Tryd.func45,Tryd.ntmps45
           go_wp2_with (first|(go_at_call 46;(with_reducible refine (strings_Trim.calls a0 (⟨#[48,49,50,51,52,53,54,55,56,57]⟩:ByteArray) t308 _ A16.out).mono ?_);rintro e w19 ⟨rfl,hb⟩;replace HB:=As0.mk (b3 HB.out hb);clear hb)|(go_at_call 50;(with_reducible refine (strconv_Atoi_50.calls a0 t309 none _ A18.out).mono ?_);rintro e w20 ⟨rfl,hb⟩;replace HB:=As0.mk (b3 HB.out hb);clear hb;(try simp only [errW_none,errW_some])))
           repeat (go_quiet (first|(go_at_call 46;(with_reducible refine (strings_Trim.calls a0 (⟨#[48,49,50,51,52,53,54,55,56,57]⟩:ByteArray) t308 _ A16.out).mono ?_);rintro e w19 ⟨rfl,hb⟩;have n0_:=As0.mk (b3 HB.out hb);clear HB;have HB:=n0_;clear n0_;(try clear hb);(try clear hb2);(try clear hk);(try clear hi))|(go_at_call 50;(with_reducible refine (strconv_Atoi_50.calls a0 t309 none _ A18.out).mono ?_);rintro e w20 ⟨rfl,hb⟩;have n0_:=As0.mk (b3 HB.out hb);clear HB;have HB:=n0_;clear n0_;(try clear hb);(try clear hb2);(try clear hk);(try clear hi);(try simp only [errW_none,errW_some])));try go_wp2_with (first|(go_at_call 46;(with_reducible refine (strings_Trim.calls a0 (⟨#[48,49,50,51,52,53,54,55,56,57]⟩:ByteArray) t308 _ A16.out).mono ?_);rintro e w19 ⟨rfl,hb⟩;have n0_:=As0.mk (b3 HB.out hb);clear HB;have HB:=n0_;clear n0_;(try clear hb);(try clear hb2);(try clear hk);(try clear hi))|(go_at_call 50;(with_reducible refine (strconv_Atoi_50.calls a0 t309 none _ A18.out).mono ?_);rintro e w20 ⟨rfl,hb⟩;have n0_:=As0.mk (b3 HB.out hb);clear HB;have HB:=n0_;clear n0_;(try clear hb);(try clear hb2);(try clear hk);(try clear hi);(try simp only [errW_none,errW_some]))))
           go_ret2
           exact ⟨eW,by repeat (first|(with_reducible first|exact HB.out|apply bal|apply pbN|apply bd1)|exact HB.out)⟩
         · have H1:(some (t309,false)) = some (r1,r2):=by rw [if_neg (show ¬ (some q311).isNone = true by simp)] at H;exact H
           clear H;have H:=H1;clear H1
           try simp only [errW_none,errW_some]
           simp only [Option.some.injEq,Prod.mk.injEq] at H;obtain ⟨rfl,rfl⟩:=H
           go_enter Tryd.func45,Tryd.ntmps45
           go_wp2_with (first|(go_at_call 46;(with_reducible refine (strings_Trim.calls a0 (⟨#[48,49,50,51,52,53,54,55,56,57]⟩:ByteArray) t308 _ A16.out).mono ?_);rintro e w21 ⟨rfl,hb⟩;replace HB:=As0.mk (b3 HB.out hb);clear hb)|(go_at_call 50;(with_reducible refine (strconv_Atoi_50.calls a0 t309 (some q311) _ A18.out).mono ?_);rintro e w22 ⟨rfl,hb⟩;replace HB:=As0.mk (b3 HB.out hb);clear hb;(try simp only [errW_none,errW_some])))
           repeat (go_quiet (first|(go_at_call 46;(with_reducible refine (strings_Trim.calls a0 (⟨#[48,49,50,51,52,53,54,55,56,57]⟩:ByteArray) t308 _ A16.out).mono ?_);rintro e w21 ⟨rfl,hb⟩;have n0_:=As0.mk (b3 HB.out hb);clear HB;have HB:=n0_;clear n0_;(try clear hb);(try clear hb2);(try clear hk);(try clear hi))|(go_at_call 50;(with_reducible refine (strconv_Atoi_50.calls a0 t309 (some q311) _ A18.out).mono ?_);rintro e w22 ⟨rfl,hb⟩;have n0_:=As0.mk (b3 HB.out hb);clear HB;have HB:=n0_;clear n0_;(try clear hb);(try clear hb2);(try clear hk);(try clear hi);(try simp only [errW_none,errW_some])));try go_wp2_with (first|(go_at_call 46;(with_reducible refine (strings_Trim.calls a0 (⟨#[48,49,50,51,52,53,54,55,56,57]⟩:ByteArray) t308 _ A16.out).mono ?_);rintro e w21 ⟨rfl,hb⟩;have n0_:=As0.mk (b3 HB.out hb);clear HB;have HB:=n0_;clear n0_;(try clear hb);(try clear hb2);(try clear hk);(try clear hi))|(go_at_call 50;(with_reducible refine (strconv_Atoi_50.calls a0 t309 (some q311) _ A18.out).mono ?_);rintro e w22 ⟨rfl,hb⟩;have n0_:=As0.mk (b3 HB.out hb);clear HB;have HB:=n0_;clear n0_;(try clear hb);(try clear hb2);(try clear hk);(try clear hi);(try simp only [errW_none,errW_some]))))
           go_ret2
           exact ⟨eW,by repeat (first|(with_reducible first|exact HB.out|apply bal|apply pbN|apply bd1)|exact HB.out)⟩
       · rw [if_neg c17] at H
         have c17b0:(t308.toList == ([]:List UInt8)) = false:=beq_eq_false_iff_ne.mpr c17;have c17b1:(t308.toList != ([]:List UInt8)) = true:=bne_iff_ne.mpr c17;simp only [Option.some.injEq,Prod.mk.injEq] at H;obtain ⟨rfl,rfl⟩:=H
         go_enter Tryd.func45,Tryd.ntmps45
         go_wp2_with (first|(go_at_call 46;(with_reducible refine (strings_Trim.calls a0 (⟨#[48,49,50,51,52,53,54,55,56,57]⟩:ByteArray) t308 _ A16.out).mono ?_);rintro e w23 ⟨rfl,hb⟩;replace HB:=As0.mk (b3 HB.out hb);clear hb))
         repeat (go_quiet (first|(go_at_call 46;(with_reducible refine (strings_Trim.calls a0 (⟨#[48,49,50,51,52,53,54,55,56,57]⟩:ByteArray) t308 _ A16.out).mono ?_);rintro e w23 ⟨rfl,hb⟩;have n0_:=As0.mk (b3 HB.out hb);clear HB;have HB:=n0_;clear n0_;(try clear hb);(try clear hb2);(try clear hk);(try clear hi)));try go_wp2_with (first|(go_at_call 46;(with_reducible refine (strings_Trim.calls a0 (⟨#[48,49,50,51,52,53,54,55,56,57]⟩:ByteArray) t308 _ A16.out).mono ?_);rintro e w23 ⟨rfl,hb⟩;have n0_:=As0.mk (b3 HB.out hb);clear HB;have HB:=n0_;clear n0_;(try clear hb);(try clear hb2);(try clear hk);(try clear hi))))
         go_ret2
         exact ⟨eW,by repeat (first|(with_reducible first|exact HB.out|apply bal|apply pbN|apply bd1)|exact HB.out)⟩
def impl_readLimit.f (a0:ByteArray):Option (Int × Bool):=if a0.toList = ([45,49]:List UInt8) then (some ((-1),true)) else ((impl_readCount.f a0).bind fun bt312=>(some (bt312.1,bt312.2)))
set_option maxHeartbeats 40000000 in
set_option maxRecDepth 100000 in
theorem impl_readLimit.calls (a0:ByteArray) (r1:Int) (r2:Bool) (w:World) (h:impl_readLimit.f a0 = some (r1,r2)) :
 Calls Tryd.prog 36 #[.string a0] w fun e w'=>e = .returned (.tuple #[.int .i64 r1,.bool r2]) ∧ Below w.heap.size w w':=by
 have HB:=As0.mk (Below.refl w.heap.size w);have H:(if a0.toList = ([45,49]:List UInt8) then (some ((-1),true)) else ((impl_readCount.f a0).bind fun bt312=>(some (bt312.1,bt312.2)))) = some (r1,r2):=h;clear h;by_cases c2:a0.toList = ([45,49]:List UInt8)
 · rw [if_pos c2] at H
   have c2b0:(a0.toList == ([45,49]:List UInt8)) = true:=beq_iff_eq.mpr c2;have c2b1:(a0.toList != ([45,49]:List UInt8)) = false:=bne_eq_false_iff_eq.mpr c2;clear c2;simp only [Option.some.injEq,Prod.mk.injEq] at H;obtain ⟨rfl,rfl⟩:=H
   go_enter Tryd.func36,Tryd.ntmps36
   go_wp2
   go_ret2
   exact ⟨eW,by repeat (first|(with_reducible first|exact HB.out|apply bal|apply pbN|apply bd1)|exact HB.out)⟩
 · rw [if_neg c2] at H
   have c2b0:(a0.toList == ([45,49]:List UInt8)) = false:=beq_eq_false_iff_ne.mpr c2;have c2b1:(a0.toList != ([45,49]:List UInt8)) = true:=bne_iff_ne.mpr c2;replace H:=Option.bind_eq_some_iff.mp H;obtain ⟨⟨t312,t313⟩,A30,H⟩:=H;(try dsimp only at H);have A3:=As0.mk A30;clear A30;simp only [Option.some.injEq,Prod.mk.injEq] at H;obtain ⟨rfl,rfl⟩:=H
   go_enter Tryd.func36,Tryd.ntmps36
   go_wp2_with (first|(refine gL (some 7) Tryd.func45 #[.string a0] ?_;(with_reducible refine (impl_readCount.calls a0 t312 t313 _ A3.out).mono ?_);rintro e w4 ⟨rfl,hb⟩;refine ⟨_,rfl,?_⟩;replace HB:=As0.mk (b3 HB.out hb);clear hb))
   go_ret2
   exact ⟨eW,by repeat (first|(with_reducible first|exact HB.out|apply bal|apply pbN|apply bd1)|exact HB.out)⟩
end Go.Proofs.YtbhnjglfjhfljaaDoor.P
