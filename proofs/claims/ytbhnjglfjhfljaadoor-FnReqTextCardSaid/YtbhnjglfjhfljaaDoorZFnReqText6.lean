/- Functions of the law FnReqText as_ plain Lean functions, and that the machine's calls do what they say. -/
import Derived.Test.YtbhnjglfjhfljaaDoorZFnReqText0
import Derived.Test.YtbhnjglfjhfljaaDoorZFnReqText5
import Derived.Test.YtbhnjglfjhfljaaDoorZFnReqText3
namespace Go.Proofs.YtbhnjglfjhfljaaDoor.P
open Go.RowKit Go.Proofs.YtbhnjglfjhfljaaDoorW.PrintWords Go.Proofs.YtbhnjglfjhfljaaDoorW.PrintLast Go.Proofs.YtbhnjglfjhfljaaDoorW.PrintMore
attribute [local go_sem] max2_int min2_int max_two min_two max_three min_three max_four min_four
set_option linter.unusedVariables false
set_option linter.unusedSimpArgs false
def spec_l7Words.l0:Nat → ByteArray → Int → List ByteArray → Int → Int → Option (List ByteArray × ByteArray × Bool)
 |0,_,_,_,_,_=>none
 |k + 1,x0,x1,x7,x8,x9=>if x9 < (x0.size:Int) then (if 0 ≤ x9 then (if (bt x0 x9) = 32 then (if 0 ≤ x8 then (if x8 ≤ x9 then (if x9 ≤ (x0.size:Int) then (if x7.length < 8796093022208 then ((some (x7 ++ [x0.extract (x8:Int).toNat (x9:Int).toNat]:List ByteArray)).bind fun y360=>(if (y360.length:Int) = x1 then (if 0 ≤ (wrap64 (x9 + 1)) then (if (wrap64 (x9 + 1)) ≤ (x0.size:Int) then (some (y360,x0.extract ((wrap64 (x9 + 1)):Int).toNat x0.size,true)) else (none)) else (none)) else (spec_l7Words.l0 k x0 x1 y360 (wrap64 (x9 + 1)) (wrap64 (x9 + 1))))) else (none)) else (none)) else (none)) else (none)) else (spec_l7Words.l0 k x0 x1 x7 x8 (wrap64 (x9 + 1)))) else (none)) else (some (x7,(⟨#[]⟩:ByteArray),false))
def spec_l7Words.f (k:Nat) (a0:ByteArray) (a1:Int):Option (List ByteArray × ByteArray × Bool):=spec_l7Words.l0 k a0 a1 (([]:List ByteArray)) 0 0
set_option maxHeartbeats 40000000 in
set_option maxRecDepth 100000 in
theorem spec_l7Words.calls (k:Nat) (a0:ByteArray) (a1:Int) (r1:List ByteArray) (r2:ByteArray) (r3:Bool) (w:World) (h:spec_l7Words.f k a0 a1 = some (r1,r2,r3)) :
 Calls Tryd.prog 23 #[.string a0,.int .i64 a1] w fun e w'=>∃ v0_:Value,e = .returned (.tuple #[v0_,.string r2,.bool r3]) ∧ Kd.R Kd.string 9 w' w.heap.size (fun _=>True) v0_ r1 ∧ Below w.heap.size w w':=by
 have HB:=As0.mk (Below.refl w.heap.size w);have H:(spec_l7Words.l0 k a0 a1 (([]:List ByteArray)) 0 0) = some (r1,r2,r3):=h;clear h;obtain ⟨y357,hy357⟩:∃ y_:List ByteArray,y_ = (([]:List ByteArray)):=⟨_,rfl⟩;replace H:(spec_l7Words.l0 k a0 a1 y357 0 0) = some (r1,r2,r3):=by first|(rw [hy357];with_reducible exact H)|(have H2_:=(Option.bind_some _ _).symm.trans H;rw [hy357];with_reducible exact H2_)|(have H2_:=(Option.bind_some _ _).symm.trans H;with_reducible exact H2_)|with_reducible exact H|(rw [hy357];exact H)|exact H
 have Ny357:=As0.mk hy357;clear hy357;have H':=As0.mk H;clear H
 go_enter Tryd.func23,Tryd.ntmps23
 go_wp2_with (first|((with_reducible refine gate_dst (N:=10) rfl ?_);refine Kd.R_lit Kd.string _ 9 ?hg (N:=10) ?hd (xs:=([]:List ByteArray)) (inner:=[]) (ok:=fun _=>True) (okp:=fun _=>True) ?hr ?hp (fun _ hk=>hk) trivial (Below.refl _ _) (Nat.le_refl _) (by simp) ?_;(case hd=>rfl);(case hg=>rfl);(case hr=>first|(go_simp;done)|(go_simp;rfl));(case hp=>exact (Reps.none _ _));intro v358 w3 ho4 hb hg_ hnew_;clear hg_ hnew_;(first|rw [← Ny357.out] at ho4|(simp only [Int.reduceToNat] at ho4;rw [← Ny357.out] at ho4));have HO359:=As0.mk (Kd.R_lower ho4 (bsz (by repeat (first|(with_reducible first|exact HB.out|apply bal|apply pbN|apply bd1)|exact HB.out))));replace HB:=As0.mk (b3 HB.out hb);clear hb ho4))
 repeat (go_quiet (first|((with_reducible refine gate_dst (N:=10) rfl ?_);refine Kd.R_lit Kd.string _ 9 ?hg (N:=10) ?hd (xs:=([]:List ByteArray)) (inner:=[]) (ok:=fun _=>True) (okp:=fun _=>True) ?hr ?hp (fun _ hk=>hk) trivial (Below.refl _ _) (Nat.le_refl _) (by simp) ?_;(case hd=>rfl);(case hg=>rfl);(case hr=>first|(go_simp;done)|(go_simp;rfl));(case hp=>exact (Reps.none _ _));intro v358 w3 ho4 hb hg_ hnew_;clear hg_ hnew_;(first|rw [← Ny357.out] at ho4|(simp only [Int.reduceToNat] at ho4;rw [← Ny357.out] at ho4));have n0_:=As0.mk (Kd.R_lower ho4 (bsz (by repeat (first|(with_reducible first|exact HB.out|apply bal|apply pbN|apply bd1)|exact HB.out))));have n1_:=As0.mk (b3 HB.out hb);clear HB;have HO359:=n0_;have HB:=n1_;clear n0_ n1_;clear hb ho4));try go_wp2_with (first|((with_reducible refine gate_dst (N:=10) rfl ?_);refine Kd.R_lit Kd.string _ 9 ?hg (N:=10) ?hd (xs:=([]:List ByteArray)) (inner:=[]) (ok:=fun _=>True) (okp:=fun _=>True) ?hr ?hp (fun _ hk=>hk) trivial (Below.refl _ _) (Nat.le_refl _) (by simp) ?_;(case hd=>rfl);(case hg=>rfl);(case hr=>first|(go_simp;done)|(go_simp;rfl));(case hp=>exact (Reps.none _ _));intro v358 w3 ho4 hb hg_ hnew_;clear hg_ hnew_;(first|rw [← Ny357.out] at ho4|(simp only [Int.reduceToNat] at ho4;rw [← Ny357.out] at ho4));have n0_:=As0.mk (Kd.R_lower ho4 (bsz (by repeat (first|(with_reducible first|exact HB.out|apply bal|apply pbN|apply bd1)|exact HB.out))));have n1_:=As0.mk (b3 HB.out hb);clear HB;have HO359:=n0_;have HB:=n1_;clear n0_ n1_;clear hb ho4)))
 show _;go_loopg [7,8,9] k (fun kq v7 v8 v9 w'=>∃ (x7_1:List ByteArray) (x8_1:Int) (x9_1:Int),v8 = .int .i64 x8_1 ∧ v9 = .int .i64 x9_1 ∧ As0 (spec_l7Words.l0 kq a0 a1 x7_1 x8_1 x9_1 = some (r1,r2,r3)) ∧ As0 (kq ≤ k) ∧ As0 (Kd.R Kd.string 9 w' w.heap.size (fun _=>True) v7 x7_1) ∧ As0 (Below w.heap.size w w'))
 case atStart=>exact ⟨(y357),(0),(0),(by first|rfl|(simp;done)|(simp [*];done)),(by first|rfl|(simp;done)|(simp [*];done)),H',⟨Nat.le_refl _⟩,⟨by (with_reducible repeat (first|apply Kd.Ral|apply Kd.RdN|apply Kd.R_drew));exact HO359.out⟩,⟨by repeat (first|(with_reducible first|exact HB.out|apply bal|apply pbN|apply bd1)|exact HB.out)⟩⟩
 case round=>
  clear H'
  try clear c2
  try clear p2
  obtain ⟨x7_1,x8_1,x9_1,rfl,rfl,HA,HK1,HO_7,HB⟩:=hrel
  cases gk with
  |zero=>exact absurd HA.out (by simp [spec_l7Words.l0])
  |succ k1=>
   have H:=HA.out;clear HA;simp only [spec_l7Words.l0] at H;by_cases c5:x9_1 < (a0.size:Int)
   · rw [if_pos c5] at H
     have c5b0:decide (x9_1 < (a0.size:Int)) = true:=decide_eq_true c5;clear c5;by_cases c6:0 ≤ x9_1
     · rw [if_pos c6] at H
       have c6b0:decide (0 ≤ x9_1) = true:=decide_eq_true c6;clear c6;by_cases c8:(bt a0 x9_1) = 32
       · rw [if_pos c8] at H
         have c8b0:((bt a0 x9_1) == 32) = true:=beq_iff_eq.mpr c8;have c8b1:((bt a0 x9_1) != 32) = false:=bne_eq_false_iff_eq.mpr c8;clear c8;by_cases c9:0 ≤ x8_1
         · rw [if_pos c9] at H
           have c9b0:=eq_true c9;have c9b1:decide (0 ≤ x8_1) = true:=decide_eq_true c9;clear c9;by_cases c10:x8_1 ≤ x9_1
           · rw [if_pos c10] at H
             have c10b0:=eq_true c10;have c10b1:decide (x8_1 ≤ x9_1) = true:=decide_eq_true c10;clear c10;by_cases c11:x9_1 ≤ (a0.size:Int)
             · rw [if_pos c11] at H
               have c11b0:=eq_true c11;have c11b1:decide (x9_1 ≤ (a0.size:Int)) = true:=decide_eq_true c11;clear c11;by_cases c12:x7_1.length < 8796093022208
               · rw [if_pos c12] at H
                 have LMc12:=As0.mk c12;clear c12;obtain ⟨y360,hy360⟩:∃ y_:List ByteArray,y_ = (x7_1 ++ [a0.extract (x8_1:Int).toNat (x9_1:Int).toNat]):=⟨_,rfl⟩;replace H:(if (y360.length:Int) = a1 then (if 0 ≤ (wrap64 (x9_1 + 1)) then (if (wrap64 (x9_1 + 1)) ≤ (a0.size:Int) then (some (y360,a0.extract ((wrap64 (x9_1 + 1)):Int).toNat a0.size,true)) else (none)) else (none)) else (spec_l7Words.l0 k1 a0 a1 y360 (wrap64 (x9_1 + 1)) (wrap64 (x9_1 + 1)))) = some (r1,r2,r3):=by first|(rw [hy360];with_reducible exact H)|(have H2_:=(Option.bind_some _ _).symm.trans H;rw [hy360];with_reducible exact H2_)|(have H2_:=(Option.bind_some _ _).symm.trans H;with_reducible exact H2_)|with_reducible exact H|(rw [hy360];exact H)|exact H
                 have Ny360:=As0.mk hy360;clear hy360;by_cases c13:(y360.length:Int) = a1
                 · rw [if_pos c13] at H
                   have c13b0:((y360.length:Int) == a1) = true:=beq_iff_eq.mpr c13;have c13b1:((y360.length:Int) != a1) = false:=bne_eq_false_iff_eq.mpr c13;clear c13;obtain ⟨ji14,hji14⟩:∃ j_:Int,(wrap64 (x9_1 + 1)) = j_:=⟨_,rfl⟩;replace H:(if 0 ≤ (ji14) then (if (ji14) ≤ (a0.size:Int) then (some (y360,a0.extract ((ji14):Int).toNat a0.size,true)) else (none)) else (none)) = some (r1,r2,r3):=by first|(rw [hji14] at H;exact H)|(simp only [hji14] at H ⊢;exact H)
                   have hji14w:(IntKind.i64.wrap (x9_1 + 1)) = ji14:=(i64_w _).trans hji14;by_cases c15:0 ≤ (ji14)
                   · rw [if_pos c15] at H
                     have c15b0:=eq_true c15;have c15b1:decide (0 ≤ (ji14)) = true:=decide_eq_true c15;clear c15;by_cases c16:(ji14) ≤ (a0.size:Int)
                     · rw [if_pos c16] at H
                       have c16b0:=eq_true c16;have c16b1:decide ((ji14) ≤ (a0.size:Int)) = true:=decide_eq_true c16;clear c16;simp only [Option.some.injEq,Prod.mk.injEq] at H;obtain ⟨rfl,rfl,rfl⟩:=H;have p7:0 ≤ (x9_1:Int):=odt;have q7:x9_1 < (a0.size:Int):=odt;have hx7:=bt_at a0 x9_1;replace p7:=eq_true p7;replace q7:=eq_true q7
                       go_wp2_with (first|((with_reducible refine gbi (b:=.append) (xs:=#[.tmp 21,.tmp 26]) rfl ?_);at_builtin;refine Kd.R_append Kd.string (w0:=w) w.heap.size rfl (.tmp 21) (.tmp 26) 38 9 (.string ⟨#[]⟩) 16 rfl Tryd.underlying38 info9 rfl (by decide) (by omega) u7 x7_1 (a0.extract (x8_1:Int).toNat (x9_1:Int).toNat) [.string (a0.extract (x8_1:Int).toNat (x9_1:Int).toNat)] (fun _=>True) (fun _=>False) rfl rfl ?aP (fun _ hk=>hk.elim) ?aF ?aO ?aB ?aS ?aL ?_;(case aP=>exact rfl);(case aB=>exact (by repeat (first|(with_reducible first|exact HB.out|apply bal|apply pbN|apply bd1)|exact HB.out)));(case aF=>exact (fun _ _=>trivial));(case aO=>exact (by (with_reducible repeat (first|apply Kd.Ral|apply Kd.RdN|apply Kd.R_drew));exact HO_7.out));(case aS=>exact (bsz (by repeat (first|(with_reducible first|exact HB.out|apply bal|apply pbN|apply bd1)|exact HB.out))));(case aL=>have:=LMc12.out;omega);intro v361 w17 ho hb hg hat;rw [← Ny360.out] at ho;replace HB:=As0.mk (hb);have HO362:=As0.mk (ho);clear HO_7 ho hb hg hat;obtain ⟨Ao18,co18,eo18⟩:=Kd.R_slice HO362.out;subst eo18))
                       repeat (go_quiet (first|((with_reducible refine gbi (b:=.append) (xs:=#[.tmp 21,.tmp 26]) rfl ?_);at_builtin;refine Kd.R_append Kd.string (w0:=w) w.heap.size rfl (.tmp 21) (.tmp 26) 38 9 (.string ⟨#[]⟩) 16 rfl Tryd.underlying38 info9 rfl (by decide) (by omega) u7 x7_1 (a0.extract (x8_1:Int).toNat (x9_1:Int).toNat) [.string (a0.extract (x8_1:Int).toNat (x9_1:Int).toNat)] (fun _=>True) (fun _=>False) rfl rfl ?aP (fun _ hk=>hk.elim) ?aF ?aO ?aB ?aS ?aL ?_;(case aP=>exact rfl);(case aB=>exact (by repeat (first|(with_reducible first|exact HB.out|apply bal|apply pbN|apply bd1)|exact HB.out)));(case aF=>exact (fun _ _=>trivial));(case aO=>exact (by (with_reducible repeat (first|apply Kd.Ral|apply Kd.RdN|apply Kd.R_drew));exact HO_7.out));(case aS=>exact (bsz (by repeat (first|(with_reducible first|exact HB.out|apply bal|apply pbN|apply bd1)|exact HB.out))));(case aL=>have:=LMc12.out;omega);intro v361 w17 ho hb hg hat;rw [← Ny360.out] at ho;have n0_:=As0.mk (hb);have n1_:=As0.mk (ho);clear HB;clear HO_7;have HB:=n0_;have HO362:=n1_;clear n0_ n1_;clear ho hb hg hat;obtain ⟨Ao18,co18,eo18⟩:=Kd.R_slice HO362.out;subst eo18));try go_wp2_with (first|((with_reducible refine gbi (b:=.append) (xs:=#[.tmp 21,.tmp 26]) rfl ?_);at_builtin;refine Kd.R_append Kd.string (w0:=w) w.heap.size rfl (.tmp 21) (.tmp 26) 38 9 (.string ⟨#[]⟩) 16 rfl Tryd.underlying38 info9 rfl (by decide) (by omega) u7 x7_1 (a0.extract (x8_1:Int).toNat (x9_1:Int).toNat) [.string (a0.extract (x8_1:Int).toNat (x9_1:Int).toNat)] (fun _=>True) (fun _=>False) rfl rfl ?aP (fun _ hk=>hk.elim) ?aF ?aO ?aB ?aS ?aL ?_;(case aP=>exact rfl);(case aB=>exact (by repeat (first|(with_reducible first|exact HB.out|apply bal|apply pbN|apply bd1)|exact HB.out)));(case aF=>exact (fun _ _=>trivial));(case aO=>exact (by (with_reducible repeat (first|apply Kd.Ral|apply Kd.RdN|apply Kd.R_drew));exact HO_7.out));(case aS=>exact (bsz (by repeat (first|(with_reducible first|exact HB.out|apply bal|apply pbN|apply bd1)|exact HB.out))));(case aL=>have:=LMc12.out;omega);intro v361 w17 ho hb hg hat;rw [← Ny360.out] at ho;have n0_:=As0.mk (hb);have n1_:=As0.mk (ho);clear HB;clear HO_7;have HB:=n0_;have HO362:=n1_;clear n0_ n1_;clear ho hb hg hat;obtain ⟨Ao18,co18,eo18⟩:=Kd.R_slice HO362.out;subst eo18)))
                       go_ret3
                       exact ⟨_,by first|rfl|(simp [errW_none,errW_some] <;> rfl)|(simp only [← hji14];first|rfl|(simp [errW_none,errW_some] <;> rfl))|(simp [*,errW_none,errW_some] <;> rfl),by (with_reducible repeat (first|apply Kd.Ral|apply Kd.RdN|apply Kd.R_drew));exact HO362.out,by repeat (first|(with_reducible first|exact HB.out|apply bal|apply pbN|apply bd1)|exact HB.out)⟩
                     · rw [if_neg c16] at H
                       exact absurd H (by simp)
                   · rw [if_neg c15] at H
                     exact absurd H (by simp)
                 · rw [if_neg c13] at H
                   have c13b0:((y360.length:Int) == a1) = false:=beq_eq_false_iff_ne.mpr c13;have c13b1:((y360.length:Int) != a1) = true:=bne_iff_ne.mpr c13;have H':=As0.mk H;clear H;have p7:0 ≤ (x9_1:Int):=odt;have q7:x9_1 < (a0.size:Int):=odt;have hx7:=bt_at a0 x9_1;replace p7:=eq_true p7;replace q7:=eq_true q7
                   go_wp2_with (first|((with_reducible refine gbi (b:=.append) (xs:=#[.tmp 21,.tmp 26]) rfl ?_);at_builtin;refine Kd.R_append Kd.string (w0:=w) w.heap.size rfl (.tmp 21) (.tmp 26) 38 9 (.string ⟨#[]⟩) 16 rfl Tryd.underlying38 info9 rfl (by decide) (by omega) u7 x7_1 (a0.extract (x8_1:Int).toNat (x9_1:Int).toNat) [.string (a0.extract (x8_1:Int).toNat (x9_1:Int).toNat)] (fun _=>True) (fun _=>False) rfl rfl ?aP (fun _ hk=>hk.elim) ?aF ?aO ?aB ?aS ?aL ?_;(case aP=>exact rfl);(case aB=>exact (by repeat (first|(with_reducible first|exact HB.out|apply bal|apply pbN|apply bd1)|exact HB.out)));(case aF=>exact (fun _ _=>trivial));(case aO=>exact (by (with_reducible repeat (first|apply Kd.Ral|apply Kd.RdN|apply Kd.R_drew));exact HO_7.out));(case aS=>exact (bsz (by repeat (first|(with_reducible first|exact HB.out|apply bal|apply pbN|apply bd1)|exact HB.out))));(case aL=>have:=LMc12.out;omega);intro v361 w19 ho hb hg hat;rw [← Ny360.out] at ho;replace HB:=As0.mk (hb);have HO362:=As0.mk (ho);clear HO_7 ho hb hg hat;obtain ⟨Ao20,co20,eo20⟩:=Kd.R_slice HO362.out;subst eo20))
                   repeat (go_quiet (first|((with_reducible refine gbi (b:=.append) (xs:=#[.tmp 21,.tmp 26]) rfl ?_);at_builtin;refine Kd.R_append Kd.string (w0:=w) w.heap.size rfl (.tmp 21) (.tmp 26) 38 9 (.string ⟨#[]⟩) 16 rfl Tryd.underlying38 info9 rfl (by decide) (by omega) u7 x7_1 (a0.extract (x8_1:Int).toNat (x9_1:Int).toNat) [.string (a0.extract (x8_1:Int).toNat (x9_1:Int).toNat)] (fun _=>True) (fun _=>False) rfl rfl ?aP (fun _ hk=>hk.elim) ?aF ?aO ?aB ?aS ?aL ?_;(case aP=>exact rfl);(case aB=>exact (by repeat (first|(with_reducible first|exact HB.out|apply bal|apply pbN|apply bd1)|exact HB.out)));(case aF=>exact (fun _ _=>trivial));(case aO=>exact (by (with_reducible repeat (first|apply Kd.Ral|apply Kd.RdN|apply Kd.R_drew));exact HO_7.out));(case aS=>exact (bsz (by repeat (first|(with_reducible first|exact HB.out|apply bal|apply pbN|apply bd1)|exact HB.out))));(case aL=>have:=LMc12.out;omega);intro v361 w19 ho hb hg hat;rw [← Ny360.out] at ho;have n0_:=As0.mk (hb);have n1_:=As0.mk (ho);clear HB;clear HO_7;have HB:=n0_;have HO362:=n1_;clear n0_ n1_;clear ho hb hg hat;obtain ⟨Ao20,co20,eo20⟩:=Kd.R_slice HO362.out;subst eo20));try go_wp2_with (first|((with_reducible refine gbi (b:=.append) (xs:=#[.tmp 21,.tmp 26]) rfl ?_);at_builtin;refine Kd.R_append Kd.string (w0:=w) w.heap.size rfl (.tmp 21) (.tmp 26) 38 9 (.string ⟨#[]⟩) 16 rfl Tryd.underlying38 info9 rfl (by decide) (by omega) u7 x7_1 (a0.extract (x8_1:Int).toNat (x9_1:Int).toNat) [.string (a0.extract (x8_1:Int).toNat (x9_1:Int).toNat)] (fun _=>True) (fun _=>False) rfl rfl ?aP (fun _ hk=>hk.elim) ?aF ?aO ?aB ?aS ?aL ?_;(case aP=>exact rfl);(case aB=>exact (by repeat (first|(with_reducible first|exact HB.out|apply bal|apply pbN|apply bd1)|exact HB.out)));(case aF=>exact (fun _ _=>trivial));(case aO=>exact (by (with_reducible repeat (first|apply Kd.Ral|apply Kd.RdN|apply Kd.R_drew));exact HO_7.out));(case aS=>exact (bsz (by repeat (first|(with_reducible first|exact HB.out|apply bal|apply pbN|apply bd1)|exact HB.out))));(case aL=>have:=LMc12.out;omega);intro v361 w19 ho hb hg hat;rw [← Ny360.out] at ho;have n0_:=As0.mk (hb);have n1_:=As0.mk (ho);clear HB;clear HO_7;have HB:=n0_;have HO362:=n1_;clear n0_ n1_;clear ho hb hg hat;obtain ⟨Ao20,co20,eo20⟩:=Kd.R_slice HO362.out;subst eo20)))
                   show _;go_roundg k1
                   case measure=>have:=HK1.out;omega
                   case rel=>exact ⟨(y360),(wrap64 (x9_1 + 1)),(wrap64 (x9_1 + 1)),(by first|rfl|(simp;done)|(simp [*];done)),(by first|rfl|(simp;done)|(simp [*];done)),H',⟨by have:=HK1.out;omega⟩,⟨by (with_reducible repeat (first|apply Kd.Ral|apply Kd.RdN|apply Kd.R_drew));exact HO362.out⟩,⟨by repeat (first|(with_reducible first|exact HB.out|apply bal|apply pbN|apply bd1)|exact HB.out)⟩⟩
               · rw [if_neg c12] at H
                 exact absurd H (by simp)
             · rw [if_neg c11] at H
               exact absurd H (by simp)
           · rw [if_neg c10] at H
             exact absurd H (by simp)
         · rw [if_neg c9] at H
           exact absurd H (by simp)
       · rw [if_neg c8] at H
         have c8b0:((bt a0 x9_1) == 32) = false:=beq_eq_false_iff_ne.mpr c8;have c8b1:((bt a0 x9_1) != 32) = true:=bne_iff_ne.mpr c8;have H':=As0.mk H;clear H;have p7:0 ≤ (x9_1:Int):=odt;have q7:x9_1 < (a0.size:Int):=odt;have hx7:=bt_at a0 x9_1;replace p7:=eq_true p7;replace q7:=eq_true q7
         go_wp2
         repeat (go_quiet (fail);try go_wp2)
         show _;go_roundg k1
         case measure=>have:=HK1.out;omega
         case rel=>exact ⟨(x7_1),(x8_1),(wrap64 (x9_1 + 1)),(by first|rfl|(simp;done)|(simp [*];done)),(by first|rfl|(simp;done)|(simp [*];done)),H',⟨by have:=HK1.out;omega⟩,⟨by (with_reducible repeat (first|apply Kd.Ral|apply Kd.RdN|apply Kd.R_drew));exact HO_7.out⟩,⟨by repeat (first|(with_reducible first|exact HB.out|apply bal|apply pbN|apply bd1)|exact HB.out)⟩⟩
     · rw [if_neg c6] at H
       exact absurd H (by simp)
   · rw [if_neg c5] at H
     have c5b0:decide (x9_1 < (a0.size:Int)) = false:=decide_eq_false c5;clear c5;simp only [Option.some.injEq,Prod.mk.injEq] at H;obtain ⟨rfl,rfl,rfl⟩:=H
     go_wp2
     repeat (go_quiet (fail);try go_wp2)
     go_ret3
     exact ⟨_,by first|rfl|(simp [errW_none,errW_some] <;> rfl)|(simp [*,errW_none,errW_some] <;> rfl),by (with_reducible repeat (first|apply Kd.Ral|apply Kd.RdN|apply Kd.R_drew));exact HO_7.out,by repeat (first|(with_reducible first|exact HB.out|apply bal|apply pbN|apply bd1)|exact HB.out)⟩
mutual
def spec_l3Num.j0:Nat → ByteArray → Bool → Option (Int)
 |0,_,_=>none
 |k + 1,x0,x18=>if x18 = true then (some (-1)) else (spec_l3Num.l0 k x0 0 0)
def spec_l3Num.l0:Nat → ByteArray → Int → Int → Option (Int)
 |0,_,_,_=>none
 |k + 1,x0,x3,x4=>if x4 < (x0.size:Int) then (if 0 ≤ x4 then (if (bt x0 x4) < 48 then (some (-1)) else (if (bt x0 x4) > 57 then (some (-1)) else (spec_l3Num.l0 k x0 (wrap64 ((wrap64 (x3 * 10)) + (((bt x0 x4) - 48) % 256))) (wrap64 (x4 + 1))))) else (none)) else (some x3)
end
def spec_l3Num.f (k:Nat) (a0:ByteArray):Option (Int):=(spec_l1In.f (a0.size:Int) 1 8).bind fun t363=>(if t363 = true then (if (a0.size:Int) > 1 then (if 0 < (a0.size:Int) then (spec_l3Num.j0 k a0 ((bt a0 0) == 48)) else (none)) else (spec_l3Num.j0 k a0 false)) else (spec_l3Num.j0 k a0 true))
set_option maxHeartbeats 40000000 in
set_option maxRecDepth 100000 in
theorem spec_l3Num.calls (k:Nat) (a0:ByteArray) (r:Int) (w:World) (h:spec_l3Num.f k a0 = some r) :
 Calls Tryd.prog 37 #[.string a0] w fun e w'=>e = .returned (.int .i64 r) ∧ Drawn0 w w':=by
 have H:((spec_l1In.f (a0.size:Int) 1 8).bind fun t363=>(if t363 = true then (if (a0.size:Int) > 1 then (if 0 < (a0.size:Int) then (spec_l3Num.j0 k a0 ((bt a0 0) == 48)) else (none)) else (spec_l3Num.j0 k a0 false)) else (spec_l3Num.j0 k a0 true))) = some r:=h;clear h;have HC2:=As0.mk H;clear H
 go_enter Tryd.func37,Tryd.ntmps37
 show _;go_upto_region 1 with (fail)
 show _;go_cut [18] (fun v18 wc=>∃ (kq:Nat) (x18_1:Bool),v18 = .bool x18_1 ∧ As0 (spec_l3Num.j0 kq a0 x18_1 = some r) ∧ As0 (kq ≤ k) ∧ Drawn0 w wc)
 case first=>
  have H:=HC2.out;clear HC2;replace H:=Option.bind_eq_some_iff.mp H;obtain ⟨t363,A30,H⟩:=H;(try dsimp only at H);have A3:=As0.mk A30;clear A30;by_cases c4:t363 = true
  · subst c4
    have H1:(if (a0.size:Int) > 1 then (if 0 < (a0.size:Int) then (spec_l3Num.j0 k a0 ((bt a0 0) == 48)) else (none)) else (spec_l3Num.j0 k a0 false)) = some r:=by rw [if_pos rfl] at H;exact H
    clear H;have H:=H1;clear H1;by_cases c5:(a0.size:Int) > 1
    · rw [if_pos c5] at H
      have c5b0:decide (1 < (a0.size:Int)) = true:=decide_eq_true c5;have c5b1:decide (1 < a0.size) = true:=decide_eq_true (by omega);clear c5
      (first|rw [c5b0]|(simp only [i64_w,i32_w];rw [c5b0])|skip)
      by_cases c6:0 < (a0.size:Int)
      · rw [if_pos c6] at H
        have c6b0:decide (0 < (a0.size:Int)) = true:=decide_eq_true c6;have c6b1:decide (0 < a0.size) = true:=decide_eq_true (by omega);clear c6;have H':=As0.mk H;clear H
        go_wp2_with (first|(refine gL (some 7) Tryd.func29 #[.int .i64 (a0.size:Int),.int .i64 1,.int .i64 8] ?_;(with_reducible refine (spec_l1In.calls (a0.size:Int) 1 8 true _ A3.out).mono ?_);rintro e w' ⟨rfl,⟨nd,rfl⟩⟩;refine ⟨_,rfl,?_⟩;have p7:0 ≤ (0:Int):=(by omega);have q7:0 < a0.size:=(by have:(0:Int) < (a0.size:Int):=odt;omega);have hx7:∀ h:0 < a0.size,((a0[0]'h).toNat:Int) = bt a0 0:=bt_at a0 0;clear p7;have qi7:(0 < (a0.size:Int)) = True:=eq_true (odt);replace q7:=eq_true q7))
        show _;go_meet
        case rel=>exact ⟨_,(((bt a0 0) == 48)),(by first|rfl|(simp;done)|(simp [*];done)),H',⟨by first|omega|exact Nat.le_refl _⟩,by repeat (first|exact Drawn0.refl _|apply Drawn0.step)⟩
      · rw [if_neg c6] at H
        exact absurd H (by simp)
    · rw [if_neg c5] at H
      have c5b0:decide (1 < (a0.size:Int)) = false:=decide_eq_false c5;have c5b1:decide (1 < a0.size) = false:=decide_eq_false (by omega);clear c5
      (first|rw [c5b0]|(simp only [i64_w,i32_w];rw [c5b0])|skip)
      have H':=As0.mk H;clear H
      go_wp2_with (first|(refine gL (some 7) Tryd.func29 #[.int .i64 (a0.size:Int),.int .i64 1,.int .i64 8] ?_;(with_reducible refine (spec_l1In.calls (a0.size:Int) 1 8 true _ A3.out).mono ?_);rintro e w' ⟨rfl,⟨nd,rfl⟩⟩;refine ⟨_,rfl,?_⟩))
      show _;go_meet
      case rel=>exact ⟨_,(false),(by first|rfl|(simp;done)|(simp [*];done)),H',⟨by first|omega|exact Nat.le_refl _⟩,by repeat (first|exact Drawn0.refl _|apply Drawn0.step)⟩
  · replace c4:=Bool.eq_false_iff.mpr c4
    subst c4;have H1:(spec_l3Num.j0 k a0 true) = some r:=by rw [if_neg (show ¬ (false = true) by decide)] at H;exact H
    clear H;have H:=H1;clear H1;have H':=As0.mk H;clear H
    go_wp2_with (first|(refine gL (some 7) Tryd.func29 #[.int .i64 (a0.size:Int),.int .i64 1,.int .i64 8] ?_;(with_reducible refine (spec_l1In.calls (a0.size:Int) 1 8 false _ A3.out).mono ?_);rintro e w' ⟨rfl,⟨nd,rfl⟩⟩;refine ⟨_,rfl,?_⟩))
    show _;go_meet
    case rel=>exact ⟨_,(true),(by first|rfl|(simp;done)|(simp [*];done)),H',⟨by first|omega|exact Nat.le_refl _⟩,by repeat (first|exact Drawn0.refl _|apply Drawn0.step)⟩
 case rest=>
  clear HC2
  try clear c2
  try clear p2
  try clear c3
  try clear c4
  try clear c5
  try clear c5b0
  try clear c5b1
  try clear c6
  try clear c6b0
  try clear c6b1
  try clear p7
  try clear q7
  try clear hx7
  try clear qi7
  try clear p7
  try clear q7
  obtain ⟨kq,x18_1,rfl,HA,HJ1,⟨mc1,rfl⟩⟩:=hcut
  cases kq with
  |zero=>exact absurd HA.out (by simp [spec_l3Num.j0])
  |succ kj1=>
   have H:=HA.out;clear HA;simp only [spec_l3Num.j0] at H;by_cases c8:x18_1 = true
   · subst c8
     have H1:(some (-1)) = some r:=by rw [if_pos rfl] at H;exact H
     clear H;have H:=H1;clear H1;obtain rfl:=Option.some.inj H
     go_wp2
     go_ret
     exact ⟨by first|rfl|(simp;done)|(simp [*];done),by repeat (first|exact Drawn0.refl _|apply Drawn0.step)⟩
   · replace c8:=Bool.eq_false_iff.mpr c8
     subst c8;have H1:(spec_l3Num.l0 kj1 a0 0 0) = some r:=by rw [if_neg (show ¬ (false = true) by decide)] at H;exact H
     clear H;have H:=H1;clear H1;have H':=As0.mk H;clear H
     go_wp2
     show _;go_loopg [3,4] kj1 (fun kq v3 v4 w'=>∃ (x3_2:Int) (x4_2:Int),v3 = .int .i64 x3_2 ∧ v4 = .int .i64 x4_2 ∧ As0 (spec_l3Num.l0 kq a0 x3_2 x4_2 = some r) ∧ As0 (kq ≤ kj1) ∧ Drawn0 w w')
     case atStart=>exact ⟨(0),(0),(by first|rfl|(simp;done)|(simp [*];done)),(by first|rfl|(simp;done)|(simp [*];done)),H',⟨Nat.le_refl _⟩,by repeat (first|exact Drawn0.refl _|apply Drawn0.step)⟩
     case round=>
      clear H'
      try clear c1
      try clear c2
      try clear p2
      try clear c3
      try clear c4
      try clear c5
      try clear c5b0
      try clear c5b1
      try clear c6
      try clear c6b0
      try clear c6b1
      try clear p7
      try clear q7
      try clear hx7
      try clear qi7
      try clear c8
      try clear p2
      try clear p7
      try clear q7
      obtain ⟨x3_2,x4_2,rfl,rfl,HA,HK2,⟨m2,rfl⟩⟩:=hrel
      cases gk with
      |zero=>exact absurd HA.out (by simp [spec_l3Num.l0])
      |succ k2=>
       have H:=HA.out;clear HA;simp only [spec_l3Num.l0] at H;by_cases c9:x4_2 < (a0.size:Int)
       · rw [if_pos c9] at H
         have c9b0:decide (x4_2 < (a0.size:Int)) = true:=decide_eq_true c9;clear c9;by_cases c10:0 ≤ x4_2
         · rw [if_pos c10] at H
           have c10b0:decide (0 ≤ x4_2) = true:=decide_eq_true c10;clear c10;by_cases c12:(bt a0 x4_2) < 48
           · rw [if_pos c12] at H
             have c12b0:decide ((bt a0 x4_2) < 48) = true:=decide_eq_true c12;clear c12;obtain rfl:=Option.some.inj H;have p11:0 ≤ (x4_2:Int):=odt;have q11:x4_2 < (a0.size:Int):=odt;have hx11:=bt_at a0 x4_2;replace p11:=eq_true p11;replace q11:=eq_true q11
             go_wp2
             go_ret
             exact ⟨by first|rfl|(simp;done)|(simp [*];done),by repeat (first|exact Drawn0.refl _|apply Drawn0.step)⟩
           · rw [if_neg c12] at H
             have c12b0:decide ((bt a0 x4_2) < 48) = false:=decide_eq_false c12;clear c12;by_cases c14:(bt a0 x4_2) > 57
             · rw [if_pos c14] at H
               have c14b0:decide (57 < (bt a0 x4_2)) = true:=decide_eq_true c14;clear c14;obtain rfl:=Option.some.inj H;have p11:0 ≤ (x4_2:Int):=odt;have q11:x4_2 < (a0.size:Int):=odt;have hx11:=bt_at a0 x4_2;replace p11:=eq_true p11;replace q11:=eq_true q11;have p13:0 ≤ (x4_2:Int):=odt;have q13:x4_2 < (a0.size:Int):=odt;have hx13:=bt_at a0 x4_2;replace p13:=eq_true p13;replace q13:=eq_true q13
               go_wp2
               go_ret
               exact ⟨by first|rfl|(simp;done)|(simp [*];done),by repeat (first|exact Drawn0.refl _|apply Drawn0.step)⟩
             · rw [if_neg c14] at H
               have c14b0:decide (57 < (bt a0 x4_2)) = false:=decide_eq_false c14;clear c14;have H':=As0.mk H;clear H;have p11:0 ≤ (x4_2:Int):=odt;have q11:x4_2 < (a0.size:Int):=odt;have hx11:=bt_at a0 x4_2;replace p11:=eq_true p11;replace q11:=eq_true q11;have p13:0 ≤ (x4_2:Int):=odt;have q13:x4_2 < (a0.size:Int):=odt;have hx13:=bt_at a0 x4_2;replace p13:=eq_true p13;replace q13:=eq_true q13;have p15:0 ≤ (x4_2:Int):=odt;have q15:x4_2 < (a0.size:Int):=odt;have hx15:=bt_at a0 x4_2;replace p15:=eq_true p15;replace q15:=eq_true q15
               go_wp2
               show _;go_roundg k2
               case measure=>have:=HJ1.out;have:=HK2.out;omega
               case rel=>exact ⟨(wrap64 ((wrap64 (x3_2 * 10)) + (((bt a0 x4_2) - 48) % 256))),(wrap64 (x4_2 + 1)),(by first|rfl|(simp;done)|(simp [*];done)),(by first|rfl|(simp;done)|(simp [*];done)),H',⟨by have:=HJ1.out;have:=HK2.out;omega⟩,by repeat (first|exact Drawn0.refl _|apply Drawn0.step)⟩
         · rw [if_neg c10] at H
           exact absurd H (by simp)
       · rw [if_neg c9] at H
         have c9b0:decide (x4_2 < (a0.size:Int)) = false:=decide_eq_false c9;clear c9;obtain rfl:=Option.some.inj H
         go_wp2
         go_ret
         exact ⟨by first|rfl|(simp;done)|(simp [*];done),by repeat (first|exact Drawn0.refl _|apply Drawn0.step)⟩
def spec_l9Int.f (k:Nat) (a0:ByteArray):Option (Int):=if a0.toList = ([45,49]:List UInt8) then (some (-1)) else ((spec_l3Num.f k a0).bind fun t364=>(if t364 < 0 then (some (-2)) else (some t364)))
set_option maxHeartbeats 40000000 in
set_option maxRecDepth 100000 in
theorem spec_l9Int.calls (k:Nat) (a0:ByteArray) (r:Int) (w:World) (h:spec_l9Int.f k a0 = some r) :
 Calls Tryd.prog 24 #[.string a0] w fun e w'=>e = .returned (.int .i64 r) ∧ Drawn0 w w':=by
 have H:(if a0.toList = ([45,49]:List UInt8) then (some (-1)) else ((spec_l3Num.f k a0).bind fun t364=>(if t364 < 0 then (some (-2)) else (some t364)))) = some r:=h;clear h;by_cases c2:a0.toList = ([45,49]:List UInt8)
 · rw [if_pos c2] at H
   have c2b0:(a0.toList == ([45,49]:List UInt8)) = true:=beq_iff_eq.mpr c2;have c2b1:(a0.toList != ([45,49]:List UInt8)) = false:=bne_eq_false_iff_eq.mpr c2;clear c2;obtain rfl:=Option.some.inj H
   go_enter Tryd.func24,Tryd.ntmps24
   go_wp2
   go_ret
   exact ⟨by first|rfl|(simp;done)|(simp [*];done),by repeat (first|exact Drawn0.refl _|apply Drawn0.step)⟩
 · rw [if_neg c2] at H
   have c2b0:(a0.toList == ([45,49]:List UInt8)) = false:=beq_eq_false_iff_ne.mpr c2;have c2b1:(a0.toList != ([45,49]:List UInt8)) = true:=bne_iff_ne.mpr c2;replace H:=Option.bind_eq_some_iff.mp H;obtain ⟨t364,A30,H⟩:=H;(try dsimp only at H);have A3:=As0.mk A30;clear A30;by_cases c4:t364 < 0
   · rw [if_pos c4] at H
     have c4b0:decide (t364 < 0) = true:=decide_eq_true c4;clear c4;obtain rfl:=Option.some.inj H
     go_enter Tryd.func24,Tryd.ntmps24
     go_wp2_with (first|(refine gL (some 7) Tryd.func37 #[.string a0] ?_;(with_reducible refine (spec_l3Num.calls k a0 t364 _ A3.out).mono ?_);rintro e w' ⟨rfl,⟨nd,rfl⟩⟩;refine ⟨_,rfl,?_⟩))
     go_ret
     exact ⟨by first|rfl|(simp;done)|(simp [*];done),by repeat (first|exact Drawn0.refl _|apply Drawn0.step)⟩
   · rw [if_neg c4] at H
     have c4b0:decide (t364 < 0) = false:=decide_eq_false c4;clear c4;obtain rfl:=Option.some.inj H
     go_enter Tryd.func24,Tryd.ntmps24
     go_wp2_with (first|(refine gL (some 7) Tryd.func37 #[.string a0] ?_;(with_reducible refine (spec_l3Num.calls k a0 t364 _ A3.out).mono ?_);rintro e w' ⟨rfl,⟨nd,rfl⟩⟩;refine ⟨_,rfl,?_⟩))
     go_ret
     exact ⟨by first|rfl|(simp;done)|(simp [*];done),by repeat (first|exact Drawn0.refl _|apply Drawn0.step)⟩
mutual
def spec_ReqRead.l0:Nat → ByteArray → ByteArray → Int → Int → ByteArray → ByteArray → Int → ByteArray → Option (Int × ByteArray × ByteArray × Int × ByteArray × Bool)
 |0,_,_,_,_,_,_,_,_=>none
 |k + 1,x0,x5,x6,x367000,x367001,x367002,x367003,x367004=>if x6 ≤ 12 then ((spec_l9Words.f).bind fun t371=>(if 0 ≤ x6 then (if x6 < (t371.length:Int) then (if (rdOf ByteArray.empty t371 x6).toList = x5.toList then (spec_ReqRead.l0 k x0 x5 (wrap64 (x6 + 1)) x6 x367001 x367002 x367003 x367004) else (spec_ReqRead.l0 k x0 x5 (wrap64 (x6 + 1)) x367000 x367001 x367002 x367003 x367004)) else (none)) else (none))) else ((spec_l9Has.f k x367000).bind fun bt375=>(if bt375.1 = true then (spec_ReqRead.j1 k x0 bt375.1 bt375.2.1 bt375.2.2 (2 + 1) x367000 x367001 x367002 x367003 x367004) else (spec_ReqRead.j1 k x0 bt375.1 bt375.2.1 bt375.2.2 2 x367000 x367001 x367002 x367003 x367004)))
def spec_ReqRead.j1:Nat → ByteArray → Bool → Bool → Bool → Int → Int → ByteArray → ByteArray → Int → ByteArray → Option (Int × ByteArray × ByteArray × Int × ByteArray × Bool)
 |0,_,_,_,_,_,_,_,_,_,_=>none
 |k + 1,x0,x7,x8,x9,x10,x367000,x367001,x367002,x367003,x367004=>if x8 = true then (spec_ReqRead.j2 k x0 x7 x8 x9 (wrap64 (x10 + 1)) x367000 x367001 x367002 x367003 x367004) else (spec_ReqRead.j2 k x0 x7 x8 x9 x10 x367000 x367001 x367002 x367003 x367004)
def spec_ReqRead.j2:Nat → ByteArray → Bool → Bool → Bool → Int → Int → ByteArray → ByteArray → Int → ByteArray → Option (Int × ByteArray × ByteArray × Int × ByteArray × Bool)
 |0,_,_,_,_,_,_,_,_,_,_=>none
 |k + 1,x0,x7,x8,x9,x10,x367000,x367001,x367002,x367003,x367004=>(spec_l3Cut.f k x0 32).bind fun t378=>(if x367000 = 12 then (spec_ReqRead.j3 k x0 x7 x8 x9 x10 t378 false x367000 x367001 x367002 x367003 x367004) else (spec_ReqRead.j3 k x0 x7 x8 x9 x10 t378 (decide ((t378.length:Int) ≥ x10)) x367000 x367001 x367002 x367003 x367004))
def spec_ReqRead.j3:Nat → ByteArray → Bool → Bool → Bool → Int → List ByteArray → Bool → Int → ByteArray → ByteArray → Int → ByteArray → Option (Int × ByteArray × ByteArray × Int × ByteArray × Bool)
 |0,_,_,_,_,_,_,_,_,_,_,_,_=>none
 |k + 1,x0,x7,x8,x9,x10,x11,x57,x367000,x367001,x367002,x367003,x367004=>if x57 = true then (if x9 = true then ((spec_l7Words.f k x0 x10).bind fun bt381=>(if bt381.2.2 = true then (spec_ReqRead.j4 k x0 x7 x8 x9 bt381.1 bt381.2.1 x367000 x367001 x367002 x367003 x367004) else (some (0,(⟨#[]⟩:ByteArray),(⟨#[]⟩:ByteArray),0,(⟨#[]⟩:ByteArray),false)))) else (spec_ReqRead.j4 k x0 x7 x8 x9 x11 x0 x367000 x367001 x367002 x367003 x367004)) else (if x0.toList = ([]:List UInt8) then (some (0,(⟨#[]⟩:ByteArray),(⟨#[]⟩:ByteArray),0,(⟨#[]⟩:ByteArray),false)) else ((spec_ReqWrite.f k x367000 x367001 x367002 x367003 x367004).bind fun t392=>(if t392.toList = x0.toList then (some (x367000,x367001,x367002,x367003,x367004,true)) else (some (0,(⟨#[]⟩:ByteArray),(⟨#[]⟩:ByteArray),0,(⟨#[]⟩:ByteArray),false)))))
def spec_ReqRead.j4:Nat → ByteArray → Bool → Bool → Bool → List ByteArray → ByteArray → Int → ByteArray → ByteArray → Int → ByteArray → Option (Int × ByteArray × ByteArray × Int × ByteArray × Bool)
 |0,_,_,_,_,_,_,_,_,_,_,_=>none
 |k + 1,x0,x7,x8,x9,x11,x12,x367000,x367001,x367002,x367003,x367004=>if 1 < (x11.length:Int) then (if x7 = true then (if 2 < (x11.length:Int) then (spec_ReqRead.j5 k x0 x8 x9 x11 x12 (2 + 1) x367000 (rdOf ByteArray.empty x11 1) (rdOf ByteArray.empty x11 2) x367003 x367004) else (none)) else (spec_ReqRead.j5 k x0 x8 x9 x11 x12 2 x367000 (rdOf ByteArray.empty x11 1) x367002 x367003 x367004)) else (none)
def spec_ReqRead.j5:Nat → ByteArray → Bool → Bool → List ByteArray → ByteArray → Int → Int → ByteArray → ByteArray → Int → ByteArray → Option (Int × ByteArray × ByteArray × Int × ByteArray × Bool)
 |0,_,_,_,_,_,_,_,_,_,_,_=>none
 |k + 1,x0,x8,x9,x11,x12,x16,x367000,x367001,x367002,x367003,x367004=>if x8 = true then (if 0 ≤ x16 then (if x16 < (x11.length:Int) then ((spec_l9Int.f k (rdOf ByteArray.empty x11 x16)).bind fun t389=>(spec_ReqRead.j6 k x0 x9 x12 x367000 x367001 x367002 t389 x367004)) else (none)) else (none)) else (spec_ReqRead.j6 k x0 x9 x12 x367000 x367001 x367002 x367003 x367004)
def spec_ReqRead.j6:Nat → ByteArray → Bool → ByteArray → Int → ByteArray → ByteArray → Int → ByteArray → Option (Int × ByteArray × ByteArray × Int × ByteArray × Bool)
 |0,_,_,_,_,_,_,_,_=>none
 |k + 1,x0,x9,x12,x367000,x367001,x367002,x367003,x367004=>if x9 = true then (if x0.toList = ([]:List UInt8) then (some (0,(⟨#[]⟩:ByteArray),(⟨#[]⟩:ByteArray),0,(⟨#[]⟩:ByteArray),false)) else ((spec_ReqWrite.f k x367000 x367001 x367002 x367003 x12).bind fun t390=>(if t390.toList = x0.toList then (some (x367000,x367001,x367002,x367003,x12,true)) else (some (0,(⟨#[]⟩:ByteArray),(⟨#[]⟩:ByteArray),0,(⟨#[]⟩:ByteArray),false))))) else (if x0.toList = ([]:List UInt8) then (some (0,(⟨#[]⟩:ByteArray),(⟨#[]⟩:ByteArray),0,(⟨#[]⟩:ByteArray),false)) else ((spec_ReqWrite.f k x367000 x367001 x367002 x367003 x367004).bind fun t391=>(if t391.toList = x0.toList then (some (x367000,x367001,x367002,x367003,x367004,true)) else (some (0,(⟨#[]⟩:ByteArray),(⟨#[]⟩:ByteArray),0,(⟨#[]⟩:ByteArray),false)))))
end
def spec_ReqRead.f (k:Nat) (a0:ByteArray):Option (Int × ByteArray × ByteArray × Int × ByteArray × Bool):=(spec_l3Cut.f k a0 32).bind fun t367=>(if 0 < (t367.length:Int) then (spec_ReqRead.l0 k a0 (rdOf ByteArray.empty t367 0) 1 0 (⟨#[]⟩:ByteArray) (⟨#[]⟩:ByteArray) 0 (⟨#[]⟩:ByteArray)) else (none))
set_option maxHeartbeats 40000000 in
set_option maxRecDepth 100000 in
theorem spec_ReqRead.calls (k:Nat) (a0:ByteArray) (r1:Int) (r2:ByteArray) (r3:ByteArray) (r4:Int) (r5:ByteArray) (r6:Bool) (w:World) (h:spec_ReqRead.f k a0 = some (r1,r2,r3,r4,r5,r6)) :
 Calls Tryd.prog 7 #[.string a0] w fun e w'=>e = .returned (.tuple #[.agg #[.int .i64 r1,.string r2,.string r3,.int .i64 r4,.string r5],.bool r6]) ∧ Below w.heap.size w w':=by
 have hu25:=Tryd.underlying25;have HB:=As0.mk (Below.refl w.heap.size w);have H:((spec_l3Cut.f k a0 32).bind fun t367=>(if 0 < (t367.length:Int) then (spec_ReqRead.l0 k a0 (rdOf ByteArray.empty t367 0) 1 0 (⟨#[]⟩:ByteArray) (⟨#[]⟩:ByteArray) 0 (⟨#[]⟩:ByteArray)) else (none))) = some (r1,r2,r3,r4,r5,r6):=h;clear h;replace H:=Option.bind_eq_some_iff.mp H;obtain ⟨t367,A20,H⟩:=H;(try dsimp only at H);have A2:=As0.mk A20;clear A20;by_cases c3:0 < (t367.length:Int)
 · rw [if_pos c3] at H
   have c3b0:decide (0 < (t367.length:Int)) = true:=decide_eq_true c3;have c3b1:decide (0 < t367.length) = true:=decide_eq_true (by omega);clear c3;have H':=As0.mk H;clear H
   go_enter Tryd.func7,Tryd.ntmps7
   go_wp2_with (first|((with_reducible refine gate_dst (N:=2) rfl ?_);(try (refine gate_guard (by rfl) ?_;dsimp only));refine bE 2 #[.int .i64 0,.string ⟨#[]⟩,.string ⟨#[]⟩,.int .i64 0,.string ⟨#[]⟩] 25 ?_;intro gb365 hg w4 hbox hb;have BK365:=As0.mk (hbox);have GW365:=As0.mk ((by rw [hg];exact (bsz (by repeat (first|(with_reducible first|exact HB.out|apply bal|apply pbN|apply bd1)|exact HB.out))):w.heap.size ≤ gb365));have GE365:=GW365;replace HB:=As0.mk (b3 HB.out hb);clear hb hbox hg)|((with_reducible refine gate_dst (N:=4) rfl ?_);(try (refine gate_guard (by rfl) ?_;dsimp only));refine bE 4 #[.int .i64 0,.string ⟨#[]⟩,.string ⟨#[]⟩,.int .i64 0,.string ⟨#[]⟩] 25 ?_;intro gb366 hg w5 hbox hb;have BK366:=As0.mk (hbox);have GW366:=As0.mk ((by rw [hg];exact (bsz (by repeat (first|(with_reducible first|exact HB.out|apply bal|apply pbN|apply bd1|refine bst ?_ GE365.out)|exact HB.out))):w.heap.size ≤ gb366));have GE366:=GW366;replace HB:=As0.mk (bsp (by repeat (first|(with_reducible first|exact HB.out|apply bal|apply pbN|apply bd1|refine bst ?_ GE365.out)|exact HB.out)) hb);have NB365_366:=As0.mk ((by rw [hg];exact Nat.ne_of_lt (blk_lt (g:=gb365) (o:=.cells #[.int .i64 0,.string ⟨#[]⟩,.string ⟨#[]⟩,.int .i64 0,.string ⟨#[]⟩] 25 (0,0)) (by (with_reducible repeat (first|refine bkN ?_ _|refine bkD ?_|refine bkA ?_ _));exact BK365.out)):gb365 ≠ gb366));have NB366_365:=As0.mk (Ne.symm NB365_366.out);replace BK365:=As0.mk (bb hb BK365.out);clear hb hbox hg;have hnb6:=NB366_365.out;have hnc6:=NB365_366.out;obtain ⟨hcz7_0,hcz7_1,hcz7_2,hcz7_3,hcz7_4⟩:=qc5 BK366.out;obtain ⟨hfz7_0,hfz7_1,hfz7_2,hfz7_3,hfz7_4⟩:=qz5 BK366.out)|(refine gL (some 19) Tryd.func20 #[.string a0,.int .u8 32] ?_;(with_reducible refine (spec_l3Cut.calls k a0 32 t367 _ A2.out).mono ?_);rintro e w8 ⟨v368,rfl,ho0,hb⟩;refine ⟨_,rfl,?_⟩;have HO369:=As0.mk (Kd.R_lower ho0 (bsz (by repeat (first|(with_reducible first|exact HB.out|apply bal|apply pbN|apply bd1|refine bst ?_ GE365.out|refine bst ?_ GE366.out)|exact HB.out))));replace BK365:=As0.mk (blk_below (g:=gb365) (o:=.cells #[.int .i64 0,.string ⟨#[]⟩,.string ⟨#[]⟩,.int .i64 0,.string ⟨#[]⟩] 25 (0,0)) (by (with_reducible repeat (first|refine bkN ?_ _|refine bkD ?_|refine bkA ?_ _));refine blk_far ?_ NB365_366.out _;(with_reducible repeat (first|refine bkN ?_ _|refine bkD ?_|refine bkA ?_ _));refine blk_far ?_ NB365_366.out _;(with_reducible repeat (first|refine bkN ?_ _|refine bkD ?_|refine bkA ?_ _));refine blk_far ?_ NB365_366.out _;(with_reducible repeat (first|refine bkN ?_ _|refine bkD ?_|refine bkA ?_ _));refine blk_far ?_ NB365_366.out _;(with_reducible repeat (first|refine bkN ?_ _|refine bkD ?_|refine bkA ?_ _));refine blk_far ?_ NB365_366.out _;(with_reducible repeat (first|refine bkN ?_ _|refine bkD ?_|refine bkA ?_ _));exact BK365.out) hb);replace BK366:=As0.mk (blk_below (g:=gb366) (o:=.cells #[.int .i64 0,.string ⟨#[]⟩,.string ⟨#[]⟩,.int .i64 0,.string ⟨#[]⟩] 25 (0,0)) (by (with_reducible repeat (first|refine bkN ?_ _|refine bkD ?_|refine bkA ?_ _));refine blk_put (cs:=#[.int .i64 0,.string ⟨#[]⟩,.string ⟨#[]⟩,.int .i64 0,.string ⟨#[]⟩]) ?_ 4 _ rfl;(with_reducible repeat (first|refine bkN ?_ _|refine bkD ?_|refine bkA ?_ _));refine blk_put (cs:=#[.int .i64 0,.string ⟨#[]⟩,.string ⟨#[]⟩,.int .i64 0,.string ⟨#[]⟩]) ?_ 3 _ rfl;(with_reducible repeat (first|refine bkN ?_ _|refine bkD ?_|refine bkA ?_ _));refine blk_put (cs:=#[.int .i64 0,.string ⟨#[]⟩,.string ⟨#[]⟩,.int .i64 0,.string ⟨#[]⟩]) ?_ 2 _ rfl;(with_reducible repeat (first|refine bkN ?_ _|refine bkD ?_|refine bkA ?_ _));refine blk_put (cs:=#[.int .i64 0,.string ⟨#[]⟩,.string ⟨#[]⟩,.int .i64 0,.string ⟨#[]⟩]) ?_ 1 _ rfl;(with_reducible repeat (first|refine bkN ?_ _|refine bkD ?_|refine bkA ?_ _));refine blk_put (cs:=#[.int .i64 0,.string ⟨#[]⟩,.string ⟨#[]⟩,.int .i64 0,.string ⟨#[]⟩]) ?_ 0 _ rfl;(with_reducible repeat (first|refine bkN ?_ _|refine bkD ?_|refine bkA ?_ _));exact BK366.out) hb);replace HB:=As0.mk (bsp (by repeat (first|(with_reducible first|exact HB.out|apply bal|apply pbN|apply bd1|refine bst ?_ GE365.out|refine bst ?_ GE366.out)|exact HB.out)) hb);clear hb ho0;obtain ⟨Ao9,co9,eo9⟩:=Kd.R_slice HO369.out;subst eo9;have p370:0 ≤ (0:Int):=(by omega);have q370:0 < (t367.length:Int):=odt;obtain ⟨ad370,e370,hx370_0⟩:=Kd.at_string (Kd.R_reads' HO369.out).2.2 0 p370 q370;cases e370;have qi370:(0 < t367.length) = True:=eq_true (by omega);(try rw [show ((0:Int)).toNat = 0 from rfl] at hx370_0);(try rw [Addr.add_zero'] at hx370_0);replace p370:=eq_true p370;replace q370:=eq_true q370))
   show _;go_loopg [6] k (fun kq v6 w'=>∃ (x6_1:Int) (x367000_1:Int),v6 = .int .i64 x6_1 ∧ As0 (spec_ReqRead.l0 kq a0 (rdOf ByteArray.empty t367 0) x6_1 x367000_1 (⟨#[]⟩:ByteArray) (⟨#[]⟩:ByteArray) 0 (⟨#[]⟩:ByteArray) = some (r1,r2,r3,r4,r5,r6)) ∧ As0 (kq ≤ k) ∧ As0 (w'.heap[gb365]? = some (.cells #[.int .i64 0,.string ⟨#[]⟩,.string ⟨#[]⟩,.int .i64 0,.string ⟨#[]⟩] 25 (0,0))) ∧ As0 (w'.heap[gb366]? = some (.cells #[.int .i64 x367000_1,.string ⟨#[]⟩,.string ⟨#[]⟩,.int .i64 0,.string ⟨#[]⟩] 25 (0,0))) ∧ As0 (Below w.heap.size w w'))
   case atStart=>exact ⟨(1),(0),(by first|rfl|(simp;done)|(simp [*];done)),H',⟨Nat.le_refl _⟩,⟨by (with_reducible repeat (first|refine bkN ?_ _|refine bkD ?_|refine bkA ?_ _));exact BK365.out⟩,⟨by (with_reducible repeat (first|refine bkN ?_ _|refine bkD ?_|refine bkA ?_ _));exact BK366.out⟩,⟨by repeat (first|(with_reducible first|exact HB.out|apply bal|apply pbN|apply bd1|refine bst ?_ GE365.out|refine bst ?_ GE366.out)|exact HB.out)⟩⟩
   case round=>
    clear H'
    try clear c2
    try clear p2
    try clear c3
    try clear c3b0
    try clear c3b1
    try clear p3
    try clear q3
    try clear hx3
    try clear qi3
    try clear c6
    try clear c7
    try clear hcz7_0
    try clear hcz7_1
    try clear hcz7_2
    try clear hcz7_3
    try clear hcz7_4
    try clear hfz7_0
    try clear hfz7_1
    try clear hfz7_2
    try clear hfz7_3
    try clear hfz7_4
    try clear hx370_0
    try clear p370
    try clear q370
    obtain ⟨x6_1,x367000_1,rfl,HA,HK1,BK365,BK366,HB⟩:=hrel
    cases gk with
    |zero=>exact absurd HA.out (by simp [spec_ReqRead.l0])
    |succ k1=>
     have H:=HA.out;clear HA;simp only [spec_ReqRead.l0] at H;by_cases c10:x6_1 ≤ 12
     · rw [if_pos c10] at H
       have c10b0:decide (x6_1 ≤ 12) = true:=decide_eq_true c10;clear c10;replace H:=Option.bind_eq_some_iff.mp H;obtain ⟨t371,A110,H⟩:=H;(try dsimp only at H);have A11:=As0.mk A110;clear A110;by_cases c12:0 ≤ x6_1
       · rw [if_pos c12] at H
         have c12b0:decide (0 ≤ x6_1) = true:=decide_eq_true c12;clear c12;by_cases c13:x6_1 < (t371.length:Int)
         · rw [if_pos c13] at H
           have c13b0:decide (x6_1 < (t371.length:Int)) = true:=decide_eq_true c13;clear c13;by_cases c14:(rdOf ByteArray.empty t371 x6_1).toList = (rdOf ByteArray.empty t367 0).toList
           · rw [if_pos c14] at H
             have c14b0:((rdOf ByteArray.empty t371 x6_1).toList == (rdOf ByteArray.empty t367 0).toList) = true:=beq_iff_eq.mpr c14;have c14b1:((rdOf ByteArray.empty t371 x6_1).toList != (rdOf ByteArray.empty t367 0).toList) = false:=bne_eq_false_iff_eq.mpr c14;clear c14;have H':=As0.mk H;clear H
             go_wp2_with (first|(refine gL (some 26) Tryd.func21 #[] ?_;(with_reducible refine (spec_l9Words.calls  t371 _ A11.out).mono ?_);rintro e w15 ⟨v372,rfl,ho0,hb⟩;refine ⟨_,rfl,?_⟩;have HO373:=As0.mk (Kd.R_lower ho0 (bsz (by repeat (first|(with_reducible first|exact HB.out|apply bal|apply pbN|apply bd1|refine bst ?_ GE365.out|refine bst ?_ GE366.out)|exact HB.out))));replace BK365:=As0.mk (bb hb BK365.out);replace BK366:=As0.mk (bb hb BK366.out);replace HB:=As0.mk (bsp (by repeat (first|(with_reducible first|exact HB.out|apply bal|apply pbN|apply bd1|refine bst ?_ GE365.out|refine bst ?_ GE366.out)|exact HB.out)) hb);clear hb ho0;obtain ⟨Ao16,co16,eo16⟩:=Kd.R_slice HO373.out;subst eo16;have p374:0 ≤ (x6_1:Int):=odt;have q374:x6_1 < (t371.length:Int):=odt;obtain ⟨ad374,e374,hx374_0⟩:=Kd.at_string (Kd.R_reads' HO373.out).2.2 x6_1 p374 q374;cases e374;replace p374:=eq_true p374;replace q374:=eq_true q374;have hnb17:=NB366_365.out;have hnc17:=NB365_366.out;obtain ⟨hcz18_0,hcz18_1,hcz18_2,hcz18_3,hcz18_4⟩:=qc5 BK366.out;obtain ⟨hfz18_0,hfz18_1,hfz18_2,hfz18_3,hfz18_4⟩:=qz5 BK366.out))
             show _;go_roundg k1
             case measure=>have:=HK1.out;omega
             case rel=>exact ⟨(wrap64 (x6_1 + 1)),(x6_1),(by first|rfl|(simp;done)|(simp [*];done)),H',⟨by have:=HK1.out;omega⟩,⟨by (with_reducible repeat (first|refine bkN ?_ _|refine bkD ?_|refine bkA ?_ _));refine blk_far ?_ NB365_366.out _;(with_reducible repeat (first|refine bkN ?_ _|refine bkD ?_|refine bkA ?_ _));exact BK365.out⟩,⟨by (with_reducible repeat (first|refine bkN ?_ _|refine bkD ?_|refine bkA ?_ _));refine blk_put (cs:=#[.int .i64 x367000_1,.string ⟨#[]⟩,.string ⟨#[]⟩,.int .i64 0,.string ⟨#[]⟩]) ?_ 0 _ rfl;(with_reducible repeat (first|refine bkN ?_ _|refine bkD ?_|refine bkA ?_ _));exact BK366.out⟩,⟨by repeat (first|(with_reducible first|exact HB.out|apply bal|apply pbN|apply bd1|refine bst ?_ GE365.out|refine bst ?_ GE366.out)|exact HB.out)⟩⟩
           · rw [if_neg c14] at H
             have c14b0:((rdOf ByteArray.empty t371 x6_1).toList == (rdOf ByteArray.empty t367 0).toList) = false:=beq_eq_false_iff_ne.mpr c14;have c14b1:((rdOf ByteArray.empty t371 x6_1).toList != (rdOf ByteArray.empty t367 0).toList) = true:=bne_iff_ne.mpr c14;have H':=As0.mk H;clear H
             go_wp2_with (first|(refine gL (some 26) Tryd.func21 #[] ?_;(with_reducible refine (spec_l9Words.calls  t371 _ A11.out).mono ?_);rintro e w19 ⟨v372,rfl,ho0,hb⟩;refine ⟨_,rfl,?_⟩;have HO373:=As0.mk (Kd.R_lower ho0 (bsz (by repeat (first|(with_reducible first|exact HB.out|apply bal|apply pbN|apply bd1|refine bst ?_ GE365.out|refine bst ?_ GE366.out)|exact HB.out))));replace BK365:=As0.mk (bb hb BK365.out);replace BK366:=As0.mk (bb hb BK366.out);replace HB:=As0.mk (bsp (by repeat (first|(with_reducible first|exact HB.out|apply bal|apply pbN|apply bd1|refine bst ?_ GE365.out|refine bst ?_ GE366.out)|exact HB.out)) hb);clear hb ho0;obtain ⟨Ao20,co20,eo20⟩:=Kd.R_slice HO373.out;subst eo20;have p374:0 ≤ (x6_1:Int):=odt;have q374:x6_1 < (t371.length:Int):=odt;obtain ⟨ad374,e374,hx374_0⟩:=Kd.at_string (Kd.R_reads' HO373.out).2.2 x6_1 p374 q374;cases e374;replace p374:=eq_true p374;replace q374:=eq_true q374))
             show _;go_roundg k1
             case measure=>have:=HK1.out;omega
             case rel=>exact ⟨(wrap64 (x6_1 + 1)),(x367000_1),(by first|rfl|(simp;done)|(simp [*];done)),H',⟨by have:=HK1.out;omega⟩,⟨by (with_reducible repeat (first|refine bkN ?_ _|refine bkD ?_|refine bkA ?_ _));exact BK365.out⟩,⟨by (with_reducible repeat (first|refine bkN ?_ _|refine bkD ?_|refine bkA ?_ _));exact BK366.out⟩,⟨by repeat (first|(with_reducible first|exact HB.out|apply bal|apply pbN|apply bd1|refine bst ?_ GE365.out|refine bst ?_ GE366.out)|exact HB.out)⟩⟩
         · rw [if_neg c13] at H
           exact absurd H (by simp)
       · rw [if_neg c12] at H
         exact absurd H (by simp)
     · rw [if_neg c10] at H
       have c10b0:decide (x6_1 ≤ 12) = false:=decide_eq_false c10;clear c10;replace H:=Option.bind_eq_some_iff.mp H;obtain ⟨⟨t375,t376,t377⟩,A210,H⟩:=H;(try dsimp only at H);have A21:=As0.mk A210;clear A210;have HC22:=As0.mk H;clear H;have hnb23:=NB366_365.out;have hnc23:=NB365_366.out;obtain ⟨hcz24_0,hcz24_1,hcz24_2,hcz24_3,hcz24_4⟩:=qc5 BK366.out;obtain ⟨hfz24_0,hfz24_1,hfz24_2,hfz24_3,hfz24_4⟩:=qz5 BK366.out
       go_upto_if 41 with (first|(refine gL (some 37) Tryd.func22 #[.int .i64 x367000_1] ?_;(with_reducible refine (spec_l9Has.calls k1 x367000_1 t375 t376 t377 _ A21.out).mono ?_);rintro e w' ⟨rfl,⟨nd,rfl⟩⟩;refine ⟨_,rfl,?_⟩))
       (try simp only [Act.put,sA,sZ,sS])
       show _;go_cut [10] (fun v10 wc=>∃ (kq:Nat) (x10_21:Int),v10 = .int .i64 x10_21 ∧ As0 (spec_ReqRead.j1 kq a0 t375 t376 t377 x10_21 x367000_1 (⟨#[]⟩:ByteArray) (⟨#[]⟩:ByteArray) 0 (⟨#[]⟩:ByteArray) = some (r1,r2,r3,r4,r5,r6)) ∧ As0 (kq ≤ k1) ∧ As0 (wc.heap[gb365]? = some (.cells #[.int .i64 0,.string ⟨#[]⟩,.string ⟨#[]⟩,.int .i64 0,.string ⟨#[]⟩] 25 (0,0))) ∧ As0 (wc.heap[gb366]? = some (.cells #[.int .i64 x367000_1,.string ⟨#[]⟩,.string ⟨#[]⟩,.int .i64 0,.string ⟨#[]⟩] 25 (0,0))) ∧ As0 (Below w.heap.size w wc))
       case first=>
        have H:=HC22.out;clear HC22;by_cases c25:t375 = true
        · subst c25
          have H1:(spec_ReqRead.j1 k1 a0 true t376 t377 (2 + 1) x367000_1 (⟨#[]⟩:ByteArray) (⟨#[]⟩:ByteArray) 0 (⟨#[]⟩:ByteArray)) = some (r1,r2,r3,r4,r5,r6):=by rw [if_pos rfl] at H;exact H
          clear H;have H:=H1;clear H1;have H':=As0.mk H;clear H
          go_wp2
          show _;go_meet
          case rel=>exact ⟨_,(2 + 1),(by first|rfl|(simp;done)|(simp [*];done)),H',⟨by have:=HK1.out;first|omega|exact Nat.le_refl _⟩,⟨by (with_reducible repeat (first|refine bkN ?_ _|refine bkD ?_|refine bkA ?_ _));exact BK365.out⟩,⟨by (with_reducible repeat (first|refine bkN ?_ _|refine bkD ?_|refine bkA ?_ _));exact BK366.out⟩,⟨by repeat (first|(with_reducible first|exact HB.out|apply bal|apply pbN|apply bd1|refine bst ?_ GE365.out|refine bst ?_ GE366.out)|exact HB.out)⟩⟩
        · replace c25:=Bool.eq_false_iff.mpr c25
          subst c25;have H1:(spec_ReqRead.j1 k1 a0 false t376 t377 2 x367000_1 (⟨#[]⟩:ByteArray) (⟨#[]⟩:ByteArray) 0 (⟨#[]⟩:ByteArray)) = some (r1,r2,r3,r4,r5,r6):=by rw [if_neg (show ¬ (false = true) by decide)] at H;exact H
          clear H;have H:=H1;clear H1;have H':=As0.mk H;clear H
          go_wp2
          show _;go_meet
          case rel=>exact ⟨_,(2),(by first|rfl|(simp;done)|(simp [*];done)),H',⟨by have:=HK1.out;first|omega|exact Nat.le_refl _⟩,⟨by (with_reducible repeat (first|refine bkN ?_ _|refine bkD ?_|refine bkA ?_ _));exact BK365.out⟩,⟨by (with_reducible repeat (first|refine bkN ?_ _|refine bkD ?_|refine bkA ?_ _));exact BK366.out⟩,⟨by repeat (first|(with_reducible first|exact HB.out|apply bal|apply pbN|apply bd1|refine bst ?_ GE365.out|refine bst ?_ GE366.out)|exact HB.out)⟩⟩
       case rest=>
        clear HC22
        try clear c1
        try clear c2
        try clear p2
        try clear c3
        try clear c3b0
        try clear c3b1
        try clear p3
        try clear q3
        try clear hx3
        try clear qi3
        try clear c6
        try clear p6
        try clear c7
        try clear c10
        try clear c10b0
        try clear c12
        try clear c12b0
        try clear c13
        try clear c13b0
        try clear c14
        try clear c14b0
        try clear c14b1
        try clear c17
        try clear c20
        try clear c21
        try clear c22
        try clear c23
        try clear c25
        try clear hcz18_0
        try clear hcz18_1
        try clear hcz18_2
        try clear hcz18_3
        try clear hcz18_4
        try clear hcz24_0
        try clear hcz24_1
        try clear hcz24_2
        try clear hcz24_3
        try clear hcz24_4
        try clear hcz7_0
        try clear hcz7_1
        try clear hcz7_2
        try clear hcz7_3
        try clear hcz7_4
        try clear hfz18_0
        try clear hfz18_1
        try clear hfz18_2
        try clear hfz18_3
        try clear hfz18_4
        try clear hfz24_0
        try clear hfz24_1
        try clear hfz24_2
        try clear hfz24_3
        try clear hfz24_4
        try clear hfz7_0
        try clear hfz7_1
        try clear hfz7_2
        try clear hfz7_3
        try clear hfz7_4
        try clear hx370_0
        try clear hx374_0
        try clear p2
        try clear p3
        try clear p370
        try clear p374
        try clear q3
        try clear q370
        try clear q374
        obtain ⟨kq,x10_21,rfl,HA,HJ21,BK365,BK366,HB⟩:=hcut
        cases kq with
        |zero=>exact absurd HA.out (by simp [spec_ReqRead.j1])
        |succ kj21=>
         have H:=HA.out;clear HA;simp only [spec_ReqRead.j1] at H;have HC26:=As0.mk H;clear H
         go_upto_if 44 with (fail)
         show _;go_cut [10] (fun v10 wc=>∃ (kq:Nat) (x10_25:Int),v10 = .int .i64 x10_25 ∧ As0 (spec_ReqRead.j2 kq a0 t375 t376 t377 x10_25 x367000_1 (⟨#[]⟩:ByteArray) (⟨#[]⟩:ByteArray) 0 (⟨#[]⟩:ByteArray) = some (r1,r2,r3,r4,r5,r6)) ∧ As0 (kq ≤ kj21) ∧ As0 (wc.heap[gb365]? = some (.cells #[.int .i64 0,.string ⟨#[]⟩,.string ⟨#[]⟩,.int .i64 0,.string ⟨#[]⟩] 25 (0,0))) ∧ As0 (wc.heap[gb366]? = some (.cells #[.int .i64 x367000_1,.string ⟨#[]⟩,.string ⟨#[]⟩,.int .i64 0,.string ⟨#[]⟩] 25 (0,0))) ∧ As0 (Below w.heap.size w wc))
         case first=>
          have H:=HC26.out;clear HC26;by_cases c27:t376 = true
          · subst c27
            have H1:(spec_ReqRead.j2 kj21 a0 t375 true t377 (wrap64 (x10_21 + 1)) x367000_1 (⟨#[]⟩:ByteArray) (⟨#[]⟩:ByteArray) 0 (⟨#[]⟩:ByteArray)) = some (r1,r2,r3,r4,r5,r6):=by rw [if_pos rfl] at H;exact H
            clear H;have H:=H1;clear H1;have H':=As0.mk H;clear H
            go_wp2
            show _;go_meet
            case rel=>exact ⟨_,(wrap64 (x10_21 + 1)),(by first|rfl|(simp;done)|(simp [*];done)),H',⟨by have:=HK1.out;have:=HJ21.out;first|omega|exact Nat.le_refl _⟩,⟨by (with_reducible repeat (first|refine bkN ?_ _|refine bkD ?_|refine bkA ?_ _));exact BK365.out⟩,⟨by (with_reducible repeat (first|refine bkN ?_ _|refine bkD ?_|refine bkA ?_ _));exact BK366.out⟩,⟨by repeat (first|(with_reducible first|exact HB.out|apply bal|apply pbN|apply bd1|refine bst ?_ GE365.out|refine bst ?_ GE366.out)|exact HB.out)⟩⟩
          · replace c27:=Bool.eq_false_iff.mpr c27
            subst c27;have H1:(spec_ReqRead.j2 kj21 a0 t375 false t377 x10_21 x367000_1 (⟨#[]⟩:ByteArray) (⟨#[]⟩:ByteArray) 0 (⟨#[]⟩:ByteArray)) = some (r1,r2,r3,r4,r5,r6):=by rw [if_neg (show ¬ (false = true) by decide)] at H;exact H
            clear H;have H:=H1;clear H1;have H':=As0.mk H;clear H
            go_wp2
            show _;go_meet
            case rel=>exact ⟨_,(x10_21),(by first|rfl|(simp;done)|(simp [*];done)),H',⟨by have:=HK1.out;have:=HJ21.out;first|omega|exact Nat.le_refl _⟩,⟨by (with_reducible repeat (first|refine bkN ?_ _|refine bkD ?_|refine bkA ?_ _));exact BK365.out⟩,⟨by (with_reducible repeat (first|refine bkN ?_ _|refine bkD ?_|refine bkA ?_ _));exact BK366.out⟩,⟨by repeat (first|(with_reducible first|exact HB.out|apply bal|apply pbN|apply bd1|refine bst ?_ GE365.out|refine bst ?_ GE366.out)|exact HB.out)⟩⟩
         case rest=>
          clear HC26
          try clear c1
          try clear c2
          try clear p2
          try clear c3
          try clear c3b0
          try clear c3b1
          try clear p3
          try clear q3
          try clear hx3
          try clear qi3
          try clear c6
          try clear p6
          try clear c7
          try clear c10
          try clear c10b0
          try clear c12
          try clear c12b0
          try clear c13
          try clear c13b0
          try clear c14
          try clear c14b0
          try clear c14b1
          try clear c17
          try clear c20
          try clear c21
          try clear c22
          try clear c23
          try clear c25
          try clear c27
          try clear hcz18_0
          try clear hcz18_1
          try clear hcz18_2
          try clear hcz18_3
          try clear hcz18_4
          try clear hcz24_0
          try clear hcz24_1
          try clear hcz24_2
          try clear hcz24_3
          try clear hcz24_4
          try clear hcz7_0
          try clear hcz7_1
          try clear hcz7_2
          try clear hcz7_3
          try clear hcz7_4
          try clear hfz18_0
          try clear hfz18_1
          try clear hfz18_2
          try clear hfz18_3
          try clear hfz18_4
          try clear hfz24_0
          try clear hfz24_1
          try clear hfz24_2
          try clear hfz24_3
          try clear hfz24_4
          try clear hfz7_0
          try clear hfz7_1
          try clear hfz7_2
          try clear hfz7_3
          try clear hfz7_4
          try clear hx370_0
          try clear hx374_0
          try clear p2
          try clear p3
          try clear p370
          try clear p374
          try clear p6
          try clear q3
          try clear q370
          try clear q374
          obtain ⟨kq,x10_25,rfl,HA,HJ25,BK365,BK366,HB⟩:=hcut
          cases kq with
          |zero=>exact absurd HA.out (by simp [spec_ReqRead.j2])
          |succ kj25=>
           have H:=HA.out;clear HA;simp only [spec_ReqRead.j2] at H;replace H:=Option.bind_eq_some_iff.mp H;obtain ⟨t378,A280,H⟩:=H;(try dsimp only at H);have A28:=As0.mk A280;clear A280;have HC29:=As0.mk H;clear H
           show _;go_upto_region 15 with (first|(refine gL (some 48) Tryd.func20 #[.string a0,.int .u8 32] ?_;(with_reducible refine (spec_l3Cut.calls kj25 a0 32 t378 _ A28.out).mono ?_);rintro e w30 ⟨v379,rfl,ho0,hb⟩;refine ⟨_,rfl,?_⟩;have n0_:=As0.mk (Kd.R_lower ho0 (bsz (by repeat (first|(with_reducible first|exact HB.out|apply bal|apply pbN|apply bd1|refine bst ?_ GE365.out|refine bst ?_ GE366.out)|exact HB.out))));have n1_:=As0.mk (bb hb BK365.out);have n2_:=As0.mk (bb hb BK366.out);have n3_:=As0.mk (bsp (by repeat (first|(with_reducible first|exact HB.out|apply bal|apply pbN|apply bd1|refine bst ?_ GE365.out|refine bst ?_ GE366.out)|exact HB.out)) hb);clear BK365;clear BK366;clear HB;have HO380:=n0_;have BK365:=n1_;have BK366:=n2_;have HB:=n3_;clear n0_ n1_ n2_ n3_;(try clear hb);(try clear hb2);(try clear hk);(try clear hi);(try clear ho0)))
           (try simp only [Act.put,sA,sZ,sS])
           show _;go_cut [57] (fun v57 wc=>∃ (kq:Nat) (x57_28:Bool),v57 = .bool x57_28 ∧ As0 (spec_ReqRead.j3 kq a0 t375 t376 t377 x10_25 t378 x57_28 x367000_1 (⟨#[]⟩:ByteArray) (⟨#[]⟩:ByteArray) 0 (⟨#[]⟩:ByteArray) = some (r1,r2,r3,r4,r5,r6)) ∧ As0 (kq ≤ kj25) ∧ As0 (Kd.R Kd.string 9 wc w.heap.size (fun _=>True) v379 t378) ∧ As0 (wc.heap[gb365]? = some (.cells #[.int .i64 0,.string ⟨#[]⟩,.string ⟨#[]⟩,.int .i64 0,.string ⟨#[]⟩] 25 (0,0))) ∧ As0 (wc.heap[gb366]? = some (.cells #[.int .i64 x367000_1,.string ⟨#[]⟩,.string ⟨#[]⟩,.int .i64 0,.string ⟨#[]⟩] 25 (0,0))) ∧ As0 (Below w.heap.size w wc))
           case first=>
            have H:=HC29.out;clear HC29;by_cases c31:x367000_1 = 12
            · rw [if_pos c31] at H
              have c31b0:(x367000_1 == 12) = true:=beq_iff_eq.mpr c31;have c31b1:(x367000_1 != 12) = false:=bne_eq_false_iff_eq.mpr c31;clear c31
              (first|rw [c31b0]|(simp only [i64_w,i32_w];rw [c31b0])|skip)
              have H':=As0.mk H;clear H;have hnb32:=NB366_365.out;have hnc32:=NB365_366.out;obtain ⟨hcz33_0,hcz33_1,hcz33_2,hcz33_3,hcz33_4⟩:=qc5 BK366.out;obtain ⟨hfz33_0,hfz33_1,hfz33_2,hfz33_3,hfz33_4⟩:=qz5 BK366.out
              go_wp2
              show _;go_meet
              case rel=>exact ⟨_,(false),(by first|rfl|(simp;done)|(simp [*];done)),H',⟨by have:=HK1.out;have:=HJ21.out;have:=HJ25.out;first|omega|exact Nat.le_refl _⟩,⟨by (with_reducible repeat (first|apply Kd.Ral|apply Kd.RdN|apply Kd.R_drew));exact HO380.out⟩,⟨by (with_reducible repeat (first|refine bkN ?_ _|refine bkD ?_|refine bkA ?_ _));exact BK365.out⟩,⟨by (with_reducible repeat (first|refine bkN ?_ _|refine bkD ?_|refine bkA ?_ _));exact BK366.out⟩,⟨by repeat (first|(with_reducible first|exact HB.out|apply bal|apply pbN|apply bd1|refine bst ?_ GE365.out|refine bst ?_ GE366.out)|exact HB.out)⟩⟩
            · rw [if_neg c31] at H
              have c31b0:(x367000_1 == 12) = false:=beq_eq_false_iff_ne.mpr c31;have c31b1:(x367000_1 != 12) = true:=bne_iff_ne.mpr c31
              (first|rw [c31b0]|(simp only [i64_w,i32_w];rw [c31b0])|skip)
              have H':=As0.mk H;clear H;have hnb34:=NB366_365.out;have hnc34:=NB365_366.out;obtain ⟨hcz35_0,hcz35_1,hcz35_2,hcz35_3,hcz35_4⟩:=qc5 BK366.out;obtain ⟨hfz35_0,hfz35_1,hfz35_2,hfz35_3,hfz35_4⟩:=qz5 BK366.out;obtain ⟨Ao36,co36,eo36⟩:=Kd.R_slice HO380.out;subst eo36
              go_wp2
              show _;go_meet
              case rel=>exact ⟨_,(decide ((t378.length:Int) ≥ x10_25)),(by first|rfl|(simp;done)|(simp [*];done)),H',⟨by have:=HK1.out;have:=HJ21.out;have:=HJ25.out;first|omega|exact Nat.le_refl _⟩,⟨by (with_reducible repeat (first|apply Kd.Ral|apply Kd.RdN|apply Kd.R_drew));exact HO380.out⟩,⟨by (with_reducible repeat (first|refine bkN ?_ _|refine bkD ?_|refine bkA ?_ _));exact BK365.out⟩,⟨by (with_reducible repeat (first|refine bkN ?_ _|refine bkD ?_|refine bkA ?_ _));exact BK366.out⟩,⟨by repeat (first|(with_reducible first|exact HB.out|apply bal|apply pbN|apply bd1|refine bst ?_ GE365.out|refine bst ?_ GE366.out)|exact HB.out)⟩⟩
           case rest=>
            clear HC29
            try clear c1
            try clear c2
            try clear p2
            try clear c3
            try clear c3b0
            try clear c3b1
            try clear p3
            try clear q3
            try clear hx3
            try clear qi3
            try clear c6
            try clear p6
            try clear c7
            try clear c10
            try clear c10b0
            try clear c12
            try clear c12b0
            try clear c13
            try clear c13b0
            try clear c14
            try clear c14b0
            try clear c14b1
            try clear c17
            try clear c20
            try clear c21
            try clear c22
            try clear c23
            try clear c25
            try clear c27
            try clear c31
            try clear c31b0
            try clear c31b1
            try clear c32
            try clear c34
            try clear hcz18_0
            try clear hcz18_1
            try clear hcz18_2
            try clear hcz18_3
            try clear hcz18_4
            try clear hcz24_0
            try clear hcz24_1
            try clear hcz24_2
            try clear hcz24_3
            try clear hcz24_4
            try clear hcz33_0
            try clear hcz33_1
            try clear hcz33_2
            try clear hcz33_3
            try clear hcz33_4
            try clear hcz35_0
            try clear hcz35_1
            try clear hcz35_2
            try clear hcz35_3
            try clear hcz35_4
            try clear hcz7_0
            try clear hcz7_1
            try clear hcz7_2
            try clear hcz7_3
            try clear hcz7_4
            try clear hfz18_0
            try clear hfz18_1
            try clear hfz18_2
            try clear hfz18_3
            try clear hfz18_4
            try clear hfz24_0
            try clear hfz24_1
            try clear hfz24_2
            try clear hfz24_3
            try clear hfz24_4
            try clear hfz33_0
            try clear hfz33_1
            try clear hfz33_2
            try clear hfz33_3
            try clear hfz33_4
            try clear hfz35_0
            try clear hfz35_1
            try clear hfz35_2
            try clear hfz35_3
            try clear hfz35_4
            try clear hfz7_0
            try clear hfz7_1
            try clear hfz7_2
            try clear hfz7_3
            try clear hfz7_4
            try clear hx370_0
            try clear hx374_0
            try clear p2
            try clear p3
            try clear p370
            try clear p374
            try clear p6
            try clear q3
            try clear q370
            try clear q374
            obtain ⟨kq,x57_28,rfl,HA,HJ28,HO_11,BK365,BK366,HB⟩:=hcut
            cases kq with
            |zero=>exact absurd HA.out (by simp [spec_ReqRead.j3])
            |succ kj28=>
             have H:=HA.out;clear HA;simp only [spec_ReqRead.j3] at H;by_cases c37:x57_28 = true
             · subst c37
               have H1:(if t377 = true then ((spec_l7Words.f kj28 a0 x10_25).bind fun bt381=>(if bt381.2.2 = true then (spec_ReqRead.j4 kj28 a0 t375 t376 t377 bt381.1 bt381.2.1 x367000_1 (⟨#[]⟩:ByteArray) (⟨#[]⟩:ByteArray) 0 (⟨#[]⟩:ByteArray)) else (some (0,(⟨#[]⟩:ByteArray),(⟨#[]⟩:ByteArray),0,(⟨#[]⟩:ByteArray),false)))) else (spec_ReqRead.j4 kj28 a0 t375 t376 t377 t378 a0 x367000_1 (⟨#[]⟩:ByteArray) (⟨#[]⟩:ByteArray) 0 (⟨#[]⟩:ByteArray))) = some (r1,r2,r3,r4,r5,r6):=by rw [if_pos rfl] at H;exact H
               clear H;have H:=H1;clear H1;have HC38:=As0.mk H;clear H
               go_upto_if 59 with (fail)
               show _;go_cut [11,12] (fun v11 v12 wc=>∃ (kq:Nat) (x11_37:List ByteArray) (x12_37:ByteArray) (x366000_37:Int) (x366001_37:ByteArray) (x366002_37:ByteArray) (x366003_37:Int) (x366004_37:ByteArray),v12 = .string x12_37 ∧ As0 (spec_ReqRead.j4 kq a0 t375 t376 t377 x11_37 x12_37 x367000_1 (⟨#[]⟩:ByteArray) (⟨#[]⟩:ByteArray) 0 (⟨#[]⟩:ByteArray) = some (r1,r2,r3,r4,r5,r6)) ∧ As0 (kq ≤ kj28) ∧ As0 (Kd.R Kd.string 9 wc w.heap.size (fun _=>True) v11 x11_37) ∧ As0 (wc.heap[gb365]? = some (.cells #[.int .i64 x366000_37,.string x366001_37,.string x366002_37,.int .i64 x366003_37,.string x366004_37] 25 (0,0))) ∧ As0 (wc.heap[gb366]? = some (.cells #[.int .i64 x367000_1,.string ⟨#[]⟩,.string ⟨#[]⟩,.int .i64 0,.string ⟨#[]⟩] 25 (0,0))) ∧ As0 (Below w.heap.size w wc))
               case first=>
                have H:=HC38.out;clear HC38;by_cases c39:t377 = true
                · subst c39
                  have H1:((spec_l7Words.f kj28 a0 x10_25).bind fun bt381=>(if bt381.2.2 = true then (spec_ReqRead.j4 kj28 a0 t375 t376 true bt381.1 bt381.2.1 x367000_1 (⟨#[]⟩:ByteArray) (⟨#[]⟩:ByteArray) 0 (⟨#[]⟩:ByteArray)) else (some (0,(⟨#[]⟩:ByteArray),(⟨#[]⟩:ByteArray),0,(⟨#[]⟩:ByteArray),false)))) = some (r1,r2,r3,r4,r5,r6):=by rw [if_pos rfl] at H;exact H
                  clear H;have H:=H1;clear H1;replace H:=Option.bind_eq_some_iff.mp H;obtain ⟨⟨t381,t382,t383⟩,A400,H⟩:=H;(try dsimp only at H);have A40:=As0.mk A400;clear A400;by_cases c41:t383 = true
                  · subst c41
                    have H1:(spec_ReqRead.j4 kj28 a0 t375 t376 true t381 t382 x367000_1 (⟨#[]⟩:ByteArray) (⟨#[]⟩:ByteArray) 0 (⟨#[]⟩:ByteArray)) = some (r1,r2,r3,r4,r5,r6):=by rw [if_pos rfl] at H;exact H
                    clear H;have H:=H1;clear H1;have H':=As0.mk H;clear H
                    go_wp2_with (first|(refine gL (some 63) Tryd.func23 #[.string a0,.int .i64 x10_25] ?_;(with_reducible refine (spec_l7Words.calls kj28 a0 x10_25 t381 t382 true _ A40.out).mono ?_);rintro e w42 ⟨v384,rfl,ho0,hb⟩;refine ⟨_,rfl,?_⟩;have HO385:=As0.mk (Kd.R_lower (Kd.R_new' ho0 (Kd.R_lt (by (with_reducible repeat (first|apply Kd.Ral|apply Kd.RdN|apply Kd.R_drew));exact HO_11.out))) (bsz (by repeat (first|(with_reducible first|exact HB.out|apply bal|apply pbN|apply bd1|refine bst ?_ GE365.out|refine bst ?_ GE366.out)|exact HB.out))));replace HO_11:=As0.mk (Kd.R_elder' (by (with_reducible repeat (first|apply Kd.Ral|apply Kd.RdN|apply Kd.R_drew));exact HO_11.out) (Kd.R_base ho0) hb);replace BK365:=As0.mk (bb hb BK365.out);replace BK366:=As0.mk (bb hb BK366.out);replace HB:=As0.mk (bsp (by repeat (first|(with_reducible first|exact HB.out|apply bal|apply pbN|apply bd1|refine bst ?_ GE365.out|refine bst ?_ GE366.out)|exact HB.out)) hb);clear hb ho0))
                    show _;go_meet
                    case rel=>exact ⟨_,(t381),(t382),(0),((⟨#[]⟩:ByteArray)),((⟨#[]⟩:ByteArray)),(0),((⟨#[]⟩:ByteArray)),(by first|rfl|(simp;done)|(simp [*];done)),H',⟨by have:=HK1.out;have:=HJ21.out;have:=HJ25.out;have:=HJ28.out;first|omega|exact Nat.le_refl _⟩,⟨by (with_reducible repeat (first|apply Kd.Ral|apply Kd.RdN|apply Kd.R_drew));exact Kd.R_mono HO385.out (fun _ hk=>trivial)⟩,⟨by (with_reducible repeat (first|refine bkN ?_ _|refine bkD ?_|refine bkA ?_ _));exact BK365.out⟩,⟨by (with_reducible repeat (first|refine bkN ?_ _|refine bkD ?_|refine bkA ?_ _));exact BK366.out⟩,⟨by repeat (first|(with_reducible first|exact HB.out|apply bal|apply pbN|apply bd1|refine bst ?_ GE365.out|refine bst ?_ GE366.out)|exact HB.out)⟩⟩
                  · replace c41:=Bool.eq_false_iff.mpr c41
                    subst c41;have H1:(some (0,(⟨#[]⟩:ByteArray),(⟨#[]⟩:ByteArray),0,(⟨#[]⟩:ByteArray),false)) = some (r1,r2,r3,r4,r5,r6):=by rw [if_neg (show ¬ (false = true) by decide)] at H;exact H
                    clear H;have H:=H1;clear H1;simp only [Option.some.injEq,Prod.mk.injEq] at H;obtain ⟨rfl,rfl,rfl,rfl,rfl,rfl⟩:=H
                    go_wp2_with (first|(refine gL (some 63) Tryd.func23 #[.string a0,.int .i64 x10_25] ?_;(with_reducible refine (spec_l7Words.calls kj28 a0 x10_25 t381 t382 false _ A40.out).mono ?_);rintro e w43 ⟨v384,rfl,ho0,hb⟩;refine ⟨_,rfl,?_⟩;have HO385:=As0.mk (Kd.R_lower (Kd.R_new' ho0 (Kd.R_lt (by (with_reducible repeat (first|apply Kd.Ral|apply Kd.RdN|apply Kd.R_drew));exact HO_11.out))) (bsz (by repeat (first|(with_reducible first|exact HB.out|apply bal|apply pbN|apply bd1|refine bst ?_ GE365.out|refine bst ?_ GE366.out)|exact HB.out))));replace HO_11:=As0.mk (Kd.R_elder' (by (with_reducible repeat (first|apply Kd.Ral|apply Kd.RdN|apply Kd.R_drew));exact HO_11.out) (Kd.R_base ho0) hb);replace BK365:=As0.mk (bb hb BK365.out);replace BK366:=As0.mk (bb hb BK366.out);replace HB:=As0.mk (bsp (by repeat (first|(with_reducible first|exact HB.out|apply bal|apply pbN|apply bd1|refine bst ?_ GE365.out|refine bst ?_ GE366.out)|exact HB.out)) hb);clear hb ho0;have hnb44:=NB365_366.out;have hnc44:=NB366_365.out;obtain ⟨hcz45_0,hcz45_1,hcz45_2,hcz45_3,hcz45_4⟩:=qc5 BK365.out;obtain ⟨hfz45_0,hfz45_1,hfz45_2,hfz45_3,hfz45_4⟩:=qz5 BK365.out))
                    refine bodyPost_ret (results_ct rfl _ _ gb365 25 #[.int .i64 0,.string ⟨#[]⟩,.string ⟨#[]⟩,.int .i64 0,.string ⟨#[]⟩] (0,0) _ rfl (by (with_reducible repeat (first|refine bkN ?_ _|refine bkD ?_|refine bkA ?_ _));refine blk_put (cs:=#[.int .i64 0,.string ⟨#[]⟩,.string ⟨#[]⟩,.int .i64 0,.string ⟨#[]⟩]) ?_ 4 _ rfl;(with_reducible repeat (first|refine bkN ?_ _|refine bkD ?_|refine bkA ?_ _));refine blk_put (cs:=#[.int .i64 0,.string ⟨#[]⟩,.string ⟨#[]⟩,.int .i64 0,.string ⟨#[]⟩]) ?_ 3 _ rfl;(with_reducible repeat (first|refine bkN ?_ _|refine bkD ?_|refine bkA ?_ _));refine blk_put (cs:=#[.int .i64 0,.string ⟨#[]⟩,.string ⟨#[]⟩,.int .i64 0,.string ⟨#[]⟩]) ?_ 2 _ rfl;(with_reducible repeat (first|refine bkN ?_ _|refine bkD ?_|refine bkA ?_ _));refine blk_put (cs:=#[.int .i64 0,.string ⟨#[]⟩,.string ⟨#[]⟩,.int .i64 0,.string ⟨#[]⟩]) ?_ 1 _ rfl;(with_reducible repeat (first|refine bkN ?_ _|refine bkD ?_|refine bkA ?_ _));refine blk_put (cs:=#[.int .i64 0,.string ⟨#[]⟩,.string ⟨#[]⟩,.int .i64 0,.string ⟨#[]⟩]) ?_ 0 _ rfl;(with_reducible repeat (first|refine bkN ?_ _|refine bkD ?_|refine bkA ?_ _));exact BK365.out) Tryd.underlying25 rfl (by kernel_rfl)) rfl ?_
                    exact ⟨eW,by repeat (first|(with_reducible first|exact HB.out|apply bal|apply pbN|apply bd1|refine bst ?_ GE365.out|refine bst ?_ GE366.out)|exact HB.out)⟩
                · replace c39:=Bool.eq_false_iff.mpr c39
                  subst c39;have H1:(spec_ReqRead.j4 kj28 a0 t375 t376 false t378 a0 x367000_1 (⟨#[]⟩:ByteArray) (⟨#[]⟩:ByteArray) 0 (⟨#[]⟩:ByteArray)) = some (r1,r2,r3,r4,r5,r6):=by rw [if_neg (show ¬ (false = true) by decide)] at H;exact H
                  clear H;have H:=H1;clear H1;have H':=As0.mk H;clear H
                  go_wp2
                  show _;go_meet
                  case rel=>exact ⟨_,(t378),(a0),(0),((⟨#[]⟩:ByteArray)),((⟨#[]⟩:ByteArray)),(0),((⟨#[]⟩:ByteArray)),(by first|rfl|(simp;done)|(simp [*];done)),H',⟨by have:=HK1.out;have:=HJ21.out;have:=HJ25.out;have:=HJ28.out;first|omega|exact Nat.le_refl _⟩,⟨by (with_reducible repeat (first|apply Kd.Ral|apply Kd.RdN|apply Kd.R_drew));exact HO_11.out⟩,⟨by (with_reducible repeat (first|refine bkN ?_ _|refine bkD ?_|refine bkA ?_ _));exact BK365.out⟩,⟨by (with_reducible repeat (first|refine bkN ?_ _|refine bkD ?_|refine bkA ?_ _));exact BK366.out⟩,⟨by repeat (first|(with_reducible first|exact HB.out|apply bal|apply pbN|apply bd1|refine bst ?_ GE365.out|refine bst ?_ GE366.out)|exact HB.out)⟩⟩
               case rest=>
                clear HC38
                try clear c1
                try clear c2
                try clear p2
                try clear c3
                try clear c3b0
                try clear c3b1
                try clear p3
                try clear q3
                try clear hx3
                try clear qi3
                try clear c4
                try clear c6
                try clear p6
                try clear c7
                try clear c10
                try clear c10b0
                try clear c12
                try clear c12b0
                try clear c13
                try clear c13b0
                try clear c14
                try clear c14b0
                try clear c14b1
                try clear c17
                try clear c20
                try clear c21
                try clear c22
                try clear c23
                try clear c25
                try clear c27
                try clear c31
                try clear c31b0
                try clear c31b1
                try clear c32
                try clear c34
                try clear c37
                try clear p37
                try clear q37
                try clear hx37
                try clear qi37
                try clear c39
                try clear c41
                try clear c44
                try clear hcz18_0
                try clear hcz18_1
                try clear hcz18_2
                try clear hcz18_3
                try clear hcz18_4
                try clear hcz24_0
                try clear hcz24_1
                try clear hcz24_2
                try clear hcz24_3
                try clear hcz24_4
                try clear hcz33_0
                try clear hcz33_1
                try clear hcz33_2
                try clear hcz33_3
                try clear hcz33_4
                try clear hcz35_0
                try clear hcz35_1
                try clear hcz35_2
                try clear hcz35_3
                try clear hcz35_4
                try clear hcz45_0
                try clear hcz45_1
                try clear hcz45_2
                try clear hcz45_3
                try clear hcz45_4
                try clear hcz7_0
                try clear hcz7_1
                try clear hcz7_2
                try clear hcz7_3
                try clear hcz7_4
                try clear hfz18_0
                try clear hfz18_1
                try clear hfz18_2
                try clear hfz18_3
                try clear hfz18_4
                try clear hfz24_0
                try clear hfz24_1
                try clear hfz24_2
                try clear hfz24_3
                try clear hfz24_4
                try clear hfz33_0
                try clear hfz33_1
                try clear hfz33_2
                try clear hfz33_3
                try clear hfz33_4
                try clear hfz35_0
                try clear hfz35_1
                try clear hfz35_2
                try clear hfz35_3
                try clear hfz35_4
                try clear hfz45_0
                try clear hfz45_1
                try clear hfz45_2
                try clear hfz45_3
                try clear hfz45_4
                try clear hfz7_0
                try clear hfz7_1
                try clear hfz7_2
                try clear hfz7_3
                try clear hfz7_4
                try clear hx370_0
                try clear hx374_0
                try clear p2
                try clear p3
                try clear p370
                try clear p374
                try clear p6
                try clear q3
                try clear q370
                try clear q374
                obtain ⟨kq,x11_37,x12_37,x366000_37,x366001_37,x366002_37,x366003_37,x366004_37,rfl,HA,HJ37,HO_11,BK365,BK366,HB⟩:=hcut
                cases kq with
                |zero=>exact absurd HA.out (by simp [spec_ReqRead.j4])
                |succ kj37=>
                 have H:=HA.out;clear HA;simp only [spec_ReqRead.j4] at H;by_cases c46:1 < (x11_37.length:Int)
                 · rw [if_pos c46] at H
                   have c46b0:decide (1 < (x11_37.length:Int)) = true:=decide_eq_true c46;have c46b1:decide (1 < x11_37.length) = true:=decide_eq_true (by omega);clear c46;have HC47:=As0.mk H;clear H;obtain ⟨Ao48,co48,eo48⟩:=Kd.R_slice HO_11.out;subst eo48;have p386:0 ≤ (1:Int):=(by omega);have q386:1 < (x11_37.length:Int):=odt;obtain ⟨ad386,e386,hx386_0⟩:=Kd.at_string (Kd.R_reads' HO_11.out).2.2 1 p386 q386
                   cases e386
                   (try simp only [show (1:Int).toNat = 1 from rfl,Nat.reduceMul,Nat.reduceEqDiff,Go.Addr.add,↓reduceIte] at hx386_0)
                   have qi386:(1 < x11_37.length) = True:=eq_true (by omega)
                   (try rw [show ((1:Int)).toNat = 1 from rfl] at hx386_0)
                   replace p386:=eq_true p386;replace q386:=eq_true q386;have hnb49:=NB366_365.out;have hnc49:=NB365_366.out;obtain ⟨hcz50_0,hcz50_1,hcz50_2,hcz50_3,hcz50_4⟩:=qc5 BK366.out;obtain ⟨hfz50_0,hfz50_1,hfz50_2,hfz50_3,hfz50_4⟩:=qz5 BK366.out
                   go_upto_if 76 with (fail)
                   show _;go_cut [16] (fun v16 wc=>∃ (kq:Nat) (x16_46:Int) (x367002_46:ByteArray),v16 = .int .i64 x16_46 ∧ As0 (spec_ReqRead.j5 kq a0 t376 t377 x11_37 x12_37 x16_46 x367000_1 (rdOf ByteArray.empty x11_37 1) x367002_46 0 (⟨#[]⟩:ByteArray) = some (r1,r2,r3,r4,r5,r6)) ∧ As0 (kq ≤ kj37) ∧ As0 (Kd.R Kd.string 9 wc w.heap.size (fun _=>True) (.slice (some ad386) x11_37.length co48) x11_37) ∧ As0 (wc.heap[gb365]? = some (.cells #[.int .i64 x366000_37,.string x366001_37,.string x366002_37,.int .i64 x366003_37,.string x366004_37] 25 (0,0))) ∧ As0 (wc.heap[gb366]? = some (.cells #[.int .i64 x367000_1,.string (rdOf ByteArray.empty x11_37 1),.string x367002_46,.int .i64 0,.string ⟨#[]⟩] 25 (0,0))) ∧ As0 (Below w.heap.size w wc))
                   case first=>
                    have H:=HC47.out;clear HC47;by_cases c51:t375 = true
                    · subst c51
                      have H1:(if 2 < (x11_37.length:Int) then (spec_ReqRead.j5 kj37 a0 t376 t377 x11_37 x12_37 (2 + 1) x367000_1 (rdOf ByteArray.empty x11_37 1) (rdOf ByteArray.empty x11_37 2) 0 (⟨#[]⟩:ByteArray)) else (none)) = some (r1,r2,r3,r4,r5,r6):=by rw [if_pos rfl] at H;exact H
                      clear H;have H:=H1;clear H1;by_cases c52:2 < (x11_37.length:Int)
                      · rw [if_pos c52] at H
                        have c52b0:decide (2 < (x11_37.length:Int)) = true:=decide_eq_true c52;have c52b1:decide (2 < x11_37.length) = true:=decide_eq_true (by omega);clear c52
                        (first|rw [c52b0]|(simp only [i64_w,i32_w];rw [c52b0])|skip)
                        have H':=As0.mk H;clear H;have p387:0 ≤ (2:Int):=(by omega);have q387:2 < (x11_37.length:Int):=odt;obtain ⟨ad387,e387,hx387_0⟩:=Kd.at_string (Kd.R_reads' HO_11.out).2.2 2 p387 q387;obtain rfl:ad386 = ad387:=(by injection e387)
                        (try simp only [show (2:Int).toNat = 2 from rfl,Nat.reduceMul,Nat.reduceEqDiff,Go.Addr.add,↓reduceIte] at hx387_0)
                        have qi387:(2 < x11_37.length) = True:=eq_true (by omega)
                        (try rw [show ((2:Int)).toNat = 2 from rfl] at hx387_0)
                        have hn387_0:ad386.block ≠ gb366:=Kd.own_blk (Kd.R_ne HO_11.out BK366.out (by decide));replace hx387_0:=(cell_far (p:=⟨gb366,1,none⟩) (by first|exact ab hn387_0|exact hn387_0) (.string (rdOf ByteArray.empty x11_37 1))).trans hx387_0;clear hn387_0;replace p387:=eq_true p387;replace q387:=eq_true q387;have hnb53:=NB366_365.out;have hnc53:=NB365_366.out;obtain ⟨hcz54_0,hcz54_1,hcz54_2,hcz54_3,hcz54_4⟩:=qc5 BK366.out;obtain ⟨hfz54_0,hfz54_1,hfz54_2,hfz54_3,hfz54_4⟩:=qz5 BK366.out
                        go_wp2
                        show _;go_meet
                        case rel=>exact ⟨_,(2 + 1),(rdOf ByteArray.empty x11_37 2),(by first|rfl|(simp;done)|(simp [*];done)),H',⟨by have:=HK1.out;have:=HJ21.out;have:=HJ25.out;have:=HJ28.out;have:=HJ37.out;first|omega|exact Nat.le_refl _⟩,⟨by (with_reducible repeat (first|apply Kd.Ral|apply Kd.RdN|apply Kd.R_drew));exact Kd.R_mono (Kd.R_far (p:=⟨gb366,2,none⟩) (Kd.R_far (p:=⟨gb366,1,none⟩) (Kd.R_types HO_11.out BK366.out (by decide)) (fun _ hk=>hk.2) (.string (rdOf ByteArray.empty x11_37 1))) (fun _ hk=>hk.2) (.string (rdOf ByteArray.empty x11_37 2))) (fun _ hk=>trivial)⟩,⟨by (with_reducible repeat (first|refine bkN ?_ _|refine bkD ?_|refine bkA ?_ _));refine blk_far ?_ NB365_366.out _;(with_reducible repeat (first|refine bkN ?_ _|refine bkD ?_|refine bkA ?_ _));refine blk_far ?_ NB365_366.out _;(with_reducible repeat (first|refine bkN ?_ _|refine bkD ?_|refine bkA ?_ _));exact BK365.out⟩,⟨by (with_reducible repeat (first|refine bkN ?_ _|refine bkD ?_|refine bkA ?_ _));refine blk_put (cs:=#[.int .i64 x367000_1,.string (rdOf ByteArray.empty x11_37 1),.string ⟨#[]⟩,.int .i64 0,.string ⟨#[]⟩]) ?_ 2 _ rfl;(with_reducible repeat (first|refine bkN ?_ _|refine bkD ?_|refine bkA ?_ _));refine blk_put (cs:=#[.int .i64 x367000_1,.string ⟨#[]⟩,.string ⟨#[]⟩,.int .i64 0,.string ⟨#[]⟩]) ?_ 1 _ rfl;(with_reducible repeat (first|refine bkN ?_ _|refine bkD ?_|refine bkA ?_ _));exact BK366.out⟩,⟨by repeat (first|(with_reducible first|exact HB.out|apply bal|apply pbN|apply bd1|refine bst ?_ GE365.out|refine bst ?_ GE366.out)|exact HB.out)⟩⟩
                      · rw [if_neg c52] at H
                        exact absurd H (by simp)
                    · replace c51:=Bool.eq_false_iff.mpr c51
                      subst c51;have H1:(spec_ReqRead.j5 kj37 a0 t376 t377 x11_37 x12_37 2 x367000_1 (rdOf ByteArray.empty x11_37 1) (⟨#[]⟩:ByteArray) 0 (⟨#[]⟩:ByteArray)) = some (r1,r2,r3,r4,r5,r6):=by rw [if_neg (show ¬ (false = true) by decide)] at H;exact H
                      clear H;have H:=H1;clear H1;have H':=As0.mk H;clear H
                      go_wp2
                      show _;go_meet
                      case rel=>exact ⟨_,(2),((⟨#[]⟩:ByteArray)),(by first|rfl|(simp;done)|(simp [*];done)),H',⟨by have:=HK1.out;have:=HJ21.out;have:=HJ25.out;have:=HJ28.out;have:=HJ37.out;first|omega|exact Nat.le_refl _⟩,⟨by (with_reducible repeat (first|apply Kd.Ral|apply Kd.RdN|apply Kd.R_drew));exact Kd.R_mono (Kd.R_far (p:=⟨gb366,1,none⟩) (Kd.R_types HO_11.out BK366.out (by decide)) (fun _ hk=>hk.2) (.string (rdOf ByteArray.empty x11_37 1))) (fun _ hk=>trivial)⟩,⟨by (with_reducible repeat (first|refine bkN ?_ _|refine bkD ?_|refine bkA ?_ _));refine blk_far ?_ NB365_366.out _;(with_reducible repeat (first|refine bkN ?_ _|refine bkD ?_|refine bkA ?_ _));exact BK365.out⟩,⟨by (with_reducible repeat (first|refine bkN ?_ _|refine bkD ?_|refine bkA ?_ _));refine blk_put (cs:=#[.int .i64 x367000_1,.string ⟨#[]⟩,.string ⟨#[]⟩,.int .i64 0,.string ⟨#[]⟩]) ?_ 1 _ rfl;(with_reducible repeat (first|refine bkN ?_ _|refine bkD ?_|refine bkA ?_ _));exact BK366.out⟩,⟨by repeat (first|(with_reducible first|exact HB.out|apply bal|apply pbN|apply bd1|refine bst ?_ GE365.out|refine bst ?_ GE366.out)|exact HB.out)⟩⟩
                   case rest=>
                    clear HC47
                    try clear c1
                    try clear c2
                    try clear p2
                    try clear c3
                    try clear c3b0
                    try clear c3b1
                    try clear p3
                    try clear q3
                    try clear hx3
                    try clear qi3
                    try clear c4
                    try clear c5
                    try clear c6
                    try clear p6
                    try clear c7
                    try clear c10
                    try clear c10b0
                    try clear c12
                    try clear c12b0
                    try clear c13
                    try clear c13b0
                    try clear c14
                    try clear c14b0
                    try clear c14b1
                    try clear c17
                    try clear c20
                    try clear c21
                    try clear c22
                    try clear c23
                    try clear c25
                    try clear c27
                    try clear c31
                    try clear c31b0
                    try clear c31b1
                    try clear c32
                    try clear c34
                    try clear c37
                    try clear p37
                    try clear q37
                    try clear hx37
                    try clear qi37
                    try clear p38
                    try clear q38
                    try clear hx38
                    try clear qi38
                    try clear c39
                    try clear c41
                    try clear c44
                    try clear c46
                    try clear c46b0
                    try clear c46b1
                    try clear c49
                    try clear c51
                    try clear c52
                    try clear c52b0
                    try clear c52b1
                    try clear c53
                    try clear hcz18_0
                    try clear hcz18_1
                    try clear hcz18_2
                    try clear hcz18_3
                    try clear hcz18_4
                    try clear hcz24_0
                    try clear hcz24_1
                    try clear hcz24_2
                    try clear hcz24_3
                    try clear hcz24_4
                    try clear hcz33_0
                    try clear hcz33_1
                    try clear hcz33_2
                    try clear hcz33_3
                    try clear hcz33_4
                    try clear hcz35_0
                    try clear hcz35_1
                    try clear hcz35_2
                    try clear hcz35_3
                    try clear hcz35_4
                    try clear hcz45_0
                    try clear hcz45_1
                    try clear hcz45_2
                    try clear hcz45_3
                    try clear hcz45_4
                    try clear hcz50_0
                    try clear hcz50_1
                    try clear hcz50_2
                    try clear hcz50_3
                    try clear hcz50_4
                    try clear hcz54_0
                    try clear hcz54_1
                    try clear hcz54_2
                    try clear hcz54_3
                    try clear hcz54_4
                    try clear hcz7_0
                    try clear hcz7_1
                    try clear hcz7_2
                    try clear hcz7_3
                    try clear hcz7_4
                    try clear hfz18_0
                    try clear hfz18_1
                    try clear hfz18_2
                    try clear hfz18_3
                    try clear hfz18_4
                    try clear hfz24_0
                    try clear hfz24_1
                    try clear hfz24_2
                    try clear hfz24_3
                    try clear hfz24_4
                    try clear hfz33_0
                    try clear hfz33_1
                    try clear hfz33_2
                    try clear hfz33_3
                    try clear hfz33_4
                    try clear hfz35_0
                    try clear hfz35_1
                    try clear hfz35_2
                    try clear hfz35_3
                    try clear hfz35_4
                    try clear hfz45_0
                    try clear hfz45_1
                    try clear hfz45_2
                    try clear hfz45_3
                    try clear hfz45_4
                    try clear hfz50_0
                    try clear hfz50_1
                    try clear hfz50_2
                    try clear hfz50_3
                    try clear hfz50_4
                    try clear hfz54_0
                    try clear hfz54_1
                    try clear hfz54_2
                    try clear hfz54_3
                    try clear hfz54_4
                    try clear hfz7_0
                    try clear hfz7_1
                    try clear hfz7_2
                    try clear hfz7_3
                    try clear hfz7_4
                    try clear hx370_0
                    try clear hx374_0
                    try clear hx386_0
                    try clear hx387_0
                    try clear p2
                    try clear p3
                    try clear p37
                    try clear p370
                    try clear p374
                    try clear p386
                    try clear p387
                    try clear p6
                    try clear q3
                    try clear q37
                    try clear q370
                    try clear q374
                    try clear q386
                    try clear q387
                    obtain ⟨kq,x16_46,x367002_46,rfl,HA,HJ46,HO_11,BK365,BK366,HB⟩:=hcut
                    cases kq with
                    |zero=>exact absurd HA.out (by simp [spec_ReqRead.j5])
                    |succ kj46=>
                     have H:=HA.out;clear HA;simp only [spec_ReqRead.j5] at H;have HC55:=As0.mk H;clear H
                     go_upto_if 84 with (fail)
                     show _;go_cut [] (fun wc=>∃ (kq:Nat) (x367003_54:Int),As0 (spec_ReqRead.j6 kq a0 t377 x12_37 x367000_1 (rdOf ByteArray.empty x11_37 1) x367002_46 x367003_54 (⟨#[]⟩:ByteArray) = some (r1,r2,r3,r4,r5,r6)) ∧ As0 (kq ≤ kj46) ∧ As0 (wc.heap[gb365]? = some (.cells #[.int .i64 x366000_37,.string x366001_37,.string x366002_37,.int .i64 x366003_37,.string x366004_37] 25 (0,0))) ∧ As0 (wc.heap[gb366]? = some (.cells #[.int .i64 x367000_1,.string (rdOf ByteArray.empty x11_37 1),.string x367002_46,.int .i64 x367003_54,.string ⟨#[]⟩] 25 (0,0))) ∧ As0 (Below w.heap.size w wc))
                     case first=>
                      have H:=HC55.out;clear HC55;by_cases c56:t376 = true
                      · subst c56
                        have H1:(if 0 ≤ x16_46 then (if x16_46 < (x11_37.length:Int) then ((spec_l9Int.f kj46 (rdOf ByteArray.empty x11_37 x16_46)).bind fun t389=>(spec_ReqRead.j6 kj46 a0 t377 x12_37 x367000_1 (rdOf ByteArray.empty x11_37 1) x367002_46 t389 (⟨#[]⟩:ByteArray))) else (none)) else (none)) = some (r1,r2,r3,r4,r5,r6):=by rw [if_pos rfl] at H;exact H
                        clear H;have H:=H1;clear H1;by_cases c57:0 ≤ x16_46
                        · rw [if_pos c57] at H
                          have c57b0:decide (0 ≤ x16_46) = true:=decide_eq_true c57;clear c57
                          (first|rw [c57b0]|(simp only [i64_w,i32_w];rw [c57b0])|skip)
                          by_cases c58:x16_46 < (x11_37.length:Int)
                          · rw [if_pos c58] at H
                            have c58b0:decide (x16_46 < (x11_37.length:Int)) = true:=decide_eq_true c58;clear c58;replace H:=Option.bind_eq_some_iff.mp H;obtain ⟨t389,A590,H⟩:=H;(try dsimp only at H);have A59:=As0.mk A590;clear A590;have H':=As0.mk H;clear H;have p388:0 ≤ (x16_46:Int):=odt;have q388:x16_46 < (x11_37.length:Int):=odt;obtain ⟨ad388,e388,hx388_0⟩:=Kd.at_string (Kd.R_reads' HO_11.out).2.2 x16_46 p388 q388;obtain rfl:ad386 = ad388:=(by injection e388);replace p388:=eq_true p388;replace q388:=eq_true q388
                            go_wp2_with (first|(refine gL (some 89) Tryd.func24 #[.string (rdOf ByteArray.empty x11_37 x16_46)] ?_;(with_reducible refine (spec_l9Int.calls kj46 (rdOf ByteArray.empty x11_37 x16_46) t389 _ A59.out).mono ?_);rintro e w' ⟨rfl,⟨nd,rfl⟩⟩;refine ⟨_,rfl,?_⟩;(try (rw [drewN_self wc];generalize hq_:World.drewN wc _ = wc;replace HO_11:As0 (Kd.R Kd.string 9 wc w.heap.size (fun _=>True) (.slice (some ad386) x11_37.length co48) x11_37):=⟨by rw [← hq_];exact (by (with_reducible repeat (first|apply Kd.Ral|apply Kd.RdN|apply Kd.R_drew));exact HO_11.out)⟩;replace BK365:As0 (wc.heap[gb365]? = some (.cells #[.int .i64 x366000_37,.string x366001_37,.string x366002_37,.int .i64 x366003_37,.string x366004_37] 25 (0,0))):=⟨by rw [← hq_];exact (by (with_reducible repeat (first|refine bkN ?_ _|refine bkD ?_|refine bkA ?_ _));exact BK365.out)⟩;replace BK366:As0 (wc.heap[gb366]? = some (.cells #[.int .i64 x367000_1,.string (rdOf ByteArray.empty x11_37 1),.string x367002_46,.int .i64 0,.string ⟨#[]⟩] 25 (0,0))):=⟨by rw [← hq_];exact (by (with_reducible repeat (first|refine bkN ?_ _|refine bkD ?_|refine bkA ?_ _));exact BK366.out)⟩;replace HB:As0 (Below w.heap.size w wc):=⟨by rw [← hq_];exact (by repeat (first|(with_reducible first|exact HB.out|apply bal|apply pbN|apply bd1|refine bst ?_ GE365.out|refine bst ?_ GE366.out)|exact HB.out))⟩;clear hq_));have hnb60:=NB366_365.out;have hnc60:=NB365_366.out;obtain ⟨hcz61_0,hcz61_1,hcz61_2,hcz61_3,hcz61_4⟩:=qc5 BK366.out;obtain ⟨hfz61_0,hfz61_1,hfz61_2,hfz61_3,hfz61_4⟩:=qz5 BK366.out))
                            show _;go_meet
                            case rel=>exact ⟨_,(t389),H',⟨by have:=HK1.out;have:=HJ21.out;have:=HJ25.out;have:=HJ28.out;have:=HJ37.out;have:=HJ46.out;first|omega|exact Nat.le_refl _⟩,⟨by (with_reducible repeat (first|refine bkN ?_ _|refine bkD ?_|refine bkA ?_ _));refine blk_far ?_ NB365_366.out _;(with_reducible repeat (first|refine bkN ?_ _|refine bkD ?_|refine bkA ?_ _));exact BK365.out⟩,⟨by (with_reducible repeat (first|refine bkN ?_ _|refine bkD ?_|refine bkA ?_ _));refine blk_put (cs:=#[.int .i64 x367000_1,.string (rdOf ByteArray.empty x11_37 1),.string x367002_46,.int .i64 0,.string ⟨#[]⟩]) ?_ 3 _ rfl;(with_reducible repeat (first|refine bkN ?_ _|refine bkD ?_|refine bkA ?_ _));exact BK366.out⟩,⟨by repeat (first|(with_reducible first|exact HB.out|apply bal|apply pbN|apply bd1|refine bst ?_ GE365.out|refine bst ?_ GE366.out)|exact HB.out)⟩⟩
                          · rw [if_neg c58] at H
                            exact absurd H (by simp)
                        · rw [if_neg c57] at H
                          exact absurd H (by simp)
                      · replace c56:=Bool.eq_false_iff.mpr c56
                        subst c56;have H1:(spec_ReqRead.j6 kj46 a0 t377 x12_37 x367000_1 (rdOf ByteArray.empty x11_37 1) x367002_46 0 (⟨#[]⟩:ByteArray)) = some (r1,r2,r3,r4,r5,r6):=by rw [if_neg (show ¬ (false = true) by decide)] at H;exact H
                        clear H;have H:=H1;clear H1;have H':=As0.mk H;clear H
                        go_wp2
                        show _;go_meet
                        case rel=>exact ⟨_,(0),H',⟨by have:=HK1.out;have:=HJ21.out;have:=HJ25.out;have:=HJ28.out;have:=HJ37.out;have:=HJ46.out;first|omega|exact Nat.le_refl _⟩,⟨by (with_reducible repeat (first|refine bkN ?_ _|refine bkD ?_|refine bkA ?_ _));exact BK365.out⟩,⟨by (with_reducible repeat (first|refine bkN ?_ _|refine bkD ?_|refine bkA ?_ _));exact BK366.out⟩,⟨by repeat (first|(with_reducible first|exact HB.out|apply bal|apply pbN|apply bd1|refine bst ?_ GE365.out|refine bst ?_ GE366.out)|exact HB.out)⟩⟩
                     case rest=>
                      clear HC55
                      try clear c1
                      try clear c2
                      try clear p2
                      try clear c3
                      try clear c3b0
                      try clear c3b1
                      try clear p3
                      try clear q3
                      try clear hx3
                      try clear qi3
                      try clear c4
                      try clear c5
                      try clear c6
                      try clear p6
                      try clear c7
                      try clear c10
                      try clear c10b0
                      try clear c12
                      try clear c12b0
                      try clear c13
                      try clear c13b0
                      try clear c14
                      try clear c14b0
                      try clear c14b1
                      try clear c17
                      try clear c20
                      try clear c21
                      try clear c22
                      try clear c23
                      try clear c24
                      try clear c25
                      try clear c27
                      try clear c31
                      try clear c31b0
                      try clear c31b1
                      try clear c32
                      try clear c34
                      try clear c37
                      try clear p37
                      try clear q37
                      try clear hx37
                      try clear qi37
                      try clear p38
                      try clear q38
                      try clear hx38
                      try clear qi38
                      try clear c39
                      try clear c41
                      try clear c44
                      try clear c46
                      try clear c46b0
                      try clear c46b1
                      try clear c49
                      try clear c51
                      try clear c52
                      try clear c52b0
                      try clear c52b1
                      try clear c53
                      try clear c56
                      try clear c57
                      try clear c57b0
                      try clear c58
                      try clear c58b0
                      try clear c60
                      try clear hcz18_0
                      try clear hcz18_1
                      try clear hcz18_2
                      try clear hcz18_3
                      try clear hcz18_4
                      try clear hcz24_0
                      try clear hcz24_1
                      try clear hcz24_2
                      try clear hcz24_3
                      try clear hcz24_4
                      try clear hcz33_0
                      try clear hcz33_1
                      try clear hcz33_2
                      try clear hcz33_3
                      try clear hcz33_4
                      try clear hcz35_0
                      try clear hcz35_1
                      try clear hcz35_2
                      try clear hcz35_3
                      try clear hcz35_4
                      try clear hcz45_0
                      try clear hcz45_1
                      try clear hcz45_2
                      try clear hcz45_3
                      try clear hcz45_4
                      try clear hcz50_0
                      try clear hcz50_1
                      try clear hcz50_2
                      try clear hcz50_3
                      try clear hcz50_4
                      try clear hcz54_0
                      try clear hcz54_1
                      try clear hcz54_2
                      try clear hcz54_3
                      try clear hcz54_4
                      try clear hcz61_0
                      try clear hcz61_1
                      try clear hcz61_2
                      try clear hcz61_3
                      try clear hcz61_4
                      try clear hcz7_0
                      try clear hcz7_1
                      try clear hcz7_2
                      try clear hcz7_3
                      try clear hcz7_4
                      try clear hfz18_0
                      try clear hfz18_1
                      try clear hfz18_2
                      try clear hfz18_3
                      try clear hfz18_4
                      try clear hfz24_0
                      try clear hfz24_1
                      try clear hfz24_2
                      try clear hfz24_3
                      try clear hfz24_4
                      try clear hfz33_0
                      try clear hfz33_1
                      try clear hfz33_2
                      try clear hfz33_3
                      try clear hfz33_4
                      try clear hfz35_0
                      try clear hfz35_1
                      try clear hfz35_2
                      try clear hfz35_3
                      try clear hfz35_4
                      try clear hfz45_0
                      try clear hfz45_1
                      try clear hfz45_2
                      try clear hfz45_3
                      try clear hfz45_4
                      try clear hfz50_0
                      try clear hfz50_1
                      try clear hfz50_2
                      try clear hfz50_3
                      try clear hfz50_4
                      try clear hfz54_0
                      try clear hfz54_1
                      try clear hfz54_2
                      try clear hfz54_3
                      try clear hfz54_4
                      try clear hfz61_0
                      try clear hfz61_1
                      try clear hfz61_2
                      try clear hfz61_3
                      try clear hfz61_4
                      try clear hfz7_0
                      try clear hfz7_1
                      try clear hfz7_2
                      try clear hfz7_3
                      try clear hfz7_4
                      try clear hx370_0
                      try clear hx374_0
                      try clear hx386_0
                      try clear hx387_0
                      try clear hx388_0
                      try clear p2
                      try clear p3
                      try clear p37
                      try clear p370
                      try clear p374
                      try clear p38
                      try clear p386
                      try clear p387
                      try clear p388
                      try clear p6
                      try clear q3
                      try clear q37
                      try clear q370
                      try clear q374
                      try clear q38
                      try clear q386
                      try clear q387
                      try clear q388
                      obtain ⟨kq,x367003_54,HA,HJ54,BK365,BK366,HB⟩:=hcut
                      cases kq with
                      |zero=>exact absurd HA.out (by simp [spec_ReqRead.j6])
                      |succ kj54=>
                       have H:=HA.out;clear HA;simp only [spec_ReqRead.j6] at H;by_cases c62:t377 = true
                       · subst c62
                         have H1:(if a0.toList = ([]:List UInt8) then (some (0,(⟨#[]⟩:ByteArray),(⟨#[]⟩:ByteArray),0,(⟨#[]⟩:ByteArray),false)) else ((spec_ReqWrite.f kj54 x367000_1 (rdOf ByteArray.empty x11_37 1) x367002_46 x367003_54 x12_37).bind fun t390=>(if t390.toList = a0.toList then (some (x367000_1,(rdOf ByteArray.empty x11_37 1),x367002_46,x367003_54,x12_37,true)) else (some (0,(⟨#[]⟩:ByteArray),(⟨#[]⟩:ByteArray),0,(⟨#[]⟩:ByteArray),false))))) = some (r1,r2,r3,r4,r5,r6):=by rw [if_pos rfl] at H;exact H
                         clear H;have H:=H1;clear H1;by_cases c63:a0.toList = ([]:List UInt8)
                         · rw [if_pos c63] at H
                           have c63b0:(a0.toList == ([]:List UInt8)) = true:=beq_iff_eq.mpr c63;have c63b1:(a0.toList != ([]:List UInt8)) = false:=bne_eq_false_iff_eq.mpr c63;clear c63;simp only [Option.some.injEq,Prod.mk.injEq] at H;obtain ⟨rfl,rfl,rfl,rfl,rfl,rfl⟩:=H;have hnb64:=NB366_365.out;have hnc64:=NB365_366.out;obtain ⟨hcz65_0,hcz65_1,hcz65_2,hcz65_3,hcz65_4⟩:=qc5 BK366.out;obtain ⟨hfz65_0,hfz65_1,hfz65_2,hfz65_3,hfz65_4⟩:=qz5 BK366.out;obtain ⟨hcz66_0,hcz66_1,hcz66_2,hcz66_3,hcz66_4⟩:=qc5 BK365.out;obtain ⟨hfz66_0,hfz66_1,hfz66_2,hfz66_3,hfz66_4⟩:=qz5 BK365.out
                           go_wp2
                           refine bodyPost_ret (results_ct rfl _ _ gb365 25 #[.int .i64 0,.string ⟨#[]⟩,.string ⟨#[]⟩,.int .i64 0,.string ⟨#[]⟩] (0,0) _ rfl (by (with_reducible repeat (first|refine bkN ?_ _|refine bkD ?_|refine bkA ?_ _));refine blk_put (cs:=#[.int .i64 0,.string ⟨#[]⟩,.string ⟨#[]⟩,.int .i64 0,.string x366004_37]) ?_ 4 _ rfl;(with_reducible repeat (first|refine bkN ?_ _|refine bkD ?_|refine bkA ?_ _));refine blk_put (cs:=#[.int .i64 0,.string ⟨#[]⟩,.string ⟨#[]⟩,.int .i64 x366003_37,.string x366004_37]) ?_ 3 _ rfl;(with_reducible repeat (first|refine bkN ?_ _|refine bkD ?_|refine bkA ?_ _));refine blk_put (cs:=#[.int .i64 0,.string ⟨#[]⟩,.string x366002_37,.int .i64 x366003_37,.string x366004_37]) ?_ 2 _ rfl;(with_reducible repeat (first|refine bkN ?_ _|refine bkD ?_|refine bkA ?_ _));refine blk_put (cs:=#[.int .i64 0,.string x366001_37,.string x366002_37,.int .i64 x366003_37,.string x366004_37]) ?_ 1 _ rfl;(with_reducible repeat (first|refine bkN ?_ _|refine bkD ?_|refine bkA ?_ _));refine blk_put (cs:=#[.int .i64 x366000_37,.string x366001_37,.string x366002_37,.int .i64 x366003_37,.string x366004_37]) ?_ 0 _ rfl;(with_reducible repeat (first|refine bkN ?_ _|refine bkD ?_|refine bkA ?_ _));refine blk_far ?_ NB365_366.out _;(with_reducible repeat (first|refine bkN ?_ _|refine bkD ?_|refine bkA ?_ _));exact BK365.out) Tryd.underlying25 rfl (by kernel_rfl)) rfl ?_
                           exact ⟨eW,by repeat (first|(with_reducible first|exact HB.out|apply bal|apply pbN|apply bd1|refine bst ?_ GE365.out|refine bst ?_ GE366.out)|exact HB.out)⟩
                         · rw [if_neg c63] at H
                           have c63b0:(a0.toList == ([]:List UInt8)) = false:=beq_eq_false_iff_ne.mpr c63;have c63b1:(a0.toList != ([]:List UInt8)) = true:=bne_iff_ne.mpr c63;replace H:=Option.bind_eq_some_iff.mp H;obtain ⟨t390,A670,H⟩:=H;(try dsimp only at H);have A67:=As0.mk A670;clear A670;by_cases c68:t390.toList = a0.toList
                           · rw [if_pos c68] at H
                             have c68b0:(t390.toList == a0.toList) = true:=beq_iff_eq.mpr c68;have c68b1:(t390.toList != a0.toList) = false:=bne_eq_false_iff_eq.mpr c68;clear c68;simp only [Option.some.injEq,Prod.mk.injEq] at H;obtain ⟨rfl,rfl,rfl,rfl,rfl,rfl⟩:=H;have hnb69:=NB366_365.out;have hnc69:=NB365_366.out;obtain ⟨hcz70_0,hcz70_1,hcz70_2,hcz70_3,hcz70_4⟩:=qc5 BK366.out;obtain ⟨hfz70_0,hfz70_1,hfz70_2,hfz70_3,hfz70_4⟩:=qz5 BK366.out
                             go_wp2_with (first|(go_at_call 10;(with_reducible refine (spec_ReqWrite.calls kj54 x367000_1 (rdOf ByteArray.empty x11_37 1) x367002_46 x367003_54 x12_37 t390 _ A67.out).mono ?_);rintro e w71 ⟨rfl,hb⟩;replace BK365:=As0.mk (blk_below (g:=gb365) (o:=.cells #[.int .i64 x366000_37,.string x366001_37,.string x366002_37,.int .i64 x366003_37,.string x366004_37] 25 (0,0)) (by (with_reducible repeat (first|refine bkN ?_ _|refine bkD ?_|refine bkA ?_ _));refine blk_far ?_ NB365_366.out _;(with_reducible repeat (first|refine bkN ?_ _|refine bkD ?_|refine bkA ?_ _));exact BK365.out) hb);replace BK366:=As0.mk (blk_below (g:=gb366) (o:=.cells #[.int .i64 x367000_1,.string (rdOf ByteArray.empty x11_37 1),.string x367002_46,.int .i64 x367003_54,.string x12_37] 25 (0,0)) (by (with_reducible repeat (first|refine bkN ?_ _|refine bkD ?_|refine bkA ?_ _));refine blk_put (cs:=#[.int .i64 x367000_1,.string (rdOf ByteArray.empty x11_37 1),.string x367002_46,.int .i64 x367003_54,.string ⟨#[]⟩]) ?_ 4 _ rfl;(with_reducible repeat (first|refine bkN ?_ _|refine bkD ?_|refine bkA ?_ _));exact BK366.out) hb);replace HB:=As0.mk (bsp (by repeat (first|(with_reducible first|exact HB.out|apply bal|apply pbN|apply bd1|refine bst ?_ GE365.out|refine bst ?_ GE366.out)|exact HB.out)) hb);clear hb;obtain ⟨hcz72_0,hcz72_1,hcz72_2,hcz72_3,hcz72_4⟩:=qc5 BK366.out;obtain ⟨hfz72_0,hfz72_1,hfz72_2,hfz72_3,hfz72_4⟩:=qz5 BK366.out;obtain ⟨hcz73_0,hcz73_1,hcz73_2,hcz73_3,hcz73_4⟩:=qc5 BK365.out;obtain ⟨hfz73_0,hfz73_1,hfz73_2,hfz73_3,hfz73_4⟩:=qz5 BK365.out))
                             refine bodyPost_ret (results_ct rfl _ _ gb365 25 #[.int .i64 x367000_1,.string (rdOf ByteArray.empty x11_37 1),.string x367002_46,.int .i64 x367003_54,.string x12_37] (0,0) _ rfl (by (with_reducible repeat (first|refine bkN ?_ _|refine bkD ?_|refine bkA ?_ _));refine blk_put (cs:=#[.int .i64 x367000_1,.string (rdOf ByteArray.empty x11_37 1),.string x367002_46,.int .i64 x367003_54,.string x366004_37]) ?_ 4 _ rfl;(with_reducible repeat (first|refine bkN ?_ _|refine bkD ?_|refine bkA ?_ _));refine blk_put (cs:=#[.int .i64 x367000_1,.string (rdOf ByteArray.empty x11_37 1),.string x367002_46,.int .i64 x366003_37,.string x366004_37]) ?_ 3 _ rfl;(with_reducible repeat (first|refine bkN ?_ _|refine bkD ?_|refine bkA ?_ _));refine blk_put (cs:=#[.int .i64 x367000_1,.string (rdOf ByteArray.empty x11_37 1),.string x366002_37,.int .i64 x366003_37,.string x366004_37]) ?_ 2 _ rfl;(with_reducible repeat (first|refine bkN ?_ _|refine bkD ?_|refine bkA ?_ _));refine blk_put (cs:=#[.int .i64 x367000_1,.string x366001_37,.string x366002_37,.int .i64 x366003_37,.string x366004_37]) ?_ 1 _ rfl;(with_reducible repeat (first|refine bkN ?_ _|refine bkD ?_|refine bkA ?_ _));refine blk_put (cs:=#[.int .i64 x366000_37,.string x366001_37,.string x366002_37,.int .i64 x366003_37,.string x366004_37]) ?_ 0 _ rfl;(with_reducible repeat (first|refine bkN ?_ _|refine bkD ?_|refine bkA ?_ _));exact BK365.out) Tryd.underlying25 rfl (by kernel_rfl)) rfl ?_
                             exact ⟨eW,by repeat (first|(with_reducible first|exact HB.out|apply bal|apply pbN|apply bd1|refine bst ?_ GE365.out|refine bst ?_ GE366.out)|exact HB.out)⟩
                           · rw [if_neg c68] at H
                             have c68b0:(t390.toList == a0.toList) = false:=beq_eq_false_iff_ne.mpr c68;have c68b1:(t390.toList != a0.toList) = true:=bne_iff_ne.mpr c68;simp only [Option.some.injEq,Prod.mk.injEq] at H;obtain ⟨rfl,rfl,rfl,rfl,rfl,rfl⟩:=H;have hnb74:=NB366_365.out;have hnc74:=NB365_366.out;obtain ⟨hcz75_0,hcz75_1,hcz75_2,hcz75_3,hcz75_4⟩:=qc5 BK366.out;obtain ⟨hfz75_0,hfz75_1,hfz75_2,hfz75_3,hfz75_4⟩:=qz5 BK366.out
                             go_wp2_with (first|(go_at_call 10;(with_reducible refine (spec_ReqWrite.calls kj54 x367000_1 (rdOf ByteArray.empty x11_37 1) x367002_46 x367003_54 x12_37 t390 _ A67.out).mono ?_);rintro e w76 ⟨rfl,hb⟩;replace BK365:=As0.mk (blk_below (g:=gb365) (o:=.cells #[.int .i64 x366000_37,.string x366001_37,.string x366002_37,.int .i64 x366003_37,.string x366004_37] 25 (0,0)) (by (with_reducible repeat (first|refine bkN ?_ _|refine bkD ?_|refine bkA ?_ _));refine blk_far ?_ NB365_366.out _;(with_reducible repeat (first|refine bkN ?_ _|refine bkD ?_|refine bkA ?_ _));exact BK365.out) hb);replace BK366:=As0.mk (blk_below (g:=gb366) (o:=.cells #[.int .i64 x367000_1,.string (rdOf ByteArray.empty x11_37 1),.string x367002_46,.int .i64 x367003_54,.string x12_37] 25 (0,0)) (by (with_reducible repeat (first|refine bkN ?_ _|refine bkD ?_|refine bkA ?_ _));refine blk_put (cs:=#[.int .i64 x367000_1,.string (rdOf ByteArray.empty x11_37 1),.string x367002_46,.int .i64 x367003_54,.string ⟨#[]⟩]) ?_ 4 _ rfl;(with_reducible repeat (first|refine bkN ?_ _|refine bkD ?_|refine bkA ?_ _));exact BK366.out) hb);replace HB:=As0.mk (bsp (by repeat (first|(with_reducible first|exact HB.out|apply bal|apply pbN|apply bd1|refine bst ?_ GE365.out|refine bst ?_ GE366.out)|exact HB.out)) hb);clear hb;obtain ⟨hcz77_0,hcz77_1,hcz77_2,hcz77_3,hcz77_4⟩:=qc5 BK365.out;obtain ⟨hfz77_0,hfz77_1,hfz77_2,hfz77_3,hfz77_4⟩:=qz5 BK365.out))
                             refine bodyPost_ret (results_ct rfl _ _ gb365 25 #[.int .i64 0,.string ⟨#[]⟩,.string ⟨#[]⟩,.int .i64 0,.string ⟨#[]⟩] (0,0) _ rfl (by (with_reducible repeat (first|refine bkN ?_ _|refine bkD ?_|refine bkA ?_ _));refine blk_put (cs:=#[.int .i64 0,.string ⟨#[]⟩,.string ⟨#[]⟩,.int .i64 0,.string x366004_37]) ?_ 4 _ rfl;(with_reducible repeat (first|refine bkN ?_ _|refine bkD ?_|refine bkA ?_ _));refine blk_put (cs:=#[.int .i64 0,.string ⟨#[]⟩,.string ⟨#[]⟩,.int .i64 x366003_37,.string x366004_37]) ?_ 3 _ rfl;(with_reducible repeat (first|refine bkN ?_ _|refine bkD ?_|refine bkA ?_ _));refine blk_put (cs:=#[.int .i64 0,.string ⟨#[]⟩,.string x366002_37,.int .i64 x366003_37,.string x366004_37]) ?_ 2 _ rfl;(with_reducible repeat (first|refine bkN ?_ _|refine bkD ?_|refine bkA ?_ _));refine blk_put (cs:=#[.int .i64 0,.string x366001_37,.string x366002_37,.int .i64 x366003_37,.string x366004_37]) ?_ 1 _ rfl;(with_reducible repeat (first|refine bkN ?_ _|refine bkD ?_|refine bkA ?_ _));refine blk_put (cs:=#[.int .i64 x366000_37,.string x366001_37,.string x366002_37,.int .i64 x366003_37,.string x366004_37]) ?_ 0 _ rfl;(with_reducible repeat (first|refine bkN ?_ _|refine bkD ?_|refine bkA ?_ _));exact BK365.out) Tryd.underlying25 rfl (by kernel_rfl)) rfl ?_
                             exact ⟨eW,by repeat (first|(with_reducible first|exact HB.out|apply bal|apply pbN|apply bd1|refine bst ?_ GE365.out|refine bst ?_ GE366.out)|exact HB.out)⟩
                       · replace c62:=Bool.eq_false_iff.mpr c62
                         subst c62;have H1:(if a0.toList = ([]:List UInt8) then (some (0,(⟨#[]⟩:ByteArray),(⟨#[]⟩:ByteArray),0,(⟨#[]⟩:ByteArray),false)) else ((spec_ReqWrite.f kj54 x367000_1 (rdOf ByteArray.empty x11_37 1) x367002_46 x367003_54 (⟨#[]⟩:ByteArray)).bind fun t391=>(if t391.toList = a0.toList then (some (x367000_1,(rdOf ByteArray.empty x11_37 1),x367002_46,x367003_54,(⟨#[]⟩:ByteArray),true)) else (some (0,(⟨#[]⟩:ByteArray),(⟨#[]⟩:ByteArray),0,(⟨#[]⟩:ByteArray),false))))) = some (r1,r2,r3,r4,r5,r6):=by rw [if_neg (show ¬ (false = true) by decide)] at H;exact H
                         clear H;have H:=H1;clear H1;by_cases c78:a0.toList = ([]:List UInt8)
                         · rw [if_pos c78] at H
                           have c78b0:(a0.toList == ([]:List UInt8)) = true:=beq_iff_eq.mpr c78;have c78b1:(a0.toList != ([]:List UInt8)) = false:=bne_eq_false_iff_eq.mpr c78;clear c78;simp only [Option.some.injEq,Prod.mk.injEq] at H;obtain ⟨rfl,rfl,rfl,rfl,rfl,rfl⟩:=H;have hnb79:=NB365_366.out;have hnc79:=NB366_365.out;obtain ⟨hcz80_0,hcz80_1,hcz80_2,hcz80_3,hcz80_4⟩:=qc5 BK365.out;obtain ⟨hfz80_0,hfz80_1,hfz80_2,hfz80_3,hfz80_4⟩:=qz5 BK365.out
                           go_wp2
                           refine bodyPost_ret (results_ct rfl _ _ gb365 25 #[.int .i64 0,.string ⟨#[]⟩,.string ⟨#[]⟩,.int .i64 0,.string ⟨#[]⟩] (0,0) _ rfl (by (with_reducible repeat (first|refine bkN ?_ _|refine bkD ?_|refine bkA ?_ _));refine blk_put (cs:=#[.int .i64 0,.string ⟨#[]⟩,.string ⟨#[]⟩,.int .i64 0,.string x366004_37]) ?_ 4 _ rfl;(with_reducible repeat (first|refine bkN ?_ _|refine bkD ?_|refine bkA ?_ _));refine blk_put (cs:=#[.int .i64 0,.string ⟨#[]⟩,.string ⟨#[]⟩,.int .i64 x366003_37,.string x366004_37]) ?_ 3 _ rfl;(with_reducible repeat (first|refine bkN ?_ _|refine bkD ?_|refine bkA ?_ _));refine blk_put (cs:=#[.int .i64 0,.string ⟨#[]⟩,.string x366002_37,.int .i64 x366003_37,.string x366004_37]) ?_ 2 _ rfl;(with_reducible repeat (first|refine bkN ?_ _|refine bkD ?_|refine bkA ?_ _));refine blk_put (cs:=#[.int .i64 0,.string x366001_37,.string x366002_37,.int .i64 x366003_37,.string x366004_37]) ?_ 1 _ rfl;(with_reducible repeat (first|refine bkN ?_ _|refine bkD ?_|refine bkA ?_ _));refine blk_put (cs:=#[.int .i64 x366000_37,.string x366001_37,.string x366002_37,.int .i64 x366003_37,.string x366004_37]) ?_ 0 _ rfl;(with_reducible repeat (first|refine bkN ?_ _|refine bkD ?_|refine bkA ?_ _));exact BK365.out) Tryd.underlying25 rfl (by kernel_rfl)) rfl ?_
                           exact ⟨eW,by repeat (first|(with_reducible first|exact HB.out|apply bal|apply pbN|apply bd1|refine bst ?_ GE365.out|refine bst ?_ GE366.out)|exact HB.out)⟩
                         · rw [if_neg c78] at H
                           have c78b0:(a0.toList == ([]:List UInt8)) = false:=beq_eq_false_iff_ne.mpr c78;have c78b1:(a0.toList != ([]:List UInt8)) = true:=bne_iff_ne.mpr c78;replace H:=Option.bind_eq_some_iff.mp H;obtain ⟨t391,A810,H⟩:=H;(try dsimp only at H);have A81:=As0.mk A810;clear A810;by_cases c82:t391.toList = a0.toList
                           · rw [if_pos c82] at H
                             have c82b0:(t391.toList == a0.toList) = true:=beq_iff_eq.mpr c82;have c82b1:(t391.toList != a0.toList) = false:=bne_eq_false_iff_eq.mpr c82;clear c82;simp only [Option.some.injEq,Prod.mk.injEq] at H;obtain ⟨rfl,rfl,rfl,rfl,rfl,rfl⟩:=H;have hnb83:=NB366_365.out;have hnc83:=NB365_366.out;obtain ⟨hcz84_0,hcz84_1,hcz84_2,hcz84_3,hcz84_4⟩:=qc5 BK366.out;obtain ⟨hfz84_0,hfz84_1,hfz84_2,hfz84_3,hfz84_4⟩:=qz5 BK366.out
                             go_wp2_with (first|(go_at_call 10;(with_reducible refine (spec_ReqWrite.calls kj54 x367000_1 (rdOf ByteArray.empty x11_37 1) x367002_46 x367003_54 (⟨#[]⟩:ByteArray) t391 _ A81.out).mono ?_);rintro e w85 ⟨rfl,hb⟩;replace BK365:=As0.mk (bb hb BK365.out);replace BK366:=As0.mk (bb hb BK366.out);replace HB:=As0.mk (bsp (by repeat (first|(with_reducible first|exact HB.out|apply bal|apply pbN|apply bd1|refine bst ?_ GE365.out|refine bst ?_ GE366.out)|exact HB.out)) hb);clear hb;obtain ⟨hcz86_0,hcz86_1,hcz86_2,hcz86_3,hcz86_4⟩:=qc5 BK366.out;obtain ⟨hfz86_0,hfz86_1,hfz86_2,hfz86_3,hfz86_4⟩:=qz5 BK366.out;obtain ⟨hcz87_0,hcz87_1,hcz87_2,hcz87_3,hcz87_4⟩:=qc5 BK365.out;obtain ⟨hfz87_0,hfz87_1,hfz87_2,hfz87_3,hfz87_4⟩:=qz5 BK365.out))
                             refine bodyPost_ret (results_ct rfl _ _ gb365 25 #[.int .i64 x367000_1,.string (rdOf ByteArray.empty x11_37 1),.string x367002_46,.int .i64 x367003_54,.string ⟨#[]⟩] (0,0) _ rfl (by (with_reducible repeat (first|refine bkN ?_ _|refine bkD ?_|refine bkA ?_ _));refine blk_put (cs:=#[.int .i64 x367000_1,.string (rdOf ByteArray.empty x11_37 1),.string x367002_46,.int .i64 x367003_54,.string x366004_37]) ?_ 4 _ rfl;(with_reducible repeat (first|refine bkN ?_ _|refine bkD ?_|refine bkA ?_ _));refine blk_put (cs:=#[.int .i64 x367000_1,.string (rdOf ByteArray.empty x11_37 1),.string x367002_46,.int .i64 x366003_37,.string x366004_37]) ?_ 3 _ rfl;(with_reducible repeat (first|refine bkN ?_ _|refine bkD ?_|refine bkA ?_ _));refine blk_put (cs:=#[.int .i64 x367000_1,.string (rdOf ByteArray.empty x11_37 1),.string x366002_37,.int .i64 x366003_37,.string x366004_37]) ?_ 2 _ rfl;(with_reducible repeat (first|refine bkN ?_ _|refine bkD ?_|refine bkA ?_ _));refine blk_put (cs:=#[.int .i64 x367000_1,.string x366001_37,.string x366002_37,.int .i64 x366003_37,.string x366004_37]) ?_ 1 _ rfl;(with_reducible repeat (first|refine bkN ?_ _|refine bkD ?_|refine bkA ?_ _));refine blk_put (cs:=#[.int .i64 x366000_37,.string x366001_37,.string x366002_37,.int .i64 x366003_37,.string x366004_37]) ?_ 0 _ rfl;(with_reducible repeat (first|refine bkN ?_ _|refine bkD ?_|refine bkA ?_ _));exact BK365.out) Tryd.underlying25 rfl (by kernel_rfl)) rfl ?_
                             exact ⟨eW,by repeat (first|(with_reducible first|exact HB.out|apply bal|apply pbN|apply bd1|refine bst ?_ GE365.out|refine bst ?_ GE366.out)|exact HB.out)⟩
                           · rw [if_neg c82] at H
                             have c82b0:(t391.toList == a0.toList) = false:=beq_eq_false_iff_ne.mpr c82;have c82b1:(t391.toList != a0.toList) = true:=bne_iff_ne.mpr c82;simp only [Option.some.injEq,Prod.mk.injEq] at H;obtain ⟨rfl,rfl,rfl,rfl,rfl,rfl⟩:=H;have hnb88:=NB366_365.out;have hnc88:=NB365_366.out;obtain ⟨hcz89_0,hcz89_1,hcz89_2,hcz89_3,hcz89_4⟩:=qc5 BK366.out;obtain ⟨hfz89_0,hfz89_1,hfz89_2,hfz89_3,hfz89_4⟩:=qz5 BK366.out
                             go_wp2_with (first|(go_at_call 10;(with_reducible refine (spec_ReqWrite.calls kj54 x367000_1 (rdOf ByteArray.empty x11_37 1) x367002_46 x367003_54 (⟨#[]⟩:ByteArray) t391 _ A81.out).mono ?_);rintro e w90 ⟨rfl,hb⟩;replace BK365:=As0.mk (bb hb BK365.out);replace BK366:=As0.mk (bb hb BK366.out);replace HB:=As0.mk (bsp (by repeat (first|(with_reducible first|exact HB.out|apply bal|apply pbN|apply bd1|refine bst ?_ GE365.out|refine bst ?_ GE366.out)|exact HB.out)) hb);clear hb;obtain ⟨hcz91_0,hcz91_1,hcz91_2,hcz91_3,hcz91_4⟩:=qc5 BK365.out;obtain ⟨hfz91_0,hfz91_1,hfz91_2,hfz91_3,hfz91_4⟩:=qz5 BK365.out))
                             refine bodyPost_ret (results_ct rfl _ _ gb365 25 #[.int .i64 0,.string ⟨#[]⟩,.string ⟨#[]⟩,.int .i64 0,.string ⟨#[]⟩] (0,0) _ rfl (by (with_reducible repeat (first|refine bkN ?_ _|refine bkD ?_|refine bkA ?_ _));refine blk_put (cs:=#[.int .i64 0,.string ⟨#[]⟩,.string ⟨#[]⟩,.int .i64 0,.string x366004_37]) ?_ 4 _ rfl;(with_reducible repeat (first|refine bkN ?_ _|refine bkD ?_|refine bkA ?_ _));refine blk_put (cs:=#[.int .i64 0,.string ⟨#[]⟩,.string ⟨#[]⟩,.int .i64 x366003_37,.string x366004_37]) ?_ 3 _ rfl;(with_reducible repeat (first|refine bkN ?_ _|refine bkD ?_|refine bkA ?_ _));refine blk_put (cs:=#[.int .i64 0,.string ⟨#[]⟩,.string x366002_37,.int .i64 x366003_37,.string x366004_37]) ?_ 2 _ rfl;(with_reducible repeat (first|refine bkN ?_ _|refine bkD ?_|refine bkA ?_ _));refine blk_put (cs:=#[.int .i64 0,.string x366001_37,.string x366002_37,.int .i64 x366003_37,.string x366004_37]) ?_ 1 _ rfl;(with_reducible repeat (first|refine bkN ?_ _|refine bkD ?_|refine bkA ?_ _));refine blk_put (cs:=#[.int .i64 x366000_37,.string x366001_37,.string x366002_37,.int .i64 x366003_37,.string x366004_37]) ?_ 0 _ rfl;(with_reducible repeat (first|refine bkN ?_ _|refine bkD ?_|refine bkA ?_ _));exact BK365.out) Tryd.underlying25 rfl (by kernel_rfl)) rfl ?_
                             exact ⟨eW,by repeat (first|(with_reducible first|exact HB.out|apply bal|apply pbN|apply bd1|refine bst ?_ GE365.out|refine bst ?_ GE366.out)|exact HB.out)⟩
                 · rw [if_neg c46] at H
                   exact absurd H (by simp)
             · replace c37:=Bool.eq_false_iff.mpr c37
               subst c37;have H1:(if a0.toList = ([]:List UInt8) then (some (0,(⟨#[]⟩:ByteArray),(⟨#[]⟩:ByteArray),0,(⟨#[]⟩:ByteArray),false)) else ((spec_ReqWrite.f kj28 x367000_1 (⟨#[]⟩:ByteArray) (⟨#[]⟩:ByteArray) 0 (⟨#[]⟩:ByteArray)).bind fun t392=>(if t392.toList = a0.toList then (some (x367000_1,(⟨#[]⟩:ByteArray),(⟨#[]⟩:ByteArray),0,(⟨#[]⟩:ByteArray),true)) else (some (0,(⟨#[]⟩:ByteArray),(⟨#[]⟩:ByteArray),0,(⟨#[]⟩:ByteArray),false))))) = some (r1,r2,r3,r4,r5,r6):=by rw [if_neg (show ¬ (false = true) by decide)] at H;exact H
               clear H;have H:=H1;clear H1;by_cases c92:a0.toList = ([]:List UInt8)
               · rw [if_pos c92] at H
                 have c92b0:(a0.toList == ([]:List UInt8)) = true:=beq_iff_eq.mpr c92;have c92b1:(a0.toList != ([]:List UInt8)) = false:=bne_eq_false_iff_eq.mpr c92;clear c92;simp only [Option.some.injEq,Prod.mk.injEq] at H;obtain ⟨rfl,rfl,rfl,rfl,rfl,rfl⟩:=H;have hnb93:=NB365_366.out;have hnc93:=NB366_365.out;obtain ⟨hcz94_0,hcz94_1,hcz94_2,hcz94_3,hcz94_4⟩:=qc5 BK365.out;obtain ⟨hfz94_0,hfz94_1,hfz94_2,hfz94_3,hfz94_4⟩:=qz5 BK365.out
                 go_wp2
                 refine bodyPost_ret (results_ct rfl _ _ gb365 25 #[.int .i64 0,.string ⟨#[]⟩,.string ⟨#[]⟩,.int .i64 0,.string ⟨#[]⟩] (0,0) _ rfl (by (with_reducible repeat (first|refine bkN ?_ _|refine bkD ?_|refine bkA ?_ _));refine blk_put (cs:=#[.int .i64 0,.string ⟨#[]⟩,.string ⟨#[]⟩,.int .i64 0,.string ⟨#[]⟩]) ?_ 4 _ rfl;(with_reducible repeat (first|refine bkN ?_ _|refine bkD ?_|refine bkA ?_ _));refine blk_put (cs:=#[.int .i64 0,.string ⟨#[]⟩,.string ⟨#[]⟩,.int .i64 0,.string ⟨#[]⟩]) ?_ 3 _ rfl;(with_reducible repeat (first|refine bkN ?_ _|refine bkD ?_|refine bkA ?_ _));refine blk_put (cs:=#[.int .i64 0,.string ⟨#[]⟩,.string ⟨#[]⟩,.int .i64 0,.string ⟨#[]⟩]) ?_ 2 _ rfl;(with_reducible repeat (first|refine bkN ?_ _|refine bkD ?_|refine bkA ?_ _));refine blk_put (cs:=#[.int .i64 0,.string ⟨#[]⟩,.string ⟨#[]⟩,.int .i64 0,.string ⟨#[]⟩]) ?_ 1 _ rfl;(with_reducible repeat (first|refine bkN ?_ _|refine bkD ?_|refine bkA ?_ _));refine blk_put (cs:=#[.int .i64 0,.string ⟨#[]⟩,.string ⟨#[]⟩,.int .i64 0,.string ⟨#[]⟩]) ?_ 0 _ rfl;(with_reducible repeat (first|refine bkN ?_ _|refine bkD ?_|refine bkA ?_ _));exact BK365.out) Tryd.underlying25 rfl (by kernel_rfl)) rfl ?_
                 exact ⟨eW,by repeat (first|(with_reducible first|exact HB.out|apply bal|apply pbN|apply bd1|refine bst ?_ GE365.out|refine bst ?_ GE366.out)|exact HB.out)⟩
               · rw [if_neg c92] at H
                 have c92b0:(a0.toList == ([]:List UInt8)) = false:=beq_eq_false_iff_ne.mpr c92;have c92b1:(a0.toList != ([]:List UInt8)) = true:=bne_iff_ne.mpr c92;replace H:=Option.bind_eq_some_iff.mp H;obtain ⟨t392,A950,H⟩:=H;(try dsimp only at H);have A95:=As0.mk A950;clear A950;by_cases c96:t392.toList = a0.toList
                 · rw [if_pos c96] at H
                   have c96b0:(t392.toList == a0.toList) = true:=beq_iff_eq.mpr c96;have c96b1:(t392.toList != a0.toList) = false:=bne_eq_false_iff_eq.mpr c96;clear c96;simp only [Option.some.injEq,Prod.mk.injEq] at H;obtain ⟨rfl,rfl,rfl,rfl,rfl,rfl⟩:=H;have hnb97:=NB366_365.out;have hnc97:=NB365_366.out;obtain ⟨hcz98_0,hcz98_1,hcz98_2,hcz98_3,hcz98_4⟩:=qc5 BK366.out;obtain ⟨hfz98_0,hfz98_1,hfz98_2,hfz98_3,hfz98_4⟩:=qz5 BK366.out
                   go_wp2_with (first|(go_at_call 10;(with_reducible refine (spec_ReqWrite.calls kj28 x367000_1 (⟨#[]⟩:ByteArray) (⟨#[]⟩:ByteArray) 0 (⟨#[]⟩:ByteArray) t392 _ A95.out).mono ?_);rintro e w99 ⟨rfl,hb⟩;replace HO_11:=As0.mk (Kd.R_below (by (with_reducible repeat (first|apply Kd.Ral|apply Kd.RdN|apply Kd.R_drew));exact HO_11.out) hb);replace BK365:=As0.mk (bb hb BK365.out);replace BK366:=As0.mk (bb hb BK366.out);replace HB:=As0.mk (bsp (by repeat (first|(with_reducible first|exact HB.out|apply bal|apply pbN|apply bd1|refine bst ?_ GE365.out|refine bst ?_ GE366.out)|exact HB.out)) hb);clear hb;obtain ⟨hcz100_0,hcz100_1,hcz100_2,hcz100_3,hcz100_4⟩:=qc5 BK366.out;obtain ⟨hfz100_0,hfz100_1,hfz100_2,hfz100_3,hfz100_4⟩:=qz5 BK366.out;obtain ⟨hcz101_0,hcz101_1,hcz101_2,hcz101_3,hcz101_4⟩:=qc5 BK365.out;obtain ⟨hfz101_0,hfz101_1,hfz101_2,hfz101_3,hfz101_4⟩:=qz5 BK365.out))
                   refine bodyPost_ret (results_ct rfl _ _ gb365 25 #[.int .i64 x367000_1,.string ⟨#[]⟩,.string ⟨#[]⟩,.int .i64 0,.string ⟨#[]⟩] (0,0) _ rfl (by (with_reducible repeat (first|refine bkN ?_ _|refine bkD ?_|refine bkA ?_ _));refine blk_put (cs:=#[.int .i64 x367000_1,.string ⟨#[]⟩,.string ⟨#[]⟩,.int .i64 0,.string ⟨#[]⟩]) ?_ 4 _ rfl;(with_reducible repeat (first|refine bkN ?_ _|refine bkD ?_|refine bkA ?_ _));refine blk_put (cs:=#[.int .i64 x367000_1,.string ⟨#[]⟩,.string ⟨#[]⟩,.int .i64 0,.string ⟨#[]⟩]) ?_ 3 _ rfl;(with_reducible repeat (first|refine bkN ?_ _|refine bkD ?_|refine bkA ?_ _));refine blk_put (cs:=#[.int .i64 x367000_1,.string ⟨#[]⟩,.string ⟨#[]⟩,.int .i64 0,.string ⟨#[]⟩]) ?_ 2 _ rfl;(with_reducible repeat (first|refine bkN ?_ _|refine bkD ?_|refine bkA ?_ _));refine blk_put (cs:=#[.int .i64 x367000_1,.string ⟨#[]⟩,.string ⟨#[]⟩,.int .i64 0,.string ⟨#[]⟩]) ?_ 1 _ rfl;(with_reducible repeat (first|refine bkN ?_ _|refine bkD ?_|refine bkA ?_ _));refine blk_put (cs:=#[.int .i64 0,.string ⟨#[]⟩,.string ⟨#[]⟩,.int .i64 0,.string ⟨#[]⟩]) ?_ 0 _ rfl;(with_reducible repeat (first|refine bkN ?_ _|refine bkD ?_|refine bkA ?_ _));exact BK365.out) Tryd.underlying25 rfl (by kernel_rfl)) rfl ?_
                   exact ⟨eW,by repeat (first|(with_reducible first|exact HB.out|apply bal|apply pbN|apply bd1|refine bst ?_ GE365.out|refine bst ?_ GE366.out)|exact HB.out)⟩
                 · rw [if_neg c96] at H
                   have c96b0:(t392.toList == a0.toList) = false:=beq_eq_false_iff_ne.mpr c96;have c96b1:(t392.toList != a0.toList) = true:=bne_iff_ne.mpr c96;simp only [Option.some.injEq,Prod.mk.injEq] at H;obtain ⟨rfl,rfl,rfl,rfl,rfl,rfl⟩:=H;have hnb102:=NB366_365.out;have hnc102:=NB365_366.out;obtain ⟨hcz103_0,hcz103_1,hcz103_2,hcz103_3,hcz103_4⟩:=qc5 BK366.out;obtain ⟨hfz103_0,hfz103_1,hfz103_2,hfz103_3,hfz103_4⟩:=qz5 BK366.out
                   go_wp2_with (first|(go_at_call 10;(with_reducible refine (spec_ReqWrite.calls kj28 x367000_1 (⟨#[]⟩:ByteArray) (⟨#[]⟩:ByteArray) 0 (⟨#[]⟩:ByteArray) t392 _ A95.out).mono ?_);rintro e w104 ⟨rfl,hb⟩;replace HO_11:=As0.mk (Kd.R_below (by (with_reducible repeat (first|apply Kd.Ral|apply Kd.RdN|apply Kd.R_drew));exact HO_11.out) hb);replace BK365:=As0.mk (bb hb BK365.out);replace BK366:=As0.mk (bb hb BK366.out);replace HB:=As0.mk (bsp (by repeat (first|(with_reducible first|exact HB.out|apply bal|apply pbN|apply bd1|refine bst ?_ GE365.out|refine bst ?_ GE366.out)|exact HB.out)) hb);clear hb;obtain ⟨hcz105_0,hcz105_1,hcz105_2,hcz105_3,hcz105_4⟩:=qc5 BK365.out;obtain ⟨hfz105_0,hfz105_1,hfz105_2,hfz105_3,hfz105_4⟩:=qz5 BK365.out))
                   refine bodyPost_ret (results_ct rfl _ _ gb365 25 #[.int .i64 0,.string ⟨#[]⟩,.string ⟨#[]⟩,.int .i64 0,.string ⟨#[]⟩] (0,0) _ rfl (by (with_reducible repeat (first|refine bkN ?_ _|refine bkD ?_|refine bkA ?_ _));refine blk_put (cs:=#[.int .i64 0,.string ⟨#[]⟩,.string ⟨#[]⟩,.int .i64 0,.string ⟨#[]⟩]) ?_ 4 _ rfl;(with_reducible repeat (first|refine bkN ?_ _|refine bkD ?_|refine bkA ?_ _));refine blk_put (cs:=#[.int .i64 0,.string ⟨#[]⟩,.string ⟨#[]⟩,.int .i64 0,.string ⟨#[]⟩]) ?_ 3 _ rfl;(with_reducible repeat (first|refine bkN ?_ _|refine bkD ?_|refine bkA ?_ _));refine blk_put (cs:=#[.int .i64 0,.string ⟨#[]⟩,.string ⟨#[]⟩,.int .i64 0,.string ⟨#[]⟩]) ?_ 2 _ rfl;(with_reducible repeat (first|refine bkN ?_ _|refine bkD ?_|refine bkA ?_ _));refine blk_put (cs:=#[.int .i64 0,.string ⟨#[]⟩,.string ⟨#[]⟩,.int .i64 0,.string ⟨#[]⟩]) ?_ 1 _ rfl;(with_reducible repeat (first|refine bkN ?_ _|refine bkD ?_|refine bkA ?_ _));refine blk_put (cs:=#[.int .i64 0,.string ⟨#[]⟩,.string ⟨#[]⟩,.int .i64 0,.string ⟨#[]⟩]) ?_ 0 _ rfl;(with_reducible repeat (first|refine bkN ?_ _|refine bkD ?_|refine bkA ?_ _));exact BK365.out) Tryd.underlying25 rfl (by kernel_rfl)) rfl ?_
                   exact ⟨eW,by repeat (first|(with_reducible first|exact HB.out|apply bal|apply pbN|apply bd1|refine bst ?_ GE365.out|refine bst ?_ GE366.out)|exact HB.out)⟩
 · rw [if_neg c3] at H
   exact absurd H (by simp)
def impl_ReqWrite.f (k:Nat) (a0_0:Int) (a0_1:ByteArray) (a0_2:ByteArray) (a0_3:Int) (a0_4:ByteArray):Option (ByteArray):=(impl_isReq.f k a0_0 a0_1 a0_2 a0_3 a0_4).bind fun t394=>(if t394 = true then ((impl_reqText.f k a0_0 a0_1 a0_2 a0_3 a0_4).bind fun t395=>(some t395)) else (some (⟨#[]⟩:ByteArray)))
set_option maxHeartbeats 40000000 in
set_option maxRecDepth 100000 in
theorem impl_ReqWrite.calls (k:Nat) (a0_0:Int) (a0_1:ByteArray) (a0_2:ByteArray) (a0_3:Int) (a0_4:ByteArray) (r:ByteArray) (w:World) (hT:TabT w) (h:impl_ReqWrite.f k a0_0 a0_1 a0_2 a0_3 a0_4 = some r) :
 Calls Tryd.prog 8 #[.agg #[.int .i64 a0_0,.string a0_1,.string a0_2,.int .i64 a0_3,.string a0_4]] w fun e w'=>e = .returned (.string r) ∧ Below w.heap.size w w':=by
 have hu25:=Tryd.underlying25;have HT:=As0.mk hT;clear hT;have HB:=As0.mk (Below.refl w.heap.size w);have H:((impl_isReq.f k a0_0 a0_1 a0_2 a0_3 a0_4).bind fun t394=>(if t394 = true then ((impl_reqText.f k a0_0 a0_1 a0_2 a0_3 a0_4).bind fun t395=>(some t395)) else (some (⟨#[]⟩:ByteArray)))) = some r:=h;clear h;replace H:=Option.bind_eq_some_iff.mp H;obtain ⟨t394,A20,H⟩:=H;(try dsimp only at H);have A2:=As0.mk A20;clear A20;by_cases c3:t394 = true
 · subst c3
   have H1:((impl_reqText.f k a0_0 a0_1 a0_2 a0_3 a0_4).bind fun t395=>(some t395)) = some r:=by rw [if_pos rfl] at H;exact H
   clear H;have H:=H1;clear H1;replace H:=Option.bind_eq_some_iff.mp H;obtain ⟨t395,A40,H⟩:=H;(try dsimp only at H);have A4:=As0.mk A40;clear A40;obtain rfl:=Option.some.inj H
   go_enter Tryd.func8,Tryd.ntmps8
   go_wp2_with (first|((with_reducible refine gate_dst (N:=1) rfl ?_);refine bE 1 #[.int .i64 a0_0,.string a0_1,.string a0_2,.int .i64 a0_3,.string a0_4] 25 ?_;intro gb393 hg w5 hbox hb;have BK393:=As0.mk (hbox);have GW393:=As0.mk ((by rw [hg];exact (bsz (by repeat (first|(with_reducible first|exact HB.out|apply bal|apply pbN|apply bd1)|exact HB.out))):w.heap.size ≤ gb393));have GE393:=GW393;replace HB:=As0.mk (b3 HB.out hb);clear hb hbox hg;obtain ⟨hcz6_0,hcz6_1,hcz6_2,hcz6_3,hcz6_4⟩:=qc5 BK393.out;obtain ⟨hfz6_0,hfz6_1,hfz6_2,hfz6_3,hfz6_4⟩:=qz5 BK393.out)|(refine gL (some 4) Tryd.func25 #[.agg #[.int .i64 a0_0,.string a0_1,.string a0_2,.int .i64 a0_3,.string a0_4]] ?_;(with_reducible refine (impl_isReq.calls k a0_0 a0_1 a0_2 a0_3 a0_4 true _ A2.out).mono ?_);rintro e w7 ⟨rfl,hb⟩;refine ⟨_,rfl,?_⟩;replace BK393:=As0.mk (bb hb BK393.out);replace HB:=As0.mk (bsp (by repeat (first|(with_reducible first|exact HB.out|apply bal|apply pbN|apply bd1|refine bst ?_ GE393.out)|exact HB.out)) hb);clear hb;obtain ⟨hcz8_0,hcz8_1,hcz8_2,hcz8_3,hcz8_4⟩:=qc5 BK393.out;obtain ⟨hfz8_0,hfz8_1,hfz8_2,hfz8_3,hfz8_4⟩:=qz5 BK393.out)|(refine gL (some 7) Tryd.func26 #[.agg #[.int .i64 a0_0,.string a0_1,.string a0_2,.int .i64 a0_3,.string a0_4]] ?_;(with_reducible refine (impl_reqText.calls k a0_0 a0_1 a0_2 a0_3 a0_4 t395 _ ?side1 A4.out).mono ?_);(case side1=>exact TabT.below HT.out (by repeat (first|(with_reducible first|exact HB.out|apply bal|apply pbN|apply bd1|refine bst ?_ GE393.out)|exact HB.out)));rintro e w9 ⟨rfl,hb⟩;refine ⟨_,rfl,?_⟩;replace BK393:=As0.mk (bb hb BK393.out);replace HB:=As0.mk (bsp (by repeat (first|(with_reducible first|exact HB.out|apply bal|apply pbN|apply bd1|refine bst ?_ GE393.out)|exact HB.out)) hb);clear hb))
   go_ret
   exact ⟨eW,by repeat (first|(with_reducible first|exact HB.out|apply bal|apply pbN|apply bd1|refine bst ?_ GE393.out)|exact HB.out)⟩
 · replace c3:=Bool.eq_false_iff.mpr c3
   subst c3;have H1:(some (⟨#[]⟩:ByteArray)) = some r:=by rw [if_neg (show ¬ (false = true) by decide)] at H;exact H
   clear H;have H:=H1;clear H1;obtain rfl:=Option.some.inj H
   go_enter Tryd.func8,Tryd.ntmps8
   go_wp2_with (first|((with_reducible refine gate_dst (N:=1) rfl ?_);refine bE 1 #[.int .i64 a0_0,.string a0_1,.string a0_2,.int .i64 a0_3,.string a0_4] 25 ?_;intro gb393 hg w10 hbox hb;have BK393:=As0.mk (hbox);have GW393:=As0.mk ((by rw [hg];exact (bsz (by repeat (first|(with_reducible first|exact HB.out|apply bal|apply pbN|apply bd1)|exact HB.out))):w.heap.size ≤ gb393));have GE393:=GW393;replace HB:=As0.mk (b3 HB.out hb);clear hb hbox hg;obtain ⟨hcz11_0,hcz11_1,hcz11_2,hcz11_3,hcz11_4⟩:=qc5 BK393.out;obtain ⟨hfz11_0,hfz11_1,hfz11_2,hfz11_3,hfz11_4⟩:=qz5 BK393.out)|(refine gL (some 4) Tryd.func25 #[.agg #[.int .i64 a0_0,.string a0_1,.string a0_2,.int .i64 a0_3,.string a0_4]] ?_;(with_reducible refine (impl_isReq.calls k a0_0 a0_1 a0_2 a0_3 a0_4 false _ A2.out).mono ?_);rintro e w12 ⟨rfl,hb⟩;refine ⟨_,rfl,?_⟩;replace BK393:=As0.mk (bb hb BK393.out);replace HB:=As0.mk (bsp (by repeat (first|(with_reducible first|exact HB.out|apply bal|apply pbN|apply bd1|refine bst ?_ GE393.out)|exact HB.out)) hb);clear hb))
   go_ret
   exact ⟨eW,by repeat (first|(with_reducible first|exact HB.out|apply bal|apply pbN|apply bd1|refine bst ?_ GE393.out)|exact HB.out)⟩
def spec_l1Many.l0:Nat → ByteArray → Int → ByteArray → Option (ByteArray)
 |0,_,_,_=>none
 |k + 1,x0,x1,x5=>if x1 > 0 then (if (Int.tmod x1 2) = 1 then (if x5.size + x0.size ≤ 9223372036854775807 then (if x0.size + x0.size ≤ 9223372036854775807 then (spec_l1Many.l0 k (x0 ++ x0) (wrap64 (Int.tdiv x1 2)) (x5 ++ x0)) else (none)) else (none)) else (if x0.size + x0.size ≤ 9223372036854775807 then (spec_l1Many.l0 k (x0 ++ x0) (wrap64 (Int.tdiv x1 2)) x5) else (none))) else (some x5)
def spec_l1Many.f (k:Nat) (a0:ByteArray) (a1:Int):Option (ByteArray):=spec_l1Many.l0 k a0 a1 (⟨#[]⟩:ByteArray)
theorem spec_l1Many.mono_l:∀ k,(∀ y0 y1 y2,LeO (spec_l1Many.l0 k y0 y1 y2) (spec_l1Many.l0 (k + 1) y0 y1 y2))
 |0=>fun _ _ _ r h=>by simp [spec_l1Many.l0] at h
 |k + 1=>by
  have ih0:=spec_l1Many.mono_l k
  · intro y0 y1 y2
    unfold spec_l1Many.l0
    repeat' first
    |(with_reducible exact ih0 _ _ _)
    |(with_reducible exact LeO.refl _)
    |(with_reducible exact LeO.none _)
    |(with_reducible refine LeO.ite ?_ ?_)
    |(with_reducible refine LeO.bind ?_ (fun _=>?_))
    |exact ih0 _ _ _
    |exact LeO.none _
    |refine LeO.ite ?_ ?_
    |refine LeO.bind ?_ (fun _=>?_)
theorem spec_l1Many.mono:∀ a0 a1 k,LeO (spec_l1Many.f k a0 a1) (spec_l1Many.f (k + 1) a0 a1):=by
 intro a0 a1 k;have ih0:=spec_l1Many.mono_l k;unfold spec_l1Many.f
 repeat' first
  |(with_reducible exact ih0 _ _ _)
  |(with_reducible exact LeO.refl _)
  |(with_reducible exact LeO.none _)
  |(with_reducible refine LeO.ite ?_ ?_)
  |(with_reducible refine LeO.bind ?_ (fun _=>?_))
  |exact ih0 _ _ _
  |exact LeO.none _
  |refine LeO.ite ?_ ?_
  |refine LeO.bind ?_ (fun _=>?_)
set_option maxHeartbeats 40000000 in
set_option maxRecDepth 100000 in
theorem spec_l1Many.calls (k:Nat) (a0:ByteArray) (a1:Int) (r:ByteArray) (w:World) (h:spec_l1Many.f k a0 a1 = some r) :
 Calls Tryd.prog 41 #[.string a0,.int .i64 a1] w fun e w'=>e = .returned (.string r) ∧ Drawn0 w w':=by
 have H:(spec_l1Many.l0 k a0 a1 (⟨#[]⟩:ByteArray)) = some r:=h;clear h;have H':=As0.mk H;clear H
 go_enter Tryd.func41,Tryd.ntmps41
 go_wp2
 show _;go_loopg [0,1,5] k (fun kq v0 v1 v5 w'=>∃ (x0_1:ByteArray) (x1_1:Int) (x5_1:ByteArray),v0 = .string x0_1 ∧ v1 = .int .i64 x1_1 ∧ v5 = .string x5_1 ∧ As0 (spec_l1Many.l0 kq x0_1 x1_1 x5_1 = some r) ∧ As0 (kq ≤ k) ∧ Drawn0 w w')
 case atStart=>exact ⟨(a0),(a1),((⟨#[]⟩:ByteArray)),(by first|rfl|(simp;done)|(simp [*];done)),(by first|rfl|(simp;done)|(simp [*];done)),(by first|rfl|(simp;done)|(simp [*];done)),H',⟨Nat.le_refl _⟩,by repeat (first|exact Drawn0.refl _|apply Drawn0.step)⟩
 case round=>
  clear H'
  try clear p2
  obtain ⟨x0_1,x1_1,x5_1,rfl,rfl,rfl,HA,HK1,⟨m1,rfl⟩⟩:=hrel
  cases gk with
  |zero=>exact absurd HA.out (by simp [spec_l1Many.l0])
  |succ k1=>
   have H:=HA.out;clear HA;simp only [spec_l1Many.l0] at H;by_cases c3:x1_1 > 0
   · rw [if_pos c3] at H
     have c3b0:decide (0 < x1_1) = true:=decide_eq_true c3;clear c3;by_cases c4:(Int.tmod x1_1 2) = 1
     · rw [if_pos c4] at H
       have c4b0:((Int.tmod x1_1 2) == 1) = true:=beq_iff_eq.mpr c4;have c4b1:((Int.tmod x1_1 2) != 1) = false:=bne_eq_false_iff_eq.mpr c4;clear c4;by_cases c5:x5_1.size + x0_1.size ≤ 9223372036854775807
       · rw [if_pos c5] at H
         have c5b0:=eq_true c5;have c5b1:decide (x5_1.size + x0_1.size ≤ 9223372036854775807) = true:=decide_eq_true c5
         try have c5b2:(9223372036854775807 < x5_1.size + x0_1.size) = False:=eq_false (Nat.not_lt.2 c5)
         by_cases c6:x0_1.size + x0_1.size ≤ 9223372036854775807
         · rw [if_pos c6] at H
           have c6b0:=eq_true c6;have c6b1:decide (x0_1.size + x0_1.size ≤ 9223372036854775807) = true:=decide_eq_true c6
           try have c6b2:(9223372036854775807 < x0_1.size + x0_1.size) = False:=eq_false (Nat.not_lt.2 c6)
           have H':=As0.mk H;clear H
           go_wp2
           show _;go_roundg k1
           case measure=>have:=HK1.out;omega
           case rel=>exact ⟨(x0_1 ++ x0_1),(wrap64 (Int.tdiv x1_1 2)),(x5_1 ++ x0_1),(by first|rfl|(simp;done)|(simp [*];done)),(by first|rfl|(simp;done)|(simp [*];done)),(by first|rfl|(simp;done)|(simp [*];done)),H',⟨by have:=HK1.out;omega⟩,by repeat (first|exact Drawn0.refl _|apply Drawn0.step)⟩
         · rw [if_neg c6] at H
           exact absurd H (by simp)
       · rw [if_neg c5] at H
         exact absurd H (by simp)
     · rw [if_neg c4] at H
       have c4b0:((Int.tmod x1_1 2) == 1) = false:=beq_eq_false_iff_ne.mpr c4;have c4b1:((Int.tmod x1_1 2) != 1) = true:=bne_iff_ne.mpr c4;by_cases c7:x0_1.size + x0_1.size ≤ 9223372036854775807
       · rw [if_pos c7] at H
         have c7b0:=eq_true c7;have c7b1:decide (x0_1.size + x0_1.size ≤ 9223372036854775807) = true:=decide_eq_true c7
         try have c7b2:(9223372036854775807 < x0_1.size + x0_1.size) = False:=eq_false (Nat.not_lt.2 c7)
         have H':=As0.mk H;clear H
         go_wp2
         show _;go_roundg k1
         case measure=>have:=HK1.out;omega
         case rel=>exact ⟨(x0_1 ++ x0_1),(wrap64 (Int.tdiv x1_1 2)),(x5_1),(by first|rfl|(simp;done)|(simp [*];done)),(by first|rfl|(simp;done)|(simp [*];done)),(by first|rfl|(simp;done)|(simp [*];done)),H',⟨by have:=HK1.out;omega⟩,by repeat (first|exact Drawn0.refl _|apply Drawn0.step)⟩
       · rw [if_neg c7] at H
         exact absurd H (by simp)
   · rw [if_neg c3] at H
     have c3b0:decide (0 < x1_1) = false:=decide_eq_false c3;clear c3;obtain rfl:=Option.some.inj H
     go_wp2
     go_ret
     exact ⟨by first|rfl|(simp;done)|(simp [*];done),by repeat (first|exact Drawn0.refl _|apply Drawn0.step)⟩
end Go.Proofs.YtbhnjglfjhfljaaDoor.P
