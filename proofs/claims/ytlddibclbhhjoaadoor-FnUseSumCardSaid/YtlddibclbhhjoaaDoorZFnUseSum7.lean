/- Functions of the law FnUseSum as_ plain Lean functions, and that the machine's calls do what they say. -/
import Derived.Test.YtlddibclbhhjoaaDoorZFnUseSum0
import Derived.Test.YtlddibclbhhjoaaDoorZFnUseSum4
import Derived.Test.YtlddibclbhhjoaaDoorZFnUseSum5
import Derived.Test.YtlddibclbhhjoaaDoorZFnUseSum6
namespace Go.Proofs.YtlddibclbhhjoaaDoor.P
open Go.RowKit Go.Proofs.YtlddibclbhhjoaaDoorW.PrintWords Go.Proofs.YtlddibclbhhjoaaDoorW.PrintLast Go.Proofs.YtlddibclbhhjoaaDoorW.PrintMore
attribute [local go_sem] max2_int min2_int max_two min_two max_three min_three max_four min_four
set_option linter.unusedVariables false
set_option linter.unusedSimpArgs false
mutual
def laws_FnUseSum.j0:Nat → List (SiS23) → List (SiT24) → ByteArray → Int → Bool → Option (Bool)
 |0,_,_,_,_,_=>none
 |k + 1,x3,x4,x5,x6,x42=>if x42 = true then ((spec_UseSum.f k x3 x4 x5).bind fun t559=>(if x6 = t559 then ((impl_SpacesOk.f k x3).bind fun t560=>((spec_SpacesOk.f k x3).bind fun t561=>(some (t560 == t561)))) else (some false))) else (laws_FnUseSum.l0 k x3 x4 x5 x6 0 0)
def laws_FnUseSum.l0:Nat → List (SiS23) → List (SiT24) → ByteArray → Int → Int → Int → Option (Bool)
 |0,_,_,_,_,_,_=>none
 |k + 1,x3,x4,x5,x6,x7,x8=>if x8 < (x3.length:Int) then (if 0 ≤ x8 then (if ((riS26 x3 x8).f1).toList = x5.toList then ((impl_UseSum.f k x3 x4 ((riS26 x3 x8).f0)).bind fun t564=>(laws_FnUseSum.l0 k x3 x4 x5 x6 (wrap64 (x7 + t564)) (wrap64 (x8 + 1)))) else (laws_FnUseSum.l0 k x3 x4 x5 x6 x7 (wrap64 (x8 + 1)))) else (none)) else (laws_FnUseSum.l1 k x3 x4 x5 x6 x7 false 0)
def laws_FnUseSum.l1:Nat → List (SiS23) → List (SiT24) → ByteArray → Int → Int → Bool → Int → Option (Bool)
 |0,_,_,_,_,_,_,_=>none
 |k + 1,x3,x4,x5,x6,x7,x9,x10=>if x10 < (x3.length:Int) then (if x9 = true then (laws_FnUseSum.l1 k x3 x4 x5 x6 x7 true (wrap64 (x10 + 1))) else (if 0 ≤ x10 then (laws_FnUseSum.l1 k x3 x4 x5 x6 x7 (((riS26 x3 x10).f0).toList == x5.toList) (wrap64 (x10 + 1))) else (none))) else (laws_FnUseSum.l2 k x4 x5 x6 x7 x9 0)
def laws_FnUseSum.l2:Nat → List (SiT24) → ByteArray → Int → Int → Bool → Int → Option (Bool)
 |0,_,_,_,_,_,_=>none
 |k + 1,x4,x5,x6,x7,x9,x11=>if x11 < (x4.length:Int) then (if 0 ≤ x11 then ((impl_ThingOk.f k ((riT27 x4 x11).f0) ((riT27 x4 x11).f1) ((riT27 x4 x11).f2) ((riT27 x4 x11).f3) ((riT27 x4 x11).f4) ((riT27 x4 x11).f5) ((riT27 x4 x11).f6)).bind fun t567=>(if t567 = true then (if ((riT27 x4 x11).f0).toList = x5.toList then (if x9 = true then ((impl_ThingCost.f k ((riT27 x4 x11).f0) ((riT27 x4 x11).f1) ((riT27 x4 x11).f2) ((riT27 x4 x11).f3) ((riT27 x4 x11).f4) ((riT27 x4 x11).f5) ((riT27 x4 x11).f6)).bind fun t570=>(laws_FnUseSum.l2 k x4 x5 x6 (wrap64 (x7 + t570)) x9 (wrap64 (x11 + 1)))) else (laws_FnUseSum.l2 k x4 x5 x6 x7 x9 (wrap64 (x11 + 1)))) else (laws_FnUseSum.l2 k x4 x5 x6 x7 x9 (wrap64 (x11 + 1)))) else (some (x6 == 0)))) else (none)) else (some (x6 == x7))
end
def laws_FnUseSum.f (k:Nat) (l0:List Int):Option (Bool):=if (l0.length:Int) > 1048576 then (some true) else ((spec_DrawUseSum.f k l0).bind fun bt547=>((impl_UseSum.f k bt547.1 bt547.2.1 bt547.2.2).bind fun t554=>((spec_UseSum.f k bt547.1 bt547.2.1 bt547.2.2).bind fun t555=>(if t554 = t555 then ((impl_SpacesOk.f k bt547.1).bind fun t556=>((spec_SpacesOk.f k bt547.1).bind fun t557=>(if (t556 != t557) = true then (laws_FnUseSum.j0 k bt547.1 bt547.2.1 bt547.2.2 t554 true) else ((spec_SpacesOk.f k bt547.1).bind fun t558=>(laws_FnUseSum.j0 k bt547.1 bt547.2.1 bt547.2.2 t554 (!t558)))))) else (laws_FnUseSum.j0 k bt547.1 bt547.2.1 bt547.2.2 t554 true)))))
set_option maxHeartbeats 40000000 in
set_option maxRecDepth 100000 in
theorem laws_FnUseSum.calls (k:Nat) (A0:Option Addr) (c0:Nat) (l0:List Int) (r:Bool) (w:World) (hr0:Kd.C (Kd.int .u8) w A0 l0.length l0) (hc0:l0.length ≤ c0) (HTru_:As0 (r = true)) (h:laws_FnUseSum.f k l0 = some r) :
 Calls Tryd.prog 3 #[.slice A0 l0.length c0] w fun e w'=>e = .returned (.bool r) ∧ Below w.heap.size w w':=by
 have hu34:=Tryd.underlying34;have HR0:=As0.mk hr0;have HC0:=As0.mk hc0;clear hr0 hc0;have HB:=As0.mk (Below.refl w.heap.size w);have H:(if (l0.length:Int) > 1048576 then (some true) else ((spec_DrawUseSum.f k l0).bind fun bt547=>((impl_UseSum.f k bt547.1 bt547.2.1 bt547.2.2).bind fun t554=>((spec_UseSum.f k bt547.1 bt547.2.1 bt547.2.2).bind fun t555=>(if t554 = t555 then ((impl_SpacesOk.f k bt547.1).bind fun t556=>((spec_SpacesOk.f k bt547.1).bind fun t557=>(if (t556 != t557) = true then (laws_FnUseSum.j0 k bt547.1 bt547.2.1 bt547.2.2 t554 true) else ((spec_SpacesOk.f k bt547.1).bind fun t558=>(laws_FnUseSum.j0 k bt547.1 bt547.2.1 bt547.2.2 t554 (!t558)))))) else (laws_FnUseSum.j0 k bt547.1 bt547.2.1 bt547.2.2 t554 true)))))) = some r:=h;clear h;by_cases c2:(l0.length:Int) > 1048576
 · rw [if_pos c2] at H
   have c2b0:decide (1048576 < (l0.length:Int)) = true:=decide_eq_true c2;have c2b1:decide (1048576 < l0.length) = true:=decide_eq_true (by omega);clear c2;obtain rfl:=Option.some.inj H
   go_enter Tryd.func3,Tryd.ntmps3
   go_wp2
   go_ret
   exact ⟨eW,HB.out⟩
 · rw [if_neg c2] at H
   have c2b0:decide (1048576 < (l0.length:Int)) = false:=decide_eq_false c2;have c2b1:decide (1048576 < l0.length) = false:=decide_eq_false (by omega);clear c2;replace H:=Option.bind_eq_some_iff.mp H;obtain ⟨⟨t547,t550,t553⟩,A30,H⟩:=H;(try dsimp only at H);have A3:=As0.mk A30;clear A30;replace H:=Option.bind_eq_some_iff.mp H;obtain ⟨t554,A40,H⟩:=H;(try dsimp only at H);have A4:=As0.mk A40;clear A40;have HC5:=As0.mk H;clear H
   go_enter Tryd.func3,Tryd.ntmps3
   show _;go_upto_region 5 with (first|((with_reducible refine gca (f:=4) rfl ?_);refine gL (some 17) Tryd.func4 #[.slice A0 l0.length c0] ?_;(with_reducible refine (spec_DrawUseSum.calls k _ _ l0 t547 t550 t553 _ ?side1 ?side2 A3.out).mono ?_);(case side1=>exact HR0.out);(case side2=>exact HC0.out);rintro e w6 ⟨v548,v551,rfl,ho0,ho1,hb⟩;refine ⟨_,rfl,?_⟩;have n0_:=As0.mk (Kd.R_lower (Kd.R_mono (ok':=fun k_=>True) ho0 (fun _ hk_=>trivial)) (bsz HB.out));have n1_:=As0.mk (Kd.N_lower (Kd.N_mono (ok':=fun k_=>some k_ ≠ (v548:Value).ownBlock) ho1 (fun k_ hk_=>hk_.2)) (bsz HB.out));have n2_:=As0.mk (bsp HB.out hb);clear HB;have HO549:=n0_;have HO552:=n1_;have HB:=n2_;clear n0_ n1_ n2_;(try clear hb);(try clear hb2);(try clear hk);(try clear hi);(try clear ho0);(try clear ho1);obtain ⟨Ao7,co7,eo7⟩:=Kd.R_slice HO549.out;subst eo7;obtain ⟨Ao8,co8,eo8⟩:=Kd.N_slice HO552.out;subst eo8)|((with_reducible refine gca (f:=5) rfl ?_);refine gL (some 24) Tryd.func5 #[.slice Ao7 t547.length co7,.slice Ao8 t550.length co8,.string t553] ?_;(with_reducible refine (impl_UseSum.calls k _ _ t547 _ _ t550 t553 t554 _ ?side1 ?side2 ?side3 ?side4 A4.out).mono ?_);(case side1=>exact (Kd.R_reads' HO549.out).2.2);(case side2=>exact (Kd.R_reads' HO549.out).2.1);(case side3=>exact (Kd.N_reads' HO552.out).2.2);(case side4=>exact (Kd.N_reads' HO552.out).2.1);rintro e w9 ⟨rfl,hb⟩;refine ⟨_,rfl,?_⟩;have n0_:=As0.mk (Kd.R_below HO549.out hb);have n1_:=As0.mk (Kd.N_below HO552.out hb);have n2_:=As0.mk (bsp HB.out hb);clear HO549;clear HO552;clear HB;have HO549:=n0_;have HO552:=n1_;have HB:=n2_;clear n0_ n1_ n2_;(try clear hb);(try clear hb2);(try clear hk);(try clear hi)))
   (try simp only [Act.put,sA,sZ,sS])
   show _;go_cut [42] (fun v42 wc=>∃ (kq:Nat) (x42_4:Bool),v42 = .bool x42_4 ∧ As0 (laws_FnUseSum.j0 kq t547 t550 t553 t554 x42_4 = some r) ∧ As0 (kq ≤ k) ∧ As0 (Kd.R k30 30 wc w.heap.size (fun _=>True) (.slice Ao7 t547.length co7) t547) ∧ As0 (Kd.N k34 34 wc w.heap.size (fun k_=>some k_ ≠ ((.slice Ao7 t547.length co7):Value).ownBlock) (.slice Ao8 t550.length co8) t550) ∧ As0 (Below w.heap.size w wc))
   case first=>
    have H:=HC5.out;clear HC5;replace H:=Option.bind_eq_some_iff.mp H;obtain ⟨t555,A100,H⟩:=H;(try dsimp only at H);have A10:=As0.mk A100;clear A100;by_cases c11:t554 = t555
    · rw [if_pos c11] at H
      have c11b0:(t554 == t555) = true:=beq_iff_eq.mpr c11;have c11b1:(t554 != t555) = false:=bne_eq_false_iff_eq.mpr c11;clear c11
      (first|rw [c11b0]|(simp only [i64_w,i32_w];rw [c11b0])|skip)
      replace H:=Option.bind_eq_some_iff.mp H;obtain ⟨t556,A120,H⟩:=H;(try dsimp only at H);have A12:=As0.mk A120;clear A120;replace H:=Option.bind_eq_some_iff.mp H;obtain ⟨t557,A130,H⟩:=H;(try dsimp only at H);have A13:=As0.mk A130;clear A130;by_cases c14:(t556 != t557) = true
      · rw [if_pos c14] at H
        have c14b0:(t556 != t557) = true:=c14
        (try (have c14b1:decide (t556 = t557) = false:=by simpa using c14))
        (try (have c14b2:(t556 == t557) = false:=by simpa using c14))
        (try (have c14b3:¬ (t556 = t557):=by simpa using c14))
        clear c14;have H':=As0.mk H;clear H
        go_wp2_with (first|((with_reducible refine gca (f:=6) rfl ?_);refine gL (some 29) Tryd.func6 #[.slice Ao7 t547.length co7,.slice Ao8 t550.length co8,.string t553] ?_;(with_reducible refine (spec_UseSum.calls k _ _ t547 _ _ t550 t553 t555 _ ?side1 ?side2 ?side3 ?side4 A10.out).mono ?_);(case side1=>exact (Kd.R_reads' HO549.out).2.2);(case side2=>exact (Kd.R_reads' HO549.out).2.1);(case side3=>exact (Kd.N_reads' HO552.out).2.2);(case side4=>exact (Kd.N_reads' HO552.out).2.1);rintro e w15 ⟨rfl,hb⟩;refine ⟨_,rfl,?_⟩;replace HO549:=As0.mk (Kd.R_below HO549.out hb);replace HO552:=As0.mk (Kd.N_below HO552.out hb);replace HB:=As0.mk (bsp HB.out hb);clear hb)|(go_at_call 7;(with_reducible refine (impl_SpacesOk.calls k _ _ t547 t556 _ ?side1 ?side2 A12.out).mono ?_);(case side1=>exact (Kd.R_reads' HO549.out).2.2);(case side2=>exact (Kd.R_reads' HO549.out).2.1);rintro e w16 ⟨rfl,hb⟩;replace HO549:=As0.mk (Kd.R_below HO549.out hb);replace HO552:=As0.mk (Kd.N_below HO552.out hb);replace HB:=As0.mk (bsp HB.out hb);clear hb)|(go_at_call 8;(with_reducible refine (spec_SpacesOk.calls k _ _ t547 t557 _ ?side1 ?side2 A13.out).mono ?_);(case side1=>exact (Kd.R_reads' HO549.out).2.2);(case side2=>exact (Kd.R_reads' HO549.out).2.1);rintro e w17 ⟨rfl,hb⟩;replace HO549:=As0.mk (Kd.R_below HO549.out hb);replace HO552:=As0.mk (Kd.N_below HO552.out hb);replace HB:=As0.mk (bsp HB.out hb);clear hb))
        show _;go_meet
        case rel=>exact ⟨_,(true),(by first|rfl|(simp;done)|(simp [*];done)),H',⟨by first|omega|exact Nat.le_refl _⟩,⟨HO549.out⟩,⟨HO552.out⟩,⟨HB.out⟩⟩
      · rw [if_neg c14] at H
        have c14b0:(t556 != t557) = false:=by simpa using c14
        (try (have c14b1:decide (t556 = t557) = true:=by simpa using c14))
        (try (have c14b2:(t556 == t557) = true:=by simpa using c14))
        clear c14;replace H:=Option.bind_eq_some_iff.mp H;obtain ⟨t558,A180,H⟩:=H;(try dsimp only at H);have A18:=As0.mk A180;clear A180;have H':=As0.mk H;clear H
        go_wp2_with (first|((with_reducible refine gca (f:=6) rfl ?_);refine gL (some 29) Tryd.func6 #[.slice Ao7 t547.length co7,.slice Ao8 t550.length co8,.string t553] ?_;(with_reducible refine (spec_UseSum.calls k _ _ t547 _ _ t550 t553 t555 _ ?side1 ?side2 ?side3 ?side4 A10.out).mono ?_);(case side1=>exact (Kd.R_reads' HO549.out).2.2);(case side2=>exact (Kd.R_reads' HO549.out).2.1);(case side3=>exact (Kd.N_reads' HO552.out).2.2);(case side4=>exact (Kd.N_reads' HO552.out).2.1);rintro e w19 ⟨rfl,hb⟩;refine ⟨_,rfl,?_⟩;replace HO549:=As0.mk (Kd.R_below HO549.out hb);replace HO552:=As0.mk (Kd.N_below HO552.out hb);replace HB:=As0.mk (bsp HB.out hb);clear hb)|(go_at_call 7;(with_reducible refine (impl_SpacesOk.calls k _ _ t547 t556 _ ?side1 ?side2 A12.out).mono ?_);(case side1=>exact (Kd.R_reads' HO549.out).2.2);(case side2=>exact (Kd.R_reads' HO549.out).2.1);rintro e w20 ⟨rfl,hb⟩;replace HO549:=As0.mk (Kd.R_below HO549.out hb);replace HO552:=As0.mk (Kd.N_below HO552.out hb);replace HB:=As0.mk (bsp HB.out hb);clear hb)|(go_at_call 8;(with_reducible refine (spec_SpacesOk.calls k _ _ t547 t557 _ ?side1 ?side2 A13.out).mono ?_);(case side1=>exact (Kd.R_reads' HO549.out).2.2);(case side2=>exact (Kd.R_reads' HO549.out).2.1);rintro e w21 ⟨rfl,hb⟩;replace HO549:=As0.mk (Kd.R_below HO549.out hb);replace HO552:=As0.mk (Kd.N_below HO552.out hb);replace HB:=As0.mk (bsp HB.out hb);clear hb)|(go_at_call 8;(with_reducible refine (spec_SpacesOk.calls k _ _ t547 t558 _ ?side1 ?side2 A18.out).mono ?_);(case side1=>exact (Kd.R_reads' HO549.out).2.2);(case side2=>exact (Kd.R_reads' HO549.out).2.1);rintro e w22 ⟨rfl,hb⟩;replace HO549:=As0.mk (Kd.R_below HO549.out hb);replace HO552:=As0.mk (Kd.N_below HO552.out hb);replace HB:=As0.mk (bsp HB.out hb);clear hb))
        show _;go_meet
        case rel=>have e_:=Option.some.inj (A13.out.symm.trans A18.out);exact ⟨_,(!t558),(by first|rfl|(rw [e_];done)|(simp [e_];done)|(simp;done)|(simp [*];done)),H',⟨by first|omega|exact Nat.le_refl _⟩,⟨HO549.out⟩,⟨HO552.out⟩,⟨HB.out⟩⟩
    · rw [if_neg c11] at H
      have c11b0:(t554 == t555) = false:=beq_eq_false_iff_ne.mpr c11;have c11b1:(t554 != t555) = true:=bne_iff_ne.mpr c11
      (first|rw [c11b0]|(simp only [i64_w,i32_w];rw [c11b0])|skip)
      have H':=As0.mk H;clear H
      go_wp2_with (first|((with_reducible refine gca (f:=6) rfl ?_);refine gL (some 29) Tryd.func6 #[.slice Ao7 t547.length co7,.slice Ao8 t550.length co8,.string t553] ?_;(with_reducible refine (spec_UseSum.calls k _ _ t547 _ _ t550 t553 t555 _ ?side1 ?side2 ?side3 ?side4 A10.out).mono ?_);(case side1=>exact (Kd.R_reads' HO549.out).2.2);(case side2=>exact (Kd.R_reads' HO549.out).2.1);(case side3=>exact (Kd.N_reads' HO552.out).2.2);(case side4=>exact (Kd.N_reads' HO552.out).2.1);rintro e w23 ⟨rfl,hb⟩;refine ⟨_,rfl,?_⟩;replace HO549:=As0.mk (Kd.R_below HO549.out hb);replace HO552:=As0.mk (Kd.N_below HO552.out hb);replace HB:=As0.mk (bsp HB.out hb);clear hb))
      show _;go_meet
      case rel=>exact ⟨_,(true),(by first|rfl|(simp;done)|(simp [*];done)),H',⟨by first|omega|exact Nat.le_refl _⟩,⟨HO549.out⟩,⟨HO552.out⟩,⟨HB.out⟩⟩
   case rest=>
    clear HC5
    try clear c1
    try clear c2
    try clear c2b0
    try clear c2b1
    try clear p2
    try clear c3
    try clear c4
    try clear c5
    try clear c6
    try clear c11
    try clear c11b0
    try clear c11b1
    try clear c14
    try clear c14b0
    try clear c14b1
    try clear c14b2
    obtain ⟨kq,x42_4,rfl,HA,HJ4,HO_3,HO_4,HB⟩:=hcut
    cases kq with
    |zero=>exact absurd HA.out (by simp [laws_FnUseSum.j0])
    |succ kj4=>
     have H:=HA.out;clear HA;simp only [laws_FnUseSum.j0] at H;by_cases c24:x42_4 = true
     · subst c24
       have H1:((spec_UseSum.f kj4 t547 t550 t553).bind fun t559=>(if t554 = t559 then ((impl_SpacesOk.f kj4 t547).bind fun t560=>((spec_SpacesOk.f kj4 t547).bind fun t561=>(some (t560 == t561)))) else (some false))) = some r:=by rw [if_pos rfl] at H;exact H
       clear H;have H:=H1;clear H1;replace H:=Option.bind_eq_some_iff.mp H;obtain ⟨t559,A250,H⟩:=H;(try dsimp only at H);have A25:=As0.mk A250;clear A250;by_cases c26:t554 = t559
       · rw [if_pos c26] at H
         have c26b0:(t554 == t559) = true:=beq_iff_eq.mpr c26;have c26b1:(t554 != t559) = false:=bne_eq_false_iff_eq.mpr c26;clear c26;replace H:=Option.bind_eq_some_iff.mp H;obtain ⟨t560,A270,H⟩:=H;(try dsimp only at H);have A27:=As0.mk A270;clear A270;replace H:=Option.bind_eq_some_iff.mp H;obtain ⟨t561,A280,H⟩:=H;(try dsimp only at H);have A28:=As0.mk A280;clear A280;obtain rfl:=Option.some.inj H
         go_wp2_with (first|((with_reducible refine gca (f:=6) rfl ?_);refine gL (some 47) Tryd.func6 #[.slice Ao7 t547.length co7,.slice Ao8 t550.length co8,.string t553] ?_;(with_reducible refine (spec_UseSum.calls kj4 _ _ t547 _ _ t550 t553 t559 _ ?side1 ?side2 ?side3 ?side4 A25.out).mono ?_);(case side1=>exact (Kd.R_reads' HO_3.out).2.2);(case side2=>exact (Kd.R_reads' HO_3.out).2.1);(case side3=>exact (Kd.N_reads' HO_4.out).2.2);(case side4=>exact (Kd.N_reads' HO_4.out).2.1);rintro e w29 ⟨rfl,hb⟩;refine ⟨_,rfl,?_⟩;replace HO_3:=As0.mk (Kd.R_below HO_3.out hb);replace HO_4:=As0.mk (Kd.N_below HO_4.out hb);replace HB:=As0.mk (bsp HB.out hb);clear hb)|(go_at_call 7;(with_reducible refine (impl_SpacesOk.calls kj4 _ _ t547 t560 _ ?side1 ?side2 A27.out).mono ?_);(case side1=>exact (Kd.R_reads' HO_3.out).2.2);(case side2=>exact (Kd.R_reads' HO_3.out).2.1);rintro e w30 ⟨rfl,hb⟩;replace HO_3:=As0.mk (Kd.R_below HO_3.out hb);replace HO_4:=As0.mk (Kd.N_below HO_4.out hb);replace HB:=As0.mk (bsp HB.out hb);clear hb)|(go_at_call 8;(with_reducible refine (spec_SpacesOk.calls kj4 _ _ t547 t561 _ ?side1 ?side2 A28.out).mono ?_);(case side1=>exact (Kd.R_reads' HO_3.out).2.2);(case side2=>exact (Kd.R_reads' HO_3.out).2.1);rintro e w31 ⟨rfl,hb⟩;replace HO_3:=As0.mk (Kd.R_below HO_3.out hb);replace HO_4:=As0.mk (Kd.N_below HO_4.out hb);replace HB:=As0.mk (bsp HB.out hb);clear hb))
         go_ret
         exact ⟨eW,HB.out⟩
       · rw [if_neg c26] at H
         have c26b0:(t554 == t559) = false:=beq_eq_false_iff_ne.mpr c26;have c26b1:(t554 != t559) = true:=bne_iff_ne.mpr c26
         exact absurd ((Option.some.inj H).trans HTru_.out) (by decide)
     · replace c24:=Bool.eq_false_iff.mpr c24
       subst c24;have H1:(laws_FnUseSum.l0 kj4 t547 t550 t553 t554 0 0) = some r:=by rw [if_neg (show ¬ (false = true) by decide)] at H;exact H
       clear H;have H:=H1;clear H1;have H':=As0.mk H;clear H
       go_wp2
       show _;go_loopg [7,8] kj4 (fun kq v7 v8 w'=>∃ (x7_2:Int) (x8_2:Int),v7 = .int .i64 x7_2 ∧ v8 = .int .i64 x8_2 ∧ As0 (laws_FnUseSum.l0 kq t547 t550 t553 t554 x7_2 x8_2 = some r) ∧ As0 (kq ≤ kj4) ∧ As0 (Kd.R k30 30 w' w.heap.size (fun _=>True) (.slice Ao7 t547.length co7) t547) ∧ As0 (Kd.N k34 34 w' w.heap.size (fun k_=>some k_ ≠ ((.slice Ao7 t547.length co7):Value).ownBlock) (.slice Ao8 t550.length co8) t550) ∧ As0 (Below w.heap.size w w'))
       case atStart=>exact ⟨(0),(0),(by first|rfl|(simp;done)|(simp [*];done)),(by first|rfl|(simp;done)|(simp [*];done)),H',⟨Nat.le_refl _⟩,⟨HO_3.out⟩,⟨HO_4.out⟩,⟨HB.out⟩⟩
       case round=>
        clear H'
        try clear c1
        try clear c2
        try clear c2b0
        try clear c2b1
        try clear p2
        try clear c3
        try clear c4
        try clear c5
        try clear c6
        try clear c11
        try clear c11b0
        try clear c11b1
        try clear c14
        try clear c14b0
        try clear c14b1
        try clear c14b2
        try clear c24
        try clear c26
        try clear c26b0
        try clear c26b1
        try clear p2
        obtain ⟨x7_2,x8_2,rfl,rfl,HA,HK2,HO_3,HO_4,HB⟩:=hrel
        cases gk with
        |zero=>exact absurd HA.out (by simp [laws_FnUseSum.l0])
        |succ k2=>
         have H:=HA.out;clear HA;simp only [laws_FnUseSum.l0] at H;by_cases c32:x8_2 < (t547.length:Int)
         · rw [if_pos c32] at H
           have c32b0:decide (x8_2 < (t547.length:Int)) = true:=decide_eq_true c32;clear c32;by_cases c33:0 ≤ x8_2
           · rw [if_pos c33] at H
             have c33b0:decide (0 ≤ x8_2) = true:=decide_eq_true c33;clear c33;by_cases c34:((riS26 t547 x8_2).f1).toList = t553.toList
             · rw [if_pos c34] at H
               have c34b0:(((riS26 t547 x8_2).f1).toList == t553.toList) = true:=beq_iff_eq.mpr c34;have c34b1:(((riS26 t547 x8_2).f1).toList != t553.toList) = false:=bne_eq_false_iff_eq.mpr c34;clear c34;replace H:=Option.bind_eq_some_iff.mp H;obtain ⟨t564,A350,H⟩:=H;(try dsimp only at H);have A35:=As0.mk A350;clear A350;have H':=As0.mk H;clear H;have p562:0 ≤ (x8_2:Int):=odt;have q562:x8_2 < (t547.length:Int):=odt;obtain ⟨ad562,e562,hx562_0,hx562_1,hx562_2,hx562_3,hx562_4⟩:=at_T30 (Kd.R_reads' HO_3.out).2.2 x8_2 p562 q562
               cases e562
               replace p562:=eq_true p562;replace q562:=eq_true q562;have p563:0 ≤ (x8_2:Int):=odt;have q563:x8_2 < (t547.length:Int):=odt;obtain ⟨ad563,e563,hx563_0,hx563_1,hx563_2,hx563_3,hx563_4⟩:=at_T30 (Kd.R_reads' HO_3.out).2.2 x8_2 p563 q563;obtain rfl:ad562 = ad563:=(by injection e563);replace p563:=eq_true p563;replace q563:=eq_true q563
               go_wp2_with (first|((with_reducible refine gca (f:=5) rfl ?_);refine gL (some 77) Tryd.func5 #[.slice (some ad562) t547.length co7,.slice Ao8 t550.length co8,.string ((riS26 t547 x8_2).f0)] ?_;(with_reducible refine (impl_UseSum.calls k2 _ _ t547 _ _ t550 ((riS26 t547 x8_2).f0) t564 _ ?side1 ?side2 ?side3 ?side4 A35.out).mono ?_);(case side1=>exact (Kd.R_reads' HO_3.out).2.2);(case side2=>exact (Kd.R_reads' HO_3.out).2.1);(case side3=>exact (Kd.N_reads' HO_4.out).2.2);(case side4=>exact (Kd.N_reads' HO_4.out).2.1);rintro e w36 ⟨rfl,hb⟩;refine ⟨_,rfl,?_⟩;replace HO_3:=As0.mk (Kd.R_below HO_3.out hb);replace HO_4:=As0.mk (Kd.N_below HO_4.out hb);replace HB:=As0.mk (bsp HB.out hb);clear hb))
               show _;go_roundg k2
               case measure=>have:=HJ4.out;have:=HK2.out;omega
               case rel=>exact ⟨(wrap64 (x7_2 + t564)),(wrap64 (x8_2 + 1)),(by first|rfl|(simp;done)|(simp [*];done)),(by first|rfl|(simp;done)|(simp [*];done)),H',⟨by have:=HJ4.out;have:=HK2.out;omega⟩,⟨HO_3.out⟩,⟨HO_4.out⟩,⟨HB.out⟩⟩
             · rw [if_neg c34] at H
               have c34b0:(((riS26 t547 x8_2).f1).toList == t553.toList) = false:=beq_eq_false_iff_ne.mpr c34;have c34b1:(((riS26 t547 x8_2).f1).toList != t553.toList) = true:=bne_iff_ne.mpr c34;have H':=As0.mk H;clear H;have p562:0 ≤ (x8_2:Int):=odt;have q562:x8_2 < (t547.length:Int):=odt;obtain ⟨ad562,e562,hx562_0,hx562_1,hx562_2,hx562_3,hx562_4⟩:=at_T30 (Kd.R_reads' HO_3.out).2.2 x8_2 p562 q562
               cases e562
               replace p562:=eq_true p562;replace q562:=eq_true q562
               go_wp2
               show _;go_roundg k2
               case measure=>have:=HJ4.out;have:=HK2.out;omega
               case rel=>exact ⟨(x7_2),(wrap64 (x8_2 + 1)),(by first|rfl|(simp;done)|(simp [*];done)),(by first|rfl|(simp;done)|(simp [*];done)),H',⟨by have:=HJ4.out;have:=HK2.out;omega⟩,⟨HO_3.out⟩,⟨HO_4.out⟩,⟨HB.out⟩⟩
           · rw [if_neg c33] at H
             exact absurd H (by simp)
         · rw [if_neg c32] at H
           have c32b0:decide (x8_2 < (t547.length:Int)) = false:=decide_eq_false c32;clear c32;have H':=As0.mk H;clear H
           go_wp2
           show _;go_loopg [9,10] k2 (fun kq v9 v10 w'=>∃ (x9_3:Bool) (x10_3:Int),v9 = .bool x9_3 ∧ v10 = .int .i64 x10_3 ∧ As0 (laws_FnUseSum.l1 kq t547 t550 t553 t554 x7_2 x9_3 x10_3 = some r) ∧ As0 (kq ≤ k2) ∧ As0 (Kd.R k30 30 w' w.heap.size (fun _=>True) (.slice Ao7 t547.length co7) t547) ∧ As0 (Kd.N k34 34 w' w.heap.size (fun k_=>some k_ ≠ ((.slice Ao7 t547.length co7):Value).ownBlock) (.slice Ao8 t550.length co8) t550) ∧ As0 (Below w.heap.size w w'))
           case atStart=>exact ⟨(false),(0),(by first|rfl|(simp;done)|(simp [*];done)),(by first|rfl|(simp;done)|(simp [*];done)),H',⟨Nat.le_refl _⟩,⟨HO_3.out⟩,⟨HO_4.out⟩,⟨HB.out⟩⟩
           case round=>
            clear H'
            try clear c1
            try clear c2
            try clear c2b0
            try clear c2b1
            try clear p2
            try clear c3
            try clear c4
            try clear c5
            try clear p5
            try clear q5
            try clear hx5
            try clear c6
            try clear p6
            try clear c11
            try clear c11b0
            try clear c11b1
            try clear c14
            try clear c14b0
            try clear c14b1
            try clear c14b2
            try clear c24
            try clear c26
            try clear c26b0
            try clear c26b1
            try clear c32
            try clear c32b0
            try clear c33
            try clear c33b0
            try clear c34
            try clear c34b0
            try clear c34b1
            try clear hx562_0
            try clear hx562_1
            try clear hx562_2
            try clear hx562_3
            try clear hx562_4
            try clear hx563_0
            try clear hx563_1
            try clear hx563_2
            try clear hx563_3
            try clear hx563_4
            try clear p2
            try clear p562
            try clear p563
            try clear q562
            try clear q563
            obtain ⟨x9_3,x10_3,rfl,rfl,HA,HK3,HO_3,HO_4,HB⟩:=hrel
            cases gk with
            |zero=>exact absurd HA.out (by simp [laws_FnUseSum.l1])
            |succ k3=>
             have H:=HA.out;clear HA;simp only [laws_FnUseSum.l1] at H;by_cases c37:x10_3 < (t547.length:Int)
             · rw [if_pos c37] at H
               have c37b0:decide (x10_3 < (t547.length:Int)) = true:=decide_eq_true c37;clear c37;by_cases c38:x9_3 = true
               · subst c38
                 have H1:(laws_FnUseSum.l1 k3 t547 t550 t553 t554 x7_2 true (wrap64 (x10_3 + 1))) = some r:=by rw [if_pos rfl] at H;exact H
                 clear H;have H:=H1;clear H1;have H':=As0.mk H;clear H
                 go_wp2
                 show _;go_roundg k3
                 case measure=>have:=HJ4.out;have:=HK2.out;have:=HK3.out;omega
                 case rel=>exact ⟨(true),(wrap64 (x10_3 + 1)),(by first|rfl|(simp;done)|(simp [*];done)),(by first|rfl|(simp;done)|(simp [*];done)),H',⟨by have:=HJ4.out;have:=HK2.out;have:=HK3.out;omega⟩,⟨HO_3.out⟩,⟨HO_4.out⟩,⟨HB.out⟩⟩
               · replace c38:=Bool.eq_false_iff.mpr c38
                 subst c38;have H1:(if 0 ≤ x10_3 then (laws_FnUseSum.l1 k3 t547 t550 t553 t554 x7_2 (((riS26 t547 x10_3).f0).toList == t553.toList) (wrap64 (x10_3 + 1))) else (none)) = some r:=by rw [if_neg (show ¬ (false = true) by decide)] at H;exact H
                 clear H;have H:=H1;clear H1;by_cases c39:0 ≤ x10_3
                 · rw [if_pos c39] at H
                   have c39b0:decide (0 ≤ x10_3) = true:=decide_eq_true c39;clear c39;have H':=As0.mk H;clear H;have p565:0 ≤ (x10_3:Int):=odt;have q565:x10_3 < (t547.length:Int):=odt;obtain ⟨ad565,e565,hx565_0,hx565_1,hx565_2,hx565_3,hx565_4⟩:=at_T30 (Kd.R_reads' HO_3.out).2.2 x10_3 p565 q565
                   cases e565
                   replace p565:=eq_true p565;replace q565:=eq_true q565
                   go_wp2
                   show _;go_roundg k3
                   case measure=>have:=HJ4.out;have:=HK2.out;have:=HK3.out;omega
                   case rel=>exact ⟨((((riS26 t547 x10_3).f0).toList == t553.toList)),(wrap64 (x10_3 + 1)),(by first|rfl|(simp;done)|(simp [*];done)),(by first|rfl|(simp;done)|(simp [*];done)),H',⟨by have:=HJ4.out;have:=HK2.out;have:=HK3.out;omega⟩,⟨HO_3.out⟩,⟨HO_4.out⟩,⟨HB.out⟩⟩
                 · rw [if_neg c39] at H
                   exact absurd H (by simp)
             · rw [if_neg c37] at H
               have c37b0:decide (x10_3 < (t547.length:Int)) = false:=decide_eq_false c37;clear c37;have H':=As0.mk H;clear H
               go_wp2
               show _;go_loopg [7,11] k3 (fun kq v7 v11 w'=>∃ (x7_4:Int) (x11_4:Int),v7 = .int .i64 x7_4 ∧ v11 = .int .i64 x11_4 ∧ As0 (laws_FnUseSum.l2 kq t550 t553 t554 x7_4 x9_3 x11_4 = some r) ∧ As0 (kq ≤ k3) ∧ As0 (Kd.N k34 34 w' w.heap.size (fun _=>True) (.slice Ao8 t550.length co8) t550) ∧ As0 (Below w.heap.size w w'))
               case atStart=>exact ⟨(x7_2),(0),(by first|rfl|(simp;done)|(simp [*];done)),(by first|rfl|(simp;done)|(simp [*];done)),H',⟨Nat.le_refl _⟩,⟨by (with_reducible repeat (first|apply Kd.N_alloc|apply Kd.N_drewN|apply Kd.N_drew));exact Kd.N_mono HO_4.out (fun _ hk=>trivial)⟩,⟨HB.out⟩⟩
               case round=>
                clear H'
                try clear c1
                try clear c2
                try clear c2b0
                try clear c2b1
                try clear p2
                try clear c3
                try clear c4
                try clear c5
                try clear p5
                try clear q5
                try clear hx5
                try clear c6
                try clear p6
                try clear c11
                try clear c11b0
                try clear c11b1
                try clear c14
                try clear c14b0
                try clear c14b1
                try clear c14b2
                try clear c24
                try clear c26
                try clear c26b0
                try clear c26b1
                try clear c32
                try clear c32b0
                try clear c33
                try clear c33b0
                try clear c34
                try clear c34b0
                try clear c34b1
                try clear c37
                try clear c37b0
                try clear c38
                try clear c39
                try clear c39b0
                try clear hx562_0
                try clear hx562_1
                try clear hx562_2
                try clear hx562_3
                try clear hx562_4
                try clear hx563_0
                try clear hx563_1
                try clear hx563_2
                try clear hx563_3
                try clear hx563_4
                try clear hx565_0
                try clear hx565_1
                try clear hx565_2
                try clear hx565_3
                try clear hx565_4
                try clear p2
                try clear p5
                try clear p562
                try clear p563
                try clear p565
                try clear p6
                try clear q5
                try clear q562
                try clear q563
                try clear q565
                obtain ⟨x7_4,x11_4,rfl,rfl,HA,HK4,HO_4,HB⟩:=hrel
                cases gk with
                |zero=>exact absurd HA.out (by simp [laws_FnUseSum.l2])
                |succ k4=>
                 have H:=HA.out;clear HA;simp only [laws_FnUseSum.l2] at H;by_cases c40:x11_4 < (t550.length:Int)
                 · rw [if_pos c40] at H
                   have c40b0:decide (x11_4 < (t550.length:Int)) = true:=decide_eq_true c40;clear c40;by_cases c41:0 ≤ x11_4
                   · rw [if_pos c41] at H
                     have c41b0:decide (0 ≤ x11_4) = true:=decide_eq_true c41;clear c41;replace H:=Option.bind_eq_some_iff.mp H;obtain ⟨t567,A420,H⟩:=H;(try dsimp only at H);have A42:=As0.mk A420;clear A420;by_cases c43:t567 = true
                     · subst c43
                       have H1:(if ((riT27 t550 x11_4).f0).toList = t553.toList then (if x9_3 = true then ((impl_ThingCost.f k4 ((riT27 t550 x11_4).f0) ((riT27 t550 x11_4).f1) ((riT27 t550 x11_4).f2) ((riT27 t550 x11_4).f3) ((riT27 t550 x11_4).f4) ((riT27 t550 x11_4).f5) ((riT27 t550 x11_4).f6)).bind fun t570=>(laws_FnUseSum.l2 k4 t550 t553 t554 (wrap64 (x7_4 + t570)) x9_3 (wrap64 (x11_4 + 1)))) else (laws_FnUseSum.l2 k4 t550 t553 t554 x7_4 x9_3 (wrap64 (x11_4 + 1)))) else (laws_FnUseSum.l2 k4 t550 t553 t554 x7_4 x9_3 (wrap64 (x11_4 + 1)))) = some r:=by rw [if_pos rfl] at H;exact H
                       clear H;have H:=H1;clear H1;by_cases c44:((riT27 t550 x11_4).f0).toList = t553.toList
                       · rw [if_pos c44] at H
                         have c44b0:(((riT27 t550 x11_4).f0).toList == t553.toList) = true:=beq_iff_eq.mpr c44;have c44b1:(((riT27 t550 x11_4).f0).toList != t553.toList) = false:=bne_eq_false_iff_eq.mpr c44;clear c44;by_cases c45:x9_3 = true
                         · subst c45
                           have H1:((impl_ThingCost.f k4 ((riT27 t550 x11_4).f0) ((riT27 t550 x11_4).f1) ((riT27 t550 x11_4).f2) ((riT27 t550 x11_4).f3) ((riT27 t550 x11_4).f4) ((riT27 t550 x11_4).f5) ((riT27 t550 x11_4).f6)).bind fun t570=>(laws_FnUseSum.l2 k4 t550 t553 t554 (wrap64 (x7_4 + t570)) true (wrap64 (x11_4 + 1)))) = some r:=by rw [if_pos rfl] at H;exact H
                           clear H;have H:=H1;clear H1;replace H:=Option.bind_eq_some_iff.mp H;obtain ⟨t570,A460,H⟩:=H;(try dsimp only at H);have A46:=As0.mk A460;clear A460;have H':=As0.mk H;clear H;have p566:0 ≤ (x11_4:Int):=odt;have q566:x11_4 < (t550.length:Int):=odt;obtain ⟨ad566,A566_5,c566_5,e566,hx566_0,hx566_1,hx566_2,hx566_3,hx566_4,hx566_5,hx566_6,hl566_5,hi566_5⟩:=at_T34 (Kd.N_reads' HO_4.out).2.2 x11_4 p566 q566
                           cases e566
                           obtain ⟨ce566,hce566,hMe566,hcc566⟩:=Kd.N_get HO_4.out ziT29 x11_4 p566 (by first|exact q566|exact odt|(have e_:=(Kd.N_reads' HO_4.out).1;omega));obtain ⟨ua566_5,uc566_5,rfl,ul566_5,ge566_5⟩:=k34_openF hMe566;have hv566_5:=hcc566 5 _ rfl;rw [add_field _ _ 5 (by omega)] at hv566_5;replace hv566_5:=Option.some.inj (hv566_5.symm.trans hx566_5);injection hv566_5 with hva_ hvn_ hvc_
                           rw [hva_] at ge566_5;rw [hvc_] at ul566_5;have HL566_5:=As0.mk (show Kd.V Kd.string 9 _ w.heap.size _ _ ((riT27 t550 x11_4).f5) from Kd.V_mk ul566_5 ge566_5);clear hva_ hvn_ hvc_ ge566_5 ul566_5;clear hcc566 hce566;have HR566_5:=As0.mk hi566_5;have HC566_5:=As0.mk hl566_5;clear hi566_5 hl566_5;replace p566:=eq_true p566;replace q566:=eq_true q566
                           go_wp2_with (first|((with_reducible refine gca (f:=9) rfl ?_);refine gL (some 105) Tryd.func9 #[.agg #[.string ((riT27 t550 x11_4).f0),.string ((riT27 t550 x11_4).f1),.int .i64 ((riT27 t550 x11_4).f2),.int .i64 ((riT27 t550 x11_4).f3),.bool ((riT27 t550 x11_4).f4),.slice A566_5 ((riT27 t550 x11_4).f5).length c566_5,.string ((riT27 t550 x11_4).f6)]] ?_;(with_reducible refine (impl_ThingOk.calls k4 ((riT27 t550 x11_4).f0) ((riT27 t550 x11_4).f1) ((riT27 t550 x11_4).f2) ((riT27 t550 x11_4).f3) ((riT27 t550 x11_4).f4) _ _ ((riT27 t550 x11_4).f5) ((riT27 t550 x11_4).f6) true _ ?side1 ?side2 A42.out).mono ?_);(case side1=>repeat (first|exact (by repeat (first|(with_reducible exact HR566_5.out)|(with_reducible first|refine Kd.C_alloc ?_ _|refine Kd.C_drewN ?_ _|refine Kd.C_drew ?_)|exact HR566_5.out))|(with_reducible first|refine Kd.C_alloc ?_ _|refine Kd.C_drewN ?_ _|refine Kd.C_drew ?_)));(case side2=>exact HC566_5.out);rintro e w47 ⟨rfl,hb⟩;refine ⟨_,rfl,?_⟩;replace HO_4:=As0.mk (Kd.N_below HO_4.out hb);replace HL566_5:=As0.mk (Kd.V_below HL566_5.out hb);replace HR566_5:=As0.mk (Kd.C_below (by repeat (first|(with_reducible exact HR566_5.out)|(with_reducible first|refine Kd.C_alloc ?_ _|refine Kd.C_drewN ?_ _|refine Kd.C_drew ?_)|exact HR566_5.out)) hb);replace HB:=As0.mk (bsp HB.out hb);clear hb;have p568:0 ≤ (x11_4:Int):=odt;have q568:x11_4 < (t550.length:Int):=odt;obtain ⟨ad568,A568_5,c568_5,e568,hx568_0,hx568_1,hx568_2,hx568_3,hx568_4,hx568_5,hx568_6,hl568_5,hi568_5⟩:=at_T34 (Kd.N_reads' HO_4.out).2.2 x11_4 p568 q568;obtain rfl:ad566 = ad568:=(by injection e568);obtain ⟨ce568,hce568,hMe568,hcc568⟩:=Kd.N_get HO_4.out ziT29 x11_4 p568 (by first|exact q568|exact odt|(have e_:=(Kd.N_reads' HO_4.out).1;omega));obtain ⟨ua568_5,uc568_5,rfl,ul568_5,ge568_5⟩:=k34_openF hMe568;have hv568_5:=hcc568 5 _ rfl;rw [add_field _ _ 5 (by omega)] at hv568_5;replace hv568_5:=Option.some.inj (hv568_5.symm.trans hx568_5);injection hv568_5 with hva_ hvn_ hvc_;rw [hva_] at ge568_5;rw [hvc_] at ul568_5;have HL568_5:=As0.mk (show Kd.V Kd.string 9 _ w.heap.size _ _ ((riT27 t550 x11_4).f5) from Kd.V_mk ul568_5 ge568_5);clear hva_ hvn_ hvc_ ge568_5 ul568_5 hcc568 hce568;have HR568_5:=As0.mk hi568_5;have HC568_5:=As0.mk hl568_5;clear hi568_5 hl568_5;replace p568:=eq_true p568;replace q568:=eq_true q568;have p569:0 ≤ (x11_4:Int):=odt;have q569:x11_4 < (t550.length:Int):=odt;obtain ⟨ad569,A569_5,c569_5,e569,hx569_0,hx569_1,hx569_2,hx569_3,hx569_4,hx569_5,hx569_6,hl569_5,hi569_5⟩:=at_T34 (Kd.N_reads' HO_4.out).2.2 x11_4 p569 q569;obtain rfl:ad566 = ad569:=(by injection e569);obtain ⟨ce569,hce569,hMe569,hcc569⟩:=Kd.N_get HO_4.out ziT29 x11_4 p569 (by first|exact q569|exact odt|(have e_:=(Kd.N_reads' HO_4.out).1;omega));obtain ⟨ua569_5,uc569_5,rfl,ul569_5,ge569_5⟩:=k34_openF hMe569;have hv569_5:=hcc569 5 _ rfl;rw [add_field _ _ 5 (by omega)] at hv569_5;replace hv569_5:=Option.some.inj (hv569_5.symm.trans hx569_5);injection hv569_5 with hva_ hvn_ hvc_;rw [hva_] at ge569_5;rw [hvc_] at ul569_5;have HL569_5:=As0.mk (show Kd.V Kd.string 9 _ w.heap.size _ _ ((riT27 t550 x11_4).f5) from Kd.V_mk ul569_5 ge569_5);clear hva_ hvn_ hvc_ ge569_5 ul569_5 hcc569 hce569;have HR569_5:=As0.mk hi569_5;have HC569_5:=As0.mk hl569_5;clear hi569_5 hl569_5;replace p569:=eq_true p569;replace q569:=eq_true q569;have ea_:=Option.some.inj (hx568_5.symm.trans hx569_5);injection ea_ with ea_ en_ ec_;subst ea_;subst ec_;clear en_)|((with_reducible refine gca (f:=10) rfl ?_);refine gL (some 124) Tryd.func10 #[.agg #[.string ((riT27 t550 x11_4).f0),.string ((riT27 t550 x11_4).f1),.int .i64 ((riT27 t550 x11_4).f2),.int .i64 ((riT27 t550 x11_4).f3),.bool ((riT27 t550 x11_4).f4),.slice A568_5 ((riT27 t550 x11_4).f5).length c568_5,.string ((riT27 t550 x11_4).f6)]] ?_;(with_reducible refine (impl_ThingCost.calls k4 ((riT27 t550 x11_4).f0) ((riT27 t550 x11_4).f1) ((riT27 t550 x11_4).f2) ((riT27 t550 x11_4).f3) ((riT27 t550 x11_4).f4) _ _ ((riT27 t550 x11_4).f5) ((riT27 t550 x11_4).f6) t570 _ ?side1 ?side2 A46.out).mono ?_);(case side1=>repeat (first|exact (by repeat (first|(with_reducible exact HR569_5.out)|(with_reducible first|refine Kd.C_alloc ?_ _|refine Kd.C_drewN ?_ _|refine Kd.C_drew ?_)|exact HR569_5.out))|(with_reducible first|refine Kd.C_alloc ?_ _|refine Kd.C_drewN ?_ _|refine Kd.C_drew ?_)));(case side2=>exact HC569_5.out);rintro e w48 ⟨rfl,hb⟩;refine ⟨_,rfl,?_⟩;replace HO_4:=As0.mk (Kd.N_below HO_4.out hb);replace HL566_5:=As0.mk (Kd.V_below HL566_5.out hb);replace HL568_5:=As0.mk (Kd.V_below HL568_5.out hb);replace HL569_5:=As0.mk (Kd.V_below HL569_5.out hb);replace HR566_5:=As0.mk (Kd.C_below (by repeat (first|(with_reducible exact HR566_5.out)|(with_reducible first|refine Kd.C_alloc ?_ _|refine Kd.C_drewN ?_ _|refine Kd.C_drew ?_)|exact HR566_5.out)) hb);replace HR568_5:=As0.mk (Kd.C_below (by repeat (first|(with_reducible exact HR568_5.out)|(with_reducible first|refine Kd.C_alloc ?_ _|refine Kd.C_drewN ?_ _|refine Kd.C_drew ?_)|exact HR568_5.out)) hb);replace HR569_5:=As0.mk (Kd.C_below (by repeat (first|(with_reducible exact HR569_5.out)|(with_reducible first|refine Kd.C_alloc ?_ _|refine Kd.C_drewN ?_ _|refine Kd.C_drew ?_)|exact HR569_5.out)) hb);replace HB:=As0.mk (bsp HB.out hb);clear hb))
                           show _;go_roundg k4
                           case measure=>have:=HJ4.out;have:=HK2.out;have:=HK3.out;have:=HK4.out;omega
                           case rel=>exact ⟨(wrap64 (x7_4 + t570)),(wrap64 (x11_4 + 1)),(by first|rfl|(simp;done)|(simp [*];done)),(by first|rfl|(simp;done)|(simp [*];done)),H',⟨by have:=HJ4.out;have:=HK2.out;have:=HK3.out;have:=HK4.out;omega⟩,⟨HO_4.out⟩,⟨HB.out⟩⟩
                         · replace c45:=Bool.eq_false_iff.mpr c45
                           subst c45;have H1:(laws_FnUseSum.l2 k4 t550 t553 t554 x7_4 false (wrap64 (x11_4 + 1))) = some r:=by rw [if_neg (show ¬ (false = true) by decide)] at H;exact H
                           clear H;have H:=H1;clear H1;have H':=As0.mk H;clear H;have p566:0 ≤ (x11_4:Int):=odt;have q566:x11_4 < (t550.length:Int):=odt;obtain ⟨ad566,A566_5,c566_5,e566,hx566_0,hx566_1,hx566_2,hx566_3,hx566_4,hx566_5,hx566_6,hl566_5,hi566_5⟩:=at_T34 (Kd.N_reads' HO_4.out).2.2 x11_4 p566 q566
                           cases e566
                           obtain ⟨ce566,hce566,hMe566,hcc566⟩:=Kd.N_get HO_4.out ziT29 x11_4 p566 (by first|exact q566|exact odt|(have e_:=(Kd.N_reads' HO_4.out).1;omega));obtain ⟨ua566_5,uc566_5,rfl,ul566_5,ge566_5⟩:=k34_openF hMe566;have hv566_5:=hcc566 5 _ rfl;rw [add_field _ _ 5 (by omega)] at hv566_5;replace hv566_5:=Option.some.inj (hv566_5.symm.trans hx566_5);injection hv566_5 with hva_ hvn_ hvc_
                           rw [hva_] at ge566_5;rw [hvc_] at ul566_5;have HL566_5:=As0.mk (show Kd.V Kd.string 9 _ w.heap.size _ _ ((riT27 t550 x11_4).f5) from Kd.V_mk ul566_5 ge566_5);clear hva_ hvn_ hvc_ ge566_5 ul566_5;clear hcc566 hce566;have HR566_5:=As0.mk hi566_5;have HC566_5:=As0.mk hl566_5;clear hi566_5 hl566_5;replace p566:=eq_true p566;replace q566:=eq_true q566
                           go_wp2_with (first|((with_reducible refine gca (f:=9) rfl ?_);refine gL (some 105) Tryd.func9 #[.agg #[.string ((riT27 t550 x11_4).f0),.string ((riT27 t550 x11_4).f1),.int .i64 ((riT27 t550 x11_4).f2),.int .i64 ((riT27 t550 x11_4).f3),.bool ((riT27 t550 x11_4).f4),.slice A566_5 ((riT27 t550 x11_4).f5).length c566_5,.string ((riT27 t550 x11_4).f6)]] ?_;(with_reducible refine (impl_ThingOk.calls k4 ((riT27 t550 x11_4).f0) ((riT27 t550 x11_4).f1) ((riT27 t550 x11_4).f2) ((riT27 t550 x11_4).f3) ((riT27 t550 x11_4).f4) _ _ ((riT27 t550 x11_4).f5) ((riT27 t550 x11_4).f6) true _ ?side1 ?side2 A42.out).mono ?_);(case side1=>repeat (first|exact (by repeat (first|(with_reducible exact HR566_5.out)|(with_reducible first|refine Kd.C_alloc ?_ _|refine Kd.C_drewN ?_ _|refine Kd.C_drew ?_)|exact HR566_5.out))|(with_reducible first|refine Kd.C_alloc ?_ _|refine Kd.C_drewN ?_ _|refine Kd.C_drew ?_)));(case side2=>exact HC566_5.out);rintro e w49 ⟨rfl,hb⟩;refine ⟨_,rfl,?_⟩;replace HO_4:=As0.mk (Kd.N_below HO_4.out hb);replace HL566_5:=As0.mk (Kd.V_below HL566_5.out hb);replace HR566_5:=As0.mk (Kd.C_below (by repeat (first|(with_reducible exact HR566_5.out)|(with_reducible first|refine Kd.C_alloc ?_ _|refine Kd.C_drewN ?_ _|refine Kd.C_drew ?_)|exact HR566_5.out)) hb);replace HB:=As0.mk (bsp HB.out hb);clear hb;have p568:0 ≤ (x11_4:Int):=odt;have q568:x11_4 < (t550.length:Int):=odt;obtain ⟨ad568,A568_5,c568_5,e568,hx568_0,hx568_1,hx568_2,hx568_3,hx568_4,hx568_5,hx568_6,hl568_5,hi568_5⟩:=at_T34 (Kd.N_reads' HO_4.out).2.2 x11_4 p568 q568;obtain rfl:ad566 = ad568:=(by injection e568);obtain ⟨ce568,hce568,hMe568,hcc568⟩:=Kd.N_get HO_4.out ziT29 x11_4 p568 (by first|exact q568|exact odt|(have e_:=(Kd.N_reads' HO_4.out).1;omega));obtain ⟨ua568_5,uc568_5,rfl,ul568_5,ge568_5⟩:=k34_openF hMe568;have hv568_5:=hcc568 5 _ rfl;rw [add_field _ _ 5 (by omega)] at hv568_5;replace hv568_5:=Option.some.inj (hv568_5.symm.trans hx568_5);injection hv568_5 with hva_ hvn_ hvc_;rw [hva_] at ge568_5;rw [hvc_] at ul568_5;have HL568_5:=As0.mk (show Kd.V Kd.string 9 _ w.heap.size _ _ ((riT27 t550 x11_4).f5) from Kd.V_mk ul568_5 ge568_5);clear hva_ hvn_ hvc_ ge568_5 ul568_5 hcc568 hce568;have HR568_5:=As0.mk hi568_5;have HC568_5:=As0.mk hl568_5;clear hi568_5 hl568_5;replace p568:=eq_true p568;replace q568:=eq_true q568))
                           show _;go_roundg k4
                           case measure=>have:=HJ4.out;have:=HK2.out;have:=HK3.out;have:=HK4.out;omega
                           case rel=>exact ⟨(x7_4),(wrap64 (x11_4 + 1)),(by first|rfl|(simp;done)|(simp [*];done)),(by first|rfl|(simp;done)|(simp [*];done)),H',⟨by have:=HJ4.out;have:=HK2.out;have:=HK3.out;have:=HK4.out;omega⟩,⟨HO_4.out⟩,⟨HB.out⟩⟩
                       · rw [if_neg c44] at H
                         have c44b0:(((riT27 t550 x11_4).f0).toList == t553.toList) = false:=beq_eq_false_iff_ne.mpr c44;have c44b1:(((riT27 t550 x11_4).f0).toList != t553.toList) = true:=bne_iff_ne.mpr c44;have H':=As0.mk H;clear H;have p566:0 ≤ (x11_4:Int):=odt;have q566:x11_4 < (t550.length:Int):=odt;obtain ⟨ad566,A566_5,c566_5,e566,hx566_0,hx566_1,hx566_2,hx566_3,hx566_4,hx566_5,hx566_6,hl566_5,hi566_5⟩:=at_T34 (Kd.N_reads' HO_4.out).2.2 x11_4 p566 q566
                         cases e566
                         obtain ⟨ce566,hce566,hMe566,hcc566⟩:=Kd.N_get HO_4.out ziT29 x11_4 p566 (by first|exact q566|exact odt|(have e_:=(Kd.N_reads' HO_4.out).1;omega));obtain ⟨ua566_5,uc566_5,rfl,ul566_5,ge566_5⟩:=k34_openF hMe566;have hv566_5:=hcc566 5 _ rfl;rw [add_field _ _ 5 (by omega)] at hv566_5;replace hv566_5:=Option.some.inj (hv566_5.symm.trans hx566_5);injection hv566_5 with hva_ hvn_ hvc_
                         rw [hva_] at ge566_5;rw [hvc_] at ul566_5;have HL566_5:=As0.mk (show Kd.V Kd.string 9 _ w.heap.size _ _ ((riT27 t550 x11_4).f5) from Kd.V_mk ul566_5 ge566_5);clear hva_ hvn_ hvc_ ge566_5 ul566_5;clear hcc566 hce566;have HR566_5:=As0.mk hi566_5;have HC566_5:=As0.mk hl566_5;clear hi566_5 hl566_5;replace p566:=eq_true p566;replace q566:=eq_true q566
                         go_wp2_with (first|((with_reducible refine gca (f:=9) rfl ?_);refine gL (some 105) Tryd.func9 #[.agg #[.string ((riT27 t550 x11_4).f0),.string ((riT27 t550 x11_4).f1),.int .i64 ((riT27 t550 x11_4).f2),.int .i64 ((riT27 t550 x11_4).f3),.bool ((riT27 t550 x11_4).f4),.slice A566_5 ((riT27 t550 x11_4).f5).length c566_5,.string ((riT27 t550 x11_4).f6)]] ?_;(with_reducible refine (impl_ThingOk.calls k4 ((riT27 t550 x11_4).f0) ((riT27 t550 x11_4).f1) ((riT27 t550 x11_4).f2) ((riT27 t550 x11_4).f3) ((riT27 t550 x11_4).f4) _ _ ((riT27 t550 x11_4).f5) ((riT27 t550 x11_4).f6) true _ ?side1 ?side2 A42.out).mono ?_);(case side1=>repeat (first|exact (by repeat (first|(with_reducible exact HR566_5.out)|(with_reducible first|refine Kd.C_alloc ?_ _|refine Kd.C_drewN ?_ _|refine Kd.C_drew ?_)|exact HR566_5.out))|(with_reducible first|refine Kd.C_alloc ?_ _|refine Kd.C_drewN ?_ _|refine Kd.C_drew ?_)));(case side2=>exact HC566_5.out);rintro e w50 ⟨rfl,hb⟩;refine ⟨_,rfl,?_⟩;replace HO_4:=As0.mk (Kd.N_below HO_4.out hb);replace HL566_5:=As0.mk (Kd.V_below HL566_5.out hb);replace HR566_5:=As0.mk (Kd.C_below (by repeat (first|(with_reducible exact HR566_5.out)|(with_reducible first|refine Kd.C_alloc ?_ _|refine Kd.C_drewN ?_ _|refine Kd.C_drew ?_)|exact HR566_5.out)) hb);replace HB:=As0.mk (bsp HB.out hb);clear hb;have p568:0 ≤ (x11_4:Int):=odt;have q568:x11_4 < (t550.length:Int):=odt;obtain ⟨ad568,A568_5,c568_5,e568,hx568_0,hx568_1,hx568_2,hx568_3,hx568_4,hx568_5,hx568_6,hl568_5,hi568_5⟩:=at_T34 (Kd.N_reads' HO_4.out).2.2 x11_4 p568 q568;obtain rfl:ad566 = ad568:=(by injection e568);obtain ⟨ce568,hce568,hMe568,hcc568⟩:=Kd.N_get HO_4.out ziT29 x11_4 p568 (by first|exact q568|exact odt|(have e_:=(Kd.N_reads' HO_4.out).1;omega));obtain ⟨ua568_5,uc568_5,rfl,ul568_5,ge568_5⟩:=k34_openF hMe568;have hv568_5:=hcc568 5 _ rfl;rw [add_field _ _ 5 (by omega)] at hv568_5;replace hv568_5:=Option.some.inj (hv568_5.symm.trans hx568_5);injection hv568_5 with hva_ hvn_ hvc_;rw [hva_] at ge568_5;rw [hvc_] at ul568_5;have HL568_5:=As0.mk (show Kd.V Kd.string 9 _ w.heap.size _ _ ((riT27 t550 x11_4).f5) from Kd.V_mk ul568_5 ge568_5);clear hva_ hvn_ hvc_ ge568_5 ul568_5 hcc568 hce568;have HR568_5:=As0.mk hi568_5;have HC568_5:=As0.mk hl568_5;clear hi568_5 hl568_5;replace p568:=eq_true p568;replace q568:=eq_true q568))
                         show _;go_roundg k4
                         case measure=>have:=HJ4.out;have:=HK2.out;have:=HK3.out;have:=HK4.out;omega
                         case rel=>exact ⟨(x7_4),(wrap64 (x11_4 + 1)),(by first|rfl|(simp;done)|(simp [*];done)),(by first|rfl|(simp;done)|(simp [*];done)),H',⟨by have:=HJ4.out;have:=HK2.out;have:=HK3.out;have:=HK4.out;omega⟩,⟨HO_4.out⟩,⟨HB.out⟩⟩
                     · replace c43:=Bool.eq_false_iff.mpr c43
                       subst c43;have H1:(some (t554 == 0)) = some r:=by rw [if_neg (show ¬ (false = true) by decide)] at H;exact H
                       clear H;have H:=H1;clear H1;obtain rfl:=Option.some.inj H;have p566:0 ≤ (x11_4:Int):=odt;have q566:x11_4 < (t550.length:Int):=odt;obtain ⟨ad566,A566_5,c566_5,e566,hx566_0,hx566_1,hx566_2,hx566_3,hx566_4,hx566_5,hx566_6,hl566_5,hi566_5⟩:=at_T34 (Kd.N_reads' HO_4.out).2.2 x11_4 p566 q566
                       cases e566
                       obtain ⟨ce566,hce566,hMe566,hcc566⟩:=Kd.N_get HO_4.out ziT29 x11_4 p566 (by first|exact q566|exact odt|(have e_:=(Kd.N_reads' HO_4.out).1;omega));obtain ⟨ua566_5,uc566_5,rfl,ul566_5,ge566_5⟩:=k34_openF hMe566;have hv566_5:=hcc566 5 _ rfl;rw [add_field _ _ 5 (by omega)] at hv566_5;replace hv566_5:=Option.some.inj (hv566_5.symm.trans hx566_5);injection hv566_5 with hva_ hvn_ hvc_
                       rw [hva_] at ge566_5;rw [hvc_] at ul566_5;have HL566_5:=As0.mk (show Kd.V Kd.string 9 _ w.heap.size _ _ ((riT27 t550 x11_4).f5) from Kd.V_mk ul566_5 ge566_5);clear hva_ hvn_ hvc_ ge566_5 ul566_5;clear hcc566 hce566;have HR566_5:=As0.mk hi566_5;have HC566_5:=As0.mk hl566_5;clear hi566_5 hl566_5;replace p566:=eq_true p566;replace q566:=eq_true q566
                       go_wp2_with (first|((with_reducible refine gca (f:=9) rfl ?_);refine gL (some 105) Tryd.func9 #[.agg #[.string ((riT27 t550 x11_4).f0),.string ((riT27 t550 x11_4).f1),.int .i64 ((riT27 t550 x11_4).f2),.int .i64 ((riT27 t550 x11_4).f3),.bool ((riT27 t550 x11_4).f4),.slice A566_5 ((riT27 t550 x11_4).f5).length c566_5,.string ((riT27 t550 x11_4).f6)]] ?_;(with_reducible refine (impl_ThingOk.calls k4 ((riT27 t550 x11_4).f0) ((riT27 t550 x11_4).f1) ((riT27 t550 x11_4).f2) ((riT27 t550 x11_4).f3) ((riT27 t550 x11_4).f4) _ _ ((riT27 t550 x11_4).f5) ((riT27 t550 x11_4).f6) false _ ?side1 ?side2 A42.out).mono ?_);(case side1=>repeat (first|exact (by repeat (first|(with_reducible exact HR566_5.out)|(with_reducible first|refine Kd.C_alloc ?_ _|refine Kd.C_drewN ?_ _|refine Kd.C_drew ?_)|exact HR566_5.out))|(with_reducible first|refine Kd.C_alloc ?_ _|refine Kd.C_drewN ?_ _|refine Kd.C_drew ?_)));(case side2=>exact HC566_5.out);rintro e w51 ⟨rfl,hb⟩;refine ⟨_,rfl,?_⟩;replace HO_4:=As0.mk (Kd.N_below HO_4.out hb);replace HL566_5:=As0.mk (Kd.V_below HL566_5.out hb);replace HR566_5:=As0.mk (Kd.C_below (by repeat (first|(with_reducible exact HR566_5.out)|(with_reducible first|refine Kd.C_alloc ?_ _|refine Kd.C_drewN ?_ _|refine Kd.C_drew ?_)|exact HR566_5.out)) hb);replace HB:=As0.mk (bsp HB.out hb);clear hb))
                       go_ret
                       exact ⟨eW,HB.out⟩
                   · rw [if_neg c41] at H
                     exact absurd H (by simp)
                 · rw [if_neg c40] at H
                   have c40b0:decide (x11_4 < (t550.length:Int)) = false:=decide_eq_false c40;clear c40;obtain rfl:=Option.some.inj H
                   go_wp2
                   go_ret
                   exact ⟨eW,HB.out⟩
def laws_FnUseSum.Pure:Prop:=∀ (l0:List Int),(l0.length ≤ 9223372036854775807 ∧ ∀ y_ ∈ l0,(Lit.int .u8 y_).wf = true) → ∃ k,laws_FnUseSum.f k l0 = some true
theorem laws_FnUseSum.walk (P:laws_FnUseSum.Pure) (A0:Option Addr) (c0:Nat) (l0:List Int) (w:World) (hr0:Kd.C (Kd.int .u8) w A0 l0.length l0) (hc0:l0.length ≤ c0) (g0:(l0.length ≤ 9223372036854775807 ∧ ∀ y_ ∈ l0,(Lit.int .u8 y_).wf = true)) :
 Calls Tryd.prog 3 #[.slice A0 l0.length c0] w fun e w'=>e = .returned (.bool true) ∧ Below w.heap.size w w':=by
 obtain ⟨k,h⟩:=P l0 g0;refine (laws_FnUseSum.calls k _ _ l0 true w hr0 hc0 (As0.mk rfl) h).mono ?_;rintro e w' ⟨rfl,hd⟩
 exact ⟨rfl,hd⟩
end Go.Proofs.YtlddibclbhhjoaaDoor.P
