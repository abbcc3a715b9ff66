/- Functions of the law FnUseMay as_ plain Lean functions, and that the machine's calls do what they say. -/
import Derived.Test.YtlmpmlcjlioeaaaDoorZFnUseMay0
import Derived.Test.YtlmpmlcjlioeaaaDoorZFnUseMay1
import Derived.Test.YtlmpmlcjlioeaaaDoorZFnUseMay4
import Derived.Test.YtlmpmlcjlioeaaaDoorZFnUseMay5
import Derived.Lib.Hide
import Derived.Deep.RegionWith
namespace Go.Proofs.YtlmpmlcjlioeaaaDoor.P
open Go.RowKit Go.Proofs.YtlmpmlcjlioeaaaDoorW.PrintWords Go.Proofs.YtlmpmlcjlioeaaaDoorW.PrintLast Go.Proofs.YtlmpmlcjlioeaaaDoorW.PrintMore
attribute [local go_sem] max2_int min2_int max_two min_two max_three min_three max_four min_four
set_option linter.unusedVariables false
set_option linter.unusedSimpArgs false
mutual
def laws_FnUseMay.j0 : Nat → List (SiS23) → List (SiU25) → ByteArray → Int → ByteArray → Bool → Option (Bool)
 | 0, _, _, _, _, _, _ => none
 | k + 1, x3, x4, x5, x6, x7, x40 => if x40 = true then (some false) else ((impl_UseAdd.f k x3 x4 x5 x6).bind fun t669 => (if (t669.length : Int) = 0 then (laws_FnUseMay.j1 k x3 x5 x7 t669 true) else ((spec_SpacesOk.f k x3).bind fun t672 => (if t672 = true then (laws_FnUseMay.j1 k x3 x5 x7 t669 (decide (x6 < 0))) else (laws_FnUseMay.j1 k x3 x5 x7 t669 true)))))
def laws_FnUseMay.j1 : Nat → List (SiS23) → ByteArray → ByteArray → List (SiU25) → Bool → Option (Bool)
 | 0, _, _, _, _, _ => none
 | k + 1, x3, x5, x7, x8, x57 => if x57 = true then (some true) else ((impl_SpaceUp.f k x3 x5).bind fun t673 => (laws_FnUseMay.l0 k x3 x7 x8 t673 0))
def laws_FnUseMay.l0 : Nat → List (SiS23) → ByteArray → List (SiU25) → List ByteArray → Int → Option (Bool)
 | 0, _, _, _, _, _ => none
 | k + 1, x3, x7, x8, x9, x10 => if x10 < (x9.length : Int) then (laws_FnUseMay.l1 k x3 x7 x8 x9 x10 0) else (if x7.toList = ([] : List UInt8) then (some true) else (some ((x9.length : Int) == 0)))
def laws_FnUseMay.l1 : Nat → List (SiS23) → ByteArray → List (SiU25) → List ByteArray → Int → Int → Option (Bool)
 | 0, _, _, _, _, _, _ => none
 | k + 1, x3, x7, x8, x9, x10, x11 => if x11 < (x3.length : Int) then (if 0 ≤ x11 then (if 0 ≤ x10 then (if x10 < (x9.length : Int) then (if ((riS26 x3 x11).f0).toList = (rdOf ByteArray.empty x9 x10).toList then (if ((riS26 x3 x11).f2) ≥ 0 then (if x11 < (x8.length : Int) then (if ((riU27 x8 x11).f1) > ((riS26 x3 x11).f2) then (some (x7.toList == (rdOf ByteArray.empty x9 x10).toList)) else (laws_FnUseMay.l1 k x3 x7 x8 x9 x10 (wrap64 (x11 + 1)))) else (none)) else (laws_FnUseMay.l1 k x3 x7 x8 x9 x10 (wrap64 (x11 + 1)))) else (laws_FnUseMay.l1 k x3 x7 x8 x9 x10 (wrap64 (x11 + 1)))) else (none)) else (none)) else (none)) else (laws_FnUseMay.l0 k x3 x7 x8 x9 (wrap64 (x10 + 1)))
end
def laws_FnUseMay.f (k : Nat) (l0 : List Int) : Option (Bool) := if (l0.length : Int) > 1048576 then (some true) else ((spec_DrawUseMay.f k l0).bind fun bt657 => ((impl_UseMay.f k bt657.1 bt657.2.1 bt657.2.2.1 bt657.2.2.2).bind fun t665 => ((spec_UseMay.f k bt657.1 bt657.2.1 bt657.2.2.1 bt657.2.2.2).bind fun t666 => (if t665.toList = t666.toList then ((impl_SpacesOk.f k bt657.1).bind fun t667 => ((spec_SpacesOk.f k bt657.1).bind fun t668 => (laws_FnUseMay.j0 k bt657.1 bt657.2.1 bt657.2.2.1 bt657.2.2.2 t665 (t667 != t668)))) else (laws_FnUseMay.j0 k bt657.1 bt657.2.1 bt657.2.2.1 bt657.2.2.2 t665 true)))))
set_option maxHeartbeats 8000000 in
set_option maxRecDepth 100000 in
theorem laws_FnUseMay.calls (k : Nat) (A0 : Option Addr) (c0 : Nat) (l0 : List Int) (r : Bool) (w : World) (hr0 : Kd.C (Kd.int .u8) w A0 l0.length l0) (hc0 : l0.length ≤ c0) (HTru_ : As0 (r = true)) (h : laws_FnUseMay.f k l0 = some r) :
 Calls Tryd.prog 10 #[.slice A0 l0.length c0] w fun e w' => e = .returned (.bool r) ∧ Below w.heap.size w w' := by
 have HR0 := As0.mk hr0; have HC0 := As0.mk hc0; clear hr0 hc0; have HB := As0.mk (Below.refl w.heap.size w); have H : (if (l0.length : Int) > 1048576 then (some true) else ((spec_DrawUseMay.f k l0).bind fun bt657 => ((impl_UseMay.f k bt657.1 bt657.2.1 bt657.2.2.1 bt657.2.2.2).bind fun t665 => ((spec_UseMay.f k bt657.1 bt657.2.1 bt657.2.2.1 bt657.2.2.2).bind fun t666 => (if t665.toList = t666.toList then ((impl_SpacesOk.f k bt657.1).bind fun t667 => ((spec_SpacesOk.f k bt657.1).bind fun t668 => (laws_FnUseMay.j0 k bt657.1 bt657.2.1 bt657.2.2.1 bt657.2.2.2 t665 (t667 != t668)))) else (laws_FnUseMay.j0 k bt657.1 bt657.2.1 bt657.2.2.1 bt657.2.2.2 t665 true)))))) = some r := h; clear h; by_cases c2 : (l0.length : Int) > 1048576
 · rw [if_pos c2] at H
   have c2b0 : decide (1048576 < (l0.length : Int)) = true := decide_eq_true c2; have c2b1 : decide (1048576 < l0.length) = true := decide_eq_true (by omega); clear c2; obtain rfl := Option.some.inj H
   go_enter Tryd.func10, Tryd.ntmps10
   go_wp2
   repeat (go_quiet (fail); try go_wp2)
   go_ret
   exact ⟨eW, HB.out⟩
 · rw [if_neg c2] at H
   have c2b0 : decide (1048576 < (l0.length : Int)) = false := decide_eq_false c2; have c2b1 : decide (1048576 < l0.length) = false := decide_eq_false (by omega); clear c2; replace H := Option.bind_eq_some_iff.mp H; obtain ⟨⟨t657, t658, t659, t660⟩, A30, H⟩ := H; replace H : ((impl_UseMay.f k t657 t658 t659 t660).bind fun t665 => ((spec_UseMay.f k t657 t658 t659 t660).bind fun t666 => (if t665.toList = t666.toList then ((impl_SpacesOk.f k t657).bind fun t667 => ((spec_SpacesOk.f k t657).bind fun t668 => (laws_FnUseMay.j0 k t657 t658 t659 t660 t665 (t667 != t668)))) else (laws_FnUseMay.j0 k t657 t658 t659 t660 t665 true)))) = some r := H; have A3 := As0.mk A30; clear A30; replace H := Option.bind_eq_some_iff.mp H; obtain ⟨t665, A40, H⟩ := H; replace H : ((spec_UseMay.f k t657 t658 t659 t660).bind fun t666 => (if t665.toList = t666.toList then ((impl_SpacesOk.f k t657).bind fun t667 => ((spec_SpacesOk.f k t657).bind fun t668 => (laws_FnUseMay.j0 k t657 t658 t659 t660 t665 (t667 != t668)))) else (laws_FnUseMay.j0 k t657 t658 t659 t660 t665 true))) = some r := H; have A4 := As0.mk A40; clear A40; have HC5 := As0.mk H; clear H
   go_enter Tryd.func10, Tryd.ntmps10
   go_upto_region 5 with (first | (go_at_call 35; (with_reducible refine (spec_DrawUseMay.calls k _ _ l0 t657 t658 t659 t660 _ ?side1 ?side2 A3.out).mono ?_); (case side1 => repeat (first | exact HR0.out | (with_reducible first | refine Kd.C_alloc ?_ _ | refine Kd.C_drewN ?_ _ | refine Kd.C_drew ?_))); (case side2 => exact HC0.out); rintro e w6 ⟨v661, v663, rfl, ho0, ho1, hb⟩; have n0_ := As0.mk (Kd.R_lower ho0 (bsz HB.out)); have n1_ := As0.mk (Kd.R_lower ho1 (bsz HB.out)); have n2_ := As0.mk (bsp HB.out hb); clear HB; have HO662 := n0_; have HO664 := n1_; have HB := n2_; clear n0_ n1_ n2_; (try clear hb); (try clear hb2); (try clear hk); (try clear hi); (try clear ho0); (try clear ho1); obtain ⟨Ao7, co7, eo7⟩ := Kd.R_slice HO662.out; subst eo7; obtain ⟨Ao8, co8, eo8⟩ := Kd.R_slice HO664.out; subst eo8) | (go_at_call 36; (with_reducible refine (impl_UseMay.calls k _ _ t657 _ _ t658 t659 t660 t665 _ ?side1 ?side2 ?side3 ?side4 A4.out).mono ?_); (case side1 => repeat (first | exact (Kd.R_reads' HO662.out).2.2 | (with_reducible first | refine Kd.C_alloc ?_ _ | refine Kd.C_drewN ?_ _ | refine Kd.C_drew ?_))); (case side2 => exact (Kd.R_reads' HO662.out).2.1); (case side3 => repeat (first | exact (Kd.R_reads' HO664.out).2.2 | (with_reducible first | refine Kd.C_alloc ?_ _ | refine Kd.C_drewN ?_ _ | refine Kd.C_drew ?_))); (case side4 => exact (Kd.R_reads' HO664.out).2.1); rintro e w9 ⟨rfl, hb⟩; have n0_ := As0.mk (Kd.R_below HO662.out hb); have n1_ := As0.mk (Kd.R_below HO664.out hb); have n2_ := As0.mk (bsp HB.out hb); clear HO662; clear HO664; clear HB; have HO662 := n0_; have HO664 := n1_; have HB := n2_; clear n0_ n1_ n2_; (try clear hb); (try clear hb2); (try clear hk); (try clear hi)))
   repeat (go_quiet (first | (go_at_call 35; (with_reducible refine (spec_DrawUseMay.calls k _ _ l0 t657 t658 t659 t660 _ ?side1 ?side2 A3.out).mono ?_); (case side1 => repeat (first | exact HR0.out | (with_reducible first | refine Kd.C_alloc ?_ _ | refine Kd.C_drewN ?_ _ | refine Kd.C_drew ?_))); (case side2 => exact HC0.out); rintro e w6 ⟨v661, v663, rfl, ho0, ho1, hb⟩; have n0_ := As0.mk (Kd.R_lower ho0 (bsz HB.out)); have n1_ := As0.mk (Kd.R_lower ho1 (bsz HB.out)); have n2_ := As0.mk (bsp HB.out hb); clear HB; have HO662 := n0_; have HO664 := n1_; have HB := n2_; clear n0_ n1_ n2_; (try clear hb); (try clear hb2); (try clear hk); (try clear hi); (try clear ho0); (try clear ho1); obtain ⟨Ao7, co7, eo7⟩ := Kd.R_slice HO662.out; subst eo7; obtain ⟨Ao8, co8, eo8⟩ := Kd.R_slice HO664.out; subst eo8) | (go_at_call 36; (with_reducible refine (impl_UseMay.calls k _ _ t657 _ _ t658 t659 t660 t665 _ ?side1 ?side2 ?side3 ?side4 A4.out).mono ?_); (case side1 => repeat (first | exact (Kd.R_reads' HO662.out).2.2 | (with_reducible first | refine Kd.C_alloc ?_ _ | refine Kd.C_drewN ?_ _ | refine Kd.C_drew ?_))); (case side2 => exact (Kd.R_reads' HO662.out).2.1); (case side3 => repeat (first | exact (Kd.R_reads' HO664.out).2.2 | (with_reducible first | refine Kd.C_alloc ?_ _ | refine Kd.C_drewN ?_ _ | refine Kd.C_drew ?_))); (case side4 => exact (Kd.R_reads' HO664.out).2.1); rintro e w9 ⟨rfl, hb⟩; have n0_ := As0.mk (Kd.R_below HO662.out hb); have n1_ := As0.mk (Kd.R_below HO664.out hb); have n2_ := As0.mk (bsp HB.out hb); clear HO662; clear HO664; clear HB; have HO662 := n0_; have HO664 := n1_; have HB := n2_; clear n0_ n1_ n2_; (try clear hb); (try clear hb2); (try clear hk); (try clear hi))); go_upto_region 5 with (first | (go_at_call 35; (with_reducible refine (spec_DrawUseMay.calls k _ _ l0 t657 t658 t659 t660 _ ?side1 ?side2 A3.out).mono ?_); (case side1 => repeat (first | exact HR0.out | (with_reducible first | refine Kd.C_alloc ?_ _ | refine Kd.C_drewN ?_ _ | refine Kd.C_drew ?_))); (case side2 => exact HC0.out); rintro e w6 ⟨v661, v663, rfl, ho0, ho1, hb⟩; have n0_ := As0.mk (Kd.R_lower ho0 (bsz HB.out)); have n1_ := As0.mk (Kd.R_lower ho1 (bsz HB.out)); have n2_ := As0.mk (bsp HB.out hb); clear HB; have HO662 := n0_; have HO664 := n1_; have HB := n2_; clear n0_ n1_ n2_; (try clear hb); (try clear hb2); (try clear hk); (try clear hi); (try clear ho0); (try clear ho1); obtain ⟨Ao7, co7, eo7⟩ := Kd.R_slice HO662.out; subst eo7; obtain ⟨Ao8, co8, eo8⟩ := Kd.R_slice HO664.out; subst eo8) | (go_at_call 36; (with_reducible refine (impl_UseMay.calls k _ _ t657 _ _ t658 t659 t660 t665 _ ?side1 ?side2 ?side3 ?side4 A4.out).mono ?_); (case side1 => repeat (first | exact (Kd.R_reads' HO662.out).2.2 | (with_reducible first | refine Kd.C_alloc ?_ _ | refine Kd.C_drewN ?_ _ | refine Kd.C_drew ?_))); (case side2 => exact (Kd.R_reads' HO662.out).2.1); (case side3 => repeat (first | exact (Kd.R_reads' HO664.out).2.2 | (with_reducible first | refine Kd.C_alloc ?_ _ | refine Kd.C_drewN ?_ _ | refine Kd.C_drew ?_))); (case side4 => exact (Kd.R_reads' HO664.out).2.1); rintro e w9 ⟨rfl, hb⟩; have n0_ := As0.mk (Kd.R_below HO662.out hb); have n1_ := As0.mk (Kd.R_below HO664.out hb); have n2_ := As0.mk (bsp HB.out hb); clear HO662; clear HO664; clear HB; have HO662 := n0_; have HO664 := n1_; have HB := n2_; clear n0_ n1_ n2_; (try clear hb); (try clear hb2); (try clear hk); (try clear hi))))
   (try simp only [Act.put, sA, sZ, sS])
   go_cut [40] (fun v40 wc => ∃ (kq : Nat) (x40_4 : Bool), v40 = .bool x40_4 ∧ As0 (laws_FnUseMay.j0 kq t657 t658 t659 t660 t665 x40_4 = some r) ∧ As0 (kq ≤ k) ∧ As0 (Kd.R k42 42 wc w.heap.size (fun _ => True) (.slice Ao7 t657.length co7) t657) ∧ As0 (Kd.R k54 54 wc w.heap.size (fun _ => True) (.slice Ao8 t658.length co8) t658) ∧ As0 (Below w.heap.size w wc))
   case first =>
    have H := HC5.out; clear HC5; replace H := Option.bind_eq_some_iff.mp H; obtain ⟨t666, A100, H⟩ := H; replace H : (if t665.toList = t666.toList then ((impl_SpacesOk.f k t657).bind fun t667 => ((spec_SpacesOk.f k t657).bind fun t668 => (laws_FnUseMay.j0 k t657 t658 t659 t660 t665 (t667 != t668)))) else (laws_FnUseMay.j0 k t657 t658 t659 t660 t665 true)) = some r := H; have A10 := As0.mk A100; clear A100; by_cases c11 : t665.toList = t666.toList
    · rw [if_pos c11] at H
      have c11b0 : (t665.toList == t666.toList) = true := beq_iff_eq.mpr c11; have c11b1 : (t665.toList != t666.toList) = false := bne_eq_false_iff_eq.mpr c11; clear c11
      (first | rw [c11b0] | (simp only [i64_w, i32_w]; rw [c11b0]) | skip)
      replace H := Option.bind_eq_some_iff.mp H; obtain ⟨t667, A120, H⟩ := H; replace H : ((spec_SpacesOk.f k t657).bind fun t668 => (laws_FnUseMay.j0 k t657 t658 t659 t660 t665 (t667 != t668))) = some r := H; have A12 := As0.mk A120; clear A120; replace H := Option.bind_eq_some_iff.mp H; obtain ⟨t668, A130, H⟩ := H; replace H : (laws_FnUseMay.j0 k t657 t658 t659 t660 t665 (t667 != t668)) = some r := H; have A13 := As0.mk A130; clear A130; have H' := As0.mk H; clear H
      go_wp2_with (first | (go_at_call 37; (with_reducible refine (spec_UseMay.calls k _ _ t657 _ _ t658 t659 t660 t666 _ ?side1 ?side2 ?side3 ?side4 A10.out).mono ?_); (case side1 => repeat (first | exact (Kd.R_reads' HO662.out).2.2 | (with_reducible first | refine Kd.C_alloc ?_ _ | refine Kd.C_drewN ?_ _ | refine Kd.C_drew ?_))); (case side2 => exact (Kd.R_reads' HO662.out).2.1); (case side3 => repeat (first | exact (Kd.R_reads' HO664.out).2.2 | (with_reducible first | refine Kd.C_alloc ?_ _ | refine Kd.C_drewN ?_ _ | refine Kd.C_drew ?_))); (case side4 => exact (Kd.R_reads' HO664.out).2.1); rintro e w14 ⟨rfl, hb⟩; have n0_ := As0.mk (Kd.R_below HO662.out hb); have n1_ := As0.mk (Kd.R_below HO664.out hb); have n2_ := As0.mk (bsp HB.out hb); clear HO662; clear HO664; clear HB; have HO662 := n0_; have HO664 := n1_; have HB := n2_; clear n0_ n1_ n2_; (try clear hb); (try clear hb2); (try clear hk); (try clear hi)) | (go_at_call 18; (with_reducible refine (impl_SpacesOk.calls k _ _ t657 t667 _ ?side1 ?side2 A12.out).mono ?_); (case side1 => repeat (first | exact (Kd.R_reads' HO662.out).2.2 | (with_reducible first | refine Kd.C_alloc ?_ _ | refine Kd.C_drewN ?_ _ | refine Kd.C_drew ?_))); (case side2 => exact (Kd.R_reads' HO662.out).2.1); rintro e w15 ⟨rfl, hb⟩; have n0_ := As0.mk (Kd.R_below HO662.out hb); have n1_ := As0.mk (Kd.R_below HO664.out hb); have n2_ := As0.mk (bsp HB.out hb); clear HO662; clear HO664; clear HB; have HO662 := n0_; have HO664 := n1_; have HB := n2_; clear n0_ n1_ n2_; (try clear hb); (try clear hb2); (try clear hk); (try clear hi)) | (go_at_call 16; (with_reducible refine (spec_SpacesOk.calls k _ _ t657 t668 _ ?side1 ?side2 A13.out).mono ?_); (case side1 => repeat (first | exact (Kd.R_reads' HO662.out).2.2 | (with_reducible first | refine Kd.C_alloc ?_ _ | refine Kd.C_drewN ?_ _ | refine Kd.C_drew ?_))); (case side2 => exact (Kd.R_reads' HO662.out).2.1); rintro e w16 ⟨rfl, hb⟩; have n0_ := As0.mk (Kd.R_below HO662.out hb); have n1_ := As0.mk (Kd.R_below HO664.out hb); have n2_ := As0.mk (bsp HB.out hb); clear HO662; clear HO664; clear HB; have HO662 := n0_; have HO664 := n1_; have HB := n2_; clear n0_ n1_ n2_; (try clear hb); (try clear hb2); (try clear hk); (try clear hi)))
      repeat (go_quiet (first | (go_at_call 37; (with_reducible refine (spec_UseMay.calls k _ _ t657 _ _ t658 t659 t660 t666 _ ?side1 ?side2 ?side3 ?side4 A10.out).mono ?_); (case side1 => repeat (first | exact (Kd.R_reads' HO662.out).2.2 | (with_reducible first | refine Kd.C_alloc ?_ _ | refine Kd.C_drewN ?_ _ | refine Kd.C_drew ?_))); (case side2 => exact (Kd.R_reads' HO662.out).2.1); (case side3 => repeat (first | exact (Kd.R_reads' HO664.out).2.2 | (with_reducible first | refine Kd.C_alloc ?_ _ | refine Kd.C_drewN ?_ _ | refine Kd.C_drew ?_))); (case side4 => exact (Kd.R_reads' HO664.out).2.1); rintro e w14 ⟨rfl, hb⟩; have n0_ := As0.mk (Kd.R_below HO662.out hb); have n1_ := As0.mk (Kd.R_below HO664.out hb); have n2_ := As0.mk (bsp HB.out hb); clear HO662; clear HO664; clear HB; have HO662 := n0_; have HO664 := n1_; have HB := n2_; clear n0_ n1_ n2_; (try clear hb); (try clear hb2); (try clear hk); (try clear hi)) | (go_at_call 18; (with_reducible refine (impl_SpacesOk.calls k _ _ t657 t667 _ ?side1 ?side2 A12.out).mono ?_); (case side1 => repeat (first | exact (Kd.R_reads' HO662.out).2.2 | (with_reducible first | refine Kd.C_alloc ?_ _ | refine Kd.C_drewN ?_ _ | refine Kd.C_drew ?_))); (case side2 => exact (Kd.R_reads' HO662.out).2.1); rintro e w15 ⟨rfl, hb⟩; have n0_ := As0.mk (Kd.R_below HO662.out hb); have n1_ := As0.mk (Kd.R_below HO664.out hb); have n2_ := As0.mk (bsp HB.out hb); clear HO662; clear HO664; clear HB; have HO662 := n0_; have HO664 := n1_; have HB := n2_; clear n0_ n1_ n2_; (try clear hb); (try clear hb2); (try clear hk); (try clear hi)) | (go_at_call 16; (with_reducible refine (spec_SpacesOk.calls k _ _ t657 t668 _ ?side1 ?side2 A13.out).mono ?_); (case side1 => repeat (first | exact (Kd.R_reads' HO662.out).2.2 | (with_reducible first | refine Kd.C_alloc ?_ _ | refine Kd.C_drewN ?_ _ | refine Kd.C_drew ?_))); (case side2 => exact (Kd.R_reads' HO662.out).2.1); rintro e w16 ⟨rfl, hb⟩; have n0_ := As0.mk (Kd.R_below HO662.out hb); have n1_ := As0.mk (Kd.R_below HO664.out hb); have n2_ := As0.mk (bsp HB.out hb); clear HO662; clear HO664; clear HB; have HO662 := n0_; have HO664 := n1_; have HB := n2_; clear n0_ n1_ n2_; (try clear hb); (try clear hb2); (try clear hk); (try clear hi))); try go_wp2_with (first | (go_at_call 37; (with_reducible refine (spec_UseMay.calls k _ _ t657 _ _ t658 t659 t660 t666 _ ?side1 ?side2 ?side3 ?side4 A10.out).mono ?_); (case side1 => repeat (first | exact (Kd.R_reads' HO662.out).2.2 | (with_reducible first | refine Kd.C_alloc ?_ _ | refine Kd.C_drewN ?_ _ | refine Kd.C_drew ?_))); (case side2 => exact (Kd.R_reads' HO662.out).2.1); (case side3 => repeat (first | exact (Kd.R_reads' HO664.out).2.2 | (with_reducible first | refine Kd.C_alloc ?_ _ | refine Kd.C_drewN ?_ _ | refine Kd.C_drew ?_))); (case side4 => exact (Kd.R_reads' HO664.out).2.1); rintro e w14 ⟨rfl, hb⟩; have n0_ := As0.mk (Kd.R_below HO662.out hb); have n1_ := As0.mk (Kd.R_below HO664.out hb); have n2_ := As0.mk (bsp HB.out hb); clear HO662; clear HO664; clear HB; have HO662 := n0_; have HO664 := n1_; have HB := n2_; clear n0_ n1_ n2_; (try clear hb); (try clear hb2); (try clear hk); (try clear hi)) | (go_at_call 18; (with_reducible refine (impl_SpacesOk.calls k _ _ t657 t667 _ ?side1 ?side2 A12.out).mono ?_); (case side1 => repeat (first | exact (Kd.R_reads' HO662.out).2.2 | (with_reducible first | refine Kd.C_alloc ?_ _ | refine Kd.C_drewN ?_ _ | refine Kd.C_drew ?_))); (case side2 => exact (Kd.R_reads' HO662.out).2.1); rintro e w15 ⟨rfl, hb⟩; have n0_ := As0.mk (Kd.R_below HO662.out hb); have n1_ := As0.mk (Kd.R_below HO664.out hb); have n2_ := As0.mk (bsp HB.out hb); clear HO662; clear HO664; clear HB; have HO662 := n0_; have HO664 := n1_; have HB := n2_; clear n0_ n1_ n2_; (try clear hb); (try clear hb2); (try clear hk); (try clear hi)) | (go_at_call 16; (with_reducible refine (spec_SpacesOk.calls k _ _ t657 t668 _ ?side1 ?side2 A13.out).mono ?_); (case side1 => repeat (first | exact (Kd.R_reads' HO662.out).2.2 | (with_reducible first | refine Kd.C_alloc ?_ _ | refine Kd.C_drewN ?_ _ | refine Kd.C_drew ?_))); (case side2 => exact (Kd.R_reads' HO662.out).2.1); rintro e w16 ⟨rfl, hb⟩; have n0_ := As0.mk (Kd.R_below HO662.out hb); have n1_ := As0.mk (Kd.R_below HO664.out hb); have n2_ := As0.mk (bsp HB.out hb); clear HO662; clear HO664; clear HB; have HO662 := n0_; have HO664 := n1_; have HB := n2_; clear n0_ n1_ n2_; (try clear hb); (try clear hb2); (try clear hk); (try clear hi))))
      go_meet
      case rel => exact ⟨_, ((t667 != t668)), (by first | rfl | (simp; done) | (simp [*]; done)), H', ⟨by first | omega | exact Nat.le_refl _⟩, ⟨HO662.out⟩, ⟨HO664.out⟩, ⟨HB.out⟩⟩
    · rw [if_neg c11] at H
      have c11b0 : (t665.toList == t666.toList) = false := beq_eq_false_iff_ne.mpr c11; have c11b1 : (t665.toList != t666.toList) = true := bne_iff_ne.mpr c11
      (first | rw [c11b0] | (simp only [i64_w, i32_w]; rw [c11b0]) | skip)
      have H' := As0.mk H; clear H
      go_wp2_with (first | (go_at_call 37; (with_reducible refine (spec_UseMay.calls k _ _ t657 _ _ t658 t659 t660 t666 _ ?side1 ?side2 ?side3 ?side4 A10.out).mono ?_); (case side1 => repeat (first | exact (Kd.R_reads' HO662.out).2.2 | (with_reducible first | refine Kd.C_alloc ?_ _ | refine Kd.C_drewN ?_ _ | refine Kd.C_drew ?_))); (case side2 => exact (Kd.R_reads' HO662.out).2.1); (case side3 => repeat (first | exact (Kd.R_reads' HO664.out).2.2 | (with_reducible first | refine Kd.C_alloc ?_ _ | refine Kd.C_drewN ?_ _ | refine Kd.C_drew ?_))); (case side4 => exact (Kd.R_reads' HO664.out).2.1); rintro e w17 ⟨rfl, hb⟩; have n0_ := As0.mk (Kd.R_below HO662.out hb); have n1_ := As0.mk (Kd.R_below HO664.out hb); have n2_ := As0.mk (bsp HB.out hb); clear HO662; clear HO664; clear HB; have HO662 := n0_; have HO664 := n1_; have HB := n2_; clear n0_ n1_ n2_; (try clear hb); (try clear hb2); (try clear hk); (try clear hi)))
      repeat (go_quiet (first | (go_at_call 37; (with_reducible refine (spec_UseMay.calls k _ _ t657 _ _ t658 t659 t660 t666 _ ?side1 ?side2 ?side3 ?side4 A10.out).mono ?_); (case side1 => repeat (first | exact (Kd.R_reads' HO662.out).2.2 | (with_reducible first | refine Kd.C_alloc ?_ _ | refine Kd.C_drewN ?_ _ | refine Kd.C_drew ?_))); (case side2 => exact (Kd.R_reads' HO662.out).2.1); (case side3 => repeat (first | exact (Kd.R_reads' HO664.out).2.2 | (with_reducible first | refine Kd.C_alloc ?_ _ | refine Kd.C_drewN ?_ _ | refine Kd.C_drew ?_))); (case side4 => exact (Kd.R_reads' HO664.out).2.1); rintro e w17 ⟨rfl, hb⟩; have n0_ := As0.mk (Kd.R_below HO662.out hb); have n1_ := As0.mk (Kd.R_below HO664.out hb); have n2_ := As0.mk (bsp HB.out hb); clear HO662; clear HO664; clear HB; have HO662 := n0_; have HO664 := n1_; have HB := n2_; clear n0_ n1_ n2_; (try clear hb); (try clear hb2); (try clear hk); (try clear hi))); try go_wp2_with (first | (go_at_call 37; (with_reducible refine (spec_UseMay.calls k _ _ t657 _ _ t658 t659 t660 t666 _ ?side1 ?side2 ?side3 ?side4 A10.out).mono ?_); (case side1 => repeat (first | exact (Kd.R_reads' HO662.out).2.2 | (with_reducible first | refine Kd.C_alloc ?_ _ | refine Kd.C_drewN ?_ _ | refine Kd.C_drew ?_))); (case side2 => exact (Kd.R_reads' HO662.out).2.1); (case side3 => repeat (first | exact (Kd.R_reads' HO664.out).2.2 | (with_reducible first | refine Kd.C_alloc ?_ _ | refine Kd.C_drewN ?_ _ | refine Kd.C_drew ?_))); (case side4 => exact (Kd.R_reads' HO664.out).2.1); rintro e w17 ⟨rfl, hb⟩; have n0_ := As0.mk (Kd.R_below HO662.out hb); have n1_ := As0.mk (Kd.R_below HO664.out hb); have n2_ := As0.mk (bsp HB.out hb); clear HO662; clear HO664; clear HB; have HO662 := n0_; have HO664 := n1_; have HB := n2_; clear n0_ n1_ n2_; (try clear hb); (try clear hb2); (try clear hk); (try clear hi))))
      go_meet
      case rel => exact ⟨_, (true), (by first | rfl | (simp; done) | (simp [*]; done)), H', ⟨by first | omega | exact Nat.le_refl _⟩, ⟨HO662.out⟩, ⟨HO664.out⟩, ⟨HB.out⟩⟩
   case rest =>
    clear HC5
    try clear c1
    try clear c2
    try clear c2b0
    try clear c2b1
    try clear p2
    try clear c10
    try clear c11
    try clear c11b0
    try clear c11b1
    obtain ⟨kq, x40_4, rfl, HA, HJ4, HO_3, HO_4, HB⟩ := hcut
    cases kq with
    | zero => exact absurd HA.out (by simp [laws_FnUseMay.j0])
    | succ kj4 =>
     have H := HA.out; clear HA; simp only [laws_FnUseMay.j0] at H; by_cases c18 : x40_4 = true
     · subst c18
       have H1 : (some false) = some r := by rw [if_pos rfl] at H; exact H
       clear H; have H := H1; clear H1
       exact absurd ((Option.some.inj H).trans HTru_.out) (by decide)
     · replace c18 := Bool.eq_false_iff.mpr c18
       subst c18; have H1 : ((impl_UseAdd.f kj4 t657 t658 t659 t660).bind fun t669 => (if (t669.length : Int) = 0 then (laws_FnUseMay.j1 kj4 t657 t659 t665 t669 true) else ((spec_SpacesOk.f kj4 t657).bind fun t672 => (if t672 = true then (laws_FnUseMay.j1 kj4 t657 t659 t665 t669 (decide (t660 < 0))) else (laws_FnUseMay.j1 kj4 t657 t659 t665 t669 true))))) = some r := by rw [if_neg (show ¬ (false = true) by decide)] at H; exact H
       clear H; have H := H1; clear H1; replace H := Option.bind_eq_some_iff.mp H; obtain ⟨t669, A190, H⟩ := H; replace H : (if (t669.length : Int) = 0 then (laws_FnUseMay.j1 kj4 t657 t659 t665 t669 true) else ((spec_SpacesOk.f kj4 t657).bind fun t672 => (if t672 = true then (laws_FnUseMay.j1 kj4 t657 t659 t665 t669 (decide (t660 < 0))) else (laws_FnUseMay.j1 kj4 t657 t659 t665 t669 true)))) = some r := H; have A19 := As0.mk A190; clear A190; have HC20 := As0.mk H; clear H
       go_upto_region 8 with (first | (go_at_call 38; (with_reducible refine (impl_UseAdd.calls kj4 _ _ t657 _ _ t658 t659 t660 t669 _ ?side1 ?side2 ?side3 ?side4 A19.out).mono ?_); (case side1 => repeat (first | exact (Kd.R_reads' HO_3.out).2.2 | (with_reducible first | refine Kd.C_alloc ?_ _ | refine Kd.C_drewN ?_ _ | refine Kd.C_drew ?_))); (case side2 => exact (Kd.R_reads' HO_3.out).2.1); (case side3 => repeat (first | exact (Kd.R_reads' HO_4.out).2.2 | (with_reducible first | refine Kd.C_alloc ?_ _ | refine Kd.C_drewN ?_ _ | refine Kd.C_drew ?_))); (case side4 => exact (Kd.R_reads' HO_4.out).2.1); rintro e w21 ⟨v670, rfl, ho0, hb⟩; have n0_ := As0.mk (Kd.R_below HO_3.out hb); have n1_ := As0.mk (Kd.R_elder' HO_4.out (Kd.R_base ho0) hb); have n2_ := As0.mk (Kd.R_lower (Kd.R_new' ho0 (Kd.R_lt HO_4.out)) (bsz HB.out)); have n3_ := As0.mk (bsp HB.out hb); clear HO_3; clear HO_4; clear HB; have HO_3 := n0_; have HO_4 := n1_; have HO671 := n2_; have HB := n3_; clear n0_ n1_ n2_ n3_; (try clear hb); (try clear hb2); (try clear hk); (try clear hi); (try clear ho0)))
       repeat (go_quiet (first | (go_at_call 38; (with_reducible refine (impl_UseAdd.calls kj4 _ _ t657 _ _ t658 t659 t660 t669 _ ?side1 ?side2 ?side3 ?side4 A19.out).mono ?_); (case side1 => repeat (first | exact (Kd.R_reads' HO_3.out).2.2 | (with_reducible first | refine Kd.C_alloc ?_ _ | refine Kd.C_drewN ?_ _ | refine Kd.C_drew ?_))); (case side2 => exact (Kd.R_reads' HO_3.out).2.1); (case side3 => repeat (first | exact (Kd.R_reads' HO_4.out).2.2 | (with_reducible first | refine Kd.C_alloc ?_ _ | refine Kd.C_drewN ?_ _ | refine Kd.C_drew ?_))); (case side4 => exact (Kd.R_reads' HO_4.out).2.1); rintro e w21 ⟨v670, rfl, ho0, hb⟩; have n0_ := As0.mk (Kd.R_below HO_3.out hb); have n1_ := As0.mk (Kd.R_elder' HO_4.out (Kd.R_base ho0) hb); have n2_ := As0.mk (Kd.R_lower (Kd.R_new' ho0 (Kd.R_lt HO_4.out)) (bsz HB.out)); have n3_ := As0.mk (bsp HB.out hb); clear HO_3; clear HO_4; clear HB; have HO_3 := n0_; have HO_4 := n1_; have HO671 := n2_; have HB := n3_; clear n0_ n1_ n2_ n3_; (try clear hb); (try clear hb2); (try clear hk); (try clear hi); (try clear ho0))); go_upto_region 8 with (first | (go_at_call 38; (with_reducible refine (impl_UseAdd.calls kj4 _ _ t657 _ _ t658 t659 t660 t669 _ ?side1 ?side2 ?side3 ?side4 A19.out).mono ?_); (case side1 => repeat (first | exact (Kd.R_reads' HO_3.out).2.2 | (with_reducible first | refine Kd.C_alloc ?_ _ | refine Kd.C_drewN ?_ _ | refine Kd.C_drew ?_))); (case side2 => exact (Kd.R_reads' HO_3.out).2.1); (case side3 => repeat (first | exact (Kd.R_reads' HO_4.out).2.2 | (with_reducible first | refine Kd.C_alloc ?_ _ | refine Kd.C_drewN ?_ _ | refine Kd.C_drew ?_))); (case side4 => exact (Kd.R_reads' HO_4.out).2.1); rintro e w21 ⟨v670, rfl, ho0, hb⟩; have n0_ := As0.mk (Kd.R_below HO_3.out hb); have n1_ := As0.mk (Kd.R_elder' HO_4.out (Kd.R_base ho0) hb); have n2_ := As0.mk (Kd.R_lower (Kd.R_new' ho0 (Kd.R_lt HO_4.out)) (bsz HB.out)); have n3_ := As0.mk (bsp HB.out hb); clear HO_3; clear HO_4; clear HB; have HO_3 := n0_; have HO_4 := n1_; have HO671 := n2_; have HB := n3_; clear n0_ n1_ n2_ n3_; (try clear hb); (try clear hb2); (try clear hk); (try clear hi); (try clear ho0))))
       (try simp only [Act.put, sA, sZ, sS])
       go_cut [57] (fun v57 wc => ∃ (kq : Nat) (x57_19 : Bool), v57 = .bool x57_19 ∧ As0 (laws_FnUseMay.j1 kq t657 t659 t665 t669 x57_19 = some r) ∧ As0 (kq ≤ kj4) ∧ As0 (Kd.R k42 42 wc w.heap.size (fun _ => True) (.slice Ao7 t657.length co7) t657) ∧ As0 (Kd.R k54 54 wc w.heap.size (fun _ => True) v670 t669) ∧ As0 (Below w.heap.size w wc))
       case first =>
        have H := HC20.out; clear HC20; by_cases c22 : (t669.length : Int) = 0
        · rw [if_pos c22] at H
          have c22b0 : ((t669.length : Int) == 0) = true := beq_iff_eq.mpr c22; have c22b1 : ((t669.length : Int) != 0) = false := bne_eq_false_iff_eq.mpr c22; clear c22
          (first | rw [c22b0] | (simp only [i64_w, i32_w]; rw [c22b0]) | skip)
          have H' := As0.mk H; clear H; obtain ⟨Ao23, co23, eo23⟩ := Kd.R_slice HO671.out; subst eo23
          go_wp2
          repeat (go_quiet (fail); try go_wp2)
          go_meet
          case rel => exact ⟨_, (true), (by first | rfl | (simp; done) | (simp [*]; done)), H', ⟨by have := HJ4.out; first | omega | exact Nat.le_refl _⟩, ⟨HO_3.out⟩, ⟨by (with_reducible repeat (first | apply Kd.Ral | apply Kd.RdN | apply Kd.R_drew)); exact Kd.R_mono HO671.out (fun _ hk => trivial)⟩, ⟨HB.out⟩⟩
        · rw [if_neg c22] at H
          have c22b0 : ((t669.length : Int) == 0) = false := beq_eq_false_iff_ne.mpr c22; have c22b1 : ((t669.length : Int) != 0) = true := bne_iff_ne.mpr c22; have c22b2 : ¬ (t669 = []) := fun h_ => c22 (by rw [h_]; rfl)
          (first | rw [c22b0] | (simp only [i64_w, i32_w]; rw [c22b0]) | skip)
          replace H := Option.bind_eq_some_iff.mp H; obtain ⟨t672, A240, H⟩ := H; replace H : (if t672 = true then (laws_FnUseMay.j1 kj4 t657 t659 t665 t669 (decide (t660 < 0))) else (laws_FnUseMay.j1 kj4 t657 t659 t665 t669 true)) = some r := H; have A24 := As0.mk A240; clear A240; by_cases c25 : t672 = true
          · subst c25
            have H1 : (laws_FnUseMay.j1 kj4 t657 t659 t665 t669 (decide (t660 < 0))) = some r := by rw [if_pos rfl] at H; exact H
            clear H; have H := H1; clear H1; have H' := As0.mk H; clear H; obtain ⟨Ao26, co26, eo26⟩ := Kd.R_slice HO671.out; subst eo26
            go_wp2_with (first | (go_at_call 16; (with_reducible refine (spec_SpacesOk.calls kj4 _ _ t657 true _ ?side1 ?side2 A24.out).mono ?_); (case side1 => repeat (first | exact (Kd.R_reads' HO_3.out).2.2 | (with_reducible first | refine Kd.C_alloc ?_ _ | refine Kd.C_drewN ?_ _ | refine Kd.C_drew ?_))); (case side2 => exact (Kd.R_reads' HO_3.out).2.1); rintro e w27 ⟨rfl, hb⟩; have n0_ := As0.mk (Kd.R_below HO_3.out hb); have n1_ := As0.mk (Kd.R_below HO_4.out hb); have n2_ := As0.mk (Kd.R_below HO671.out hb); have n3_ := As0.mk (bsp HB.out hb); clear HO_3; clear HO_4; clear HO671; clear HB; have HO_3 := n0_; have HO_4 := n1_; have HO671 := n2_; have HB := n3_; clear n0_ n1_ n2_ n3_; (try clear hb); (try clear hb2); (try clear hk); (try clear hi)))
            repeat (go_quiet (first | (go_at_call 16; (with_reducible refine (spec_SpacesOk.calls kj4 _ _ t657 true _ ?side1 ?side2 A24.out).mono ?_); (case side1 => repeat (first | exact (Kd.R_reads' HO_3.out).2.2 | (with_reducible first | refine Kd.C_alloc ?_ _ | refine Kd.C_drewN ?_ _ | refine Kd.C_drew ?_))); (case side2 => exact (Kd.R_reads' HO_3.out).2.1); rintro e w27 ⟨rfl, hb⟩; have n0_ := As0.mk (Kd.R_below HO_3.out hb); have n1_ := As0.mk (Kd.R_below HO_4.out hb); have n2_ := As0.mk (Kd.R_below HO671.out hb); have n3_ := As0.mk (bsp HB.out hb); clear HO_3; clear HO_4; clear HO671; clear HB; have HO_3 := n0_; have HO_4 := n1_; have HO671 := n2_; have HB := n3_; clear n0_ n1_ n2_ n3_; (try clear hb); (try clear hb2); (try clear hk); (try clear hi))); try go_wp2_with (first | (go_at_call 16; (with_reducible refine (spec_SpacesOk.calls kj4 _ _ t657 true _ ?side1 ?side2 A24.out).mono ?_); (case side1 => repeat (first | exact (Kd.R_reads' HO_3.out).2.2 | (with_reducible first | refine Kd.C_alloc ?_ _ | refine Kd.C_drewN ?_ _ | refine Kd.C_drew ?_))); (case side2 => exact (Kd.R_reads' HO_3.out).2.1); rintro e w27 ⟨rfl, hb⟩; have n0_ := As0.mk (Kd.R_below HO_3.out hb); have n1_ := As0.mk (Kd.R_below HO_4.out hb); have n2_ := As0.mk (Kd.R_below HO671.out hb); have n3_ := As0.mk (bsp HB.out hb); clear HO_3; clear HO_4; clear HO671; clear HB; have HO_3 := n0_; have HO_4 := n1_; have HO671 := n2_; have HB := n3_; clear n0_ n1_ n2_ n3_; (try clear hb); (try clear hb2); (try clear hk); (try clear hi))))
            go_meet
            case rel => exact ⟨_, (decide (t660 < 0)), (by first | rfl | (simp; done) | (simp [*]; done)), H', ⟨by have := HJ4.out; first | omega | exact Nat.le_refl _⟩, ⟨HO_3.out⟩, ⟨by (with_reducible repeat (first | apply Kd.Ral | apply Kd.RdN | apply Kd.R_drew)); exact Kd.R_mono HO671.out (fun _ hk => trivial)⟩, ⟨HB.out⟩⟩
          · replace c25 := Bool.eq_false_iff.mpr c25
            subst c25; have H1 : (laws_FnUseMay.j1 kj4 t657 t659 t665 t669 true) = some r := by rw [if_neg (show ¬ (false = true) by decide)] at H; exact H
            clear H; have H := H1; clear H1; have H' := As0.mk H; clear H; obtain ⟨Ao28, co28, eo28⟩ := Kd.R_slice HO671.out; subst eo28
            go_wp2_with (first | (go_at_call 16; (with_reducible refine (spec_SpacesOk.calls kj4 _ _ t657 false _ ?side1 ?side2 A24.out).mono ?_); (case side1 => repeat (first | exact (Kd.R_reads' HO_3.out).2.2 | (with_reducible first | refine Kd.C_alloc ?_ _ | refine Kd.C_drewN ?_ _ | refine Kd.C_drew ?_))); (case side2 => exact (Kd.R_reads' HO_3.out).2.1); rintro e w29 ⟨rfl, hb⟩; have n0_ := As0.mk (Kd.R_below HO_3.out hb); have n1_ := As0.mk (Kd.R_below HO_4.out hb); have n2_ := As0.mk (Kd.R_below HO671.out hb); have n3_ := As0.mk (bsp HB.out hb); clear HO_3; clear HO_4; clear HO671; clear HB; have HO_3 := n0_; have HO_4 := n1_; have HO671 := n2_; have HB := n3_; clear n0_ n1_ n2_ n3_; (try clear hb); (try clear hb2); (try clear hk); (try clear hi)))
            repeat (go_quiet (first | (go_at_call 16; (with_reducible refine (spec_SpacesOk.calls kj4 _ _ t657 false _ ?side1 ?side2 A24.out).mono ?_); (case side1 => repeat (first | exact (Kd.R_reads' HO_3.out).2.2 | (with_reducible first | refine Kd.C_alloc ?_ _ | refine Kd.C_drewN ?_ _ | refine Kd.C_drew ?_))); (case side2 => exact (Kd.R_reads' HO_3.out).2.1); rintro e w29 ⟨rfl, hb⟩; have n0_ := As0.mk (Kd.R_below HO_3.out hb); have n1_ := As0.mk (Kd.R_below HO_4.out hb); have n2_ := As0.mk (Kd.R_below HO671.out hb); have n3_ := As0.mk (bsp HB.out hb); clear HO_3; clear HO_4; clear HO671; clear HB; have HO_3 := n0_; have HO_4 := n1_; have HO671 := n2_; have HB := n3_; clear n0_ n1_ n2_ n3_; (try clear hb); (try clear hb2); (try clear hk); (try clear hi))); try go_wp2_with (first | (go_at_call 16; (with_reducible refine (spec_SpacesOk.calls kj4 _ _ t657 false _ ?side1 ?side2 A24.out).mono ?_); (case side1 => repeat (first | exact (Kd.R_reads' HO_3.out).2.2 | (with_reducible first | refine Kd.C_alloc ?_ _ | refine Kd.C_drewN ?_ _ | refine Kd.C_drew ?_))); (case side2 => exact (Kd.R_reads' HO_3.out).2.1); rintro e w29 ⟨rfl, hb⟩; have n0_ := As0.mk (Kd.R_below HO_3.out hb); have n1_ := As0.mk (Kd.R_below HO_4.out hb); have n2_ := As0.mk (Kd.R_below HO671.out hb); have n3_ := As0.mk (bsp HB.out hb); clear HO_3; clear HO_4; clear HO671; clear HB; have HO_3 := n0_; have HO_4 := n1_; have HO671 := n2_; have HB := n3_; clear n0_ n1_ n2_ n3_; (try clear hb); (try clear hb2); (try clear hk); (try clear hi))))
            go_meet
            case rel => exact ⟨_, (true), (by first | rfl | (simp; done) | (simp [*]; done)), H', ⟨by have := HJ4.out; first | omega | exact Nat.le_refl _⟩, ⟨HO_3.out⟩, ⟨by (with_reducible repeat (first | apply Kd.Ral | apply Kd.RdN | apply Kd.R_drew)); exact Kd.R_mono HO671.out (fun _ hk => trivial)⟩, ⟨HB.out⟩⟩
       case rest =>
        clear HC20
        try clear c1
        try clear c2
        try clear c2b0
        try clear c2b1
        try clear p2
        try clear c10
        try clear c11
        try clear c11b0
        try clear c11b1
        try clear c18
        try clear c22
        try clear c22b0
        try clear c22b1
        try clear c22b2
        try clear c25
        try clear p2
        obtain ⟨kq, x57_19, rfl, HA, HJ19, HO_3, HO_8, HB⟩ := hcut
        cases kq with
        | zero => exact absurd HA.out (by simp [laws_FnUseMay.j1])
        | succ kj19 =>
         have H := HA.out; clear HA; simp only [laws_FnUseMay.j1] at H; by_cases c30 : x57_19 = true
         · subst c30
           have H1 : (some true) = some r := by rw [if_pos rfl] at H; exact H
           clear H; have H := H1; clear H1; obtain rfl := Option.some.inj H
           go_wp2
           repeat (go_quiet (fail); try go_wp2)
           go_ret
           exact ⟨eW, HB.out⟩
         · replace c30 := Bool.eq_false_iff.mpr c30
           subst c30; have H1 : ((impl_SpaceUp.f kj19 t657 t659).bind fun t673 => (laws_FnUseMay.l0 kj19 t657 t665 t669 t673 0)) = some r := by rw [if_neg (show ¬ (false = true) by decide)] at H; exact H
           clear H; have H := H1; clear H1; replace H := Option.bind_eq_some_iff.mp H; obtain ⟨t673, A310, H⟩ := H; replace H : (laws_FnUseMay.l0 kj19 t657 t665 t669 t673 0) = some r := H; have A31 := As0.mk A310; clear A310; have H' := As0.mk H; clear H
           go_wp2_with (first | (go_at_call 25; (with_reducible refine (impl_SpaceUp.calls kj19 _ _ t657 t659 t673 _ ?side1 ?side2 A31.out).mono ?_); (case side1 => repeat (first | exact (Kd.R_reads' HO_3.out).2.2 | (with_reducible first | refine Kd.C_alloc ?_ _ | refine Kd.C_drewN ?_ _ | refine Kd.C_drew ?_))); (case side2 => exact (Kd.R_reads' HO_3.out).2.1); rintro e w32 ⟨v674, rfl, ho0, hb⟩; have n0_ := As0.mk (Kd.R_below HO_3.out hb); have n1_ := As0.mk (Kd.R_below HO_8.out hb); have n2_ := As0.mk (Kd.R_lower ho0 (bsz HB.out)); have n3_ := As0.mk (bsp HB.out hb); clear HO_3; clear HO_8; clear HB; have HO_3 := n0_; have HO_8 := n1_; have HO675 := n2_; have HB := n3_; clear n0_ n1_ n2_ n3_; (try clear hb); (try clear hb2); (try clear hk); (try clear hi); (try clear ho0)))
           repeat (go_quiet (first | (go_at_call 25; (with_reducible refine (impl_SpaceUp.calls kj19 _ _ t657 t659 t673 _ ?side1 ?side2 A31.out).mono ?_); (case side1 => repeat (first | exact (Kd.R_reads' HO_3.out).2.2 | (with_reducible first | refine Kd.C_alloc ?_ _ | refine Kd.C_drewN ?_ _ | refine Kd.C_drew ?_))); (case side2 => exact (Kd.R_reads' HO_3.out).2.1); rintro e w32 ⟨v674, rfl, ho0, hb⟩; have n0_ := As0.mk (Kd.R_below HO_3.out hb); have n1_ := As0.mk (Kd.R_below HO_8.out hb); have n2_ := As0.mk (Kd.R_lower ho0 (bsz HB.out)); have n3_ := As0.mk (bsp HB.out hb); clear HO_3; clear HO_8; clear HB; have HO_3 := n0_; have HO_8 := n1_; have HO675 := n2_; have HB := n3_; clear n0_ n1_ n2_ n3_; (try clear hb); (try clear hb2); (try clear hk); (try clear hi); (try clear ho0))); try go_wp2_with (first | (go_at_call 25; (with_reducible refine (impl_SpaceUp.calls kj19 _ _ t657 t659 t673 _ ?side1 ?side2 A31.out).mono ?_); (case side1 => repeat (first | exact (Kd.R_reads' HO_3.out).2.2 | (with_reducible first | refine Kd.C_alloc ?_ _ | refine Kd.C_drewN ?_ _ | refine Kd.C_drew ?_))); (case side2 => exact (Kd.R_reads' HO_3.out).2.1); rintro e w32 ⟨v674, rfl, ho0, hb⟩; have n0_ := As0.mk (Kd.R_below HO_3.out hb); have n1_ := As0.mk (Kd.R_below HO_8.out hb); have n2_ := As0.mk (Kd.R_lower ho0 (bsz HB.out)); have n3_ := As0.mk (bsp HB.out hb); clear HO_3; clear HO_8; clear HB; have HO_3 := n0_; have HO_8 := n1_; have HO675 := n2_; have HB := n3_; clear n0_ n1_ n2_ n3_; (try clear hb); (try clear hb2); (try clear hk); (try clear hi); (try clear ho0))))
           go_loopg [10] kj19 (fun kq v10 w' => ∃ (x10_3 : Int), v10 = .int .i64 x10_3 ∧ As0 (laws_FnUseMay.l0 kq t657 t665 t669 t673 x10_3 = some r) ∧ As0 (kq ≤ kj19) ∧ As0 (Kd.R k42 42 w' w.heap.size (fun _ => True) (.slice Ao7 t657.length co7) t657) ∧ As0 (Kd.R k54 54 w' w.heap.size (fun _ => True) v670 t669) ∧ As0 (Kd.R Kd.string 9 w' w.heap.size (fun _ => True) v674 t673) ∧ As0 (Below w.heap.size w w'))
           case atStart => exact ⟨(0), (by first | rfl | (simp; done) | (simp [*]; done)), H', ⟨Nat.le_refl _⟩, ⟨HO_3.out⟩, ⟨HO_8.out⟩, ⟨HO675.out⟩, ⟨HB.out⟩⟩
           case round =>
            clear H'
            try clear c1
            try clear c2
            try clear c2b0
            try clear c2b1
            try clear p2
            try clear c3
            try clear c10
            try clear c11
            try clear c11b0
            try clear c11b1
            try clear c18
            try clear c22
            try clear c22b0
            try clear c22b1
            try clear c22b2
            try clear c25
            try clear c30
            try clear p2
            obtain ⟨x10_3, rfl, HA, HK3, HO_3, HO_8, HO_9, HB⟩ := hrel
            cases gk with
            | zero => exact absurd HA.out (by simp [laws_FnUseMay.l0])
            | succ k3 =>
             have H := HA.out; clear HA; simp only [laws_FnUseMay.l0] at H; by_cases c33 : x10_3 < (t673.length : Int)
             · rw [if_pos c33] at H
               have c33b0 : decide (x10_3 < (t673.length : Int)) = true := decide_eq_true c33; clear c33; have H' := As0.mk H; clear H; obtain ⟨Ao34, co34, eo34⟩ := Kd.R_slice HO_9.out; subst eo34
               go_wp2
               repeat (go_quiet (fail); try go_wp2)
               go_loopg [11] k3 (fun kq v11 w' => ∃ (x11_4 : Int), v11 = .int .i64 x11_4 ∧ As0 (laws_FnUseMay.l1 kq t657 t665 t669 t673 x10_3 x11_4 = some r) ∧ As0 (kq ≤ k3) ∧ As0 (Kd.R k42 42 w' w.heap.size (fun _ => True) (.slice Ao7 t657.length co7) t657) ∧ As0 (Kd.R k54 54 w' w.heap.size (fun _ => True) v670 t669) ∧ As0 (Kd.R Kd.string 9 w' w.heap.size (fun _ => True) (.slice Ao34 t673.length co34) t673) ∧ As0 (Below w.heap.size w w'))
               case atStart => exact ⟨(0), (by first | rfl | (simp; done) | (simp [*]; done)), H', ⟨Nat.le_refl _⟩, ⟨HO_3.out⟩, ⟨HO_8.out⟩, ⟨HO_9.out⟩, ⟨HB.out⟩⟩
               case round =>
                clear H'
                try clear c1
                try clear c2
                try clear c2b0
                try clear c2b1
                try clear p2
                try clear c3
                try clear c10
                try clear c11
                try clear c11b0
                try clear c11b1
                try clear c18
                try clear c22
                try clear c22b0
                try clear c22b1
                try clear c22b2
                try clear c25
                try clear c30
                try clear c33
                try clear c33b0
                try clear p2
                obtain ⟨x11_4, rfl, HA, HK4, HO_3, HO_8, HO_9, HB⟩ := hrel
                cases gk with
                | zero => exact absurd HA.out (by simp [laws_FnUseMay.l1])
                | succ k4 =>
                 have H := HA.out; clear HA; simp only [laws_FnUseMay.l1] at H; by_cases c35 : x11_4 < (t657.length : Int)
                 · rw [if_pos c35] at H
                   have c35b0 : decide (x11_4 < (t657.length : Int)) = true := decide_eq_true c35; clear c35; by_cases c36 : 0 ≤ x11_4
                   · rw [if_pos c36] at H
                     have c36b0 : decide (0 ≤ x11_4) = true := decide_eq_true c36; clear c36; by_cases c37 : 0 ≤ x10_3
                     · rw [if_pos c37] at H
                       have c37b0 : decide (0 ≤ x10_3) = true := decide_eq_true c37; clear c37; by_cases c38 : x10_3 < (t673.length : Int)
                       · rw [if_pos c38] at H
                         have c38b0 : decide (x10_3 < (t673.length : Int)) = true := decide_eq_true c38; clear c38; by_cases c39 : ((riS26 t657 x11_4).f0).toList = (rdOf ByteArray.empty t673 x10_3).toList
                         · rw [if_pos c39] at H
                           have c39b0 : (((riS26 t657 x11_4).f0).toList == (rdOf ByteArray.empty t673 x10_3).toList) = true := beq_iff_eq.mpr c39; have c39b1 : (((riS26 t657 x11_4).f0).toList != (rdOf ByteArray.empty t673 x10_3).toList) = false := bne_eq_false_iff_eq.mpr c39; clear c39; by_cases c40 : ((riS26 t657 x11_4).f2) ≥ 0
                           · rw [if_pos c40] at H
                             have c40b0 : decide (0 ≤ ((riS26 t657 x11_4).f2)) = true := decide_eq_true c40; clear c40; by_cases c41 : x11_4 < (t669.length : Int)
                             · rw [if_pos c41] at H
                               have c41b0 : decide (x11_4 < (t669.length : Int)) = true := decide_eq_true c41; clear c41; by_cases c42 : ((riU27 t669 x11_4).f1) > ((riS26 t657 x11_4).f2)
                               · rw [if_pos c42] at H
                                 have c42b0 : decide (((riS26 t657 x11_4).f2) < ((riU27 t669 x11_4).f1)) = true := decide_eq_true c42; clear c42; obtain rfl := Option.some.inj H; have p676 : 0 ≤ (x11_4 : Int) := odt; have q676 : x11_4 < (t657.length : Int) := odt; obtain ⟨ad676, e676, hx676_0, hx676_1, hx676_2, hx676_3, hx676_4⟩ := at_T42 (Kd.R_reads' HO_3.out).2.2 x11_4 p676 q676
                                 cases e676
                                 replace p676 := eq_true p676; replace q676 := eq_true q676; have p677 : 0 ≤ (x10_3 : Int) := odt; have q677 : x10_3 < (t673.length : Int) := odt; obtain ⟨ad677, e677, hx677_0⟩ := Kd.at_string (Kd.R_reads' HO_9.out).2.2 x10_3 p677 q677
                                 cases e677
                                 replace p677 := eq_true p677; replace q677 := eq_true q677; have p678 : 0 ≤ (x11_4 : Int) := odt; have q678 : x11_4 < (t657.length : Int) := odt; obtain ⟨ad678, e678, hx678_0, hx678_1, hx678_2, hx678_3, hx678_4⟩ := at_T42 (Kd.R_reads' HO_3.out).2.2 x11_4 p678 q678; obtain rfl : ad676 = ad678 := (by injection e678); replace p678 := eq_true p678; replace q678 := eq_true q678; obtain ⟨Ao43, co43, eo43⟩ := Kd.R_slice HO_8.out; subst eo43; have p679 : 0 ≤ (x11_4 : Int) := odt; have q679 : x11_4 < (t669.length : Int) := odt; obtain ⟨ad679, e679, hx679_0, hx679_1⟩ := at_T54 (Kd.R_reads' HO_8.out).2.2 x11_4 p679 q679
                                 cases e679
                                 replace p679 := eq_true p679; replace q679 := eq_true q679; have p680 : 0 ≤ (x11_4 : Int) := odt; have q680 : x11_4 < (t657.length : Int) := odt; obtain ⟨ad680, e680, hx680_0, hx680_1, hx680_2, hx680_3, hx680_4⟩ := at_T42 (Kd.R_reads' HO_3.out).2.2 x11_4 p680 q680; obtain rfl : ad676 = ad680 := (by injection e680); replace p680 := eq_true p680; replace q680 := eq_true q680; have p681 : 0 ≤ (x10_3 : Int) := odt; have q681 : x10_3 < (t673.length : Int) := odt; obtain ⟨ad681, e681, hx681_0⟩ := Kd.at_string (Kd.R_reads' HO_9.out).2.2 x10_3 p681 q681; obtain rfl : ad677 = ad681 := (by injection e681); replace p681 := eq_true p681; replace q681 := eq_true q681
                                 go_wp2
                                 repeat (go_quiet (fail); try go_wp2)
                                 go_ret
                                 exact ⟨eW, by repeat (first | (with_reducible first | exact HB.out | apply bal | apply pbN | apply bd1) | exact HB.out)⟩
                               · rw [if_neg c42] at H
                                 have c42b0 : decide (((riS26 t657 x11_4).f2) < ((riU27 t669 x11_4).f1)) = false := decide_eq_false c42; clear c42; have H' := As0.mk H; clear H; have p676 : 0 ≤ (x11_4 : Int) := odt; have q676 : x11_4 < (t657.length : Int) := odt; obtain ⟨ad676, e676, hx676_0, hx676_1, hx676_2, hx676_3, hx676_4⟩ := at_T42 (Kd.R_reads' HO_3.out).2.2 x11_4 p676 q676
                                 cases e676
                                 replace p676 := eq_true p676; replace q676 := eq_true q676; have p677 : 0 ≤ (x10_3 : Int) := odt; have q677 : x10_3 < (t673.length : Int) := odt; obtain ⟨ad677, e677, hx677_0⟩ := Kd.at_string (Kd.R_reads' HO_9.out).2.2 x10_3 p677 q677
                                 cases e677
                                 replace p677 := eq_true p677; replace q677 := eq_true q677; have p678 : 0 ≤ (x11_4 : Int) := odt; have q678 : x11_4 < (t657.length : Int) := odt; obtain ⟨ad678, e678, hx678_0, hx678_1, hx678_2, hx678_3, hx678_4⟩ := at_T42 (Kd.R_reads' HO_3.out).2.2 x11_4 p678 q678; obtain rfl : ad676 = ad678 := (by injection e678); replace p678 := eq_true p678; replace q678 := eq_true q678; obtain ⟨Ao44, co44, eo44⟩ := Kd.R_slice HO_8.out; subst eo44; have p679 : 0 ≤ (x11_4 : Int) := odt; have q679 : x11_4 < (t669.length : Int) := odt; obtain ⟨ad679, e679, hx679_0, hx679_1⟩ := at_T54 (Kd.R_reads' HO_8.out).2.2 x11_4 p679 q679
                                 cases e679
                                 replace p679 := eq_true p679; replace q679 := eq_true q679; have p680 : 0 ≤ (x11_4 : Int) := odt; have q680 : x11_4 < (t657.length : Int) := odt; obtain ⟨ad680, e680, hx680_0, hx680_1, hx680_2, hx680_3, hx680_4⟩ := at_T42 (Kd.R_reads' HO_3.out).2.2 x11_4 p680 q680; obtain rfl : ad676 = ad680 := (by injection e680); replace p680 := eq_true p680; replace q680 := eq_true q680
                                 go_wp2
                                 repeat (go_quiet (fail); try go_wp2)
                                 go_roundg k4
                                 case measure => have := HJ4.out; have := HJ19.out; have := HK3.out; have := HK4.out; omega
                                 case rel => exact ⟨(wrap64 (x11_4 + 1)), (by first | rfl | (simp; done) | (simp [*]; done)), H', ⟨by have := HJ4.out; have := HJ19.out; have := HK3.out; have := HK4.out; omega⟩, ⟨by (with_reducible repeat (first | apply Kd.Ral | apply Kd.RdN | apply Kd.R_drew)); exact HO_3.out⟩, ⟨by (with_reducible repeat (first | apply Kd.Ral | apply Kd.RdN | apply Kd.R_drew)); exact HO_8.out⟩, ⟨by (with_reducible repeat (first | apply Kd.Ral | apply Kd.RdN | apply Kd.R_drew)); exact HO_9.out⟩, ⟨by repeat (first | (with_reducible first | exact HB.out | apply bal | apply pbN | apply bd1) | exact HB.out)⟩⟩
                             · rw [if_neg c41] at H
                               exact absurd H (by simp)
                           · rw [if_neg c40] at H
                             have c40b0 : decide (0 ≤ ((riS26 t657 x11_4).f2)) = false := decide_eq_false c40; clear c40; have H' := As0.mk H; clear H; have p676 : 0 ≤ (x11_4 : Int) := odt; have q676 : x11_4 < (t657.length : Int) := odt; obtain ⟨ad676, e676, hx676_0, hx676_1, hx676_2, hx676_3, hx676_4⟩ := at_T42 (Kd.R_reads' HO_3.out).2.2 x11_4 p676 q676
                             cases e676
                             replace p676 := eq_true p676; replace q676 := eq_true q676; have p677 : 0 ≤ (x10_3 : Int) := odt; have q677 : x10_3 < (t673.length : Int) := odt; obtain ⟨ad677, e677, hx677_0⟩ := Kd.at_string (Kd.R_reads' HO_9.out).2.2 x10_3 p677 q677
                             cases e677
                             replace p677 := eq_true p677; replace q677 := eq_true q677; have p678 : 0 ≤ (x11_4 : Int) := odt; have q678 : x11_4 < (t657.length : Int) := odt; obtain ⟨ad678, e678, hx678_0, hx678_1, hx678_2, hx678_3, hx678_4⟩ := at_T42 (Kd.R_reads' HO_3.out).2.2 x11_4 p678 q678; obtain rfl : ad676 = ad678 := (by injection e678); replace p678 := eq_true p678; replace q678 := eq_true q678
                             go_wp2
                             repeat (go_quiet (fail); try go_wp2)
                             go_roundg k4
                             case measure => have := HJ4.out; have := HJ19.out; have := HK3.out; have := HK4.out; omega
                             case rel => exact ⟨(wrap64 (x11_4 + 1)), (by first | rfl | (simp; done) | (simp [*]; done)), H', ⟨by have := HJ4.out; have := HJ19.out; have := HK3.out; have := HK4.out; omega⟩, ⟨by (with_reducible repeat (first | apply Kd.Ral | apply Kd.RdN | apply Kd.R_drew)); exact HO_3.out⟩, ⟨by (with_reducible repeat (first | apply Kd.Ral | apply Kd.RdN | apply Kd.R_drew)); exact HO_8.out⟩, ⟨by (with_reducible repeat (first | apply Kd.Ral | apply Kd.RdN | apply Kd.R_drew)); exact HO_9.out⟩, ⟨by repeat (first | (with_reducible first | exact HB.out | apply bal | apply pbN | apply bd1) | exact HB.out)⟩⟩
                         · rw [if_neg c39] at H
                           have c39b0 : (((riS26 t657 x11_4).f0).toList == (rdOf ByteArray.empty t673 x10_3).toList) = false := beq_eq_false_iff_ne.mpr c39; have c39b1 : (((riS26 t657 x11_4).f0).toList != (rdOf ByteArray.empty t673 x10_3).toList) = true := bne_iff_ne.mpr c39; have H' := As0.mk H; clear H; have p676 : 0 ≤ (x11_4 : Int) := odt; have q676 : x11_4 < (t657.length : Int) := odt; obtain ⟨ad676, e676, hx676_0, hx676_1, hx676_2, hx676_3, hx676_4⟩ := at_T42 (Kd.R_reads' HO_3.out).2.2 x11_4 p676 q676
                           cases e676
                           replace p676 := eq_true p676; replace q676 := eq_true q676; have p677 : 0 ≤ (x10_3 : Int) := odt; have q677 : x10_3 < (t673.length : Int) := odt; obtain ⟨ad677, e677, hx677_0⟩ := Kd.at_string (Kd.R_reads' HO_9.out).2.2 x10_3 p677 q677
                           cases e677
                           replace p677 := eq_true p677; replace q677 := eq_true q677
                           go_wp2
                           repeat (go_quiet (fail); try go_wp2)
                           go_roundg k4
                           case measure => have := HJ4.out; have := HJ19.out; have := HK3.out; have := HK4.out; omega
                           case rel => exact ⟨(wrap64 (x11_4 + 1)), (by first | rfl | (simp; done) | (simp [*]; done)), H', ⟨by have := HJ4.out; have := HJ19.out; have := HK3.out; have := HK4.out; omega⟩, ⟨by (with_reducible repeat (first | apply Kd.Ral | apply Kd.RdN | apply Kd.R_drew)); exact HO_3.out⟩, ⟨by (with_reducible repeat (first | apply Kd.Ral | apply Kd.RdN | apply Kd.R_drew)); exact HO_8.out⟩, ⟨by (with_reducible repeat (first | apply Kd.Ral | apply Kd.RdN | apply Kd.R_drew)); exact HO_9.out⟩, ⟨by repeat (first | (with_reducible first | exact HB.out | apply bal | apply pbN | apply bd1) | exact HB.out)⟩⟩
                       · rw [if_neg c38] at H
                         exact absurd H (by simp)
                     · rw [if_neg c37] at H
                       exact absurd H (by simp)
                   · rw [if_neg c36] at H
                     exact absurd H (by simp)
                 · rw [if_neg c35] at H
                   have c35b0 : decide (x11_4 < (t657.length : Int)) = false := decide_eq_false c35; clear c35; have H' := As0.mk H; clear H
                   go_wp2
                   repeat (go_quiet (fail); try go_wp2)
                   go_roundg k4
                   case measure => have := HJ4.out; have := HJ19.out; have := HK3.out; have := HK4.out; omega
                   case rel => exact ⟨(wrap64 (x10_3 + 1)), (by first | rfl | (simp; done) | (simp [*]; done)), H', ⟨by have := HJ4.out; have := HJ19.out; have := HK3.out; have := HK4.out; omega⟩, ⟨HO_3.out⟩, ⟨HO_8.out⟩, ⟨HO_9.out⟩, ⟨HB.out⟩⟩
             · rw [if_neg c33] at H
               have c33b0 : decide (x10_3 < (t673.length : Int)) = false := decide_eq_false c33; clear c33; by_cases c45 : t665.toList = ([] : List UInt8)
               · rw [if_pos c45] at H
                 have c45b0 : (t665.toList == ([] : List UInt8)) = true := beq_iff_eq.mpr c45; have c45b1 : (t665.toList != ([] : List UInt8)) = false := bne_eq_false_iff_eq.mpr c45; clear c45; obtain rfl := Option.some.inj H; obtain ⟨Ao46, co46, eo46⟩ := Kd.R_slice HO_9.out; subst eo46
                 go_wp2
                 repeat (go_quiet (fail); try go_wp2)
                 go_ret
                 exact ⟨eW, HB.out⟩
               · rw [if_neg c45] at H
                 have c45b0 : (t665.toList == ([] : List UInt8)) = false := beq_eq_false_iff_ne.mpr c45; have c45b1 : (t665.toList != ([] : List UInt8)) = true := bne_iff_ne.mpr c45; obtain rfl := Option.some.inj H; obtain ⟨Ao47, co47, eo47⟩ := Kd.R_slice HO_9.out; subst eo47
                 go_wp2
                 repeat (go_quiet (fail); try go_wp2)
                 go_ret
                 exact ⟨eW, HB.out⟩
/-- THE ONE PURE STATEMENT of laws_FnUseMay. -/
def laws_FnUseMay.Pure : Prop := ∀ (l0 : List Int), (l0.length ≤ 9223372036854775807 ∧ ∀ y_ ∈ l0, (Lit.int .u8 y_).wf = true) → ∃ k, laws_FnUseMay.f k l0 = some true
theorem laws_FnUseMay.walk (P : laws_FnUseMay.Pure) (A0 : Option Addr) (c0 : Nat) (l0 : List Int) (w : World) (hr0 : Kd.C (Kd.int .u8) w A0 l0.length l0) (hc0 : l0.length ≤ c0) (g0 : (l0.length ≤ 9223372036854775807 ∧ ∀ y_ ∈ l0, (Lit.int .u8 y_).wf = true)) :
 Calls Tryd.prog 10 #[.slice A0 l0.length c0] w fun e w' => e = .returned (.bool true) ∧ Below w.heap.size w w' := by
 obtain ⟨k, h⟩ := P l0 g0; refine (laws_FnUseMay.calls k _ _ l0 true w hr0 hc0 (As0.mk rfl) h).mono ?_; rintro e w' ⟨rfl, hd⟩
 exact ⟨rfl, hd⟩
end Go.Proofs.YtlmpmlcjlioeaaaDoor.P
