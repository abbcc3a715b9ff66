/- Functions of the law FnDiskStop as plain Lean functions, and that the machine's calls do what they say. -/
import Derived.Test.YtjmdinhobhoojaaZFnDiskStop0
import Derived.Test.YtjmdinhobhoojaaZFnDiskStop2
import Derived.Test.YtjmdinhobhoojaaZFnDiskStop3
namespace Go.Proofs.Ytjmdinhobhoojaa.P
open Go.RowKit Go.Proofs.YtjmdinhobhoojaaW.PrintWords Go.Proofs.YtjmdinhobhoojaaW.PrintLast Go.Proofs.YtjmdinhobhoojaaW.PrintMore
attribute [local go_sem] max2_int min2_int max_two min_two max_three min_three max_four min_four   -- for this text's walks alone
set_option linter.unusedVariables false
set_option linter.unusedSimpArgs false
mutual
def laws_FnDiskStop.j0 : Nat → List Int → List Int → Bool → Option (Bool)
  | 0, _, _, _ => none
  | k + 1, x0, x1, x16 => if x16 = true then (some true) else ((spec_DrawDiskFlush.f k x0).bind fun bt477 => ((impl_DiskOk.f k bt477.1 bt477.2.1 bt477.2.2).bind fun t485 => ((spec_DiskOk.f k bt477.1 bt477.2.1 bt477.2.2).bind fun t486 => (if (t485 != t486) = true then (laws_FnDiskStop.j1 k x1 true bt477.1 bt477.2.1 bt477.2.2) else ((spec_DiskOk.f k bt477.1 bt477.2.1 bt477.2.2).bind fun t487 => (laws_FnDiskStop.j1 k x1 (!t487) bt477.1 bt477.2.1 bt477.2.2))))))
def laws_FnDiskStop.j1 : Nat → List Int → Bool → List ByteArray → List (S_impl_Wait) → Int → Option (Bool)
  | 0, _, _, _, _, _ => none
  | k + 1, x1, x28, x485000, x485001, x485002 => if x28 = true then ((impl_DiskOk.f k x485000 x485001 x485002).bind fun t488 => ((spec_DiskOk.f k x485000 x485001 x485002).bind fun t489 => (some (t488 == t489)))) else (laws_FnDiskStop.l0 k 0 x485000 x485001 ((x1.length : Int) % 3) x485000 x485001 ((x1.length : Int) % 3))
def laws_FnDiskStop.l0 : Nat → Int → List ByteArray → List (S_impl_Wait) → Int → List ByteArray → List (S_impl_Wait) → Int → Option (Bool)
  | 0, _, _, _, _, _, _, _ => none
  | k + 1, x7, x485000, x485001, x485002, x491000, x491001, x491002 => if x7 < 4 then ((impl_DiskWrite.f k x491000 x491001 x491002 x7 (⟨#[119]⟩ : ByteArray)).bind fun bt499 => (if x491002 = 0 then ((laws_wmDisk.f k bt499.1 bt499.2.1 bt499.2.2 x491000 x491001 x491002).bind fun t507 => (if t507 = true then (if x491002 > 0 then (if bt499.2.2 = (wrap64 (x491002 - 1)) then (if (bt499.2.1.length : Int) = (wrap64 ((x491001.length : Int) + 1)) then (laws_FnDiskStop.l0 k (wrap64 (x7 + 1)) x485000 x485001 x485002 bt499.1 bt499.2.1 bt499.2.2) else (some false)) else (some false)) else (laws_FnDiskStop.l0 k (wrap64 (x7 + 1)) x485000 x485001 x485002 bt499.1 bt499.2.1 bt499.2.2)) else (some false))) else (if x491002 > 0 then (if bt499.2.2 = (wrap64 (x491002 - 1)) then (if (bt499.2.1.length : Int) = (wrap64 ((x491001.length : Int) + 1)) then (laws_FnDiskStop.l0 k (wrap64 (x7 + 1)) x485000 x485001 x485002 bt499.1 bt499.2.1 bt499.2.2) else (some false)) else (some false)) else (laws_FnDiskStop.l0 k (wrap64 (x7 + 1)) x485000 x485001 x485002 bt499.1 bt499.2.1 bt499.2.2)))) else ((impl_DiskFlush.f k x491000 x491001 x491002).bind fun bt491 => ((laws_wmDisk.f k bt491.1 bt491.2.1 bt491.2.2 x491000 x491001 x491002).bind fun t498 => (if t498 = true then (if x491002 = 0 then (some ((x491001.length : Int) == (wrap64 ((x485001.length : Int) + x485002)))) else (some false)) else (some false))))
end
def laws_FnDiskStop.f (k : Nat) (l0 : List Int) (l1 : List Int) : Option (Bool) := if (l0.length : Int) > 1048576 then (laws_FnDiskStop.j0 k l0 l1 true) else (laws_FnDiskStop.j0 k l0 l1 (decide ((l1.length : Int) > 1048576)))
def laws_FnDiskStop.T4 : Bool × List (List Nat × List Nat) := (true, [([], []), ([0], [0]), ([], []), ([2, 1], [2]), ([1, 3], [1, 3]), ([4, 3], [4]), ([5], [5]), ([6, 5, 5], [5, 6]), ([7, 5], [5, 7]), ([5, 8], [5, 8])])
def laws_FnDiskStop.B4 : List Nat := [0, 1, 0, 7, 15, 31, 63, 127, 255, 511]
theorem laws_FnDiskStop.tab4 : rtab .any (opsOf Try.f7 4) = laws_FnDiskStop.T4 := by kernel_rfl
theorem laws_FnDiskStop.bits4 : waitsOk laws_FnDiskStop.T4.2 laws_FnDiskStop.B4 = true := by kernel_rfl
def laws_FnDiskStop.T15 : Bool × List (List Nat × List Nat) := (true, [([], []), ([0], [0]), ([], []), ([1, 2, 1], [1, 2]), ([3, 3], [3]), ([4], [4]), ([5, 4], [4, 5]), ([6, 4], [4, 6]), ([4, 7], [4, 7]), ([8, 4], [8]), ([9], [9]), ([10, 9], [9, 10]), ([11, 9], [9, 11]), ([9], [9]), ([13, 9], [9, 13]), ([14, 9], [9, 14]), ([9], [9]), ([16, 9], [9, 16]), ([15, 17, 9], [9, 15, 17]), ([12, 18, 9], [9, 12, 18]), ([9, 19], [9, 19]), ([20, 9, 0, 1, 2, 3, 4, 5, 6, 7, 8, 9, 10, 11, 12, 13, 14, 15, 16, 17, 18, 19, 20], [20])])
def laws_FnDiskStop.B15 : List Nat := [0, 1, 0, 7, 15, 31, 63, 127, 255, 511, 1023, 2047, 4095, 1023, 9215, 25599, 1023, 66559, 254975, 524287, 1048575, 2097151]
theorem laws_FnDiskStop.tab15 : rtab .any (opsOf Try.f7 15) = laws_FnDiskStop.T15 := by kernel_rfl
theorem laws_FnDiskStop.bits15 : waitsOk laws_FnDiskStop.T15.2 laws_FnDiskStop.B15 = true := by kernel_rfl
set_option maxHeartbeats 8000000 in
set_option maxRecDepth 100000 in
theorem laws_FnDiskStop.calls (k : Nat) (A0 : Option Addr) (c0 : Nat) (l0 : List Int) (A1 : Option Addr) (c1 : Nat) (l1 : List Int) (r : Bool) (w : World) (hr0 : Kd.C (Kd.int .u8) w A0 l0.length l0) (hc0 : l0.length ≤ c0) (hr1 : Kd.C (Kd.int .u8) w A1 l1.length l1) (hc1 : l1.length ≤ c1) (HTru_ : Aside0 (r = true)) (h : laws_FnDiskStop.f k l0 l1 = some r) :
    Calls Try.prog 7 #[.slice A0 l0.length c0, .slice A1 l1.length c1] w fun e w' => e = .returned (.bool r) ∧ Below w.heap.size w w' := by
  have hu26 := Try.underlying26
  have HR0 := Aside0.mk hr0
  have HC0 := Aside0.mk hc0
  clear hr0 hc0
  have HR1 := Aside0.mk hr1
  have HC1 := Aside0.mk hc1
  clear hr1 hc1
  have HB := Aside0.mk (Below.refl w.heap.size w)
  have H : (if (l0.length : Int) > 1048576 then (laws_FnDiskStop.j0 k l0 l1 true) else (laws_FnDiskStop.j0 k l0 l1 (decide ((l1.length : Int) > 1048576)))) = some r := h
  clear h
  have HC3 := Aside0.mk H
  clear H
  go_enter Try.func7, Try.ntmps7
  go_upto_region 1 with (fail)
  go_cut [16] (fun v16 wc => ∃ (kq : Nat) (x16_2 : Bool), v16 = .bool x16_2 ∧ Aside0 (laws_FnDiskStop.j0 kq l0 l1 x16_2 = some r) ∧ Aside0 (kq ≤ k) ∧ Aside0 (Below w.heap.size w wc))
  case first =>
    have H := HC3.out
    clear HC3
    by_cases c4 : (l0.length : Int) > 1048576
    · rw [if_pos c4] at H
      have c4b0 : decide (1048576 < (l0.length : Int)) = true := decide_eq_true c4
      have c4b1 : decide (1048576 < l0.length) = true := decide_eq_true (by omega)
      clear c4
      (first | rw [c4b0] | (simp only [i64_w, i32_w]; rw [c4b0]) | skip)
      have H' := Aside0.mk H
      clear H
      go_wp2
      go_meet
      case rel => exact ⟨_, (true), (by first | rfl | (simp; done) | (simp [*]; done)), H', ⟨by first | omega | exact Nat.le_refl _⟩, ⟨by repeat (first | (with_reducible first | exact HB.out | apply below_alloc | apply pw_below_drewN | apply below_drew1) | exact HB.out)⟩⟩
    · rw [if_neg c4] at H
      have c4b0 : decide (1048576 < (l0.length : Int)) = false := decide_eq_false c4
      have c4b1 : decide (1048576 < l0.length) = false := decide_eq_false (by omega)
      clear c4
      (first | rw [c4b0] | (simp only [i64_w, i32_w]; rw [c4b0]) | skip)
      have H' := Aside0.mk H
      clear H
      go_wp2
      go_meet
      case rel => exact ⟨_, (decide ((l1.length : Int) > 1048576)), (by first | rfl | (simp; done) | (simp [*]; done)), H', ⟨by first | omega | exact Nat.le_refl _⟩, ⟨by repeat (first | (with_reducible first | exact HB.out | apply below_alloc | apply pw_below_drewN | apply below_drew1) | exact HB.out)⟩⟩
  case rest =>
    clear HC3
    try clear c1
    try clear p2
    try clear c4
    try clear c4b0
    try clear c4b1
    obtain ⟨kq, x16_2, rfl, HA, HJ2, HB⟩ := hcut
    cases kq with
    | zero => exact absurd HA.out (by simp [laws_FnDiskStop.j0])
    | succ kj2 =>
      have H := HA.out
      clear HA
      simp only [laws_FnDiskStop.j0] at H
      by_cases c5 : x16_2 = true
      · subst c5
        have H1 : (some true) = some r := by rw [if_pos rfl] at H; exact H
        clear H
        have H := H1
        clear H1
        obtain rfl := Option.some.inj H
        go_wp2
        go_ret
        exact ⟨by first | rfl | (simp [errW_none, errW_some] <;> rfl) | (simp [*, errW_none, errW_some] <;> rfl), by repeat (first | (with_reducible first | exact HB.out | apply below_alloc | apply pw_below_drewN | apply below_drew1) | exact HB.out)⟩
      · replace c5 := Bool.eq_false_iff.mpr c5
        subst c5
        have H1 : ((spec_DrawDiskFlush.f kj2 l0).bind fun bt477 => ((impl_DiskOk.f kj2 bt477.1 bt477.2.1 bt477.2.2).bind fun t485 => ((spec_DiskOk.f kj2 bt477.1 bt477.2.1 bt477.2.2).bind fun t486 => (if (t485 != t486) = true then (laws_FnDiskStop.j1 kj2 l1 true bt477.1 bt477.2.1 bt477.2.2) else ((spec_DiskOk.f kj2 bt477.1 bt477.2.1 bt477.2.2).bind fun t487 => (laws_FnDiskStop.j1 kj2 l1 (!t487) bt477.1 bt477.2.1 bt477.2.2)))))) = some r := by rw [if_neg (show ¬ (false = true) by decide)] at H; exact H
        clear H
        have H := H1
        clear H1
        replace H := Option.bind_eq_some_iff.mp H
        obtain ⟨⟨t477, t480, t483⟩, A60, H⟩ := H
        replace H : ((impl_DiskOk.f kj2 t477 t480 t483).bind fun t485 => ((spec_DiskOk.f kj2 t477 t480 t483).bind fun t486 => (if (t485 != t486) = true then (laws_FnDiskStop.j1 kj2 l1 true t477 t480 t483) else ((spec_DiskOk.f kj2 t477 t480 t483).bind fun t487 => (laws_FnDiskStop.j1 kj2 l1 (!t487) t477 t480 t483))))) = some r := H
        have A6 := Aside0.mk A60
        clear A60
        have HC7 := Aside0.mk H
        clear H
        go_upto_region 4 with (first | ((with_reducible refine gate_callee (f := 25) rfl ?_); refine goesL_ (some 18) rfl rfl Try.func25 (by kernel_rfl) rfl #[.slice A0 l0.length c0] rfl (by (try simp only [List.map_toArray, List.map_cons, List.map_nil]); first | done | rfl | (simp only [List.length_drop, List.length_take]; rfl)) ?_; (with_reducible refine (spec_DrawDiskFlush.calls kj2 _ _ l0 t477 t480 t483 _ ?side1 ?side2 A6.out).mono ?_); (case side1 => repeat (first | exact (Kd.C_below HR0.out HB.out) | (with_reducible refine Kd.C_alloc ?_ _) | (with_reducible refine Kd.C_drewN ?_ _) | (with_reducible refine Kd.C_drew ?_))); (case side2 => exact HC0.out); rintro e w8 ⟨v478, v481, rfl, ho0, ho1, hb⟩; refine ⟨_, rfl, ?_⟩; have n0_ := Aside0.mk (Kd.Q_lower ho0 (below_size (by repeat (first | (with_reducible first | exact HB.out | apply below_alloc | apply pw_below_drewN | apply below_drew1) | exact HB.out)))); have n1_ := Aside0.mk (Kd.R_lower ho1 (below_size (by repeat (first | (with_reducible first | exact HB.out | apply below_alloc | apply pw_below_drewN | apply below_drew1) | exact HB.out)))); have n2_ := Aside0.mk (below_step (by repeat (first | (with_reducible first | exact HB.out | apply below_alloc | apply pw_below_drewN | apply below_drew1) | exact HB.out)) hb); clear HB; have HO479 := n0_; have HO482 := n1_; have HB := n2_; clear n0_ n1_ n2_; (try clear hb); (try clear hb2); (try clear hk); (try clear hi); (try clear ho0); (try clear ho1)) | ((with_reducible refine gate_dst (N := 5) rfl ?_); (try (refine gate_guard (by rfl) ?_; dsimp only)); refine box_event ?hg (N := 5) ?hd (cs := #[.slice none 0 0, .slice none 0 0, .int .i64 0]) (t := 26) ?hr ?_; (case hd => rfl); (case hg => rfl); (case hr => first | (go_simp; done) | (go_simp; rfl)); intro gb484 hg w9 hbox hb; have n0_ := Aside0.mk (Kd.Q_below (by (with_reducible repeat (first | apply Kd.Q_alloc | apply Kd.Q_drewN | apply Kd.Q_drew)); exact HO479.out) hb); have n1_ := Aside0.mk (Kd.R_below (by (with_reducible repeat (first | apply Kd.R_alloc | apply Kd.R_drewN | apply Kd.R_drew)); exact HO482.out) hb); have n2_ := Aside0.mk (below_step (by repeat (first | (with_reducible first | exact HB.out | apply below_alloc | apply pw_below_drewN | apply below_drew1) | exact HB.out)) hb); have n3_ := Aside0.mk (hbox); have n4_ := Aside0.mk ((by rw [hg]; exact (below_size (by repeat (first | (with_reducible first | exact HB.out | apply below_alloc | apply pw_below_drewN | apply below_drew1) | exact HB.out))) : w.heap.size ≤ gb484)); have n5_ := Aside0.mk ((by rw [hg]; exact (below_size (by repeat (first | (with_reducible first | exact HB.out | apply below_alloc | apply pw_below_drewN | apply below_drew1) | exact HB.out))) : w.heap.size ≤ gb484)); clear HO479; clear HO482; clear HB; have HO479 := n0_; have HO482 := n1_; have HB := n2_; have BK484 := n3_; have GW484 := n4_; have GE484 := n5_; clear n0_ n1_ n2_ n3_ n4_ n5_; clear hb hbox hg; obtain ⟨Ao10, co10, eo10, _⟩ := Kd.Q_slice HO479.out; subst eo10; have hcz11_0 : w9.cell? ⟨gb484, 0, none⟩ = some (.slice none 0 0) := (blk_cell BK484.out 0).trans rfl; have hcz11_1 : w9.cell? ⟨gb484, 1, none⟩ = some (.slice none 0 0) := (blk_cell BK484.out 1).trans rfl; have hcz11_2 : w9.cell? ⟨gb484, 2, none⟩ = some (.int .i64 0) := (blk_cell BK484.out 2).trans rfl; have hfz11_0 := blk_frozen BK484.out 0; have hfz11_1 := blk_frozen BK484.out 1; have hfz11_2 := blk_frozen BK484.out 2; obtain ⟨Ao12, co12, eo12⟩ := Kd.R_slice HO482.out; subst eo12))
        (try simp only [Act.put, List.setIfInBounds_toArray, List.set_cons_zero, List.set_cons_succ])
        go_cut [28] (fun v28 wc => ∃ (kq : Nat) (x28_6 : Bool), v28 = .bool x28_6 ∧ Aside0 (laws_FnDiskStop.j1 kq l1 x28_6 t477 t480 t483 = some r) ∧ Aside0 (kq ≤ kj2) ∧ Aside0 (Kd.Q Kd.string 9 wc w.heap.size (fun _ => True) (.slice Ao10 t477.length co10) t477) ∧ Aside0 (Kd.R k48 48 wc w.heap.size (fun _ => True) (.slice Ao12 t480.length co12) t480) ∧ Aside0 (wc.heap[gb484]? = some (.cells #[(.slice Ao10 t477.length co10), (.slice Ao12 t480.length co12), .int .i64 t483] 26 (0, 0))) ∧ Aside0 (Below w.heap.size w wc))
        case first =>
          have H := HC7.out
          clear HC7
          replace H := Option.bind_eq_some_iff.mp H
          obtain ⟨t485, A130, H⟩ := H
          replace H : ((spec_DiskOk.f kj2 t477 t480 t483).bind fun t486 => (if (t485 != t486) = true then (laws_FnDiskStop.j1 kj2 l1 true t477 t480 t483) else ((spec_DiskOk.f kj2 t477 t480 t483).bind fun t487 => (laws_FnDiskStop.j1 kj2 l1 (!t487) t477 t480 t483)))) = some r := H
          have A13 := Aside0.mk A130
          clear A130
          replace H := Option.bind_eq_some_iff.mp H
          obtain ⟨t486, A140, H⟩ := H
          replace H : (if (t485 != t486) = true then (laws_FnDiskStop.j1 kj2 l1 true t477 t480 t483) else ((spec_DiskOk.f kj2 t477 t480 t483).bind fun t487 => (laws_FnDiskStop.j1 kj2 l1 (!t487) t477 t480 t483))) = some r := H
          have A14 := Aside0.mk A140
          clear A140
          by_cases c15 : (t485 != t486) = true
          · rw [if_pos c15] at H
            have c15b0 : (t485 != t486) = true := c15
            (try (have c15b1 : decide (t485 = t486) = false := by simpa using c15))
            (try (have c15b2 : (t485 == t486) = false := by simpa using c15))
            (try (have c15b3 : ¬ (t485 = t486) := by simpa using c15))
            clear c15
            (first | rw [c15b0] | (simp only [i64_w, i32_w]; rw [c15b0]) | skip)
            have H' := Aside0.mk H
            clear H
            try go_wp2
            have n0_ : Aside0 (Kd.Q Kd.string 9 (((w9.setCell ⟨gb484, 0, none⟩ (.slice Ao10 t477.length co10)).setCell ⟨gb484, 1, none⟩ (.slice Ao12 t480.length co12)).setCell ⟨gb484, 2, none⟩ (.int .i64 t483)) w.heap.size (fun _ => True) (.slice Ao10 t477.length co10) t477) := ⟨by (with_reducible repeat (first | apply Kd.Q_alloc | apply Kd.Q_drewN | apply Kd.Q_drew)); exact Kd.Q_mono (Kd.Q_far (p := ⟨gb484, 2, none⟩) (Kd.Q_far (p := ⟨gb484, 1, none⟩) (Kd.Q_far (p := ⟨gb484, 0, none⟩) (Kd.Q_types HO479.out BK484.out (by decide)) (fun _ hk => hk.2) (.slice Ao10 t477.length co10)) (fun _ hk => hk.2) (.slice Ao12 t480.length co12)) (fun _ hk => hk.2) (.int .i64 t483)) (fun _ hk => trivial)⟩
            have n1_ : Aside0 (Kd.R k48 48 (((w9.setCell ⟨gb484, 0, none⟩ (.slice Ao10 t477.length co10)).setCell ⟨gb484, 1, none⟩ (.slice Ao12 t480.length co12)).setCell ⟨gb484, 2, none⟩ (.int .i64 t483)) w.heap.size (fun _ => True) (.slice Ao12 t480.length co12) t480) := ⟨by (with_reducible repeat (first | apply Kd.R_alloc | apply Kd.R_drewN | apply Kd.R_drew)); exact Kd.R_mono (Kd.R_far (p := ⟨gb484, 2, none⟩) (Kd.R_far (p := ⟨gb484, 1, none⟩) (Kd.R_far (p := ⟨gb484, 0, none⟩) (Kd.R_types HO482.out BK484.out (by decide)) (fun _ hk => hk.2) (.slice Ao10 t477.length co10)) (fun _ hk => hk.2) (.slice Ao12 t480.length co12)) (fun _ hk => hk.2) (.int .i64 t483)) (fun _ hk => trivial)⟩
            have n2_ : Aside0 ((((w9.setCell ⟨gb484, 0, none⟩ (.slice Ao10 t477.length co10)).setCell ⟨gb484, 1, none⟩ (.slice Ao12 t480.length co12)).setCell ⟨gb484, 2, none⟩ (.int .i64 t483)).heap[gb484]? = some (.cells #[.slice Ao10 t477.length co10, .slice Ao12 t480.length co12, .int .i64 t483] 26 (0, 0))) := ⟨by (with_reducible repeat (first | refine blk_drewN ?_ _ | refine blk_drew ?_ | refine blk_alloc ?_ _)); refine blk_put (cs := #[.slice Ao10 t477.length co10, .slice Ao12 t480.length co12, .int .i64 0]) ?_ 2 _ rfl; (with_reducible repeat (first | refine blk_drewN ?_ _ | refine blk_drew ?_ | refine blk_alloc ?_ _)); refine blk_put (cs := #[.slice Ao10 t477.length co10, .slice none 0 0, .int .i64 0]) ?_ 1 _ rfl; (with_reducible repeat (first | refine blk_drewN ?_ _ | refine blk_drew ?_ | refine blk_alloc ?_ _)); refine blk_put (cs := #[.slice none 0 0, .slice none 0 0, .int .i64 0]) ?_ 0 _ rfl; (with_reducible repeat (first | refine blk_drewN ?_ _ | refine blk_drew ?_ | refine blk_alloc ?_ _)); exact BK484.out⟩
            have n3_ : Aside0 (Below w.heap.size w (((w9.setCell ⟨gb484, 0, none⟩ (.slice Ao10 t477.length co10)).setCell ⟨gb484, 1, none⟩ (.slice Ao12 t480.length co12)).setCell ⟨gb484, 2, none⟩ (.int .i64 t483))) := ⟨by repeat (first | (with_reducible first | exact HB.out | apply below_alloc | apply pw_below_drewN | apply below_drew1 | refine below_set ?_ GE484.out) | exact HB.out)⟩
            (try clear HO479)
            (try clear HO482)
            (try clear BK484)
            (try clear HB)
            (try rw [Opens.setCell_drewN])
            generalize (((w9.setCell ⟨gb484, 0, none⟩ (.slice Ao10 t477.length co10)).setCell ⟨gb484, 1, none⟩ (.slice Ao12 t480.length co12)).setCell ⟨gb484, 2, none⟩ (.int .i64 t483)) = w16 at n0_ n1_ n2_ n3_ ⊢
            have HO479 := n0_
            have HO482 := n1_
            have BK484 := n2_
            have HB := n3_
            clear n0_ n1_ n2_ n3_
            have n0_ := Aside0.mk (Kd.Q_drew HO479.out)
            have n1_ := Aside0.mk (Kd.R_drew HO482.out)
            have n2_ := Aside0.mk (blk_drew BK484.out)
            have n3_ := Aside0.mk (below_drew1 HB.out)
            clear HO479
            clear HO482
            clear BK484
            clear HB
            have HO479 := n0_
            have HO482 := n1_
            have BK484 := n2_
            have HB := n3_
            clear n0_ n1_ n2_ n3_
            refine start_ (n := 10) (S := fun w' => w'.cell? ⟨gb484, 0, none⟩ = some (.slice Ao10 t477.length co10) ∧ w'.cell? ⟨gb484, 1, none⟩ = some (.slice Ao12 t480.length co12) ∧ w'.cell? ⟨gb484, 2, none⟩ = some (.int .i64 t483)) (ds := []) #[false, false, false, false, false, false, false, false, false, false] (by kernel_rfl) rfl rfl ⟨(blk_cell BK484.out 0).trans rfl, (blk_cell BK484.out 1).trans rfl, (blk_cell BK484.out 2).trans rfl⟩ (fun hHeld => ?_); refine with_tabW laws_FnDiskStop.tab4 laws_FnDiskStop.bits4 (fun HT_ HW_ => ?_)
            generalize w16.drew = w17 at HO479 HO482 BK484 HB hHeld ⊢
            refine take_ (i := 0) (N := some 19) (v := ?_) (a' := ?_) #[true, false, false, false, false, false, false, false, false, false] rfl rfl (take_ofW HT_.out HW_.out (by kernel_rfl)) (fun _ _ _ h => h) (Or.inl ⟨by rfl, ?_⟩) hHeld ?_ ?_
            rotate_left
            · rintro w' ⟨s0, s1, s2⟩
              go_simp
              with_reducible rfl
            rotate_left
            · simp only [Act.put, List.setIfInBounds_toArray, List.set_cons_zero, List.set_cons_succ, i64_w, i32_w]
              rfl
            refine take_ (i := 2) (N := some 21) (v := ?_) (a' := ?_) #[true, false, true, false, false, false, false, false, false, false] rfl rfl (take_ofW HT_.out HW_.out (by kernel_rfl)) (fun _ _ _ h => h) (Or.inl ⟨by rfl, ?_⟩) hHeld ?_ ?_
            rotate_left
            · rintro w' ⟨s0, s1, s2⟩
              go_simp
              with_reducible rfl
            rotate_left
            · simp only [Act.put, List.setIfInBounds_toArray, List.set_cons_zero, List.set_cons_succ, i64_w, i32_w]
              rfl
            refine one_ (i := 1) (N := some 20) #[true, true, true, false, false, false, false, false, false, false] rfl rfl (one_of HT_.out (by kernel_rfl)) (by decide) (fun K hK => ?_)
            refine goes_ Try.func22 (by kernel_rfl) rfl #[.agg #[.slice Ao10 t477.length co10, .slice Ao12 t480.length co12, .int .i64 t483]] (by rfl) rfl rfl (by (try simp only [List.map_toArray, List.map_cons, List.map_nil]); first | done | rfl | (simp only [List.length_drop, List.length_take]; rfl)) ?_
            with_reducible refine (impl_DiskOk.calls kj2 _ _ t477 _ _ t480 t483 t485 _ ?side1 ?side2 ?side3 ?side4 A13.out).mono ?_
            (case side1 => repeat (first | exact (Kd.Q_reads' HO479.out).2.2 | (with_reducible refine Kd.C_alloc ?_ _) | (with_reducible refine Kd.C_drewN ?_ _) | (with_reducible refine Kd.C_drew ?_)))
            (case side2 => exact (Kd.Q_reads' HO479.out).2.1)
            (case side3 => repeat (first | exact (Kd.R_reads' HO482.out).2.2 | (with_reducible refine Kd.C_alloc ?_ _) | (with_reducible refine Kd.C_drewN ?_ _) | (with_reducible refine Kd.C_drew ?_)))
            (case side4 => exact (Kd.R_reads' HO482.out).2.1)
            rintro e w18 ⟨rfl, hb⟩
            refine ⟨_, rfl, ?_⟩
            have n0_ := Aside0.mk (Kd.Q_below (by (with_reducible repeat (first | apply Kd.Q_alloc | apply Kd.Q_drewN | apply Kd.Q_drew)); exact HO479.out) hb)
            have n1_ := Aside0.mk (Kd.R_below (by (with_reducible repeat (first | apply Kd.R_alloc | apply Kd.R_drewN | apply Kd.R_drew)); exact HO482.out) hb)
            have n2_ := Aside0.mk (blk_below (g := gb484) (o := .cells #[.slice Ao10 t477.length co10, .slice Ao12 t480.length co12, .int .i64 t483] 26 (0, 0)) (by (with_reducible repeat (first | refine blk_drewN ?_ _ | refine blk_drew ?_ | refine blk_alloc ?_ _)); exact BK484.out) hb)
            have n3_ := Aside0.mk (below_step (by repeat (first | (with_reducible first | exact HB.out | apply below_alloc | apply pw_below_drewN | apply below_drew1 | refine below_set ?_ GE484.out) | exact HB.out)) hb)
            clear HO479
            clear HO482
            clear BK484
            clear HB
            have HO479 := n0_
            have HO482 := n1_
            have BK484 := n2_
            have HB := n3_
            clear n0_ n1_ n2_ n3_
            (try clear hb)
            (try clear hb2)
            (try clear hk)
            (try clear hi)
            refine hK.out _ _ ⟨(blk_cell BK484.out 0).trans rfl, (blk_cell BK484.out 1).trans rfl, (blk_cell BK484.out 2).trans rfl⟩ (fun hHeld => ?_)
            clear hK K
            refine norm_ (a' := ?_) ?_ ?_
            rotate_left
            · show Act.put _ (some 20) _ = _
              simp only [Act.put, List.setIfInBounds_toArray, List.set_cons_zero, List.set_cons_succ, i64_w, i32_w]
              rfl
            refine one_ (i := 3) (N := some 22) #[true, true, true, true, false, false, false, false, false, false] rfl rfl (one_of HT_.out (by kernel_rfl)) (by decide) (fun K hK => ?_)
            refine goes_ Try.func20 (by kernel_rfl) rfl #[.agg #[.slice Ao10 t477.length co10, .slice Ao12 t480.length co12, .int .i64 t483]] (by rfl) rfl rfl (by (try simp only [List.map_toArray, List.map_cons, List.map_nil]); first | done | rfl | (simp only [List.length_drop, List.length_take]; rfl)) ?_
            with_reducible refine (spec_DiskOk.calls kj2 _ _ t477 _ _ t480 t483 t486 _ ?side1 ?side2 ?side3 ?side4 A14.out).mono ?_
            (case side1 => repeat (first | exact (Kd.Q_reads' HO479.out).2.2 | (with_reducible refine Kd.C_alloc ?_ _) | (with_reducible refine Kd.C_drewN ?_ _) | (with_reducible refine Kd.C_drew ?_)))
            (case side2 => exact (Kd.Q_reads' HO479.out).2.1)
            (case side3 => repeat (first | exact (Kd.R_reads' HO482.out).2.2 | (with_reducible refine Kd.C_alloc ?_ _) | (with_reducible refine Kd.C_drewN ?_ _) | (with_reducible refine Kd.C_drew ?_)))
            (case side4 => exact (Kd.R_reads' HO482.out).2.1)
            rintro e w19 ⟨rfl, hb⟩
            refine ⟨_, rfl, ?_⟩
            have n0_ := Aside0.mk (Kd.Q_below (by (with_reducible repeat (first | apply Kd.Q_alloc | apply Kd.Q_drewN | apply Kd.Q_drew)); exact HO479.out) hb)
            have n1_ := Aside0.mk (Kd.R_below (by (with_reducible repeat (first | apply Kd.R_alloc | apply Kd.R_drewN | apply Kd.R_drew)); exact HO482.out) hb)
            have n2_ := Aside0.mk (blk_below (g := gb484) (o := .cells #[.slice Ao10 t477.length co10, .slice Ao12 t480.length co12, .int .i64 t483] 26 (0, 0)) (by (with_reducible repeat (first | refine blk_drewN ?_ _ | refine blk_drew ?_ | refine blk_alloc ?_ _)); exact BK484.out) hb)
            have n3_ := Aside0.mk (below_step (by repeat (first | (with_reducible first | exact HB.out | apply below_alloc | apply pw_below_drewN | apply below_drew1 | refine below_set ?_ GE484.out) | exact HB.out)) hb)
            clear HO479
            clear HO482
            clear BK484
            clear HB
            have HO479 := n0_
            have HO482 := n1_
            have BK484 := n2_
            have HB := n3_
            clear n0_ n1_ n2_ n3_
            (try clear hb)
            (try clear hb2)
            (try clear hk)
            (try clear hi)
            refine hK.out _ _ ⟨(blk_cell BK484.out 0).trans rfl, (blk_cell BK484.out 1).trans rfl, (blk_cell BK484.out 2).trans rfl⟩ (fun hHeld => ?_)
            clear hK K
            refine norm_ (a' := ?_) ?_ ?_
            rotate_left
            · show Act.put _ (some 22) _ = _
              simp only [Act.put, List.setIfInBounds_toArray, List.set_cons_zero, List.set_cons_succ, i64_w, i32_w]
              rfl
            refine pure_ (i := 4) (N := some 23) (v := ?_) (a' := ?_) #[true, true, true, true, true, false, false, false, false, false] rfl rfl (any_of HT_.out (by kernel_rfl)) (fun _ _ _ h => h) (Or.inl ⟨by rfl, ?_⟩) ?_ ?_
            rotate_left
            · intro w'
              go_simp
              with_reducible rfl
            rotate_left
            · simp only [Act.put, List.setIfInBounds_toArray, List.set_cons_zero, List.set_cons_succ, i64_w, i32_w]
              rfl
            refine pure_ (i := 5) (N := some 24) (v := ?_) (a' := ?_) #[true, true, true, true, true, true, false, false, false, false] rfl rfl (any_of HT_.out (by kernel_rfl)) (fun _ _ _ h => h) (Or.inl ⟨by rfl, ?_⟩) ?_ ?_
            rotate_left
            · intro w'
              go_simp
              with_reducible rfl
            rotate_left
            · simp only [Act.put, List.setIfInBounds_toArray, List.set_cons_zero, List.set_cons_succ, i64_w, i32_w]
              rfl
            refine pure_ (i := 6) (N := some 25) (v := undef) (a' := ?_) #[true, true, true, true, true, true, true, false, false, false] rfl rfl (any_of HT_.out (by kernel_rfl)) (fun _ _ _ h => h) (Or.inr ⟨by rfl, rfl⟩) ?_ ?_
            rotate_left
            · simp only [Act.put, List.setIfInBounds_toArray, List.set_cons_zero, List.set_cons_succ, i64_w, i32_w]
              rfl
            refine pure_ (i := 7) (N := some 26) (v := undef) (a' := ?_) #[true, true, true, true, true, true, true, true, false, false] rfl rfl (any_of HT_.out (by kernel_rfl)) (fun _ _ _ h => h) (Or.inr ⟨by rfl, rfl⟩) ?_ ?_
            rotate_left
            · simp only [Act.put, List.setIfInBounds_toArray, List.set_cons_zero, List.set_cons_succ, i64_w, i32_w]
              rfl
            refine pure_ (i := 8) (N := some 27) (v := undef) (a' := ?_) #[true, true, true, true, true, true, true, true, true, false] rfl rfl (any_of HT_.out (by kernel_rfl)) (fun _ _ _ h => h) (Or.inr ⟨by rfl, rfl⟩) ?_ ?_
            rotate_left
            · simp only [Act.put, List.setIfInBounds_toArray, List.set_cons_zero, List.set_cons_succ, i64_w, i32_w]
              rfl
            refine pure_ (i := 9) (N := some 28) (v := ?_) (a' := ?_) #[true, true, true, true, true, true, true, true, true, true] rfl rfl (any_of HT_.out (by kernel_rfl)) (fun _ _ _ h => h) (Or.inl ⟨by rfl, ?_⟩) ?_ ?_
            rotate_left
            · intro w'
              go_simp
              with_reducible rfl
            rotate_left
            · simp only [Act.put, List.setIfInBounds_toArray, List.set_cons_zero, List.set_cons_succ, i64_w, i32_w]
              rfl
            refine done_ (done_of HT_.out (by kernel_rfl)) ?_
            try go_wp2
            go_meet
            case rel => exact ⟨_, (true), (by first | rfl | (simp; done) | (simp [*]; done)), H', ⟨by have := HJ2.out; first | omega | exact Nat.le_refl _⟩, ⟨by (with_reducible repeat (first | apply Kd.Q_alloc | apply Kd.Q_drewN | apply Kd.Q_drew)); exact HO479.out⟩, ⟨by (with_reducible repeat (first | apply Kd.R_alloc | apply Kd.R_drewN | apply Kd.R_drew)); exact HO482.out⟩, ⟨by (with_reducible repeat (first | refine blk_drewN ?_ _ | refine blk_drew ?_ | refine blk_alloc ?_ _)); exact BK484.out⟩, ⟨by repeat (first | (with_reducible first | exact HB.out | apply below_alloc | apply pw_below_drewN | apply below_drew1 | refine below_set ?_ GE484.out) | exact HB.out)⟩⟩
          · rw [if_neg c15] at H
            have c15b0 : (t485 != t486) = false := by simpa using c15
            (try (have c15b1 : decide (t485 = t486) = true := by simpa using c15))
            (try (have c15b2 : (t485 == t486) = true := by simpa using c15))
            clear c15
            (first | rw [c15b0] | (simp only [i64_w, i32_w]; rw [c15b0]) | skip)
            replace H := Option.bind_eq_some_iff.mp H
            obtain ⟨t487, A200, H⟩ := H
            replace H : (laws_FnDiskStop.j1 kj2 l1 (!t487) t477 t480 t483) = some r := H
            have A20 := Aside0.mk A200
            clear A200
            have H' := Aside0.mk H
            clear H
            try go_wp2
            have n0_ : Aside0 (Kd.Q Kd.string 9 (((w9.setCell ⟨gb484, 0, none⟩ (.slice Ao10 t477.length co10)).setCell ⟨gb484, 1, none⟩ (.slice Ao12 t480.length co12)).setCell ⟨gb484, 2, none⟩ (.int .i64 t483)) w.heap.size (fun _ => True) (.slice Ao10 t477.length co10) t477) := ⟨by (with_reducible repeat (first | apply Kd.Q_alloc | apply Kd.Q_drewN | apply Kd.Q_drew)); exact Kd.Q_mono (Kd.Q_far (p := ⟨gb484, 2, none⟩) (Kd.Q_far (p := ⟨gb484, 1, none⟩) (Kd.Q_far (p := ⟨gb484, 0, none⟩) (Kd.Q_types HO479.out BK484.out (by decide)) (fun _ hk => hk.2) (.slice Ao10 t477.length co10)) (fun _ hk => hk.2) (.slice Ao12 t480.length co12)) (fun _ hk => hk.2) (.int .i64 t483)) (fun _ hk => trivial)⟩
            have n1_ : Aside0 (Kd.R k48 48 (((w9.setCell ⟨gb484, 0, none⟩ (.slice Ao10 t477.length co10)).setCell ⟨gb484, 1, none⟩ (.slice Ao12 t480.length co12)).setCell ⟨gb484, 2, none⟩ (.int .i64 t483)) w.heap.size (fun _ => True) (.slice Ao12 t480.length co12) t480) := ⟨by (with_reducible repeat (first | apply Kd.R_alloc | apply Kd.R_drewN | apply Kd.R_drew)); exact Kd.R_mono (Kd.R_far (p := ⟨gb484, 2, none⟩) (Kd.R_far (p := ⟨gb484, 1, none⟩) (Kd.R_far (p := ⟨gb484, 0, none⟩) (Kd.R_types HO482.out BK484.out (by decide)) (fun _ hk => hk.2) (.slice Ao10 t477.length co10)) (fun _ hk => hk.2) (.slice Ao12 t480.length co12)) (fun _ hk => hk.2) (.int .i64 t483)) (fun _ hk => trivial)⟩
            have n2_ : Aside0 ((((w9.setCell ⟨gb484, 0, none⟩ (.slice Ao10 t477.length co10)).setCell ⟨gb484, 1, none⟩ (.slice Ao12 t480.length co12)).setCell ⟨gb484, 2, none⟩ (.int .i64 t483)).heap[gb484]? = some (.cells #[.slice Ao10 t477.length co10, .slice Ao12 t480.length co12, .int .i64 t483] 26 (0, 0))) := ⟨by (with_reducible repeat (first | refine blk_drewN ?_ _ | refine blk_drew ?_ | refine blk_alloc ?_ _)); refine blk_put (cs := #[.slice Ao10 t477.length co10, .slice Ao12 t480.length co12, .int .i64 0]) ?_ 2 _ rfl; (with_reducible repeat (first | refine blk_drewN ?_ _ | refine blk_drew ?_ | refine blk_alloc ?_ _)); refine blk_put (cs := #[.slice Ao10 t477.length co10, .slice none 0 0, .int .i64 0]) ?_ 1 _ rfl; (with_reducible repeat (first | refine blk_drewN ?_ _ | refine blk_drew ?_ | refine blk_alloc ?_ _)); refine blk_put (cs := #[.slice none 0 0, .slice none 0 0, .int .i64 0]) ?_ 0 _ rfl; (with_reducible repeat (first | refine blk_drewN ?_ _ | refine blk_drew ?_ | refine blk_alloc ?_ _)); exact BK484.out⟩
            have n3_ : Aside0 (Below w.heap.size w (((w9.setCell ⟨gb484, 0, none⟩ (.slice Ao10 t477.length co10)).setCell ⟨gb484, 1, none⟩ (.slice Ao12 t480.length co12)).setCell ⟨gb484, 2, none⟩ (.int .i64 t483))) := ⟨by repeat (first | (with_reducible first | exact HB.out | apply below_alloc | apply pw_below_drewN | apply below_drew1 | refine below_set ?_ GE484.out) | exact HB.out)⟩
            (try clear HO479)
            (try clear HO482)
            (try clear BK484)
            (try clear HB)
            (try rw [Opens.setCell_drewN])
            generalize (((w9.setCell ⟨gb484, 0, none⟩ (.slice Ao10 t477.length co10)).setCell ⟨gb484, 1, none⟩ (.slice Ao12 t480.length co12)).setCell ⟨gb484, 2, none⟩ (.int .i64 t483)) = w21 at n0_ n1_ n2_ n3_ ⊢
            have HO479 := n0_
            have HO482 := n1_
            have BK484 := n2_
            have HB := n3_
            clear n0_ n1_ n2_ n3_
            have n0_ := Aside0.mk (Kd.Q_drew HO479.out)
            have n1_ := Aside0.mk (Kd.R_drew HO482.out)
            have n2_ := Aside0.mk (blk_drew BK484.out)
            have n3_ := Aside0.mk (below_drew1 HB.out)
            clear HO479
            clear HO482
            clear BK484
            clear HB
            have HO479 := n0_
            have HO482 := n1_
            have BK484 := n2_
            have HB := n3_
            clear n0_ n1_ n2_ n3_
            refine start_ (n := 10) (S := fun w' => w'.cell? ⟨gb484, 0, none⟩ = some (.slice Ao10 t477.length co10) ∧ w'.cell? ⟨gb484, 1, none⟩ = some (.slice Ao12 t480.length co12) ∧ w'.cell? ⟨gb484, 2, none⟩ = some (.int .i64 t483)) (ds := []) #[false, false, false, false, false, false, false, false, false, false] (by kernel_rfl) rfl rfl ⟨(blk_cell BK484.out 0).trans rfl, (blk_cell BK484.out 1).trans rfl, (blk_cell BK484.out 2).trans rfl⟩ (fun hHeld => ?_); refine with_tabW laws_FnDiskStop.tab4 laws_FnDiskStop.bits4 (fun HT_ HW_ => ?_)
            generalize w21.drew = w22 at HO479 HO482 BK484 HB hHeld ⊢
            refine take_ (i := 0) (N := some 19) (v := ?_) (a' := ?_) #[true, false, false, false, false, false, false, false, false, false] rfl rfl (take_ofW HT_.out HW_.out (by kernel_rfl)) (fun _ _ _ h => h) (Or.inl ⟨by rfl, ?_⟩) hHeld ?_ ?_
            rotate_left
            · rintro w' ⟨s0, s1, s2⟩
              go_simp
              with_reducible rfl
            rotate_left
            · simp only [Act.put, List.setIfInBounds_toArray, List.set_cons_zero, List.set_cons_succ, i64_w, i32_w]
              rfl
            refine take_ (i := 2) (N := some 21) (v := ?_) (a' := ?_) #[true, false, true, false, false, false, false, false, false, false] rfl rfl (take_ofW HT_.out HW_.out (by kernel_rfl)) (fun _ _ _ h => h) (Or.inl ⟨by rfl, ?_⟩) hHeld ?_ ?_
            rotate_left
            · rintro w' ⟨s0, s1, s2⟩
              go_simp
              with_reducible rfl
            rotate_left
            · simp only [Act.put, List.setIfInBounds_toArray, List.set_cons_zero, List.set_cons_succ, i64_w, i32_w]
              rfl
            refine one_ (i := 1) (N := some 20) #[true, true, true, false, false, false, false, false, false, false] rfl rfl (one_of HT_.out (by kernel_rfl)) (by decide) (fun K hK => ?_)
            refine goes_ Try.func22 (by kernel_rfl) rfl #[.agg #[.slice Ao10 t477.length co10, .slice Ao12 t480.length co12, .int .i64 t483]] (by rfl) rfl rfl (by (try simp only [List.map_toArray, List.map_cons, List.map_nil]); first | done | rfl | (simp only [List.length_drop, List.length_take]; rfl)) ?_
            with_reducible refine (impl_DiskOk.calls kj2 _ _ t477 _ _ t480 t483 t485 _ ?side1 ?side2 ?side3 ?side4 A13.out).mono ?_
            (case side1 => repeat (first | exact (Kd.Q_reads' HO479.out).2.2 | (with_reducible refine Kd.C_alloc ?_ _) | (with_reducible refine Kd.C_drewN ?_ _) | (with_reducible refine Kd.C_drew ?_)))
            (case side2 => exact (Kd.Q_reads' HO479.out).2.1)
            (case side3 => repeat (first | exact (Kd.R_reads' HO482.out).2.2 | (with_reducible refine Kd.C_alloc ?_ _) | (with_reducible refine Kd.C_drewN ?_ _) | (with_reducible refine Kd.C_drew ?_)))
            (case side4 => exact (Kd.R_reads' HO482.out).2.1)
            rintro e w23 ⟨rfl, hb⟩
            refine ⟨_, rfl, ?_⟩
            have n0_ := Aside0.mk (Kd.Q_below (by (with_reducible repeat (first | apply Kd.Q_alloc | apply Kd.Q_drewN | apply Kd.Q_drew)); exact HO479.out) hb)
            have n1_ := Aside0.mk (Kd.R_below (by (with_reducible repeat (first | apply Kd.R_alloc | apply Kd.R_drewN | apply Kd.R_drew)); exact HO482.out) hb)
            have n2_ := Aside0.mk (blk_below (g := gb484) (o := .cells #[.slice Ao10 t477.length co10, .slice Ao12 t480.length co12, .int .i64 t483] 26 (0, 0)) (by (with_reducible repeat (first | refine blk_drewN ?_ _ | refine blk_drew ?_ | refine blk_alloc ?_ _)); exact BK484.out) hb)
            have n3_ := Aside0.mk (below_step (by repeat (first | (with_reducible first | exact HB.out | apply below_alloc | apply pw_below_drewN | apply below_drew1 | refine below_set ?_ GE484.out) | exact HB.out)) hb)
            clear HO479
            clear HO482
            clear BK484
            clear HB
            have HO479 := n0_
            have HO482 := n1_
            have BK484 := n2_
            have HB := n3_
            clear n0_ n1_ n2_ n3_
            (try clear hb)
            (try clear hb2)
            (try clear hk)
            (try clear hi)
            refine hK.out _ _ ⟨(blk_cell BK484.out 0).trans rfl, (blk_cell BK484.out 1).trans rfl, (blk_cell BK484.out 2).trans rfl⟩ (fun hHeld => ?_)
            clear hK K
            refine norm_ (a' := ?_) ?_ ?_
            rotate_left
            · show Act.put _ (some 20) _ = _
              simp only [Act.put, List.setIfInBounds_toArray, List.set_cons_zero, List.set_cons_succ, i64_w, i32_w]
              rfl
            refine one_ (i := 3) (N := some 22) #[true, true, true, true, false, false, false, false, false, false] rfl rfl (one_of HT_.out (by kernel_rfl)) (by decide) (fun K hK => ?_)
            refine goes_ Try.func20 (by kernel_rfl) rfl #[.agg #[.slice Ao10 t477.length co10, .slice Ao12 t480.length co12, .int .i64 t483]] (by rfl) rfl rfl (by (try simp only [List.map_toArray, List.map_cons, List.map_nil]); first | done | rfl | (simp only [List.length_drop, List.length_take]; rfl)) ?_
            with_reducible refine (spec_DiskOk.calls kj2 _ _ t477 _ _ t480 t483 t486 _ ?side1 ?side2 ?side3 ?side4 A14.out).mono ?_
            (case side1 => repeat (first | exact (Kd.Q_reads' HO479.out).2.2 | (with_reducible refine Kd.C_alloc ?_ _) | (with_reducible refine Kd.C_drewN ?_ _) | (with_reducible refine Kd.C_drew ?_)))
            (case side2 => exact (Kd.Q_reads' HO479.out).2.1)
            (case side3 => repeat (first | exact (Kd.R_reads' HO482.out).2.2 | (with_reducible refine Kd.C_alloc ?_ _) | (with_reducible refine Kd.C_drewN ?_ _) | (with_reducible refine Kd.C_drew ?_)))
            (case side4 => exact (Kd.R_reads' HO482.out).2.1)
            rintro e w24 ⟨rfl, hb⟩
            refine ⟨_, rfl, ?_⟩
            have n0_ := Aside0.mk (Kd.Q_below (by (with_reducible repeat (first | apply Kd.Q_alloc | apply Kd.Q_drewN | apply Kd.Q_drew)); exact HO479.out) hb)
            have n1_ := Aside0.mk (Kd.R_below (by (with_reducible repeat (first | apply Kd.R_alloc | apply Kd.R_drewN | apply Kd.R_drew)); exact HO482.out) hb)
            have n2_ := Aside0.mk (blk_below (g := gb484) (o := .cells #[.slice Ao10 t477.length co10, .slice Ao12 t480.length co12, .int .i64 t483] 26 (0, 0)) (by (with_reducible repeat (first | refine blk_drewN ?_ _ | refine blk_drew ?_ | refine blk_alloc ?_ _)); exact BK484.out) hb)
            have n3_ := Aside0.mk (below_step (by repeat (first | (with_reducible first | exact HB.out | apply below_alloc | apply pw_below_drewN | apply below_drew1 | refine below_set ?_ GE484.out) | exact HB.out)) hb)
            clear HO479
            clear HO482
            clear BK484
            clear HB
            have HO479 := n0_
            have HO482 := n1_
            have BK484 := n2_
            have HB := n3_
            clear n0_ n1_ n2_ n3_
            (try clear hb)
            (try clear hb2)
            (try clear hk)
            (try clear hi)
            refine hK.out _ _ ⟨(blk_cell BK484.out 0).trans rfl, (blk_cell BK484.out 1).trans rfl, (blk_cell BK484.out 2).trans rfl⟩ (fun hHeld => ?_)
            clear hK K
            refine norm_ (a' := ?_) ?_ ?_
            rotate_left
            · show Act.put _ (some 22) _ = _
              simp only [Act.put, List.setIfInBounds_toArray, List.set_cons_zero, List.set_cons_succ, i64_w, i32_w]
              rfl
            refine pure_ (i := 4) (N := some 23) (v := ?_) (a' := ?_) #[true, true, true, true, true, false, false, false, false, false] rfl rfl (any_of HT_.out (by kernel_rfl)) (fun _ _ _ h => h) (Or.inl ⟨by rfl, ?_⟩) ?_ ?_
            rotate_left
            · intro w'
              go_simp
              with_reducible rfl
            rotate_left
            · simp only [Act.put, List.setIfInBounds_toArray, List.set_cons_zero, List.set_cons_succ, i64_w, i32_w]
              rfl
            refine pure_ (i := 5) (N := some 24) (v := ?_) (a' := ?_) #[true, true, true, true, true, true, false, false, false, false] rfl rfl (any_of HT_.out (by kernel_rfl)) (fun _ _ _ h => h) (Or.inl ⟨by rfl, ?_⟩) ?_ ?_
            rotate_left
            · intro w'
              go_simp
              with_reducible rfl
            rotate_left
            · simp only [Act.put, List.setIfInBounds_toArray, List.set_cons_zero, List.set_cons_succ, i64_w, i32_w]
              rfl
            refine take_ (i := 6) (N := some 25) (v := ?_) (a' := ?_) #[true, true, true, true, true, true, true, false, false, false] rfl rfl (take_ofW HT_.out HW_.out (by kernel_rfl)) (fun _ _ _ h => h) (Or.inl ⟨by rfl, ?_⟩) hHeld ?_ ?_
            rotate_left
            · rintro w' ⟨s0, s1, s2⟩
              go_simp
              with_reducible rfl
            rotate_left
            · simp only [Act.put, List.setIfInBounds_toArray, List.set_cons_zero, List.set_cons_succ, i64_w, i32_w]
              rfl
            refine one_ (i := 7) (N := some 26) #[true, true, true, true, true, true, true, true, false, false] rfl rfl (one_of HT_.out (by kernel_rfl)) (by decide) (fun K hK => ?_)
            refine goes_ Try.func20 (by kernel_rfl) rfl #[.agg #[.slice Ao10 t477.length co10, .slice Ao12 t480.length co12, .int .i64 t483]] (by rfl) rfl rfl (by (try simp only [List.map_toArray, List.map_cons, List.map_nil]); first | done | rfl | (simp only [List.length_drop, List.length_take]; rfl)) ?_
            with_reducible refine (spec_DiskOk.calls kj2 _ _ t477 _ _ t480 t483 t487 _ ?side1 ?side2 ?side3 ?side4 A20.out).mono ?_
            (case side1 => repeat (first | exact (Kd.Q_reads' HO479.out).2.2 | (with_reducible refine Kd.C_alloc ?_ _) | (with_reducible refine Kd.C_drewN ?_ _) | (with_reducible refine Kd.C_drew ?_)))
            (case side2 => exact (Kd.Q_reads' HO479.out).2.1)
            (case side3 => repeat (first | exact (Kd.R_reads' HO482.out).2.2 | (with_reducible refine Kd.C_alloc ?_ _) | (with_reducible refine Kd.C_drewN ?_ _) | (with_reducible refine Kd.C_drew ?_)))
            (case side4 => exact (Kd.R_reads' HO482.out).2.1)
            rintro e w25 ⟨rfl, hb⟩
            refine ⟨_, rfl, ?_⟩
            have n0_ := Aside0.mk (Kd.Q_below (by (with_reducible repeat (first | apply Kd.Q_alloc | apply Kd.Q_drewN | apply Kd.Q_drew)); exact HO479.out) hb)
            have n1_ := Aside0.mk (Kd.R_below (by (with_reducible repeat (first | apply Kd.R_alloc | apply Kd.R_drewN | apply Kd.R_drew)); exact HO482.out) hb)
            have n2_ := Aside0.mk (blk_below (g := gb484) (o := .cells #[.slice Ao10 t477.length co10, .slice Ao12 t480.length co12, .int .i64 t483] 26 (0, 0)) (by (with_reducible repeat (first | refine blk_drewN ?_ _ | refine blk_drew ?_ | refine blk_alloc ?_ _)); exact BK484.out) hb)
            have n3_ := Aside0.mk (below_step (by repeat (first | (with_reducible first | exact HB.out | apply below_alloc | apply pw_below_drewN | apply below_drew1 | refine below_set ?_ GE484.out) | exact HB.out)) hb)
            clear HO479
            clear HO482
            clear BK484
            clear HB
            have HO479 := n0_
            have HO482 := n1_
            have BK484 := n2_
            have HB := n3_
            clear n0_ n1_ n2_ n3_
            (try clear hb)
            (try clear hb2)
            (try clear hk)
            (try clear hi)
            refine hK.out _ _ ⟨(blk_cell BK484.out 0).trans rfl, (blk_cell BK484.out 1).trans rfl, (blk_cell BK484.out 2).trans rfl⟩ (fun hHeld => ?_)
            clear hK K
            refine norm_ (a' := ?_) ?_ ?_
            rotate_left
            · show Act.put _ (some 26) _ = _
              simp only [Act.put, List.setIfInBounds_toArray, List.set_cons_zero, List.set_cons_succ, i64_w, i32_w]
              rfl
            refine pure_ (i := 8) (N := some 27) (v := ?_) (a' := ?_) #[true, true, true, true, true, true, true, true, true, false] rfl rfl (any_of HT_.out (by kernel_rfl)) (fun _ _ _ h => h) (Or.inl ⟨by rfl, ?_⟩) ?_ ?_
            rotate_left
            · intro w'
              go_simp
              with_reducible rfl
            rotate_left
            · simp only [Act.put, List.setIfInBounds_toArray, List.set_cons_zero, List.set_cons_succ, i64_w, i32_w]
              rfl
            refine pure_ (i := 9) (N := some 28) (v := ?_) (a' := ?_) #[true, true, true, true, true, true, true, true, true, true] rfl rfl (any_of HT_.out (by kernel_rfl)) (fun _ _ _ h => h) (Or.inl ⟨by rfl, ?_⟩) ?_ ?_
            rotate_left
            · intro w'
              go_simp
              with_reducible rfl
            rotate_left
            · simp only [Act.put, List.setIfInBounds_toArray, List.set_cons_zero, List.set_cons_succ, i64_w, i32_w]
              rfl
            refine done_ (done_of HT_.out (by kernel_rfl)) ?_
            try go_wp2
            go_meet
            case rel => exact ⟨_, (!t487), (by first | rfl | (simp; done) | (simp [*]; done)), H', ⟨by have := HJ2.out; first | omega | exact Nat.le_refl _⟩, ⟨by (with_reducible repeat (first | apply Kd.Q_alloc | apply Kd.Q_drewN | apply Kd.Q_drew)); exact HO479.out⟩, ⟨by (with_reducible repeat (first | apply Kd.R_alloc | apply Kd.R_drewN | apply Kd.R_drew)); exact HO482.out⟩, ⟨by (with_reducible repeat (first | refine blk_drewN ?_ _ | refine blk_drew ?_ | refine blk_alloc ?_ _)); exact BK484.out⟩, ⟨by repeat (first | (with_reducible first | exact HB.out | apply below_alloc | apply pw_below_drewN | apply below_drew1 | refine below_set ?_ GE484.out) | exact HB.out)⟩⟩
        case rest =>
          clear HC7
          try clear c1
          try clear c2
          try clear p2
          try clear c4
          try clear c4b0
          try clear c4b1
          try clear c5
          try clear c7
          try clear c15
          try clear c15b0
          try clear c15b1
          try clear c15b2
          try clear c20
          try clear c22
          try clear c25
          try clear hcz11_0
          try clear hcz11_1
          try clear hcz11_2
          try clear hfz11_0
          try clear hfz11_1
          try clear hfz11_2
          try clear p2
          obtain ⟨kq, x28_6, rfl, HA, HJ6, HO_485000, HO_485001, BK484, HB⟩ := hcut
          cases kq with
          | zero => exact absurd HA.out (by simp [laws_FnDiskStop.j1])
          | succ kj6 =>
            have H := HA.out
            clear HA
            simp only [laws_FnDiskStop.j1] at H
            by_cases c26 : x28_6 = true
            · subst c26
              have H1 : ((impl_DiskOk.f kj6 t477 t480 t483).bind fun t488 => ((spec_DiskOk.f kj6 t477 t480 t483).bind fun t489 => (some (t488 == t489)))) = some r := by rw [if_pos rfl] at H; exact H
              clear H
              have H := H1
              clear H1
              replace H := Option.bind_eq_some_iff.mp H
              obtain ⟨t488, A270, H⟩ := H
              replace H : ((spec_DiskOk.f kj6 t477 t480 t483).bind fun t489 => (some (t488 == t489))) = some r := H
              have A27 := Aside0.mk A270
              clear A270
              replace H := Option.bind_eq_some_iff.mp H
              obtain ⟨t489, A280, H⟩ := H
              replace H : (some (t488 == t489)) = some r := H
              have A28 := Aside0.mk A280
              clear A280
              obtain rfl := Option.some.inj H
              try go_wp2
              have n0_ := Aside0.mk (Kd.Q_drew HO_485000.out)
              have n1_ := Aside0.mk (Kd.R_drew HO_485001.out)
              have n2_ := Aside0.mk (blk_drew BK484.out)
              have n3_ := Aside0.mk (below_drew1 HB.out)
              clear HO_485000
              clear HO_485001
              clear BK484
              clear HB
              have HO_485000 := n0_
              have HO_485001 := n1_
              have BK484 := n2_
              have HB := n3_
              clear n0_ n1_ n2_ n3_
              refine start_ (n := 6) (S := fun w' => w'.cell? ⟨gb484, 0, none⟩ = some (.slice Ao10 t477.length co10) ∧ w'.cell? ⟨gb484, 1, none⟩ = some (.slice Ao12 t480.length co12) ∧ w'.cell? ⟨gb484, 2, none⟩ = some (.int .i64 t483)) (ds := []) #[false, false, false, false, false, false] (by kernel_rfl) rfl rfl ⟨(blk_cell BK484.out 0).trans rfl, (blk_cell BK484.out 1).trans rfl, (blk_cell BK484.out 2).trans rfl⟩ (fun hHeld => ?_)
              generalize wc.drew = w29 at HO_485000 HO_485001 BK484 HB hHeld ⊢
              refine take_ (i := 0) (N := some 29) (v := ?_) (a' := ?_) #[true, false, false, false, false, false] rfl rfl (by kernel_rfl) (fun _ _ _ h => h) (Or.inl ⟨by rfl, ?_⟩) hHeld ?_ ?_
              rotate_left
              · rintro w' ⟨s0, s1, s2⟩
                go_simp
                with_reducible rfl
              rotate_left
              · simp only [Act.put, List.setIfInBounds_toArray, List.set_cons_zero, List.set_cons_succ, i64_w, i32_w]
                rfl
              refine take_ (i := 2) (N := some 31) (v := ?_) (a' := ?_) #[true, false, true, false, false, false] rfl rfl (by kernel_rfl) (fun _ _ _ h => h) (Or.inl ⟨by rfl, ?_⟩) hHeld ?_ ?_
              rotate_left
              · rintro w' ⟨s0, s1, s2⟩
                go_simp
                with_reducible rfl
              rotate_left
              · simp only [Act.put, List.setIfInBounds_toArray, List.set_cons_zero, List.set_cons_succ, i64_w, i32_w]
                rfl
              refine one_ (i := 1) (N := some 30) #[true, true, true, false, false, false] rfl rfl (by kernel_rfl) (by decide) (fun K hK => ?_)
              refine goes_ Try.func22 (by kernel_rfl) rfl #[.agg #[.slice Ao10 t477.length co10, .slice Ao12 t480.length co12, .int .i64 t483]] (by rfl) rfl rfl (by (try simp only [List.map_toArray, List.map_cons, List.map_nil]); first | done | rfl | (simp only [List.length_drop, List.length_take]; rfl)) ?_
              with_reducible refine (impl_DiskOk.calls kj6 _ _ t477 _ _ t480 t483 t488 _ ?side1 ?side2 ?side3 ?side4 A27.out).mono ?_
              (case side1 => repeat (first | exact (Kd.Q_reads' HO_485000.out).2.2 | (with_reducible refine Kd.C_alloc ?_ _) | (with_reducible refine Kd.C_drewN ?_ _) | (with_reducible refine Kd.C_drew ?_)))
              (case side2 => exact (Kd.Q_reads' HO_485000.out).2.1)
              (case side3 => repeat (first | exact (Kd.R_reads' HO_485001.out).2.2 | (with_reducible refine Kd.C_alloc ?_ _) | (with_reducible refine Kd.C_drewN ?_ _) | (with_reducible refine Kd.C_drew ?_)))
              (case side4 => exact (Kd.R_reads' HO_485001.out).2.1)
              rintro e w30 ⟨rfl, hb⟩
              refine ⟨_, rfl, ?_⟩
              have n0_ := Aside0.mk (Kd.Q_below (by (with_reducible repeat (first | apply Kd.Q_alloc | apply Kd.Q_drewN | apply Kd.Q_drew)); exact HO_485000.out) hb)
              have n1_ := Aside0.mk (Kd.R_below (by (with_reducible repeat (first | apply Kd.R_alloc | apply Kd.R_drewN | apply Kd.R_drew)); exact HO_485001.out) hb)
              have n2_ := Aside0.mk (blk_below (g := gb484) (o := .cells #[.slice Ao10 t477.length co10, .slice Ao12 t480.length co12, .int .i64 t483] 26 (0, 0)) (by (with_reducible repeat (first | refine blk_drewN ?_ _ | refine blk_drew ?_ | refine blk_alloc ?_ _)); exact BK484.out) hb)
              have n3_ := Aside0.mk (below_step (by repeat (first | (with_reducible first | exact HB.out | apply below_alloc | apply pw_below_drewN | apply below_drew1 | refine below_set ?_ GE484.out) | exact HB.out)) hb)
              clear HO_485000
              clear HO_485001
              clear BK484
              clear HB
              have HO_485000 := n0_
              have HO_485001 := n1_
              have BK484 := n2_
              have HB := n3_
              clear n0_ n1_ n2_ n3_
              (try clear hb)
              (try clear hb2)
              (try clear hk)
              (try clear hi)
              refine hK.out _ _ ⟨(blk_cell BK484.out 0).trans rfl, (blk_cell BK484.out 1).trans rfl, (blk_cell BK484.out 2).trans rfl⟩ (fun hHeld => ?_)
              clear hK K
              refine norm_ (a' := ?_) ?_ ?_
              rotate_left
              · show Act.put _ (some 30) _ = _
                simp only [Act.put, List.setIfInBounds_toArray, List.set_cons_zero, List.set_cons_succ, i64_w, i32_w]
                rfl
              refine one_ (i := 3) (N := some 32) #[true, true, true, true, false, false] rfl rfl (by kernel_rfl) (by decide) (fun K hK => ?_)
              refine goes_ Try.func20 (by kernel_rfl) rfl #[.agg #[.slice Ao10 t477.length co10, .slice Ao12 t480.length co12, .int .i64 t483]] (by rfl) rfl rfl (by (try simp only [List.map_toArray, List.map_cons, List.map_nil]); first | done | rfl | (simp only [List.length_drop, List.length_take]; rfl)) ?_
              with_reducible refine (spec_DiskOk.calls kj6 _ _ t477 _ _ t480 t483 t489 _ ?side1 ?side2 ?side3 ?side4 A28.out).mono ?_
              (case side1 => repeat (first | exact (Kd.Q_reads' HO_485000.out).2.2 | (with_reducible refine Kd.C_alloc ?_ _) | (with_reducible refine Kd.C_drewN ?_ _) | (with_reducible refine Kd.C_drew ?_)))
              (case side2 => exact (Kd.Q_reads' HO_485000.out).2.1)
              (case side3 => repeat (first | exact (Kd.R_reads' HO_485001.out).2.2 | (with_reducible refine Kd.C_alloc ?_ _) | (with_reducible refine Kd.C_drewN ?_ _) | (with_reducible refine Kd.C_drew ?_)))
              (case side4 => exact (Kd.R_reads' HO_485001.out).2.1)
              rintro e w31 ⟨rfl, hb⟩
              refine ⟨_, rfl, ?_⟩
              have n0_ := Aside0.mk (Kd.Q_below (by (with_reducible repeat (first | apply Kd.Q_alloc | apply Kd.Q_drewN | apply Kd.Q_drew)); exact HO_485000.out) hb)
              have n1_ := Aside0.mk (Kd.R_below (by (with_reducible repeat (first | apply Kd.R_alloc | apply Kd.R_drewN | apply Kd.R_drew)); exact HO_485001.out) hb)
              have n2_ := Aside0.mk (blk_below (g := gb484) (o := .cells #[.slice Ao10 t477.length co10, .slice Ao12 t480.length co12, .int .i64 t483] 26 (0, 0)) (by (with_reducible repeat (first | refine blk_drewN ?_ _ | refine blk_drew ?_ | refine blk_alloc ?_ _)); exact BK484.out) hb)
              have n3_ := Aside0.mk (below_step (by repeat (first | (with_reducible first | exact HB.out | apply below_alloc | apply pw_below_drewN | apply below_drew1 | refine below_set ?_ GE484.out) | exact HB.out)) hb)
              clear HO_485000
              clear HO_485001
              clear BK484
              clear HB
              have HO_485000 := n0_
              have HO_485001 := n1_
              have BK484 := n2_
              have HB := n3_
              clear n0_ n1_ n2_ n3_
              (try clear hb)
              (try clear hb2)
              (try clear hk)
              (try clear hi)
              refine hK.out _ _ ⟨(blk_cell BK484.out 0).trans rfl, (blk_cell BK484.out 1).trans rfl, (blk_cell BK484.out 2).trans rfl⟩ (fun hHeld => ?_)
              clear hK K
              refine norm_ (a' := ?_) ?_ ?_
              rotate_left
              · show Act.put _ (some 32) _ = _
                simp only [Act.put, List.setIfInBounds_toArray, List.set_cons_zero, List.set_cons_succ, i64_w, i32_w]
                rfl
              refine pure_ (i := 4) (N := some 33) (v := ?_) (a' := ?_) #[true, true, true, true, true, false] rfl rfl (by kernel_rfl) (fun _ _ _ h => h) (Or.inl ⟨by rfl, ?_⟩) ?_ ?_
              rotate_left
              · intro w'
                go_simp
                with_reducible rfl
              rotate_left
              · simp only [Act.put, List.setIfInBounds_toArray, List.set_cons_zero, List.set_cons_succ, i64_w, i32_w]
                rfl
              refine pure_ (i := 5) (N := some 4) (v := ?_) (a' := ?_) #[true, true, true, true, true, true] rfl rfl (by kernel_rfl) (fun _ _ _ h => h) (Or.inl ⟨by rfl, ?_⟩) ?_ ?_
              rotate_left
              · intro w'
                go_simp
                with_reducible rfl
              rotate_left
              · simp only [Act.put, List.setIfInBounds_toArray, List.set_cons_zero, List.set_cons_succ, i64_w, i32_w]
                rfl
              refine done_ (by kernel_rfl) ?_
              try go_wp2
              go_ret
              exact ⟨by first | rfl | (simp [errW_none, errW_some] <;> rfl) | (simp [*, errW_none, errW_some] <;> rfl), by repeat (first | (with_reducible first | exact HB.out | apply below_alloc | apply pw_below_drewN | apply below_drew1 | refine below_set ?_ GE484.out) | exact HB.out)⟩
            · replace c26 := Bool.eq_false_iff.mpr c26
              subst c26
              have H1 : (laws_FnDiskStop.l0 kj6 0 t477 t480 ((l1.length : Int) % 3) t477 t480 ((l1.length : Int) % 3)) = some r := by rw [if_neg (show ¬ (false = true) by decide)] at H; exact H
              clear H
              have H := H1
              clear H1
              have H' := Aside0.mk H
              clear H
              have hcz32_0 : wc.cell? ⟨gb484, 0, none⟩ = some (.slice Ao10 t477.length co10) := (blk_cell BK484.out 0).trans rfl
              have hcz32_1 : wc.cell? ⟨gb484, 1, none⟩ = some (.slice Ao12 t480.length co12) := (blk_cell BK484.out 1).trans rfl
              have hcz32_2 : wc.cell? ⟨gb484, 2, none⟩ = some (.int .i64 t483) := (blk_cell BK484.out 2).trans rfl
              have hfz32_0 := blk_frozen BK484.out 0
              have hfz32_1 := blk_frozen BK484.out 1
              have hfz32_2 := blk_frozen BK484.out 2
              go_wp2_with (first | ((with_reducible refine gate_dst (N := 6) rfl ?_); (try (refine gate_guard (by rfl) ?_; dsimp only)); refine box_event ?hg (N := 6) ?hd (cs := #[.slice none 0 0, .slice none 0 0, .int .i64 0]) (t := 26) ?hr ?_; (case hd => rfl); (case hg => rfl); (case hr => first | (go_simp; done) | (go_simp; rfl)); intro gb490 hg w33 hbox hb; have n0_ := Aside0.mk (Kd.Q_below (by (with_reducible repeat (first | apply Kd.Q_alloc | apply Kd.Q_drewN | apply Kd.Q_drew)); exact (Kd.Q_mono (Kd.Q_far (p := ⟨gb484, 2, none⟩) (Kd.Q_types HO_485000.out BK484.out (by decide)) (fun _ hk => hk.2) (.int .i64 ((l1.length : Int) % 3))) (fun _ h_ => h_.1))) hb); have n1_ := Aside0.mk (Kd.R_below (by (with_reducible repeat (first | apply Kd.R_alloc | apply Kd.R_drewN | apply Kd.R_drew)); exact (Kd.R_mono (Kd.R_far (p := ⟨gb484, 2, none⟩) (Kd.R_types HO_485001.out BK484.out (by decide)) (fun _ hk => hk.2) (.int .i64 ((l1.length : Int) % 3))) (fun _ h_ => h_.1))) hb); have n2_ := Aside0.mk (blk_below (g := gb484) (o := .cells #[.slice Ao10 t477.length co10, .slice Ao12 t480.length co12, .int .i64 ((l1.length : Int) % 3)] 26 (0, 0)) (by (with_reducible repeat (first | refine blk_drewN ?_ _ | refine blk_drew ?_ | refine blk_alloc ?_ _)); refine blk_put (cs := #[.slice Ao10 t477.length co10, .slice Ao12 t480.length co12, .int .i64 t483]) ?_ 2 _ rfl; (with_reducible repeat (first | refine blk_drewN ?_ _ | refine blk_drew ?_ | refine blk_alloc ?_ _)); exact BK484.out) hb); have n3_ := Aside0.mk (below_step (by repeat (first | (with_reducible first | exact HB.out | apply below_alloc | apply pw_below_drewN | apply below_drew1 | refine below_set ?_ GE484.out) | exact HB.out)) hb); have n4_ := Aside0.mk (hbox); have n5_ := Aside0.mk ((by rw [hg]; exact (below_size (by repeat (first | (with_reducible first | exact HB.out | apply below_alloc | apply pw_below_drewN | apply below_drew1 | refine below_set ?_ GE484.out) | exact HB.out))) : w.heap.size ≤ gb490)); have n6_ := Aside0.mk ((by rw [hg]; exact (below_size (by repeat (first | (with_reducible first | exact HB.out | apply below_alloc | apply pw_below_drewN | apply below_drew1 | refine below_set ?_ GE484.out) | exact HB.out))) : w.heap.size ≤ gb490)); have n7_ := Aside0.mk ((by rw [hg]; exact Nat.ne_of_lt (blk_lt (g := gb484) (o := .cells #[.slice Ao10 t477.length co10, .slice Ao12 t480.length co12, .int .i64 ((l1.length : Int) % 3)] 26 (0, 0)) (by (with_reducible repeat (first | refine blk_drewN ?_ _ | refine blk_drew ?_ | refine blk_alloc ?_ _)); refine blk_put (cs := #[.slice Ao10 t477.length co10, .slice Ao12 t480.length co12, .int .i64 t483]) ?_ 2 _ rfl; (with_reducible repeat (first | refine blk_drewN ?_ _ | refine blk_drew ?_ | refine blk_alloc ?_ _)); exact BK484.out)) : gb484 ≠ gb490)); have n8_ := Aside0.mk ((by rw [hg]; exact Nat.ne_of_gt (blk_lt (g := gb484) (o := .cells #[.slice Ao10 t477.length co10, .slice Ao12 t480.length co12, .int .i64 ((l1.length : Int) % 3)] 26 (0, 0)) (by (with_reducible repeat (first | refine blk_drewN ?_ _ | refine blk_drew ?_ | refine blk_alloc ?_ _)); refine blk_put (cs := #[.slice Ao10 t477.length co10, .slice Ao12 t480.length co12, .int .i64 t483]) ?_ 2 _ rfl; (with_reducible repeat (first | refine blk_drewN ?_ _ | refine blk_drew ?_ | refine blk_alloc ?_ _)); exact BK484.out)) : gb490 ≠ gb484)); clear HO_485000; clear HO_485001; clear BK484; clear HB; have HO_485000 := n0_; have HO_485001 := n1_; have BK484 := n2_; have HB := n3_; have BK490 := n4_; have GW490 := n5_; have GE490 := n6_; have NB484_490 := n7_; have NB490_484 := n8_; clear n0_ n1_ n2_ n3_ n4_ n5_ n6_ n7_ n8_; clear hb hbox hg; have hnb34 := NB490_484.out; have hnc34 := NB484_490.out; have hcz35_0 : w33.cell? ⟨gb490, 0, none⟩ = some (.slice none 0 0) := (blk_cell BK490.out 0).trans rfl; have hcz35_1 : w33.cell? ⟨gb490, 1, none⟩ = some (.slice none 0 0) := (blk_cell BK490.out 1).trans rfl; have hcz35_2 : w33.cell? ⟨gb490, 2, none⟩ = some (.int .i64 0) := (blk_cell BK490.out 2).trans rfl; have hfz35_0 := blk_frozen BK490.out 0; have hfz35_1 := blk_frozen BK490.out 1; have hfz35_2 := blk_frozen BK490.out 2))
              go_loopg [7] kj6 (fun kq v7 w' => ∃ (x7_3 : Int) (x491000_3 : List ByteArray) (x491001_3 : List (S_impl_Wait)) (x491002_3 : Int) (u491000 : Value) (u491001 : Value), v7 = .int .i64 x7_3 ∧ Aside0 (laws_FnDiskStop.l0 kq x7_3 t477 t480 ((l1.length : Int) % 3) x491000_3 x491001_3 x491002_3 = some r) ∧ Aside0 (kq ≤ kj6) ∧ Aside0 (Kd.Q Kd.string 9 w' w.heap.size (fun _ => True) (.slice Ao10 t477.length co10) t477) ∧ Aside0 (Kd.R k48 48 w' w.heap.size (fun _ => True) (.slice Ao12 t480.length co12) t480) ∧ Aside0 (Kd.Q Kd.string 9 w' w.heap.size (fun _ => True) u491000 x491000_3) ∧ Aside0 (Kd.R k48 48 w' w.heap.size (fun _ => True) u491001 x491001_3) ∧ Aside0 (w'.heap[gb484]? = some (.cells #[(.slice Ao10 t477.length co10), (.slice Ao12 t480.length co12), .int .i64 ((l1.length : Int) % 3)] 26 (0, 0))) ∧ Aside0 (w'.heap[gb490]? = some (.cells #[u491000, u491001, .int .i64 x491002_3] 26 (0, 0))) ∧ Aside0 (Below w.heap.size w w'))
              case atStart => exact ⟨(0), (t477), (t480), ((l1.length : Int) % 3), (.slice Ao10 t477.length co10), (.slice Ao12 t480.length co12), (by first | rfl | (simp; done) | (simp [*]; done)), H', ⟨Nat.le_refl _⟩, ⟨by (with_reducible repeat (first | apply Kd.Q_alloc | apply Kd.Q_drewN | apply Kd.Q_drew)); exact Kd.Q_mono (Kd.Q_far (p := ⟨gb490, 2, none⟩) (Kd.Q_far (p := ⟨gb490, 1, none⟩) (Kd.Q_far (p := ⟨gb490, 0, none⟩) (Kd.Q_types HO_485000.out BK490.out (by decide)) (fun _ hk => hk.2) (.slice Ao10 t477.length co10)) (fun _ hk => hk.2) (.slice Ao12 t480.length co12)) (fun _ hk => hk.2) (.int .i64 ((l1.length : Int) % 3))) (fun _ hk => trivial)⟩, ⟨by (with_reducible repeat (first | apply Kd.R_alloc | apply Kd.R_drewN | apply Kd.R_drew)); exact Kd.R_mono (Kd.R_far (p := ⟨gb490, 2, none⟩) (Kd.R_far (p := ⟨gb490, 1, none⟩) (Kd.R_far (p := ⟨gb490, 0, none⟩) (Kd.R_types HO_485001.out BK490.out (by decide)) (fun _ hk => hk.2) (.slice Ao10 t477.length co10)) (fun _ hk => hk.2) (.slice Ao12 t480.length co12)) (fun _ hk => hk.2) (.int .i64 ((l1.length : Int) % 3))) (fun _ hk => trivial)⟩, ⟨by (with_reducible repeat (first | apply Kd.Q_alloc | apply Kd.Q_drewN | apply Kd.Q_drew)); exact Kd.Q_mono (Kd.Q_far (p := ⟨gb490, 2, none⟩) (Kd.Q_far (p := ⟨gb490, 1, none⟩) (Kd.Q_far (p := ⟨gb490, 0, none⟩) (Kd.Q_types HO_485000.out BK490.out (by decide)) (fun _ hk => hk.2) (.slice Ao10 t477.length co10)) (fun _ hk => hk.2) (.slice Ao12 t480.length co12)) (fun _ hk => hk.2) (.int .i64 ((l1.length : Int) % 3))) (fun _ hk => trivial)⟩, ⟨by (with_reducible repeat (first | apply Kd.R_alloc | apply Kd.R_drewN | apply Kd.R_drew)); exact Kd.R_mono (Kd.R_far (p := ⟨gb490, 2, none⟩) (Kd.R_far (p := ⟨gb490, 1, none⟩) (Kd.R_far (p := ⟨gb490, 0, none⟩) (Kd.R_types HO_485001.out BK490.out (by decide)) (fun _ hk => hk.2) (.slice Ao10 t477.length co10)) (fun _ hk => hk.2) (.slice Ao12 t480.length co12)) (fun _ hk => hk.2) (.int .i64 ((l1.length : Int) % 3))) (fun _ hk => trivial)⟩, ⟨by (with_reducible repeat (first | refine blk_drewN ?_ _ | refine blk_drew ?_ | refine blk_alloc ?_ _)); refine blk_far ?_ NB484_490.out _; (with_reducible repeat (first | refine blk_drewN ?_ _ | refine blk_drew ?_ | refine blk_alloc ?_ _)); refine blk_far ?_ NB484_490.out _; (with_reducible repeat (first | refine blk_drewN ?_ _ | refine blk_drew ?_ | refine blk_alloc ?_ _)); refine blk_far ?_ NB484_490.out _; (with_reducible repeat (first | refine blk_drewN ?_ _ | refine blk_drew ?_ | refine blk_alloc ?_ _)); exact BK484.out⟩, ⟨by (with_reducible repeat (first | refine blk_drewN ?_ _ | refine blk_drew ?_ | refine blk_alloc ?_ _)); refine blk_put (cs := #[.slice Ao10 t477.length co10, .slice Ao12 t480.length co12, .int .i64 0]) ?_ 2 _ rfl; (with_reducible repeat (first | refine blk_drewN ?_ _ | refine blk_drew ?_ | refine blk_alloc ?_ _)); refine blk_put (cs := #[.slice Ao10 t477.length co10, .slice none 0 0, .int .i64 0]) ?_ 1 _ rfl; (with_reducible repeat (first | refine blk_drewN ?_ _ | refine blk_drew ?_ | refine blk_alloc ?_ _)); refine blk_put (cs := #[.slice none 0 0, .slice none 0 0, .int .i64 0]) ?_ 0 _ rfl; (with_reducible repeat (first | refine blk_drewN ?_ _ | refine blk_drew ?_ | refine blk_alloc ?_ _)); exact BK490.out⟩, ⟨by repeat (first | (with_reducible first | exact HB.out | apply below_alloc | apply pw_below_drewN | apply below_drew1 | refine below_set ?_ GE484.out | refine below_set ?_ GE490.out) | exact HB.out)⟩⟩
              case round =>
                clear H'
                try clear c1
                try clear c2
                try clear p2
                try clear c3
                try clear c4
                try clear c4b0
                try clear c4b1
                try clear c5
                try clear c7
                try clear c15
                try clear c15b0
                try clear c15b1
                try clear c15b2
                try clear c20
                try clear c22
                try clear c25
                try clear c26
                try clear c34
                try clear hcz11_0
                try clear hcz11_1
                try clear hcz11_2
                try clear hcz32_0
                try clear hcz32_1
                try clear hcz32_2
                try clear hcz35_0
                try clear hcz35_1
                try clear hcz35_2
                try clear hfz11_0
                try clear hfz11_1
                try clear hfz11_2
                try clear hfz32_0
                try clear hfz32_1
                try clear hfz32_2
                try clear hfz35_0
                try clear hfz35_1
                try clear hfz35_2
                try clear p2
                obtain ⟨x7_3, x491000_3, x491001_3, x491002_3, u491000, u491001, rfl, HA, HK3, HO_485000, HO_485001, HO_491000, HO_491001, BK484, BK490, HB⟩ := hrel
                cases gk with
                | zero => exact absurd HA.out (by simp [laws_FnDiskStop.l0])
                | succ k3 =>
                  have H := HA.out
                  clear HA
                  simp only [laws_FnDiskStop.l0] at H
                  by_cases c36 : x7_3 < 4
                  · rw [if_pos c36] at H
                    have c36b0 : decide (x7_3 < 4) = true := decide_eq_true c36
                    clear c36
                    replace H := Option.bind_eq_some_iff.mp H
                    obtain ⟨⟨t499, t502, t505⟩, A370, H⟩ := H
                    replace H : (if x491002_3 = 0 then ((laws_wmDisk.f k3 t499 t502 t505 x491000_3 x491001_3 x491002_3).bind fun t507 => (if t507 = true then (if x491002_3 > 0 then (if t505 = (wrap64 (x491002_3 - 1)) then (if (t502.length : Int) = (wrap64 ((x491001_3.length : Int) + 1)) then (laws_FnDiskStop.l0 k3 (wrap64 (x7_3 + 1)) t477 t480 ((l1.length : Int) % 3) t499 t502 t505) else (some false)) else (some false)) else (laws_FnDiskStop.l0 k3 (wrap64 (x7_3 + 1)) t477 t480 ((l1.length : Int) % 3) t499 t502 t505)) else (some false))) else (if x491002_3 > 0 then (if t505 = (wrap64 (x491002_3 - 1)) then (if (t502.length : Int) = (wrap64 ((x491001_3.length : Int) + 1)) then (laws_FnDiskStop.l0 k3 (wrap64 (x7_3 + 1)) t477 t480 ((l1.length : Int) % 3) t499 t502 t505) else (some false)) else (some false)) else (laws_FnDiskStop.l0 k3 (wrap64 (x7_3 + 1)) t477 t480 ((l1.length : Int) % 3) t499 t502 t505))) = some r := H
                    have A37 := Aside0.mk A370
                    clear A370
                    by_cases c38 : x491002_3 = 0
                    · rw [if_pos c38] at H
                      have c38b0 : (x491002_3 == 0) = true := beq_iff_eq.mpr c38
                      have c38b1 : (x491002_3 != 0) = false := bne_eq_false_iff_eq.mpr c38
                      clear c38
                      replace H := Option.bind_eq_some_iff.mp H
                      obtain ⟨t507, A390, H⟩ := H
                      replace H : (if t507 = true then (if x491002_3 > 0 then (if t505 = (wrap64 (x491002_3 - 1)) then (if (t502.length : Int) = (wrap64 ((x491001_3.length : Int) + 1)) then (laws_FnDiskStop.l0 k3 (wrap64 (x7_3 + 1)) t477 t480 ((l1.length : Int) % 3) t499 t502 t505) else (some false)) else (some false)) else (laws_FnDiskStop.l0 k3 (wrap64 (x7_3 + 1)) t477 t480 ((l1.length : Int) % 3) t499 t502 t505)) else (some false)) = some r := H
                      have A39 := Aside0.mk A390
                      clear A390
                      by_cases c40 : t507 = true
                      · subst c40
                        have H1 : (if x491002_3 > 0 then (if t505 = (wrap64 (x491002_3 - 1)) then (if (t502.length : Int) = (wrap64 ((x491001_3.length : Int) + 1)) then (laws_FnDiskStop.l0 k3 (wrap64 (x7_3 + 1)) t477 t480 ((l1.length : Int) % 3) t499 t502 t505) else (some false)) else (some false)) else (laws_FnDiskStop.l0 k3 (wrap64 (x7_3 + 1)) t477 t480 ((l1.length : Int) % 3) t499 t502 t505)) = some r := by rw [if_pos rfl] at H; exact H
                        clear H
                        have H := H1
                        clear H1
                        by_cases c41 : x491002_3 > 0
                        · rw [if_pos c41] at H
                          have c41b0 : decide (0 < x491002_3) = true := decide_eq_true c41
                          clear c41
                          by_cases c42 : t505 = (wrap64 (x491002_3 - 1))
                          · rw [if_pos c42] at H
                            have c42b0 : (t505 == (wrap64 (x491002_3 - 1))) = true := beq_iff_eq.mpr c42
                            have c42b1 : (t505 != (wrap64 (x491002_3 - 1))) = false := bne_eq_false_iff_eq.mpr c42
                            clear c42
                            by_cases c43 : (t502.length : Int) = (wrap64 ((x491001_3.length : Int) + 1))
                            · rw [if_pos c43] at H
                              have c43b0 : ((t502.length : Int) == (wrap64 ((x491001_3.length : Int) + 1))) = true := beq_iff_eq.mpr c43
                              have c43b1 : ((t502.length : Int) != (wrap64 ((x491001_3.length : Int) + 1))) = false := bne_eq_false_iff_eq.mpr c43
                              clear c43
                              have H' := Aside0.mk H
                              clear H
                              have hnb44 := NB490_484.out
                              have hnc44 := NB484_490.out
                              have hcz45_0 : wr.cell? ⟨gb490, 0, none⟩ = some (u491000) := (blk_cell BK490.out 0).trans rfl
                              have hcz45_1 : wr.cell? ⟨gb490, 1, none⟩ = some (u491001) := (blk_cell BK490.out 1).trans rfl
                              have hcz45_2 : wr.cell? ⟨gb490, 2, none⟩ = some (.int .i64 x491002_3) := (blk_cell BK490.out 2).trans rfl
                              have hfz45_0 := blk_frozen BK490.out 0
                              have hfz45_1 := blk_frozen BK490.out 1
                              have hfz45_2 := blk_frozen BK490.out 2
                              obtain ⟨Ao46, co46, eo46, _⟩ := Kd.Q_slice HO_491000.out
                              subst eo46
                              obtain ⟨Ao47, co47, eo47⟩ := Kd.R_slice HO_491001.out
                              subst eo47
                              go_wp2_with (first | ((with_reducible refine gate_callee (f := 26) rfl ?_); refine goesL_ (some 45) rfl rfl Try.func26 (by kernel_rfl) rfl #[.agg #[.slice Ao46 x491000_3.length co46, .slice Ao47 x491001_3.length co47, .int .i64 x491002_3], .int .i64 x7_3, .string (⟨#[119]⟩ : ByteArray)] rfl (by (try simp only [List.map_toArray, List.map_cons, List.map_nil]); first | done | rfl | (simp only [List.length_drop, List.length_take]; rfl)) ?_; (with_reducible refine (impl_DiskWrite.calls k3 _ _ x491000_3 _ _ x491001_3 x491002_3 x7_3 (⟨#[119]⟩ : ByteArray) t499 t502 t505 _ ?side1 ?side2 ?side3 ?side4 A37.out).mono ?_); (case side1 => repeat (first | exact (Kd.Q_reads' HO_491000.out).2.2 | (with_reducible refine Kd.C_alloc ?_ _) | (with_reducible refine Kd.C_drewN ?_ _) | (with_reducible refine Kd.C_drew ?_))); (case side2 => exact (Kd.Q_reads' HO_491000.out).2.1); (case side3 => repeat (first | exact (Kd.R_reads' HO_491001.out).2.2 | (with_reducible refine Kd.C_alloc ?_ _) | (with_reducible refine Kd.C_drewN ?_ _) | (with_reducible refine Kd.C_drew ?_))); (case side4 => exact (Kd.R_reads' HO_491001.out).2.1); rintro e w48 ⟨v500, v503, rfl, ho0, ho1, hb⟩; refine ⟨_, rfl, ?_⟩; have n0_ := Aside0.mk (Kd.Q_elder' (by (with_reducible repeat (first | apply Kd.Q_alloc | apply Kd.Q_drewN | apply Kd.Q_drew)); exact HO_485000.out) (Kd.R_base ho0) hb); have n1_ := Aside0.mk (Kd.R_elder' (by (with_reducible repeat (first | apply Kd.R_alloc | apply Kd.R_drewN | apply Kd.R_drew)); exact HO_485001.out) (Kd.R_base ho1) hb); have n2_ := Aside0.mk (Kd.Q_elder' (by (with_reducible repeat (first | apply Kd.Q_alloc | apply Kd.Q_drewN | apply Kd.Q_drew)); exact HO_491000.out) (Kd.R_base ho0) hb); have n3_ := Aside0.mk (Kd.R_elder' (by (with_reducible repeat (first | apply Kd.R_alloc | apply Kd.R_drewN | apply Kd.R_drew)); exact HO_491001.out) (Kd.R_base ho1) hb); have n4_ := Aside0.mk (Kd.R_lower (Kd.R_new' (Kd.R_new' ho0 (Kd.Q_lt (by (with_reducible repeat (first | apply Kd.Q_alloc | apply Kd.Q_drewN | apply Kd.Q_drew)); exact HO_485000.out))) (Kd.Q_lt (by (with_reducible repeat (first | apply Kd.Q_alloc | apply Kd.Q_drewN | apply Kd.Q_drew)); exact HO_491000.out))) (below_size (by repeat (first | (with_reducible first | exact HB.out | apply below_alloc | apply pw_below_drewN | apply below_drew1 | refine below_set ?_ GE484.out | refine below_set ?_ GE490.out) | exact HB.out)))); have n5_ := Aside0.mk (Kd.R_lower (Kd.R_new' (Kd.R_new' ho1 (Kd.R_lt (by (with_reducible repeat (first | apply Kd.R_alloc | apply Kd.R_drewN | apply Kd.R_drew)); exact HO_485001.out))) (Kd.R_lt (by (with_reducible repeat (first | apply Kd.R_alloc | apply Kd.R_drewN | apply Kd.R_drew)); exact HO_491001.out))) (below_size (by repeat (first | (with_reducible first | exact HB.out | apply below_alloc | apply pw_below_drewN | apply below_drew1 | refine below_set ?_ GE484.out | refine below_set ?_ GE490.out) | exact HB.out)))); have n6_ := Aside0.mk (blk_below (g := gb484) (o := .cells #[.slice Ao10 t477.length co10, .slice Ao12 t480.length co12, .int .i64 ((l1.length : Int) % 3)] 26 (0, 0)) (by (with_reducible repeat (first | refine blk_drewN ?_ _ | refine blk_drew ?_ | refine blk_alloc ?_ _)); exact BK484.out) hb); have n7_ := Aside0.mk (blk_below (g := gb490) (o := .cells #[.slice Ao46 x491000_3.length co46, .slice Ao47 x491001_3.length co47, .int .i64 x491002_3] 26 (0, 0)) (by (with_reducible repeat (first | refine blk_drewN ?_ _ | refine blk_drew ?_ | refine blk_alloc ?_ _)); exact BK490.out) hb); have n8_ := Aside0.mk (below_step (by repeat (first | (with_reducible first | exact HB.out | apply below_alloc | apply pw_below_drewN | apply below_drew1 | refine below_set ?_ GE484.out | refine below_set ?_ GE490.out) | exact HB.out)) hb); clear HO_485000; clear HO_485001; clear HO_491000; clear HO_491001; clear BK484; clear BK490; clear HB; have HO_485000 := n0_; have HO_485001 := n1_; have HO_491000 := n2_; have HO_491001 := n3_; have HO501 := n4_; have HO504 := n5_; have BK484 := n6_; have BK490 := n7_; have HB := n8_; clear n0_ n1_ n2_ n3_ n4_ n5_ n6_ n7_ n8_; (try clear hb); (try clear hb2); (try clear hk); (try clear hi); (try clear ho0); (try clear ho1)) | ((with_reducible refine gate_dst (N := 8) rfl ?_); (try (refine gate_guard (by rfl) ?_; dsimp only)); refine box_event ?hg (N := 8) ?hd (cs := #[.slice none 0 0, .slice none 0 0, .int .i64 0]) (t := 26) ?hr ?_; (case hd => rfl); (case hg => rfl); (case hr => first | (go_simp; done) | (go_simp; rfl)); intro gb506 hg w49 hbox hb; have n0_ := Aside0.mk (Kd.Q_below (by (with_reducible repeat (first | apply Kd.Q_alloc | apply Kd.Q_drewN | apply Kd.Q_drew)); exact HO_485000.out) hb); have n1_ := Aside0.mk (Kd.R_below (by (with_reducible repeat (first | apply Kd.R_alloc | apply Kd.R_drewN | apply Kd.R_drew)); exact HO_485001.out) hb); have n2_ := Aside0.mk (Kd.Q_below (by (with_reducible repeat (first | apply Kd.Q_alloc | apply Kd.Q_drewN | apply Kd.Q_drew)); exact HO_491000.out) hb); have n3_ := Aside0.mk (Kd.R_below (by (with_reducible repeat (first | apply Kd.R_alloc | apply Kd.R_drewN | apply Kd.R_drew)); exact HO_491001.out) hb); have n4_ := Aside0.mk (Kd.R_below (by (with_reducible repeat (first | apply Kd.R_alloc | apply Kd.R_drewN | apply Kd.R_drew)); exact HO501.out) hb); have n5_ := Aside0.mk (Kd.R_below (by (with_reducible repeat (first | apply Kd.R_alloc | apply Kd.R_drewN | apply Kd.R_drew)); exact HO504.out) hb); have n6_ := Aside0.mk (blk_below (g := gb484) (o := .cells #[.slice Ao10 t477.length co10, .slice Ao12 t480.length co12, .int .i64 ((l1.length : Int) % 3)] 26 (0, 0)) (by (with_reducible repeat (first | refine blk_drewN ?_ _ | refine blk_drew ?_ | refine blk_alloc ?_ _)); exact BK484.out) hb); have n7_ := Aside0.mk (blk_below (g := gb490) (o := .cells #[.slice Ao46 x491000_3.length co46, .slice Ao47 x491001_3.length co47, .int .i64 x491002_3] 26 (0, 0)) (by (with_reducible repeat (first | refine blk_drewN ?_ _ | refine blk_drew ?_ | refine blk_alloc ?_ _)); exact BK490.out) hb); have n8_ := Aside0.mk (below_step (by repeat (first | (with_reducible first | exact HB.out | apply below_alloc | apply pw_below_drewN | apply below_drew1 | refine below_set ?_ GE484.out | refine below_set ?_ GE490.out) | exact HB.out)) hb); have n9_ := Aside0.mk (hbox); have n10_ := Aside0.mk ((by rw [hg]; exact (below_size (by repeat (first | (with_reducible first | exact HB.out | apply below_alloc | apply pw_below_drewN | apply below_drew1 | refine below_set ?_ GE484.out | refine below_set ?_ GE490.out) | exact HB.out))) : w.heap.size ≤ gb506)); have n11_ := Aside0.mk ((by rw [hg]; exact (below_size (by repeat (first | (with_reducible first | exact HB.out | apply below_alloc | apply pw_below_drewN | apply below_drew1 | refine below_set ?_ GE484.out | refine below_set ?_ GE490.out) | exact HB.out))) : w.heap.size ≤ gb506)); have n12_ := Aside0.mk ((by rw [hg]; exact Nat.ne_of_lt (blk_lt (g := gb484) (o := .cells #[.slice Ao10 t477.length co10, .slice Ao12 t480.length co12, .int .i64 ((l1.length : Int) % 3)] 26 (0, 0)) (by (with_reducible repeat (first | refine blk_drewN ?_ _ | refine blk_drew ?_ | refine blk_alloc ?_ _)); exact BK484.out)) : gb484 ≠ gb506)); have n13_ := Aside0.mk ((by rw [hg]; exact Nat.ne_of_gt (blk_lt (g := gb484) (o := .cells #[.slice Ao10 t477.length co10, .slice Ao12 t480.length co12, .int .i64 ((l1.length : Int) % 3)] 26 (0, 0)) (by (with_reducible repeat (first | refine blk_drewN ?_ _ | refine blk_drew ?_ | refine blk_alloc ?_ _)); exact BK484.out)) : gb506 ≠ gb484)); have n14_ := Aside0.mk ((by rw [hg]; exact Nat.ne_of_lt (blk_lt (g := gb490) (o := .cells #[.slice Ao46 x491000_3.length co46, .slice Ao47 x491001_3.length co47, .int .i64 x491002_3] 26 (0, 0)) (by (with_reducible repeat (first | refine blk_drewN ?_ _ | refine blk_drew ?_ | refine blk_alloc ?_ _)); exact BK490.out)) : gb490 ≠ gb506)); have n15_ := Aside0.mk ((by rw [hg]; exact Nat.ne_of_gt (blk_lt (g := gb490) (o := .cells #[.slice Ao46 x491000_3.length co46, .slice Ao47 x491001_3.length co47, .int .i64 x491002_3] 26 (0, 0)) (by (with_reducible repeat (first | refine blk_drewN ?_ _ | refine blk_drew ?_ | refine blk_alloc ?_ _)); exact BK490.out)) : gb506 ≠ gb490)); clear HO_485000; clear HO_485001; clear HO_491000; clear HO_491001; clear HO501; clear HO504; clear BK484; clear BK490; clear HB; have HO_485000 := n0_; have HO_485001 := n1_; have HO_491000 := n2_; have HO_491001 := n3_; have HO501 := n4_; have HO504 := n5_; have BK484 := n6_; have BK490 := n7_; have HB := n8_; have BK506 := n9_; have GW506 := n10_; have GE506 := n11_; have NB484_506 := n12_; have NB506_484 := n13_; have NB490_506 := n14_; have NB506_490 := n15_; clear n0_ n1_ n2_ n3_ n4_ n5_ n6_ n7_ n8_ n9_ n10_ n11_ n12_ n13_ n14_ n15_; clear hb hbox hg; obtain ⟨Ao50, co50, eo50⟩ := Kd.R_slice HO501.out; subst eo50; have hnb51 := NB506_484.out; have hnc51 := NB484_506.out; have hnb52 := NB506_490.out; have hnc52 := NB490_506.out; have hcz53_0 : w49.cell? ⟨gb506, 0, none⟩ = some (.slice none 0 0) := (blk_cell BK506.out 0).trans rfl; have hcz53_1 : w49.cell? ⟨gb506, 1, none⟩ = some (.slice none 0 0) := (blk_cell BK506.out 1).trans rfl; have hcz53_2 : w49.cell? ⟨gb506, 2, none⟩ = some (.int .i64 0) := (blk_cell BK506.out 2).trans rfl; have hfz53_0 := blk_frozen BK506.out 0; have hfz53_1 := blk_frozen BK506.out 1; have hfz53_2 := blk_frozen BK506.out 2; obtain ⟨Ao54, co54, eo54⟩ := Kd.R_slice HO504.out; subst eo54; have hcz55_0 : w49.cell? ⟨gb490, 0, none⟩ = some (.slice Ao46 x491000_3.length co46) := (blk_cell BK490.out 0).trans rfl; have hcz55_1 : w49.cell? ⟨gb490, 1, none⟩ = some (.slice Ao47 x491001_3.length co47) := (blk_cell BK490.out 1).trans rfl; have hcz55_2 : w49.cell? ⟨gb490, 2, none⟩ = some (.int .i64 x491002_3) := (blk_cell BK490.out 2).trans rfl; have hfz55_0 := blk_frozen BK490.out 0; have hfz55_1 := blk_frozen BK490.out 1; have hfz55_2 := blk_frozen BK490.out 2) | (go_at_call 27; (with_reducible refine (laws_wmDisk.calls k3 _ _ t499 _ _ t502 t505 _ _ x491000_3 _ _ x491001_3 x491002_3 true _ ?side1 ?side2 ?side3 ?side4 ?side5 ?side6 ?side7 ?side8 A39.out).mono ?_); (case side1 => refine (Kd.R_reads' (e := 9) (base := w.heap.size) (ok := fun k_ => ((True ∧ some k_ ≠ (.slice Ao10 t477.length co10 : Value).ownBlock) ∧ some k_ ≠ (.slice Ao46 x491000_3.length co46 : Value).ownBlock)) (n := t499.length) (c := co50) ?_).2.2; exact (by (with_reducible repeat (first | apply Kd.R_alloc | apply Kd.R_drewN | apply Kd.R_drew)); exact (Kd.R_mono (Kd.R_far (p := ⟨gb506, 2, none⟩) (Kd.R_far (p := ⟨gb506, 1, none⟩) (Kd.R_far (p := ⟨gb506, 0, none⟩) (Kd.R_types HO501.out BK506.out (by decide)) (fun _ hk => hk.2) (.slice Ao50 t499.length co50)) (fun _ hk => hk.2) (.slice Ao54 t502.length co54)) (fun _ hk => hk.2) (.int .i64 t505)) (fun _ h_ => h_.1)))); (case side2 => exact (Kd.R_reads' HO501.out).2.1); (case side3 => refine (Kd.R_reads' (e := 48) (base := w.heap.size) (ok := fun k_ => ((True ∧ some k_ ≠ (.slice Ao12 t480.length co12 : Value).ownBlock) ∧ some k_ ≠ (.slice Ao47 x491001_3.length co47 : Value).ownBlock)) (n := t502.length) (c := co54) ?_).2.2; exact (by (with_reducible repeat (first | apply Kd.R_alloc | apply Kd.R_drewN | apply Kd.R_drew)); exact (Kd.R_mono (Kd.R_far (p := ⟨gb506, 2, none⟩) (Kd.R_far (p := ⟨gb506, 1, none⟩) (Kd.R_far (p := ⟨gb506, 0, none⟩) (Kd.R_types HO504.out BK506.out (by decide)) (fun _ hk => hk.2) (.slice Ao50 t499.length co50)) (fun _ hk => hk.2) (.slice Ao54 t502.length co54)) (fun _ hk => hk.2) (.int .i64 t505)) (fun _ h_ => h_.1)))); (case side4 => exact (Kd.R_reads' HO504.out).2.1); (case side5 => refine (Kd.Q_reads' (e := 9) (base := w.heap.size) (ok := fun k_ => (True ∧ some k_ ≠ (.slice Ao50 t499.length co50 : Value).ownBlock)) (n := x491000_3.length) (c := co46) ?_).2.2; exact (by (with_reducible repeat (first | apply Kd.Q_alloc | apply Kd.Q_drewN | apply Kd.Q_drew)); exact (Kd.Q_mono (Kd.Q_far (p := ⟨gb506, 2, none⟩) (Kd.Q_far (p := ⟨gb506, 1, none⟩) (Kd.Q_far (p := ⟨gb506, 0, none⟩) (Kd.Q_types HO_491000.out BK506.out (by decide)) (fun _ hk => hk.2) (.slice Ao50 t499.length co50)) (fun _ hk => hk.2) (.slice Ao54 t502.length co54)) (fun _ hk => hk.2) (.int .i64 t505)) (fun _ h_ => h_.1)))); (case side6 => exact (Kd.Q_reads' HO_491000.out).2.1); (case side7 => refine (Kd.R_reads' (e := 48) (base := w.heap.size) (ok := fun k_ => (True ∧ some k_ ≠ (.slice Ao54 t502.length co54 : Value).ownBlock)) (n := x491001_3.length) (c := co47) ?_).2.2; exact (by (with_reducible repeat (first | apply Kd.R_alloc | apply Kd.R_drewN | apply Kd.R_drew)); exact (Kd.R_mono (Kd.R_far (p := ⟨gb506, 2, none⟩) (Kd.R_far (p := ⟨gb506, 1, none⟩) (Kd.R_far (p := ⟨gb506, 0, none⟩) (Kd.R_types HO_491001.out BK506.out (by decide)) (fun _ hk => hk.2) (.slice Ao50 t499.length co50)) (fun _ hk => hk.2) (.slice Ao54 t502.length co54)) (fun _ hk => hk.2) (.int .i64 t505)) (fun _ h_ => h_.1)))); (case side8 => exact (Kd.R_reads' HO_491001.out).2.1); rintro e w56 ⟨rfl, hb⟩; have n0_ := Aside0.mk (Kd.Q_below (by (with_reducible repeat (first | apply Kd.Q_alloc | apply Kd.Q_drewN | apply Kd.Q_drew)); exact (Kd.Q_mono (Kd.Q_far (p := ⟨gb506, 2, none⟩) (Kd.Q_far (p := ⟨gb506, 1, none⟩) (Kd.Q_far (p := ⟨gb506, 0, none⟩) (Kd.Q_types HO_485000.out BK506.out (by decide)) (fun _ hk => hk.2) (.slice Ao50 t499.length co50)) (fun _ hk => hk.2) (.slice Ao54 t502.length co54)) (fun _ hk => hk.2) (.int .i64 t505)) (fun _ h_ => h_.1))) hb); have n1_ := Aside0.mk (Kd.R_below (by (with_reducible repeat (first | apply Kd.R_alloc | apply Kd.R_drewN | apply Kd.R_drew)); exact (Kd.R_mono (Kd.R_far (p := ⟨gb506, 2, none⟩) (Kd.R_far (p := ⟨gb506, 1, none⟩) (Kd.R_far (p := ⟨gb506, 0, none⟩) (Kd.R_types HO_485001.out BK506.out (by decide)) (fun _ hk => hk.2) (.slice Ao50 t499.length co50)) (fun _ hk => hk.2) (.slice Ao54 t502.length co54)) (fun _ hk => hk.2) (.int .i64 t505)) (fun _ h_ => h_.1))) hb); have n2_ := Aside0.mk (Kd.Q_below (by (with_reducible repeat (first | apply Kd.Q_alloc | apply Kd.Q_drewN | apply Kd.Q_drew)); exact (Kd.Q_mono (Kd.Q_far (p := ⟨gb506, 2, none⟩) (Kd.Q_far (p := ⟨gb506, 1, none⟩) (Kd.Q_far (p := ⟨gb506, 0, none⟩) (Kd.Q_types HO_491000.out BK506.out (by decide)) (fun _ hk => hk.2) (.slice Ao50 t499.length co50)) (fun _ hk => hk.2) (.slice Ao54 t502.length co54)) (fun _ hk => hk.2) (.int .i64 t505)) (fun _ h_ => h_.1))) hb); have n3_ := Aside0.mk (Kd.R_below (by (with_reducible repeat (first | apply Kd.R_alloc | apply Kd.R_drewN | apply Kd.R_drew)); exact (Kd.R_mono (Kd.R_far (p := ⟨gb506, 2, none⟩) (Kd.R_far (p := ⟨gb506, 1, none⟩) (Kd.R_far (p := ⟨gb506, 0, none⟩) (Kd.R_types HO_491001.out BK506.out (by decide)) (fun _ hk => hk.2) (.slice Ao50 t499.length co50)) (fun _ hk => hk.2) (.slice Ao54 t502.length co54)) (fun _ hk => hk.2) (.int .i64 t505)) (fun _ h_ => h_.1))) hb); have n4_ := Aside0.mk (Kd.R_below (by (with_reducible repeat (first | apply Kd.R_alloc | apply Kd.R_drewN | apply Kd.R_drew)); exact (Kd.R_mono (Kd.R_far (p := ⟨gb506, 2, none⟩) (Kd.R_far (p := ⟨gb506, 1, none⟩) (Kd.R_far (p := ⟨gb506, 0, none⟩) (Kd.R_types HO501.out BK506.out (by decide)) (fun _ hk => hk.2) (.slice Ao50 t499.length co50)) (fun _ hk => hk.2) (.slice Ao54 t502.length co54)) (fun _ hk => hk.2) (.int .i64 t505)) (fun _ h_ => h_.1))) hb); have n5_ := Aside0.mk (Kd.R_below (by (with_reducible repeat (first | apply Kd.R_alloc | apply Kd.R_drewN | apply Kd.R_drew)); exact (Kd.R_mono (Kd.R_far (p := ⟨gb506, 2, none⟩) (Kd.R_far (p := ⟨gb506, 1, none⟩) (Kd.R_far (p := ⟨gb506, 0, none⟩) (Kd.R_types HO504.out BK506.out (by decide)) (fun _ hk => hk.2) (.slice Ao50 t499.length co50)) (fun _ hk => hk.2) (.slice Ao54 t502.length co54)) (fun _ hk => hk.2) (.int .i64 t505)) (fun _ h_ => h_.1))) hb); have n6_ := Aside0.mk (blk_below (g := gb484) (o := .cells #[.slice Ao10 t477.length co10, .slice Ao12 t480.length co12, .int .i64 ((l1.length : Int) % 3)] 26 (0, 0)) (by (with_reducible repeat (first | refine blk_drewN ?_ _ | refine blk_drew ?_ | refine blk_alloc ?_ _)); refine blk_far ?_ NB484_506.out _; (with_reducible repeat (first | refine blk_drewN ?_ _ | refine blk_drew ?_ | refine blk_alloc ?_ _)); refine blk_far ?_ NB484_506.out _; (with_reducible repeat (first | refine blk_drewN ?_ _ | refine blk_drew ?_ | refine blk_alloc ?_ _)); refine blk_far ?_ NB484_506.out _; (with_reducible repeat (first | refine blk_drewN ?_ _ | refine blk_drew ?_ | refine blk_alloc ?_ _)); exact BK484.out) hb); have n7_ := Aside0.mk (blk_below (g := gb490) (o := .cells #[.slice Ao46 x491000_3.length co46, .slice Ao47 x491001_3.length co47, .int .i64 x491002_3] 26 (0, 0)) (by (with_reducible repeat (first | refine blk_drewN ?_ _ | refine blk_drew ?_ | refine blk_alloc ?_ _)); refine blk_far ?_ NB490_506.out _; (with_reducible repeat (first | refine blk_drewN ?_ _ | refine blk_drew ?_ | refine blk_alloc ?_ _)); refine blk_far ?_ NB490_506.out _; (with_reducible repeat (first | refine blk_drewN ?_ _ | refine blk_drew ?_ | refine blk_alloc ?_ _)); refine blk_far ?_ NB490_506.out _; (with_reducible repeat (first | refine blk_drewN ?_ _ | refine blk_drew ?_ | refine blk_alloc ?_ _)); exact BK490.out) hb); have n8_ := Aside0.mk (blk_below (g := gb506) (o := .cells #[.slice Ao50 t499.length co50, .slice Ao54 t502.length co54, .int .i64 t505] 26 (0, 0)) (by (with_reducible repeat (first | refine blk_drewN ?_ _ | refine blk_drew ?_ | refine blk_alloc ?_ _)); refine blk_put (cs := #[.slice Ao50 t499.length co50, .slice Ao54 t502.length co54, .int .i64 0]) ?_ 2 _ rfl; (with_reducible repeat (first | refine blk_drewN ?_ _ | refine blk_drew ?_ | refine blk_alloc ?_ _)); refine blk_put (cs := #[.slice Ao50 t499.length co50, .slice none 0 0, .int .i64 0]) ?_ 1 _ rfl; (with_reducible repeat (first | refine blk_drewN ?_ _ | refine blk_drew ?_ | refine blk_alloc ?_ _)); refine blk_put (cs := #[.slice none 0 0, .slice none 0 0, .int .i64 0]) ?_ 0 _ rfl; (with_reducible repeat (first | refine blk_drewN ?_ _ | refine blk_drew ?_ | refine blk_alloc ?_ _)); exact BK506.out) hb); have n9_ := Aside0.mk (below_step (by repeat (first | (with_reducible first | exact HB.out | apply below_alloc | apply pw_below_drewN | apply below_drew1 | refine below_set ?_ GE484.out | refine below_set ?_ GE490.out | refine below_set ?_ GE506.out) | exact HB.out)) hb); clear HO_485000; clear HO_485001; clear HO_491000; clear HO_491001; clear HO501; clear HO504; clear BK484; clear BK490; clear BK506; clear HB; have HO_485000 := n0_; have HO_485001 := n1_; have HO_491000 := n2_; have HO_491001 := n3_; have HO501 := n4_; have HO504 := n5_; have BK484 := n6_; have BK490 := n7_; have BK506 := n8_; have HB := n9_; clear n0_ n1_ n2_ n3_ n4_ n5_ n6_ n7_ n8_ n9_; (try clear hb); (try clear hb2); (try clear hk); (try clear hi); have hcz57_0 : w56.cell? ⟨gb490, 0, none⟩ = some (.slice Ao46 x491000_3.length co46) := (blk_cell BK490.out 0).trans rfl; have hcz57_1 : w56.cell? ⟨gb490, 1, none⟩ = some (.slice Ao47 x491001_3.length co47) := (blk_cell BK490.out 1).trans rfl; have hcz57_2 : w56.cell? ⟨gb490, 2, none⟩ = some (.int .i64 x491002_3) := (blk_cell BK490.out 2).trans rfl; have hfz57_0 := blk_frozen BK490.out 0; have hfz57_1 := blk_frozen BK490.out 1; have hfz57_2 := blk_frozen BK490.out 2; have hcz58_0 : w56.cell? ⟨gb506, 0, none⟩ = some (.slice Ao50 t499.length co50) := (blk_cell BK506.out 0).trans rfl; have hcz58_1 : w56.cell? ⟨gb506, 1, none⟩ = some (.slice Ao54 t502.length co54) := (blk_cell BK506.out 1).trans rfl; have hcz58_2 : w56.cell? ⟨gb506, 2, none⟩ = some (.int .i64 t505) := (blk_cell BK506.out 2).trans rfl; have hfz58_0 := blk_frozen BK506.out 0; have hfz58_1 := blk_frozen BK506.out 1; have hfz58_2 := blk_frozen BK506.out 2))
                              go_roundg k3
                              case measure => have := HJ2.out; have := HJ6.out; have := HK3.out; omega
                              case rel => exact ⟨(wrap64 (x7_3 + 1)), (t499), (t502), (t505), (.slice Ao50 t499.length co50), (.slice Ao54 t502.length co54), (by first | rfl | (simp; done) | (simp [*]; done)), H', ⟨by have := HJ2.out; have := HJ6.out; have := HK3.out; omega⟩, ⟨by (with_reducible repeat (first | apply Kd.Q_alloc | apply Kd.Q_drewN | apply Kd.Q_drew)); exact Kd.Q_mono (Kd.Q_far (p := ⟨gb490, 2, none⟩) (Kd.Q_far (p := ⟨gb490, 1, none⟩) (Kd.Q_far (p := ⟨gb490, 0, none⟩) (Kd.Q_types HO_485000.out BK490.out (by decide)) (fun _ hk => hk.2) (.slice Ao50 t499.length co50)) (fun _ hk => hk.2) (.slice Ao54 t502.length co54)) (fun _ hk => hk.2) (.int .i64 t505)) (fun _ hk => by first | exact hk.1.2 | trivial)⟩, ⟨by (with_reducible repeat (first | apply Kd.R_alloc | apply Kd.R_drewN | apply Kd.R_drew)); exact Kd.R_mono (Kd.R_far (p := ⟨gb490, 2, none⟩) (Kd.R_far (p := ⟨gb490, 1, none⟩) (Kd.R_far (p := ⟨gb490, 0, none⟩) (Kd.R_types HO_485001.out BK490.out (by decide)) (fun _ hk => hk.2) (.slice Ao50 t499.length co50)) (fun _ hk => hk.2) (.slice Ao54 t502.length co54)) (fun _ hk => hk.2) (.int .i64 t505)) (fun _ hk => by first | exact hk.1.2 | trivial)⟩, ⟨Kd.Q_of_R (by (with_reducible repeat (first | apply Kd.R_alloc | apply Kd.R_drewN | apply Kd.R_drew)); exact Kd.R_mono (Kd.R_far (p := ⟨gb490, 2, none⟩) (Kd.R_far (p := ⟨gb490, 1, none⟩) (Kd.R_far (p := ⟨gb490, 0, none⟩) (Kd.R_types HO501.out BK490.out (by decide)) (fun _ hk => hk.2) (.slice Ao50 t499.length co50)) (fun _ hk => hk.2) (.slice Ao54 t502.length co54)) (fun _ hk => hk.2) (.int .i64 t505)) (fun _ hk => by first | exact hk.1.1.2 | trivial))⟩, ⟨by (with_reducible repeat (first | apply Kd.R_alloc | apply Kd.R_drewN | apply Kd.R_drew)); exact Kd.R_mono (Kd.R_far (p := ⟨gb490, 2, none⟩) (Kd.R_far (p := ⟨gb490, 1, none⟩) (Kd.R_far (p := ⟨gb490, 0, none⟩) (Kd.R_types HO504.out BK490.out (by decide)) (fun _ hk => hk.2) (.slice Ao50 t499.length co50)) (fun _ hk => hk.2) (.slice Ao54 t502.length co54)) (fun _ hk => hk.2) (.int .i64 t505)) (fun _ hk => by first | exact hk.1.1.2 | trivial)⟩, ⟨by (with_reducible repeat (first | refine blk_drewN ?_ _ | refine blk_drew ?_ | refine blk_alloc ?_ _)); refine blk_far ?_ NB484_490.out _; (with_reducible repeat (first | refine blk_drewN ?_ _ | refine blk_drew ?_ | refine blk_alloc ?_ _)); refine blk_far ?_ NB484_490.out _; (with_reducible repeat (first | refine blk_drewN ?_ _ | refine blk_drew ?_ | refine blk_alloc ?_ _)); refine blk_far ?_ NB484_490.out _; (with_reducible repeat (first | refine blk_drewN ?_ _ | refine blk_drew ?_ | refine blk_alloc ?_ _)); exact BK484.out⟩, ⟨by (with_reducible repeat (first | refine blk_drewN ?_ _ | refine blk_drew ?_ | refine blk_alloc ?_ _)); refine blk_put (cs := #[.slice Ao50 t499.length co50, .slice Ao54 t502.length co54, .int .i64 x491002_3]) ?_ 2 _ rfl; (with_reducible repeat (first | refine blk_drewN ?_ _ | refine blk_drew ?_ | refine blk_alloc ?_ _)); refine blk_put (cs := #[.slice Ao50 t499.length co50, .slice Ao47 x491001_3.length co47, .int .i64 x491002_3]) ?_ 1 _ rfl; (with_reducible repeat (first | refine blk_drewN ?_ _ | refine blk_drew ?_ | refine blk_alloc ?_ _)); refine blk_put (cs := #[.slice Ao46 x491000_3.length co46, .slice Ao47 x491001_3.length co47, .int .i64 x491002_3]) ?_ 0 _ rfl; (with_reducible repeat (first | refine blk_drewN ?_ _ | refine blk_drew ?_ | refine blk_alloc ?_ _)); exact BK490.out⟩, ⟨by repeat (first | (with_reducible first | exact HB.out | apply below_alloc | apply pw_below_drewN | apply below_drew1 | refine below_set ?_ GE484.out | refine below_set ?_ GE490.out | refine below_set ?_ GE506.out) | exact HB.out)⟩⟩
                            · rw [if_neg c43] at H
                              have c43b0 : ((t502.length : Int) == (wrap64 ((x491001_3.length : Int) + 1))) = false := beq_eq_false_iff_ne.mpr c43
                              have c43b1 : ((t502.length : Int) != (wrap64 ((x491001_3.length : Int) + 1))) = true := bne_iff_ne.mpr c43
                              exact absurd ((Option.some.inj H).trans HTru_.out) (by decide)
                          · rw [if_neg c42] at H
                            have c42b0 : (t505 == (wrap64 (x491002_3 - 1))) = false := beq_eq_false_iff_ne.mpr c42
                            have c42b1 : (t505 != (wrap64 (x491002_3 - 1))) = true := bne_iff_ne.mpr c42
                            exact absurd ((Option.some.inj H).trans HTru_.out) (by decide)
                        · rw [if_neg c41] at H
                          have c41b0 : decide (0 < x491002_3) = false := decide_eq_false c41
                          clear c41
                          have H' := Aside0.mk H
                          clear H
                          have hnb59 := NB490_484.out
                          have hnc59 := NB484_490.out
                          have hcz60_0 : wr.cell? ⟨gb490, 0, none⟩ = some (u491000) := (blk_cell BK490.out 0).trans rfl
                          have hcz60_1 : wr.cell? ⟨gb490, 1, none⟩ = some (u491001) := (blk_cell BK490.out 1).trans rfl
                          have hcz60_2 : wr.cell? ⟨gb490, 2, none⟩ = some (.int .i64 x491002_3) := (blk_cell BK490.out 2).trans rfl
                          have hfz60_0 := blk_frozen BK490.out 0
                          have hfz60_1 := blk_frozen BK490.out 1
                          have hfz60_2 := blk_frozen BK490.out 2
                          obtain ⟨Ao61, co61, eo61, _⟩ := Kd.Q_slice HO_491000.out
                          subst eo61
                          obtain ⟨Ao62, co62, eo62⟩ := Kd.R_slice HO_491001.out
                          subst eo62
                          go_wp2_with (first | ((with_reducible refine gate_callee (f := 26) rfl ?_); refine goesL_ (some 45) rfl rfl Try.func26 (by kernel_rfl) rfl #[.agg #[.slice Ao61 x491000_3.length co61, .slice Ao62 x491001_3.length co62, .int .i64 x491002_3], .int .i64 x7_3, .string (⟨#[119]⟩ : ByteArray)] rfl (by (try simp only [List.map_toArray, List.map_cons, List.map_nil]); first | done | rfl | (simp only [List.length_drop, List.length_take]; rfl)) ?_; (with_reducible refine (impl_DiskWrite.calls k3 _ _ x491000_3 _ _ x491001_3 x491002_3 x7_3 (⟨#[119]⟩ : ByteArray) t499 t502 t505 _ ?side1 ?side2 ?side3 ?side4 A37.out).mono ?_); (case side1 => repeat (first | exact (Kd.Q_reads' HO_491000.out).2.2 | (with_reducible refine Kd.C_alloc ?_ _) | (with_reducible refine Kd.C_drewN ?_ _) | (with_reducible refine Kd.C_drew ?_))); (case side2 => exact (Kd.Q_reads' HO_491000.out).2.1); (case side3 => repeat (first | exact (Kd.R_reads' HO_491001.out).2.2 | (with_reducible refine Kd.C_alloc ?_ _) | (with_reducible refine Kd.C_drewN ?_ _) | (with_reducible refine Kd.C_drew ?_))); (case side4 => exact (Kd.R_reads' HO_491001.out).2.1); rintro e w63 ⟨v500, v503, rfl, ho0, ho1, hb⟩; refine ⟨_, rfl, ?_⟩; have n0_ := Aside0.mk (Kd.Q_elder' (by (with_reducible repeat (first | apply Kd.Q_alloc | apply Kd.Q_drewN | apply Kd.Q_drew)); exact HO_485000.out) (Kd.R_base ho0) hb); have n1_ := Aside0.mk (Kd.R_elder' (by (with_reducible repeat (first | apply Kd.R_alloc | apply Kd.R_drewN | apply Kd.R_drew)); exact HO_485001.out) (Kd.R_base ho1) hb); have n2_ := Aside0.mk (Kd.Q_elder' (by (with_reducible repeat (first | apply Kd.Q_alloc | apply Kd.Q_drewN | apply Kd.Q_drew)); exact HO_491000.out) (Kd.R_base ho0) hb); have n3_ := Aside0.mk (Kd.R_elder' (by (with_reducible repeat (first | apply Kd.R_alloc | apply Kd.R_drewN | apply Kd.R_drew)); exact HO_491001.out) (Kd.R_base ho1) hb); have n4_ := Aside0.mk (Kd.R_lower (Kd.R_new' (Kd.R_new' ho0 (Kd.Q_lt (by (with_reducible repeat (first | apply Kd.Q_alloc | apply Kd.Q_drewN | apply Kd.Q_drew)); exact HO_485000.out))) (Kd.Q_lt (by (with_reducible repeat (first | apply Kd.Q_alloc | apply Kd.Q_drewN | apply Kd.Q_drew)); exact HO_491000.out))) (below_size (by repeat (first | (with_reducible first | exact HB.out | apply below_alloc | apply pw_below_drewN | apply below_drew1 | refine below_set ?_ GE484.out | refine below_set ?_ GE490.out) | exact HB.out)))); have n5_ := Aside0.mk (Kd.R_lower (Kd.R_new' (Kd.R_new' ho1 (Kd.R_lt (by (with_reducible repeat (first | apply Kd.R_alloc | apply Kd.R_drewN | apply Kd.R_drew)); exact HO_485001.out))) (Kd.R_lt (by (with_reducible repeat (first | apply Kd.R_alloc | apply Kd.R_drewN | apply Kd.R_drew)); exact HO_491001.out))) (below_size (by repeat (first | (with_reducible first | exact HB.out | apply below_alloc | apply pw_below_drewN | apply below_drew1 | refine below_set ?_ GE484.out | refine below_set ?_ GE490.out) | exact HB.out)))); have n6_ := Aside0.mk (blk_below (g := gb484) (o := .cells #[.slice Ao10 t477.length co10, .slice Ao12 t480.length co12, .int .i64 ((l1.length : Int) % 3)] 26 (0, 0)) (by (with_reducible repeat (first | refine blk_drewN ?_ _ | refine blk_drew ?_ | refine blk_alloc ?_ _)); exact BK484.out) hb); have n7_ := Aside0.mk (blk_below (g := gb490) (o := .cells #[.slice Ao61 x491000_3.length co61, .slice Ao62 x491001_3.length co62, .int .i64 x491002_3] 26 (0, 0)) (by (with_reducible repeat (first | refine blk_drewN ?_ _ | refine blk_drew ?_ | refine blk_alloc ?_ _)); exact BK490.out) hb); have n8_ := Aside0.mk (below_step (by repeat (first | (with_reducible first | exact HB.out | apply below_alloc | apply pw_below_drewN | apply below_drew1 | refine below_set ?_ GE484.out | refine below_set ?_ GE490.out) | exact HB.out)) hb); clear HO_485000; clear HO_485001; clear HO_491000; clear HO_491001; clear BK484; clear BK490; clear HB; have HO_485000 := n0_; have HO_485001 := n1_; have HO_491000 := n2_; have HO_491001 := n3_; have HO501 := n4_; have HO504 := n5_; have BK484 := n6_; have BK490 := n7_; have HB := n8_; clear n0_ n1_ n2_ n3_ n4_ n5_ n6_ n7_ n8_; (try clear hb); (try clear hb2); (try clear hk); (try clear hi); (try clear ho0); (try clear ho1)) | ((with_reducible refine gate_dst (N := 8) rfl ?_); (try (refine gate_guard (by rfl) ?_; dsimp only)); refine box_event ?hg (N := 8) ?hd (cs := #[.slice none 0 0, .slice none 0 0, .int .i64 0]) (t := 26) ?hr ?_; (case hd => rfl); (case hg => rfl); (case hr => first | (go_simp; done) | (go_simp; rfl)); intro gb506 hg w64 hbox hb; have n0_ := Aside0.mk (Kd.Q_below (by (with_reducible repeat (first | apply Kd.Q_alloc | apply Kd.Q_drewN | apply Kd.Q_drew)); exact HO_485000.out) hb); have n1_ := Aside0.mk (Kd.R_below (by (with_reducible repeat (first | apply Kd.R_alloc | apply Kd.R_drewN | apply Kd.R_drew)); exact HO_485001.out) hb); have n2_ := Aside0.mk (Kd.Q_below (by (with_reducible repeat (first | apply Kd.Q_alloc | apply Kd.Q_drewN | apply Kd.Q_drew)); exact HO_491000.out) hb); have n3_ := Aside0.mk (Kd.R_below (by (with_reducible repeat (first | apply Kd.R_alloc | apply Kd.R_drewN | apply Kd.R_drew)); exact HO_491001.out) hb); have n4_ := Aside0.mk (Kd.R_below (by (with_reducible repeat (first | apply Kd.R_alloc | apply Kd.R_drewN | apply Kd.R_drew)); exact HO501.out) hb); have n5_ := Aside0.mk (Kd.R_below (by (with_reducible repeat (first | apply Kd.R_alloc | apply Kd.R_drewN | apply Kd.R_drew)); exact HO504.out) hb); have n6_ := Aside0.mk (blk_below (g := gb484) (o := .cells #[.slice Ao10 t477.length co10, .slice Ao12 t480.length co12, .int .i64 ((l1.length : Int) % 3)] 26 (0, 0)) (by (with_reducible repeat (first | refine blk_drewN ?_ _ | refine blk_drew ?_ | refine blk_alloc ?_ _)); exact BK484.out) hb); have n7_ := Aside0.mk (blk_below (g := gb490) (o := .cells #[.slice Ao61 x491000_3.length co61, .slice Ao62 x491001_3.length co62, .int .i64 x491002_3] 26 (0, 0)) (by (with_reducible repeat (first | refine blk_drewN ?_ _ | refine blk_drew ?_ | refine blk_alloc ?_ _)); exact BK490.out) hb); have n8_ := Aside0.mk (below_step (by repeat (first | (with_reducible first | exact HB.out | apply below_alloc | apply pw_below_drewN | apply below_drew1 | refine below_set ?_ GE484.out | refine below_set ?_ GE490.out) | exact HB.out)) hb); have n9_ := Aside0.mk (hbox); have n10_ := Aside0.mk ((by rw [hg]; exact (below_size (by repeat (first | (with_reducible first | exact HB.out | apply below_alloc | apply pw_below_drewN | apply below_drew1 | refine below_set ?_ GE484.out | refine below_set ?_ GE490.out) | exact HB.out))) : w.heap.size ≤ gb506)); have n11_ := Aside0.mk ((by rw [hg]; exact (below_size (by repeat (first | (with_reducible first | exact HB.out | apply below_alloc | apply pw_below_drewN | apply below_drew1 | refine below_set ?_ GE484.out | refine below_set ?_ GE490.out) | exact HB.out))) : w.heap.size ≤ gb506)); have n12_ := Aside0.mk ((by rw [hg]; exact Nat.ne_of_lt (blk_lt (g := gb484) (o := .cells #[.slice Ao10 t477.length co10, .slice Ao12 t480.length co12, .int .i64 ((l1.length : Int) % 3)] 26 (0, 0)) (by (with_reducible repeat (first | refine blk_drewN ?_ _ | refine blk_drew ?_ | refine blk_alloc ?_ _)); exact BK484.out)) : gb484 ≠ gb506)); have n13_ := Aside0.mk ((by rw [hg]; exact Nat.ne_of_gt (blk_lt (g := gb484) (o := .cells #[.slice Ao10 t477.length co10, .slice Ao12 t480.length co12, .int .i64 ((l1.length : Int) % 3)] 26 (0, 0)) (by (with_reducible repeat (first | refine blk_drewN ?_ _ | refine blk_drew ?_ | refine blk_alloc ?_ _)); exact BK484.out)) : gb506 ≠ gb484)); have n14_ := Aside0.mk ((by rw [hg]; exact Nat.ne_of_lt (blk_lt (g := gb490) (o := .cells #[.slice Ao61 x491000_3.length co61, .slice Ao62 x491001_3.length co62, .int .i64 x491002_3] 26 (0, 0)) (by (with_reducible repeat (first | refine blk_drewN ?_ _ | refine blk_drew ?_ | refine blk_alloc ?_ _)); exact BK490.out)) : gb490 ≠ gb506)); have n15_ := Aside0.mk ((by rw [hg]; exact Nat.ne_of_gt (blk_lt (g := gb490) (o := .cells #[.slice Ao61 x491000_3.length co61, .slice Ao62 x491001_3.length co62, .int .i64 x491002_3] 26 (0, 0)) (by (with_reducible repeat (first | refine blk_drewN ?_ _ | refine blk_drew ?_ | refine blk_alloc ?_ _)); exact BK490.out)) : gb506 ≠ gb490)); clear HO_485000; clear HO_485001; clear HO_491000; clear HO_491001; clear HO501; clear HO504; clear BK484; clear BK490; clear HB; have HO_485000 := n0_; have HO_485001 := n1_; have HO_491000 := n2_; have HO_491001 := n3_; have HO501 := n4_; have HO504 := n5_; have BK484 := n6_; have BK490 := n7_; have HB := n8_; have BK506 := n9_; have GW506 := n10_; have GE506 := n11_; have NB484_506 := n12_; have NB506_484 := n13_; have NB490_506 := n14_; have NB506_490 := n15_; clear n0_ n1_ n2_ n3_ n4_ n5_ n6_ n7_ n8_ n9_ n10_ n11_ n12_ n13_ n14_ n15_; clear hb hbox hg; obtain ⟨Ao65, co65, eo65⟩ := Kd.R_slice HO501.out; subst eo65; have hnb66 := NB506_484.out; have hnc66 := NB484_506.out; have hnb67 := NB506_490.out; have hnc67 := NB490_506.out; have hcz68_0 : w64.cell? ⟨gb506, 0, none⟩ = some (.slice none 0 0) := (blk_cell BK506.out 0).trans rfl; have hcz68_1 : w64.cell? ⟨gb506, 1, none⟩ = some (.slice none 0 0) := (blk_cell BK506.out 1).trans rfl; have hcz68_2 : w64.cell? ⟨gb506, 2, none⟩ = some (.int .i64 0) := (blk_cell BK506.out 2).trans rfl; have hfz68_0 := blk_frozen BK506.out 0; have hfz68_1 := blk_frozen BK506.out 1; have hfz68_2 := blk_frozen BK506.out 2; obtain ⟨Ao69, co69, eo69⟩ := Kd.R_slice HO504.out; subst eo69; have hcz70_0 : w64.cell? ⟨gb490, 0, none⟩ = some (.slice Ao61 x491000_3.length co61) := (blk_cell BK490.out 0).trans rfl; have hcz70_1 : w64.cell? ⟨gb490, 1, none⟩ = some (.slice Ao62 x491001_3.length co62) := (blk_cell BK490.out 1).trans rfl; have hcz70_2 : w64.cell? ⟨gb490, 2, none⟩ = some (.int .i64 x491002_3) := (blk_cell BK490.out 2).trans rfl; have hfz70_0 := blk_frozen BK490.out 0; have hfz70_1 := blk_frozen BK490.out 1; have hfz70_2 := blk_frozen BK490.out 2) | (go_at_call 27; (with_reducible refine (laws_wmDisk.calls k3 _ _ t499 _ _ t502 t505 _ _ x491000_3 _ _ x491001_3 x491002_3 true _ ?side1 ?side2 ?side3 ?side4 ?side5 ?side6 ?side7 ?side8 A39.out).mono ?_); (case side1 => refine (Kd.R_reads' (e := 9) (base := w.heap.size) (ok := fun k_ => ((True ∧ some k_ ≠ (.slice Ao10 t477.length co10 : Value).ownBlock) ∧ some k_ ≠ (.slice Ao61 x491000_3.length co61 : Value).ownBlock)) (n := t499.length) (c := co65) ?_).2.2; exact (by (with_reducible repeat (first | apply Kd.R_alloc | apply Kd.R_drewN | apply Kd.R_drew)); exact (Kd.R_mono (Kd.R_far (p := ⟨gb506, 2, none⟩) (Kd.R_far (p := ⟨gb506, 1, none⟩) (Kd.R_far (p := ⟨gb506, 0, none⟩) (Kd.R_types HO501.out BK506.out (by decide)) (fun _ hk => hk.2) (.slice Ao65 t499.length co65)) (fun _ hk => hk.2) (.slice Ao69 t502.length co69)) (fun _ hk => hk.2) (.int .i64 t505)) (fun _ h_ => h_.1)))); (case side2 => exact (Kd.R_reads' HO501.out).2.1); (case side3 => refine (Kd.R_reads' (e := 48) (base := w.heap.size) (ok := fun k_ => ((True ∧ some k_ ≠ (.slice Ao12 t480.length co12 : Value).ownBlock) ∧ some k_ ≠ (.slice Ao62 x491001_3.length co62 : Value).ownBlock)) (n := t502.length) (c := co69) ?_).2.2; exact (by (with_reducible repeat (first | apply Kd.R_alloc | apply Kd.R_drewN | apply Kd.R_drew)); exact (Kd.R_mono (Kd.R_far (p := ⟨gb506, 2, none⟩) (Kd.R_far (p := ⟨gb506, 1, none⟩) (Kd.R_far (p := ⟨gb506, 0, none⟩) (Kd.R_types HO504.out BK506.out (by decide)) (fun _ hk => hk.2) (.slice Ao65 t499.length co65)) (fun _ hk => hk.2) (.slice Ao69 t502.length co69)) (fun _ hk => hk.2) (.int .i64 t505)) (fun _ h_ => h_.1)))); (case side4 => exact (Kd.R_reads' HO504.out).2.1); (case side5 => refine (Kd.Q_reads' (e := 9) (base := w.heap.size) (ok := fun k_ => (True ∧ some k_ ≠ (.slice Ao65 t499.length co65 : Value).ownBlock)) (n := x491000_3.length) (c := co61) ?_).2.2; exact (by (with_reducible repeat (first | apply Kd.Q_alloc | apply Kd.Q_drewN | apply Kd.Q_drew)); exact (Kd.Q_mono (Kd.Q_far (p := ⟨gb506, 2, none⟩) (Kd.Q_far (p := ⟨gb506, 1, none⟩) (Kd.Q_far (p := ⟨gb506, 0, none⟩) (Kd.Q_types HO_491000.out BK506.out (by decide)) (fun _ hk => hk.2) (.slice Ao65 t499.length co65)) (fun _ hk => hk.2) (.slice Ao69 t502.length co69)) (fun _ hk => hk.2) (.int .i64 t505)) (fun _ h_ => h_.1)))); (case side6 => exact (Kd.Q_reads' HO_491000.out).2.1); (case side7 => refine (Kd.R_reads' (e := 48) (base := w.heap.size) (ok := fun k_ => (True ∧ some k_ ≠ (.slice Ao69 t502.length co69 : Value).ownBlock)) (n := x491001_3.length) (c := co62) ?_).2.2; exact (by (with_reducible repeat (first | apply Kd.R_alloc | apply Kd.R_drewN | apply Kd.R_drew)); exact (Kd.R_mono (Kd.R_far (p := ⟨gb506, 2, none⟩) (Kd.R_far (p := ⟨gb506, 1, none⟩) (Kd.R_far (p := ⟨gb506, 0, none⟩) (Kd.R_types HO_491001.out BK506.out (by decide)) (fun _ hk => hk.2) (.slice Ao65 t499.length co65)) (fun _ hk => hk.2) (.slice Ao69 t502.length co69)) (fun _ hk => hk.2) (.int .i64 t505)) (fun _ h_ => h_.1)))); (case side8 => exact (Kd.R_reads' HO_491001.out).2.1); rintro e w71 ⟨rfl, hb⟩; have n0_ := Aside0.mk (Kd.Q_below (by (with_reducible repeat (first | apply Kd.Q_alloc | apply Kd.Q_drewN | apply Kd.Q_drew)); exact (Kd.Q_mono (Kd.Q_far (p := ⟨gb506, 2, none⟩) (Kd.Q_far (p := ⟨gb506, 1, none⟩) (Kd.Q_far (p := ⟨gb506, 0, none⟩) (Kd.Q_types HO_485000.out BK506.out (by decide)) (fun _ hk => hk.2) (.slice Ao65 t499.length co65)) (fun _ hk => hk.2) (.slice Ao69 t502.length co69)) (fun _ hk => hk.2) (.int .i64 t505)) (fun _ h_ => h_.1))) hb); have n1_ := Aside0.mk (Kd.R_below (by (with_reducible repeat (first | apply Kd.R_alloc | apply Kd.R_drewN | apply Kd.R_drew)); exact (Kd.R_mono (Kd.R_far (p := ⟨gb506, 2, none⟩) (Kd.R_far (p := ⟨gb506, 1, none⟩) (Kd.R_far (p := ⟨gb506, 0, none⟩) (Kd.R_types HO_485001.out BK506.out (by decide)) (fun _ hk => hk.2) (.slice Ao65 t499.length co65)) (fun _ hk => hk.2) (.slice Ao69 t502.length co69)) (fun _ hk => hk.2) (.int .i64 t505)) (fun _ h_ => h_.1))) hb); have n2_ := Aside0.mk (Kd.Q_below (by (with_reducible repeat (first | apply Kd.Q_alloc | apply Kd.Q_drewN | apply Kd.Q_drew)); exact (Kd.Q_mono (Kd.Q_far (p := ⟨gb506, 2, none⟩) (Kd.Q_far (p := ⟨gb506, 1, none⟩) (Kd.Q_far (p := ⟨gb506, 0, none⟩) (Kd.Q_types HO_491000.out BK506.out (by decide)) (fun _ hk => hk.2) (.slice Ao65 t499.length co65)) (fun _ hk => hk.2) (.slice Ao69 t502.length co69)) (fun _ hk => hk.2) (.int .i64 t505)) (fun _ h_ => h_.1))) hb); have n3_ := Aside0.mk (Kd.R_below (by (with_reducible repeat (first | apply Kd.R_alloc | apply Kd.R_drewN | apply Kd.R_drew)); exact (Kd.R_mono (Kd.R_far (p := ⟨gb506, 2, none⟩) (Kd.R_far (p := ⟨gb506, 1, none⟩) (Kd.R_far (p := ⟨gb506, 0, none⟩) (Kd.R_types HO_491001.out BK506.out (by decide)) (fun _ hk => hk.2) (.slice Ao65 t499.length co65)) (fun _ hk => hk.2) (.slice Ao69 t502.length co69)) (fun _ hk => hk.2) (.int .i64 t505)) (fun _ h_ => h_.1))) hb); have n4_ := Aside0.mk (Kd.R_below (by (with_reducible repeat (first | apply Kd.R_alloc | apply Kd.R_drewN | apply Kd.R_drew)); exact (Kd.R_mono (Kd.R_far (p := ⟨gb506, 2, none⟩) (Kd.R_far (p := ⟨gb506, 1, none⟩) (Kd.R_far (p := ⟨gb506, 0, none⟩) (Kd.R_types HO501.out BK506.out (by decide)) (fun _ hk => hk.2) (.slice Ao65 t499.length co65)) (fun _ hk => hk.2) (.slice Ao69 t502.length co69)) (fun _ hk => hk.2) (.int .i64 t505)) (fun _ h_ => h_.1))) hb); have n5_ := Aside0.mk (Kd.R_below (by (with_reducible repeat (first | apply Kd.R_alloc | apply Kd.R_drewN | apply Kd.R_drew)); exact (Kd.R_mono (Kd.R_far (p := ⟨gb506, 2, none⟩) (Kd.R_far (p := ⟨gb506, 1, none⟩) (Kd.R_far (p := ⟨gb506, 0, none⟩) (Kd.R_types HO504.out BK506.out (by decide)) (fun _ hk => hk.2) (.slice Ao65 t499.length co65)) (fun _ hk => hk.2) (.slice Ao69 t502.length co69)) (fun _ hk => hk.2) (.int .i64 t505)) (fun _ h_ => h_.1))) hb); have n6_ := Aside0.mk (blk_below (g := gb484) (o := .cells #[.slice Ao10 t477.length co10, .slice Ao12 t480.length co12, .int .i64 ((l1.length : Int) % 3)] 26 (0, 0)) (by (with_reducible repeat (first | refine blk_drewN ?_ _ | refine blk_drew ?_ | refine blk_alloc ?_ _)); refine blk_far ?_ NB484_506.out _; (with_reducible repeat (first | refine blk_drewN ?_ _ | refine blk_drew ?_ | refine blk_alloc ?_ _)); refine blk_far ?_ NB484_506.out _; (with_reducible repeat (first | refine blk_drewN ?_ _ | refine blk_drew ?_ | refine blk_alloc ?_ _)); refine blk_far ?_ NB484_506.out _; (with_reducible repeat (first | refine blk_drewN ?_ _ | refine blk_drew ?_ | refine blk_alloc ?_ _)); exact BK484.out) hb); have n7_ := Aside0.mk (blk_below (g := gb490) (o := .cells #[.slice Ao61 x491000_3.length co61, .slice Ao62 x491001_3.length co62, .int .i64 x491002_3] 26 (0, 0)) (by (with_reducible repeat (first | refine blk_drewN ?_ _ | refine blk_drew ?_ | refine blk_alloc ?_ _)); refine blk_far ?_ NB490_506.out _; (with_reducible repeat (first | refine blk_drewN ?_ _ | refine blk_drew ?_ | refine blk_alloc ?_ _)); refine blk_far ?_ NB490_506.out _; (with_reducible repeat (first | refine blk_drewN ?_ _ | refine blk_drew ?_ | refine blk_alloc ?_ _)); refine blk_far ?_ NB490_506.out _; (with_reducible repeat (first | refine blk_drewN ?_ _ | refine blk_drew ?_ | refine blk_alloc ?_ _)); exact BK490.out) hb); have n8_ := Aside0.mk (blk_below (g := gb506) (o := .cells #[.slice Ao65 t499.length co65, .slice Ao69 t502.length co69, .int .i64 t505] 26 (0, 0)) (by (with_reducible repeat (first | refine blk_drewN ?_ _ | refine blk_drew ?_ | refine blk_alloc ?_ _)); refine blk_put (cs := #[.slice Ao65 t499.length co65, .slice Ao69 t502.length co69, .int .i64 0]) ?_ 2 _ rfl; (with_reducible repeat (first | refine blk_drewN ?_ _ | refine blk_drew ?_ | refine blk_alloc ?_ _)); refine blk_put (cs := #[.slice Ao65 t499.length co65, .slice none 0 0, .int .i64 0]) ?_ 1 _ rfl; (with_reducible repeat (first | refine blk_drewN ?_ _ | refine blk_drew ?_ | refine blk_alloc ?_ _)); refine blk_put (cs := #[.slice none 0 0, .slice none 0 0, .int .i64 0]) ?_ 0 _ rfl; (with_reducible repeat (first | refine blk_drewN ?_ _ | refine blk_drew ?_ | refine blk_alloc ?_ _)); exact BK506.out) hb); have n9_ := Aside0.mk (below_step (by repeat (first | (with_reducible first | exact HB.out | apply below_alloc | apply pw_below_drewN | apply below_drew1 | refine below_set ?_ GE484.out | refine below_set ?_ GE490.out | refine below_set ?_ GE506.out) | exact HB.out)) hb); clear HO_485000; clear HO_485001; clear HO_491000; clear HO_491001; clear HO501; clear HO504; clear BK484; clear BK490; clear BK506; clear HB; have HO_485000 := n0_; have HO_485001 := n1_; have HO_491000 := n2_; have HO_491001 := n3_; have HO501 := n4_; have HO504 := n5_; have BK484 := n6_; have BK490 := n7_; have BK506 := n8_; have HB := n9_; clear n0_ n1_ n2_ n3_ n4_ n5_ n6_ n7_ n8_ n9_; (try clear hb); (try clear hb2); (try clear hk); (try clear hi); have hcz72_0 : w71.cell? ⟨gb490, 0, none⟩ = some (.slice Ao61 x491000_3.length co61) := (blk_cell BK490.out 0).trans rfl; have hcz72_1 : w71.cell? ⟨gb490, 1, none⟩ = some (.slice Ao62 x491001_3.length co62) := (blk_cell BK490.out 1).trans rfl; have hcz72_2 : w71.cell? ⟨gb490, 2, none⟩ = some (.int .i64 x491002_3) := (blk_cell BK490.out 2).trans rfl; have hfz72_0 := blk_frozen BK490.out 0; have hfz72_1 := blk_frozen BK490.out 1; have hfz72_2 := blk_frozen BK490.out 2; have hcz73_0 : w71.cell? ⟨gb506, 0, none⟩ = some (.slice Ao65 t499.length co65) := (blk_cell BK506.out 0).trans rfl; have hcz73_1 : w71.cell? ⟨gb506, 1, none⟩ = some (.slice Ao69 t502.length co69) := (blk_cell BK506.out 1).trans rfl; have hcz73_2 : w71.cell? ⟨gb506, 2, none⟩ = some (.int .i64 t505) := (blk_cell BK506.out 2).trans rfl; have hfz73_0 := blk_frozen BK506.out 0; have hfz73_1 := blk_frozen BK506.out 1; have hfz73_2 := blk_frozen BK506.out 2))
                          go_roundg k3
                          case measure => have := HJ2.out; have := HJ6.out; have := HK3.out; omega
                          case rel => exact ⟨(wrap64 (x7_3 + 1)), (t499), (t502), (t505), (.slice Ao65 t499.length co65), (.slice Ao69 t502.length co69), (by first | rfl | (simp; done) | (simp [*]; done)), H', ⟨by have := HJ2.out; have := HJ6.out; have := HK3.out; omega⟩, ⟨by (with_reducible repeat (first | apply Kd.Q_alloc | apply Kd.Q_drewN | apply Kd.Q_drew)); exact Kd.Q_mono (Kd.Q_far (p := ⟨gb490, 2, none⟩) (Kd.Q_far (p := ⟨gb490, 1, none⟩) (Kd.Q_far (p := ⟨gb490, 0, none⟩) (Kd.Q_types HO_485000.out BK490.out (by decide)) (fun _ hk => hk.2) (.slice Ao65 t499.length co65)) (fun _ hk => hk.2) (.slice Ao69 t502.length co69)) (fun _ hk => hk.2) (.int .i64 t505)) (fun _ hk => by first | exact hk.1.2 | trivial)⟩, ⟨by (with_reducible repeat (first | apply Kd.R_alloc | apply Kd.R_drewN | apply Kd.R_drew)); exact Kd.R_mono (Kd.R_far (p := ⟨gb490, 2, none⟩) (Kd.R_far (p := ⟨gb490, 1, none⟩) (Kd.R_far (p := ⟨gb490, 0, none⟩) (Kd.R_types HO_485001.out BK490.out (by decide)) (fun _ hk => hk.2) (.slice Ao65 t499.length co65)) (fun _ hk => hk.2) (.slice Ao69 t502.length co69)) (fun _ hk => hk.2) (.int .i64 t505)) (fun _ hk => by first | exact hk.1.2 | trivial)⟩, ⟨Kd.Q_of_R (by (with_reducible repeat (first | apply Kd.R_alloc | apply Kd.R_drewN | apply Kd.R_drew)); exact Kd.R_mono (Kd.R_far (p := ⟨gb490, 2, none⟩) (Kd.R_far (p := ⟨gb490, 1, none⟩) (Kd.R_far (p := ⟨gb490, 0, none⟩) (Kd.R_types HO501.out BK490.out (by decide)) (fun _ hk => hk.2) (.slice Ao65 t499.length co65)) (fun _ hk => hk.2) (.slice Ao69 t502.length co69)) (fun _ hk => hk.2) (.int .i64 t505)) (fun _ hk => by first | exact hk.1.1.2 | trivial))⟩, ⟨by (with_reducible repeat (first | apply Kd.R_alloc | apply Kd.R_drewN | apply Kd.R_drew)); exact Kd.R_mono (Kd.R_far (p := ⟨gb490, 2, none⟩) (Kd.R_far (p := ⟨gb490, 1, none⟩) (Kd.R_far (p := ⟨gb490, 0, none⟩) (Kd.R_types HO504.out BK490.out (by decide)) (fun _ hk => hk.2) (.slice Ao65 t499.length co65)) (fun _ hk => hk.2) (.slice Ao69 t502.length co69)) (fun _ hk => hk.2) (.int .i64 t505)) (fun _ hk => by first | exact hk.1.1.2 | trivial)⟩, ⟨by (with_reducible repeat (first | refine blk_drewN ?_ _ | refine blk_drew ?_ | refine blk_alloc ?_ _)); refine blk_far ?_ NB484_490.out _; (with_reducible repeat (first | refine blk_drewN ?_ _ | refine blk_drew ?_ | refine blk_alloc ?_ _)); refine blk_far ?_ NB484_490.out _; (with_reducible repeat (first | refine blk_drewN ?_ _ | refine blk_drew ?_ | refine blk_alloc ?_ _)); refine blk_far ?_ NB484_490.out _; (with_reducible repeat (first | refine blk_drewN ?_ _ | refine blk_drew ?_ | refine blk_alloc ?_ _)); exact BK484.out⟩, ⟨by (with_reducible repeat (first | refine blk_drewN ?_ _ | refine blk_drew ?_ | refine blk_alloc ?_ _)); refine blk_put (cs := #[.slice Ao65 t499.length co65, .slice Ao69 t502.length co69, .int .i64 x491002_3]) ?_ 2 _ rfl; (with_reducible repeat (first | refine blk_drewN ?_ _ | refine blk_drew ?_ | refine blk_alloc ?_ _)); refine blk_put (cs := #[.slice Ao65 t499.length co65, .slice Ao62 x491001_3.length co62, .int .i64 x491002_3]) ?_ 1 _ rfl; (with_reducible repeat (first | refine blk_drewN ?_ _ | refine blk_drew ?_ | refine blk_alloc ?_ _)); refine blk_put (cs := #[.slice Ao61 x491000_3.length co61, .slice Ao62 x491001_3.length co62, .int .i64 x491002_3]) ?_ 0 _ rfl; (with_reducible repeat (first | refine blk_drewN ?_ _ | refine blk_drew ?_ | refine blk_alloc ?_ _)); exact BK490.out⟩, ⟨by repeat (first | (with_reducible first | exact HB.out | apply below_alloc | apply pw_below_drewN | apply below_drew1 | refine below_set ?_ GE484.out | refine below_set ?_ GE490.out | refine below_set ?_ GE506.out) | exact HB.out)⟩⟩
                      · replace c40 := Bool.eq_false_iff.mpr c40
                        subst c40
                        have H1 : (some false) = some r := by rw [if_neg (show ¬ (false = true) by decide)] at H; exact H
                        clear H
                        have H := H1
                        clear H1
                        exact absurd ((Option.some.inj H).trans HTru_.out) (by decide)
                    · rw [if_neg c38] at H
                      have c38b0 : (x491002_3 == 0) = false := beq_eq_false_iff_ne.mpr c38
                      have c38b1 : (x491002_3 != 0) = true := bne_iff_ne.mpr c38
                      by_cases c74 : x491002_3 > 0
                      · rw [if_pos c74] at H
                        have c74b0 : decide (0 < x491002_3) = true := decide_eq_true c74
                        clear c74
                        by_cases c75 : t505 = (wrap64 (x491002_3 - 1))
                        · rw [if_pos c75] at H
                          have c75b0 : (t505 == (wrap64 (x491002_3 - 1))) = true := beq_iff_eq.mpr c75
                          have c75b1 : (t505 != (wrap64 (x491002_3 - 1))) = false := bne_eq_false_iff_eq.mpr c75
                          clear c75
                          by_cases c76 : (t502.length : Int) = (wrap64 ((x491001_3.length : Int) + 1))
                          · rw [if_pos c76] at H
                            have c76b0 : ((t502.length : Int) == (wrap64 ((x491001_3.length : Int) + 1))) = true := beq_iff_eq.mpr c76
                            have c76b1 : ((t502.length : Int) != (wrap64 ((x491001_3.length : Int) + 1))) = false := bne_eq_false_iff_eq.mpr c76
                            clear c76
                            have H' := Aside0.mk H
                            clear H
                            have hnb77 := NB490_484.out
                            have hnc77 := NB484_490.out
                            have hcz78_0 : wr.cell? ⟨gb490, 0, none⟩ = some (u491000) := (blk_cell BK490.out 0).trans rfl
                            have hcz78_1 : wr.cell? ⟨gb490, 1, none⟩ = some (u491001) := (blk_cell BK490.out 1).trans rfl
                            have hcz78_2 : wr.cell? ⟨gb490, 2, none⟩ = some (.int .i64 x491002_3) := (blk_cell BK490.out 2).trans rfl
                            have hfz78_0 := blk_frozen BK490.out 0
                            have hfz78_1 := blk_frozen BK490.out 1
                            have hfz78_2 := blk_frozen BK490.out 2
                            obtain ⟨Ao79, co79, eo79, _⟩ := Kd.Q_slice HO_491000.out
                            subst eo79
                            obtain ⟨Ao80, co80, eo80⟩ := Kd.R_slice HO_491001.out
                            subst eo80
                            go_wp2_with (first | ((with_reducible refine gate_callee (f := 26) rfl ?_); refine goesL_ (some 45) rfl rfl Try.func26 (by kernel_rfl) rfl #[.agg #[.slice Ao79 x491000_3.length co79, .slice Ao80 x491001_3.length co80, .int .i64 x491002_3], .int .i64 x7_3, .string (⟨#[119]⟩ : ByteArray)] rfl (by (try simp only [List.map_toArray, List.map_cons, List.map_nil]); first | done | rfl | (simp only [List.length_drop, List.length_take]; rfl)) ?_; (with_reducible refine (impl_DiskWrite.calls k3 _ _ x491000_3 _ _ x491001_3 x491002_3 x7_3 (⟨#[119]⟩ : ByteArray) t499 t502 t505 _ ?side1 ?side2 ?side3 ?side4 A37.out).mono ?_); (case side1 => repeat (first | exact (Kd.Q_reads' HO_491000.out).2.2 | (with_reducible refine Kd.C_alloc ?_ _) | (with_reducible refine Kd.C_drewN ?_ _) | (with_reducible refine Kd.C_drew ?_))); (case side2 => exact (Kd.Q_reads' HO_491000.out).2.1); (case side3 => repeat (first | exact (Kd.R_reads' HO_491001.out).2.2 | (with_reducible refine Kd.C_alloc ?_ _) | (with_reducible refine Kd.C_drewN ?_ _) | (with_reducible refine Kd.C_drew ?_))); (case side4 => exact (Kd.R_reads' HO_491001.out).2.1); rintro e w81 ⟨v500, v503, rfl, ho0, ho1, hb⟩; refine ⟨_, rfl, ?_⟩; have n0_ := Aside0.mk (Kd.Q_elder' (by (with_reducible repeat (first | apply Kd.Q_alloc | apply Kd.Q_drewN | apply Kd.Q_drew)); exact HO_485000.out) (Kd.R_base ho0) hb); have n1_ := Aside0.mk (Kd.R_elder' (by (with_reducible repeat (first | apply Kd.R_alloc | apply Kd.R_drewN | apply Kd.R_drew)); exact HO_485001.out) (Kd.R_base ho1) hb); have n2_ := Aside0.mk (Kd.Q_elder' (by (with_reducible repeat (first | apply Kd.Q_alloc | apply Kd.Q_drewN | apply Kd.Q_drew)); exact HO_491000.out) (Kd.R_base ho0) hb); have n3_ := Aside0.mk (Kd.R_elder' (by (with_reducible repeat (first | apply Kd.R_alloc | apply Kd.R_drewN | apply Kd.R_drew)); exact HO_491001.out) (Kd.R_base ho1) hb); have n4_ := Aside0.mk (Kd.R_lower (Kd.R_new' (Kd.R_new' ho0 (Kd.Q_lt (by (with_reducible repeat (first | apply Kd.Q_alloc | apply Kd.Q_drewN | apply Kd.Q_drew)); exact HO_485000.out))) (Kd.Q_lt (by (with_reducible repeat (first | apply Kd.Q_alloc | apply Kd.Q_drewN | apply Kd.Q_drew)); exact HO_491000.out))) (below_size (by repeat (first | (with_reducible first | exact HB.out | apply below_alloc | apply pw_below_drewN | apply below_drew1 | refine below_set ?_ GE484.out | refine below_set ?_ GE490.out) | exact HB.out)))); have n5_ := Aside0.mk (Kd.R_lower (Kd.R_new' (Kd.R_new' ho1 (Kd.R_lt (by (with_reducible repeat (first | apply Kd.R_alloc | apply Kd.R_drewN | apply Kd.R_drew)); exact HO_485001.out))) (Kd.R_lt (by (with_reducible repeat (first | apply Kd.R_alloc | apply Kd.R_drewN | apply Kd.R_drew)); exact HO_491001.out))) (below_size (by repeat (first | (with_reducible first | exact HB.out | apply below_alloc | apply pw_below_drewN | apply below_drew1 | refine below_set ?_ GE484.out | refine below_set ?_ GE490.out) | exact HB.out)))); have n6_ := Aside0.mk (blk_below (g := gb484) (o := .cells #[.slice Ao10 t477.length co10, .slice Ao12 t480.length co12, .int .i64 ((l1.length : Int) % 3)] 26 (0, 0)) (by (with_reducible repeat (first | refine blk_drewN ?_ _ | refine blk_drew ?_ | refine blk_alloc ?_ _)); exact BK484.out) hb); have n7_ := Aside0.mk (blk_below (g := gb490) (o := .cells #[.slice Ao79 x491000_3.length co79, .slice Ao80 x491001_3.length co80, .int .i64 x491002_3] 26 (0, 0)) (by (with_reducible repeat (first | refine blk_drewN ?_ _ | refine blk_drew ?_ | refine blk_alloc ?_ _)); exact BK490.out) hb); have n8_ := Aside0.mk (below_step (by repeat (first | (with_reducible first | exact HB.out | apply below_alloc | apply pw_below_drewN | apply below_drew1 | refine below_set ?_ GE484.out | refine below_set ?_ GE490.out) | exact HB.out)) hb); clear HO_485000; clear HO_485001; clear HO_491000; clear HO_491001; clear BK484; clear BK490; clear HB; have HO_485000 := n0_; have HO_485001 := n1_; have HO_491000 := n2_; have HO_491001 := n3_; have HO501 := n4_; have HO504 := n5_; have BK484 := n6_; have BK490 := n7_; have HB := n8_; clear n0_ n1_ n2_ n3_ n4_ n5_ n6_ n7_ n8_; (try clear hb); (try clear hb2); (try clear hk); (try clear hi); (try clear ho0); (try clear ho1)) | ((with_reducible refine gate_dst (N := 8) rfl ?_); (try (refine gate_guard (by rfl) ?_; dsimp only)); refine box_event ?hg (N := 8) ?hd (cs := #[.slice none 0 0, .slice none 0 0, .int .i64 0]) (t := 26) ?hr ?_; (case hd => rfl); (case hg => rfl); (case hr => first | (go_simp; done) | (go_simp; rfl)); intro gb506 hg w82 hbox hb; have n0_ := Aside0.mk (Kd.Q_below (by (with_reducible repeat (first | apply Kd.Q_alloc | apply Kd.Q_drewN | apply Kd.Q_drew)); exact HO_485000.out) hb); have n1_ := Aside0.mk (Kd.R_below (by (with_reducible repeat (first | apply Kd.R_alloc | apply Kd.R_drewN | apply Kd.R_drew)); exact HO_485001.out) hb); have n2_ := Aside0.mk (Kd.Q_below (by (with_reducible repeat (first | apply Kd.Q_alloc | apply Kd.Q_drewN | apply Kd.Q_drew)); exact HO_491000.out) hb); have n3_ := Aside0.mk (Kd.R_below (by (with_reducible repeat (first | apply Kd.R_alloc | apply Kd.R_drewN | apply Kd.R_drew)); exact HO_491001.out) hb); have n4_ := Aside0.mk (Kd.R_below (by (with_reducible repeat (first | apply Kd.R_alloc | apply Kd.R_drewN | apply Kd.R_drew)); exact HO501.out) hb); have n5_ := Aside0.mk (Kd.R_below (by (with_reducible repeat (first | apply Kd.R_alloc | apply Kd.R_drewN | apply Kd.R_drew)); exact HO504.out) hb); have n6_ := Aside0.mk (blk_below (g := gb484) (o := .cells #[.slice Ao10 t477.length co10, .slice Ao12 t480.length co12, .int .i64 ((l1.length : Int) % 3)] 26 (0, 0)) (by (with_reducible repeat (first | refine blk_drewN ?_ _ | refine blk_drew ?_ | refine blk_alloc ?_ _)); exact BK484.out) hb); have n7_ := Aside0.mk (blk_below (g := gb490) (o := .cells #[.slice Ao79 x491000_3.length co79, .slice Ao80 x491001_3.length co80, .int .i64 x491002_3] 26 (0, 0)) (by (with_reducible repeat (first | refine blk_drewN ?_ _ | refine blk_drew ?_ | refine blk_alloc ?_ _)); exact BK490.out) hb); have n8_ := Aside0.mk (below_step (by repeat (first | (with_reducible first | exact HB.out | apply below_alloc | apply pw_below_drewN | apply below_drew1 | refine below_set ?_ GE484.out | refine below_set ?_ GE490.out) | exact HB.out)) hb); have n9_ := Aside0.mk (hbox); have n10_ := Aside0.mk ((by rw [hg]; exact (below_size (by repeat (first | (with_reducible first | exact HB.out | apply below_alloc | apply pw_below_drewN | apply below_drew1 | refine below_set ?_ GE484.out | refine below_set ?_ GE490.out) | exact HB.out))) : w.heap.size ≤ gb506)); have n11_ := Aside0.mk ((by rw [hg]; exact (below_size (by repeat (first | (with_reducible first | exact HB.out | apply below_alloc | apply pw_below_drewN | apply below_drew1 | refine below_set ?_ GE484.out | refine below_set ?_ GE490.out) | exact HB.out))) : w.heap.size ≤ gb506)); have n12_ := Aside0.mk ((by rw [hg]; exact Nat.ne_of_lt (blk_lt (g := gb484) (o := .cells #[.slice Ao10 t477.length co10, .slice Ao12 t480.length co12, .int .i64 ((l1.length : Int) % 3)] 26 (0, 0)) (by (with_reducible repeat (first | refine blk_drewN ?_ _ | refine blk_drew ?_ | refine blk_alloc ?_ _)); exact BK484.out)) : gb484 ≠ gb506)); have n13_ := Aside0.mk ((by rw [hg]; exact Nat.ne_of_gt (blk_lt (g := gb484) (o := .cells #[.slice Ao10 t477.length co10, .slice Ao12 t480.length co12, .int .i64 ((l1.length : Int) % 3)] 26 (0, 0)) (by (with_reducible repeat (first | refine blk_drewN ?_ _ | refine blk_drew ?_ | refine blk_alloc ?_ _)); exact BK484.out)) : gb506 ≠ gb484)); have n14_ := Aside0.mk ((by rw [hg]; exact Nat.ne_of_lt (blk_lt (g := gb490) (o := .cells #[.slice Ao79 x491000_3.length co79, .slice Ao80 x491001_3.length co80, .int .i64 x491002_3] 26 (0, 0)) (by (with_reducible repeat (first | refine blk_drewN ?_ _ | refine blk_drew ?_ | refine blk_alloc ?_ _)); exact BK490.out)) : gb490 ≠ gb506)); have n15_ := Aside0.mk ((by rw [hg]; exact Nat.ne_of_gt (blk_lt (g := gb490) (o := .cells #[.slice Ao79 x491000_3.length co79, .slice Ao80 x491001_3.length co80, .int .i64 x491002_3] 26 (0, 0)) (by (with_reducible repeat (first | refine blk_drewN ?_ _ | refine blk_drew ?_ | refine blk_alloc ?_ _)); exact BK490.out)) : gb506 ≠ gb490)); clear HO_485000; clear HO_485001; clear HO_491000; clear HO_491001; clear HO501; clear HO504; clear BK484; clear BK490; clear HB; have HO_485000 := n0_; have HO_485001 := n1_; have HO_491000 := n2_; have HO_491001 := n3_; have HO501 := n4_; have HO504 := n5_; have BK484 := n6_; have BK490 := n7_; have HB := n8_; have BK506 := n9_; have GW506 := n10_; have GE506 := n11_; have NB484_506 := n12_; have NB506_484 := n13_; have NB490_506 := n14_; have NB506_490 := n15_; clear n0_ n1_ n2_ n3_ n4_ n5_ n6_ n7_ n8_ n9_ n10_ n11_ n12_ n13_ n14_ n15_; clear hb hbox hg; obtain ⟨Ao83, co83, eo83⟩ := Kd.R_slice HO501.out; subst eo83; have hnb84 := NB506_484.out; have hnc84 := NB484_506.out; have hnb85 := NB506_490.out; have hnc85 := NB490_506.out; have hcz86_0 : w82.cell? ⟨gb506, 0, none⟩ = some (.slice none 0 0) := (blk_cell BK506.out 0).trans rfl; have hcz86_1 : w82.cell? ⟨gb506, 1, none⟩ = some (.slice none 0 0) := (blk_cell BK506.out 1).trans rfl; have hcz86_2 : w82.cell? ⟨gb506, 2, none⟩ = some (.int .i64 0) := (blk_cell BK506.out 2).trans rfl; have hfz86_0 := blk_frozen BK506.out 0; have hfz86_1 := blk_frozen BK506.out 1; have hfz86_2 := blk_frozen BK506.out 2; obtain ⟨Ao87, co87, eo87⟩ := Kd.R_slice HO504.out; subst eo87; have hcz88_0 : w82.cell? ⟨gb490, 0, none⟩ = some (.slice Ao79 x491000_3.length co79) := (blk_cell BK490.out 0).trans rfl; have hcz88_1 : w82.cell? ⟨gb490, 1, none⟩ = some (.slice Ao80 x491001_3.length co80) := (blk_cell BK490.out 1).trans rfl; have hcz88_2 : w82.cell? ⟨gb490, 2, none⟩ = some (.int .i64 x491002_3) := (blk_cell BK490.out 2).trans rfl; have hfz88_0 := blk_frozen BK490.out 0; have hfz88_1 := blk_frozen BK490.out 1; have hfz88_2 := blk_frozen BK490.out 2))
                            go_roundg k3
                            case measure => have := HJ2.out; have := HJ6.out; have := HK3.out; omega
                            case rel => exact ⟨(wrap64 (x7_3 + 1)), (t499), (t502), (t505), (.slice Ao83 t499.length co83), (.slice Ao87 t502.length co87), (by first | rfl | (simp; done) | (simp [*]; done)), H', ⟨by have := HJ2.out; have := HJ6.out; have := HK3.out; omega⟩, ⟨by (with_reducible repeat (first | apply Kd.Q_alloc | apply Kd.Q_drewN | apply Kd.Q_drew)); exact Kd.Q_mono (Kd.Q_far (p := ⟨gb490, 2, none⟩) (Kd.Q_far (p := ⟨gb490, 1, none⟩) (Kd.Q_far (p := ⟨gb490, 0, none⟩) (Kd.Q_far (p := ⟨gb506, 2, none⟩) (Kd.Q_far (p := ⟨gb506, 1, none⟩) (Kd.Q_far (p := ⟨gb506, 0, none⟩) (Kd.Q_types (Kd.Q_types HO_485000.out BK506.out (by decide)) BK490.out (by decide)) (fun _ hk => hk.1.2) (.slice Ao83 t499.length co83)) (fun _ hk => hk.1.2) (.slice Ao87 t502.length co87)) (fun _ hk => hk.1.2) (.int .i64 t505)) (fun _ hk => hk.2) (.slice Ao83 t499.length co83)) (fun _ hk => hk.2) (.slice Ao87 t502.length co87)) (fun _ hk => hk.2) (.int .i64 t505)) (fun _ hk => by first | exact hk.1.1.2 | trivial)⟩, ⟨by (with_reducible repeat (first | apply Kd.R_alloc | apply Kd.R_drewN | apply Kd.R_drew)); exact Kd.R_mono (Kd.R_far (p := ⟨gb490, 2, none⟩) (Kd.R_far (p := ⟨gb490, 1, none⟩) (Kd.R_far (p := ⟨gb490, 0, none⟩) (Kd.R_far (p := ⟨gb506, 2, none⟩) (Kd.R_far (p := ⟨gb506, 1, none⟩) (Kd.R_far (p := ⟨gb506, 0, none⟩) (Kd.R_types (Kd.R_types HO_485001.out BK506.out (by decide)) BK490.out (by decide)) (fun _ hk => hk.1.2) (.slice Ao83 t499.length co83)) (fun _ hk => hk.1.2) (.slice Ao87 t502.length co87)) (fun _ hk => hk.1.2) (.int .i64 t505)) (fun _ hk => hk.2) (.slice Ao83 t499.length co83)) (fun _ hk => hk.2) (.slice Ao87 t502.length co87)) (fun _ hk => hk.2) (.int .i64 t505)) (fun _ hk => by first | exact hk.1.1.2 | trivial)⟩, ⟨Kd.Q_of_R (by (with_reducible repeat (first | apply Kd.R_alloc | apply Kd.R_drewN | apply Kd.R_drew)); exact Kd.R_mono (Kd.R_far (p := ⟨gb490, 2, none⟩) (Kd.R_far (p := ⟨gb490, 1, none⟩) (Kd.R_far (p := ⟨gb490, 0, none⟩) (Kd.R_far (p := ⟨gb506, 2, none⟩) (Kd.R_far (p := ⟨gb506, 1, none⟩) (Kd.R_far (p := ⟨gb506, 0, none⟩) (Kd.R_types (Kd.R_types HO501.out BK506.out (by decide)) BK490.out (by decide)) (fun _ hk => hk.1.2) (.slice Ao83 t499.length co83)) (fun _ hk => hk.1.2) (.slice Ao87 t502.length co87)) (fun _ hk => hk.1.2) (.int .i64 t505)) (fun _ hk => hk.2) (.slice Ao83 t499.length co83)) (fun _ hk => hk.2) (.slice Ao87 t502.length co87)) (fun _ hk => hk.2) (.int .i64 t505)) (fun _ hk => by first | exact hk.1.1.1.2 | trivial))⟩, ⟨by (with_reducible repeat (first | apply Kd.R_alloc | apply Kd.R_drewN | apply Kd.R_drew)); exact Kd.R_mono (Kd.R_far (p := ⟨gb490, 2, none⟩) (Kd.R_far (p := ⟨gb490, 1, none⟩) (Kd.R_far (p := ⟨gb490, 0, none⟩) (Kd.R_far (p := ⟨gb506, 2, none⟩) (Kd.R_far (p := ⟨gb506, 1, none⟩) (Kd.R_far (p := ⟨gb506, 0, none⟩) (Kd.R_types (Kd.R_types HO504.out BK506.out (by decide)) BK490.out (by decide)) (fun _ hk => hk.1.2) (.slice Ao83 t499.length co83)) (fun _ hk => hk.1.2) (.slice Ao87 t502.length co87)) (fun _ hk => hk.1.2) (.int .i64 t505)) (fun _ hk => hk.2) (.slice Ao83 t499.length co83)) (fun _ hk => hk.2) (.slice Ao87 t502.length co87)) (fun _ hk => hk.2) (.int .i64 t505)) (fun _ hk => by first | exact hk.1.1.1.2 | trivial)⟩, ⟨by (with_reducible repeat (first | refine blk_drewN ?_ _ | refine blk_drew ?_ | refine blk_alloc ?_ _)); refine blk_far ?_ NB484_490.out _; (with_reducible repeat (first | refine blk_drewN ?_ _ | refine blk_drew ?_ | refine blk_alloc ?_ _)); refine blk_far ?_ NB484_490.out _; (with_reducible repeat (first | refine blk_drewN ?_ _ | refine blk_drew ?_ | refine blk_alloc ?_ _)); refine blk_far ?_ NB484_490.out _; (with_reducible repeat (first | refine blk_drewN ?_ _ | refine blk_drew ?_ | refine blk_alloc ?_ _)); refine blk_far ?_ NB484_506.out _; (with_reducible repeat (first | refine blk_drewN ?_ _ | refine blk_drew ?_ | refine blk_alloc ?_ _)); refine blk_far ?_ NB484_506.out _; (with_reducible repeat (first | refine blk_drewN ?_ _ | refine blk_drew ?_ | refine blk_alloc ?_ _)); refine blk_far ?_ NB484_506.out _; (with_reducible repeat (first | refine blk_drewN ?_ _ | refine blk_drew ?_ | refine blk_alloc ?_ _)); exact BK484.out⟩, ⟨by (with_reducible repeat (first | refine blk_drewN ?_ _ | refine blk_drew ?_ | refine blk_alloc ?_ _)); refine blk_put (cs := #[.slice Ao83 t499.length co83, .slice Ao87 t502.length co87, .int .i64 x491002_3]) ?_ 2 _ rfl; (with_reducible repeat (first | refine blk_drewN ?_ _ | refine blk_drew ?_ | refine blk_alloc ?_ _)); refine blk_put (cs := #[.slice Ao83 t499.length co83, .slice Ao80 x491001_3.length co80, .int .i64 x491002_3]) ?_ 1 _ rfl; (with_reducible repeat (first | refine blk_drewN ?_ _ | refine blk_drew ?_ | refine blk_alloc ?_ _)); refine blk_put (cs := #[.slice Ao79 x491000_3.length co79, .slice Ao80 x491001_3.length co80, .int .i64 x491002_3]) ?_ 0 _ rfl; (with_reducible repeat (first | refine blk_drewN ?_ _ | refine blk_drew ?_ | refine blk_alloc ?_ _)); refine blk_far ?_ NB490_506.out _; (with_reducible repeat (first | refine blk_drewN ?_ _ | refine blk_drew ?_ | refine blk_alloc ?_ _)); refine blk_far ?_ NB490_506.out _; (with_reducible repeat (first | refine blk_drewN ?_ _ | refine blk_drew ?_ | refine blk_alloc ?_ _)); refine blk_far ?_ NB490_506.out _; (with_reducible repeat (first | refine blk_drewN ?_ _ | refine blk_drew ?_ | refine blk_alloc ?_ _)); exact BK490.out⟩, ⟨by repeat (first | (with_reducible first | exact HB.out | apply below_alloc | apply pw_below_drewN | apply below_drew1 | refine below_set ?_ GE484.out | refine below_set ?_ GE490.out | refine below_set ?_ GE506.out) | exact HB.out)⟩⟩
                          · rw [if_neg c76] at H
                            have c76b0 : ((t502.length : Int) == (wrap64 ((x491001_3.length : Int) + 1))) = false := beq_eq_false_iff_ne.mpr c76
                            have c76b1 : ((t502.length : Int) != (wrap64 ((x491001_3.length : Int) + 1))) = true := bne_iff_ne.mpr c76
                            exact absurd ((Option.some.inj H).trans HTru_.out) (by decide)
                        · rw [if_neg c75] at H
                          have c75b0 : (t505 == (wrap64 (x491002_3 - 1))) = false := beq_eq_false_iff_ne.mpr c75
                          have c75b1 : (t505 != (wrap64 (x491002_3 - 1))) = true := bne_iff_ne.mpr c75
                          exact absurd ((Option.some.inj H).trans HTru_.out) (by decide)
                      · rw [if_neg c74] at H
                        have c74b0 : decide (0 < x491002_3) = false := decide_eq_false c74
                        clear c74
                        have H' := Aside0.mk H
                        clear H
                        have hnb89 := NB490_484.out
                        have hnc89 := NB484_490.out
                        have hcz90_0 : wr.cell? ⟨gb490, 0, none⟩ = some (u491000) := (blk_cell BK490.out 0).trans rfl
                        have hcz90_1 : wr.cell? ⟨gb490, 1, none⟩ = some (u491001) := (blk_cell BK490.out 1).trans rfl
                        have hcz90_2 : wr.cell? ⟨gb490, 2, none⟩ = some (.int .i64 x491002_3) := (blk_cell BK490.out 2).trans rfl
                        have hfz90_0 := blk_frozen BK490.out 0
                        have hfz90_1 := blk_frozen BK490.out 1
                        have hfz90_2 := blk_frozen BK490.out 2
                        obtain ⟨Ao91, co91, eo91, _⟩ := Kd.Q_slice HO_491000.out
                        subst eo91
                        obtain ⟨Ao92, co92, eo92⟩ := Kd.R_slice HO_491001.out
                        subst eo92
                        go_wp2_with (first | ((with_reducible refine gate_callee (f := 26) rfl ?_); refine goesL_ (some 45) rfl rfl Try.func26 (by kernel_rfl) rfl #[.agg #[.slice Ao91 x491000_3.length co91, .slice Ao92 x491001_3.length co92, .int .i64 x491002_3], .int .i64 x7_3, .string (⟨#[119]⟩ : ByteArray)] rfl (by (try simp only [List.map_toArray, List.map_cons, List.map_nil]); first | done | rfl | (simp only [List.length_drop, List.length_take]; rfl)) ?_; (with_reducible refine (impl_DiskWrite.calls k3 _ _ x491000_3 _ _ x491001_3 x491002_3 x7_3 (⟨#[119]⟩ : ByteArray) t499 t502 t505 _ ?side1 ?side2 ?side3 ?side4 A37.out).mono ?_); (case side1 => repeat (first | exact (Kd.Q_reads' HO_491000.out).2.2 | (with_reducible refine Kd.C_alloc ?_ _) | (with_reducible refine Kd.C_drewN ?_ _) | (with_reducible refine Kd.C_drew ?_))); (case side2 => exact (Kd.Q_reads' HO_491000.out).2.1); (case side3 => repeat (first | exact (Kd.R_reads' HO_491001.out).2.2 | (with_reducible refine Kd.C_alloc ?_ _) | (with_reducible refine Kd.C_drewN ?_ _) | (with_reducible refine Kd.C_drew ?_))); (case side4 => exact (Kd.R_reads' HO_491001.out).2.1); rintro e w93 ⟨v500, v503, rfl, ho0, ho1, hb⟩; refine ⟨_, rfl, ?_⟩; have n0_ := Aside0.mk (Kd.Q_elder' (by (with_reducible repeat (first | apply Kd.Q_alloc | apply Kd.Q_drewN | apply Kd.Q_drew)); exact HO_485000.out) (Kd.R_base ho0) hb); have n1_ := Aside0.mk (Kd.R_elder' (by (with_reducible repeat (first | apply Kd.R_alloc | apply Kd.R_drewN | apply Kd.R_drew)); exact HO_485001.out) (Kd.R_base ho1) hb); have n2_ := Aside0.mk (Kd.Q_elder' (by (with_reducible repeat (first | apply Kd.Q_alloc | apply Kd.Q_drewN | apply Kd.Q_drew)); exact HO_491000.out) (Kd.R_base ho0) hb); have n3_ := Aside0.mk (Kd.R_elder' (by (with_reducible repeat (first | apply Kd.R_alloc | apply Kd.R_drewN | apply Kd.R_drew)); exact HO_491001.out) (Kd.R_base ho1) hb); have n4_ := Aside0.mk (Kd.R_lower (Kd.R_new' (Kd.R_new' ho0 (Kd.Q_lt (by (with_reducible repeat (first | apply Kd.Q_alloc | apply Kd.Q_drewN | apply Kd.Q_drew)); exact HO_485000.out))) (Kd.Q_lt (by (with_reducible repeat (first | apply Kd.Q_alloc | apply Kd.Q_drewN | apply Kd.Q_drew)); exact HO_491000.out))) (below_size (by repeat (first | (with_reducible first | exact HB.out | apply below_alloc | apply pw_below_drewN | apply below_drew1 | refine below_set ?_ GE484.out | refine below_set ?_ GE490.out) | exact HB.out)))); have n5_ := Aside0.mk (Kd.R_lower (Kd.R_new' (Kd.R_new' ho1 (Kd.R_lt (by (with_reducible repeat (first | apply Kd.R_alloc | apply Kd.R_drewN | apply Kd.R_drew)); exact HO_485001.out))) (Kd.R_lt (by (with_reducible repeat (first | apply Kd.R_alloc | apply Kd.R_drewN | apply Kd.R_drew)); exact HO_491001.out))) (below_size (by repeat (first | (with_reducible first | exact HB.out | apply below_alloc | apply pw_below_drewN | apply below_drew1 | refine below_set ?_ GE484.out | refine below_set ?_ GE490.out) | exact HB.out)))); have n6_ := Aside0.mk (blk_below (g := gb484) (o := .cells #[.slice Ao10 t477.length co10, .slice Ao12 t480.length co12, .int .i64 ((l1.length : Int) % 3)] 26 (0, 0)) (by (with_reducible repeat (first | refine blk_drewN ?_ _ | refine blk_drew ?_ | refine blk_alloc ?_ _)); exact BK484.out) hb); have n7_ := Aside0.mk (blk_below (g := gb490) (o := .cells #[.slice Ao91 x491000_3.length co91, .slice Ao92 x491001_3.length co92, .int .i64 x491002_3] 26 (0, 0)) (by (with_reducible repeat (first | refine blk_drewN ?_ _ | refine blk_drew ?_ | refine blk_alloc ?_ _)); exact BK490.out) hb); have n8_ := Aside0.mk (below_step (by repeat (first | (with_reducible first | exact HB.out | apply below_alloc | apply pw_below_drewN | apply below_drew1 | refine below_set ?_ GE484.out | refine below_set ?_ GE490.out) | exact HB.out)) hb); clear HO_485000; clear HO_485001; clear HO_491000; clear HO_491001; clear BK484; clear BK490; clear HB; have HO_485000 := n0_; have HO_485001 := n1_; have HO_491000 := n2_; have HO_491001 := n3_; have HO501 := n4_; have HO504 := n5_; have BK484 := n6_; have BK490 := n7_; have HB := n8_; clear n0_ n1_ n2_ n3_ n4_ n5_ n6_ n7_ n8_; (try clear hb); (try clear hb2); (try clear hk); (try clear hi); (try clear ho0); (try clear ho1)) | ((with_reducible refine gate_dst (N := 8) rfl ?_); (try (refine gate_guard (by rfl) ?_; dsimp only)); refine box_event ?hg (N := 8) ?hd (cs := #[.slice none 0 0, .slice none 0 0, .int .i64 0]) (t := 26) ?hr ?_; (case hd => rfl); (case hg => rfl); (case hr => first | (go_simp; done) | (go_simp; rfl)); intro gb506 hg w94 hbox hb; have n0_ := Aside0.mk (Kd.Q_below (by (with_reducible repeat (first | apply Kd.Q_alloc | apply Kd.Q_drewN | apply Kd.Q_drew)); exact HO_485000.out) hb); have n1_ := Aside0.mk (Kd.R_below (by (with_reducible repeat (first | apply Kd.R_alloc | apply Kd.R_drewN | apply Kd.R_drew)); exact HO_485001.out) hb); have n2_ := Aside0.mk (Kd.Q_below (by (with_reducible repeat (first | apply Kd.Q_alloc | apply Kd.Q_drewN | apply Kd.Q_drew)); exact HO_491000.out) hb); have n3_ := Aside0.mk (Kd.R_below (by (with_reducible repeat (first | apply Kd.R_alloc | apply Kd.R_drewN | apply Kd.R_drew)); exact HO_491001.out) hb); have n4_ := Aside0.mk (Kd.R_below (by (with_reducible repeat (first | apply Kd.R_alloc | apply Kd.R_drewN | apply Kd.R_drew)); exact HO501.out) hb); have n5_ := Aside0.mk (Kd.R_below (by (with_reducible repeat (first | apply Kd.R_alloc | apply Kd.R_drewN | apply Kd.R_drew)); exact HO504.out) hb); have n6_ := Aside0.mk (blk_below (g := gb484) (o := .cells #[.slice Ao10 t477.length co10, .slice Ao12 t480.length co12, .int .i64 ((l1.length : Int) % 3)] 26 (0, 0)) (by (with_reducible repeat (first | refine blk_drewN ?_ _ | refine blk_drew ?_ | refine blk_alloc ?_ _)); exact BK484.out) hb); have n7_ := Aside0.mk (blk_below (g := gb490) (o := .cells #[.slice Ao91 x491000_3.length co91, .slice Ao92 x491001_3.length co92, .int .i64 x491002_3] 26 (0, 0)) (by (with_reducible repeat (first | refine blk_drewN ?_ _ | refine blk_drew ?_ | refine blk_alloc ?_ _)); exact BK490.out) hb); have n8_ := Aside0.mk (below_step (by repeat (first | (with_reducible first | exact HB.out | apply below_alloc | apply pw_below_drewN | apply below_drew1 | refine below_set ?_ GE484.out | refine below_set ?_ GE490.out) | exact HB.out)) hb); have n9_ := Aside0.mk (hbox); have n10_ := Aside0.mk ((by rw [hg]; exact (below_size (by repeat (first | (with_reducible first | exact HB.out | apply below_alloc | apply pw_below_drewN | apply below_drew1 | refine below_set ?_ GE484.out | refine below_set ?_ GE490.out) | exact HB.out))) : w.heap.size ≤ gb506)); have n11_ := Aside0.mk ((by rw [hg]; exact (below_size (by repeat (first | (with_reducible first | exact HB.out | apply below_alloc | apply pw_below_drewN | apply below_drew1 | refine below_set ?_ GE484.out | refine below_set ?_ GE490.out) | exact HB.out))) : w.heap.size ≤ gb506)); have n12_ := Aside0.mk ((by rw [hg]; exact Nat.ne_of_lt (blk_lt (g := gb484) (o := .cells #[.slice Ao10 t477.length co10, .slice Ao12 t480.length co12, .int .i64 ((l1.length : Int) % 3)] 26 (0, 0)) (by (with_reducible repeat (first | refine blk_drewN ?_ _ | refine blk_drew ?_ | refine blk_alloc ?_ _)); exact BK484.out)) : gb484 ≠ gb506)); have n13_ := Aside0.mk ((by rw [hg]; exact Nat.ne_of_gt (blk_lt (g := gb484) (o := .cells #[.slice Ao10 t477.length co10, .slice Ao12 t480.length co12, .int .i64 ((l1.length : Int) % 3)] 26 (0, 0)) (by (with_reducible repeat (first | refine blk_drewN ?_ _ | refine blk_drew ?_ | refine blk_alloc ?_ _)); exact BK484.out)) : gb506 ≠ gb484)); have n14_ := Aside0.mk ((by rw [hg]; exact Nat.ne_of_lt (blk_lt (g := gb490) (o := .cells #[.slice Ao91 x491000_3.length co91, .slice Ao92 x491001_3.length co92, .int .i64 x491002_3] 26 (0, 0)) (by (with_reducible repeat (first | refine blk_drewN ?_ _ | refine blk_drew ?_ | refine blk_alloc ?_ _)); exact BK490.out)) : gb490 ≠ gb506)); have n15_ := Aside0.mk ((by rw [hg]; exact Nat.ne_of_gt (blk_lt (g := gb490) (o := .cells #[.slice Ao91 x491000_3.length co91, .slice Ao92 x491001_3.length co92, .int .i64 x491002_3] 26 (0, 0)) (by (with_reducible repeat (first | refine blk_drewN ?_ _ | refine blk_drew ?_ | refine blk_alloc ?_ _)); exact BK490.out)) : gb506 ≠ gb490)); clear HO_485000; clear HO_485001; clear HO_491000; clear HO_491001; clear HO501; clear HO504; clear BK484; clear BK490; clear HB; have HO_485000 := n0_; have HO_485001 := n1_; have HO_491000 := n2_; have HO_491001 := n3_; have HO501 := n4_; have HO504 := n5_; have BK484 := n6_; have BK490 := n7_; have HB := n8_; have BK506 := n9_; have GW506 := n10_; have GE506 := n11_; have NB484_506 := n12_; have NB506_484 := n13_; have NB490_506 := n14_; have NB506_490 := n15_; clear n0_ n1_ n2_ n3_ n4_ n5_ n6_ n7_ n8_ n9_ n10_ n11_ n12_ n13_ n14_ n15_; clear hb hbox hg; obtain ⟨Ao95, co95, eo95⟩ := Kd.R_slice HO501.out; subst eo95; have hnb96 := NB506_484.out; have hnc96 := NB484_506.out; have hnb97 := NB506_490.out; have hnc97 := NB490_506.out; have hcz98_0 : w94.cell? ⟨gb506, 0, none⟩ = some (.slice none 0 0) := (blk_cell BK506.out 0).trans rfl; have hcz98_1 : w94.cell? ⟨gb506, 1, none⟩ = some (.slice none 0 0) := (blk_cell BK506.out 1).trans rfl; have hcz98_2 : w94.cell? ⟨gb506, 2, none⟩ = some (.int .i64 0) := (blk_cell BK506.out 2).trans rfl; have hfz98_0 := blk_frozen BK506.out 0; have hfz98_1 := blk_frozen BK506.out 1; have hfz98_2 := blk_frozen BK506.out 2; obtain ⟨Ao99, co99, eo99⟩ := Kd.R_slice HO504.out; subst eo99; have hcz100_0 : w94.cell? ⟨gb490, 0, none⟩ = some (.slice Ao91 x491000_3.length co91) := (blk_cell BK490.out 0).trans rfl; have hcz100_1 : w94.cell? ⟨gb490, 1, none⟩ = some (.slice Ao92 x491001_3.length co92) := (blk_cell BK490.out 1).trans rfl; have hcz100_2 : w94.cell? ⟨gb490, 2, none⟩ = some (.int .i64 x491002_3) := (blk_cell BK490.out 2).trans rfl; have hfz100_0 := blk_frozen BK490.out 0; have hfz100_1 := blk_frozen BK490.out 1; have hfz100_2 := blk_frozen BK490.out 2))
                        go_roundg k3
                        case measure => have := HJ2.out; have := HJ6.out; have := HK3.out; omega
                        case rel => exact ⟨(wrap64 (x7_3 + 1)), (t499), (t502), (t505), (.slice Ao95 t499.length co95), (.slice Ao99 t502.length co99), (by first | rfl | (simp; done) | (simp [*]; done)), H', ⟨by have := HJ2.out; have := HJ6.out; have := HK3.out; omega⟩, ⟨by (with_reducible repeat (first | apply Kd.Q_alloc | apply Kd.Q_drewN | apply Kd.Q_drew)); exact Kd.Q_mono (Kd.Q_far (p := ⟨gb490, 2, none⟩) (Kd.Q_far (p := ⟨gb490, 1, none⟩) (Kd.Q_far (p := ⟨gb490, 0, none⟩) (Kd.Q_far (p := ⟨gb506, 2, none⟩) (Kd.Q_far (p := ⟨gb506, 1, none⟩) (Kd.Q_far (p := ⟨gb506, 0, none⟩) (Kd.Q_types (Kd.Q_types HO_485000.out BK506.out (by decide)) BK490.out (by decide)) (fun _ hk => hk.1.2) (.slice Ao95 t499.length co95)) (fun _ hk => hk.1.2) (.slice Ao99 t502.length co99)) (fun _ hk => hk.1.2) (.int .i64 t505)) (fun _ hk => hk.2) (.slice Ao95 t499.length co95)) (fun _ hk => hk.2) (.slice Ao99 t502.length co99)) (fun _ hk => hk.2) (.int .i64 t505)) (fun _ hk => by first | exact hk.1.1.2 | trivial)⟩, ⟨by (with_reducible repeat (first | apply Kd.R_alloc | apply Kd.R_drewN | apply Kd.R_drew)); exact Kd.R_mono (Kd.R_far (p := ⟨gb490, 2, none⟩) (Kd.R_far (p := ⟨gb490, 1, none⟩) (Kd.R_far (p := ⟨gb490, 0, none⟩) (Kd.R_far (p := ⟨gb506, 2, none⟩) (Kd.R_far (p := ⟨gb506, 1, none⟩) (Kd.R_far (p := ⟨gb506, 0, none⟩) (Kd.R_types (Kd.R_types HO_485001.out BK506.out (by decide)) BK490.out (by decide)) (fun _ hk => hk.1.2) (.slice Ao95 t499.length co95)) (fun _ hk => hk.1.2) (.slice Ao99 t502.length co99)) (fun _ hk => hk.1.2) (.int .i64 t505)) (fun _ hk => hk.2) (.slice Ao95 t499.length co95)) (fun _ hk => hk.2) (.slice Ao99 t502.length co99)) (fun _ hk => hk.2) (.int .i64 t505)) (fun _ hk => by first | exact hk.1.1.2 | trivial)⟩, ⟨Kd.Q_of_R (by (with_reducible repeat (first | apply Kd.R_alloc | apply Kd.R_drewN | apply Kd.R_drew)); exact Kd.R_mono (Kd.R_far (p := ⟨gb490, 2, none⟩) (Kd.R_far (p := ⟨gb490, 1, none⟩) (Kd.R_far (p := ⟨gb490, 0, none⟩) (Kd.R_far (p := ⟨gb506, 2, none⟩) (Kd.R_far (p := ⟨gb506, 1, none⟩) (Kd.R_far (p := ⟨gb506, 0, none⟩) (Kd.R_types (Kd.R_types HO501.out BK506.out (by decide)) BK490.out (by decide)) (fun _ hk => hk.1.2) (.slice Ao95 t499.length co95)) (fun _ hk => hk.1.2) (.slice Ao99 t502.length co99)) (fun _ hk => hk.1.2) (.int .i64 t505)) (fun _ hk => hk.2) (.slice Ao95 t499.length co95)) (fun _ hk => hk.2) (.slice Ao99 t502.length co99)) (fun _ hk => hk.2) (.int .i64 t505)) (fun _ hk => by first | exact hk.1.1.1.2 | trivial))⟩, ⟨by (with_reducible repeat (first | apply Kd.R_alloc | apply Kd.R_drewN | apply Kd.R_drew)); exact Kd.R_mono (Kd.R_far (p := ⟨gb490, 2, none⟩) (Kd.R_far (p := ⟨gb490, 1, none⟩) (Kd.R_far (p := ⟨gb490, 0, none⟩) (Kd.R_far (p := ⟨gb506, 2, none⟩) (Kd.R_far (p := ⟨gb506, 1, none⟩) (Kd.R_far (p := ⟨gb506, 0, none⟩) (Kd.R_types (Kd.R_types HO504.out BK506.out (by decide)) BK490.out (by decide)) (fun _ hk => hk.1.2) (.slice Ao95 t499.length co95)) (fun _ hk => hk.1.2) (.slice Ao99 t502.length co99)) (fun _ hk => hk.1.2) (.int .i64 t505)) (fun _ hk => hk.2) (.slice Ao95 t499.length co95)) (fun _ hk => hk.2) (.slice Ao99 t502.length co99)) (fun _ hk => hk.2) (.int .i64 t505)) (fun _ hk => by first | exact hk.1.1.1.2 | trivial)⟩, ⟨by (with_reducible repeat (first | refine blk_drewN ?_ _ | refine blk_drew ?_ | refine blk_alloc ?_ _)); refine blk_far ?_ NB484_490.out _; (with_reducible repeat (first | refine blk_drewN ?_ _ | refine blk_drew ?_ | refine blk_alloc ?_ _)); refine blk_far ?_ NB484_490.out _; (with_reducible repeat (first | refine blk_drewN ?_ _ | refine blk_drew ?_ | refine blk_alloc ?_ _)); refine blk_far ?_ NB484_490.out _; (with_reducible repeat (first | refine blk_drewN ?_ _ | refine blk_drew ?_ | refine blk_alloc ?_ _)); refine blk_far ?_ NB484_506.out _; (with_reducible repeat (first | refine blk_drewN ?_ _ | refine blk_drew ?_ | refine blk_alloc ?_ _)); refine blk_far ?_ NB484_506.out _; (with_reducible repeat (first | refine blk_drewN ?_ _ | refine blk_drew ?_ | refine blk_alloc ?_ _)); refine blk_far ?_ NB484_506.out _; (with_reducible repeat (first | refine blk_drewN ?_ _ | refine blk_drew ?_ | refine blk_alloc ?_ _)); exact BK484.out⟩, ⟨by (with_reducible repeat (first | refine blk_drewN ?_ _ | refine blk_drew ?_ | refine blk_alloc ?_ _)); refine blk_put (cs := #[.slice Ao95 t499.length co95, .slice Ao99 t502.length co99, .int .i64 x491002_3]) ?_ 2 _ rfl; (with_reducible repeat (first | refine blk_drewN ?_ _ | refine blk_drew ?_ | refine blk_alloc ?_ _)); refine blk_put (cs := #[.slice Ao95 t499.length co95, .slice Ao92 x491001_3.length co92, .int .i64 x491002_3]) ?_ 1 _ rfl; (with_reducible repeat (first | refine blk_drewN ?_ _ | refine blk_drew ?_ | refine blk_alloc ?_ _)); refine blk_put (cs := #[.slice Ao91 x491000_3.length co91, .slice Ao92 x491001_3.length co92, .int .i64 x491002_3]) ?_ 0 _ rfl; (with_reducible repeat (first | refine blk_drewN ?_ _ | refine blk_drew ?_ | refine blk_alloc ?_ _)); refine blk_far ?_ NB490_506.out _; (with_reducible repeat (first | refine blk_drewN ?_ _ | refine blk_drew ?_ | refine blk_alloc ?_ _)); refine blk_far ?_ NB490_506.out _; (with_reducible repeat (first | refine blk_drewN ?_ _ | refine blk_drew ?_ | refine blk_alloc ?_ _)); refine blk_far ?_ NB490_506.out _; (with_reducible repeat (first | refine blk_drewN ?_ _ | refine blk_drew ?_ | refine blk_alloc ?_ _)); exact BK490.out⟩, ⟨by repeat (first | (with_reducible first | exact HB.out | apply below_alloc | apply pw_below_drewN | apply below_drew1 | refine below_set ?_ GE484.out | refine below_set ?_ GE490.out | refine below_set ?_ GE506.out) | exact HB.out)⟩⟩
                  · rw [if_neg c36] at H
                    have c36b0 : decide (x7_3 < 4) = false := decide_eq_false c36
                    clear c36
                    replace H := Option.bind_eq_some_iff.mp H
                    obtain ⟨⟨t491, t494, t497⟩, A1010, H⟩ := H
                    replace H : ((laws_wmDisk.f k3 t491 t494 t497 x491000_3 x491001_3 x491002_3).bind fun t498 => (if t498 = true then (if x491002_3 = 0 then (some ((x491001_3.length : Int) == (wrap64 ((t480.length : Int) + ((l1.length : Int) % 3))))) else (some false)) else (some false))) = some r := H
                    have A101 := Aside0.mk A1010
                    clear A1010
                    replace H := Option.bind_eq_some_iff.mp H
                    obtain ⟨t498, A1020, H⟩ := H
                    replace H : (if t498 = true then (if x491002_3 = 0 then (some ((x491001_3.length : Int) == (wrap64 ((t480.length : Int) + ((l1.length : Int) % 3))))) else (some false)) else (some false)) = some r := H
                    have A102 := Aside0.mk A1020
                    clear A1020
                    by_cases c103 : t498 = true
                    · subst c103
                      have H1 : (if x491002_3 = 0 then (some ((x491001_3.length : Int) == (wrap64 ((t480.length : Int) + ((l1.length : Int) % 3))))) else (some false)) = some r := by rw [if_pos rfl] at H; exact H
                      clear H
                      have H := H1
                      clear H1
                      by_cases c104 : x491002_3 = 0
                      · rw [if_pos c104] at H
                        have c104b0 : (x491002_3 == 0) = true := beq_iff_eq.mpr c104
                        have c104b1 : (x491002_3 != 0) = false := bne_eq_false_iff_eq.mpr c104
                        clear c104
                        obtain rfl := Option.some.inj H
                        try go_wp2
                        have n0_ := Aside0.mk (Kd.Q_drew HO_485000.out)
                        have n1_ := Aside0.mk (Kd.R_drew HO_485001.out)
                        have n2_ := Aside0.mk (Kd.Q_drew HO_491000.out)
                        have n3_ := Aside0.mk (Kd.R_drew HO_491001.out)
                        have n4_ := Aside0.mk (blk_drew BK484.out)
                        have n5_ := Aside0.mk (blk_drew BK490.out)
                        have n6_ := Aside0.mk (below_drew1 HB.out)
                        clear HO_485000
                        clear HO_485001
                        clear HO_491000
                        clear HO_491001
                        clear BK484
                        clear BK490
                        clear HB
                        have HO_485000 := n0_
                        have HO_485001 := n1_
                        have HO_491000 := n2_
                        have HO_491001 := n3_
                        have BK484 := n4_
                        have BK490 := n5_
                        have HB := n6_
                        clear n0_ n1_ n2_ n3_ n4_ n5_ n6_
                        obtain ⟨Ao106, co106, eo106, _⟩ := Kd.Q_slice HO_491000.out
                        (first | subst eo106 | (injection eo106 with f1_ f2_ f3_; have f4_ := f1_.symm; have f5_ := f3_.symm; clear f1_ f2_ f3_; subst f4_; subst f5_))
                        obtain ⟨Ao107, co107, eo107⟩ := Kd.R_slice HO_491001.out
                        (first | subst eo107 | (injection eo107 with f1_ f2_ f3_; have f4_ := f1_.symm; have f5_ := f3_.symm; clear f1_ f2_ f3_; subst f4_; subst f5_))
                        refine start_ (n := 22) (S := fun w' => w'.cell? ⟨gb490, 0, none⟩ = some (.slice Ao106 x491000_3.length co106) ∧ w'.cell? ⟨gb490, 1, none⟩ = some (.slice Ao107 x491001_3.length co107) ∧ w'.cell? ⟨gb490, 2, none⟩ = some (.int .i64 x491002_3) ∧ w'.cell? ⟨gb484, 0, none⟩ = some (.slice Ao10 t477.length co10) ∧ w'.cell? ⟨gb484, 1, none⟩ = some (.slice Ao12 t480.length co12) ∧ w'.cell? ⟨gb484, 2, none⟩ = some (.int .i64 ((l1.length : Int) % 3))) (ds := []) #[false, false, false, false, false, false, false, false, false, false, false, false, false, false, false, false, false, false, false, false, false, false] (by kernel_rfl) rfl rfl ⟨(blk_cell BK490.out 0).trans rfl, (blk_cell BK490.out 1).trans rfl, (blk_cell BK490.out 2).trans rfl, (blk_cell BK484.out 0).trans rfl, (blk_cell BK484.out 1).trans rfl, (blk_cell BK484.out 2).trans rfl⟩ (fun hHeld => ?_); refine with_tabW laws_FnDiskStop.tab15 laws_FnDiskStop.bits15 (fun HT_ HW_ => ?_)
                        generalize wr.drew = w105 at HO_485000 HO_485001 HO_491000 HO_491001 BK484 BK490 HB hHeld ⊢
                        refine take_ (i := 0) (N := some 79) (v := ?_) (a' := ?_) #[true, false, false, false, false, false, false, false, false, false, false, false, false, false, false, false, false, false, false, false, false, false] rfl rfl (take_ofW HT_.out HW_.out (by kernel_rfl)) (fun _ _ _ h => h) (Or.inl ⟨by rfl, ?_⟩) hHeld ?_ ?_
                        rotate_left
                        · rintro w' ⟨s0, s1, s2, s3, s4, s5⟩
                          go_simp
                          with_reducible rfl
                        rotate_left
                        · simp only [Act.put, List.setIfInBounds_toArray, List.set_cons_zero, List.set_cons_succ, i64_w, i32_w]
                          rfl
                        refine take_ (i := 2) (N := some 81) (v := ?_) (a' := ?_) #[true, false, true, false, false, false, false, false, false, false, false, false, false, false, false, false, false, false, false, false, false, false] rfl rfl (take_ofW HT_.out HW_.out (by kernel_rfl)) (fun _ _ _ h => h) (Or.inl ⟨by rfl, ?_⟩) hHeld ?_ ?_
                        rotate_left
                        · rintro w' ⟨s0, s1, s2, s3, s4, s5⟩
                          go_simp
                          with_reducible rfl
                        rotate_left
                        · simp only [Act.put, List.setIfInBounds_toArray, List.set_cons_zero, List.set_cons_succ, i64_w, i32_w]
                          rfl
                        refine one_ (i := 1) (N := some 80) #[true, true, true, false, false, false, false, false, false, false, false, false, false, false, false, false, false, false, false, false, false, false] rfl rfl (one_of HT_.out (by kernel_rfl)) (by decide) (fun K hK => ?_)
                        refine goes_ Try.func28 (by kernel_rfl) rfl #[.agg #[.slice Ao106 x491000_3.length co106, .slice Ao107 x491001_3.length co107, .int .i64 x491002_3]] (by rfl) rfl rfl (by (try simp only [List.map_toArray, List.map_cons, List.map_nil]); first | done | rfl | (simp only [List.length_drop, List.length_take]; rfl)) ?_
                        with_reducible refine (impl_DiskFlush.calls k3 _ _ x491000_3 _ _ x491001_3 x491002_3 t491 t494 t497 _ ?side1 ?side2 ?side3 ?side4 A101.out).mono ?_
                        (case side1 => repeat (first | exact (Kd.Q_reads' HO_491000.out).2.2 | (with_reducible refine Kd.C_alloc ?_ _) | (with_reducible refine Kd.C_drewN ?_ _) | (with_reducible refine Kd.C_drew ?_)))
                        (case side2 => exact (Kd.Q_reads' HO_491000.out).2.1)
                        (case side3 => repeat (first | exact (Kd.R_reads' HO_491001.out).2.2 | (with_reducible refine Kd.C_alloc ?_ _) | (with_reducible refine Kd.C_drewN ?_ _) | (with_reducible refine Kd.C_drew ?_)))
                        (case side4 => exact (Kd.R_reads' HO_491001.out).2.1)
                        rintro e w108 ⟨v492, v495, rfl, ho0, ho1, hb⟩
                        refine ⟨_, rfl, ?_⟩
                        have n0_ := Aside0.mk (Kd.Q_elder' (by (with_reducible repeat (first | apply Kd.Q_alloc | apply Kd.Q_drewN | apply Kd.Q_drew)); exact HO_485000.out) (Kd.R_base ho0) hb)
                        have n1_ := Aside0.mk (Kd.R_elder' (by (with_reducible repeat (first | apply Kd.R_alloc | apply Kd.R_drewN | apply Kd.R_drew)); exact HO_485001.out) (Kd.R_base ho1) hb)
                        have n2_ := Aside0.mk (Kd.Q_elder' (by (with_reducible repeat (first | apply Kd.Q_alloc | apply Kd.Q_drewN | apply Kd.Q_drew)); exact HO_491000.out) (Kd.R_base ho0) hb)
                        have n3_ := Aside0.mk (Kd.R_elder' (by (with_reducible repeat (first | apply Kd.R_alloc | apply Kd.R_drewN | apply Kd.R_drew)); exact HO_491001.out) (Kd.R_base ho1) hb)
                        have n4_ := Aside0.mk (Kd.R_lower (Kd.R_new' (Kd.R_new' ho0 (Kd.Q_lt (by (with_reducible repeat (first | apply Kd.Q_alloc | apply Kd.Q_drewN | apply Kd.Q_drew)); exact HO_485000.out))) (Kd.Q_lt (by (with_reducible repeat (first | apply Kd.Q_alloc | apply Kd.Q_drewN | apply Kd.Q_drew)); exact HO_491000.out))) (below_size (by repeat (first | (with_reducible first | exact HB.out | apply below_alloc | apply pw_below_drewN | apply below_drew1 | refine below_set ?_ GE484.out | refine below_set ?_ GE490.out) | exact HB.out))))
                        have n5_ := Aside0.mk (Kd.R_lower (Kd.R_new' (Kd.R_new' ho1 (Kd.R_lt (by (with_reducible repeat (first | apply Kd.R_alloc | apply Kd.R_drewN | apply Kd.R_drew)); exact HO_485001.out))) (Kd.R_lt (by (with_reducible repeat (first | apply Kd.R_alloc | apply Kd.R_drewN | apply Kd.R_drew)); exact HO_491001.out))) (below_size (by repeat (first | (with_reducible first | exact HB.out | apply below_alloc | apply pw_below_drewN | apply below_drew1 | refine below_set ?_ GE484.out | refine below_set ?_ GE490.out) | exact HB.out))))
                        have n6_ := Aside0.mk (blk_below (g := gb484) (o := .cells #[.slice Ao10 t477.length co10, .slice Ao12 t480.length co12, .int .i64 ((l1.length : Int) % 3)] 26 (0, 0)) (by (with_reducible repeat (first | refine blk_drewN ?_ _ | refine blk_drew ?_ | refine blk_alloc ?_ _)); exact BK484.out) hb)
                        have n7_ := Aside0.mk (blk_below (g := gb490) (o := .cells #[.slice Ao106 x491000_3.length co106, .slice Ao107 x491001_3.length co107, .int .i64 x491002_3] 26 (0, 0)) (by (with_reducible repeat (first | refine blk_drewN ?_ _ | refine blk_drew ?_ | refine blk_alloc ?_ _)); exact BK490.out) hb)
                        have n8_ := Aside0.mk (below_step (by repeat (first | (with_reducible first | exact HB.out | apply below_alloc | apply pw_below_drewN | apply below_drew1 | refine below_set ?_ GE484.out | refine below_set ?_ GE490.out) | exact HB.out)) hb)
                        clear HO_485000
                        clear HO_485001
                        clear HO_491000
                        clear HO_491001
                        clear BK484
                        clear BK490
                        clear HB
                        have HO_485000 := n0_
                        have HO_485001 := n1_
                        have HO_491000 := n2_
                        have HO_491001 := n3_
                        have HO493 := n4_
                        have HO496 := n5_
                        have BK484 := n6_
                        have BK490 := n7_
                        have HB := n8_
                        clear n0_ n1_ n2_ n3_ n4_ n5_ n6_ n7_ n8_
                        (try clear hb)
                        (try clear hb2)
                        (try clear hk)
                        (try clear hi)
                        (try clear ho0)
                        (try clear ho1)
                        obtain ⟨Ao109, co109, eo109⟩ := Kd.R_slice HO493.out
                        (first | subst eo109 | (injection eo109 with f1_ f2_ f3_; have f4_ := f1_.symm; have f5_ := f3_.symm; clear f1_ f2_ f3_; subst f4_; subst f5_))
                        obtain ⟨Ao110, co110, eo110⟩ := Kd.R_slice HO496.out
                        (first | subst eo110 | (injection eo110 with f1_ f2_ f3_; have f4_ := f1_.symm; have f5_ := f3_.symm; clear f1_ f2_ f3_; subst f4_; subst f5_))
                        refine hK.out _ _ ⟨(blk_cell BK490.out 0).trans rfl, (blk_cell BK490.out 1).trans rfl, (blk_cell BK490.out 2).trans rfl, (blk_cell BK484.out 0).trans rfl, (blk_cell BK484.out 1).trans rfl, (blk_cell BK484.out 2).trans rfl⟩ (fun hHeld => ?_)
                        clear hK K
                        refine norm_ (a' := ?_) ?_ ?_
                        rotate_left
                        · show Act.put _ (some 80) _ = _
                          simp only [Act.put, List.setIfInBounds_toArray, List.set_cons_zero, List.set_cons_succ, i64_w, i32_w]
                          rfl
                        refine one_ (i := 3) (N := some 82) #[true, true, true, true, false, false, false, false, false, false, false, false, false, false, false, false, false, false, false, false, false, false] rfl rfl (one_of HT_.out (by kernel_rfl)) (by decide) (fun K hK => ?_)
                        refine goes_ Try.func27 (by kernel_rfl) rfl #[.agg #[.slice Ao109 t491.length co109, .slice Ao110 t494.length co110, .int .i64 t497], .agg #[.slice Ao106 x491000_3.length co106, .slice Ao107 x491001_3.length co107, .int .i64 x491002_3]] (by rfl) rfl rfl (by (try simp only [List.map_toArray, List.map_cons, List.map_nil]); first | done | rfl | (simp only [List.length_drop, List.length_take]; rfl)) ?_
                        with_reducible refine (laws_wmDisk.calls k3 _ _ t491 _ _ t494 t497 _ _ x491000_3 _ _ x491001_3 x491002_3 true _ ?side1 ?side2 ?side3 ?side4 ?side5 ?side6 ?side7 ?side8 A102.out).mono ?_
                        (case side1 => repeat (first | exact (Kd.R_reads' HO493.out).2.2 | (with_reducible refine Kd.C_alloc ?_ _) | (with_reducible refine Kd.C_drewN ?_ _) | (with_reducible refine Kd.C_drew ?_)))
                        (case side2 => exact (Kd.R_reads' HO493.out).2.1)
                        (case side3 => repeat (first | exact (Kd.R_reads' HO496.out).2.2 | (with_reducible refine Kd.C_alloc ?_ _) | (with_reducible refine Kd.C_drewN ?_ _) | (with_reducible refine Kd.C_drew ?_)))
                        (case side4 => exact (Kd.R_reads' HO496.out).2.1)
                        (case side5 => repeat (first | exact (Kd.Q_reads' HO_491000.out).2.2 | (with_reducible refine Kd.C_alloc ?_ _) | (with_reducible refine Kd.C_drewN ?_ _) | (with_reducible refine Kd.C_drew ?_)))
                        (case side6 => exact (Kd.Q_reads' HO_491000.out).2.1)
                        (case side7 => repeat (first | exact (Kd.R_reads' HO_491001.out).2.2 | (with_reducible refine Kd.C_alloc ?_ _) | (with_reducible refine Kd.C_drewN ?_ _) | (with_reducible refine Kd.C_drew ?_)))
                        (case side8 => exact (Kd.R_reads' HO_491001.out).2.1)
                        rintro e w111 ⟨rfl, hb⟩
                        refine ⟨_, rfl, ?_⟩
                        have n0_ := Aside0.mk (Kd.Q_below (by (with_reducible repeat (first | apply Kd.Q_alloc | apply Kd.Q_drewN | apply Kd.Q_drew)); exact HO_485000.out) hb)
                        have n1_ := Aside0.mk (Kd.R_below (by (with_reducible repeat (first | apply Kd.R_alloc | apply Kd.R_drewN | apply Kd.R_drew)); exact HO_485001.out) hb)
                        have n2_ := Aside0.mk (Kd.Q_below (by (with_reducible repeat (first | apply Kd.Q_alloc | apply Kd.Q_drewN | apply Kd.Q_drew)); exact HO_491000.out) hb)
                        have n3_ := Aside0.mk (Kd.R_below (by (with_reducible repeat (first | apply Kd.R_alloc | apply Kd.R_drewN | apply Kd.R_drew)); exact HO_491001.out) hb)
                        have n4_ := Aside0.mk (Kd.R_below (by (with_reducible repeat (first | apply Kd.R_alloc | apply Kd.R_drewN | apply Kd.R_drew)); exact HO493.out) hb)
                        have n5_ := Aside0.mk (Kd.R_below (by (with_reducible repeat (first | apply Kd.R_alloc | apply Kd.R_drewN | apply Kd.R_drew)); exact HO496.out) hb)
                        have n6_ := Aside0.mk (blk_below (g := gb484) (o := .cells #[.slice Ao10 t477.length co10, .slice Ao12 t480.length co12, .int .i64 ((l1.length : Int) % 3)] 26 (0, 0)) (by (with_reducible repeat (first | refine blk_drewN ?_ _ | refine blk_drew ?_ | refine blk_alloc ?_ _)); exact BK484.out) hb)
                        have n7_ := Aside0.mk (blk_below (g := gb490) (o := .cells #[.slice Ao106 x491000_3.length co106, .slice Ao107 x491001_3.length co107, .int .i64 x491002_3] 26 (0, 0)) (by (with_reducible repeat (first | refine blk_drewN ?_ _ | refine blk_drew ?_ | refine blk_alloc ?_ _)); exact BK490.out) hb)
                        have n8_ := Aside0.mk (below_step (by repeat (first | (with_reducible first | exact HB.out | apply below_alloc | apply pw_below_drewN | apply below_drew1 | refine below_set ?_ GE484.out | refine below_set ?_ GE490.out) | exact HB.out)) hb)
                        clear HO_485000
                        clear HO_485001
                        clear HO_491000
                        clear HO_491001
                        clear HO493
                        clear HO496
                        clear BK484
                        clear BK490
                        clear HB
                        have HO_485000 := n0_
                        have HO_485001 := n1_
                        have HO_491000 := n2_
                        have HO_491001 := n3_
                        have HO493 := n4_
                        have HO496 := n5_
                        have BK484 := n6_
                        have BK490 := n7_
                        have HB := n8_
                        clear n0_ n1_ n2_ n3_ n4_ n5_ n6_ n7_ n8_
                        (try clear hb)
                        (try clear hb2)
                        (try clear hk)
                        (try clear hi)
                        refine hK.out _ _ ⟨(blk_cell BK490.out 0).trans rfl, (blk_cell BK490.out 1).trans rfl, (blk_cell BK490.out 2).trans rfl, (blk_cell BK484.out 0).trans rfl, (blk_cell BK484.out 1).trans rfl, (blk_cell BK484.out 2).trans rfl⟩ (fun hHeld => ?_)
                        clear hK K
                        refine norm_ (a' := ?_) ?_ ?_
                        rotate_left
                        · show Act.put _ (some 82) _ = _
                          simp only [Act.put, List.setIfInBounds_toArray, List.set_cons_zero, List.set_cons_succ, i64_w, i32_w]
                          rfl
                        refine pure_ (i := 4) (N := some 83) (v := ?_) (a' := ?_) #[true, true, true, true, true, false, false, false, false, false, false, false, false, false, false, false, false, false, false, false, false, false] rfl rfl (any_of HT_.out (by kernel_rfl)) (fun _ _ _ h => h) (Or.inl ⟨by rfl, ?_⟩) ?_ ?_
                        rotate_left
                        · intro w'
                          go_simp
                          with_reducible rfl
                        rotate_left
                        · simp only [Act.put, List.setIfInBounds_toArray, List.set_cons_zero, List.set_cons_succ, i64_w, i32_w]
                          rfl
                        refine pure_ (i := 5) (N := some 84) (v := ?_) (a' := ?_) #[true, true, true, true, true, true, false, false, false, false, false, false, false, false, false, false, false, false, false, false, false, false] rfl rfl (any_of HT_.out (by kernel_rfl)) (fun _ _ _ h => h) (Or.inl ⟨by rfl, ?_⟩) ?_ ?_
                        rotate_left
                        · intro w'
                          go_simp
                          with_reducible rfl
                        rotate_left
                        · simp only [Act.put, List.setIfInBounds_toArray, List.set_cons_zero, List.set_cons_succ, i64_w, i32_w]
                          rfl
                        refine take_ (i := 6) (N := some 85) (v := ?_) (a' := ?_) #[true, true, true, true, true, true, true, false, false, false, false, false, false, false, false, false, false, false, false, false, false, false] rfl rfl (take_ofW HT_.out HW_.out (by kernel_rfl)) (fun _ _ _ h => h) (Or.inl ⟨by rfl, ?_⟩) hHeld ?_ ?_
                        rotate_left
                        · rintro w' ⟨s0, s1, s2, s3, s4, s5⟩
                          go_simp
                          with_reducible rfl
                        rotate_left
                        · simp only [Act.put, List.setIfInBounds_toArray, List.set_cons_zero, List.set_cons_succ, i64_w, i32_w]
                          rfl
                        refine pure_ (i := 7) (N := some 86) (v := ?_) (a' := ?_) #[true, true, true, true, true, true, true, true, false, false, false, false, false, false, false, false, false, false, false, false, false, false] rfl rfl (any_of HT_.out (by kernel_rfl)) (fun _ _ _ h => h) (Or.inl ⟨by rfl, ?_⟩) ?_ ?_
                        rotate_left
                        · intro w'
                          go_simp
                          with_reducible rfl
                        rotate_left
                        · simp only [Act.put, List.setIfInBounds_toArray, List.set_cons_zero, List.set_cons_succ, i64_w, i32_w]
                          rfl
                        refine pure_ (i := 8) (N := some 87) (v := ?_) (a' := ?_) #[true, true, true, true, true, true, true, true, true, false, false, false, false, false, false, false, false, false, false, false, false, false] rfl rfl (any_of HT_.out (by kernel_rfl)) (fun _ _ _ h => h) (Or.inl ⟨by rfl, ?_⟩) ?_ ?_
                        rotate_left
                        · intro w'
                          go_simp
                          with_reducible rfl
                        rotate_left
                        · simp only [Act.put, List.setIfInBounds_toArray, List.set_cons_zero, List.set_cons_succ, i64_w, i32_w]
                          rfl
                        refine pure_ (i := 9) (N := some 88) (v := ?_) (a' := ?_) #[true, true, true, true, true, true, true, true, true, true, false, false, false, false, false, false, false, false, false, false, false, false] rfl rfl (any_of HT_.out (by kernel_rfl)) (fun _ _ _ h => h) (Or.inl ⟨by rfl, ?_⟩) ?_ ?_
                        rotate_left
                        · intro w'
                          go_simp
                          with_reducible rfl
                        rotate_left
                        · simp only [Act.put, List.setIfInBounds_toArray, List.set_cons_zero, List.set_cons_succ, i64_w, i32_w]
                          rfl
                        refine pure_ (i := 10) (N := some 89) (v := ?_) (a' := ?_) #[true, true, true, true, true, true, true, true, true, true, true, false, false, false, false, false, false, false, false, false, false, false] rfl rfl (any_of HT_.out (by kernel_rfl)) (fun _ _ _ h => h) (Or.inl ⟨by rfl, ?_⟩) ?_ ?_
                        rotate_left
                        · intro w'
                          go_simp
                          with_reducible rfl
                        rotate_left
                        · simp only [Act.put, List.setIfInBounds_toArray, List.set_cons_zero, List.set_cons_succ, i64_w, i32_w]
                          rfl
                        refine pure_ (i := 13) (N := some 92) (v := ?_) (a' := ?_) #[true, true, true, true, true, true, true, true, true, true, true, false, false, true, false, false, false, false, false, false, false, false] rfl rfl (any_of HT_.out (by kernel_rfl)) (fun _ _ _ h => h) (Or.inl ⟨by rfl, ?_⟩) ?_ ?_
                        rotate_left
                        · intro w'
                          go_simp
                          with_reducible rfl
                        rotate_left
                        · simp only [Act.put, List.setIfInBounds_toArray, List.set_cons_zero, List.set_cons_succ, i64_w, i32_w]
                          rfl
                        refine pure_ (i := 16) (N := some 95) (v := ?_) (a' := ?_) #[true, true, true, true, true, true, true, true, true, true, true, false, false, true, false, false, true, false, false, false, false, false] rfl rfl (any_of HT_.out (by kernel_rfl)) (fun _ _ _ h => h) (Or.inl ⟨by rfl, ?_⟩) ?_ ?_
                        rotate_left
                        · intro w'
                          go_simp
                          with_reducible rfl
                        rotate_left
                        · simp only [Act.put, List.setIfInBounds_toArray, List.set_cons_zero, List.set_cons_succ, i64_w, i32_w]
                          rfl
                        refine take_ (i := 11) (N := some 90) (v := ?_) (a' := ?_) #[true, true, true, true, true, true, true, true, true, true, true, true, false, true, false, false, true, false, false, false, false, false] rfl rfl (take_ofW HT_.out HW_.out (by kernel_rfl)) (fun _ _ _ h => h) (Or.inl ⟨by rfl, ?_⟩) hHeld ?_ ?_
                        rotate_left
                        · rintro w' ⟨s0, s1, s2, s3, s4, s5⟩
                          go_simp
                          with_reducible rfl
                        rotate_left
                        · simp only [Act.put, List.setIfInBounds_toArray, List.set_cons_zero, List.set_cons_succ, i64_w, i32_w]
                          rfl
                        refine pure_ (i := 12) (N := some 91) (v := ?_) (a' := ?_) #[true, true, true, true, true, true, true, true, true, true, true, true, true, true, false, false, true, false, false, false, false, false] rfl rfl (any_of HT_.out (by kernel_rfl)) (fun _ _ _ h => h) (Or.inl ⟨by rfl, ?_⟩) ?_ ?_
                        rotate_left
                        · intro w'
                          go_simp
                          with_reducible rfl
                        rotate_left
                        · simp only [Act.put, List.setIfInBounds_toArray, List.set_cons_zero, List.set_cons_succ, i64_w, i32_w]
                          rfl
                        refine take_ (i := 14) (N := some 93) (v := ?_) (a' := ?_) #[true, true, true, true, true, true, true, true, true, true, true, true, true, true, true, false, true, false, false, false, false, false] rfl rfl (take_ofW HT_.out HW_.out (by kernel_rfl)) (fun _ _ _ h => h) (Or.inl ⟨by rfl, ?_⟩) hHeld ?_ ?_
                        rotate_left
                        · rintro w' ⟨s0, s1, s2, s3, s4, s5⟩
                          go_simp
                          with_reducible rfl
                        rotate_left
                        · simp only [Act.put, List.setIfInBounds_toArray, List.set_cons_zero, List.set_cons_succ, i64_w, i32_w]
                          rfl
                        refine pure_ (i := 15) (N := some 94) (v := ?_) (a' := ?_) #[true, true, true, true, true, true, true, true, true, true, true, true, true, true, true, true, true, false, false, false, false, false] rfl rfl (any_of HT_.out (by kernel_rfl)) (fun _ _ _ h => h) (Or.inl ⟨by rfl, ?_⟩) ?_ ?_
                        rotate_left
                        · intro w'
                          go_simp
                          with_reducible rfl
                        rotate_left
                        · simp only [Act.put, List.setIfInBounds_toArray, List.set_cons_zero, List.set_cons_succ, i64_w, i32_w]
                          rfl
                        refine take_ (i := 17) (N := some 96) (v := ?_) (a' := ?_) #[true, true, true, true, true, true, true, true, true, true, true, true, true, true, true, true, true, true, false, false, false, false] rfl rfl (take_ofW HT_.out HW_.out (by kernel_rfl)) (fun _ _ _ h => h) (Or.inl ⟨by rfl, ?_⟩) hHeld ?_ ?_
                        rotate_left
                        · rintro w' ⟨s0, s1, s2, s3, s4, s5⟩
                          go_simp
                          with_reducible rfl
                        rotate_left
                        · simp only [Act.put, List.setIfInBounds_toArray, List.set_cons_zero, List.set_cons_succ, i64_w, i32_w]
                          rfl
                        refine pure_ (i := 18) (N := some 97) (v := ?_) (a' := ?_) #[true, true, true, true, true, true, true, true, true, true, true, true, true, true, true, true, true, true, true, false, false, false] rfl rfl (any_of HT_.out (by kernel_rfl)) (fun _ _ _ h => h) (Or.inl ⟨by rfl, ?_⟩) ?_ ?_
                        rotate_left
                        · intro w'
                          go_simp
                          with_reducible rfl
                        rotate_left
                        · simp only [Act.put, List.setIfInBounds_toArray, List.set_cons_zero, List.set_cons_succ, i64_w, i32_w]
                          rfl
                        refine pure_ (i := 19) (N := some 98) (v := ?_) (a' := ?_) #[true, true, true, true, true, true, true, true, true, true, true, true, true, true, true, true, true, true, true, true, false, false] rfl rfl (any_of HT_.out (by kernel_rfl)) (fun _ _ _ h => h) (Or.inl ⟨by rfl, ?_⟩) ?_ ?_
                        rotate_left
                        · intro w'
                          go_simp
                          with_reducible rfl
                        rotate_left
                        · simp only [Act.put, List.setIfInBounds_toArray, List.set_cons_zero, List.set_cons_succ, i64_w, i32_w]
                          rfl
                        refine pure_ (i := 20) (N := some 99) (v := ?_) (a' := ?_) #[true, true, true, true, true, true, true, true, true, true, true, true, true, true, true, true, true, true, true, true, true, false] rfl rfl (any_of HT_.out (by kernel_rfl)) (fun _ _ _ h => h) (Or.inl ⟨by rfl, ?_⟩) ?_ ?_
                        rotate_left
                        · intro w'
                          go_simp
                          with_reducible rfl
                        rotate_left
                        · simp only [Act.put, List.setIfInBounds_toArray, List.set_cons_zero, List.set_cons_succ, i64_w, i32_w]
                          rfl
                        refine pure_ (i := 21) (N := some 4) (v := ?_) (a' := ?_) #[true, true, true, true, true, true, true, true, true, true, true, true, true, true, true, true, true, true, true, true, true, true] rfl rfl (any_of HT_.out (by kernel_rfl)) (fun _ _ _ h => h) (Or.inl ⟨by rfl, ?_⟩) ?_ ?_
                        rotate_left
                        · intro w'
                          go_simp
                          with_reducible rfl
                        rotate_left
                        · simp only [Act.put, List.setIfInBounds_toArray, List.set_cons_zero, List.set_cons_succ, i64_w, i32_w]
                          rfl
                        refine done_ (done_of HT_.out (by kernel_rfl)) ?_
                        try go_wp2
                        go_ret
                        exact ⟨by first | rfl | (simp [errW_none, errW_some] <;> rfl) | (simp [*, errW_none, errW_some] <;> rfl), by repeat (first | (with_reducible first | exact HB.out | apply below_alloc | apply pw_below_drewN | apply below_drew1 | refine below_set ?_ GE484.out | refine below_set ?_ GE490.out) | exact HB.out)⟩
                      · rw [if_neg c104] at H
                        have c104b0 : (x491002_3 == 0) = false := beq_eq_false_iff_ne.mpr c104
                        have c104b1 : (x491002_3 != 0) = true := bne_iff_ne.mpr c104
                        exact absurd ((Option.some.inj H).trans HTru_.out) (by decide)
                    · replace c103 := Bool.eq_false_iff.mpr c103
                      subst c103
                      have H1 : (some false) = some r := by rw [if_neg (show ¬ (false = true) by decide)] at H; exact H
                      clear H
                      have H := H1
                      clear H1
                      exact absurd ((Option.some.inj H).trans HTru_.out) (by decide)
/-- THE ONE PURE STATEMENT of laws_FnDiskStop: yours. -/
def laws_FnDiskStop.Pure : Prop := ∀ (l0 : List Int) (l1 : List Int), l0.length ≤ maxLen → l0.length * 1 ≤ 140737488351232 → (∀ x ∈ l0, (Lit.int .u8 x).wf = true) → l1.length ≤ maxLen → l1.length * 1 ≤ 140737488351232 → (∀ x ∈ l1, (Lit.int .u8 x).wf = true) → ∃ k, laws_FnDiskStop.f k l0 l1 = some true
theorem laws_FnDiskStop.walk (P : laws_FnDiskStop.Pure) (a0 : Option Addr) (len0 cap0 : Nat) (z0 : List Int) (a1 : Option Addr) (len1 cap1 : Nat) (z1 : List Int) (w : World) (w0 : (a0 = none ∧ len0 = 0 ∧ cap0 = 0 ∧ z0 = []) ∨ ∃ x, a0 = some x ∧ len0 ≤ cap0 ∧ cap0 ≤ maxLen ∧ z0.length = cap0 ∧ (∀ i, i < z0.length → w.cell? (x.add i) = some (.int .u8 (z0.getD i 0))) ∧ ∀ n ∈ z0, (Lit.int .u8 n).wf = true) (y0 : len0 * 1 ≤ 140737488351232) (w1 : (a1 = none ∧ len1 = 0 ∧ cap1 = 0 ∧ z1 = []) ∨ ∃ x, a1 = some x ∧ len1 ≤ cap1 ∧ cap1 ≤ maxLen ∧ z1.length = cap1 ∧ (∀ i, i < z1.length → w.cell? (x.add i) = some (.int .u8 (z1.getD i 0))) ∧ ∀ n ∈ z1, (Lit.int .u8 n).wf = true) (y1 : len1 * 1 ≤ 140737488351232) :
    Calls Try.prog 7 #[.slice a0 len0 cap0, .slice a1 len1 cap1] w fun e w' => e = .returned (.bool true) ∧ Below w.heap.size w w' := by
  obtain ⟨l0, rfl, hr0, hm0, hw0, hc0⟩ := ReadsInt.ofRowC w0
  obtain ⟨l1, rfl, hr1, hm1, hw1, hc1⟩ := ReadsInt.ofRowC w1
  obtain ⟨k, h⟩ := P l0 l1 hm0 y0 hw0 hm1 y1 hw1
  refine (laws_FnDiskStop.calls k _ _ l0 _ _ l1 true w (Kd.C_of_reads (d := (0 : Int)) (h1 := fun _ => rfl) hr0) hc0 (Kd.C_of_reads (d := (0 : Int)) (h1 := fun _ => rfl) hr1) hc1 (Aside0.mk rfl) h).mono ?_
  rintro e w' ⟨rfl, hd⟩
  exact ⟨rfl, hd⟩
end Go.Proofs.Ytjmdinhobhoojaa.P
