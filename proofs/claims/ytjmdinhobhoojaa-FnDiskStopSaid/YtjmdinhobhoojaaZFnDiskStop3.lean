/- Functions of the law FnDiskStop as plain Lean functions, and that the machine's calls do what they say. -/
import Derived.Test.YtjmdinhobhoojaaZFnDiskStop0
namespace Go.Proofs.Ytjmdinhobhoojaa.P
open Go.RowKit Go.Proofs.YtjmdinhobhoojaaW.PrintWords Go.Proofs.YtjmdinhobhoojaaW.PrintLast Go.Proofs.YtjmdinhobhoojaaW.PrintMore
attribute [local go_sem] max2_int min2_int max_two min_two max_three min_three max_four min_four   -- for this text's walks alone
set_option linter.unusedVariables false
set_option linter.unusedSimpArgs false
def impl_copyDisk.f (l0_0 : List ByteArray) (l0_1 : List (S_impl_Wait)) (a0_2 : Int) : Option (List ByteArray × (List (S_impl_Wait)) × Int) := (some (([] : List ByteArray) : List ByteArray)).bind fun y452 => (if y452.length + l0_0.length < 8796093022208 then ((some (([] : List (S_impl_Wait)) : List (S_impl_Wait))).bind fun y458 => (if y458.length + l0_1.length < 5864062014805 then (some ((y452 ++ l0_0), (y458 ++ l0_1), a0_2)) else (none))) else (none))
set_option maxHeartbeats 8000000 in
set_option maxRecDepth 100000 in
theorem impl_copyDisk.calls (A0_0 : Option Addr) (c0_0 : Nat) (l0_0 : List ByteArray) (A0_1 : Option Addr) (c0_1 : Nat) (l0_1 : List (S_impl_Wait)) (a0_2 : Int) (r1 : List ByteArray) (r2 : List (S_impl_Wait)) (r3 : Int) (w : World) (hr0_0 : Kd.C Kd.string w A0_0 l0_0.length l0_0) (hc0_0 : l0_0.length ≤ c0_0) (hr0_1 : Kd.C k48 w A0_1 l0_1.length l0_1) (hc0_1 : l0_1.length ≤ c0_1) (h : impl_copyDisk.f l0_0 l0_1 a0_2 = some (r1, r2, r3)) :
    Calls Try.prog 54 #[.agg #[.slice A0_0 l0_0.length c0_0, .slice A0_1 l0_1.length c0_1, .int .i64 a0_2]] w fun e w' => ∃ v0_ v1_ : Value, e = .returned (.agg #[v0_, v1_, .int .i64 r3]) ∧ Kd.R Kd.string 9 w' w.heap.size (fun _ => True) v0_ r1 ∧ Kd.R k48 48 w' w.heap.size (fun _ => True) v1_ r2 ∧ Below w.heap.size w w' := by
  have hu26 := Try.underlying26
  have HR0_0 := Aside0.mk hr0_0
  have HC0_0 := Aside0.mk hc0_0
  clear hr0_0 hc0_0
  have HR0_1 := Aside0.mk hr0_1
  have HC0_1 := Aside0.mk hc0_1
  clear hr0_1 hc0_1
  have HB := Aside0.mk (Below.refl w.heap.size w)
  have H : ((some (([] : List ByteArray) : List ByteArray)).bind fun y452 => (if y452.length + l0_0.length < 8796093022208 then ((some (([] : List (S_impl_Wait)) : List (S_impl_Wait))).bind fun y458 => (if y458.length + l0_1.length < 5864062014805 then (some ((y452 ++ l0_0), (y458 ++ l0_1), a0_2)) else (none))) else (none))) = some (r1, r2, r3) := h
  clear h
  obtain ⟨y452, hy452⟩ : ∃ y_ : List ByteArray, y_ = (([] : List ByteArray)) := ⟨_, rfl⟩
  replace H : (if y452.length + l0_0.length < 8796093022208 then ((some (([] : List (S_impl_Wait)) : List (S_impl_Wait))).bind fun y458 => (if y458.length + l0_1.length < 5864062014805 then (some ((y452 ++ l0_0), (y458 ++ l0_1), a0_2)) else (none))) else (none)) = some (r1, r2, r3) := by first | (rw [hy452]; with_reducible exact H) | (have H2_ := (Option.bind_some _ _).symm.trans H; rw [hy452]; with_reducible exact H2_) | (have H2_ := (Option.bind_some _ _).symm.trans H; with_reducible exact H2_) | with_reducible exact H | (rw [hy452]; exact H) | exact H
  have Ny452 := Aside0.mk hy452
  clear hy452
  by_cases c2 : y452.length + l0_0.length < 8796093022208
  · rw [if_pos c2] at H
    have LMc2 := Aside0.mk c2
    clear c2
    obtain ⟨y455, hy455⟩ : ∃ y_ : List ByteArray, y_ = (y452 ++ l0_0) := ⟨_, rfl⟩
    replace H : ((some (([] : List (S_impl_Wait)) : List (S_impl_Wait))).bind fun y458 => (if y458.length + l0_1.length < 5864062014805 then (some (y455, (y458 ++ l0_1), a0_2)) else (none))) = some (r1, r2, r3) := by first | (rw [hy455]; with_reducible exact H) | (have H2_ := (Option.bind_some _ _).symm.trans H; rw [hy455]; with_reducible exact H2_) | (have H2_ := (Option.bind_some _ _).symm.trans H; with_reducible exact H2_) | with_reducible exact H | (rw [hy455]; exact H) | exact H
    have Ny455 := Aside0.mk hy455
    clear hy455
    obtain ⟨y458, hy458⟩ : ∃ y_ : List (S_impl_Wait), y_ = (([] : List (S_impl_Wait))) := ⟨_, rfl⟩
    replace H : (if y458.length + l0_1.length < 5864062014805 then (some (y455, (y458 ++ l0_1), a0_2)) else (none)) = some (r1, r2, r3) := by first | (rw [hy458]; with_reducible exact H) | (have H2_ := (Option.bind_some _ _).symm.trans H; rw [hy458]; with_reducible exact H2_) | (have H2_ := (Option.bind_some _ _).symm.trans H; with_reducible exact H2_) | with_reducible exact H | (rw [hy458]; exact H) | exact H
    have Ny458 := Aside0.mk hy458
    clear hy458
    by_cases c3 : y458.length + l0_1.length < 5864062014805
    · rw [if_pos c3] at H
      have LMc3 := Aside0.mk c3
      clear c3
      obtain ⟨y461, hy461⟩ : ∃ y_ : List (S_impl_Wait), y_ = (y458 ++ l0_1) := ⟨_, rfl⟩
      replace H : (some (y455, y461, a0_2)) = some (r1, r2, r3) := by first | (rw [hy461]; with_reducible exact H) | (have H2_ := (Option.bind_some _ _).symm.trans H; rw [hy461]; with_reducible exact H2_) | (have H2_ := (Option.bind_some _ _).symm.trans H; with_reducible exact H2_) | with_reducible exact H | (rw [hy461]; exact H) | exact H
      have Ny461 := Aside0.mk hy461
      clear hy461
      simp only [Option.some.injEq, Prod.mk.injEq] at H
      obtain ⟨rfl, rfl, rfl⟩ := H
      go_enter Try.func54, Try.ntmps54
      go_wp2_with (first | ((with_reducible refine gate_dst (N := 1) rfl ?_); refine box_event ?hg (N := 1) ?hd (cs := #[.slice A0_0 l0_0.length c0_0, .slice A0_1 l0_1.length c0_1, .int .i64 a0_2]) (t := 26) ?hr ?_; (case hd => rfl); (case hg => rfl); (case hr => first | (go_simp; done) | (go_simp; rfl)); intro gb450 hg w4 hbox hb; have n0_ := Aside0.mk (below_step (by repeat (first | (with_reducible first | exact HB.out | apply below_alloc | apply pw_below_drewN | apply below_drew1) | exact HB.out)) hb); have n1_ := Aside0.mk (hbox); have n2_ := Aside0.mk ((by rw [hg]; exact (below_size (by repeat (first | (with_reducible first | exact HB.out | apply below_alloc | apply pw_below_drewN | apply below_drew1) | exact HB.out))) : w.heap.size ≤ gb450)); have n3_ := Aside0.mk ((by rw [hg]; exact (below_size (by repeat (first | (with_reducible first | exact HB.out | apply below_alloc | apply pw_below_drewN | apply below_drew1) | exact HB.out))) : w.heap.size ≤ gb450)); clear HB; have HB := n0_; have BK450 := n1_; have GW450 := n2_; have GE450 := n3_; clear n0_ n1_ n2_ n3_; clear hb hbox hg) | ((with_reducible refine gate_dst (N := 2) rfl ?_); refine box_event ?hg (N := 2) ?hd (cs := #[.slice none 0 0, .slice none 0 0, .int .i64 0]) (t := 26) ?hr ?_; (case hd => rfl); (case hg => rfl); (case hr => first | (go_simp; done) | (go_simp; rfl)); intro gb451 hg w5 hbox hb; have n0_ := Aside0.mk (blk_below (g := gb450) (o := .cells #[.slice A0_0 l0_0.length c0_0, .slice A0_1 l0_1.length c0_1, .int .i64 a0_2] 26 (0, 0)) (by (with_reducible repeat (first | refine blk_drewN ?_ _ | refine blk_drew ?_ | refine blk_alloc ?_ _)); exact BK450.out) hb); have n1_ := Aside0.mk (below_step (by repeat (first | (with_reducible first | exact HB.out | apply below_alloc | apply pw_below_drewN | apply below_drew1 | refine below_set ?_ GE450.out) | exact HB.out)) hb); have n2_ := Aside0.mk (hbox); have n3_ := Aside0.mk ((by rw [hg]; exact (below_size (by repeat (first | (with_reducible first | exact HB.out | apply below_alloc | apply pw_below_drewN | apply below_drew1 | refine below_set ?_ GE450.out) | exact HB.out))) : w.heap.size ≤ gb451)); have n4_ := Aside0.mk ((by rw [hg]; exact (below_size (by repeat (first | (with_reducible first | exact HB.out | apply below_alloc | apply pw_below_drewN | apply below_drew1 | refine below_set ?_ GE450.out) | exact HB.out))) : w.heap.size ≤ gb451)); have n5_ := Aside0.mk ((by rw [hg]; exact Nat.ne_of_lt (blk_lt (g := gb450) (o := .cells #[.slice A0_0 l0_0.length c0_0, .slice A0_1 l0_1.length c0_1, .int .i64 a0_2] 26 (0, 0)) (by (with_reducible repeat (first | refine blk_drewN ?_ _ | refine blk_drew ?_ | refine blk_alloc ?_ _)); exact BK450.out)) : gb450 ≠ gb451)); have n6_ := Aside0.mk ((by rw [hg]; exact Nat.ne_of_gt (blk_lt (g := gb450) (o := .cells #[.slice A0_0 l0_0.length c0_0, .slice A0_1 l0_1.length c0_1, .int .i64 a0_2] 26 (0, 0)) (by (with_reducible repeat (first | refine blk_drewN ?_ _ | refine blk_drew ?_ | refine blk_alloc ?_ _)); exact BK450.out)) : gb451 ≠ gb450)); clear BK450; clear HB; have BK450 := n0_; have HB := n1_; have BK451 := n2_; have GW451 := n3_; have GE451 := n4_; have NB450_451 := n5_; have NB451_450 := n6_; clear n0_ n1_ n2_ n3_ n4_ n5_ n6_; clear hb hbox hg) | ((with_reducible refine gate_dst (N := 3) rfl ?_); refine Kd.R_lit Kd.string _ 9 ?hg (N := 3) ?hd (xs := ([] : List ByteArray)) (inner := []) (ok := fun _ => True) (okp := fun _ => True) ?hr ?hp (fun _ hk => hk) trivial (Below.refl _ _) (Nat.le_refl _) (by simp) ?_; (case hd => rfl); (case hg => rfl); (case hr => first | (go_simp; done) | (go_simp; rfl)); (case hp => exact (Reps.none _ _)); intro v453 w6 ho7 hb hg_ hnew_; clear hg_ hnew_; (first | rw [← Ny452.out] at ho7 | (simp only [Int.reduceToNat] at ho7; rw [← Ny452.out] at ho7)); have n0_ := Aside0.mk (Kd.R_lower ho7 (below_size (by repeat (first | (with_reducible first | exact HB.out | apply below_alloc | apply pw_below_drewN | apply below_drew1 | refine below_set ?_ GE450.out | refine below_set ?_ GE451.out) | exact HB.out)))); have n1_ := Aside0.mk (blk_below (g := gb450) (o := .cells #[.slice A0_0 l0_0.length c0_0, .slice A0_1 l0_1.length c0_1, .int .i64 a0_2] 26 (0, 0)) (by (with_reducible repeat (first | refine blk_drewN ?_ _ | refine blk_drew ?_ | refine blk_alloc ?_ _)); exact BK450.out) hb); have n2_ := Aside0.mk (blk_below (g := gb451) (o := .cells #[.slice none 0 0, .slice none 0 0, .int .i64 0] 26 (0, 0)) (by (with_reducible repeat (first | refine blk_drewN ?_ _ | refine blk_drew ?_ | refine blk_alloc ?_ _)); exact BK451.out) hb); have n3_ := Aside0.mk (below_step (by repeat (first | (with_reducible first | exact HB.out | apply below_alloc | apply pw_below_drewN | apply below_drew1 | refine below_set ?_ GE450.out | refine below_set ?_ GE451.out) | exact HB.out)) hb); clear BK450; clear BK451; clear HB; have HO454 := n0_; have BK450 := n1_; have BK451 := n2_; have HB := n3_; clear n0_ n1_ n2_ n3_; clear hb ho7; have hnb8 := NB450_451.out; have hnc8 := NB451_450.out; have hcz9_0 : w6.cell? ⟨gb450, 0, none⟩ = some (.slice A0_0 l0_0.length c0_0) := (blk_cell BK450.out 0).trans rfl; have hcz9_1 : w6.cell? ⟨gb450, 1, none⟩ = some (.slice A0_1 l0_1.length c0_1) := (blk_cell BK450.out 1).trans rfl; have hcz9_2 : w6.cell? ⟨gb450, 2, none⟩ = some (.int .i64 a0_2) := (blk_cell BK450.out 2).trans rfl; have hfz9_0 := blk_frozen BK450.out 0; have hfz9_1 := blk_frozen BK450.out 1; have hfz9_2 := blk_frozen BK450.out 2) | ((with_reducible refine gate_builtin (b := .append) (xs := #[.tmp 3, .tmp 5]) rfl ?_); at_builtin; refine Kd.R_append_rows Kd.string (w0 := w) w.heap.size rfl (.tmp 3) (.tmp 5) 23 9 (.string ⟨#[]⟩) 16 rfl Try.underlying23 info9 rfl (by decide) (by omega) v453 y452 l0_0 _ _ _ (fun _ => True) (fun _ => False) rfl rfl ?aO ?aR (fun _ _ h => h) (fun _ h => h.elim) ?aF ?aB ?aS ?aL ?_; (case aR => repeat (first | exact (Kd.C_below HR0_0.out HB.out) | (with_reducible refine Kd.C_alloc ?_ _) | (with_reducible refine Kd.C_drewN ?_ _) | (with_reducible refine Kd.C_drew ?_))); (case aB => exact (by repeat (first | (with_reducible first | exact HB.out | apply below_alloc | apply pw_below_drewN | apply below_drew1 | refine below_set ?_ GE450.out | refine below_set ?_ GE451.out) | exact HB.out))); (case aF => exact (fun _ _ => trivial)); (case aO => exact (by (with_reducible repeat (first | apply Kd.R_alloc | apply Kd.R_drewN | apply Kd.R_drew)); exact HO454.out)); (case aS => exact (below_size (by repeat (first | (with_reducible first | exact HB.out | apply below_alloc | apply pw_below_drewN | apply below_drew1 | refine below_set ?_ GE450.out | refine below_set ?_ GE451.out) | exact HB.out)))); (case aL => have := LMc2.out; omega); intro v456 w10 ho hb hg hat; rw [← Ny455.out] at ho; have n0_ := Aside0.mk (blk_grown (g := gb450) (o := .cells #[.slice A0_0 l0_0.length c0_0, .slice A0_1 l0_1.length c0_1, .int .i64 a0_2] 26 (0, 0)) (by (with_reducible repeat (first | refine blk_drewN ?_ _ | refine blk_drew ?_ | refine blk_alloc ?_ _)); exact BK450.out) hg (Kd.R_ne HO454.out BK450.out (by decide))); have n1_ := Aside0.mk (blk_grown (g := gb451) (o := .cells #[.slice none 0 0, .slice none 0 0, .int .i64 0] 26 (0, 0)) (by (with_reducible repeat (first | refine blk_drewN ?_ _ | refine blk_drew ?_ | refine blk_alloc ?_ _)); exact BK451.out) hg (Kd.R_ne HO454.out BK451.out (by decide))); have n2_ := Aside0.mk (hb); have n3_ := Aside0.mk (ho); clear BK450; clear BK451; clear HB; clear HO454; have BK450 := n0_; have BK451 := n1_; have HB := n2_; have HO457 := n3_; clear n0_ n1_ n2_ n3_; clear ho hb hg hat; obtain ⟨Ao11, co11, eo11⟩ := Kd.R_slice HO457.out; subst eo11; have hcz12_0 : w10.cell? ⟨gb450, 0, none⟩ = some (.slice A0_0 l0_0.length c0_0) := (blk_cell BK450.out 0).trans rfl; have hcz12_1 : w10.cell? ⟨gb450, 1, none⟩ = some (.slice A0_1 l0_1.length c0_1) := (blk_cell BK450.out 1).trans rfl; have hcz12_2 : w10.cell? ⟨gb450, 2, none⟩ = some (.int .i64 a0_2) := (blk_cell BK450.out 2).trans rfl; have hfz12_0 := blk_frozen BK450.out 0; have hfz12_1 := blk_frozen BK450.out 1; have hfz12_2 := blk_frozen BK450.out 2) | ((with_reducible refine gate_dst (N := 8) rfl ?_); refine Kd.R_lit k48 _ 48 ?hg (N := 8) ?hd (xs := ([] : List (S_impl_Wait))) (inner := []) (ok := fun _ => True) (okp := fun _ => True) ?hr ?hp (fun _ hk => hk) trivial (Below.refl _ _) (Nat.le_refl _) (by simp) ?_; (case hd => rfl); (case hg => rfl); (case hr => first | (go_simp; done) | (go_simp; rfl)); (case hp => exact (Reps.none _ _)); intro v459 w13 ho14 hb hg_ hnew_; clear hg_ hnew_; (first | rw [← Ny458.out] at ho14 | (simp only [Int.reduceToNat] at ho14; rw [← Ny458.out] at ho14)); have n0_ := Aside0.mk (Kd.R_below (by (with_reducible repeat (first | apply Kd.R_alloc | apply Kd.R_drewN | apply Kd.R_drew)); exact (Kd.R_mono (Kd.R_far (p := ⟨gb450, 0, none⟩) (Kd.R_types HO457.out BK450.out (by decide)) (fun _ hk => hk.2) (.slice Ao11 y455.length co11)) (fun _ h_ => h_.1))) hb); have n1_ := Aside0.mk (Kd.R_lower ho14 (below_size (by repeat (first | (with_reducible first | exact HB.out | apply below_alloc | apply pw_below_drewN | apply below_drew1 | refine below_set ?_ GE450.out | refine below_set ?_ GE451.out) | exact HB.out)))); have n2_ := Aside0.mk (blk_below (g := gb450) (o := .cells #[.slice Ao11 y455.length co11, .slice A0_1 l0_1.length c0_1, .int .i64 a0_2] 26 (0, 0)) (by (with_reducible repeat (first | refine blk_drewN ?_ _ | refine blk_drew ?_ | refine blk_alloc ?_ _)); refine blk_put (cs := #[.slice A0_0 l0_0.length c0_0, .slice A0_1 l0_1.length c0_1, .int .i64 a0_2]) ?_ 0 _ rfl; (with_reducible repeat (first | refine blk_drewN ?_ _ | refine blk_drew ?_ | refine blk_alloc ?_ _)); exact BK450.out) hb); have n3_ := Aside0.mk (blk_below (g := gb451) (o := .cells #[.slice none 0 0, .slice none 0 0, .int .i64 0] 26 (0, 0)) (by (with_reducible repeat (first | refine blk_drewN ?_ _ | refine blk_drew ?_ | refine blk_alloc ?_ _)); refine blk_far ?_ NB451_450.out _; (with_reducible repeat (first | refine blk_drewN ?_ _ | refine blk_drew ?_ | refine blk_alloc ?_ _)); exact BK451.out) hb); have n4_ := Aside0.mk (below_step (by repeat (first | (with_reducible first | exact HB.out | apply below_alloc | apply pw_below_drewN | apply below_drew1 | refine below_set ?_ GE450.out | refine below_set ?_ GE451.out) | exact HB.out)) hb); clear HO457; clear BK450; clear BK451; clear HB; have HO457 := n0_; have HO460 := n1_; have BK450 := n2_; have BK451 := n3_; have HB := n4_; clear n0_ n1_ n2_ n3_ n4_; clear hb ho14; have hcz15_0 : w13.cell? ⟨gb450, 0, none⟩ = some (.slice Ao11 y455.length co11) := (blk_cell BK450.out 0).trans rfl; have hcz15_1 : w13.cell? ⟨gb450, 1, none⟩ = some (.slice A0_1 l0_1.length c0_1) := (blk_cell BK450.out 1).trans rfl; have hcz15_2 : w13.cell? ⟨gb450, 2, none⟩ = some (.int .i64 a0_2) := (blk_cell BK450.out 2).trans rfl; have hfz15_0 := blk_frozen BK450.out 0; have hfz15_1 := blk_frozen BK450.out 1; have hfz15_2 := blk_frozen BK450.out 2) | ((with_reducible refine gate_builtin (b := .append) (xs := #[.tmp 8, .tmp 10]) rfl ?_); at_builtin; refine Kd.R_append_rows k48 (w0 := w) w.heap.size rfl (.tmp 8) (.tmp 10) 24 48 (.agg #[(.int .i64 0), (.string ⟨#[]⟩)]) 24 rfl Try.underlying24 info48 rfl (by decide) (by omega) v459 y458 l0_1 _ _ _ (fun _ => True) (fun _ => False) rfl rfl ?aO ?aR (fun _ _ h => h) (fun _ h => h.elim) ?aF ?aB ?aS ?aL ?_; (case aR => repeat (first | exact (Kd.C_below HR0_1.out HB.out) | (with_reducible refine Kd.C_alloc ?_ _) | (with_reducible refine Kd.C_drewN ?_ _) | (with_reducible refine Kd.C_drew ?_))); (case aB => exact (by repeat (first | (with_reducible first | exact HB.out | apply below_alloc | apply pw_below_drewN | apply below_drew1 | refine below_set ?_ GE450.out | refine below_set ?_ GE451.out) | exact HB.out))); (case aF => exact (fun _ _ => trivial)); (case aO => exact (by (with_reducible repeat (first | apply Kd.R_alloc | apply Kd.R_drewN | apply Kd.R_drew)); exact HO460.out)); (case aS => exact (below_size (by repeat (first | (with_reducible first | exact HB.out | apply below_alloc | apply pw_below_drewN | apply below_drew1 | refine below_set ?_ GE450.out | refine below_set ?_ GE451.out) | exact HB.out)))); (case aL => have := LMc3.out; omega); intro v462 w16 ho hb hg hat; rw [← Ny461.out] at ho; have n0_ := Aside0.mk (blk_grown (g := gb450) (o := .cells #[.slice Ao11 y455.length co11, .slice A0_1 l0_1.length c0_1, .int .i64 a0_2] 26 (0, 0)) (by (with_reducible repeat (first | refine blk_drewN ?_ _ | refine blk_drew ?_ | refine blk_alloc ?_ _)); exact BK450.out) hg (Kd.R_ne HO460.out BK450.out (by decide))); have n1_ := Aside0.mk (blk_grown (g := gb451) (o := .cells #[.slice none 0 0, .slice none 0 0, .int .i64 0] 26 (0, 0)) (by (with_reducible repeat (first | refine blk_drewN ?_ _ | refine blk_drew ?_ | refine blk_alloc ?_ _)); exact BK451.out) hg (Kd.R_ne HO460.out BK451.out (by decide))); have n2_ := Aside0.mk (Kd.R_over' (by (with_reducible repeat (first | apply Kd.R_alloc | apply Kd.R_drewN | apply Kd.R_drew)); exact HO457.out) (Kd.R_typed (by (with_reducible repeat (first | apply Kd.R_alloc | apply Kd.R_drewN | apply Kd.R_drew)); exact HO460.out)) (by decide) hg); have n3_ := Aside0.mk (hb); have n4_ := Aside0.mk (ho); clear BK450; clear BK451; clear HO457; clear HB; clear HO460; have BK450 := n0_; have BK451 := n1_; have HO457 := n2_; have HB := n3_; have HO463 := n4_; clear n0_ n1_ n2_ n3_ n4_; clear ho hb hg hat; obtain ⟨Ao17, co17, eo17⟩ := Kd.R_slice HO463.out; subst eo17; have hcz18_0 : w16.cell? ⟨gb450, 0, none⟩ = some (.slice Ao11 y455.length co11) := (blk_cell BK450.out 0).trans rfl; have hcz18_1 : w16.cell? ⟨gb450, 1, none⟩ = some (.slice A0_1 l0_1.length c0_1) := (blk_cell BK450.out 1).trans rfl; have hcz18_2 : w16.cell? ⟨gb450, 2, none⟩ = some (.int .i64 a0_2) := (blk_cell BK450.out 2).trans rfl; have hfz18_0 := blk_frozen BK450.out 0; have hfz18_1 := blk_frozen BK450.out 1; have hfz18_2 := blk_frozen BK450.out 2; have hcz19_0 : w16.cell? ⟨gb451, 0, none⟩ = some (.slice none 0 0) := (blk_cell BK451.out 0).trans rfl; have hcz19_1 : w16.cell? ⟨gb451, 1, none⟩ = some (.slice none 0 0) := (blk_cell BK451.out 1).trans rfl; have hcz19_2 : w16.cell? ⟨gb451, 2, none⟩ = some (.int .i64 0) := (blk_cell BK451.out 2).trans rfl; have hfz19_0 := blk_frozen BK451.out 0; have hfz19_1 := blk_frozen BK451.out 1; have hfz19_2 := blk_frozen BK451.out 2))
      refine bodyPost_ret (results_cell_row rfl _ _ gb451 26 #[.slice Ao11 y455.length co11, .slice Ao17 y461.length co17, .int .i64 a0_2] (0, 0) _ rfl (by (with_reducible repeat (first | refine blk_drewN ?_ _ | refine blk_drew ?_ | refine blk_alloc ?_ _)); refine blk_put (cs := #[.slice Ao11 y455.length co11, .slice Ao17 y461.length co17, .int .i64 0]) ?_ 2 _ rfl; (with_reducible repeat (first | refine blk_drewN ?_ _ | refine blk_drew ?_ | refine blk_alloc ?_ _)); refine blk_put (cs := #[.slice Ao11 y455.length co11, .slice none 0 0, .int .i64 0]) ?_ 1 _ rfl; (with_reducible repeat (first | refine blk_drewN ?_ _ | refine blk_drew ?_ | refine blk_alloc ?_ _)); refine blk_put (cs := #[.slice none 0 0, .slice none 0 0, .int .i64 0]) ?_ 0 _ rfl; (with_reducible repeat (first | refine blk_drewN ?_ _ | refine blk_drew ?_ | refine blk_alloc ?_ _)); refine blk_far ?_ NB451_450.out _; (with_reducible repeat (first | refine blk_drewN ?_ _ | refine blk_drew ?_ | refine blk_alloc ?_ _)); exact BK451.out) Try.underlying26 rfl (by kernel_rfl)) rfl ?_
      exact ⟨_, _, by first | rfl | (simp [errW_none, errW_some] <;> rfl) | (simp [*, errW_none, errW_some] <;> rfl), by (with_reducible repeat (first | apply Kd.R_alloc | apply Kd.R_drewN | apply Kd.R_drew)); exact Kd.R_mono (Kd.R_far (p := ⟨gb451, 2, none⟩) (Kd.R_far (p := ⟨gb451, 1, none⟩) (Kd.R_far (p := ⟨gb451, 0, none⟩) (Kd.R_far (p := ⟨gb450, 1, none⟩) (Kd.R_types (Kd.R_types HO457.out BK450.out (by decide)) BK451.out (by decide)) (fun _ hk => hk.1.2) (.slice Ao17 y461.length co17)) (fun _ hk => hk.2) (.slice Ao11 y455.length co11)) (fun _ hk => hk.2) (.slice Ao17 y461.length co17)) (fun _ hk => hk.2) (.int .i64 a0_2)) (fun _ hk => trivial), by (with_reducible repeat (first | apply Kd.R_alloc | apply Kd.R_drewN | apply Kd.R_drew)); exact Kd.R_mono (Kd.R_far (p := ⟨gb451, 2, none⟩) (Kd.R_far (p := ⟨gb451, 1, none⟩) (Kd.R_far (p := ⟨gb451, 0, none⟩) (Kd.R_far (p := ⟨gb450, 1, none⟩) (Kd.R_types (Kd.R_types HO463.out BK450.out (by decide)) BK451.out (by decide)) (fun _ hk => hk.1.2) (.slice Ao17 y461.length co17)) (fun _ hk => hk.2) (.slice Ao11 y455.length co11)) (fun _ hk => hk.2) (.slice Ao17 y461.length co17)) (fun _ hk => hk.2) (.int .i64 a0_2)) (fun _ hk => trivial), by repeat (first | (with_reducible first | exact HB.out | apply below_alloc | apply pw_below_drewN | apply below_drew1 | refine below_set ?_ GE450.out | refine below_set ?_ GE451.out) | exact HB.out)⟩
    · rw [if_neg c3] at H
      exact absurd H (by simp)
  · rw [if_neg c2] at H
    exact absurd H (by simp)
end Go.Proofs.Ytjmdinhobhoojaa.P
namespace Go.Proofs.Ytjmdinhobhoojaa.P
open Go.RowKit Go.Proofs.YtjmdinhobhoojaaW.PrintWords Go.Proofs.YtjmdinhobhoojaaW.PrintLast Go.Proofs.YtjmdinhobhoojaaW.PrintMore
attribute [local go_sem] max2_int min2_int max_two min_two max_three min_three max_four min_four   -- for this text's walks alone
set_option linter.unusedVariables false
set_option linter.unusedSimpArgs false
theorem infoW48 : (Try.prog.info? 48).map (fun i => (i.zero, i.size, i.bytes)) = some (some (.agg #[(.int .i64 0), (.string ⟨#[]⟩)]), 2, 24) := by kernel_rfl
/-- A write to a disk that lies in a block of its own: it has stopped. -/
theorem disk_write_0 (g : Nat) (A0 : Option Addr) (c0 : Nat) (A1 : Option Addr) (c1 : Nat) (l0 : List ByteArray) (l1 : List (S_impl_Wait)) (a : Int) (s : ByteArray) (w0 W : World) (q : Nat) (cq : Array Value)
    (hbox : W.heap[g]? = some (.cells #[.slice A0 l0.length c0, .slice A1 l1.length c1, .int .i64 0] 26 (0, 0)))
    (ho0 : Kd.R Kd.string 9 W w0.heap.size (fun _ => True) (.slice A0 l0.length c0) l0) (ho1 : Kd.R k48 48 W w0.heap.size (fun _ => True) (.slice A1 l1.length c1) l1)
    (hq : W.heap[q]? = some (.cells cq 26 (0, 0))) (hqg : q ≠ g) (HB : Below w0.heap.size w0 W) :
    Calls Try.prog 55 #[.pointer (some ⟨g, 0, none⟩), .int .i64 a, .string s] W fun e w' => e = .returned (.tuple #[]) ∧ w'.heap[g]? = some (.cells #[.slice A0 l0.length c0, .slice A1 l1.length c1, .int .i64 0] 26 (0, 0)) ∧
      Kd.R Kd.string 9 w' w0.heap.size (fun _ => True) (.slice A0 l0.length c0) l0 ∧ Kd.R k48 48 w' w0.heap.size (fun _ => True) (.slice A1 l1.length c1) l1 ∧ Below w0.heap.size w0 w' ∧ w'.heap[q]? = some (.cells cq 26 (0, 0)) := by
  have HX := Aside0.mk hbox
  have HQ := Aside0.mk hq
  have NQ := Aside0.mk hqg
  clear hq hqg
  have HO0 := Aside0.mk ho0
  have HO1 := Aside0.mk ho1
  have HB' := Aside0.mk HB
  clear ho0 ho1 HB hbox
  have z0 : W.cell? ⟨g, 0, none⟩ = some (.slice A0 l0.length c0) := (blk_cell HX.out 0).trans rfl
  have z1 : W.cell? ⟨g, 1, none⟩ = some (.slice A1 l1.length c1) := (blk_cell HX.out 1).trans rfl
  have z2 : W.cell? ⟨g, 2, none⟩ = some (.int .i64 0) := (blk_cell HX.out 2).trans rfl
  have f0 := blk_frozen HX.out 0
  have f1 := blk_frozen HX.out 1
  have f2 := blk_frozen HX.out 2
  go_enter Try.func55, Try.ntmps55
  go_wp2
  go_end0
  exact ⟨rfl, HX.out, HO0.out, HO1.out, HB'.out, HQ.out⟩
/-- A write to a disk that goes on: n' is what is left behind it. -/
theorem disk_write_1 (g : Nat) (A0 : Option Addr) (c0 : Nat) (A1 : Option Addr) (c1 : Nat) (l0 : List ByteArray) (l1 : List (S_impl_Wait)) (n a : Int) (s : ByteArray) (w0 W : World) (q : Nat) (cq : Array Value)
    (hbox : W.heap[g]? = some (.cells #[.slice A0 l0.length c0, .slice A1 l1.length c1, .int .i64 n] 26 (0, 0)))
    (ho0 : Kd.R Kd.string 9 W w0.heap.size (fun _ => True) (.slice A0 l0.length c0) l0) (ho1 : Kd.R k48 48 W w0.heap.size (fun _ => True) (.slice A1 l1.length c1) l1)
    (hq : W.heap[q]? = some (.cells cq 26 (0, 0))) (hqg : q ≠ g) (HB : Below w0.heap.size w0 W) (hg : w0.heap.size ≤ g) (hn : 0 < n) (hl : l1.length < 5864062014805) :
    Calls Try.prog 55 #[.pointer (some ⟨g, 0, none⟩), .int .i64 a, .string s] W fun e w' => e = .returned (.tuple #[]) ∧ ∃ v1 : Value, w'.heap[g]? = some (.cells #[.slice A0 l0.length c0, v1, .int .i64 (wrap64 (n - 1))] 26 (0, 0)) ∧
      Kd.R Kd.string 9 w' w0.heap.size (fun _ => True) (.slice A0 l0.length c0) l0 ∧ Kd.R k48 48 w' w0.heap.size (fun _ => True) v1 (l1 ++ [(⟨a, s⟩ : S_impl_Wait)]) ∧ Below w0.heap.size w0 w' ∧ w'.heap[q]? = some (.cells cq 26 (0, 0)) := by
  obtain ⟨y, hy⟩ : ∃ y : List (S_impl_Wait), y = l1 ++ [(⟨a, s⟩ : S_impl_Wait)] := ⟨_, rfl⟩
  rw [← hy]
  have NY := Aside0.mk hy
  clear hy
  have HX := Aside0.mk hbox
  have HQ := Aside0.mk hq
  have NQ := Aside0.mk hqg
  clear hq hqg
  have HO0 := Aside0.mk ho0
  have HO1 := Aside0.mk ho1
  have HB' := Aside0.mk HB
  have HG := Aside0.mk hg
  have HL := Aside0.mk hl
  clear ho0 ho1 HB hbox hg hl
  have z0 : W.cell? ⟨g, 0, none⟩ = some (.slice A0 l0.length c0) := (blk_cell HX.out 0).trans rfl
  have z1 : W.cell? ⟨g, 1, none⟩ = some (.slice A1 l1.length c1) := (blk_cell HX.out 1).trans rfl
  have z2 : W.cell? ⟨g, 2, none⟩ = some (.int .i64 n) := (blk_cell HX.out 2).trans rfl
  have f0 := blk_frozen HX.out 0
  have f1 := blk_frozen HX.out 1
  have f2 := blk_frozen HX.out 2
  have t0 : (n == 0) = false := beq_eq_false_iff_ne.mpr (by omega)
  have t1 : decide (0 < n) = true := decide_eq_true hn
  clear hn
  have HP := Aside0.mk (blk_put HX.out 2 (.int .i64 (wrap64 (n - 1))) rfl)
  have HQ1 := Aside0.mk (Kd.R_set HO1.out HX.out (by decide) 2 (.int .i64 (wrap64 (n - 1))))
  have HQ0 := Aside0.mk (Kd.R_set HO0.out HX.out (by decide) 2 (.int .i64 (wrap64 (n - 1))))
  have HQ' := Aside0.mk (blk_far (p := ⟨g, 2, none⟩) HQ.out NQ.out (.int .i64 (wrap64 (n - 1))))
  have HQB := Aside0.mk (below_set (j := 2) (v := .int .i64 (wrap64 (n - 1))) HB'.out HG.out)
  go_enter Try.func55, Try.ntmps55
  go_wp2_with (first | go_in | (at_builtin; refine Kd.R_append k48 (w0 := w0) w0.heap.size rfl (.tmp 12) (.tmp 16) 24 48 (.agg #[(.int .i64 0), (.string ⟨#[]⟩)]) 24 rfl Try.underlying24 infoW48 rfl (by decide) (by omega) (.slice A1 l1.length c1) l1 (⟨a, s⟩ : S_impl_Wait) [.int .i64 a, .string s] (fun _ => True) (fun _ => False) rfl ?aX ?aP (fun _ hk => hk.elim) (fun _ _ => trivial) ?aO ?aB ?aS ?aL ?_; (case aX => first | rfl | (go_simp; done) | (go_simp; rfl)); (case aP => exact k48_mkM _ _ _ (⟨a, s⟩ : S_impl_Wait)); (case aB => exact HQB.out); (case aO => exact HQ1.out); (case aS => exact below_size HQB.out); (case aL => have := HL.out; omega); intro v1 w25 ho hb hgr hat; rw [← NY.out] at ho; have HO' := Aside0.mk ho; have HBB := Aside0.mk hb; have HZ := Aside0.mk (blk_grown HP.out hgr (Kd.R_ne HQ1.out HP.out (by decide))); have HQ2 := Aside0.mk (blk_grown HQ'.out hgr (Kd.R_ne HQ1.out HQ'.out (by decide))); have HR0 := Aside0.mk (Kd.R_over' HQ0.out (Kd.R_typed HQ1.out) (by decide) hgr); clear ho hb hgr hat; obtain ⟨Ao, co, eo⟩ := Kd.R_slice HO'.out; subst eo; have y0 : w25.cell? ⟨g, 0, none⟩ = some (.slice A0 l0.length c0) := (blk_cell HZ.out 0).trans rfl; have y1 : w25.cell? ⟨g, 1, none⟩ = some (.slice A1 l1.length c1) := (blk_cell HZ.out 1).trans rfl; have h1 := blk_frozen HZ.out 1))
  go_end0
  exact ⟨rfl, _, blk_put HZ.out 1 _ rfl, Kd.R_set HR0.out HZ.out (by decide) 1 _, Kd.R_set HO'.out HZ.out (by decide) 1 _, below_set HBB.out HG.out, blk_far HQ2.out NQ.out _⟩
/-- A write to a disk that never stops. -/
theorem disk_write_2 (g : Nat) (A0 : Option Addr) (c0 : Nat) (A1 : Option Addr) (c1 : Nat) (l0 : List ByteArray) (l1 : List (S_impl_Wait)) (n a : Int) (s : ByteArray) (w0 W : World) (q : Nat) (cq : Array Value)
    (hbox : W.heap[g]? = some (.cells #[.slice A0 l0.length c0, .slice A1 l1.length c1, .int .i64 n] 26 (0, 0)))
    (ho0 : Kd.R Kd.string 9 W w0.heap.size (fun _ => True) (.slice A0 l0.length c0) l0) (ho1 : Kd.R k48 48 W w0.heap.size (fun _ => True) (.slice A1 l1.length c1) l1)
    (hq : W.heap[q]? = some (.cells cq 26 (0, 0))) (hqg : q ≠ g) (HB : Below w0.heap.size w0 W) (hg : w0.heap.size ≤ g) (hn : n < 0) (hl : l1.length < 5864062014805) :
    Calls Try.prog 55 #[.pointer (some ⟨g, 0, none⟩), .int .i64 a, .string s] W fun e w' => e = .returned (.tuple #[]) ∧ ∃ v1 : Value, w'.heap[g]? = some (.cells #[.slice A0 l0.length c0, v1, .int .i64 n] 26 (0, 0)) ∧
      Kd.R Kd.string 9 w' w0.heap.size (fun _ => True) (.slice A0 l0.length c0) l0 ∧ Kd.R k48 48 w' w0.heap.size (fun _ => True) v1 (l1 ++ [(⟨a, s⟩ : S_impl_Wait)]) ∧ Below w0.heap.size w0 w' ∧ w'.heap[q]? = some (.cells cq 26 (0, 0)) := by
  obtain ⟨y, hy⟩ : ∃ y : List (S_impl_Wait), y = l1 ++ [(⟨a, s⟩ : S_impl_Wait)] := ⟨_, rfl⟩
  rw [← hy]
  have NY := Aside0.mk hy
  clear hy
  have HX := Aside0.mk hbox
  have HQ := Aside0.mk hq
  have NQ := Aside0.mk hqg
  clear hq hqg
  have HO0 := Aside0.mk ho0
  have HO1 := Aside0.mk ho1
  have HB' := Aside0.mk HB
  have HG := Aside0.mk hg
  have HL := Aside0.mk hl
  clear ho0 ho1 HB hbox hg hl
  have z0 : W.cell? ⟨g, 0, none⟩ = some (.slice A0 l0.length c0) := (blk_cell HX.out 0).trans rfl
  have z1 : W.cell? ⟨g, 1, none⟩ = some (.slice A1 l1.length c1) := (blk_cell HX.out 1).trans rfl
  have z2 : W.cell? ⟨g, 2, none⟩ = some (.int .i64 n) := (blk_cell HX.out 2).trans rfl
  have f0 := blk_frozen HX.out 0
  have f1 := blk_frozen HX.out 1
  have f2 := blk_frozen HX.out 2
  have t0 : (n == 0) = false := beq_eq_false_iff_ne.mpr (by omega)
  have t1 : decide (0 < n) = false := decide_eq_false (by omega)
  clear hn
  go_enter Try.func55, Try.ntmps55
  go_wp2_with (first | go_in | (at_builtin; refine Kd.R_append k48 (w0 := w0) w0.heap.size rfl (.tmp 12) (.tmp 16) 24 48 (.agg #[(.int .i64 0), (.string ⟨#[]⟩)]) 24 rfl Try.underlying24 infoW48 rfl (by decide) (by omega) (.slice A1 l1.length c1) l1 (⟨a, s⟩ : S_impl_Wait) [.int .i64 a, .string s] (fun _ => True) (fun _ => False) rfl ?aX ?aP (fun _ hk => hk.elim) (fun _ _ => trivial) ?aO ?aB ?aS ?aL ?_; (case aX => first | rfl | (go_simp; done) | (go_simp; rfl)); (case aP => exact k48_mkM _ _ _ (⟨a, s⟩ : S_impl_Wait)); (case aB => exact HB'.out); (case aO => exact HO1.out); (case aS => exact below_size HB'.out); (case aL => have := HL.out; omega); intro v1 w25 ho hb hgr hat; rw [← NY.out] at ho; have HO' := Aside0.mk ho; have HBB := Aside0.mk hb; have HZ := Aside0.mk (blk_grown HX.out hgr (Kd.R_ne HO1.out HX.out (by decide))); have HQ2 := Aside0.mk (blk_grown HQ.out hgr (Kd.R_ne HO1.out HQ.out (by decide))); have HR0 := Aside0.mk (Kd.R_over' HO0.out (Kd.R_typed HO1.out) (by decide) hgr); clear ho hb hgr hat; obtain ⟨Ao, co, eo⟩ := Kd.R_slice HO'.out; subst eo; have y0 : w25.cell? ⟨g, 0, none⟩ = some (.slice A0 l0.length c0) := (blk_cell HZ.out 0).trans rfl; have y1 : w25.cell? ⟨g, 1, none⟩ = some (.slice A1 l1.length c1) := (blk_cell HZ.out 1).trans rfl; have h1 := blk_frozen HZ.out 1))
  go_end0
  exact ⟨rfl, _, blk_put HZ.out 1 _ rfl, Kd.R_set HR0.out HZ.out (by decide) 1 _, Kd.R_set HO'.out HZ.out (by decide) 1 _, below_set HBB.out HG.out, blk_far HQ2.out NQ.out _⟩
def impl_DiskWrite.f (k : Nat) (l0_0 : List ByteArray) (l0_1 : List (S_impl_Wait)) (a0_2 : Int) (a1 : Int) (a2 : ByteArray) : Option (List ByteArray × (List (S_impl_Wait)) × Int) := (impl_isDisk.f k l0_0 l0_1 a0_2).bind fun t => (if t = true then ((impl_copyDisk.f l0_0 l0_1 a0_2).bind fun c => ((impl_isBlock.f a1).bind fun u => (if u = true then (if (a2.size : Int) ≤ 200 then (if c.2.2 = 0 then (some (c.1, c.2.1, c.2.2)) else (if c.2.1.length < 5864062014805 then (some (c.1, c.2.1 ++ [(⟨a1, a2⟩ : S_impl_Wait)], if 0 < c.2.2 then wrap64 (c.2.2 - 1) else c.2.2)) else none)) else (some (c.1, c.2.1, c.2.2))) else (some (c.1, c.2.1, c.2.2))))) else (some (([] : List ByteArray), ([] : List (S_impl_Wait)), 0)))
set_option maxHeartbeats 8000000 in
set_option maxRecDepth 100000 in
theorem impl_DiskWrite.calls_0 (k : Nat) (A0_0 : Option Addr) (c0_0 : Nat) (l0_0 : List ByteArray) (A0_1 : Option Addr) (c0_1 : Nat) (l0_1 : List (S_impl_Wait)) (a0_2 : Int) (a1 : Int) (a2 : ByteArray) (w : World) (hr0_0 : Kd.C Kd.string w A0_0 l0_0.length l0_0) (hc0_0 : l0_0.length ≤ c0_0) (hr0_1 : Kd.C k48 w A0_1 l0_1.length l0_1) (hc0_1 : l0_1.length ≤ c0_1) (A3 : impl_isDisk.f k l0_0 l0_1 a0_2 = some false) :
    Calls Try.prog 26 #[.agg #[.slice A0_0 l0_0.length c0_0, .slice A0_1 l0_1.length c0_1, .int .i64 a0_2], .int .i64 a1, .string a2] w fun e w' => ∃ v0_ v1_ : Value, e = .returned (.agg #[v0_, v1_, .int .i64 0]) ∧ Kd.R Kd.string 9 w' w.heap.size (fun _ => True) v0_ [] ∧ Kd.R k48 48 w' w.heap.size (fun _ => True) v1_ [] ∧ Below w.heap.size w w' := by
  have hu26 := Try.underlying26
  have HR0_0 := Aside0.mk hr0_0
  have HC0_0 := Aside0.mk hc0_0
  clear hr0_0 hc0_0
  have HR0_1 := Aside0.mk hr0_1
  have HC0_1 := Aside0.mk hc0_1
  clear hr0_1 hc0_1
  have HB := Aside0.mk (Below.refl w.heap.size w)
  have A3 := Aside0.mk A3
  go_enter Try.func26, Try.ntmps26
  go_wp2_with (first | ((with_reducible refine gate_dst (N := 3) rfl ?_); refine box_event ?hg (N := 3) ?hd (cs := #[.slice A0_0 l0_0.length c0_0, .slice A0_1 l0_1.length c0_1, .int .i64 a0_2]) (t := 26) ?hr ?_; (case hd => rfl); (case hg => rfl); (case hr => first | (go_simp; done) | (go_simp; rfl)); intro gb hg w8 hbox hb; have n0_ := Aside0.mk (below_step HB.out hb); have n1_ := Aside0.mk hbox; have n2_ := Aside0.mk ((by rw [hg]; exact below_size HB.out) : w.heap.size ≤ gb); clear HB; have HB := n0_; have BK := n1_; have GE := n2_; clear n0_ n1_ n2_; clear hb hbox hg) | ((with_reducible refine gate_dst (N := 6) rfl ?_); refine box_event ?hg (N := 6) ?hd (cs := #[.slice none 0 0, .slice none 0 0, .int .i64 0]) (t := 26) ?hr ?_; (case hd => rfl); (case hg => rfl); (case hr => first | (go_simp; done) | (go_simp; rfl)); intro gr hg w9 hbox hb; have n0_ := Aside0.mk (below_step HB.out hb); have n1_ := Aside0.mk hbox; have n2_ := Aside0.mk ((by rw [hg]; exact below_size HB.out) : w.heap.size ≤ gr); have n3_ := Aside0.mk (blk_below BK.out hb); have n4_ := Aside0.mk ((by rw [hg]; exact Nat.ne_of_lt (blk_lt BK.out)) : gb ≠ gr); have n5_ := Aside0.mk ((by rw [hg]; exact Nat.ne_of_gt (blk_lt BK.out)) : gr ≠ gb); clear HB BK; have HB := n0_; have BR := n1_; have GR := n2_; have BK := n3_; have NE := n4_; have NE' := n5_; clear n0_ n1_ n2_ n3_ n4_ n5_; clear hb hbox hg; have hne := NE.out; have hne' := NE'.out; have p0 : w9.cell? ⟨gb, 0, none⟩ = some (.slice A0_0 l0_0.length c0_0) := (blk_cell BK.out 0).trans rfl; have p1 : w9.cell? ⟨gb, 1, none⟩ = some (.slice A0_1 l0_1.length c0_1) := (blk_cell BK.out 1).trans rfl; have p2 : w9.cell? ⟨gb, 2, none⟩ = some (.int .i64 a0_2) := (blk_cell BK.out 2).trans rfl; have pf0 := blk_frozen BK.out 0; have pf1 := blk_frozen BK.out 1; have pf2 := blk_frozen BK.out 2) | (go_at_call 48; (with_reducible refine (impl_isDisk.calls k _ _ l0_0 _ _ l0_1 a0_2 false _ (Kd.C_below HR0_0.out HB.out) HC0_0.out (Kd.C_below HR0_1.out HB.out) HC0_1.out A3.out).mono ?_); rintro e w10 ⟨rfl, hb⟩; have n0_ := Aside0.mk (blk_below (g := gb) BK.out hb); have n1_ := Aside0.mk (below_step HB.out hb); have n2_ := Aside0.mk (blk_below (g := gr) BR.out hb); clear BK BR HB hb; have BK := n0_; have HB := n1_; have BR := n2_; clear n0_ n1_ n2_; have q0 : w10.cell? ⟨gb, 0, none⟩ = some (.slice A0_0 l0_0.length c0_0) := (blk_cell BK.out 0).trans rfl; have q1 : w10.cell? ⟨gb, 1, none⟩ = some (.slice A0_1 l0_1.length c0_1) := (blk_cell BK.out 1).trans rfl; have q2 : w10.cell? ⟨gb, 2, none⟩ = some (.int .i64 a0_2) := (blk_cell BK.out 2).trans rfl; have qf0 := blk_frozen BK.out 0; have qf1 := blk_frozen BK.out 1; have qf2 := blk_frozen BK.out 2; have r0 : w10.cell? ⟨gr, 0, none⟩ = some (.slice none 0 0) := (blk_cell BR.out 0).trans rfl; have r1 : w10.cell? ⟨gr, 1, none⟩ = some (.slice none 0 0) := (blk_cell BR.out 1).trans rfl; have r2 : w10.cell? ⟨gr, 2, none⟩ = some (.int .i64 0) := (blk_cell BR.out 2).trans rfl; have rf0 := blk_frozen BR.out 0; have rf1 := blk_frozen BR.out 1; have rf2 := blk_frozen BR.out 2))
  refine bodyPost_ret (results_cell_row rfl _ _ gr 26 #[.slice none 0 0, .slice none 0 0, .int .i64 0] (0, 0) _ rfl (by (with_reducible repeat (first | refine blk_drewN ?_ _ | refine blk_drew ?_ | refine blk_alloc ?_ _)); refine blk_put (cs := #[.slice none 0 0, .slice none 0 0, .int .i64 0]) ?_ 2 _ rfl; refine blk_put (cs := #[.slice none 0 0, .slice none 0 0, .int .i64 0]) ?_ 1 _ rfl; refine blk_put (cs := #[.slice none 0 0, .slice none 0 0, .int .i64 0]) ?_ 0 _ rfl; exact BR.out) Try.underlying26 rfl (by kernel_rfl)) rfl ?_
  exact ⟨_, _, rfl, Kd.R_nil _ _ _ _ _, Kd.R_nil _ _ _ _ _, by repeat (first | (with_reducible first | exact HB.out | apply below_alloc | apply pw_below_drewN | apply below_drew1 | refine below_set ?_ GE.out | refine below_set ?_ GR.out) | exact HB.out)⟩
set_option maxHeartbeats 8000000 in
set_option maxRecDepth 100000 in
theorem impl_DiskWrite.calls_1 (k : Nat) (A0_0 : Option Addr) (c0_0 : Nat) (l0_0 : List ByteArray) (A0_1 : Option Addr) (c0_1 : Nat) (l0_1 : List (S_impl_Wait)) (a0_2 : Int) (a1 : Int) (a2 : ByteArray) (c1 : List ByteArray) (c2 : List (S_impl_Wait)) (c3 : Int) (w : World) (hr0_0 : Kd.C Kd.string w A0_0 l0_0.length l0_0) (hc0_0 : l0_0.length ≤ c0_0) (hr0_1 : Kd.C k48 w A0_1 l0_1.length l0_1) (hc0_1 : l0_1.length ≤ c0_1) (A3 : impl_isDisk.f k l0_0 l0_1 a0_2 = some true) (A5 : impl_copyDisk.f l0_0 l0_1 a0_2 = some (c1, c2, c3)) (A6 : impl_isBlock.f a1 = some false) :
    Calls Try.prog 26 #[.agg #[.slice A0_0 l0_0.length c0_0, .slice A0_1 l0_1.length c0_1, .int .i64 a0_2], .int .i64 a1, .string a2] w fun e w' => ∃ v0_ v1_ : Value, e = .returned (.agg #[v0_, v1_, .int .i64 c3]) ∧ Kd.R Kd.string 9 w' w.heap.size (fun _ => True) v0_ c1 ∧ Kd.R k48 48 w' w.heap.size (fun _ => True) v1_ c2 ∧ Below w.heap.size w w' := by
  have hu26 := Try.underlying26
  have HR0_0 := Aside0.mk hr0_0
  have HC0_0 := Aside0.mk hc0_0
  clear hr0_0 hc0_0
  have HR0_1 := Aside0.mk hr0_1
  have HC0_1 := Aside0.mk hc0_1
  clear hr0_1 hc0_1
  have HB := Aside0.mk (Below.refl w.heap.size w)
  have A3 := Aside0.mk A3
  have A5 := Aside0.mk A5
  have A6 := Aside0.mk A6
  go_enter Try.func26, Try.ntmps26
  go_wp2_with (first | ((with_reducible refine gate_dst (N := 3) rfl ?_); refine box_event ?hg (N := 3) ?hd (cs := #[.slice A0_0 l0_0.length c0_0, .slice A0_1 l0_1.length c0_1, .int .i64 a0_2]) (t := 26) ?hr ?_; (case hd => rfl); (case hg => rfl); (case hr => first | (go_simp; done) | (go_simp; rfl)); intro gb hg w8 hbox hb; have n0_ := Aside0.mk (below_step HB.out hb); have n1_ := Aside0.mk hbox; have n2_ := Aside0.mk ((by rw [hg]; exact below_size HB.out) : w.heap.size ≤ gb); clear HB; have HB := n0_; have BK := n1_; have GE := n2_; clear n0_ n1_ n2_; clear hb hbox hg) | ((with_reducible refine gate_dst (N := 6) rfl ?_); refine box_event ?hg (N := 6) ?hd (cs := #[.slice none 0 0, .slice none 0 0, .int .i64 0]) (t := 26) ?hr ?_; (case hd => rfl); (case hg => rfl); (case hr => first | (go_simp; done) | (go_simp; rfl)); intro gr hg w9 hbox hb; have n0_ := Aside0.mk (below_step HB.out hb); have n1_ := Aside0.mk hbox; have n2_ := Aside0.mk ((by rw [hg]; exact below_size HB.out) : w.heap.size ≤ gr); have n3_ := Aside0.mk (blk_below BK.out hb); have n4_ := Aside0.mk ((by rw [hg]; exact Nat.ne_of_lt (blk_lt BK.out)) : gb ≠ gr); have n5_ := Aside0.mk ((by rw [hg]; exact Nat.ne_of_gt (blk_lt BK.out)) : gr ≠ gb); clear HB BK; have HB := n0_; have BR := n1_; have GR := n2_; have BK := n3_; have NE := n4_; have NE' := n5_; clear n0_ n1_ n2_ n3_ n4_ n5_; clear hb hbox hg; have hne := NE.out; have hne' := NE'.out; have p0 : w9.cell? ⟨gb, 0, none⟩ = some (.slice A0_0 l0_0.length c0_0) := (blk_cell BK.out 0).trans rfl; have p1 : w9.cell? ⟨gb, 1, none⟩ = some (.slice A0_1 l0_1.length c0_1) := (blk_cell BK.out 1).trans rfl; have p2 : w9.cell? ⟨gb, 2, none⟩ = some (.int .i64 a0_2) := (blk_cell BK.out 2).trans rfl; have pf0 := blk_frozen BK.out 0; have pf1 := blk_frozen BK.out 1; have pf2 := blk_frozen BK.out 2) | (go_at_call 48; (with_reducible refine (impl_isDisk.calls k _ _ l0_0 _ _ l0_1 a0_2 true _ (Kd.C_below HR0_0.out HB.out) HC0_0.out (Kd.C_below HR0_1.out HB.out) HC0_1.out A3.out).mono ?_); rintro e w10 ⟨rfl, hb⟩; have n0_ := Aside0.mk (blk_below (g := gb) BK.out hb); have n1_ := Aside0.mk (below_step HB.out hb); have n2_ := Aside0.mk (blk_below (g := gr) BR.out hb); clear BK BR HB hb; have BK := n0_; have HB := n1_; have BR := n2_; clear n0_ n1_ n2_; have q0 : w10.cell? ⟨gb, 0, none⟩ = some (.slice A0_0 l0_0.length c0_0) := (blk_cell BK.out 0).trans rfl; have q1 : w10.cell? ⟨gb, 1, none⟩ = some (.slice A0_1 l0_1.length c0_1) := (blk_cell BK.out 1).trans rfl; have q2 : w10.cell? ⟨gb, 2, none⟩ = some (.int .i64 a0_2) := (blk_cell BK.out 2).trans rfl; have qf0 := blk_frozen BK.out 0; have qf1 := blk_frozen BK.out 1; have qf2 := blk_frozen BK.out 2; have r0 : w10.cell? ⟨gr, 0, none⟩ = some (.slice none 0 0) := (blk_cell BR.out 0).trans rfl; have r1 : w10.cell? ⟨gr, 1, none⟩ = some (.slice none 0 0) := (blk_cell BR.out 1).trans rfl; have r2 : w10.cell? ⟨gr, 2, none⟩ = some (.int .i64 0) := (blk_cell BR.out 2).trans rfl; have rf0 := blk_frozen BR.out 0; have rf1 := blk_frozen BR.out 1; have rf2 := blk_frozen BR.out 2) | (go_at_call 54; (with_reducible refine (impl_copyDisk.calls _ _ l0_0 _ _ l0_1 a0_2 c1 c2 c3 _ (Kd.C_below HR0_0.out HB.out) HC0_0.out (Kd.C_below HR0_1.out HB.out) HC0_1.out A5.out).mono ?_); rintro e w11 ⟨v0, v1, rfl, hR0, hR1, hb⟩; have n0_ := Aside0.mk (Kd.R_lower hR0 (below_size HB.out)); have n1_ := Aside0.mk (Kd.R_lower hR1 (below_size HB.out)); have n2_ := Aside0.mk (blk_below (g := gb) BK.out hb); have n3_ := Aside0.mk (blk_below (g := gr) BR.out hb); have n4_ := Aside0.mk (below_step HB.out hb); clear BK BR HB hb hR0 hR1; have HO0 := n0_; have HO1 := n1_; have BK := n2_; have BR := n3_; have HB := n4_; clear n0_ n1_ n2_ n3_ n4_; obtain ⟨B0, d0, e0⟩ := Kd.R_slice HO0.out; subst e0; obtain ⟨B1, d1, e1⟩ := Kd.R_slice HO1.out; subst e1; have u0 : w11.cell? ⟨gb, 0, none⟩ = some (.slice A0_0 l0_0.length c0_0) := (blk_cell BK.out 0).trans rfl; have u1 : w11.cell? ⟨gb, 1, none⟩ = some (.slice A0_1 l0_1.length c0_1) := (blk_cell BK.out 1).trans rfl; have u2 : w11.cell? ⟨gb, 2, none⟩ = some (.int .i64 a0_2) := (blk_cell BK.out 2).trans rfl; have uf0 := blk_frozen BK.out 0; have uf1 := blk_frozen BK.out 1; have uf2 := blk_frozen BK.out 2; have v0 : w11.cell? ⟨gr, 0, none⟩ = some (.slice none 0 0) := (blk_cell BR.out 0).trans rfl; have v1 : w11.cell? ⟨gr, 1, none⟩ = some (.slice none 0 0) := (blk_cell BR.out 1).trans rfl; have v2 : w11.cell? ⟨gr, 2, none⟩ = some (.int .i64 0) := (blk_cell BR.out 2).trans rfl; have vf0 := blk_frozen BR.out 0; have vf1 := blk_frozen BR.out 1; have vf2 := blk_frozen BR.out 2) | (go_at_call 50; (with_reducible refine (impl_isBlock.calls a1 false _ A6.out).mono ?_); rintro e w' ⟨rfl, ⟨nd, rfl⟩⟩))
  refine bodyPost_ret (results_cell_row rfl _ _ gr 26 #[.slice B0 c1.length d0, .slice B1 c2.length d1, .int .i64 c3] (0, 0) _ rfl (by (with_reducible repeat (first | refine blk_drewN ?_ _ | refine blk_drew ?_ | refine blk_alloc ?_ _)); refine blk_put (cs := #[.slice B0 c1.length d0, .slice B1 c2.length d1, .int .i64 0]) ?_ 2 _ rfl; (with_reducible repeat (first | refine blk_drewN ?_ _ | refine blk_drew ?_)); refine blk_put (cs := #[.slice B0 c1.length d0, .slice none 0 0, .int .i64 0]) ?_ 1 _ rfl; (with_reducible repeat (first | refine blk_drewN ?_ _ | refine blk_drew ?_)); refine blk_put (cs := #[.slice none 0 0, .slice none 0 0, .int .i64 0]) ?_ 0 _ rfl; (with_reducible repeat (first | refine blk_drewN ?_ _ | refine blk_drew ?_)); refine blk_far ?_ NE'.out _; refine blk_far ?_ NE'.out _; refine blk_far ?_ NE'.out _; exact BR.out) Try.underlying26 rfl (by kernel_rfl)) rfl ?_
  exact ⟨_, _, rfl, by (with_reducible repeat (first | apply Kd.R_alloc | apply Kd.R_drewN | apply Kd.R_drew)); exact Kd.R_mono (Kd.R_far (p := ⟨gr, 2, none⟩) (Kd.R_far (p := ⟨gr, 1, none⟩) (Kd.R_far (p := ⟨gr, 0, none⟩) (Kd.R_far (p := ⟨gb, 2, none⟩) (Kd.R_far (p := ⟨gb, 1, none⟩) (Kd.R_far (p := ⟨gb, 0, none⟩) (Kd.R_types (Kd.R_types HO0.out BK.out (by decide)) BR.out (by decide)) (fun _ hk => hk.1.2) _) (fun _ hk => hk.1.2) _) (fun _ hk => hk.1.2) _) (fun _ hk => hk.2) _) (fun _ hk => hk.2) _) (fun _ hk => hk.2) _) (fun _ hk => hk.1.1), by (with_reducible repeat (first | apply Kd.R_alloc | apply Kd.R_drewN | apply Kd.R_drew)); exact Kd.R_mono (Kd.R_far (p := ⟨gr, 2, none⟩) (Kd.R_far (p := ⟨gr, 1, none⟩) (Kd.R_far (p := ⟨gr, 0, none⟩) (Kd.R_far (p := ⟨gb, 2, none⟩) (Kd.R_far (p := ⟨gb, 1, none⟩) (Kd.R_far (p := ⟨gb, 0, none⟩) (Kd.R_types (Kd.R_types HO1.out BK.out (by decide)) BR.out (by decide)) (fun _ hk => hk.1.2) _) (fun _ hk => hk.1.2) _) (fun _ hk => hk.1.2) _) (fun _ hk => hk.2) _) (fun _ hk => hk.2) _) (fun _ hk => hk.2) _) (fun _ hk => hk.1.1), by repeat (first | (with_reducible first | exact HB.out | apply below_alloc | apply pw_below_drewN | apply below_drew1 | refine below_set ?_ GE.out | refine below_set ?_ GR.out) | exact HB.out)⟩
set_option maxHeartbeats 8000000 in
set_option maxRecDepth 100000 in
theorem impl_DiskWrite.calls_2 (k : Nat) (A0_0 : Option Addr) (c0_0 : Nat) (l0_0 : List ByteArray) (A0_1 : Option Addr) (c0_1 : Nat) (l0_1 : List (S_impl_Wait)) (a0_2 : Int) (a1 : Int) (a2 : ByteArray) (c1 : List ByteArray) (c2 : List (S_impl_Wait)) (c3 : Int) (w : World) (hr0_0 : Kd.C Kd.string w A0_0 l0_0.length l0_0) (hc0_0 : l0_0.length ≤ c0_0) (hr0_1 : Kd.C k48 w A0_1 l0_1.length l0_1) (hc0_1 : l0_1.length ≤ c0_1) (A3 : impl_isDisk.f k l0_0 l0_1 a0_2 = some true) (A5 : impl_copyDisk.f l0_0 l0_1 a0_2 = some (c1, c2, c3)) (A6 : impl_isBlock.f a1 = some true) (hs : ¬ (a2.size : Int) ≤ 200) :
    Calls Try.prog 26 #[.agg #[.slice A0_0 l0_0.length c0_0, .slice A0_1 l0_1.length c0_1, .int .i64 a0_2], .int .i64 a1, .string a2] w fun e w' => ∃ v0_ v1_ : Value, e = .returned (.agg #[v0_, v1_, .int .i64 c3]) ∧ Kd.R Kd.string 9 w' w.heap.size (fun _ => True) v0_ c1 ∧ Kd.R k48 48 w' w.heap.size (fun _ => True) v1_ c2 ∧ Below w.heap.size w w' := by
  have hu26 := Try.underlying26
  have HR0_0 := Aside0.mk hr0_0
  have HC0_0 := Aside0.mk hc0_0
  clear hr0_0 hc0_0
  have HR0_1 := Aside0.mk hr0_1
  have HC0_1 := Aside0.mk hc0_1
  clear hr0_1 hc0_1
  have HB := Aside0.mk (Below.refl w.heap.size w)
  have A3 := Aside0.mk A3
  have A5 := Aside0.mk A5
  have A6 := Aside0.mk A6
  have s0 : decide ((a2.size : Int) ≤ 200) = false := decide_eq_false hs
  have s1 : decide (a2.size ≤ 200) = false := decide_eq_false (by omega)
  clear hs
  go_enter Try.func26, Try.ntmps26
  go_wp2_with (first | ((with_reducible refine gate_dst (N := 3) rfl ?_); refine box_event ?hg (N := 3) ?hd (cs := #[.slice A0_0 l0_0.length c0_0, .slice A0_1 l0_1.length c0_1, .int .i64 a0_2]) (t := 26) ?hr ?_; (case hd => rfl); (case hg => rfl); (case hr => first | (go_simp; done) | (go_simp; rfl)); intro gb hg w8 hbox hb; have n0_ := Aside0.mk (below_step HB.out hb); have n1_ := Aside0.mk hbox; have n2_ := Aside0.mk ((by rw [hg]; exact below_size HB.out) : w.heap.size ≤ gb); clear HB; have HB := n0_; have BK := n1_; have GE := n2_; clear n0_ n1_ n2_; clear hb hbox hg) | ((with_reducible refine gate_dst (N := 6) rfl ?_); refine box_event ?hg (N := 6) ?hd (cs := #[.slice none 0 0, .slice none 0 0, .int .i64 0]) (t := 26) ?hr ?_; (case hd => rfl); (case hg => rfl); (case hr => first | (go_simp; done) | (go_simp; rfl)); intro gr hg w9 hbox hb; have n0_ := Aside0.mk (below_step HB.out hb); have n1_ := Aside0.mk hbox; have n2_ := Aside0.mk ((by rw [hg]; exact below_size HB.out) : w.heap.size ≤ gr); have n3_ := Aside0.mk (blk_below BK.out hb); have n4_ := Aside0.mk ((by rw [hg]; exact Nat.ne_of_lt (blk_lt BK.out)) : gb ≠ gr); have n5_ := Aside0.mk ((by rw [hg]; exact Nat.ne_of_gt (blk_lt BK.out)) : gr ≠ gb); clear HB BK; have HB := n0_; have BR := n1_; have GR := n2_; have BK := n3_; have NE := n4_; have NE' := n5_; clear n0_ n1_ n2_ n3_ n4_ n5_; clear hb hbox hg; have hne := NE.out; have hne' := NE'.out; have p0 : w9.cell? ⟨gb, 0, none⟩ = some (.slice A0_0 l0_0.length c0_0) := (blk_cell BK.out 0).trans rfl; have p1 : w9.cell? ⟨gb, 1, none⟩ = some (.slice A0_1 l0_1.length c0_1) := (blk_cell BK.out 1).trans rfl; have p2 : w9.cell? ⟨gb, 2, none⟩ = some (.int .i64 a0_2) := (blk_cell BK.out 2).trans rfl; have pf0 := blk_frozen BK.out 0; have pf1 := blk_frozen BK.out 1; have pf2 := blk_frozen BK.out 2) | (go_at_call 48; (with_reducible refine (impl_isDisk.calls k _ _ l0_0 _ _ l0_1 a0_2 true _ (Kd.C_below HR0_0.out HB.out) HC0_0.out (Kd.C_below HR0_1.out HB.out) HC0_1.out A3.out).mono ?_); rintro e w10 ⟨rfl, hb⟩; have n0_ := Aside0.mk (blk_below (g := gb) BK.out hb); have n1_ := Aside0.mk (below_step HB.out hb); have n2_ := Aside0.mk (blk_below (g := gr) BR.out hb); clear BK BR HB hb; have BK := n0_; have HB := n1_; have BR := n2_; clear n0_ n1_ n2_; have q0 : w10.cell? ⟨gb, 0, none⟩ = some (.slice A0_0 l0_0.length c0_0) := (blk_cell BK.out 0).trans rfl; have q1 : w10.cell? ⟨gb, 1, none⟩ = some (.slice A0_1 l0_1.length c0_1) := (blk_cell BK.out 1).trans rfl; have q2 : w10.cell? ⟨gb, 2, none⟩ = some (.int .i64 a0_2) := (blk_cell BK.out 2).trans rfl; have qf0 := blk_frozen BK.out 0; have qf1 := blk_frozen BK.out 1; have qf2 := blk_frozen BK.out 2; have r0 : w10.cell? ⟨gr, 0, none⟩ = some (.slice none 0 0) := (blk_cell BR.out 0).trans rfl; have r1 : w10.cell? ⟨gr, 1, none⟩ = some (.slice none 0 0) := (blk_cell BR.out 1).trans rfl; have r2 : w10.cell? ⟨gr, 2, none⟩ = some (.int .i64 0) := (blk_cell BR.out 2).trans rfl; have rf0 := blk_frozen BR.out 0; have rf1 := blk_frozen BR.out 1; have rf2 := blk_frozen BR.out 2) | (go_at_call 54; (with_reducible refine (impl_copyDisk.calls _ _ l0_0 _ _ l0_1 a0_2 c1 c2 c3 _ (Kd.C_below HR0_0.out HB.out) HC0_0.out (Kd.C_below HR0_1.out HB.out) HC0_1.out A5.out).mono ?_); rintro e w11 ⟨v0, v1, rfl, hR0, hR1, hb⟩; have n0_ := Aside0.mk (Kd.R_lower hR0 (below_size HB.out)); have n1_ := Aside0.mk (Kd.R_lower hR1 (below_size HB.out)); have n2_ := Aside0.mk (blk_below (g := gb) BK.out hb); have n3_ := Aside0.mk (blk_below (g := gr) BR.out hb); have n4_ := Aside0.mk (below_step HB.out hb); clear BK BR HB hb hR0 hR1; have HO0 := n0_; have HO1 := n1_; have BK := n2_; have BR := n3_; have HB := n4_; clear n0_ n1_ n2_ n3_ n4_; obtain ⟨B0, d0, e0⟩ := Kd.R_slice HO0.out; subst e0; obtain ⟨B1, d1, e1⟩ := Kd.R_slice HO1.out; subst e1; have u0 : w11.cell? ⟨gb, 0, none⟩ = some (.slice A0_0 l0_0.length c0_0) := (blk_cell BK.out 0).trans rfl; have u1 : w11.cell? ⟨gb, 1, none⟩ = some (.slice A0_1 l0_1.length c0_1) := (blk_cell BK.out 1).trans rfl; have u2 : w11.cell? ⟨gb, 2, none⟩ = some (.int .i64 a0_2) := (blk_cell BK.out 2).trans rfl; have uf0 := blk_frozen BK.out 0; have uf1 := blk_frozen BK.out 1; have uf2 := blk_frozen BK.out 2; have v0 : w11.cell? ⟨gr, 0, none⟩ = some (.slice none 0 0) := (blk_cell BR.out 0).trans rfl; have v1 : w11.cell? ⟨gr, 1, none⟩ = some (.slice none 0 0) := (blk_cell BR.out 1).trans rfl; have v2 : w11.cell? ⟨gr, 2, none⟩ = some (.int .i64 0) := (blk_cell BR.out 2).trans rfl; have vf0 := blk_frozen BR.out 0; have vf1 := blk_frozen BR.out 1; have vf2 := blk_frozen BR.out 2) | (go_at_call 50; (with_reducible refine (impl_isBlock.calls a1 true _ A6.out).mono ?_); rintro e w' ⟨rfl, ⟨nd, rfl⟩⟩))
  refine bodyPost_ret (results_cell_row rfl _ _ gr 26 #[.slice B0 c1.length d0, .slice B1 c2.length d1, .int .i64 c3] (0, 0) _ rfl (by (with_reducible repeat (first | refine blk_drewN ?_ _ | refine blk_drew ?_ | refine blk_alloc ?_ _)); refine blk_put (cs := #[.slice B0 c1.length d0, .slice B1 c2.length d1, .int .i64 0]) ?_ 2 _ rfl; (with_reducible repeat (first | refine blk_drewN ?_ _ | refine blk_drew ?_)); refine blk_put (cs := #[.slice B0 c1.length d0, .slice none 0 0, .int .i64 0]) ?_ 1 _ rfl; (with_reducible repeat (first | refine blk_drewN ?_ _ | refine blk_drew ?_)); refine blk_put (cs := #[.slice none 0 0, .slice none 0 0, .int .i64 0]) ?_ 0 _ rfl; (with_reducible repeat (first | refine blk_drewN ?_ _ | refine blk_drew ?_)); refine blk_far ?_ NE'.out _; refine blk_far ?_ NE'.out _; refine blk_far ?_ NE'.out _; exact BR.out) Try.underlying26 rfl (by kernel_rfl)) rfl ?_
  exact ⟨_, _, rfl, by (with_reducible repeat (first | apply Kd.R_alloc | apply Kd.R_drewN | apply Kd.R_drew)); exact Kd.R_mono (Kd.R_far (p := ⟨gr, 2, none⟩) (Kd.R_far (p := ⟨gr, 1, none⟩) (Kd.R_far (p := ⟨gr, 0, none⟩) (Kd.R_far (p := ⟨gb, 2, none⟩) (Kd.R_far (p := ⟨gb, 1, none⟩) (Kd.R_far (p := ⟨gb, 0, none⟩) (Kd.R_types (Kd.R_types HO0.out BK.out (by decide)) BR.out (by decide)) (fun _ hk => hk.1.2) _) (fun _ hk => hk.1.2) _) (fun _ hk => hk.1.2) _) (fun _ hk => hk.2) _) (fun _ hk => hk.2) _) (fun _ hk => hk.2) _) (fun _ hk => hk.1.1), by (with_reducible repeat (first | apply Kd.R_alloc | apply Kd.R_drewN | apply Kd.R_drew)); exact Kd.R_mono (Kd.R_far (p := ⟨gr, 2, none⟩) (Kd.R_far (p := ⟨gr, 1, none⟩) (Kd.R_far (p := ⟨gr, 0, none⟩) (Kd.R_far (p := ⟨gb, 2, none⟩) (Kd.R_far (p := ⟨gb, 1, none⟩) (Kd.R_far (p := ⟨gb, 0, none⟩) (Kd.R_types (Kd.R_types HO1.out BK.out (by decide)) BR.out (by decide)) (fun _ hk => hk.1.2) _) (fun _ hk => hk.1.2) _) (fun _ hk => hk.1.2) _) (fun _ hk => hk.2) _) (fun _ hk => hk.2) _) (fun _ hk => hk.2) _) (fun _ hk => hk.1.1), by repeat (first | (with_reducible first | exact HB.out | apply below_alloc | apply pw_below_drewN | apply below_drew1 | refine below_set ?_ GE.out | refine below_set ?_ GR.out) | exact HB.out)⟩
set_option maxHeartbeats 8000000 in
set_option maxRecDepth 100000 in
theorem impl_DiskWrite.calls_3 (k : Nat) (A0_0 : Option Addr) (c0_0 : Nat) (l0_0 : List ByteArray) (A0_1 : Option Addr) (c0_1 : Nat) (l0_1 : List (S_impl_Wait)) (a0_2 : Int) (a1 : Int) (a2 : ByteArray) (c1 : List ByteArray) (c2 : List (S_impl_Wait)) (c3 : Int) (w : World) (hr0_0 : Kd.C Kd.string w A0_0 l0_0.length l0_0) (hc0_0 : l0_0.length ≤ c0_0) (hr0_1 : Kd.C k48 w A0_1 l0_1.length l0_1) (hc0_1 : l0_1.length ≤ c0_1) (A3 : impl_isDisk.f k l0_0 l0_1 a0_2 = some true) (A5 : impl_copyDisk.f l0_0 l0_1 a0_2 = some (c1, c2, c3)) (A6 : impl_isBlock.f a1 = some true) (hs : (a2.size : Int) ≤ 200) (hz : c3 = 0) :
    Calls Try.prog 26 #[.agg #[.slice A0_0 l0_0.length c0_0, .slice A0_1 l0_1.length c0_1, .int .i64 a0_2], .int .i64 a1, .string a2] w fun e w' => ∃ v0_ v1_ : Value, e = .returned (.agg #[v0_, v1_, .int .i64 0]) ∧ Kd.R Kd.string 9 w' w.heap.size (fun _ => True) v0_ c1 ∧ Kd.R k48 48 w' w.heap.size (fun _ => True) v1_ c2 ∧ Below w.heap.size w w' := by
  have hu26 := Try.underlying26
  have HR0_0 := Aside0.mk hr0_0
  have HC0_0 := Aside0.mk hc0_0
  clear hr0_0 hc0_0
  have HR0_1 := Aside0.mk hr0_1
  have HC0_1 := Aside0.mk hc0_1
  clear hr0_1 hc0_1
  have HB := Aside0.mk (Below.refl w.heap.size w)
  subst hz
  have A3 := Aside0.mk A3
  have A5 := Aside0.mk A5
  have A6 := Aside0.mk A6
  have s0 : decide ((a2.size : Int) ≤ 200) = true := decide_eq_true hs
  have s1 : decide (a2.size ≤ 200) = true := decide_eq_true (by omega)
  clear hs
  go_enter Try.func26, Try.ntmps26
  go_wp2_with (first | ((with_reducible refine gate_dst (N := 3) rfl ?_); refine box_event ?hg (N := 3) ?hd (cs := #[.slice A0_0 l0_0.length c0_0, .slice A0_1 l0_1.length c0_1, .int .i64 a0_2]) (t := 26) ?hr ?_; (case hd => rfl); (case hg => rfl); (case hr => first | (go_simp; done) | (go_simp; rfl)); intro gb hg w8 hbox hb; have n0_ := Aside0.mk (below_step HB.out hb); have n1_ := Aside0.mk hbox; have n2_ := Aside0.mk ((by rw [hg]; exact below_size HB.out) : w.heap.size ≤ gb); clear HB; have HB := n0_; have BK := n1_; have GE := n2_; clear n0_ n1_ n2_; clear hb hbox hg) | ((with_reducible refine gate_dst (N := 6) rfl ?_); refine box_event ?hg (N := 6) ?hd (cs := #[.slice none 0 0, .slice none 0 0, .int .i64 0]) (t := 26) ?hr ?_; (case hd => rfl); (case hg => rfl); (case hr => first | (go_simp; done) | (go_simp; rfl)); intro gr hg w9 hbox hb; have n0_ := Aside0.mk (below_step HB.out hb); have n1_ := Aside0.mk hbox; have n2_ := Aside0.mk ((by rw [hg]; exact below_size HB.out) : w.heap.size ≤ gr); have n3_ := Aside0.mk (blk_below BK.out hb); have n4_ := Aside0.mk ((by rw [hg]; exact Nat.ne_of_lt (blk_lt BK.out)) : gb ≠ gr); have n5_ := Aside0.mk ((by rw [hg]; exact Nat.ne_of_gt (blk_lt BK.out)) : gr ≠ gb); clear HB BK; have HB := n0_; have BR := n1_; have GR := n2_; have BK := n3_; have NE := n4_; have NE' := n5_; clear n0_ n1_ n2_ n3_ n4_ n5_; clear hb hbox hg; have hne := NE.out; have hne' := NE'.out; have p0 : w9.cell? ⟨gb, 0, none⟩ = some (.slice A0_0 l0_0.length c0_0) := (blk_cell BK.out 0).trans rfl; have p1 : w9.cell? ⟨gb, 1, none⟩ = some (.slice A0_1 l0_1.length c0_1) := (blk_cell BK.out 1).trans rfl; have p2 : w9.cell? ⟨gb, 2, none⟩ = some (.int .i64 a0_2) := (blk_cell BK.out 2).trans rfl; have pf0 := blk_frozen BK.out 0; have pf1 := blk_frozen BK.out 1; have pf2 := blk_frozen BK.out 2) | (go_at_call 48; (with_reducible refine (impl_isDisk.calls k _ _ l0_0 _ _ l0_1 a0_2 true _ (Kd.C_below HR0_0.out HB.out) HC0_0.out (Kd.C_below HR0_1.out HB.out) HC0_1.out A3.out).mono ?_); rintro e w10 ⟨rfl, hb⟩; have n0_ := Aside0.mk (blk_below (g := gb) BK.out hb); have n1_ := Aside0.mk (below_step HB.out hb); have n2_ := Aside0.mk (blk_below (g := gr) BR.out hb); clear BK BR HB hb; have BK := n0_; have HB := n1_; have BR := n2_; clear n0_ n1_ n2_; have q0 : w10.cell? ⟨gb, 0, none⟩ = some (.slice A0_0 l0_0.length c0_0) := (blk_cell BK.out 0).trans rfl; have q1 : w10.cell? ⟨gb, 1, none⟩ = some (.slice A0_1 l0_1.length c0_1) := (blk_cell BK.out 1).trans rfl; have q2 : w10.cell? ⟨gb, 2, none⟩ = some (.int .i64 a0_2) := (blk_cell BK.out 2).trans rfl; have qf0 := blk_frozen BK.out 0; have qf1 := blk_frozen BK.out 1; have qf2 := blk_frozen BK.out 2; have r0 : w10.cell? ⟨gr, 0, none⟩ = some (.slice none 0 0) := (blk_cell BR.out 0).trans rfl; have r1 : w10.cell? ⟨gr, 1, none⟩ = some (.slice none 0 0) := (blk_cell BR.out 1).trans rfl; have r2 : w10.cell? ⟨gr, 2, none⟩ = some (.int .i64 0) := (blk_cell BR.out 2).trans rfl; have rf0 := blk_frozen BR.out 0; have rf1 := blk_frozen BR.out 1; have rf2 := blk_frozen BR.out 2) | (go_at_call 54; (with_reducible refine (impl_copyDisk.calls _ _ l0_0 _ _ l0_1 a0_2 c1 c2 0 _ (Kd.C_below HR0_0.out HB.out) HC0_0.out (Kd.C_below HR0_1.out HB.out) HC0_1.out A5.out).mono ?_); rintro e w11 ⟨v0, v1, rfl, hR0, hR1, hb⟩; have n0_ := Aside0.mk (Kd.R_lower hR0 (below_size HB.out)); have n1_ := Aside0.mk (Kd.R_lower hR1 (below_size HB.out)); have n2_ := Aside0.mk (blk_below (g := gb) BK.out hb); have n3_ := Aside0.mk (blk_below (g := gr) BR.out hb); have n4_ := Aside0.mk (below_step HB.out hb); clear BK BR HB hb hR0 hR1; have HO0 := n0_; have HO1 := n1_; have BK := n2_; have BR := n3_; have HB := n4_; clear n0_ n1_ n2_ n3_ n4_; obtain ⟨B0, d0, e0⟩ := Kd.R_slice HO0.out; subst e0; obtain ⟨B1, d1, e1⟩ := Kd.R_slice HO1.out; subst e1; have u0 : w11.cell? ⟨gb, 0, none⟩ = some (.slice A0_0 l0_0.length c0_0) := (blk_cell BK.out 0).trans rfl; have u1 : w11.cell? ⟨gb, 1, none⟩ = some (.slice A0_1 l0_1.length c0_1) := (blk_cell BK.out 1).trans rfl; have u2 : w11.cell? ⟨gb, 2, none⟩ = some (.int .i64 a0_2) := (blk_cell BK.out 2).trans rfl; have uf0 := blk_frozen BK.out 0; have uf1 := blk_frozen BK.out 1; have uf2 := blk_frozen BK.out 2; have v0 : w11.cell? ⟨gr, 0, none⟩ = some (.slice none 0 0) := (blk_cell BR.out 0).trans rfl; have v1 : w11.cell? ⟨gr, 1, none⟩ = some (.slice none 0 0) := (blk_cell BR.out 1).trans rfl; have v2 : w11.cell? ⟨gr, 2, none⟩ = some (.int .i64 0) := (blk_cell BR.out 2).trans rfl; have vf0 := blk_frozen BR.out 0; have vf1 := blk_frozen BR.out 1; have vf2 := blk_frozen BR.out 2) | (go_at_call 50; (with_reducible refine (impl_isBlock.calls a1 true _ A6.out).mono ?_); rintro e w' ⟨rfl, ⟨nd, rfl⟩⟩) | (go_at_call 55; (with_reducible refine (disk_write_0 gb B0 d0 B1 d1 c1 c2 a1 a2 w _ gr #[.slice none 0 0, .slice none 0 0, .int .i64 0] ?w1 ?w2 ?w3 ?w5 NE'.out ?w4).mono ?_); (case w1 => exact (by (with_reducible repeat (first | refine blk_drewN ?_ _ | refine blk_drew ?_ | refine blk_alloc ?_ _)); refine blk_put (cs := #[.slice B0 c1.length d0, .slice B1 c2.length d1, .int .i64 a0_2]) ?_ 2 _ rfl; refine blk_put (cs := #[.slice B0 c1.length d0, .slice A0_1 l0_1.length c0_1, .int .i64 a0_2]) ?_ 1 _ rfl; refine blk_put (cs := #[.slice A0_0 l0_0.length c0_0, .slice A0_1 l0_1.length c0_1, .int .i64 a0_2]) ?_ 0 _ rfl; exact BK.out)); (case w2 => exact (by (with_reducible repeat (first | apply Kd.R_alloc | apply Kd.R_drewN | apply Kd.R_drew)); exact Kd.R_mono (Kd.R_far (p := ⟨gb, 2, none⟩) (Kd.R_far (p := ⟨gb, 1, none⟩) (Kd.R_far (p := ⟨gb, 0, none⟩) (Kd.R_types HO0.out BK.out (by decide)) (fun _ hk => hk.2) _) (fun _ hk => hk.2) _) (fun _ hk => hk.2) _) (fun _ hk => hk.1))); (case w3 => exact (by (with_reducible repeat (first | apply Kd.R_alloc | apply Kd.R_drewN | apply Kd.R_drew)); exact Kd.R_mono (Kd.R_far (p := ⟨gb, 2, none⟩) (Kd.R_far (p := ⟨gb, 1, none⟩) (Kd.R_far (p := ⟨gb, 0, none⟩) (Kd.R_types HO1.out BK.out (by decide)) (fun _ hk => hk.2) _) (fun _ hk => hk.2) _) (fun _ hk => hk.2) _) (fun _ hk => hk.1))); (case w4 => exact (by repeat (first | (with_reducible first | exact HB.out | apply below_alloc | apply pw_below_drewN | apply below_drew1 | refine below_set ?_ GE.out | refine below_set ?_ GR.out) | exact HB.out))); (case w5 => exact (by (with_reducible repeat (first | refine blk_drewN ?_ _ | refine blk_drew ?_ | refine blk_alloc ?_ _)); refine blk_far ?_ NE'.out _; refine blk_far ?_ NE'.out _; refine blk_far ?_ NE'.out _; exact BR.out)); rintro e w13 ⟨rfl, hx, h0, h1, hb, hq⟩; have n0_ := Aside0.mk hx; have n1_ := Aside0.mk h0; have n2_ := Aside0.mk h1; have n3_ := Aside0.mk hb; have n4_ := Aside0.mk hq; clear hx h0 h1 hb hq BK BR HB HO0 HO1; have BK := n0_; have HO0 := n1_; have HO1 := n2_; have HB := n3_; have BR := n4_; clear n0_ n1_ n2_ n3_ n4_; have x0 : w13.cell? ⟨gb, 0, none⟩ = some (.slice B0 c1.length d0) := (blk_cell BK.out 0).trans rfl; have x1 : w13.cell? ⟨gb, 1, none⟩ = some (.slice B1 c2.length d1) := (blk_cell BK.out 1).trans rfl; have x2 : w13.cell? ⟨gb, 2, none⟩ = some (.int .i64 0) := (blk_cell BK.out 2).trans rfl; have xf0 := blk_frozen BK.out 0; have xf1 := blk_frozen BK.out 1; have xf2 := blk_frozen BK.out 2; have y0 : w13.cell? ⟨gr, 0, none⟩ = some (.slice none 0 0) := (blk_cell BR.out 0).trans rfl; have y1 : w13.cell? ⟨gr, 1, none⟩ = some (.slice none 0 0) := (blk_cell BR.out 1).trans rfl; have y2 : w13.cell? ⟨gr, 2, none⟩ = some (.int .i64 0) := (blk_cell BR.out 2).trans rfl; have yf0 := blk_frozen BR.out 0; have yf1 := blk_frozen BR.out 1; have yf2 := blk_frozen BR.out 2))
  refine bodyPost_ret (results_cell_row rfl _ _ gr 26 #[.slice B0 c1.length d0, .slice B1 c2.length d1, .int .i64 0] (0, 0) _ rfl (by (with_reducible repeat (first | refine blk_drewN ?_ _ | refine blk_drew ?_ | refine blk_alloc ?_ _)); refine blk_put (cs := #[.slice B0 c1.length d0, .slice B1 c2.length d1, .int .i64 0]) ?_ 2 _ rfl; (with_reducible repeat (first | refine blk_drewN ?_ _ | refine blk_drew ?_)); refine blk_put (cs := #[.slice B0 c1.length d0, .slice none 0 0, .int .i64 0]) ?_ 1 _ rfl; (with_reducible repeat (first | refine blk_drewN ?_ _ | refine blk_drew ?_)); refine blk_put (cs := #[.slice none 0 0, .slice none 0 0, .int .i64 0]) ?_ 0 _ rfl; (with_reducible repeat (first | refine blk_drewN ?_ _ | refine blk_drew ?_)); exact BR.out) Try.underlying26 rfl (by kernel_rfl)) rfl ?_
  exact ⟨_, _, rfl, by (with_reducible repeat (first | apply Kd.R_alloc | apply Kd.R_drewN | apply Kd.R_drew)); exact Kd.R_mono (Kd.R_far (p := ⟨gr, 2, none⟩) (Kd.R_far (p := ⟨gr, 1, none⟩) (Kd.R_far (p := ⟨gr, 0, none⟩) (Kd.R_types HO0.out BR.out (by decide)) (fun _ hk => hk.2) _) (fun _ hk => hk.2) _) (fun _ hk => hk.2) _) (fun _ hk => hk.1), by (with_reducible repeat (first | apply Kd.R_alloc | apply Kd.R_drewN | apply Kd.R_drew)); exact Kd.R_mono (Kd.R_far (p := ⟨gr, 2, none⟩) (Kd.R_far (p := ⟨gr, 1, none⟩) (Kd.R_far (p := ⟨gr, 0, none⟩) (Kd.R_types HO1.out BR.out (by decide)) (fun _ hk => hk.2) _) (fun _ hk => hk.2) _) (fun _ hk => hk.2) _) (fun _ hk => hk.1), by repeat (first | (with_reducible first | exact HB.out | apply below_alloc | apply pw_below_drewN | apply below_drew1 | refine below_set ?_ GE.out | refine below_set ?_ GR.out) | exact HB.out)⟩
set_option maxHeartbeats 8000000 in
set_option maxRecDepth 100000 in
theorem impl_DiskWrite.calls_4 (k : Nat) (A0_0 : Option Addr) (c0_0 : Nat) (l0_0 : List ByteArray) (A0_1 : Option Addr) (c0_1 : Nat) (l0_1 : List (S_impl_Wait)) (a0_2 : Int) (a1 : Int) (a2 : ByteArray) (c1 : List ByteArray) (c2 : List (S_impl_Wait)) (c3 : Int) (w : World) (hr0_0 : Kd.C Kd.string w A0_0 l0_0.length l0_0) (hc0_0 : l0_0.length ≤ c0_0) (hr0_1 : Kd.C k48 w A0_1 l0_1.length l0_1) (hc0_1 : l0_1.length ≤ c0_1) (A3 : impl_isDisk.f k l0_0 l0_1 a0_2 = some true) (A5 : impl_copyDisk.f l0_0 l0_1 a0_2 = some (c1, c2, c3)) (A6 : impl_isBlock.f a1 = some true) (hs : (a2.size : Int) ≤ 200) (hz : 0 < c3) (hl : c2.length < 5864062014805) :
    Calls Try.prog 26 #[.agg #[.slice A0_0 l0_0.length c0_0, .slice A0_1 l0_1.length c0_1, .int .i64 a0_2], .int .i64 a1, .string a2] w fun e w' => ∃ v0_ v1_ : Value, e = .returned (.agg #[v0_, v1_, .int .i64 (wrap64 (c3 - 1))]) ∧ Kd.R Kd.string 9 w' w.heap.size (fun _ => True) v0_ c1 ∧ Kd.R k48 48 w' w.heap.size (fun _ => True) v1_ (c2 ++ [(⟨a1, a2⟩ : S_impl_Wait)]) ∧ Below w.heap.size w w' := by
  have hu26 := Try.underlying26
  have HR0_0 := Aside0.mk hr0_0
  have HC0_0 := Aside0.mk hc0_0
  clear hr0_0 hc0_0
  have HR0_1 := Aside0.mk hr0_1
  have HC0_1 := Aside0.mk hc0_1
  clear hr0_1 hc0_1
  have HB := Aside0.mk (Below.refl w.heap.size w)
  obtain ⟨y, hy⟩ : ∃ y : List (S_impl_Wait), y = c2 ++ [(⟨a1, a2⟩ : S_impl_Wait)] := ⟨_, rfl⟩
  rw [← hy]
  have NY := Aside0.mk hy
  clear hy
  have A3 := Aside0.mk A3
  have A5 := Aside0.mk A5
  have A6 := Aside0.mk A6
  have s0 : decide ((a2.size : Int) ≤ 200) = true := decide_eq_true hs
  have s1 : decide (a2.size ≤ 200) = true := decide_eq_true (by omega)
  clear hs
  have HZ := Aside0.mk hz
  have HL := Aside0.mk hl
  clear hz hl
  go_enter Try.func26, Try.ntmps26
  go_wp2_with (first | ((with_reducible refine gate_dst (N := 3) rfl ?_); refine box_event ?hg (N := 3) ?hd (cs := #[.slice A0_0 l0_0.length c0_0, .slice A0_1 l0_1.length c0_1, .int .i64 a0_2]) (t := 26) ?hr ?_; (case hd => rfl); (case hg => rfl); (case hr => first | (go_simp; done) | (go_simp; rfl)); intro gb hg w8 hbox hb; have n0_ := Aside0.mk (below_step HB.out hb); have n1_ := Aside0.mk hbox; have n2_ := Aside0.mk ((by rw [hg]; exact below_size HB.out) : w.heap.size ≤ gb); clear HB; have HB := n0_; have BK := n1_; have GE := n2_; clear n0_ n1_ n2_; clear hb hbox hg) | ((with_reducible refine gate_dst (N := 6) rfl ?_); refine box_event ?hg (N := 6) ?hd (cs := #[.slice none 0 0, .slice none 0 0, .int .i64 0]) (t := 26) ?hr ?_; (case hd => rfl); (case hg => rfl); (case hr => first | (go_simp; done) | (go_simp; rfl)); intro gr hg w9 hbox hb; have n0_ := Aside0.mk (below_step HB.out hb); have n1_ := Aside0.mk hbox; have n2_ := Aside0.mk ((by rw [hg]; exact below_size HB.out) : w.heap.size ≤ gr); have n3_ := Aside0.mk (blk_below BK.out hb); have n4_ := Aside0.mk ((by rw [hg]; exact Nat.ne_of_lt (blk_lt BK.out)) : gb ≠ gr); have n5_ := Aside0.mk ((by rw [hg]; exact Nat.ne_of_gt (blk_lt BK.out)) : gr ≠ gb); clear HB BK; have HB := n0_; have BR := n1_; have GR := n2_; have BK := n3_; have NE := n4_; have NE' := n5_; clear n0_ n1_ n2_ n3_ n4_ n5_; clear hb hbox hg; have hne := NE.out; have hne' := NE'.out; have p0 : w9.cell? ⟨gb, 0, none⟩ = some (.slice A0_0 l0_0.length c0_0) := (blk_cell BK.out 0).trans rfl; have p1 : w9.cell? ⟨gb, 1, none⟩ = some (.slice A0_1 l0_1.length c0_1) := (blk_cell BK.out 1).trans rfl; have p2 : w9.cell? ⟨gb, 2, none⟩ = some (.int .i64 a0_2) := (blk_cell BK.out 2).trans rfl; have pf0 := blk_frozen BK.out 0; have pf1 := blk_frozen BK.out 1; have pf2 := blk_frozen BK.out 2) | (go_at_call 48; (with_reducible refine (impl_isDisk.calls k _ _ l0_0 _ _ l0_1 a0_2 true _ (Kd.C_below HR0_0.out HB.out) HC0_0.out (Kd.C_below HR0_1.out HB.out) HC0_1.out A3.out).mono ?_); rintro e w10 ⟨rfl, hb⟩; have n0_ := Aside0.mk (blk_below (g := gb) BK.out hb); have n1_ := Aside0.mk (below_step HB.out hb); have n2_ := Aside0.mk (blk_below (g := gr) BR.out hb); clear BK BR HB hb; have BK := n0_; have HB := n1_; have BR := n2_; clear n0_ n1_ n2_; have q0 : w10.cell? ⟨gb, 0, none⟩ = some (.slice A0_0 l0_0.length c0_0) := (blk_cell BK.out 0).trans rfl; have q1 : w10.cell? ⟨gb, 1, none⟩ = some (.slice A0_1 l0_1.length c0_1) := (blk_cell BK.out 1).trans rfl; have q2 : w10.cell? ⟨gb, 2, none⟩ = some (.int .i64 a0_2) := (blk_cell BK.out 2).trans rfl; have qf0 := blk_frozen BK.out 0; have qf1 := blk_frozen BK.out 1; have qf2 := blk_frozen BK.out 2; have r0 : w10.cell? ⟨gr, 0, none⟩ = some (.slice none 0 0) := (blk_cell BR.out 0).trans rfl; have r1 : w10.cell? ⟨gr, 1, none⟩ = some (.slice none 0 0) := (blk_cell BR.out 1).trans rfl; have r2 : w10.cell? ⟨gr, 2, none⟩ = some (.int .i64 0) := (blk_cell BR.out 2).trans rfl; have rf0 := blk_frozen BR.out 0; have rf1 := blk_frozen BR.out 1; have rf2 := blk_frozen BR.out 2) | (go_at_call 54; (with_reducible refine (impl_copyDisk.calls _ _ l0_0 _ _ l0_1 a0_2 c1 c2 c3 _ (Kd.C_below HR0_0.out HB.out) HC0_0.out (Kd.C_below HR0_1.out HB.out) HC0_1.out A5.out).mono ?_); rintro e w11 ⟨v0, v1, rfl, hR0, hR1, hb⟩; have n0_ := Aside0.mk (Kd.R_lower hR0 (below_size HB.out)); have n1_ := Aside0.mk (Kd.R_lower hR1 (below_size HB.out)); have n2_ := Aside0.mk (blk_below (g := gb) BK.out hb); have n3_ := Aside0.mk (blk_below (g := gr) BR.out hb); have n4_ := Aside0.mk (below_step HB.out hb); clear BK BR HB hb hR0 hR1; have HO0 := n0_; have HO1 := n1_; have BK := n2_; have BR := n3_; have HB := n4_; clear n0_ n1_ n2_ n3_ n4_; obtain ⟨B0, d0, e0⟩ := Kd.R_slice HO0.out; subst e0; obtain ⟨B1, d1, e1⟩ := Kd.R_slice HO1.out; subst e1; have u0 : w11.cell? ⟨gb, 0, none⟩ = some (.slice A0_0 l0_0.length c0_0) := (blk_cell BK.out 0).trans rfl; have u1 : w11.cell? ⟨gb, 1, none⟩ = some (.slice A0_1 l0_1.length c0_1) := (blk_cell BK.out 1).trans rfl; have u2 : w11.cell? ⟨gb, 2, none⟩ = some (.int .i64 a0_2) := (blk_cell BK.out 2).trans rfl; have uf0 := blk_frozen BK.out 0; have uf1 := blk_frozen BK.out 1; have uf2 := blk_frozen BK.out 2; have v0 : w11.cell? ⟨gr, 0, none⟩ = some (.slice none 0 0) := (blk_cell BR.out 0).trans rfl; have v1 : w11.cell? ⟨gr, 1, none⟩ = some (.slice none 0 0) := (blk_cell BR.out 1).trans rfl; have v2 : w11.cell? ⟨gr, 2, none⟩ = some (.int .i64 0) := (blk_cell BR.out 2).trans rfl; have vf0 := blk_frozen BR.out 0; have vf1 := blk_frozen BR.out 1; have vf2 := blk_frozen BR.out 2) | (go_at_call 50; (with_reducible refine (impl_isBlock.calls a1 true _ A6.out).mono ?_); rintro e w' ⟨rfl, ⟨nd, rfl⟩⟩) | (go_at_call 55; (with_reducible refine (disk_write_1 gb B0 d0 B1 d1 c1 c2 c3 a1 a2 w _ gr #[.slice none 0 0, .slice none 0 0, .int .i64 0] ?w1 ?w2 ?w3 ?w5 NE'.out ?w4 GE.out HZ.out HL.out).mono ?_); (case w1 => exact (by (with_reducible repeat (first | refine blk_drewN ?_ _ | refine blk_drew ?_ | refine blk_alloc ?_ _)); refine blk_put (cs := #[.slice B0 c1.length d0, .slice B1 c2.length d1, .int .i64 a0_2]) ?_ 2 _ rfl; refine blk_put (cs := #[.slice B0 c1.length d0, .slice A0_1 l0_1.length c0_1, .int .i64 a0_2]) ?_ 1 _ rfl; refine blk_put (cs := #[.slice A0_0 l0_0.length c0_0, .slice A0_1 l0_1.length c0_1, .int .i64 a0_2]) ?_ 0 _ rfl; exact BK.out)); (case w2 => exact (by (with_reducible repeat (first | apply Kd.R_alloc | apply Kd.R_drewN | apply Kd.R_drew)); exact Kd.R_mono (Kd.R_far (p := ⟨gb, 2, none⟩) (Kd.R_far (p := ⟨gb, 1, none⟩) (Kd.R_far (p := ⟨gb, 0, none⟩) (Kd.R_types HO0.out BK.out (by decide)) (fun _ hk => hk.2) _) (fun _ hk => hk.2) _) (fun _ hk => hk.2) _) (fun _ hk => hk.1))); (case w3 => exact (by (with_reducible repeat (first | apply Kd.R_alloc | apply Kd.R_drewN | apply Kd.R_drew)); exact Kd.R_mono (Kd.R_far (p := ⟨gb, 2, none⟩) (Kd.R_far (p := ⟨gb, 1, none⟩) (Kd.R_far (p := ⟨gb, 0, none⟩) (Kd.R_types HO1.out BK.out (by decide)) (fun _ hk => hk.2) _) (fun _ hk => hk.2) _) (fun _ hk => hk.2) _) (fun _ hk => hk.1))); (case w4 => exact (by repeat (first | (with_reducible first | exact HB.out | apply below_alloc | apply pw_below_drewN | apply below_drew1 | refine below_set ?_ GE.out | refine below_set ?_ GR.out) | exact HB.out))); (case w5 => exact (by (with_reducible repeat (first | refine blk_drewN ?_ _ | refine blk_drew ?_ | refine blk_alloc ?_ _)); refine blk_far ?_ NE'.out _; refine blk_far ?_ NE'.out _; refine blk_far ?_ NE'.out _; exact BR.out)); rintro e w13 ⟨rfl, vz, hx, h0, h1, hb, hq⟩; rw [← NY.out] at h1; have n0_ := Aside0.mk hx; have n1_ := Aside0.mk h0; have n2_ := Aside0.mk h1; have n3_ := Aside0.mk hb; have n4_ := Aside0.mk hq; clear hx h0 h1 hb hq BK BR HB HO0 HO1; have BK := n0_; have HO0 := n1_; have HO1 := n2_; have HB := n3_; have BR := n4_; clear n0_ n1_ n2_ n3_ n4_; obtain ⟨E1, g1, e1⟩ := Kd.R_slice HO1.out; subst e1; have x0 : w13.cell? ⟨gb, 0, none⟩ = some (.slice B0 c1.length d0) := (blk_cell BK.out 0).trans rfl; have x1 : w13.cell? ⟨gb, 1, none⟩ = some (.slice E1 y.length g1) := (blk_cell BK.out 1).trans rfl; have x2 : w13.cell? ⟨gb, 2, none⟩ = some (.int .i64 (wrap64 (c3 - 1))) := (blk_cell BK.out 2).trans rfl; have xf0 := blk_frozen BK.out 0; have xf1 := blk_frozen BK.out 1; have xf2 := blk_frozen BK.out 2; have y0 : w13.cell? ⟨gr, 0, none⟩ = some (.slice none 0 0) := (blk_cell BR.out 0).trans rfl; have y1 : w13.cell? ⟨gr, 1, none⟩ = some (.slice none 0 0) := (blk_cell BR.out 1).trans rfl; have y2 : w13.cell? ⟨gr, 2, none⟩ = some (.int .i64 0) := (blk_cell BR.out 2).trans rfl; have yf0 := blk_frozen BR.out 0; have yf1 := blk_frozen BR.out 1; have yf2 := blk_frozen BR.out 2))
  refine bodyPost_ret (results_cell_row rfl _ _ gr 26 #[.slice B0 c1.length d0, .slice E1 y.length g1, .int .i64 (wrap64 (c3 - 1))] (0, 0) _ rfl (by (with_reducible repeat (first | refine blk_drewN ?_ _ | refine blk_drew ?_ | refine blk_alloc ?_ _)); refine blk_put (cs := #[.slice B0 c1.length d0, .slice E1 y.length g1, .int .i64 0]) ?_ 2 _ rfl; (with_reducible repeat (first | refine blk_drewN ?_ _ | refine blk_drew ?_)); refine blk_put (cs := #[.slice B0 c1.length d0, .slice none 0 0, .int .i64 0]) ?_ 1 _ rfl; (with_reducible repeat (first | refine blk_drewN ?_ _ | refine blk_drew ?_)); refine blk_put (cs := #[.slice none 0 0, .slice none 0 0, .int .i64 0]) ?_ 0 _ rfl; (with_reducible repeat (first | refine blk_drewN ?_ _ | refine blk_drew ?_)); exact BR.out) Try.underlying26 rfl (by kernel_rfl)) rfl ?_
  exact ⟨_, _, rfl, by (with_reducible repeat (first | apply Kd.R_alloc | apply Kd.R_drewN | apply Kd.R_drew)); exact Kd.R_mono (Kd.R_far (p := ⟨gr, 2, none⟩) (Kd.R_far (p := ⟨gr, 1, none⟩) (Kd.R_far (p := ⟨gr, 0, none⟩) (Kd.R_types HO0.out BR.out (by decide)) (fun _ hk => hk.2) _) (fun _ hk => hk.2) _) (fun _ hk => hk.2) _) (fun _ hk => hk.1), by (with_reducible repeat (first | apply Kd.R_alloc | apply Kd.R_drewN | apply Kd.R_drew)); exact Kd.R_mono (Kd.R_far (p := ⟨gr, 2, none⟩) (Kd.R_far (p := ⟨gr, 1, none⟩) (Kd.R_far (p := ⟨gr, 0, none⟩) (Kd.R_types HO1.out BR.out (by decide)) (fun _ hk => hk.2) _) (fun _ hk => hk.2) _) (fun _ hk => hk.2) _) (fun _ hk => hk.1), by repeat (first | (with_reducible first | exact HB.out | apply below_alloc | apply pw_below_drewN | apply below_drew1 | refine below_set ?_ GE.out | refine below_set ?_ GR.out) | exact HB.out)⟩
set_option maxHeartbeats 8000000 in
set_option maxRecDepth 100000 in
theorem impl_DiskWrite.calls_5 (k : Nat) (A0_0 : Option Addr) (c0_0 : Nat) (l0_0 : List ByteArray) (A0_1 : Option Addr) (c0_1 : Nat) (l0_1 : List (S_impl_Wait)) (a0_2 : Int) (a1 : Int) (a2 : ByteArray) (c1 : List ByteArray) (c2 : List (S_impl_Wait)) (c3 : Int) (w : World) (hr0_0 : Kd.C Kd.string w A0_0 l0_0.length l0_0) (hc0_0 : l0_0.length ≤ c0_0) (hr0_1 : Kd.C k48 w A0_1 l0_1.length l0_1) (hc0_1 : l0_1.length ≤ c0_1) (A3 : impl_isDisk.f k l0_0 l0_1 a0_2 = some true) (A5 : impl_copyDisk.f l0_0 l0_1 a0_2 = some (c1, c2, c3)) (A6 : impl_isBlock.f a1 = some true) (hs : (a2.size : Int) ≤ 200) (hz : c3 < 0) (hl : c2.length < 5864062014805) :
    Calls Try.prog 26 #[.agg #[.slice A0_0 l0_0.length c0_0, .slice A0_1 l0_1.length c0_1, .int .i64 a0_2], .int .i64 a1, .string a2] w fun e w' => ∃ v0_ v1_ : Value, e = .returned (.agg #[v0_, v1_, .int .i64 c3]) ∧ Kd.R Kd.string 9 w' w.heap.size (fun _ => True) v0_ c1 ∧ Kd.R k48 48 w' w.heap.size (fun _ => True) v1_ (c2 ++ [(⟨a1, a2⟩ : S_impl_Wait)]) ∧ Below w.heap.size w w' := by
  have hu26 := Try.underlying26
  have HR0_0 := Aside0.mk hr0_0
  have HC0_0 := Aside0.mk hc0_0
  clear hr0_0 hc0_0
  have HR0_1 := Aside0.mk hr0_1
  have HC0_1 := Aside0.mk hc0_1
  clear hr0_1 hc0_1
  have HB := Aside0.mk (Below.refl w.heap.size w)
  obtain ⟨y, hy⟩ : ∃ y : List (S_impl_Wait), y = c2 ++ [(⟨a1, a2⟩ : S_impl_Wait)] := ⟨_, rfl⟩
  rw [← hy]
  have NY := Aside0.mk hy
  clear hy
  have A3 := Aside0.mk A3
  have A5 := Aside0.mk A5
  have A6 := Aside0.mk A6
  have s0 : decide ((a2.size : Int) ≤ 200) = true := decide_eq_true hs
  have s1 : decide (a2.size ≤ 200) = true := decide_eq_true (by omega)
  clear hs
  have HZ := Aside0.mk hz
  have HL := Aside0.mk hl
  clear hz hl
  go_enter Try.func26, Try.ntmps26
  go_wp2_with (first | ((with_reducible refine gate_dst (N := 3) rfl ?_); refine box_event ?hg (N := 3) ?hd (cs := #[.slice A0_0 l0_0.length c0_0, .slice A0_1 l0_1.length c0_1, .int .i64 a0_2]) (t := 26) ?hr ?_; (case hd => rfl); (case hg => rfl); (case hr => first | (go_simp; done) | (go_simp; rfl)); intro gb hg w8 hbox hb; have n0_ := Aside0.mk (below_step HB.out hb); have n1_ := Aside0.mk hbox; have n2_ := Aside0.mk ((by rw [hg]; exact below_size HB.out) : w.heap.size ≤ gb); clear HB; have HB := n0_; have BK := n1_; have GE := n2_; clear n0_ n1_ n2_; clear hb hbox hg) | ((with_reducible refine gate_dst (N := 6) rfl ?_); refine box_event ?hg (N := 6) ?hd (cs := #[.slice none 0 0, .slice none 0 0, .int .i64 0]) (t := 26) ?hr ?_; (case hd => rfl); (case hg => rfl); (case hr => first | (go_simp; done) | (go_simp; rfl)); intro gr hg w9 hbox hb; have n0_ := Aside0.mk (below_step HB.out hb); have n1_ := Aside0.mk hbox; have n2_ := Aside0.mk ((by rw [hg]; exact below_size HB.out) : w.heap.size ≤ gr); have n3_ := Aside0.mk (blk_below BK.out hb); have n4_ := Aside0.mk ((by rw [hg]; exact Nat.ne_of_lt (blk_lt BK.out)) : gb ≠ gr); have n5_ := Aside0.mk ((by rw [hg]; exact Nat.ne_of_gt (blk_lt BK.out)) : gr ≠ gb); clear HB BK; have HB := n0_; have BR := n1_; have GR := n2_; have BK := n3_; have NE := n4_; have NE' := n5_; clear n0_ n1_ n2_ n3_ n4_ n5_; clear hb hbox hg; have hne := NE.out; have hne' := NE'.out; have p0 : w9.cell? ⟨gb, 0, none⟩ = some (.slice A0_0 l0_0.length c0_0) := (blk_cell BK.out 0).trans rfl; have p1 : w9.cell? ⟨gb, 1, none⟩ = some (.slice A0_1 l0_1.length c0_1) := (blk_cell BK.out 1).trans rfl; have p2 : w9.cell? ⟨gb, 2, none⟩ = some (.int .i64 a0_2) := (blk_cell BK.out 2).trans rfl; have pf0 := blk_frozen BK.out 0; have pf1 := blk_frozen BK.out 1; have pf2 := blk_frozen BK.out 2) | (go_at_call 48; (with_reducible refine (impl_isDisk.calls k _ _ l0_0 _ _ l0_1 a0_2 true _ (Kd.C_below HR0_0.out HB.out) HC0_0.out (Kd.C_below HR0_1.out HB.out) HC0_1.out A3.out).mono ?_); rintro e w10 ⟨rfl, hb⟩; have n0_ := Aside0.mk (blk_below (g := gb) BK.out hb); have n1_ := Aside0.mk (below_step HB.out hb); have n2_ := Aside0.mk (blk_below (g := gr) BR.out hb); clear BK BR HB hb; have BK := n0_; have HB := n1_; have BR := n2_; clear n0_ n1_ n2_; have q0 : w10.cell? ⟨gb, 0, none⟩ = some (.slice A0_0 l0_0.length c0_0) := (blk_cell BK.out 0).trans rfl; have q1 : w10.cell? ⟨gb, 1, none⟩ = some (.slice A0_1 l0_1.length c0_1) := (blk_cell BK.out 1).trans rfl; have q2 : w10.cell? ⟨gb, 2, none⟩ = some (.int .i64 a0_2) := (blk_cell BK.out 2).trans rfl; have qf0 := blk_frozen BK.out 0; have qf1 := blk_frozen BK.out 1; have qf2 := blk_frozen BK.out 2; have r0 : w10.cell? ⟨gr, 0, none⟩ = some (.slice none 0 0) := (blk_cell BR.out 0).trans rfl; have r1 : w10.cell? ⟨gr, 1, none⟩ = some (.slice none 0 0) := (blk_cell BR.out 1).trans rfl; have r2 : w10.cell? ⟨gr, 2, none⟩ = some (.int .i64 0) := (blk_cell BR.out 2).trans rfl; have rf0 := blk_frozen BR.out 0; have rf1 := blk_frozen BR.out 1; have rf2 := blk_frozen BR.out 2) | (go_at_call 54; (with_reducible refine (impl_copyDisk.calls _ _ l0_0 _ _ l0_1 a0_2 c1 c2 c3 _ (Kd.C_below HR0_0.out HB.out) HC0_0.out (Kd.C_below HR0_1.out HB.out) HC0_1.out A5.out).mono ?_); rintro e w11 ⟨v0, v1, rfl, hR0, hR1, hb⟩; have n0_ := Aside0.mk (Kd.R_lower hR0 (below_size HB.out)); have n1_ := Aside0.mk (Kd.R_lower hR1 (below_size HB.out)); have n2_ := Aside0.mk (blk_below (g := gb) BK.out hb); have n3_ := Aside0.mk (blk_below (g := gr) BR.out hb); have n4_ := Aside0.mk (below_step HB.out hb); clear BK BR HB hb hR0 hR1; have HO0 := n0_; have HO1 := n1_; have BK := n2_; have BR := n3_; have HB := n4_; clear n0_ n1_ n2_ n3_ n4_; obtain ⟨B0, d0, e0⟩ := Kd.R_slice HO0.out; subst e0; obtain ⟨B1, d1, e1⟩ := Kd.R_slice HO1.out; subst e1; have u0 : w11.cell? ⟨gb, 0, none⟩ = some (.slice A0_0 l0_0.length c0_0) := (blk_cell BK.out 0).trans rfl; have u1 : w11.cell? ⟨gb, 1, none⟩ = some (.slice A0_1 l0_1.length c0_1) := (blk_cell BK.out 1).trans rfl; have u2 : w11.cell? ⟨gb, 2, none⟩ = some (.int .i64 a0_2) := (blk_cell BK.out 2).trans rfl; have uf0 := blk_frozen BK.out 0; have uf1 := blk_frozen BK.out 1; have uf2 := blk_frozen BK.out 2; have v0 : w11.cell? ⟨gr, 0, none⟩ = some (.slice none 0 0) := (blk_cell BR.out 0).trans rfl; have v1 : w11.cell? ⟨gr, 1, none⟩ = some (.slice none 0 0) := (blk_cell BR.out 1).trans rfl; have v2 : w11.cell? ⟨gr, 2, none⟩ = some (.int .i64 0) := (blk_cell BR.out 2).trans rfl; have vf0 := blk_frozen BR.out 0; have vf1 := blk_frozen BR.out 1; have vf2 := blk_frozen BR.out 2) | (go_at_call 50; (with_reducible refine (impl_isBlock.calls a1 true _ A6.out).mono ?_); rintro e w' ⟨rfl, ⟨nd, rfl⟩⟩) | (go_at_call 55; (with_reducible refine (disk_write_2 gb B0 d0 B1 d1 c1 c2 c3 a1 a2 w _ gr #[.slice none 0 0, .slice none 0 0, .int .i64 0] ?w1 ?w2 ?w3 ?w5 NE'.out ?w4 GE.out HZ.out HL.out).mono ?_); (case w1 => exact (by (with_reducible repeat (first | refine blk_drewN ?_ _ | refine blk_drew ?_ | refine blk_alloc ?_ _)); refine blk_put (cs := #[.slice B0 c1.length d0, .slice B1 c2.length d1, .int .i64 a0_2]) ?_ 2 _ rfl; refine blk_put (cs := #[.slice B0 c1.length d0, .slice A0_1 l0_1.length c0_1, .int .i64 a0_2]) ?_ 1 _ rfl; refine blk_put (cs := #[.slice A0_0 l0_0.length c0_0, .slice A0_1 l0_1.length c0_1, .int .i64 a0_2]) ?_ 0 _ rfl; exact BK.out)); (case w2 => exact (by (with_reducible repeat (first | apply Kd.R_alloc | apply Kd.R_drewN | apply Kd.R_drew)); exact Kd.R_mono (Kd.R_far (p := ⟨gb, 2, none⟩) (Kd.R_far (p := ⟨gb, 1, none⟩) (Kd.R_far (p := ⟨gb, 0, none⟩) (Kd.R_types HO0.out BK.out (by decide)) (fun _ hk => hk.2) _) (fun _ hk => hk.2) _) (fun _ hk => hk.2) _) (fun _ hk => hk.1))); (case w3 => exact (by (with_reducible repeat (first | apply Kd.R_alloc | apply Kd.R_drewN | apply Kd.R_drew)); exact Kd.R_mono (Kd.R_far (p := ⟨gb, 2, none⟩) (Kd.R_far (p := ⟨gb, 1, none⟩) (Kd.R_far (p := ⟨gb, 0, none⟩) (Kd.R_types HO1.out BK.out (by decide)) (fun _ hk => hk.2) _) (fun _ hk => hk.2) _) (fun _ hk => hk.2) _) (fun _ hk => hk.1))); (case w4 => exact (by repeat (first | (with_reducible first | exact HB.out | apply below_alloc | apply pw_below_drewN | apply below_drew1 | refine below_set ?_ GE.out | refine below_set ?_ GR.out) | exact HB.out))); (case w5 => exact (by (with_reducible repeat (first | refine blk_drewN ?_ _ | refine blk_drew ?_ | refine blk_alloc ?_ _)); refine blk_far ?_ NE'.out _; refine blk_far ?_ NE'.out _; refine blk_far ?_ NE'.out _; exact BR.out)); rintro e w13 ⟨rfl, vz, hx, h0, h1, hb, hq⟩; rw [← NY.out] at h1; have n0_ := Aside0.mk hx; have n1_ := Aside0.mk h0; have n2_ := Aside0.mk h1; have n3_ := Aside0.mk hb; have n4_ := Aside0.mk hq; clear hx h0 h1 hb hq BK BR HB HO0 HO1; have BK := n0_; have HO0 := n1_; have HO1 := n2_; have HB := n3_; have BR := n4_; clear n0_ n1_ n2_ n3_ n4_; obtain ⟨E1, g1, e1⟩ := Kd.R_slice HO1.out; subst e1; have x0 : w13.cell? ⟨gb, 0, none⟩ = some (.slice B0 c1.length d0) := (blk_cell BK.out 0).trans rfl; have x1 : w13.cell? ⟨gb, 1, none⟩ = some (.slice E1 y.length g1) := (blk_cell BK.out 1).trans rfl; have x2 : w13.cell? ⟨gb, 2, none⟩ = some (.int .i64 c3) := (blk_cell BK.out 2).trans rfl; have xf0 := blk_frozen BK.out 0; have xf1 := blk_frozen BK.out 1; have xf2 := blk_frozen BK.out 2; have y0 : w13.cell? ⟨gr, 0, none⟩ = some (.slice none 0 0) := (blk_cell BR.out 0).trans rfl; have y1 : w13.cell? ⟨gr, 1, none⟩ = some (.slice none 0 0) := (blk_cell BR.out 1).trans rfl; have y2 : w13.cell? ⟨gr, 2, none⟩ = some (.int .i64 0) := (blk_cell BR.out 2).trans rfl; have yf0 := blk_frozen BR.out 0; have yf1 := blk_frozen BR.out 1; have yf2 := blk_frozen BR.out 2))
  refine bodyPost_ret (results_cell_row rfl _ _ gr 26 #[.slice B0 c1.length d0, .slice E1 y.length g1, .int .i64 c3] (0, 0) _ rfl (by (with_reducible repeat (first | refine blk_drewN ?_ _ | refine blk_drew ?_ | refine blk_alloc ?_ _)); refine blk_put (cs := #[.slice B0 c1.length d0, .slice E1 y.length g1, .int .i64 0]) ?_ 2 _ rfl; (with_reducible repeat (first | refine blk_drewN ?_ _ | refine blk_drew ?_)); refine blk_put (cs := #[.slice B0 c1.length d0, .slice none 0 0, .int .i64 0]) ?_ 1 _ rfl; (with_reducible repeat (first | refine blk_drewN ?_ _ | refine blk_drew ?_)); refine blk_put (cs := #[.slice none 0 0, .slice none 0 0, .int .i64 0]) ?_ 0 _ rfl; (with_reducible repeat (first | refine blk_drewN ?_ _ | refine blk_drew ?_)); exact BR.out) Try.underlying26 rfl (by kernel_rfl)) rfl ?_
  exact ⟨_, _, rfl, by (with_reducible repeat (first | apply Kd.R_alloc | apply Kd.R_drewN | apply Kd.R_drew)); exact Kd.R_mono (Kd.R_far (p := ⟨gr, 2, none⟩) (Kd.R_far (p := ⟨gr, 1, none⟩) (Kd.R_far (p := ⟨gr, 0, none⟩) (Kd.R_types HO0.out BR.out (by decide)) (fun _ hk => hk.2) _) (fun _ hk => hk.2) _) (fun _ hk => hk.2) _) (fun _ hk => hk.1), by (with_reducible repeat (first | apply Kd.R_alloc | apply Kd.R_drewN | apply Kd.R_drew)); exact Kd.R_mono (Kd.R_far (p := ⟨gr, 2, none⟩) (Kd.R_far (p := ⟨gr, 1, none⟩) (Kd.R_far (p := ⟨gr, 0, none⟩) (Kd.R_types HO1.out BR.out (by decide)) (fun _ hk => hk.2) _) (fun _ hk => hk.2) _) (fun _ hk => hk.2) _) (fun _ hk => hk.1), by repeat (first | (with_reducible first | exact HB.out | apply below_alloc | apply pw_below_drewN | apply below_drew1 | refine below_set ?_ GE.out | refine below_set ?_ GR.out) | exact HB.out)⟩
theorem impl_DiskWrite.calls (k : Nat) (A0_0 : Option Addr) (c0_0 : Nat) (l0_0 : List ByteArray) (A0_1 : Option Addr) (c0_1 : Nat) (l0_1 : List (S_impl_Wait)) (a0_2 : Int) (a1 : Int) (a2 : ByteArray) (r1 : List ByteArray) (r2 : List (S_impl_Wait)) (r3 : Int) (w : World) (hr0_0 : Kd.C Kd.string w A0_0 l0_0.length l0_0) (hc0_0 : l0_0.length ≤ c0_0) (hr0_1 : Kd.C k48 w A0_1 l0_1.length l0_1) (hc0_1 : l0_1.length ≤ c0_1) (h : impl_DiskWrite.f k l0_0 l0_1 a0_2 a1 a2 = some (r1, r2, r3)) :
    Calls Try.prog 26 #[.agg #[.slice A0_0 l0_0.length c0_0, .slice A0_1 l0_1.length c0_1, .int .i64 a0_2], .int .i64 a1, .string a2] w fun e w' => ∃ v0_ v1_ : Value, e = .returned (.agg #[v0_, v1_, .int .i64 r3]) ∧ Kd.R Kd.string 9 w' w.heap.size (fun _ => True) v0_ r1 ∧ Kd.R k48 48 w' w.heap.size (fun _ => True) v1_ r2 ∧ Below w.heap.size w w' := by
  unfold impl_DiskWrite.f at h
  obtain ⟨t, A3, h⟩ := Option.bind_eq_some_iff.mp h
  cases t with
  | false =>
    rw [if_neg (by decide)] at h
    simp only [Option.some.injEq, Prod.mk.injEq] at h
    obtain ⟨rfl, rfl, rfl⟩ := h
    exact impl_DiskWrite.calls_0 k _ _ _ _ _ _ _ _ _ w hr0_0 hc0_0 hr0_1 hc0_1 A3
  | true =>
    rw [if_pos rfl] at h
    obtain ⟨⟨c1, c2, c3⟩, A5, h⟩ := Option.bind_eq_some_iff.mp h
    obtain ⟨u, A6, h⟩ := Option.bind_eq_some_iff.mp h
    cases u with
    | false =>
      rw [if_neg (by decide)] at h
      simp only [Option.some.injEq, Prod.mk.injEq] at h
      obtain ⟨rfl, rfl, rfl⟩ := h
      exact impl_DiskWrite.calls_1 k _ _ _ _ _ _ _ _ _ _ _ _ w hr0_0 hc0_0 hr0_1 hc0_1 A3 A5 A6
    | true =>
      rw [if_pos rfl] at h
      by_cases hs : (a2.size : Int) ≤ 200
      · rw [if_pos hs] at h
        by_cases hz : c3 = 0
        · rw [if_pos hz] at h
          simp only [Option.some.injEq, Prod.mk.injEq] at h
          obtain ⟨rfl, rfl, rfl⟩ := h
          rw [hz] at A5 ⊢
          exact impl_DiskWrite.calls_3 k _ _ _ _ _ _ _ _ _ _ _ _ w hr0_0 hc0_0 hr0_1 hc0_1 A3 A5 A6 hs rfl
        · rw [if_neg hz] at h
          by_cases hl : c2.length < 5864062014805
          · simp only [if_pos hl, Option.some.injEq, Prod.mk.injEq] at h
            obtain ⟨rfl, rfl, rfl⟩ := h
            by_cases hp : 0 < c3
            · rw [if_pos hp]
              exact impl_DiskWrite.calls_4 k _ _ _ _ _ _ _ _ _ _ _ _ w hr0_0 hc0_0 hr0_1 hc0_1 A3 A5 A6 hs hp hl
            · rw [if_neg hp]
              exact impl_DiskWrite.calls_5 k _ _ _ _ _ _ _ _ _ _ _ _ w hr0_0 hc0_0 hr0_1 hc0_1 A3 A5 A6 hs (by omega) hl
          · simp only [if_neg hl] at h
            cases h
      · rw [if_neg hs] at h
        simp only [Option.some.injEq, Prod.mk.injEq] at h
        obtain ⟨rfl, rfl, rfl⟩ := h
        exact impl_DiskWrite.calls_2 k _ _ _ _ _ _ _ _ _ _ _ _ w hr0_0 hc0_0 hr0_1 hc0_1 A3 A5 A6 hs
end Go.Proofs.Ytjmdinhobhoojaa.P
namespace Go.Proofs.Ytjmdinhobhoojaa.P
open Go.RowKit Go.Proofs.YtjmdinhobhoojaaW.PrintWords Go.Proofs.YtjmdinhobhoojaaW.PrintLast Go.Proofs.YtjmdinhobhoojaaW.PrintMore
attribute [local go_sem] max2_int min2_int max_two min_two max_three min_three max_four min_four   -- for this text's walks alone
set_option linter.unusedVariables false
set_option linter.unusedSimpArgs false
theorem eqA48 (d : Nat) (w : World) (x0 y0 : Int) (x1 y1 : ByteArray) :
    (Op.equalIn (d + 2) 48 (.agg #[.int .i64 x0, .string x1]) (.agg #[.int .i64 y0, .string y1])).run Try.prog w = .ok (x0 == y0 && (x1.toList == y1.toList)) w := by
  refine eqA_of Try.underlying48 (by kernel_rfl) ?_
  refine eqf_cons (by rfl) (by go_simp; rfl) (by go_simp; rfl) (by go_simp) ?_
  exact eqf_last (by rfl) (by go_simp; rfl) (by go_simp; rfl) (by go_simp)
end Go.Proofs.Ytjmdinhobhoojaa.P
namespace Go.Proofs.Ytjmdinhobhoojaa.P
open Go.RowKit Go.Proofs.YtjmdinhobhoojaaW.PrintWords Go.Proofs.YtjmdinhobhoojaaW.PrintLast Go.Proofs.YtjmdinhobhoojaaW.PrintMore
attribute [local go_sem] max2_int min2_int max_two min_two max_three min_three max_four min_four   -- for this text's walks alone
set_option linter.unusedVariables false
set_option linter.unusedSimpArgs false
def laws_wmWords.l0 : Nat → List ByteArray → List ByteArray → Int → Option (Bool)
  | 0, _, _, _ => none
  | k + 1, x0, x1, x5 => if x5 < (x0.length : Int) then (if 0 ≤ x5 then (if x5 < (x1.length : Int) then (if (rdOf ByteArray.empty x0 x5).toList = (rdOf ByteArray.empty x1 x5).toList then (laws_wmWords.l0 k x0 x1 (wrap64 (x5 + 1))) else (some false)) else (none)) else (none)) else (some true)
def laws_wmWords.f (k : Nat) (l0 : List ByteArray) (l1 : List ByteArray) : Option (Bool) := if (l0.length : Int) = (l1.length : Int) then (laws_wmWords.l0 k l0 l1 0) else (some false)
set_option maxHeartbeats 8000000 in
set_option maxRecDepth 100000 in
theorem laws_wmWords.calls (k : Nat) (A0 : Option Addr) (c0 : Nat) (l0 : List ByteArray) (A1 : Option Addr) (c1 : Nat) (l1 : List ByteArray) (r : Bool) (w : World) (hr0 : Kd.C Kd.string w A0 l0.length l0) (hc0 : l0.length ≤ c0) (hr1 : Kd.C Kd.string w A1 l1.length l1) (hc1 : l1.length ≤ c1) (h : laws_wmWords.f k l0 l1 = some r) :
    Calls Try.prog 32 #[.slice A0 l0.length c0, .slice A1 l1.length c1] w fun e w' => e = .returned (.bool r) ∧ Drawn0 w w' := by
  have HR0 := Aside0.mk hr0
  have HC0 := Aside0.mk hc0
  clear hr0 hc0
  have HR1 := Aside0.mk hr1
  have HC1 := Aside0.mk hc1
  clear hr1 hc1
  have H : (if (l0.length : Int) = (l1.length : Int) then (laws_wmWords.l0 k l0 l1 0) else (some false)) = some r := h
  clear h
  by_cases c3 : (l0.length : Int) = (l1.length : Int)
  · rw [if_pos c3] at H
    have c3b0 : ((l0.length : Int) == (l1.length : Int)) = true := beq_iff_eq.mpr c3
    have c3b1 : ((l0.length : Int) != (l1.length : Int)) = false := bne_eq_false_iff_eq.mpr c3
    have c3b2 : (l0.length == l1.length) = true := by first | simpa using c3 | (simp at c3 ⊢; omega)
    clear c3
    have H' := Aside0.mk H
    clear H
    go_enter Try.func32, Try.ntmps32
    go_wp2
    repeat (go_quiet (fail); try go_wp2)
    go_loopg [5] k (fun kq v5 w' => ∃ (x5_1 : Int), v5 = .int .i64 x5_1 ∧ Aside0 (laws_wmWords.l0 kq l0 l1 x5_1 = some r) ∧ Aside0 (kq ≤ k) ∧ Drawn0 w w')
    case atStart => exact ⟨(0), (by first | rfl | (simp; done) | (simp [*]; done)), H', ⟨Nat.le_refl _⟩, by repeat (first | exact Drawn0.refl _ | apply Drawn0.step)⟩
    case round =>
      clear H'
      try clear c1
      try clear p2
      try clear c3
      try clear c3b0
      try clear c3b1
      try clear c3b2
      obtain ⟨x5_1, rfl, HA, HK1, ⟨m1, rfl⟩⟩ := hrel
      cases gk with
      | zero => exact absurd HA.out (by simp [laws_wmWords.l0])
      | succ k1 =>
        have H := HA.out
        clear HA
        simp only [laws_wmWords.l0] at H
        by_cases c4 : x5_1 < (l0.length : Int)
        · rw [if_pos c4] at H
          have c4b0 : decide (x5_1 < (l0.length : Int)) = true := decide_eq_true c4
          clear c4
          by_cases c5 : 0 ≤ x5_1
          · rw [if_pos c5] at H
            have c5b0 : decide (0 ≤ x5_1) = true := decide_eq_true c5
            clear c5
            by_cases c6 : x5_1 < (l1.length : Int)
            · rw [if_pos c6] at H
              have c6b0 : decide (x5_1 < (l1.length : Int)) = true := decide_eq_true c6
              clear c6
              by_cases c7 : (rdOf ByteArray.empty l0 x5_1).toList = (rdOf ByteArray.empty l1 x5_1).toList
              · rw [if_pos c7] at H
                have c7b0 : ((rdOf ByteArray.empty l0 x5_1).toList == (rdOf ByteArray.empty l1 x5_1).toList) = true := beq_iff_eq.mpr c7
                have c7b1 : ((rdOf ByteArray.empty l0 x5_1).toList != (rdOf ByteArray.empty l1 x5_1).toList) = false := bne_eq_false_iff_eq.mpr c7
                clear c7
                have H' := Aside0.mk H
                clear H
                have p466 : 0 ≤ (x5_1 : Int) := of_decide_eq_true (by first | (with_reducible assumption) | assumption)
                have q466 : x5_1 < (l0.length : Int) := of_decide_eq_true (by first | (with_reducible assumption) | assumption)
                obtain ⟨ad466, e466, hx466_0⟩ := Kd.at_string HR0.out x5_1 p466 q466
                cases e466
                replace p466 := eq_true p466
                replace q466 := eq_true q466
                have p467 : 0 ≤ (x5_1 : Int) := of_decide_eq_true (by first | (with_reducible assumption) | assumption)
                have q467 : x5_1 < (l1.length : Int) := of_decide_eq_true (by first | (with_reducible assumption) | assumption)
                obtain ⟨ad467, e467, hx467_0⟩ := Kd.at_string HR1.out x5_1 p467 q467
                cases e467
                replace p467 := eq_true p467
                replace q467 := eq_true q467
                go_wp2
                repeat (go_quiet (fail); try go_wp2)
                go_roundg k1
                case measure => have := HK1.out; omega
                case rel => exact ⟨(wrap64 (x5_1 + 1)), (by first | rfl | (simp; done) | (simp [*]; done)), H', ⟨by have := HK1.out; omega⟩, by repeat (first | exact Drawn0.refl _ | apply Drawn0.step)⟩
              · rw [if_neg c7] at H
                have c7b0 : ((rdOf ByteArray.empty l0 x5_1).toList == (rdOf ByteArray.empty l1 x5_1).toList) = false := beq_eq_false_iff_ne.mpr c7
                have c7b1 : ((rdOf ByteArray.empty l0 x5_1).toList != (rdOf ByteArray.empty l1 x5_1).toList) = true := bne_iff_ne.mpr c7
                obtain rfl := Option.some.inj H
                have p466 : 0 ≤ (x5_1 : Int) := of_decide_eq_true (by first | (with_reducible assumption) | assumption)
                have q466 : x5_1 < (l0.length : Int) := of_decide_eq_true (by first | (with_reducible assumption) | assumption)
                obtain ⟨ad466, e466, hx466_0⟩ := Kd.at_string HR0.out x5_1 p466 q466
                cases e466
                replace p466 := eq_true p466
                replace q466 := eq_true q466
                have p467 : 0 ≤ (x5_1 : Int) := of_decide_eq_true (by first | (with_reducible assumption) | assumption)
                have q467 : x5_1 < (l1.length : Int) := of_decide_eq_true (by first | (with_reducible assumption) | assumption)
                obtain ⟨ad467, e467, hx467_0⟩ := Kd.at_string HR1.out x5_1 p467 q467
                cases e467
                replace p467 := eq_true p467
                replace q467 := eq_true q467
                go_wp2
                repeat (go_quiet (fail); try go_wp2)
                go_ret
                exact ⟨by first | rfl | (simp; done) | (simp [*]; done), by repeat (first | exact Drawn0.refl _ | apply Drawn0.step)⟩
            · rw [if_neg c6] at H
              exact absurd H (by simp)
          · rw [if_neg c5] at H
            exact absurd H (by simp)
        · rw [if_neg c4] at H
          have c4b0 : decide (x5_1 < (l0.length : Int)) = false := decide_eq_false c4
          clear c4
          obtain rfl := Option.some.inj H
          go_wp2
          repeat (go_quiet (fail); try go_wp2)
          go_ret
          exact ⟨by first | rfl | (simp; done) | (simp [*]; done), by repeat (first | exact Drawn0.refl _ | apply Drawn0.step)⟩
  · rw [if_neg c3] at H
    have c3b0 : ((l0.length : Int) == (l1.length : Int)) = false := beq_eq_false_iff_ne.mpr c3
    have c3b1 : ((l0.length : Int) != (l1.length : Int)) = true := bne_iff_ne.mpr c3
    have c3b2 : (l0.length == l1.length) = false := by first | simpa using c3 | (simp at c3 ⊢; omega)
    obtain rfl := Option.some.inj H
    go_enter Try.func32, Try.ntmps32
    go_wp2
    repeat (go_quiet (fail); try go_wp2)
    go_ret
    exact ⟨by first | rfl | (simp; done) | (simp [*]; done), by repeat (first | exact Drawn0.refl _ | apply Drawn0.step)⟩
end Go.Proofs.Ytjmdinhobhoojaa.P
namespace Go.Proofs.Ytjmdinhobhoojaa.P
open Go.RowKit Go.Proofs.YtjmdinhobhoojaaW.PrintWords Go.Proofs.YtjmdinhobhoojaaW.PrintLast Go.Proofs.YtjmdinhobhoojaaW.PrintMore
attribute [local go_sem] max2_int min2_int max_two min_two max_three min_three max_four min_four   -- for this text's walks alone
set_option linter.unusedVariables false
set_option linter.unusedSimpArgs false
attribute [local go_sem high] eqA48
mutual
def laws_wmDisk.j0 : Nat → Bool → List ByteArray → List (S_impl_Wait) → Int → List ByteArray → List (S_impl_Wait) → Int → Option (Bool)
  | 0, _, _, _, _, _, _, _ => none
  | k + 1, x27, x469000, x469001, x469002, x470000, x470001, x470002 => if x27 = true then (some false) else (laws_wmDisk.l0 k 0 x469000 x469001 x469002 x470000 x470001 x470002)
def laws_wmDisk.l0 : Nat → Int → List ByteArray → List (S_impl_Wait) → Int → List ByteArray → List (S_impl_Wait) → Int → Option (Bool)
  | 0, _, _, _, _, _, _, _ => none
  | k + 1, x5, x469000, x469001, x469002, x470000, x470001, x470002 => if x5 < (x469001.length : Int) then (if 0 ≤ x5 then (if x5 < (x470001.length : Int) then (if (!(((rd_impl_Wait x469001 x5).f0) == ((rd_impl_Wait x470001 x5).f0)) || (!((((rd_impl_Wait x469001 x5).f1).toList) == (((rd_impl_Wait x470001 x5).f1).toList)))) = true then (some false) else (laws_wmDisk.l0 k (wrap64 (x5 + 1)) x469000 x469001 x469002 x470000 x470001 x470002)) else (none)) else (none)) else (some true)
end
def laws_wmDisk.f (k : Nat) (l0_0 : List ByteArray) (l0_1 : List (S_impl_Wait)) (a0_2 : Int) (l1_0 : List ByteArray) (l1_1 : List (S_impl_Wait)) (a1_2 : Int) : Option (Bool) := if a0_2 = a1_2 then ((laws_wmWords.f k l0_0 l1_0).bind fun t470 => (if t470 = true then (laws_wmDisk.j0 k ((l0_1.length : Int) != (l1_1.length : Int)) l0_0 l0_1 a0_2 l1_0 l1_1 a1_2) else (laws_wmDisk.j0 k true l0_0 l0_1 a0_2 l1_0 l1_1 a1_2))) else (laws_wmDisk.j0 k true l0_0 l0_1 a0_2 l1_0 l1_1 a1_2)
set_option maxHeartbeats 8000000 in
set_option maxRecDepth 100000 in
theorem laws_wmDisk.calls (k : Nat) (A0_0 : Option Addr) (c0_0 : Nat) (l0_0 : List ByteArray) (A0_1 : Option Addr) (c0_1 : Nat) (l0_1 : List (S_impl_Wait)) (a0_2 : Int) (A1_0 : Option Addr) (c1_0 : Nat) (l1_0 : List ByteArray) (A1_1 : Option Addr) (c1_1 : Nat) (l1_1 : List (S_impl_Wait)) (a1_2 : Int) (r : Bool) (w : World) (hr0_0 : Kd.C Kd.string w A0_0 l0_0.length l0_0) (hc0_0 : l0_0.length ≤ c0_0) (hr0_1 : Kd.C k48 w A0_1 l0_1.length l0_1) (hc0_1 : l0_1.length ≤ c0_1) (hr1_0 : Kd.C Kd.string w A1_0 l1_0.length l1_0) (hc1_0 : l1_0.length ≤ c1_0) (hr1_1 : Kd.C k48 w A1_1 l1_1.length l1_1) (hc1_1 : l1_1.length ≤ c1_1) (h : laws_wmDisk.f k l0_0 l0_1 a0_2 l1_0 l1_1 a1_2 = some r) :
    Calls Try.prog 27 #[.agg #[.slice A0_0 l0_0.length c0_0, .slice A0_1 l0_1.length c0_1, .int .i64 a0_2], .agg #[.slice A1_0 l1_0.length c1_0, .slice A1_1 l1_1.length c1_1, .int .i64 a1_2]] w fun e w' => e = .returned (.bool r) ∧ Below w.heap.size w w' := by
  have hu26 := Try.underlying26
  have hu48 := Try.underlying48
  have HR0_0 := Aside0.mk hr0_0
  have HC0_0 := Aside0.mk hc0_0
  clear hr0_0 hc0_0
  have HR0_1 := Aside0.mk hr0_1
  have HC0_1 := Aside0.mk hc0_1
  clear hr0_1 hc0_1
  have HR1_0 := Aside0.mk hr1_0
  have HC1_0 := Aside0.mk hc1_0
  clear hr1_0 hc1_0
  have HR1_1 := Aside0.mk hr1_1
  have HC1_1 := Aside0.mk hc1_1
  clear hr1_1 hc1_1
  have HB := Aside0.mk (Below.refl w.heap.size w)
  have H : (if a0_2 = a1_2 then ((laws_wmWords.f k l0_0 l1_0).bind fun t470 => (if t470 = true then (laws_wmDisk.j0 k ((l0_1.length : Int) != (l1_1.length : Int)) l0_0 l0_1 a0_2 l1_0 l1_1 a1_2) else (laws_wmDisk.j0 k true l0_0 l0_1 a0_2 l1_0 l1_1 a1_2))) else (laws_wmDisk.j0 k true l0_0 l0_1 a0_2 l1_0 l1_1 a1_2)) = some r := h
  clear h
  have HC3 := Aside0.mk H
  clear H
  go_enter Try.func27, Try.ntmps27
  go_upto_region 1 with (first | ((with_reducible refine gate_dst (N := 2) rfl ?_); (try (refine gate_guard (by rfl) ?_; dsimp only)); refine box_event ?hg (N := 2) ?hd (cs := #[.slice A0_0 l0_0.length c0_0, .slice A0_1 l0_1.length c0_1, .int .i64 a0_2]) (t := 26) ?hr ?_; (case hd => rfl); (case hg => rfl); (case hr => first | (go_simp; done) | (go_simp; rfl)); intro gb468 hg w4 hbox hb; have n0_ := Aside0.mk (below_step (by repeat (first | (with_reducible first | exact HB.out | apply below_alloc | apply pw_below_drewN | apply below_drew1) | exact HB.out)) hb); have n1_ := Aside0.mk (hbox); have n2_ := Aside0.mk ((by rw [hg]; exact (below_size (by repeat (first | (with_reducible first | exact HB.out | apply below_alloc | apply pw_below_drewN | apply below_drew1) | exact HB.out))) : w.heap.size ≤ gb468)); have n3_ := Aside0.mk ((by rw [hg]; exact (below_size (by repeat (first | (with_reducible first | exact HB.out | apply below_alloc | apply pw_below_drewN | apply below_drew1) | exact HB.out))) : w.heap.size ≤ gb468)); clear HB; have HB := n0_; have BK468 := n1_; have GW468 := n2_; have GE468 := n3_; clear n0_ n1_ n2_ n3_; clear hb hbox hg) | ((with_reducible refine gate_dst (N := 3) rfl ?_); (try (refine gate_guard (by rfl) ?_; dsimp only)); refine box_event ?hg (N := 3) ?hd (cs := #[.slice A1_0 l1_0.length c1_0, .slice A1_1 l1_1.length c1_1, .int .i64 a1_2]) (t := 26) ?hr ?_; (case hd => rfl); (case hg => rfl); (case hr => first | (go_simp; done) | (go_simp; rfl)); intro gb469 hg w5 hbox hb; have n0_ := Aside0.mk (blk_below (g := gb468) (o := .cells #[.slice A0_0 l0_0.length c0_0, .slice A0_1 l0_1.length c0_1, .int .i64 a0_2] 26 (0, 0)) (by (with_reducible repeat (first | refine blk_drewN ?_ _ | refine blk_drew ?_ | refine blk_alloc ?_ _)); exact BK468.out) hb); have n1_ := Aside0.mk (below_step (by repeat (first | (with_reducible first | exact HB.out | apply below_alloc | apply pw_below_drewN | apply below_drew1 | refine below_set ?_ GE468.out) | exact HB.out)) hb); have n2_ := Aside0.mk (hbox); have n3_ := Aside0.mk ((by rw [hg]; exact (below_size (by repeat (first | (with_reducible first | exact HB.out | apply below_alloc | apply pw_below_drewN | apply below_drew1 | refine below_set ?_ GE468.out) | exact HB.out))) : w.heap.size ≤ gb469)); have n4_ := Aside0.mk ((by rw [hg]; exact (below_size (by repeat (first | (with_reducible first | exact HB.out | apply below_alloc | apply pw_below_drewN | apply below_drew1 | refine below_set ?_ GE468.out) | exact HB.out))) : w.heap.size ≤ gb469)); have n5_ := Aside0.mk ((by rw [hg]; exact Nat.ne_of_lt (blk_lt (g := gb468) (o := .cells #[.slice A0_0 l0_0.length c0_0, .slice A0_1 l0_1.length c0_1, .int .i64 a0_2] 26 (0, 0)) (by (with_reducible repeat (first | refine blk_drewN ?_ _ | refine blk_drew ?_ | refine blk_alloc ?_ _)); exact BK468.out)) : gb468 ≠ gb469)); have n6_ := Aside0.mk ((by rw [hg]; exact Nat.ne_of_gt (blk_lt (g := gb468) (o := .cells #[.slice A0_0 l0_0.length c0_0, .slice A0_1 l0_1.length c0_1, .int .i64 a0_2] 26 (0, 0)) (by (with_reducible repeat (first | refine blk_drewN ?_ _ | refine blk_drew ?_ | refine blk_alloc ?_ _)); exact BK468.out)) : gb469 ≠ gb468)); clear BK468; clear HB; have BK468 := n0_; have HB := n1_; have BK469 := n2_; have GW469 := n3_; have GE469 := n4_; have NB468_469 := n5_; have NB469_468 := n6_; clear n0_ n1_ n2_ n3_ n4_ n5_ n6_; clear hb hbox hg))
  repeat (go_quiet (first | ((with_reducible refine gate_dst (N := 2) rfl ?_); (try (refine gate_guard (by rfl) ?_; dsimp only)); refine box_event ?hg (N := 2) ?hd (cs := #[.slice A0_0 l0_0.length c0_0, .slice A0_1 l0_1.length c0_1, .int .i64 a0_2]) (t := 26) ?hr ?_; (case hd => rfl); (case hg => rfl); (case hr => first | (go_simp; done) | (go_simp; rfl)); intro gb468 hg w4 hbox hb; have n0_ := Aside0.mk (below_step (by repeat (first | (with_reducible first | exact HB.out | apply below_alloc | apply pw_below_drewN | apply below_drew1) | exact HB.out)) hb); have n1_ := Aside0.mk (hbox); have n2_ := Aside0.mk ((by rw [hg]; exact (below_size (by repeat (first | (with_reducible first | exact HB.out | apply below_alloc | apply pw_below_drewN | apply below_drew1) | exact HB.out))) : w.heap.size ≤ gb468)); have n3_ := Aside0.mk ((by rw [hg]; exact (below_size (by repeat (first | (with_reducible first | exact HB.out | apply below_alloc | apply pw_below_drewN | apply below_drew1) | exact HB.out))) : w.heap.size ≤ gb468)); clear HB; have HB := n0_; have BK468 := n1_; have GW468 := n2_; have GE468 := n3_; clear n0_ n1_ n2_ n3_; clear hb hbox hg) | ((with_reducible refine gate_dst (N := 3) rfl ?_); (try (refine gate_guard (by rfl) ?_; dsimp only)); refine box_event ?hg (N := 3) ?hd (cs := #[.slice A1_0 l1_0.length c1_0, .slice A1_1 l1_1.length c1_1, .int .i64 a1_2]) (t := 26) ?hr ?_; (case hd => rfl); (case hg => rfl); (case hr => first | (go_simp; done) | (go_simp; rfl)); intro gb469 hg w5 hbox hb; have n0_ := Aside0.mk (blk_below (g := gb468) (o := .cells #[.slice A0_0 l0_0.length c0_0, .slice A0_1 l0_1.length c0_1, .int .i64 a0_2] 26 (0, 0)) (by (with_reducible repeat (first | refine blk_drewN ?_ _ | refine blk_drew ?_ | refine blk_alloc ?_ _)); exact BK468.out) hb); have n1_ := Aside0.mk (below_step (by repeat (first | (with_reducible first | exact HB.out | apply below_alloc | apply pw_below_drewN | apply below_drew1 | refine below_set ?_ GE468.out) | exact HB.out)) hb); have n2_ := Aside0.mk (hbox); have n3_ := Aside0.mk ((by rw [hg]; exact (below_size (by repeat (first | (with_reducible first | exact HB.out | apply below_alloc | apply pw_below_drewN | apply below_drew1 | refine below_set ?_ GE468.out) | exact HB.out))) : w.heap.size ≤ gb469)); have n4_ := Aside0.mk ((by rw [hg]; exact (below_size (by repeat (first | (with_reducible first | exact HB.out | apply below_alloc | apply pw_below_drewN | apply below_drew1 | refine below_set ?_ GE468.out) | exact HB.out))) : w.heap.size ≤ gb469)); have n5_ := Aside0.mk ((by rw [hg]; exact Nat.ne_of_lt (blk_lt (g := gb468) (o := .cells #[.slice A0_0 l0_0.length c0_0, .slice A0_1 l0_1.length c0_1, .int .i64 a0_2] 26 (0, 0)) (by (with_reducible repeat (first | refine blk_drewN ?_ _ | refine blk_drew ?_ | refine blk_alloc ?_ _)); exact BK468.out)) : gb468 ≠ gb469)); have n6_ := Aside0.mk ((by rw [hg]; exact Nat.ne_of_gt (blk_lt (g := gb468) (o := .cells #[.slice A0_0 l0_0.length c0_0, .slice A0_1 l0_1.length c0_1, .int .i64 a0_2] 26 (0, 0)) (by (with_reducible repeat (first | refine blk_drewN ?_ _ | refine blk_drew ?_ | refine blk_alloc ?_ _)); exact BK468.out)) : gb469 ≠ gb468)); clear BK468; clear HB; have BK468 := n0_; have HB := n1_; have BK469 := n2_; have GW469 := n3_; have GE469 := n4_; have NB468_469 := n5_; have NB469_468 := n6_; clear n0_ n1_ n2_ n3_ n4_ n5_ n6_; clear hb hbox hg)); go_upto_region 1 with (first | ((with_reducible refine gate_dst (N := 2) rfl ?_); (try (refine gate_guard (by rfl) ?_; dsimp only)); refine box_event ?hg (N := 2) ?hd (cs := #[.slice A0_0 l0_0.length c0_0, .slice A0_1 l0_1.length c0_1, .int .i64 a0_2]) (t := 26) ?hr ?_; (case hd => rfl); (case hg => rfl); (case hr => first | (go_simp; done) | (go_simp; rfl)); intro gb468 hg w4 hbox hb; have n0_ := Aside0.mk (below_step (by repeat (first | (with_reducible first | exact HB.out | apply below_alloc | apply pw_below_drewN | apply below_drew1) | exact HB.out)) hb); have n1_ := Aside0.mk (hbox); have n2_ := Aside0.mk ((by rw [hg]; exact (below_size (by repeat (first | (with_reducible first | exact HB.out | apply below_alloc | apply pw_below_drewN | apply below_drew1) | exact HB.out))) : w.heap.size ≤ gb468)); have n3_ := Aside0.mk ((by rw [hg]; exact (below_size (by repeat (first | (with_reducible first | exact HB.out | apply below_alloc | apply pw_below_drewN | apply below_drew1) | exact HB.out))) : w.heap.size ≤ gb468)); clear HB; have HB := n0_; have BK468 := n1_; have GW468 := n2_; have GE468 := n3_; clear n0_ n1_ n2_ n3_; clear hb hbox hg) | ((with_reducible refine gate_dst (N := 3) rfl ?_); (try (refine gate_guard (by rfl) ?_; dsimp only)); refine box_event ?hg (N := 3) ?hd (cs := #[.slice A1_0 l1_0.length c1_0, .slice A1_1 l1_1.length c1_1, .int .i64 a1_2]) (t := 26) ?hr ?_; (case hd => rfl); (case hg => rfl); (case hr => first | (go_simp; done) | (go_simp; rfl)); intro gb469 hg w5 hbox hb; have n0_ := Aside0.mk (blk_below (g := gb468) (o := .cells #[.slice A0_0 l0_0.length c0_0, .slice A0_1 l0_1.length c0_1, .int .i64 a0_2] 26 (0, 0)) (by (with_reducible repeat (first | refine blk_drewN ?_ _ | refine blk_drew ?_ | refine blk_alloc ?_ _)); exact BK468.out) hb); have n1_ := Aside0.mk (below_step (by repeat (first | (with_reducible first | exact HB.out | apply below_alloc | apply pw_below_drewN | apply below_drew1 | refine below_set ?_ GE468.out) | exact HB.out)) hb); have n2_ := Aside0.mk (hbox); have n3_ := Aside0.mk ((by rw [hg]; exact (below_size (by repeat (first | (with_reducible first | exact HB.out | apply below_alloc | apply pw_below_drewN | apply below_drew1 | refine below_set ?_ GE468.out) | exact HB.out))) : w.heap.size ≤ gb469)); have n4_ := Aside0.mk ((by rw [hg]; exact (below_size (by repeat (first | (with_reducible first | exact HB.out | apply below_alloc | apply pw_below_drewN | apply below_drew1 | refine below_set ?_ GE468.out) | exact HB.out))) : w.heap.size ≤ gb469)); have n5_ := Aside0.mk ((by rw [hg]; exact Nat.ne_of_lt (blk_lt (g := gb468) (o := .cells #[.slice A0_0 l0_0.length c0_0, .slice A0_1 l0_1.length c0_1, .int .i64 a0_2] 26 (0, 0)) (by (with_reducible repeat (first | refine blk_drewN ?_ _ | refine blk_drew ?_ | refine blk_alloc ?_ _)); exact BK468.out)) : gb468 ≠ gb469)); have n6_ := Aside0.mk ((by rw [hg]; exact Nat.ne_of_gt (blk_lt (g := gb468) (o := .cells #[.slice A0_0 l0_0.length c0_0, .slice A0_1 l0_1.length c0_1, .int .i64 a0_2] 26 (0, 0)) (by (with_reducible repeat (first | refine blk_drewN ?_ _ | refine blk_drew ?_ | refine blk_alloc ?_ _)); exact BK468.out)) : gb469 ≠ gb468)); clear BK468; clear HB; have BK468 := n0_; have HB := n1_; have BK469 := n2_; have GW469 := n3_; have GE469 := n4_; have NB468_469 := n5_; have NB469_468 := n6_; clear n0_ n1_ n2_ n3_ n4_ n5_ n6_; clear hb hbox hg)))
  (try simp only [Act.put, List.setIfInBounds_toArray, List.set_cons_zero, List.set_cons_succ])
  go_cut [27] (fun v27 wc => ∃ (kq : Nat) (x27_2 : Bool), v27 = .bool x27_2 ∧ Aside0 (laws_wmDisk.j0 kq x27_2 l0_0 l0_1 a0_2 l1_0 l1_1 a1_2 = some r) ∧ Aside0 (kq ≤ k) ∧ Aside0 (wc.heap[gb468]? = some (.cells #[(.slice A0_0 l0_0.length c0_0), (.slice A0_1 l0_1.length c0_1), .int .i64 a0_2] 26 (0, 0))) ∧ Aside0 (wc.heap[gb469]? = some (.cells #[(.slice A1_0 l1_0.length c1_0), (.slice A1_1 l1_1.length c1_1), .int .i64 a1_2] 26 (0, 0))) ∧ Aside0 (Below w.heap.size w wc))
  case first =>
    have H := HC3.out
    clear HC3
    by_cases c6 : a0_2 = a1_2
    · rw [if_pos c6] at H
      have c6b0 : (a0_2 == a1_2) = true := beq_iff_eq.mpr c6
      have c6b1 : (a0_2 != a1_2) = false := bne_eq_false_iff_eq.mpr c6
      clear c6
      (first | rw [c6b0] | (simp only [i64_w, i32_w]; rw [c6b0]) | skip)
      replace H := Option.bind_eq_some_iff.mp H
      obtain ⟨t470, A70, H⟩ := H
      replace H : (if t470 = true then (laws_wmDisk.j0 k ((l0_1.length : Int) != (l1_1.length : Int)) l0_0 l0_1 a0_2 l1_0 l1_1 a1_2) else (laws_wmDisk.j0 k true l0_0 l0_1 a0_2 l1_0 l1_1 a1_2)) = some r := H
      have A7 := Aside0.mk A70
      clear A70
      by_cases c8 : t470 = true
      · subst c8
        have H1 : (laws_wmDisk.j0 k ((l0_1.length : Int) != (l1_1.length : Int)) l0_0 l0_1 a0_2 l1_0 l1_1 a1_2) = some r := by rw [if_pos rfl] at H; exact H
        clear H
        have H := H1
        clear H1
        have H' := Aside0.mk H
        clear H
        have hnb9 := NB468_469.out
        have hnc9 := NB469_468.out
        have hcz10_0 : w5.cell? ⟨gb468, 0, none⟩ = some (.slice A0_0 l0_0.length c0_0) := (blk_cell BK468.out 0).trans rfl
        have hcz10_1 : w5.cell? ⟨gb468, 1, none⟩ = some (.slice A0_1 l0_1.length c0_1) := (blk_cell BK468.out 1).trans rfl
        have hcz10_2 : w5.cell? ⟨gb468, 2, none⟩ = some (.int .i64 a0_2) := (blk_cell BK468.out 2).trans rfl
        have hfz10_0 := blk_frozen BK468.out 0
        have hfz10_1 := blk_frozen BK468.out 1
        have hfz10_2 := blk_frozen BK468.out 2
        have hcz11_0 : w5.cell? ⟨gb469, 0, none⟩ = some (.slice A1_0 l1_0.length c1_0) := (blk_cell BK469.out 0).trans rfl
        have hcz11_1 : w5.cell? ⟨gb469, 1, none⟩ = some (.slice A1_1 l1_1.length c1_1) := (blk_cell BK469.out 1).trans rfl
        have hcz11_2 : w5.cell? ⟨gb469, 2, none⟩ = some (.int .i64 a1_2) := (blk_cell BK469.out 2).trans rfl
        have hfz11_0 := blk_frozen BK469.out 0
        have hfz11_1 := blk_frozen BK469.out 1
        have hfz11_2 := blk_frozen BK469.out 2
        go_wp2_with (first | (go_at_call 32; (with_reducible refine (laws_wmWords.calls k _ _ l0_0 _ _ l1_0 true _ ?side1 ?side2 ?side3 ?side4 A7.out).mono ?_); (case side1 => repeat (first | exact (Kd.C_below HR0_0.out HB.out) | (with_reducible refine Kd.C_alloc ?_ _) | (with_reducible refine Kd.C_drewN ?_ _) | (with_reducible refine Kd.C_drew ?_))); (case side2 => exact HC0_0.out); (case side3 => repeat (first | exact (Kd.C_below HR1_0.out HB.out) | (with_reducible refine Kd.C_alloc ?_ _) | (with_reducible refine Kd.C_drewN ?_ _) | (with_reducible refine Kd.C_drew ?_))); (case side4 => exact HC1_0.out); rintro e w' ⟨rfl, ⟨nd, rfl⟩⟩; (try first | exact ⟨rfl, _, World.drewN_drewN _ _ _⟩ | exact ⟨rfl, _, Eq.trans (World.drewN_drewN _ _ _) (congrArg (World.drewN _) (Nat.add_assoc _ _ _))⟩)))
        repeat (go_quiet (first | (go_at_call 32; (with_reducible refine (laws_wmWords.calls k _ _ l0_0 _ _ l1_0 true _ ?side1 ?side2 ?side3 ?side4 A7.out).mono ?_); (case side1 => repeat (first | exact (Kd.C_below HR0_0.out HB.out) | (with_reducible refine Kd.C_alloc ?_ _) | (with_reducible refine Kd.C_drewN ?_ _) | (with_reducible refine Kd.C_drew ?_))); (case side2 => exact HC0_0.out); (case side3 => repeat (first | exact (Kd.C_below HR1_0.out HB.out) | (with_reducible refine Kd.C_alloc ?_ _) | (with_reducible refine Kd.C_drewN ?_ _) | (with_reducible refine Kd.C_drew ?_))); (case side4 => exact HC1_0.out); rintro e w' ⟨rfl, ⟨nd, rfl⟩⟩; (try first | exact ⟨rfl, _, World.drewN_drewN _ _ _⟩ | exact ⟨rfl, _, Eq.trans (World.drewN_drewN _ _ _) (congrArg (World.drewN _) (Nat.add_assoc _ _ _))⟩))); try go_wp2_with (first | (go_at_call 32; (with_reducible refine (laws_wmWords.calls k _ _ l0_0 _ _ l1_0 true _ ?side1 ?side2 ?side3 ?side4 A7.out).mono ?_); (case side1 => repeat (first | exact (Kd.C_below HR0_0.out HB.out) | (with_reducible refine Kd.C_alloc ?_ _) | (with_reducible refine Kd.C_drewN ?_ _) | (with_reducible refine Kd.C_drew ?_))); (case side2 => exact HC0_0.out); (case side3 => repeat (first | exact (Kd.C_below HR1_0.out HB.out) | (with_reducible refine Kd.C_alloc ?_ _) | (with_reducible refine Kd.C_drewN ?_ _) | (with_reducible refine Kd.C_drew ?_))); (case side4 => exact HC1_0.out); rintro e w' ⟨rfl, ⟨nd, rfl⟩⟩; (try first | exact ⟨rfl, _, World.drewN_drewN _ _ _⟩ | exact ⟨rfl, _, Eq.trans (World.drewN_drewN _ _ _) (congrArg (World.drewN _) (Nat.add_assoc _ _ _))⟩))))
        go_meet
        case rel => exact ⟨_, (((l0_1.length : Int) != (l1_1.length : Int))), (by first | rfl | (simp; done) | (simp [*]; done)), H', ⟨by first | omega | exact Nat.le_refl _⟩, ⟨by (with_reducible repeat (first | refine blk_drewN ?_ _ | refine blk_drew ?_ | refine blk_alloc ?_ _)); exact BK468.out⟩, ⟨by (with_reducible repeat (first | refine blk_drewN ?_ _ | refine blk_drew ?_ | refine blk_alloc ?_ _)); exact BK469.out⟩, ⟨by repeat (first | (with_reducible first | exact HB.out | apply below_alloc | apply pw_below_drewN | apply below_drew1 | refine below_set ?_ GE468.out | refine below_set ?_ GE469.out) | exact HB.out)⟩⟩
      · replace c8 := Bool.eq_false_iff.mpr c8
        subst c8
        have H1 : (laws_wmDisk.j0 k true l0_0 l0_1 a0_2 l1_0 l1_1 a1_2) = some r := by rw [if_neg (show ¬ (false = true) by decide)] at H; exact H
        clear H
        have H := H1
        clear H1
        have H' := Aside0.mk H
        clear H
        have hnb12 := NB468_469.out
        have hnc12 := NB469_468.out
        have hcz13_0 : w5.cell? ⟨gb468, 0, none⟩ = some (.slice A0_0 l0_0.length c0_0) := (blk_cell BK468.out 0).trans rfl
        have hcz13_1 : w5.cell? ⟨gb468, 1, none⟩ = some (.slice A0_1 l0_1.length c0_1) := (blk_cell BK468.out 1).trans rfl
        have hcz13_2 : w5.cell? ⟨gb468, 2, none⟩ = some (.int .i64 a0_2) := (blk_cell BK468.out 2).trans rfl
        have hfz13_0 := blk_frozen BK468.out 0
        have hfz13_1 := blk_frozen BK468.out 1
        have hfz13_2 := blk_frozen BK468.out 2
        have hcz14_0 : w5.cell? ⟨gb469, 0, none⟩ = some (.slice A1_0 l1_0.length c1_0) := (blk_cell BK469.out 0).trans rfl
        have hcz14_1 : w5.cell? ⟨gb469, 1, none⟩ = some (.slice A1_1 l1_1.length c1_1) := (blk_cell BK469.out 1).trans rfl
        have hcz14_2 : w5.cell? ⟨gb469, 2, none⟩ = some (.int .i64 a1_2) := (blk_cell BK469.out 2).trans rfl
        have hfz14_0 := blk_frozen BK469.out 0
        have hfz14_1 := blk_frozen BK469.out 1
        have hfz14_2 := blk_frozen BK469.out 2
        go_wp2_with (first | (go_at_call 32; (with_reducible refine (laws_wmWords.calls k _ _ l0_0 _ _ l1_0 false _ ?side1 ?side2 ?side3 ?side4 A7.out).mono ?_); (case side1 => repeat (first | exact (Kd.C_below HR0_0.out HB.out) | (with_reducible refine Kd.C_alloc ?_ _) | (with_reducible refine Kd.C_drewN ?_ _) | (with_reducible refine Kd.C_drew ?_))); (case side2 => exact HC0_0.out); (case side3 => repeat (first | exact (Kd.C_below HR1_0.out HB.out) | (with_reducible refine Kd.C_alloc ?_ _) | (with_reducible refine Kd.C_drewN ?_ _) | (with_reducible refine Kd.C_drew ?_))); (case side4 => exact HC1_0.out); rintro e w' ⟨rfl, ⟨nd, rfl⟩⟩; (try first | exact ⟨rfl, _, World.drewN_drewN _ _ _⟩ | exact ⟨rfl, _, Eq.trans (World.drewN_drewN _ _ _) (congrArg (World.drewN _) (Nat.add_assoc _ _ _))⟩)))
        repeat (go_quiet (first | (go_at_call 32; (with_reducible refine (laws_wmWords.calls k _ _ l0_0 _ _ l1_0 false _ ?side1 ?side2 ?side3 ?side4 A7.out).mono ?_); (case side1 => repeat (first | exact (Kd.C_below HR0_0.out HB.out) | (with_reducible refine Kd.C_alloc ?_ _) | (with_reducible refine Kd.C_drewN ?_ _) | (with_reducible refine Kd.C_drew ?_))); (case side2 => exact HC0_0.out); (case side3 => repeat (first | exact (Kd.C_below HR1_0.out HB.out) | (with_reducible refine Kd.C_alloc ?_ _) | (with_reducible refine Kd.C_drewN ?_ _) | (with_reducible refine Kd.C_drew ?_))); (case side4 => exact HC1_0.out); rintro e w' ⟨rfl, ⟨nd, rfl⟩⟩; (try first | exact ⟨rfl, _, World.drewN_drewN _ _ _⟩ | exact ⟨rfl, _, Eq.trans (World.drewN_drewN _ _ _) (congrArg (World.drewN _) (Nat.add_assoc _ _ _))⟩))); try go_wp2_with (first | (go_at_call 32; (with_reducible refine (laws_wmWords.calls k _ _ l0_0 _ _ l1_0 false _ ?side1 ?side2 ?side3 ?side4 A7.out).mono ?_); (case side1 => repeat (first | exact (Kd.C_below HR0_0.out HB.out) | (with_reducible refine Kd.C_alloc ?_ _) | (with_reducible refine Kd.C_drewN ?_ _) | (with_reducible refine Kd.C_drew ?_))); (case side2 => exact HC0_0.out); (case side3 => repeat (first | exact (Kd.C_below HR1_0.out HB.out) | (with_reducible refine Kd.C_alloc ?_ _) | (with_reducible refine Kd.C_drewN ?_ _) | (with_reducible refine Kd.C_drew ?_))); (case side4 => exact HC1_0.out); rintro e w' ⟨rfl, ⟨nd, rfl⟩⟩; (try first | exact ⟨rfl, _, World.drewN_drewN _ _ _⟩ | exact ⟨rfl, _, Eq.trans (World.drewN_drewN _ _ _) (congrArg (World.drewN _) (Nat.add_assoc _ _ _))⟩))))
        go_meet
        case rel => exact ⟨_, (true), (by first | rfl | (simp; done) | (simp [*]; done)), H', ⟨by first | omega | exact Nat.le_refl _⟩, ⟨by (with_reducible repeat (first | refine blk_drewN ?_ _ | refine blk_drew ?_ | refine blk_alloc ?_ _)); exact BK468.out⟩, ⟨by (with_reducible repeat (first | refine blk_drewN ?_ _ | refine blk_drew ?_ | refine blk_alloc ?_ _)); exact BK469.out⟩, ⟨by repeat (first | (with_reducible first | exact HB.out | apply below_alloc | apply pw_below_drewN | apply below_drew1 | refine below_set ?_ GE468.out | refine below_set ?_ GE469.out) | exact HB.out)⟩⟩
    · rw [if_neg c6] at H
      have c6b0 : (a0_2 == a1_2) = false := beq_eq_false_iff_ne.mpr c6
      have c6b1 : (a0_2 != a1_2) = true := bne_iff_ne.mpr c6
      (first | rw [c6b0] | (simp only [i64_w, i32_w]; rw [c6b0]) | skip)
      have H' := Aside0.mk H
      clear H
      have hnb15 := NB468_469.out
      have hnc15 := NB469_468.out
      have hcz16_0 : w5.cell? ⟨gb468, 0, none⟩ = some (.slice A0_0 l0_0.length c0_0) := (blk_cell BK468.out 0).trans rfl
      have hcz16_1 : w5.cell? ⟨gb468, 1, none⟩ = some (.slice A0_1 l0_1.length c0_1) := (blk_cell BK468.out 1).trans rfl
      have hcz16_2 : w5.cell? ⟨gb468, 2, none⟩ = some (.int .i64 a0_2) := (blk_cell BK468.out 2).trans rfl
      have hfz16_0 := blk_frozen BK468.out 0
      have hfz16_1 := blk_frozen BK468.out 1
      have hfz16_2 := blk_frozen BK468.out 2
      have hcz17_0 : w5.cell? ⟨gb469, 0, none⟩ = some (.slice A1_0 l1_0.length c1_0) := (blk_cell BK469.out 0).trans rfl
      have hcz17_1 : w5.cell? ⟨gb469, 1, none⟩ = some (.slice A1_1 l1_1.length c1_1) := (blk_cell BK469.out 1).trans rfl
      have hcz17_2 : w5.cell? ⟨gb469, 2, none⟩ = some (.int .i64 a1_2) := (blk_cell BK469.out 2).trans rfl
      have hfz17_0 := blk_frozen BK469.out 0
      have hfz17_1 := blk_frozen BK469.out 1
      have hfz17_2 := blk_frozen BK469.out 2
      go_wp2
      repeat (go_quiet (fail); try go_wp2)
      go_meet
      case rel => exact ⟨_, (true), (by first | rfl | (simp; done) | (simp [*]; done)), H', ⟨by first | omega | exact Nat.le_refl _⟩, ⟨by (with_reducible repeat (first | refine blk_drewN ?_ _ | refine blk_drew ?_ | refine blk_alloc ?_ _)); exact BK468.out⟩, ⟨by (with_reducible repeat (first | refine blk_drewN ?_ _ | refine blk_drew ?_ | refine blk_alloc ?_ _)); exact BK469.out⟩, ⟨by repeat (first | (with_reducible first | exact HB.out | apply below_alloc | apply pw_below_drewN | apply below_drew1 | refine below_set ?_ GE468.out | refine below_set ?_ GE469.out) | exact HB.out)⟩⟩
  case rest =>
    clear HC3
    try clear c1
    try clear c2
    try clear p2
    try clear c6
    try clear c6b0
    try clear c6b1
    try clear c8
    try clear c9
    try clear c12
    try clear c15
    try clear hcz10_0
    try clear hcz10_1
    try clear hcz10_2
    try clear hcz11_0
    try clear hcz11_1
    try clear hcz11_2
    try clear hcz13_0
    try clear hcz13_1
    try clear hcz13_2
    try clear hcz14_0
    try clear hcz14_1
    try clear hcz14_2
    try clear hcz16_0
    try clear hcz16_1
    try clear hcz16_2
    try clear hcz17_0
    try clear hcz17_1
    try clear hcz17_2
    try clear hfz10_0
    try clear hfz10_1
    try clear hfz10_2
    try clear hfz11_0
    try clear hfz11_1
    try clear hfz11_2
    try clear hfz13_0
    try clear hfz13_1
    try clear hfz13_2
    try clear hfz14_0
    try clear hfz14_1
    try clear hfz14_2
    try clear hfz16_0
    try clear hfz16_1
    try clear hfz16_2
    try clear hfz17_0
    try clear hfz17_1
    try clear hfz17_2
    obtain ⟨kq, x27_2, rfl, HA, HJ2, BK468, BK469, HB⟩ := hcut
    cases kq with
    | zero => exact absurd HA.out (by simp [laws_wmDisk.j0])
    | succ kj2 =>
      have H := HA.out
      clear HA
      simp only [laws_wmDisk.j0] at H
      by_cases c18 : x27_2 = true
      · subst c18
        have H1 : (some false) = some r := by rw [if_pos rfl] at H; exact H
        clear H
        have H := H1
        clear H1
        obtain rfl := Option.some.inj H
        go_wp2
        repeat (go_quiet (fail); try go_wp2)
        go_ret
        exact ⟨by first | rfl | (simp [errW_none, errW_some] <;> rfl) | (simp [*, errW_none, errW_some] <;> rfl), by repeat (first | (with_reducible first | exact HB.out | apply below_alloc | apply pw_below_drewN | apply below_drew1 | refine below_set ?_ GE468.out | refine below_set ?_ GE469.out) | exact HB.out)⟩
      · replace c18 := Bool.eq_false_iff.mpr c18
        subst c18
        have H1 : (laws_wmDisk.l0 kj2 0 l0_0 l0_1 a0_2 l1_0 l1_1 a1_2) = some r := by rw [if_neg (show ¬ (false = true) by decide)] at H; exact H
        clear H
        have H := H1
        clear H1
        have H' := Aside0.mk H
        clear H
        go_wp2
        repeat (go_quiet (fail); try go_wp2)
        go_loopg [5] kj2 (fun kq v5 w' => ∃ (x5_2 : Int), v5 = .int .i64 x5_2 ∧ Aside0 (laws_wmDisk.l0 kq x5_2 l0_0 l0_1 a0_2 l1_0 l1_1 a1_2 = some r) ∧ Aside0 (kq ≤ kj2) ∧ Aside0 (w'.heap[gb468]? = some (.cells #[(.slice A0_0 l0_0.length c0_0), (.slice A0_1 l0_1.length c0_1), .int .i64 a0_2] 26 (0, 0))) ∧ Aside0 (w'.heap[gb469]? = some (.cells #[(.slice A1_0 l1_0.length c1_0), (.slice A1_1 l1_1.length c1_1), .int .i64 a1_2] 26 (0, 0))) ∧ Aside0 (Below w.heap.size w w'))
        case atStart => exact ⟨(0), (by first | rfl | (simp; done) | (simp [*]; done)), H', ⟨Nat.le_refl _⟩, ⟨by (with_reducible repeat (first | refine blk_drewN ?_ _ | refine blk_drew ?_ | refine blk_alloc ?_ _)); exact BK468.out⟩, ⟨by (with_reducible repeat (first | refine blk_drewN ?_ _ | refine blk_drew ?_ | refine blk_alloc ?_ _)); exact BK469.out⟩, ⟨by repeat (first | (with_reducible first | exact HB.out | apply below_alloc | apply pw_below_drewN | apply below_drew1 | refine below_set ?_ GE468.out | refine below_set ?_ GE469.out) | exact HB.out)⟩⟩
        case round =>
          clear H'
          try clear c1
          try clear c2
          try clear p2
          try clear c6
          try clear c6b0
          try clear c6b1
          try clear c8
          try clear c9
          try clear c12
          try clear c15
          try clear c18
          try clear hcz10_0
          try clear hcz10_1
          try clear hcz10_2
          try clear hcz11_0
          try clear hcz11_1
          try clear hcz11_2
          try clear hcz13_0
          try clear hcz13_1
          try clear hcz13_2
          try clear hcz14_0
          try clear hcz14_1
          try clear hcz14_2
          try clear hcz16_0
          try clear hcz16_1
          try clear hcz16_2
          try clear hcz17_0
          try clear hcz17_1
          try clear hcz17_2
          try clear hfz10_0
          try clear hfz10_1
          try clear hfz10_2
          try clear hfz11_0
          try clear hfz11_1
          try clear hfz11_2
          try clear hfz13_0
          try clear hfz13_1
          try clear hfz13_2
          try clear hfz14_0
          try clear hfz14_1
          try clear hfz14_2
          try clear hfz16_0
          try clear hfz16_1
          try clear hfz16_2
          try clear hfz17_0
          try clear hfz17_1
          try clear hfz17_2
          try clear p2
          obtain ⟨x5_2, rfl, HA, HK2, BK468, BK469, HB⟩ := hrel
          cases gk with
          | zero => exact absurd HA.out (by simp [laws_wmDisk.l0])
          | succ k2 =>
            have H := HA.out
            clear HA
            simp only [laws_wmDisk.l0] at H
            by_cases c19 : x5_2 < (l0_1.length : Int)
            · rw [if_pos c19] at H
              have c19b0 : decide (x5_2 < (l0_1.length : Int)) = true := decide_eq_true c19
              clear c19
              by_cases c20 : 0 ≤ x5_2
              · rw [if_pos c20] at H
                have c20b0 : decide (0 ≤ x5_2) = true := decide_eq_true c20
                clear c20
                by_cases c21 : x5_2 < (l1_1.length : Int)
                · rw [if_pos c21] at H
                  have c21b0 : decide (x5_2 < (l1_1.length : Int)) = true := decide_eq_true c21
                  clear c21
                  by_cases c22 : (!(((rd_impl_Wait l0_1 x5_2).f0) == ((rd_impl_Wait l1_1 x5_2).f0)) || (!((((rd_impl_Wait l0_1 x5_2).f1).toList) == (((rd_impl_Wait l1_1 x5_2).f1).toList)))) = true
                  · rw [if_pos c22] at H
                    have c22b0 : (!(((rd_impl_Wait l0_1 x5_2).f0) == ((rd_impl_Wait l1_1 x5_2).f0)) || (!((((rd_impl_Wait l0_1 x5_2).f1).toList) == (((rd_impl_Wait l1_1 x5_2).f1).toList)))) = true := c22
                    clear c22
                    obtain rfl := Option.some.inj H
                    have hnb23 := NB468_469.out
                    have hnc23 := NB469_468.out
                    have hcz24_0 : wr.cell? ⟨gb468, 0, none⟩ = some (.slice A0_0 l0_0.length c0_0) := (blk_cell BK468.out 0).trans rfl
                    have hcz24_1 : wr.cell? ⟨gb468, 1, none⟩ = some (.slice A0_1 l0_1.length c0_1) := (blk_cell BK468.out 1).trans rfl
                    have hcz24_2 : wr.cell? ⟨gb468, 2, none⟩ = some (.int .i64 a0_2) := (blk_cell BK468.out 2).trans rfl
                    have hfz24_0 := blk_frozen BK468.out 0
                    have hfz24_1 := blk_frozen BK468.out 1
                    have hfz24_2 := blk_frozen BK468.out 2
                    have p471 : 0 ≤ (x5_2 : Int) := of_decide_eq_true (by first | (with_reducible assumption) | assumption)
                    have q471 : x5_2 < (l0_1.length : Int) := of_decide_eq_true (by first | (with_reducible assumption) | assumption)
                    obtain ⟨ad471, e471, hx471_0, hx471_1⟩ := at_T48 HR0_1.out x5_2 p471 q471
                    cases e471
                    replace hx471_0 := (HB.out.cell (World.block_lt_of_cell? w _ hx471_0)).trans hx471_0
                    replace hx471_1 := (HB.out.cell (World.block_lt_of_cell? w _ hx471_1)).trans hx471_1
                    replace p471 := eq_true p471
                    replace q471 := eq_true q471
                    have hcz25_0 : wr.cell? ⟨gb469, 0, none⟩ = some (.slice A1_0 l1_0.length c1_0) := (blk_cell BK469.out 0).trans rfl
                    have hcz25_1 : wr.cell? ⟨gb469, 1, none⟩ = some (.slice A1_1 l1_1.length c1_1) := (blk_cell BK469.out 1).trans rfl
                    have hcz25_2 : wr.cell? ⟨gb469, 2, none⟩ = some (.int .i64 a1_2) := (blk_cell BK469.out 2).trans rfl
                    have hfz25_0 := blk_frozen BK469.out 0
                    have hfz25_1 := blk_frozen BK469.out 1
                    have hfz25_2 := blk_frozen BK469.out 2
                    have p472 : 0 ≤ (x5_2 : Int) := of_decide_eq_true (by first | (with_reducible assumption) | assumption)
                    have q472 : x5_2 < (l1_1.length : Int) := of_decide_eq_true (by first | (with_reducible assumption) | assumption)
                    obtain ⟨ad472, e472, hx472_0, hx472_1⟩ := at_T48 HR1_1.out x5_2 p472 q472
                    cases e472
                    replace hx472_0 := (HB.out.cell (World.block_lt_of_cell? w _ hx472_0)).trans hx472_0
                    replace hx472_1 := (HB.out.cell (World.block_lt_of_cell? w _ hx472_1)).trans hx472_1
                    replace p472 := eq_true p472
                    replace q472 := eq_true q472
                    go_wp2
                    repeat (go_quiet (fail); try go_wp2)
                    go_ret
                    exact ⟨by first | rfl | (simp [errW_none, errW_some] <;> rfl) | (simp [*, errW_none, errW_some] <;> rfl), by repeat (first | (with_reducible first | exact HB.out | apply below_alloc | apply pw_below_drewN | apply below_drew1 | refine below_set ?_ GE468.out | refine below_set ?_ GE469.out) | exact HB.out)⟩
                  · rw [if_neg c22] at H
                    have c22b0 : (!(((rd_impl_Wait l0_1 x5_2).f0) == ((rd_impl_Wait l1_1 x5_2).f0)) || (!((((rd_impl_Wait l0_1 x5_2).f1).toList) == (((rd_impl_Wait l1_1 x5_2).f1).toList)))) = false := by simpa using c22
                    clear c22
                    have H' := Aside0.mk H
                    clear H
                    have hnb26 := NB468_469.out
                    have hnc26 := NB469_468.out
                    have hcz27_0 : wr.cell? ⟨gb468, 0, none⟩ = some (.slice A0_0 l0_0.length c0_0) := (blk_cell BK468.out 0).trans rfl
                    have hcz27_1 : wr.cell? ⟨gb468, 1, none⟩ = some (.slice A0_1 l0_1.length c0_1) := (blk_cell BK468.out 1).trans rfl
                    have hcz27_2 : wr.cell? ⟨gb468, 2, none⟩ = some (.int .i64 a0_2) := (blk_cell BK468.out 2).trans rfl
                    have hfz27_0 := blk_frozen BK468.out 0
                    have hfz27_1 := blk_frozen BK468.out 1
                    have hfz27_2 := blk_frozen BK468.out 2
                    have p471 : 0 ≤ (x5_2 : Int) := of_decide_eq_true (by first | (with_reducible assumption) | assumption)
                    have q471 : x5_2 < (l0_1.length : Int) := of_decide_eq_true (by first | (with_reducible assumption) | assumption)
                    obtain ⟨ad471, e471, hx471_0, hx471_1⟩ := at_T48 HR0_1.out x5_2 p471 q471
                    cases e471
                    replace hx471_0 := (HB.out.cell (World.block_lt_of_cell? w _ hx471_0)).trans hx471_0
                    replace hx471_1 := (HB.out.cell (World.block_lt_of_cell? w _ hx471_1)).trans hx471_1
                    replace p471 := eq_true p471
                    replace q471 := eq_true q471
                    have hcz28_0 : wr.cell? ⟨gb469, 0, none⟩ = some (.slice A1_0 l1_0.length c1_0) := (blk_cell BK469.out 0).trans rfl
                    have hcz28_1 : wr.cell? ⟨gb469, 1, none⟩ = some (.slice A1_1 l1_1.length c1_1) := (blk_cell BK469.out 1).trans rfl
                    have hcz28_2 : wr.cell? ⟨gb469, 2, none⟩ = some (.int .i64 a1_2) := (blk_cell BK469.out 2).trans rfl
                    have hfz28_0 := blk_frozen BK469.out 0
                    have hfz28_1 := blk_frozen BK469.out 1
                    have hfz28_2 := blk_frozen BK469.out 2
                    have p472 : 0 ≤ (x5_2 : Int) := of_decide_eq_true (by first | (with_reducible assumption) | assumption)
                    have q472 : x5_2 < (l1_1.length : Int) := of_decide_eq_true (by first | (with_reducible assumption) | assumption)
                    obtain ⟨ad472, e472, hx472_0, hx472_1⟩ := at_T48 HR1_1.out x5_2 p472 q472
                    cases e472
                    replace hx472_0 := (HB.out.cell (World.block_lt_of_cell? w _ hx472_0)).trans hx472_0
                    replace hx472_1 := (HB.out.cell (World.block_lt_of_cell? w _ hx472_1)).trans hx472_1
                    replace p472 := eq_true p472
                    replace q472 := eq_true q472
                    go_wp2
                    repeat (go_quiet (fail); try go_wp2)
                    go_roundg k2
                    case measure => have := HJ2.out; have := HK2.out; omega
                    case rel => exact ⟨(wrap64 (x5_2 + 1)), (by first | rfl | (simp; done) | (simp [*]; done)), H', ⟨by have := HJ2.out; have := HK2.out; omega⟩, ⟨by (with_reducible repeat (first | refine blk_drewN ?_ _ | refine blk_drew ?_ | refine blk_alloc ?_ _)); exact BK468.out⟩, ⟨by (with_reducible repeat (first | refine blk_drewN ?_ _ | refine blk_drew ?_ | refine blk_alloc ?_ _)); exact BK469.out⟩, ⟨by repeat (first | (with_reducible first | exact HB.out | apply below_alloc | apply pw_below_drewN | apply below_drew1 | refine below_set ?_ GE468.out | refine below_set ?_ GE469.out) | exact HB.out)⟩⟩
                · rw [if_neg c21] at H
                  exact absurd H (by simp)
              · rw [if_neg c20] at H
                exact absurd H (by simp)
            · rw [if_neg c19] at H
              have c19b0 : decide (x5_2 < (l0_1.length : Int)) = false := decide_eq_false c19
              clear c19
              obtain rfl := Option.some.inj H
              have hnb29 := NB468_469.out
              have hnc29 := NB469_468.out
              have hcz30_0 : wr.cell? ⟨gb468, 0, none⟩ = some (.slice A0_0 l0_0.length c0_0) := (blk_cell BK468.out 0).trans rfl
              have hcz30_1 : wr.cell? ⟨gb468, 1, none⟩ = some (.slice A0_1 l0_1.length c0_1) := (blk_cell BK468.out 1).trans rfl
              have hcz30_2 : wr.cell? ⟨gb468, 2, none⟩ = some (.int .i64 a0_2) := (blk_cell BK468.out 2).trans rfl
              have hfz30_0 := blk_frozen BK468.out 0
              have hfz30_1 := blk_frozen BK468.out 1
              have hfz30_2 := blk_frozen BK468.out 2
              go_wp2
              repeat (go_quiet (fail); try go_wp2)
              go_ret
              exact ⟨by first | rfl | (simp [errW_none, errW_some] <;> rfl) | (simp [*, errW_none, errW_some] <;> rfl), by repeat (first | (with_reducible first | exact HB.out | apply below_alloc | apply pw_below_drewN | apply below_drew1 | refine below_set ?_ GE468.out | refine below_set ?_ GE469.out) | exact HB.out)⟩
end Go.Proofs.Ytjmdinhobhoojaa.P
namespace Go.Proofs.Ytjmdinhobhoojaa.P
open Go.RowKit Go.Proofs.YtjmdinhobhoojaaW.PrintWords Go.Proofs.YtjmdinhobhoojaaW.PrintLast Go.Proofs.YtjmdinhobhoojaaW.PrintMore
attribute [local go_sem] max2_int min2_int max_two min_two max_three min_three max_four min_four   -- for this text's walks alone
set_option linter.unusedVariables false
set_option linter.unusedSimpArgs false
def disk_flush.l0 : Nat → List (S_impl_Wait) → Int → List ByteArray → Option (List ByteArray)
  | 0, _, _, _ => none
  | k + 1, x1, x2, x3 => if x2 < (x1.length : Int) then (if 0 ≤ x2 then (if 0 ≤ ((rd_impl_Wait x1 x2).f0) then (if ((rd_impl_Wait x1 x2).f0) < (x3.length : Int) then (disk_flush.l0 k x1 (wrap64 (x2 + 1)) (x3.set (((rd_impl_Wait x1 x2).f0) : Int).toNat ((rd_impl_Wait x1 x2).f1))) else (none)) else (none)) else (none)) else (some x3)
/-- A flush of a disk that has stopped. -/
theorem disk_flush_0 (g : Nat) (A0 : Option Addr) (c0 : Nat) (A1 : Option Addr) (c1 : Nat) (l0 : List ByteArray) (l1 : List (S_impl_Wait)) (w0 W : World) (q : Nat) (cq : Array Value)
    (hbox : W.heap[g]? = some (.cells #[.slice A0 l0.length c0, .slice A1 l1.length c1, .int .i64 0] 26 (0, 0)))
    (ho0 : Kd.R Kd.string 9 W w0.heap.size (fun _ => True) (.slice A0 l0.length c0) l0) (ho1 : Kd.R k48 48 W w0.heap.size (fun _ => True) (.slice A1 l1.length c1) l1)
    (hq : W.heap[q]? = some (.cells cq 26 (0, 0))) (hqg : q ≠ g) (HB : Below w0.heap.size w0 W) :
    Calls Try.prog 56 #[.pointer (some ⟨g, 0, none⟩)] W fun e w' => e = .returned (.tuple #[]) ∧ w'.heap[g]? = some (.cells #[.slice A0 l0.length c0, .slice A1 l1.length c1, .int .i64 0] 26 (0, 0)) ∧ Kd.R Kd.string 9 w' w0.heap.size (fun _ => True) (.slice A0 l0.length c0) l0 ∧ Kd.R k48 48 w' w0.heap.size (fun _ => True) (.slice A1 l1.length c1) l1 ∧ Below w0.heap.size w0 w' ∧ w'.heap[q]? = some (.cells cq 26 (0, 0)) := by
  have HX := Aside0.mk hbox
  have HO0 := Aside0.mk ho0
  have HO1 := Aside0.mk ho1
  have HB' := Aside0.mk HB
  have HQ := Aside0.mk hq
  have NQ := Aside0.mk hqg
  clear ho0 ho1 HB hbox hq hqg
  have z0 : W.cell? ⟨g, 0, none⟩ = some (.slice A0 l0.length c0) := (blk_cell HX.out 0).trans rfl
  have z1 : W.cell? ⟨g, 1, none⟩ = some (.slice A1 l1.length c1) := (blk_cell HX.out 1).trans rfl
  have z2 : W.cell? ⟨g, 2, none⟩ = some (.int .i64 0) := (blk_cell HX.out 2).trans rfl
  have f0 := blk_frozen HX.out 0
  have f1 := blk_frozen HX.out 1
  have f2 := blk_frozen HX.out 2
  go_enter Try.func56, Try.ntmps56
  go_wp2
  refine bodyPost_ret (results_none rfl _ _ _) rfl ?_
  exact ⟨rfl, HX.out, HO0.out, HO1.out, HB'.out, HQ.out⟩
set_option maxHeartbeats 4000000 in
set_option maxRecDepth 100000 in
theorem disk_flush_1 (k : Nat) (g : Nat) (A0 : Option Addr) (c0 : Nat) (A1 : Option Addr) (c1 : Nat) (l0 : List ByteArray) (l1 : List (S_impl_Wait)) (n : Int) (r : List ByteArray) (w0 W : World) (q : Nat) (cq : Array Value)
    (hbox : W.heap[g]? = some (.cells #[.slice A0 l0.length c0, .slice A1 l1.length c1, .int .i64 n] 26 (0, 0)))
    (ho0 : Kd.R Kd.string 9 W w0.heap.size (fun _ => True) (.slice A0 l0.length c0) l0) (ho1 : Kd.R k48 48 W w0.heap.size (fun _ => True) (.slice A1 l1.length c1) l1)
    (hq : W.heap[q]? = some (.cells cq 26 (0, 0))) (hqg : q ≠ g) (HB : Below w0.heap.size w0 W) (hg : w0.heap.size ≤ g) (hn : 0 < n) (hF : disk_flush.l0 k l1 0 l0 = some r) :
    Calls Try.prog 56 #[.pointer (some ⟨g, 0, none⟩)] W fun e w' => e = .returned (.tuple #[]) ∧ ∃ v0 : Value, w'.heap[g]? = some (.cells #[v0, .slice none 0 0, .int .i64 (wrap64 (n - 1))] 26 (0, 0)) ∧ Kd.R Kd.string 9 w' w0.heap.size (fun _ => True) v0 r ∧ Below w0.heap.size w0 w' ∧ w'.heap[q]? = some (.cells cq 26 (0, 0)) := by
  have hu1 := Try.underlying26
  have hu2 := Try.underlying48
  have HX := Aside0.mk hbox
  have HO0 := Aside0.mk ho0
  have HO1 := Aside0.mk ho1
  have HB' := Aside0.mk HB
  have HQ := Aside0.mk hq
  have NQ := Aside0.mk hqg
  clear ho0 ho1 HB hbox hq hqg
  have HG := Aside0.mk hg
  have HF := Aside0.mk hF
  clear hg hF
  have z0 : W.cell? ⟨g, 0, none⟩ = some (.slice A0 l0.length c0) := (blk_cell HX.out 0).trans rfl
  have z1 : W.cell? ⟨g, 1, none⟩ = some (.slice A1 l1.length c1) := (blk_cell HX.out 1).trans rfl
  have z2 : W.cell? ⟨g, 2, none⟩ = some (.int .i64 n) := (blk_cell HX.out 2).trans rfl
  have f0 := blk_frozen HX.out 0
  have f1 := blk_frozen HX.out 1
  have f2 := blk_frozen HX.out 2
  have t0 : (n == 0) = false := beq_eq_false_iff_ne.mpr (by omega)
  have t1 : decide (0 < n) = true := decide_eq_true hn
  clear hn
  have HP := Aside0.mk (blk_put HX.out 2 (.int .i64 (wrap64 (n - 1))) rfl)
  have HQ1 := Aside0.mk (Kd.R_set HO1.out HX.out (by decide) 2 (.int .i64 (wrap64 (n - 1))))
  have HQ0 := Aside0.mk (Kd.R_set HO0.out HX.out (by decide) 2 (.int .i64 (wrap64 (n - 1))))
  have HQB := Aside0.mk (below_set (j := 2) (v := .int .i64 (wrap64 (n - 1))) HB'.out HG.out)
  have HQ' := Aside0.mk (blk_far (p := ⟨g, 2, none⟩) HQ.out NQ.out (.int .i64 (wrap64 (n - 1))))
  go_enter Try.func56, Try.ntmps56
  go_wp2_with go_in
  go_loopg [12] k (fun kq v w' => ∃ (x : Int) (b : List ByteArray) (u : Value), v = .int .i64 x ∧ Aside0 (disk_flush.l0 kq l1 x b = some r) ∧ Aside0 (kq ≤ k) ∧ Aside0 (Kd.R Kd.string 9 w' w0.heap.size (fun _ => True) u b) ∧ Aside0 (Kd.R k48 48 w' w0.heap.size (fun _ => True) (.slice A1 l1.length c1) l1) ∧ Aside0 (w'.heap[g]? = some (.cells #[u, .slice A1 l1.length c1, .int .i64 (wrap64 (n - 1))] 26 (0, 0))) ∧ Aside0 (w'.heap[q]? = some (.cells cq 26 (0, 0))) ∧ Aside0 (Below w0.heap.size w0 w'))
  case atStart => exact ⟨0, l0, .slice A0 l0.length c0, (by first | rfl | (simp; done)), HF, ⟨Nat.le_refl _⟩, HQ0, HQ1, HP, HQ', HQB⟩
  case round =>
    clear HF z0 z1 z2 f0 f1 f2
    obtain ⟨x, b, u, rfl, HA, HK2, HR, HW, BK, BQ, HB⟩ := hrel
    cases gk with
    | zero => exact absurd HA.out (by simp [disk_flush.l0])
    | succ k2 =>
      have H := HA.out
      clear HA
      simp only [disk_flush.l0] at H
      by_cases c29 : x < (l1.length : Int)
      · rw [if_pos c29] at H
        by_cases c30 : 0 ≤ x
        · rw [if_pos c30] at H
          by_cases c36 : 0 ≤ ((rd_impl_Wait l1 x).f0)
          · rw [if_pos c36] at H
            by_cases c37 : ((rd_impl_Wait l1 x).f0) < (b.length : Int)
            · rw [if_pos c37] at H
              obtain ⟨y, hy⟩ : ∃ y_ : List ByteArray, y_ = (b.set (((rd_impl_Wait l1 x).f0) : Int).toNat ((rd_impl_Wait l1 x).f1)) := ⟨_, rfl⟩
              rw [← hy] at H
              have Ny := Aside0.mk hy
              clear hy
              have H' := Aside0.mk H
              clear H
              obtain ⟨ad, e531, hx0, hx1⟩ := at_T48 (Kd.R_reads' HW.out).2.2 x c30 c29
              cases e531
              have c29b : decide (x < (l1.length : Int)) = true := decide_eq_true c29
              have c30b : decide (0 ≤ x) = true := decide_eq_true c30
              have c36b : decide (0 ≤ ((rd_impl_Wait l1 x).f0)) = true := decide_eq_true c36
              have c37b : decide (((rd_impl_Wait l1 x).f0) < (b.length : Int)) = true := decide_eq_true c37
              obtain ⟨go, co, eo, gb, gl, cl, HGo⟩ := Kd.R_form HR.out (by omega)
              (first | cases eo | (injection eo with ea_ en_ ec_; (first | subst ea_ | (injection ea_ with ea_; subst ea_)); subst ec_; clear en_))
              have GB := Aside0.mk gb
              clear gb gl HGo
              have NG := Aside0.mk (show g ≠ go from fun e => (Kd.R_ne HR.out BK.out (by decide)) (by rw [e]; rfl))
              replace c29 := eq_true c29
              replace c30 := eq_true c30
              replace c36 := eq_true c36
              replace c37 := eq_true c37
              go_wp2_with (first | ((with_reducible refine gate_dst (N := 3) rfl ?_); refine box_event ?hg (N := 3) ?hd (cs := #[.int .i64 0, .string (⟨#[]⟩ : ByteArray)]) (t := 48) ?hr ?_; (case hd => rfl); (case hg => rfl); (case hr => first | (go_simp; done) | (go_simp; rfl)); intro gw hg w39 hbox hb; have n0_ := Aside0.mk (Kd.R_below HR.out hb); have n1_ := Aside0.mk (Kd.R_below HW.out hb); have n2_ := Aside0.mk (blk_below BK.out hb); have n3_ := Aside0.mk (blk_below BQ.out hb); have n4_ := Aside0.mk (below_step HB.out hb); have n5_ := Aside0.mk hbox; have n6_ := Aside0.mk ((by rw [hg]; exact below_size HB.out) : w0.heap.size ≤ gw); have n7_ := Aside0.mk ((by rw [hg]; exact Nat.ne_of_lt (blk_lt BK.out)) : g ≠ gw); have n8_ := Aside0.mk ((by rw [hg]; exact Nat.ne_of_lt (blk_lt BQ.out)) : q ≠ gw); have n9_ := Aside0.mk ((by rw [hg]; exact Nat.ne_of_gt (blk_lt BK.out)) : gw ≠ g); have n10_ := Aside0.mk (Kd.R_mono (Kd.R_below (Kd.R_bound HW.out) hb) (fun k hk => (show k ≠ gw from by rw [hg]; exact Nat.ne_of_lt hk.2.2.1))); clear HR HW BK BQ HB; have HR := n0_; have HW := n1_; have BK := n2_; have BQ := n3_; have HB := n4_; have BW := n5_; have GW := n6_; have N1 := n7_; have N2 := n8_; have N3 := n9_; have HWF := n10_; clear n0_ n1_ n2_ n3_ n4_ n5_ n6_ n7_ n8_ n9_ n10_; clear hb hbox hg; have y0 : w39.cell? ⟨gw, 0, none⟩ = some (.int .i64 0) := (blk_cell BW.out 0).trans rfl; have y1 : w39.cell? ⟨gw, 1, none⟩ = some (.string (⟨#[]⟩ : ByteArray)) := (blk_cell BW.out 1).trans rfl; have y2 := blk_frozen BW.out 0; have y3 := blk_frozen BW.out 1) | ((with_reducible refine gate_store (t := 48) (p := 3) rfl ?_); refine store_event (t := 48) (p := 3) (v := ?vo_w44) (w1 := ((w39.setCell ⟨gw, 0, none⟩ (.int .i64 ((rd_impl_Wait l1 x).f0))).setCell ⟨gw, 1, none⟩ (.string ((rd_impl_Wait l1 x).f1)))) ?hg ?ho ?hn ?hr ?_; (case ho => rfl); (case hg => rfl); (case hn => rfl); (case hr => first | (go_simp; done) | (go_simp; rfl)); intro w44 hw; have n0_ : Aside0 (Kd.R Kd.string 9 w44 w0.heap.size (fun _ => True) (.slice (some ⟨go, 0, none⟩) b.length co) b) := ⟨by rw [hw]; exact Kd.R_set (Kd.R_set HR.out BW.out (by decide) 0 _) (blk_put BW.out 0 _ rfl) (by decide) 1 _⟩; have n1_ : Aside0 (Kd.R k48 48 w44 w0.heap.size (fun _ => True) (.slice (some ad) l1.length c1) l1) := ⟨by rw [hw]; exact Kd.R_mono (Kd.R_far (p := ⟨gw, 1, none⟩) (Kd.R_far (p := ⟨gw, 0, none⟩) HWF.out (fun _ hk => hk) _) (fun _ hk => hk) _) (fun _ _ => trivial)⟩; have n2_ : Aside0 (w44.heap[g]? = some (.cells #[.slice (some ⟨go, 0, none⟩) b.length co, .slice (some ad) l1.length c1, .int .i64 (wrap64 (n - 1))] 26 (0, 0))) := ⟨by rw [hw]; exact blk_far (blk_far BK.out N1.out _) N1.out _⟩; have n3_ : Aside0 (w44.heap[q]? = some (.cells cq 26 (0, 0))) := ⟨by rw [hw]; exact blk_far (blk_far BQ.out N2.out _) N2.out _⟩; have n4_ : Aside0 (Below w0.heap.size w0 w44) := ⟨by rw [hw]; exact below_set (below_set HB.out GW.out) GW.out⟩; have n5_ : Aside0 (w44.heap[gw]? = some (.cells #[.int .i64 ((rd_impl_Wait l1 x).f0), .string ((rd_impl_Wait l1 x).f1)] 48 (0, 0))) := ⟨by rw [hw]; exact blk_put (blk_put BW.out 0 _ rfl) 1 _ rfl⟩; clear hw; clear HR HW BK BQ HB BW; have HR := n0_; have HW := n1_; have BK := n2_; have BQ := n3_; have HB := n4_; have BW := n5_; clear n0_ n1_ n2_ n3_ n4_ n5_; have y4 : w44.cell? ⟨g, 0, none⟩ = some (.slice (some ⟨go, 0, none⟩) b.length co) := (blk_cell BK.out 0).trans rfl; have y5 : w44.cell? ⟨gw, 0, none⟩ = some (.int .i64 ((rd_impl_Wait l1 x).f0)) := (blk_cell BW.out 0).trans rfl; have y6 : w44.cell? ⟨gw, 1, none⟩ = some (.string ((rd_impl_Wait l1 x).f1)) := (blk_cell BW.out 1).trans rfl; obtain ⟨hx38, hf38⟩ := Kd.R_celln (⟨#[]⟩ : ByteArray) HR.out (((rd_impl_Wait l1 x).f0) : Int) (of_eq_true c36) (of_eq_true c37)))
              go_region
              go_wp2
              have HPg := Aside0.mk (Kd.R_putg HR.out (((rd_impl_Wait l1 x).f0) : Int) ((rd_impl_Wait l1 x).f1))
              go_roundg k2
              case measure => have := HK2.out; omega
              case rel => exact ⟨_, y, .slice (some ⟨go, 0, none⟩) b.length co, rfl, H', ⟨by have := HK2.out; omega⟩, ⟨by (with_reducible repeat (first | apply Kd.R_drewN | apply Kd.R_drew)); rw [Ny.out]; exact HPg.out.1⟩, ⟨by (with_reducible repeat (first | apply Kd.R_drewN | apply Kd.R_drew)); exact Kd.R_over' HW.out (Kd.R_typed HR.out) (by decide) HPg.out.2⟩, ⟨by (with_reducible repeat (first | refine blk_drewN ?_ _ | refine blk_drew ?_)); exact blk_grown BK.out HPg.out.2 (Kd.R_ne HR.out BK.out (by decide))⟩, ⟨by (with_reducible repeat (first | refine blk_drewN ?_ _ | refine blk_drew ?_)); exact blk_grown BQ.out HPg.out.2 (Kd.R_ne HR.out BQ.out (by decide))⟩, ⟨by repeat (first | (with_reducible first | exact HB.out | apply pw_below_drewN | apply below_drew1 | refine below_set ?_ GB.out) | exact HB.out)⟩⟩
            · rw [if_neg c37] at H
              exact absurd H (by simp)
          · rw [if_neg c36] at H
            exact absurd H (by simp)
        · rw [if_neg c30] at H
          exact absurd H (by simp)
      · rw [if_neg c29] at H
        have c29b : decide (x < (l1.length : Int)) = false := decide_eq_false c29
        clear c29
        obtain rfl := Option.some.inj H
        have y1 : wr.cell? ⟨g, 1, none⟩ = some (.slice A1 l1.length c1) := (blk_cell BK.out 1).trans rfl
        have y2 := blk_frozen BK.out 1
        go_wp2
        go_end0
        exact ⟨rfl, _, blk_put BK.out 1 _ rfl, Kd.R_set HR.out BK.out (by decide) 1 _, below_set HB.out HG.out, blk_far BQ.out NQ.out _⟩
set_option maxHeartbeats 4000000 in
set_option maxRecDepth 100000 in
theorem disk_flush_2 (k : Nat) (g : Nat) (A0 : Option Addr) (c0 : Nat) (A1 : Option Addr) (c1 : Nat) (l0 : List ByteArray) (l1 : List (S_impl_Wait)) (n : Int) (r : List ByteArray) (w0 W : World) (q : Nat) (cq : Array Value)
    (hbox : W.heap[g]? = some (.cells #[.slice A0 l0.length c0, .slice A1 l1.length c1, .int .i64 n] 26 (0, 0)))
    (ho0 : Kd.R Kd.string 9 W w0.heap.size (fun _ => True) (.slice A0 l0.length c0) l0) (ho1 : Kd.R k48 48 W w0.heap.size (fun _ => True) (.slice A1 l1.length c1) l1)
    (hq : W.heap[q]? = some (.cells cq 26 (0, 0))) (hqg : q ≠ g) (HB : Below w0.heap.size w0 W) (hg : w0.heap.size ≤ g) (hn : n < 0) (hF : disk_flush.l0 k l1 0 l0 = some r) :
    Calls Try.prog 56 #[.pointer (some ⟨g, 0, none⟩)] W fun e w' => e = .returned (.tuple #[]) ∧ ∃ v0 : Value, w'.heap[g]? = some (.cells #[v0, .slice none 0 0, .int .i64 n] 26 (0, 0)) ∧ Kd.R Kd.string 9 w' w0.heap.size (fun _ => True) v0 r ∧ Below w0.heap.size w0 w' ∧ w'.heap[q]? = some (.cells cq 26 (0, 0)) := by
  have hu1 := Try.underlying26
  have hu2 := Try.underlying48
  have HX := Aside0.mk hbox
  have HO0 := Aside0.mk ho0
  have HO1 := Aside0.mk ho1
  have HB' := Aside0.mk HB
  have HQ := Aside0.mk hq
  have NQ := Aside0.mk hqg
  clear ho0 ho1 HB hbox hq hqg
  have HG := Aside0.mk hg
  have HF := Aside0.mk hF
  clear hg hF
  have z0 : W.cell? ⟨g, 0, none⟩ = some (.slice A0 l0.length c0) := (blk_cell HX.out 0).trans rfl
  have z1 : W.cell? ⟨g, 1, none⟩ = some (.slice A1 l1.length c1) := (blk_cell HX.out 1).trans rfl
  have z2 : W.cell? ⟨g, 2, none⟩ = some (.int .i64 n) := (blk_cell HX.out 2).trans rfl
  have f0 := blk_frozen HX.out 0
  have f1 := blk_frozen HX.out 1
  have f2 := blk_frozen HX.out 2
  have t0 : (n == 0) = false := beq_eq_false_iff_ne.mpr (by omega)
  have t1 : decide (0 < n) = false := decide_eq_false (by omega)
  clear hn
  go_enter Try.func56, Try.ntmps56
  go_wp2_with go_in
  go_loopg [12] k (fun kq v w' => ∃ (x : Int) (b : List ByteArray) (u : Value), v = .int .i64 x ∧ Aside0 (disk_flush.l0 kq l1 x b = some r) ∧ Aside0 (kq ≤ k) ∧ Aside0 (Kd.R Kd.string 9 w' w0.heap.size (fun _ => True) u b) ∧ Aside0 (Kd.R k48 48 w' w0.heap.size (fun _ => True) (.slice A1 l1.length c1) l1) ∧ Aside0 (w'.heap[g]? = some (.cells #[u, .slice A1 l1.length c1, .int .i64 n] 26 (0, 0))) ∧ Aside0 (w'.heap[q]? = some (.cells cq 26 (0, 0))) ∧ Aside0 (Below w0.heap.size w0 w'))
  case atStart => exact ⟨0, l0, .slice A0 l0.length c0, (by first | rfl | (simp; done)), HF, ⟨Nat.le_refl _⟩, HO0, HO1, HX, HQ, HB'⟩
  case round =>
    clear HF z0 z1 z2 f0 f1 f2
    obtain ⟨x, b, u, rfl, HA, HK2, HR, HW, BK, BQ, HB⟩ := hrel
    cases gk with
    | zero => exact absurd HA.out (by simp [disk_flush.l0])
    | succ k2 =>
      have H := HA.out
      clear HA
      simp only [disk_flush.l0] at H
      by_cases c29 : x < (l1.length : Int)
      · rw [if_pos c29] at H
        by_cases c30 : 0 ≤ x
        · rw [if_pos c30] at H
          by_cases c36 : 0 ≤ ((rd_impl_Wait l1 x).f0)
          · rw [if_pos c36] at H
            by_cases c37 : ((rd_impl_Wait l1 x).f0) < (b.length : Int)
            · rw [if_pos c37] at H
              obtain ⟨y, hy⟩ : ∃ y_ : List ByteArray, y_ = (b.set (((rd_impl_Wait l1 x).f0) : Int).toNat ((rd_impl_Wait l1 x).f1)) := ⟨_, rfl⟩
              rw [← hy] at H
              have Ny := Aside0.mk hy
              clear hy
              have H' := Aside0.mk H
              clear H
              obtain ⟨ad, e531, hx0, hx1⟩ := at_T48 (Kd.R_reads' HW.out).2.2 x c30 c29
              cases e531
              have c29b : decide (x < (l1.length : Int)) = true := decide_eq_true c29
              have c30b : decide (0 ≤ x) = true := decide_eq_true c30
              have c36b : decide (0 ≤ ((rd_impl_Wait l1 x).f0)) = true := decide_eq_true c36
              have c37b : decide (((rd_impl_Wait l1 x).f0) < (b.length : Int)) = true := decide_eq_true c37
              obtain ⟨go, co, eo, gb, gl, cl, HGo⟩ := Kd.R_form HR.out (by omega)
              (first | cases eo | (injection eo with ea_ en_ ec_; (first | subst ea_ | (injection ea_ with ea_; subst ea_)); subst ec_; clear en_))
              have GB := Aside0.mk gb
              clear gb gl HGo
              have NG := Aside0.mk (show g ≠ go from fun e => (Kd.R_ne HR.out BK.out (by decide)) (by rw [e]; rfl))
              replace c29 := eq_true c29
              replace c30 := eq_true c30
              replace c36 := eq_true c36
              replace c37 := eq_true c37
              go_wp2_with (first | ((with_reducible refine gate_dst (N := 3) rfl ?_); refine box_event ?hg (N := 3) ?hd (cs := #[.int .i64 0, .string (⟨#[]⟩ : ByteArray)]) (t := 48) ?hr ?_; (case hd => rfl); (case hg => rfl); (case hr => first | (go_simp; done) | (go_simp; rfl)); intro gw hg w39 hbox hb; have n0_ := Aside0.mk (Kd.R_below HR.out hb); have n1_ := Aside0.mk (Kd.R_below HW.out hb); have n2_ := Aside0.mk (blk_below BK.out hb); have n3_ := Aside0.mk (blk_below BQ.out hb); have n4_ := Aside0.mk (below_step HB.out hb); have n5_ := Aside0.mk hbox; have n6_ := Aside0.mk ((by rw [hg]; exact below_size HB.out) : w0.heap.size ≤ gw); have n7_ := Aside0.mk ((by rw [hg]; exact Nat.ne_of_lt (blk_lt BK.out)) : g ≠ gw); have n8_ := Aside0.mk ((by rw [hg]; exact Nat.ne_of_lt (blk_lt BQ.out)) : q ≠ gw); have n9_ := Aside0.mk ((by rw [hg]; exact Nat.ne_of_gt (blk_lt BK.out)) : gw ≠ g); have n10_ := Aside0.mk (Kd.R_mono (Kd.R_below (Kd.R_bound HW.out) hb) (fun k hk => (show k ≠ gw from by rw [hg]; exact Nat.ne_of_lt hk.2.2.1))); clear HR HW BK BQ HB; have HR := n0_; have HW := n1_; have BK := n2_; have BQ := n3_; have HB := n4_; have BW := n5_; have GW := n6_; have N1 := n7_; have N2 := n8_; have N3 := n9_; have HWF := n10_; clear n0_ n1_ n2_ n3_ n4_ n5_ n6_ n7_ n8_ n9_ n10_; clear hb hbox hg; have y0 : w39.cell? ⟨gw, 0, none⟩ = some (.int .i64 0) := (blk_cell BW.out 0).trans rfl; have y1 : w39.cell? ⟨gw, 1, none⟩ = some (.string (⟨#[]⟩ : ByteArray)) := (blk_cell BW.out 1).trans rfl; have y2 := blk_frozen BW.out 0; have y3 := blk_frozen BW.out 1) | ((with_reducible refine gate_store (t := 48) (p := 3) rfl ?_); refine store_event (t := 48) (p := 3) (v := ?vo_w44) (w1 := ((w39.setCell ⟨gw, 0, none⟩ (.int .i64 ((rd_impl_Wait l1 x).f0))).setCell ⟨gw, 1, none⟩ (.string ((rd_impl_Wait l1 x).f1)))) ?hg ?ho ?hn ?hr ?_; (case ho => rfl); (case hg => rfl); (case hn => rfl); (case hr => first | (go_simp; done) | (go_simp; rfl)); intro w44 hw; have n0_ : Aside0 (Kd.R Kd.string 9 w44 w0.heap.size (fun _ => True) (.slice (some ⟨go, 0, none⟩) b.length co) b) := ⟨by rw [hw]; exact Kd.R_set (Kd.R_set HR.out BW.out (by decide) 0 _) (blk_put BW.out 0 _ rfl) (by decide) 1 _⟩; have n1_ : Aside0 (Kd.R k48 48 w44 w0.heap.size (fun _ => True) (.slice (some ad) l1.length c1) l1) := ⟨by rw [hw]; exact Kd.R_mono (Kd.R_far (p := ⟨gw, 1, none⟩) (Kd.R_far (p := ⟨gw, 0, none⟩) HWF.out (fun _ hk => hk) _) (fun _ hk => hk) _) (fun _ _ => trivial)⟩; have n2_ : Aside0 (w44.heap[g]? = some (.cells #[.slice (some ⟨go, 0, none⟩) b.length co, .slice (some ad) l1.length c1, .int .i64 n] 26 (0, 0))) := ⟨by rw [hw]; exact blk_far (blk_far BK.out N1.out _) N1.out _⟩; have n3_ : Aside0 (w44.heap[q]? = some (.cells cq 26 (0, 0))) := ⟨by rw [hw]; exact blk_far (blk_far BQ.out N2.out _) N2.out _⟩; have n4_ : Aside0 (Below w0.heap.size w0 w44) := ⟨by rw [hw]; exact below_set (below_set HB.out GW.out) GW.out⟩; have n5_ : Aside0 (w44.heap[gw]? = some (.cells #[.int .i64 ((rd_impl_Wait l1 x).f0), .string ((rd_impl_Wait l1 x).f1)] 48 (0, 0))) := ⟨by rw [hw]; exact blk_put (blk_put BW.out 0 _ rfl) 1 _ rfl⟩; clear hw; clear HR HW BK BQ HB BW; have HR := n0_; have HW := n1_; have BK := n2_; have BQ := n3_; have HB := n4_; have BW := n5_; clear n0_ n1_ n2_ n3_ n4_ n5_; have y4 : w44.cell? ⟨g, 0, none⟩ = some (.slice (some ⟨go, 0, none⟩) b.length co) := (blk_cell BK.out 0).trans rfl; have y5 : w44.cell? ⟨gw, 0, none⟩ = some (.int .i64 ((rd_impl_Wait l1 x).f0)) := (blk_cell BW.out 0).trans rfl; have y6 : w44.cell? ⟨gw, 1, none⟩ = some (.string ((rd_impl_Wait l1 x).f1)) := (blk_cell BW.out 1).trans rfl; obtain ⟨hx38, hf38⟩ := Kd.R_celln (⟨#[]⟩ : ByteArray) HR.out (((rd_impl_Wait l1 x).f0) : Int) (of_eq_true c36) (of_eq_true c37)))
              go_region
              go_wp2
              have HPg := Aside0.mk (Kd.R_putg HR.out (((rd_impl_Wait l1 x).f0) : Int) ((rd_impl_Wait l1 x).f1))
              go_roundg k2
              case measure => have := HK2.out; omega
              case rel => exact ⟨_, y, .slice (some ⟨go, 0, none⟩) b.length co, rfl, H', ⟨by have := HK2.out; omega⟩, ⟨by (with_reducible repeat (first | apply Kd.R_drewN | apply Kd.R_drew)); rw [Ny.out]; exact HPg.out.1⟩, ⟨by (with_reducible repeat (first | apply Kd.R_drewN | apply Kd.R_drew)); exact Kd.R_over' HW.out (Kd.R_typed HR.out) (by decide) HPg.out.2⟩, ⟨by (with_reducible repeat (first | refine blk_drewN ?_ _ | refine blk_drew ?_)); exact blk_grown BK.out HPg.out.2 (Kd.R_ne HR.out BK.out (by decide))⟩, ⟨by (with_reducible repeat (first | refine blk_drewN ?_ _ | refine blk_drew ?_)); exact blk_grown BQ.out HPg.out.2 (Kd.R_ne HR.out BQ.out (by decide))⟩, ⟨by repeat (first | (with_reducible first | exact HB.out | apply pw_below_drewN | apply below_drew1 | refine below_set ?_ GB.out) | exact HB.out)⟩⟩
            · rw [if_neg c37] at H
              exact absurd H (by simp)
          · rw [if_neg c36] at H
            exact absurd H (by simp)
        · rw [if_neg c30] at H
          exact absurd H (by simp)
      · rw [if_neg c29] at H
        have c29b : decide (x < (l1.length : Int)) = false := decide_eq_false c29
        clear c29
        obtain rfl := Option.some.inj H
        have y1 : wr.cell? ⟨g, 1, none⟩ = some (.slice A1 l1.length c1) := (blk_cell BK.out 1).trans rfl
        have y2 := blk_frozen BK.out 1
        go_wp2
        go_end0
        exact ⟨rfl, _, blk_put BK.out 1 _ rfl, Kd.R_set HR.out BK.out (by decide) 1 _, below_set HB.out HG.out, blk_far BQ.out NQ.out _⟩
def impl_DiskFlush.f (k : Nat) (l0_0 : List ByteArray) (l0_1 : List (S_impl_Wait)) (a0_2 : Int) : Option (List ByteArray × (List (S_impl_Wait)) × Int) := (impl_isDisk.f k l0_0 l0_1 a0_2).bind fun t => (if t = true then ((impl_copyDisk.f l0_0 l0_1 a0_2).bind fun c => (if c.2.2 = 0 then (some (c.1, c.2.1, c.2.2)) else ((disk_flush.l0 k c.2.1 0 c.1).bind fun b => (some (b, ([] : List (S_impl_Wait)), if 0 < c.2.2 then wrap64 (c.2.2 - 1) else c.2.2))))) else (some (([] : List ByteArray), ([] : List (S_impl_Wait)), 0)))
set_option maxHeartbeats 8000000 in
set_option maxRecDepth 100000 in
theorem impl_DiskFlush.calls_0 (k : Nat) (A0_0 : Option Addr) (c0_0 : Nat) (l0_0 : List ByteArray) (A0_1 : Option Addr) (c0_1 : Nat) (l0_1 : List (S_impl_Wait)) (a0_2 : Int) (w : World) (hr0_0 : Kd.C Kd.string w A0_0 l0_0.length l0_0) (hc0_0 : l0_0.length ≤ c0_0) (hr0_1 : Kd.C k48 w A0_1 l0_1.length l0_1) (hc0_1 : l0_1.length ≤ c0_1) (A3 : impl_isDisk.f k l0_0 l0_1 a0_2 = some false) :
    Calls Try.prog 28 #[.agg #[.slice A0_0 l0_0.length c0_0, .slice A0_1 l0_1.length c0_1, .int .i64 a0_2]] w fun e w' => ∃ v0_ v1_ : Value, e = .returned (.agg #[v0_, v1_, .int .i64 0]) ∧ Kd.R Kd.string 9 w' w.heap.size (fun _ => True) v0_ [] ∧ Kd.R k48 48 w' w.heap.size (fun _ => True) v1_ [] ∧ Below w.heap.size w w' := by
  have hu26 := Try.underlying26
  have HR0_0 := Aside0.mk hr0_0
  have HC0_0 := Aside0.mk hc0_0
  clear hr0_0 hc0_0
  have HR0_1 := Aside0.mk hr0_1
  have HC0_1 := Aside0.mk hc0_1
  clear hr0_1 hc0_1
  have HB := Aside0.mk (Below.refl w.heap.size w)
  have A3 := Aside0.mk A3
  go_enter Try.func28, Try.ntmps28
  go_wp2_with (first | ((with_reducible refine gate_dst (N := 1) rfl ?_); refine box_event ?hg (N := 1) ?hd (cs := #[.slice A0_0 l0_0.length c0_0, .slice A0_1 l0_1.length c0_1, .int .i64 a0_2]) (t := 26) ?hr ?_; (case hd => rfl); (case hg => rfl); (case hr => first | (go_simp; done) | (go_simp; rfl)); intro gb hg w8 hbox hb; have n0_ := Aside0.mk (below_step HB.out hb); have n1_ := Aside0.mk hbox; have n2_ := Aside0.mk ((by rw [hg]; exact below_size HB.out) : w.heap.size ≤ gb); clear HB; have HB := n0_; have BK := n1_; have GE := n2_; clear n0_ n1_ n2_; clear hb hbox hg) | ((with_reducible refine gate_dst (N := 2) rfl ?_); refine box_event ?hg (N := 2) ?hd (cs := #[.slice none 0 0, .slice none 0 0, .int .i64 0]) (t := 26) ?hr ?_; (case hd => rfl); (case hg => rfl); (case hr => first | (go_simp; done) | (go_simp; rfl)); intro gr hg w9 hbox hb; have n0_ := Aside0.mk (below_step HB.out hb); have n1_ := Aside0.mk hbox; have n2_ := Aside0.mk ((by rw [hg]; exact below_size HB.out) : w.heap.size ≤ gr); have n3_ := Aside0.mk (blk_below BK.out hb); have n4_ := Aside0.mk ((by rw [hg]; exact Nat.ne_of_lt (blk_lt BK.out)) : gb ≠ gr); have n5_ := Aside0.mk ((by rw [hg]; exact Nat.ne_of_gt (blk_lt BK.out)) : gr ≠ gb); clear HB BK; have HB := n0_; have BR := n1_; have GR := n2_; have BK := n3_; have NE := n4_; have NE' := n5_; clear n0_ n1_ n2_ n3_ n4_ n5_; clear hb hbox hg; have hne := NE.out; have hne' := NE'.out; have p0 : w9.cell? ⟨gb, 0, none⟩ = some (.slice A0_0 l0_0.length c0_0) := (blk_cell BK.out 0).trans rfl; have p1 : w9.cell? ⟨gb, 1, none⟩ = some (.slice A0_1 l0_1.length c0_1) := (blk_cell BK.out 1).trans rfl; have p2 : w9.cell? ⟨gb, 2, none⟩ = some (.int .i64 a0_2) := (blk_cell BK.out 2).trans rfl; have pf0 := blk_frozen BK.out 0; have pf1 := blk_frozen BK.out 1; have pf2 := blk_frozen BK.out 2) | (go_at_call 48; (with_reducible refine (impl_isDisk.calls k _ _ l0_0 _ _ l0_1 a0_2 false _ (Kd.C_below HR0_0.out HB.out) HC0_0.out (Kd.C_below HR0_1.out HB.out) HC0_1.out A3.out).mono ?_); rintro e w10 ⟨rfl, hb⟩; have n0_ := Aside0.mk (blk_below (g := gb) BK.out hb); have n1_ := Aside0.mk (below_step HB.out hb); have n2_ := Aside0.mk (blk_below (g := gr) BR.out hb); clear BK BR HB hb; have BK := n0_; have HB := n1_; have BR := n2_; clear n0_ n1_ n2_; have q0 : w10.cell? ⟨gb, 0, none⟩ = some (.slice A0_0 l0_0.length c0_0) := (blk_cell BK.out 0).trans rfl; have q1 : w10.cell? ⟨gb, 1, none⟩ = some (.slice A0_1 l0_1.length c0_1) := (blk_cell BK.out 1).trans rfl; have q2 : w10.cell? ⟨gb, 2, none⟩ = some (.int .i64 a0_2) := (blk_cell BK.out 2).trans rfl; have qf0 := blk_frozen BK.out 0; have qf1 := blk_frozen BK.out 1; have qf2 := blk_frozen BK.out 2; have r0 : w10.cell? ⟨gr, 0, none⟩ = some (.slice none 0 0) := (blk_cell BR.out 0).trans rfl; have r1 : w10.cell? ⟨gr, 1, none⟩ = some (.slice none 0 0) := (blk_cell BR.out 1).trans rfl; have r2 : w10.cell? ⟨gr, 2, none⟩ = some (.int .i64 0) := (blk_cell BR.out 2).trans rfl; have rf0 := blk_frozen BR.out 0; have rf1 := blk_frozen BR.out 1; have rf2 := blk_frozen BR.out 2))
  refine bodyPost_ret (results_cell_row rfl _ _ gr 26 #[.slice none 0 0, .slice none 0 0, .int .i64 0] (0, 0) _ rfl (by (with_reducible repeat (first | refine blk_drewN ?_ _ | refine blk_drew ?_ | refine blk_alloc ?_ _)); refine blk_put (cs := #[.slice none 0 0, .slice none 0 0, .int .i64 0]) ?_ 2 _ rfl; refine blk_put (cs := #[.slice none 0 0, .slice none 0 0, .int .i64 0]) ?_ 1 _ rfl; refine blk_put (cs := #[.slice none 0 0, .slice none 0 0, .int .i64 0]) ?_ 0 _ rfl; exact BR.out) Try.underlying26 rfl (by kernel_rfl)) rfl ?_
  exact ⟨_, _, rfl, Kd.R_nil _ _ _ _ _, Kd.R_nil _ _ _ _ _, by repeat (first | (with_reducible first | exact HB.out | apply below_alloc | apply pw_below_drewN | apply below_drew1 | refine below_set ?_ GE.out | refine below_set ?_ GR.out) | exact HB.out)⟩
set_option maxHeartbeats 8000000 in
set_option maxRecDepth 100000 in
theorem impl_DiskFlush.calls_1 (k : Nat) (A0_0 : Option Addr) (c0_0 : Nat) (l0_0 : List ByteArray) (A0_1 : Option Addr) (c0_1 : Nat) (l0_1 : List (S_impl_Wait)) (a0_2 : Int) (c1 : List ByteArray) (c2 : List (S_impl_Wait)) (w : World) (hr0_0 : Kd.C Kd.string w A0_0 l0_0.length l0_0) (hc0_0 : l0_0.length ≤ c0_0) (hr0_1 : Kd.C k48 w A0_1 l0_1.length l0_1) (hc0_1 : l0_1.length ≤ c0_1) (A3 : impl_isDisk.f k l0_0 l0_1 a0_2 = some true) (A5 : impl_copyDisk.f l0_0 l0_1 a0_2 = some (c1, c2, 0))  :
    Calls Try.prog 28 #[.agg #[.slice A0_0 l0_0.length c0_0, .slice A0_1 l0_1.length c0_1, .int .i64 a0_2]] w fun e w' => ∃ v0_ v1_ : Value, e = .returned (.agg #[v0_, v1_, .int .i64 0]) ∧ Kd.R Kd.string 9 w' w.heap.size (fun _ => True) v0_ c1 ∧ Kd.R k48 48 w' w.heap.size (fun _ => True) v1_ c2 ∧ Below w.heap.size w w' := by
  have hu26 := Try.underlying26
  have HR0_0 := Aside0.mk hr0_0
  have HC0_0 := Aside0.mk hc0_0
  clear hr0_0 hc0_0
  have HR0_1 := Aside0.mk hr0_1
  have HC0_1 := Aside0.mk hc0_1
  clear hr0_1 hc0_1
  have HB := Aside0.mk (Below.refl w.heap.size w)
  have A3 := Aside0.mk A3
  have A5 := Aside0.mk A5
  go_enter Try.func28, Try.ntmps28
  go_wp2_with (first | ((with_reducible refine gate_dst (N := 1) rfl ?_); refine box_event ?hg (N := 1) ?hd (cs := #[.slice A0_0 l0_0.length c0_0, .slice A0_1 l0_1.length c0_1, .int .i64 a0_2]) (t := 26) ?hr ?_; (case hd => rfl); (case hg => rfl); (case hr => first | (go_simp; done) | (go_simp; rfl)); intro gb hg w8 hbox hb; have n0_ := Aside0.mk (below_step HB.out hb); have n1_ := Aside0.mk hbox; have n2_ := Aside0.mk ((by rw [hg]; exact below_size HB.out) : w.heap.size ≤ gb); clear HB; have HB := n0_; have BK := n1_; have GE := n2_; clear n0_ n1_ n2_; clear hb hbox hg) | ((with_reducible refine gate_dst (N := 2) rfl ?_); refine box_event ?hg (N := 2) ?hd (cs := #[.slice none 0 0, .slice none 0 0, .int .i64 0]) (t := 26) ?hr ?_; (case hd => rfl); (case hg => rfl); (case hr => first | (go_simp; done) | (go_simp; rfl)); intro gr hg w9 hbox hb; have n0_ := Aside0.mk (below_step HB.out hb); have n1_ := Aside0.mk hbox; have n2_ := Aside0.mk ((by rw [hg]; exact below_size HB.out) : w.heap.size ≤ gr); have n3_ := Aside0.mk (blk_below BK.out hb); have n4_ := Aside0.mk ((by rw [hg]; exact Nat.ne_of_lt (blk_lt BK.out)) : gb ≠ gr); have n5_ := Aside0.mk ((by rw [hg]; exact Nat.ne_of_gt (blk_lt BK.out)) : gr ≠ gb); clear HB BK; have HB := n0_; have BR := n1_; have GR := n2_; have BK := n3_; have NE := n4_; have NE' := n5_; clear n0_ n1_ n2_ n3_ n4_ n5_; clear hb hbox hg; have hne := NE.out; have hne' := NE'.out; have p0 : w9.cell? ⟨gb, 0, none⟩ = some (.slice A0_0 l0_0.length c0_0) := (blk_cell BK.out 0).trans rfl; have p1 : w9.cell? ⟨gb, 1, none⟩ = some (.slice A0_1 l0_1.length c0_1) := (blk_cell BK.out 1).trans rfl; have p2 : w9.cell? ⟨gb, 2, none⟩ = some (.int .i64 a0_2) := (blk_cell BK.out 2).trans rfl; have pf0 := blk_frozen BK.out 0; have pf1 := blk_frozen BK.out 1; have pf2 := blk_frozen BK.out 2) | (go_at_call 48; (with_reducible refine (impl_isDisk.calls k _ _ l0_0 _ _ l0_1 a0_2 true _ (Kd.C_below HR0_0.out HB.out) HC0_0.out (Kd.C_below HR0_1.out HB.out) HC0_1.out A3.out).mono ?_); rintro e w10 ⟨rfl, hb⟩; have n0_ := Aside0.mk (blk_below (g := gb) BK.out hb); have n1_ := Aside0.mk (below_step HB.out hb); have n2_ := Aside0.mk (blk_below (g := gr) BR.out hb); clear BK BR HB hb; have BK := n0_; have HB := n1_; have BR := n2_; clear n0_ n1_ n2_; have q0 : w10.cell? ⟨gb, 0, none⟩ = some (.slice A0_0 l0_0.length c0_0) := (blk_cell BK.out 0).trans rfl; have q1 : w10.cell? ⟨gb, 1, none⟩ = some (.slice A0_1 l0_1.length c0_1) := (blk_cell BK.out 1).trans rfl; have q2 : w10.cell? ⟨gb, 2, none⟩ = some (.int .i64 a0_2) := (blk_cell BK.out 2).trans rfl; have qf0 := blk_frozen BK.out 0; have qf1 := blk_frozen BK.out 1; have qf2 := blk_frozen BK.out 2; have r0 : w10.cell? ⟨gr, 0, none⟩ = some (.slice none 0 0) := (blk_cell BR.out 0).trans rfl; have r1 : w10.cell? ⟨gr, 1, none⟩ = some (.slice none 0 0) := (blk_cell BR.out 1).trans rfl; have r2 : w10.cell? ⟨gr, 2, none⟩ = some (.int .i64 0) := (blk_cell BR.out 2).trans rfl; have rf0 := blk_frozen BR.out 0; have rf1 := blk_frozen BR.out 1; have rf2 := blk_frozen BR.out 2) | (go_at_call 54; (with_reducible refine (impl_copyDisk.calls _ _ l0_0 _ _ l0_1 a0_2 c1 c2 0 _ (Kd.C_below HR0_0.out HB.out) HC0_0.out (Kd.C_below HR0_1.out HB.out) HC0_1.out A5.out).mono ?_); rintro e w11 ⟨v0, v1, rfl, hR0, hR1, hb⟩; have n0_ := Aside0.mk (Kd.R_lower hR0 (below_size HB.out)); have n1_ := Aside0.mk (Kd.R_lower hR1 (below_size HB.out)); have n2_ := Aside0.mk (blk_below (g := gb) BK.out hb); have n3_ := Aside0.mk (blk_below (g := gr) BR.out hb); have n4_ := Aside0.mk (below_step HB.out hb); clear BK BR HB hb hR0 hR1; have HO0 := n0_; have HO1 := n1_; have BK := n2_; have BR := n3_; have HB := n4_; clear n0_ n1_ n2_ n3_ n4_; obtain ⟨B0, d0, e0⟩ := Kd.R_slice HO0.out; subst e0; obtain ⟨B1, d1, e1⟩ := Kd.R_slice HO1.out; subst e1; have u0 : w11.cell? ⟨gb, 0, none⟩ = some (.slice A0_0 l0_0.length c0_0) := (blk_cell BK.out 0).trans rfl; have u1 : w11.cell? ⟨gb, 1, none⟩ = some (.slice A0_1 l0_1.length c0_1) := (blk_cell BK.out 1).trans rfl; have u2 : w11.cell? ⟨gb, 2, none⟩ = some (.int .i64 a0_2) := (blk_cell BK.out 2).trans rfl; have uf0 := blk_frozen BK.out 0; have uf1 := blk_frozen BK.out 1; have uf2 := blk_frozen BK.out 2; have v0 : w11.cell? ⟨gr, 0, none⟩ = some (.slice none 0 0) := (blk_cell BR.out 0).trans rfl; have v1 : w11.cell? ⟨gr, 1, none⟩ = some (.slice none 0 0) := (blk_cell BR.out 1).trans rfl; have v2 : w11.cell? ⟨gr, 2, none⟩ = some (.int .i64 0) := (blk_cell BR.out 2).trans rfl; have vf0 := blk_frozen BR.out 0; have vf1 := blk_frozen BR.out 1; have vf2 := blk_frozen BR.out 2) | (go_at_call 56; (with_reducible refine (disk_flush_0 gb B0 d0 B1 d1 c1 c2 w _ gr #[.slice none 0 0, .slice none 0 0, .int .i64 0] ?w1 ?w2 ?w3 ?w5 NE'.out ?w4).mono ?_); (case w1 => exact (by (with_reducible repeat (first | refine blk_drewN ?_ _ | refine blk_drew ?_ | refine blk_alloc ?_ _)); refine blk_put (cs := #[.slice B0 c1.length d0, .slice B1 c2.length d1, .int .i64 a0_2]) ?_ 2 _ rfl; refine blk_put (cs := #[.slice B0 c1.length d0, .slice A0_1 l0_1.length c0_1, .int .i64 a0_2]) ?_ 1 _ rfl; refine blk_put (cs := #[.slice A0_0 l0_0.length c0_0, .slice A0_1 l0_1.length c0_1, .int .i64 a0_2]) ?_ 0 _ rfl; exact BK.out)); (case w2 => exact (by (with_reducible repeat (first | apply Kd.R_alloc | apply Kd.R_drewN | apply Kd.R_drew)); exact Kd.R_mono (Kd.R_far (p := ⟨gb, 2, none⟩) (Kd.R_far (p := ⟨gb, 1, none⟩) (Kd.R_far (p := ⟨gb, 0, none⟩) (Kd.R_types HO0.out BK.out (by decide)) (fun _ hk => hk.2) _) (fun _ hk => hk.2) _) (fun _ hk => hk.2) _) (fun _ hk => hk.1))); (case w3 => exact (by (with_reducible repeat (first | apply Kd.R_alloc | apply Kd.R_drewN | apply Kd.R_drew)); exact Kd.R_mono (Kd.R_far (p := ⟨gb, 2, none⟩) (Kd.R_far (p := ⟨gb, 1, none⟩) (Kd.R_far (p := ⟨gb, 0, none⟩) (Kd.R_types HO1.out BK.out (by decide)) (fun _ hk => hk.2) _) (fun _ hk => hk.2) _) (fun _ hk => hk.2) _) (fun _ hk => hk.1))); (case w4 => exact (by repeat (first | (with_reducible first | exact HB.out | apply below_alloc | apply pw_below_drewN | apply below_drew1 | refine below_set ?_ GE.out | refine below_set ?_ GR.out) | exact HB.out))); (case w5 => exact (by (with_reducible repeat (first | refine blk_drewN ?_ _ | refine blk_drew ?_ | refine blk_alloc ?_ _)); refine blk_far ?_ NE'.out _; refine blk_far ?_ NE'.out _; refine blk_far ?_ NE'.out _; exact BR.out)); rintro e w13 ⟨rfl, hx, h0, h1, hb, hq⟩; have n0_ := Aside0.mk hx; have n1_ := Aside0.mk h0; have n2_ := Aside0.mk h1; have n3_ := Aside0.mk hb; have n4_ := Aside0.mk hq; clear hx h0 h1 hb hq BK BR HB HO0 HO1; have BK := n0_; have HO0 := n1_; have HO1 := n2_; have HB := n3_; have BR := n4_; clear n0_ n1_ n2_ n3_ n4_; have x0 : w13.cell? ⟨gb, 0, none⟩ = some (.slice B0 c1.length d0) := (blk_cell BK.out 0).trans rfl; have x1 : w13.cell? ⟨gb, 1, none⟩ = some (.slice B1 c2.length d1) := (blk_cell BK.out 1).trans rfl; have x2 : w13.cell? ⟨gb, 2, none⟩ = some (.int .i64 0) := (blk_cell BK.out 2).trans rfl; have xf0 := blk_frozen BK.out 0; have xf1 := blk_frozen BK.out 1; have xf2 := blk_frozen BK.out 2; have y0 : w13.cell? ⟨gr, 0, none⟩ = some (.slice none 0 0) := (blk_cell BR.out 0).trans rfl; have y1 : w13.cell? ⟨gr, 1, none⟩ = some (.slice none 0 0) := (blk_cell BR.out 1).trans rfl; have y2 : w13.cell? ⟨gr, 2, none⟩ = some (.int .i64 0) := (blk_cell BR.out 2).trans rfl; have yf0 := blk_frozen BR.out 0; have yf1 := blk_frozen BR.out 1; have yf2 := blk_frozen BR.out 2))
  refine bodyPost_ret (results_cell_row rfl _ _ gr 26 #[.slice B0 c1.length d0, .slice B1 c2.length d1, .int .i64 0] (0, 0) _ rfl (by (with_reducible repeat (first | refine blk_drewN ?_ _ | refine blk_drew ?_ | refine blk_alloc ?_ _)); refine blk_put (cs := #[.slice B0 c1.length d0, .slice B1 c2.length d1, .int .i64 0]) ?_ 2 _ rfl; (with_reducible repeat (first | refine blk_drewN ?_ _ | refine blk_drew ?_)); refine blk_put (cs := #[.slice B0 c1.length d0, .slice none 0 0, .int .i64 0]) ?_ 1 _ rfl; (with_reducible repeat (first | refine blk_drewN ?_ _ | refine blk_drew ?_)); refine blk_put (cs := #[.slice none 0 0, .slice none 0 0, .int .i64 0]) ?_ 0 _ rfl; (with_reducible repeat (first | refine blk_drewN ?_ _ | refine blk_drew ?_)); exact BR.out) Try.underlying26 rfl (by kernel_rfl)) rfl ?_
  exact ⟨_, _, rfl, by (with_reducible repeat (first | apply Kd.R_alloc | apply Kd.R_drewN | apply Kd.R_drew)); exact Kd.R_mono (Kd.R_far (p := ⟨gr, 2, none⟩) (Kd.R_far (p := ⟨gr, 1, none⟩) (Kd.R_far (p := ⟨gr, 0, none⟩) (Kd.R_types HO0.out BR.out (by decide)) (fun _ hk => hk.2) _) (fun _ hk => hk.2) _) (fun _ hk => hk.2) _) (fun _ hk => hk.1), by (with_reducible repeat (first | apply Kd.R_alloc | apply Kd.R_drewN | apply Kd.R_drew)); exact Kd.R_mono (Kd.R_far (p := ⟨gr, 2, none⟩) (Kd.R_far (p := ⟨gr, 1, none⟩) (Kd.R_far (p := ⟨gr, 0, none⟩) (Kd.R_types HO1.out BR.out (by decide)) (fun _ hk => hk.2) _) (fun _ hk => hk.2) _) (fun _ hk => hk.2) _) (fun _ hk => hk.1), by repeat (first | (with_reducible first | exact HB.out | apply below_alloc | apply pw_below_drewN | apply below_drew1 | refine below_set ?_ GE.out | refine below_set ?_ GR.out) | exact HB.out)⟩
set_option maxHeartbeats 8000000 in
set_option maxRecDepth 100000 in
theorem impl_DiskFlush.calls_2 (k : Nat) (A0_0 : Option Addr) (c0_0 : Nat) (l0_0 : List ByteArray) (A0_1 : Option Addr) (c0_1 : Nat) (l0_1 : List (S_impl_Wait)) (a0_2 : Int) (c1 : List ByteArray) (c2 : List (S_impl_Wait)) (c3 : Int) (rb : List ByteArray) (w : World) (hr0_0 : Kd.C Kd.string w A0_0 l0_0.length l0_0) (hc0_0 : l0_0.length ≤ c0_0) (hr0_1 : Kd.C k48 w A0_1 l0_1.length l0_1) (hc0_1 : l0_1.length ≤ c0_1) (A3 : impl_isDisk.f k l0_0 l0_1 a0_2 = some true) (A5 : impl_copyDisk.f l0_0 l0_1 a0_2 = some (c1, c2, c3)) (hz : 0 < c3) (hF : disk_flush.l0 k c2 0 c1 = some rb) :
    Calls Try.prog 28 #[.agg #[.slice A0_0 l0_0.length c0_0, .slice A0_1 l0_1.length c0_1, .int .i64 a0_2]] w fun e w' => ∃ v0_ v1_ : Value, e = .returned (.agg #[v0_, v1_, .int .i64 (wrap64 (c3 - 1))]) ∧ Kd.R Kd.string 9 w' w.heap.size (fun _ => True) v0_ rb ∧ Kd.R k48 48 w' w.heap.size (fun _ => True) v1_ [] ∧ Below w.heap.size w w' := by
  have hu26 := Try.underlying26
  have HR0_0 := Aside0.mk hr0_0
  have HC0_0 := Aside0.mk hc0_0
  clear hr0_0 hc0_0
  have HR0_1 := Aside0.mk hr0_1
  have HC0_1 := Aside0.mk hc0_1
  clear hr0_1 hc0_1
  have HB := Aside0.mk (Below.refl w.heap.size w)
  have A3 := Aside0.mk A3
  have A5 := Aside0.mk A5
  have HZ := Aside0.mk hz
  have HF := Aside0.mk hF
  clear hz hF
  go_enter Try.func28, Try.ntmps28
  go_wp2_with (first | ((with_reducible refine gate_dst (N := 1) rfl ?_); refine box_event ?hg (N := 1) ?hd (cs := #[.slice A0_0 l0_0.length c0_0, .slice A0_1 l0_1.length c0_1, .int .i64 a0_2]) (t := 26) ?hr ?_; (case hd => rfl); (case hg => rfl); (case hr => first | (go_simp; done) | (go_simp; rfl)); intro gb hg w8 hbox hb; have n0_ := Aside0.mk (below_step HB.out hb); have n1_ := Aside0.mk hbox; have n2_ := Aside0.mk ((by rw [hg]; exact below_size HB.out) : w.heap.size ≤ gb); clear HB; have HB := n0_; have BK := n1_; have GE := n2_; clear n0_ n1_ n2_; clear hb hbox hg) | ((with_reducible refine gate_dst (N := 2) rfl ?_); refine box_event ?hg (N := 2) ?hd (cs := #[.slice none 0 0, .slice none 0 0, .int .i64 0]) (t := 26) ?hr ?_; (case hd => rfl); (case hg => rfl); (case hr => first | (go_simp; done) | (go_simp; rfl)); intro gr hg w9 hbox hb; have n0_ := Aside0.mk (below_step HB.out hb); have n1_ := Aside0.mk hbox; have n2_ := Aside0.mk ((by rw [hg]; exact below_size HB.out) : w.heap.size ≤ gr); have n3_ := Aside0.mk (blk_below BK.out hb); have n4_ := Aside0.mk ((by rw [hg]; exact Nat.ne_of_lt (blk_lt BK.out)) : gb ≠ gr); have n5_ := Aside0.mk ((by rw [hg]; exact Nat.ne_of_gt (blk_lt BK.out)) : gr ≠ gb); clear HB BK; have HB := n0_; have BR := n1_; have GR := n2_; have BK := n3_; have NE := n4_; have NE' := n5_; clear n0_ n1_ n2_ n3_ n4_ n5_; clear hb hbox hg; have hne := NE.out; have hne' := NE'.out; have p0 : w9.cell? ⟨gb, 0, none⟩ = some (.slice A0_0 l0_0.length c0_0) := (blk_cell BK.out 0).trans rfl; have p1 : w9.cell? ⟨gb, 1, none⟩ = some (.slice A0_1 l0_1.length c0_1) := (blk_cell BK.out 1).trans rfl; have p2 : w9.cell? ⟨gb, 2, none⟩ = some (.int .i64 a0_2) := (blk_cell BK.out 2).trans rfl; have pf0 := blk_frozen BK.out 0; have pf1 := blk_frozen BK.out 1; have pf2 := blk_frozen BK.out 2) | (go_at_call 48; (with_reducible refine (impl_isDisk.calls k _ _ l0_0 _ _ l0_1 a0_2 true _ (Kd.C_below HR0_0.out HB.out) HC0_0.out (Kd.C_below HR0_1.out HB.out) HC0_1.out A3.out).mono ?_); rintro e w10 ⟨rfl, hb⟩; have n0_ := Aside0.mk (blk_below (g := gb) BK.out hb); have n1_ := Aside0.mk (below_step HB.out hb); have n2_ := Aside0.mk (blk_below (g := gr) BR.out hb); clear BK BR HB hb; have BK := n0_; have HB := n1_; have BR := n2_; clear n0_ n1_ n2_; have q0 : w10.cell? ⟨gb, 0, none⟩ = some (.slice A0_0 l0_0.length c0_0) := (blk_cell BK.out 0).trans rfl; have q1 : w10.cell? ⟨gb, 1, none⟩ = some (.slice A0_1 l0_1.length c0_1) := (blk_cell BK.out 1).trans rfl; have q2 : w10.cell? ⟨gb, 2, none⟩ = some (.int .i64 a0_2) := (blk_cell BK.out 2).trans rfl; have qf0 := blk_frozen BK.out 0; have qf1 := blk_frozen BK.out 1; have qf2 := blk_frozen BK.out 2; have r0 : w10.cell? ⟨gr, 0, none⟩ = some (.slice none 0 0) := (blk_cell BR.out 0).trans rfl; have r1 : w10.cell? ⟨gr, 1, none⟩ = some (.slice none 0 0) := (blk_cell BR.out 1).trans rfl; have r2 : w10.cell? ⟨gr, 2, none⟩ = some (.int .i64 0) := (blk_cell BR.out 2).trans rfl; have rf0 := blk_frozen BR.out 0; have rf1 := blk_frozen BR.out 1; have rf2 := blk_frozen BR.out 2) | (go_at_call 54; (with_reducible refine (impl_copyDisk.calls _ _ l0_0 _ _ l0_1 a0_2 c1 c2 c3 _ (Kd.C_below HR0_0.out HB.out) HC0_0.out (Kd.C_below HR0_1.out HB.out) HC0_1.out A5.out).mono ?_); rintro e w11 ⟨v0, v1, rfl, hR0, hR1, hb⟩; have n0_ := Aside0.mk (Kd.R_lower hR0 (below_size HB.out)); have n1_ := Aside0.mk (Kd.R_lower hR1 (below_size HB.out)); have n2_ := Aside0.mk (blk_below (g := gb) BK.out hb); have n3_ := Aside0.mk (blk_below (g := gr) BR.out hb); have n4_ := Aside0.mk (below_step HB.out hb); clear BK BR HB hb hR0 hR1; have HO0 := n0_; have HO1 := n1_; have BK := n2_; have BR := n3_; have HB := n4_; clear n0_ n1_ n2_ n3_ n4_; obtain ⟨B0, d0, e0⟩ := Kd.R_slice HO0.out; subst e0; obtain ⟨B1, d1, e1⟩ := Kd.R_slice HO1.out; subst e1; have u0 : w11.cell? ⟨gb, 0, none⟩ = some (.slice A0_0 l0_0.length c0_0) := (blk_cell BK.out 0).trans rfl; have u1 : w11.cell? ⟨gb, 1, none⟩ = some (.slice A0_1 l0_1.length c0_1) := (blk_cell BK.out 1).trans rfl; have u2 : w11.cell? ⟨gb, 2, none⟩ = some (.int .i64 a0_2) := (blk_cell BK.out 2).trans rfl; have uf0 := blk_frozen BK.out 0; have uf1 := blk_frozen BK.out 1; have uf2 := blk_frozen BK.out 2; have v0 : w11.cell? ⟨gr, 0, none⟩ = some (.slice none 0 0) := (blk_cell BR.out 0).trans rfl; have v1 : w11.cell? ⟨gr, 1, none⟩ = some (.slice none 0 0) := (blk_cell BR.out 1).trans rfl; have v2 : w11.cell? ⟨gr, 2, none⟩ = some (.int .i64 0) := (blk_cell BR.out 2).trans rfl; have vf0 := blk_frozen BR.out 0; have vf1 := blk_frozen BR.out 1; have vf2 := blk_frozen BR.out 2) | (go_at_call 56; (with_reducible refine (disk_flush_1 k gb B0 d0 B1 d1 c1 c2 c3 rb w _ gr #[.slice none 0 0, .slice none 0 0, .int .i64 0] ?w1 ?w2 ?w3 ?w5 NE'.out ?w4 GE.out HZ.out HF.out).mono ?_); (case w1 => exact (by (with_reducible repeat (first | refine blk_drewN ?_ _ | refine blk_drew ?_ | refine blk_alloc ?_ _)); refine blk_put (cs := #[.slice B0 c1.length d0, .slice B1 c2.length d1, .int .i64 a0_2]) ?_ 2 _ rfl; refine blk_put (cs := #[.slice B0 c1.length d0, .slice A0_1 l0_1.length c0_1, .int .i64 a0_2]) ?_ 1 _ rfl; refine blk_put (cs := #[.slice A0_0 l0_0.length c0_0, .slice A0_1 l0_1.length c0_1, .int .i64 a0_2]) ?_ 0 _ rfl; exact BK.out)); (case w2 => exact (by (with_reducible repeat (first | apply Kd.R_alloc | apply Kd.R_drewN | apply Kd.R_drew)); exact Kd.R_mono (Kd.R_far (p := ⟨gb, 2, none⟩) (Kd.R_far (p := ⟨gb, 1, none⟩) (Kd.R_far (p := ⟨gb, 0, none⟩) (Kd.R_types HO0.out BK.out (by decide)) (fun _ hk => hk.2) _) (fun _ hk => hk.2) _) (fun _ hk => hk.2) _) (fun _ hk => hk.1))); (case w3 => exact (by (with_reducible repeat (first | apply Kd.R_alloc | apply Kd.R_drewN | apply Kd.R_drew)); exact Kd.R_mono (Kd.R_far (p := ⟨gb, 2, none⟩) (Kd.R_far (p := ⟨gb, 1, none⟩) (Kd.R_far (p := ⟨gb, 0, none⟩) (Kd.R_types HO1.out BK.out (by decide)) (fun _ hk => hk.2) _) (fun _ hk => hk.2) _) (fun _ hk => hk.2) _) (fun _ hk => hk.1))); (case w4 => exact (by repeat (first | (with_reducible first | exact HB.out | apply below_alloc | apply pw_below_drewN | apply below_drew1 | refine below_set ?_ GE.out | refine below_set ?_ GR.out) | exact HB.out))); (case w5 => exact (by (with_reducible repeat (first | refine blk_drewN ?_ _ | refine blk_drew ?_ | refine blk_alloc ?_ _)); refine blk_far ?_ NE'.out _; refine blk_far ?_ NE'.out _; refine blk_far ?_ NE'.out _; exact BR.out)); rintro e w13 ⟨rfl, vz, hx, h0, hb, hq⟩; have n0_ := Aside0.mk hx; have n1_ := Aside0.mk h0; have n3_ := Aside0.mk hb; have n4_ := Aside0.mk hq; clear hx h0 hb hq BK BR HB HO0 HO1; have BK := n0_; have HO0 := n1_; have HB := n3_; have BR := n4_; clear n0_ n1_ n3_ n4_; obtain ⟨E0, g0, e0⟩ := Kd.R_slice HO0.out; subst e0; have x0 : w13.cell? ⟨gb, 0, none⟩ = some (.slice E0 rb.length g0) := (blk_cell BK.out 0).trans rfl; have x1 : w13.cell? ⟨gb, 1, none⟩ = some (.slice none 0 0) := (blk_cell BK.out 1).trans rfl; have x2 : w13.cell? ⟨gb, 2, none⟩ = some (.int .i64 (wrap64 (c3 - 1))) := (blk_cell BK.out 2).trans rfl; have xf0 := blk_frozen BK.out 0; have xf1 := blk_frozen BK.out 1; have xf2 := blk_frozen BK.out 2; have y0 : w13.cell? ⟨gr, 0, none⟩ = some (.slice none 0 0) := (blk_cell BR.out 0).trans rfl; have y1 : w13.cell? ⟨gr, 1, none⟩ = some (.slice none 0 0) := (blk_cell BR.out 1).trans rfl; have y2 : w13.cell? ⟨gr, 2, none⟩ = some (.int .i64 0) := (blk_cell BR.out 2).trans rfl; have yf0 := blk_frozen BR.out 0; have yf1 := blk_frozen BR.out 1; have yf2 := blk_frozen BR.out 2))
  refine bodyPost_ret (results_cell_row rfl _ _ gr 26 #[.slice E0 rb.length g0, .slice none 0 0, .int .i64 (wrap64 (c3 - 1))] (0, 0) _ rfl (by (with_reducible repeat (first | refine blk_drewN ?_ _ | refine blk_drew ?_ | refine blk_alloc ?_ _)); refine blk_put (cs := #[.slice E0 rb.length g0, .slice none 0 0, .int .i64 0]) ?_ 2 _ rfl; (with_reducible repeat (first | refine blk_drewN ?_ _ | refine blk_drew ?_)); refine blk_put (cs := #[.slice E0 rb.length g0, .slice none 0 0, .int .i64 0]) ?_ 1 _ rfl; (with_reducible repeat (first | refine blk_drewN ?_ _ | refine blk_drew ?_)); refine blk_put (cs := #[.slice none 0 0, .slice none 0 0, .int .i64 0]) ?_ 0 _ rfl; (with_reducible repeat (first | refine blk_drewN ?_ _ | refine blk_drew ?_)); exact BR.out) Try.underlying26 rfl (by kernel_rfl)) rfl ?_
  exact ⟨_, _, rfl, by (with_reducible repeat (first | apply Kd.R_alloc | apply Kd.R_drewN | apply Kd.R_drew)); exact Kd.R_mono (Kd.R_far (p := ⟨gr, 2, none⟩) (Kd.R_far (p := ⟨gr, 1, none⟩) (Kd.R_far (p := ⟨gr, 0, none⟩) (Kd.R_types HO0.out BR.out (by decide)) (fun _ hk => hk.2) _) (fun _ hk => hk.2) _) (fun _ hk => hk.2) _) (fun _ hk => hk.1), Kd.R_nil _ _ _ _ _, by repeat (first | (with_reducible first | exact HB.out | apply below_alloc | apply pw_below_drewN | apply below_drew1 | refine below_set ?_ GE.out | refine below_set ?_ GR.out) | exact HB.out)⟩
set_option maxHeartbeats 8000000 in
set_option maxRecDepth 100000 in
theorem impl_DiskFlush.calls_3 (k : Nat) (A0_0 : Option Addr) (c0_0 : Nat) (l0_0 : List ByteArray) (A0_1 : Option Addr) (c0_1 : Nat) (l0_1 : List (S_impl_Wait)) (a0_2 : Int) (c1 : List ByteArray) (c2 : List (S_impl_Wait)) (c3 : Int) (rb : List ByteArray) (w : World) (hr0_0 : Kd.C Kd.string w A0_0 l0_0.length l0_0) (hc0_0 : l0_0.length ≤ c0_0) (hr0_1 : Kd.C k48 w A0_1 l0_1.length l0_1) (hc0_1 : l0_1.length ≤ c0_1) (A3 : impl_isDisk.f k l0_0 l0_1 a0_2 = some true) (A5 : impl_copyDisk.f l0_0 l0_1 a0_2 = some (c1, c2, c3)) (hz : c3 < 0) (hF : disk_flush.l0 k c2 0 c1 = some rb) :
    Calls Try.prog 28 #[.agg #[.slice A0_0 l0_0.length c0_0, .slice A0_1 l0_1.length c0_1, .int .i64 a0_2]] w fun e w' => ∃ v0_ v1_ : Value, e = .returned (.agg #[v0_, v1_, .int .i64 c3]) ∧ Kd.R Kd.string 9 w' w.heap.size (fun _ => True) v0_ rb ∧ Kd.R k48 48 w' w.heap.size (fun _ => True) v1_ [] ∧ Below w.heap.size w w' := by
  have hu26 := Try.underlying26
  have HR0_0 := Aside0.mk hr0_0
  have HC0_0 := Aside0.mk hc0_0
  clear hr0_0 hc0_0
  have HR0_1 := Aside0.mk hr0_1
  have HC0_1 := Aside0.mk hc0_1
  clear hr0_1 hc0_1
  have HB := Aside0.mk (Below.refl w.heap.size w)
  have A3 := Aside0.mk A3
  have A5 := Aside0.mk A5
  have HZ := Aside0.mk hz
  have HF := Aside0.mk hF
  clear hz hF
  go_enter Try.func28, Try.ntmps28
  go_wp2_with (first | ((with_reducible refine gate_dst (N := 1) rfl ?_); refine box_event ?hg (N := 1) ?hd (cs := #[.slice A0_0 l0_0.length c0_0, .slice A0_1 l0_1.length c0_1, .int .i64 a0_2]) (t := 26) ?hr ?_; (case hd => rfl); (case hg => rfl); (case hr => first | (go_simp; done) | (go_simp; rfl)); intro gb hg w8 hbox hb; have n0_ := Aside0.mk (below_step HB.out hb); have n1_ := Aside0.mk hbox; have n2_ := Aside0.mk ((by rw [hg]; exact below_size HB.out) : w.heap.size ≤ gb); clear HB; have HB := n0_; have BK := n1_; have GE := n2_; clear n0_ n1_ n2_; clear hb hbox hg) | ((with_reducible refine gate_dst (N := 2) rfl ?_); refine box_event ?hg (N := 2) ?hd (cs := #[.slice none 0 0, .slice none 0 0, .int .i64 0]) (t := 26) ?hr ?_; (case hd => rfl); (case hg => rfl); (case hr => first | (go_simp; done) | (go_simp; rfl)); intro gr hg w9 hbox hb; have n0_ := Aside0.mk (below_step HB.out hb); have n1_ := Aside0.mk hbox; have n2_ := Aside0.mk ((by rw [hg]; exact below_size HB.out) : w.heap.size ≤ gr); have n3_ := Aside0.mk (blk_below BK.out hb); have n4_ := Aside0.mk ((by rw [hg]; exact Nat.ne_of_lt (blk_lt BK.out)) : gb ≠ gr); have n5_ := Aside0.mk ((by rw [hg]; exact Nat.ne_of_gt (blk_lt BK.out)) : gr ≠ gb); clear HB BK; have HB := n0_; have BR := n1_; have GR := n2_; have BK := n3_; have NE := n4_; have NE' := n5_; clear n0_ n1_ n2_ n3_ n4_ n5_; clear hb hbox hg; have hne := NE.out; have hne' := NE'.out; have p0 : w9.cell? ⟨gb, 0, none⟩ = some (.slice A0_0 l0_0.length c0_0) := (blk_cell BK.out 0).trans rfl; have p1 : w9.cell? ⟨gb, 1, none⟩ = some (.slice A0_1 l0_1.length c0_1) := (blk_cell BK.out 1).trans rfl; have p2 : w9.cell? ⟨gb, 2, none⟩ = some (.int .i64 a0_2) := (blk_cell BK.out 2).trans rfl; have pf0 := blk_frozen BK.out 0; have pf1 := blk_frozen BK.out 1; have pf2 := blk_frozen BK.out 2) | (go_at_call 48; (with_reducible refine (impl_isDisk.calls k _ _ l0_0 _ _ l0_1 a0_2 true _ (Kd.C_below HR0_0.out HB.out) HC0_0.out (Kd.C_below HR0_1.out HB.out) HC0_1.out A3.out).mono ?_); rintro e w10 ⟨rfl, hb⟩; have n0_ := Aside0.mk (blk_below (g := gb) BK.out hb); have n1_ := Aside0.mk (below_step HB.out hb); have n2_ := Aside0.mk (blk_below (g := gr) BR.out hb); clear BK BR HB hb; have BK := n0_; have HB := n1_; have BR := n2_; clear n0_ n1_ n2_; have q0 : w10.cell? ⟨gb, 0, none⟩ = some (.slice A0_0 l0_0.length c0_0) := (blk_cell BK.out 0).trans rfl; have q1 : w10.cell? ⟨gb, 1, none⟩ = some (.slice A0_1 l0_1.length c0_1) := (blk_cell BK.out 1).trans rfl; have q2 : w10.cell? ⟨gb, 2, none⟩ = some (.int .i64 a0_2) := (blk_cell BK.out 2).trans rfl; have qf0 := blk_frozen BK.out 0; have qf1 := blk_frozen BK.out 1; have qf2 := blk_frozen BK.out 2; have r0 : w10.cell? ⟨gr, 0, none⟩ = some (.slice none 0 0) := (blk_cell BR.out 0).trans rfl; have r1 : w10.cell? ⟨gr, 1, none⟩ = some (.slice none 0 0) := (blk_cell BR.out 1).trans rfl; have r2 : w10.cell? ⟨gr, 2, none⟩ = some (.int .i64 0) := (blk_cell BR.out 2).trans rfl; have rf0 := blk_frozen BR.out 0; have rf1 := blk_frozen BR.out 1; have rf2 := blk_frozen BR.out 2) | (go_at_call 54; (with_reducible refine (impl_copyDisk.calls _ _ l0_0 _ _ l0_1 a0_2 c1 c2 c3 _ (Kd.C_below HR0_0.out HB.out) HC0_0.out (Kd.C_below HR0_1.out HB.out) HC0_1.out A5.out).mono ?_); rintro e w11 ⟨v0, v1, rfl, hR0, hR1, hb⟩; have n0_ := Aside0.mk (Kd.R_lower hR0 (below_size HB.out)); have n1_ := Aside0.mk (Kd.R_lower hR1 (below_size HB.out)); have n2_ := Aside0.mk (blk_below (g := gb) BK.out hb); have n3_ := Aside0.mk (blk_below (g := gr) BR.out hb); have n4_ := Aside0.mk (below_step HB.out hb); clear BK BR HB hb hR0 hR1; have HO0 := n0_; have HO1 := n1_; have BK := n2_; have BR := n3_; have HB := n4_; clear n0_ n1_ n2_ n3_ n4_; obtain ⟨B0, d0, e0⟩ := Kd.R_slice HO0.out; subst e0; obtain ⟨B1, d1, e1⟩ := Kd.R_slice HO1.out; subst e1; have u0 : w11.cell? ⟨gb, 0, none⟩ = some (.slice A0_0 l0_0.length c0_0) := (blk_cell BK.out 0).trans rfl; have u1 : w11.cell? ⟨gb, 1, none⟩ = some (.slice A0_1 l0_1.length c0_1) := (blk_cell BK.out 1).trans rfl; have u2 : w11.cell? ⟨gb, 2, none⟩ = some (.int .i64 a0_2) := (blk_cell BK.out 2).trans rfl; have uf0 := blk_frozen BK.out 0; have uf1 := blk_frozen BK.out 1; have uf2 := blk_frozen BK.out 2; have v0 : w11.cell? ⟨gr, 0, none⟩ = some (.slice none 0 0) := (blk_cell BR.out 0).trans rfl; have v1 : w11.cell? ⟨gr, 1, none⟩ = some (.slice none 0 0) := (blk_cell BR.out 1).trans rfl; have v2 : w11.cell? ⟨gr, 2, none⟩ = some (.int .i64 0) := (blk_cell BR.out 2).trans rfl; have vf0 := blk_frozen BR.out 0; have vf1 := blk_frozen BR.out 1; have vf2 := blk_frozen BR.out 2) | (go_at_call 56; (with_reducible refine (disk_flush_2 k gb B0 d0 B1 d1 c1 c2 c3 rb w _ gr #[.slice none 0 0, .slice none 0 0, .int .i64 0] ?w1 ?w2 ?w3 ?w5 NE'.out ?w4 GE.out HZ.out HF.out).mono ?_); (case w1 => exact (by (with_reducible repeat (first | refine blk_drewN ?_ _ | refine blk_drew ?_ | refine blk_alloc ?_ _)); refine blk_put (cs := #[.slice B0 c1.length d0, .slice B1 c2.length d1, .int .i64 a0_2]) ?_ 2 _ rfl; refine blk_put (cs := #[.slice B0 c1.length d0, .slice A0_1 l0_1.length c0_1, .int .i64 a0_2]) ?_ 1 _ rfl; refine blk_put (cs := #[.slice A0_0 l0_0.length c0_0, .slice A0_1 l0_1.length c0_1, .int .i64 a0_2]) ?_ 0 _ rfl; exact BK.out)); (case w2 => exact (by (with_reducible repeat (first | apply Kd.R_alloc | apply Kd.R_drewN | apply Kd.R_drew)); exact Kd.R_mono (Kd.R_far (p := ⟨gb, 2, none⟩) (Kd.R_far (p := ⟨gb, 1, none⟩) (Kd.R_far (p := ⟨gb, 0, none⟩) (Kd.R_types HO0.out BK.out (by decide)) (fun _ hk => hk.2) _) (fun _ hk => hk.2) _) (fun _ hk => hk.2) _) (fun _ hk => hk.1))); (case w3 => exact (by (with_reducible repeat (first | apply Kd.R_alloc | apply Kd.R_drewN | apply Kd.R_drew)); exact Kd.R_mono (Kd.R_far (p := ⟨gb, 2, none⟩) (Kd.R_far (p := ⟨gb, 1, none⟩) (Kd.R_far (p := ⟨gb, 0, none⟩) (Kd.R_types HO1.out BK.out (by decide)) (fun _ hk => hk.2) _) (fun _ hk => hk.2) _) (fun _ hk => hk.2) _) (fun _ hk => hk.1))); (case w4 => exact (by repeat (first | (with_reducible first | exact HB.out | apply below_alloc | apply pw_below_drewN | apply below_drew1 | refine below_set ?_ GE.out | refine below_set ?_ GR.out) | exact HB.out))); (case w5 => exact (by (with_reducible repeat (first | refine blk_drewN ?_ _ | refine blk_drew ?_ | refine blk_alloc ?_ _)); refine blk_far ?_ NE'.out _; refine blk_far ?_ NE'.out _; refine blk_far ?_ NE'.out _; exact BR.out)); rintro e w13 ⟨rfl, vz, hx, h0, hb, hq⟩; have n0_ := Aside0.mk hx; have n1_ := Aside0.mk h0; have n3_ := Aside0.mk hb; have n4_ := Aside0.mk hq; clear hx h0 hb hq BK BR HB HO0 HO1; have BK := n0_; have HO0 := n1_; have HB := n3_; have BR := n4_; clear n0_ n1_ n3_ n4_; obtain ⟨E0, g0, e0⟩ := Kd.R_slice HO0.out; subst e0; have x0 : w13.cell? ⟨gb, 0, none⟩ = some (.slice E0 rb.length g0) := (blk_cell BK.out 0).trans rfl; have x1 : w13.cell? ⟨gb, 1, none⟩ = some (.slice none 0 0) := (blk_cell BK.out 1).trans rfl; have x2 : w13.cell? ⟨gb, 2, none⟩ = some (.int .i64 c3) := (blk_cell BK.out 2).trans rfl; have xf0 := blk_frozen BK.out 0; have xf1 := blk_frozen BK.out 1; have xf2 := blk_frozen BK.out 2; have y0 : w13.cell? ⟨gr, 0, none⟩ = some (.slice none 0 0) := (blk_cell BR.out 0).trans rfl; have y1 : w13.cell? ⟨gr, 1, none⟩ = some (.slice none 0 0) := (blk_cell BR.out 1).trans rfl; have y2 : w13.cell? ⟨gr, 2, none⟩ = some (.int .i64 0) := (blk_cell BR.out 2).trans rfl; have yf0 := blk_frozen BR.out 0; have yf1 := blk_frozen BR.out 1; have yf2 := blk_frozen BR.out 2))
  refine bodyPost_ret (results_cell_row rfl _ _ gr 26 #[.slice E0 rb.length g0, .slice none 0 0, .int .i64 c3] (0, 0) _ rfl (by (with_reducible repeat (first | refine blk_drewN ?_ _ | refine blk_drew ?_ | refine blk_alloc ?_ _)); refine blk_put (cs := #[.slice E0 rb.length g0, .slice none 0 0, .int .i64 0]) ?_ 2 _ rfl; (with_reducible repeat (first | refine blk_drewN ?_ _ | refine blk_drew ?_)); refine blk_put (cs := #[.slice E0 rb.length g0, .slice none 0 0, .int .i64 0]) ?_ 1 _ rfl; (with_reducible repeat (first | refine blk_drewN ?_ _ | refine blk_drew ?_)); refine blk_put (cs := #[.slice none 0 0, .slice none 0 0, .int .i64 0]) ?_ 0 _ rfl; (with_reducible repeat (first | refine blk_drewN ?_ _ | refine blk_drew ?_)); exact BR.out) Try.underlying26 rfl (by kernel_rfl)) rfl ?_
  exact ⟨_, _, rfl, by (with_reducible repeat (first | apply Kd.R_alloc | apply Kd.R_drewN | apply Kd.R_drew)); exact Kd.R_mono (Kd.R_far (p := ⟨gr, 2, none⟩) (Kd.R_far (p := ⟨gr, 1, none⟩) (Kd.R_far (p := ⟨gr, 0, none⟩) (Kd.R_types HO0.out BR.out (by decide)) (fun _ hk => hk.2) _) (fun _ hk => hk.2) _) (fun _ hk => hk.2) _) (fun _ hk => hk.1), Kd.R_nil _ _ _ _ _, by repeat (first | (with_reducible first | exact HB.out | apply below_alloc | apply pw_below_drewN | apply below_drew1 | refine below_set ?_ GE.out | refine below_set ?_ GR.out) | exact HB.out)⟩
theorem impl_DiskFlush.calls (k : Nat) (A0_0 : Option Addr) (c0_0 : Nat) (l0_0 : List ByteArray) (A0_1 : Option Addr) (c0_1 : Nat) (l0_1 : List (S_impl_Wait)) (a0_2 : Int) (r1 : List ByteArray) (r2 : List (S_impl_Wait)) (r3 : Int) (w : World) (hr0_0 : Kd.C Kd.string w A0_0 l0_0.length l0_0) (hc0_0 : l0_0.length ≤ c0_0) (hr0_1 : Kd.C k48 w A0_1 l0_1.length l0_1) (hc0_1 : l0_1.length ≤ c0_1) (h : impl_DiskFlush.f k l0_0 l0_1 a0_2 = some (r1, r2, r3)) :
    Calls Try.prog 28 #[.agg #[.slice A0_0 l0_0.length c0_0, .slice A0_1 l0_1.length c0_1, .int .i64 a0_2]] w fun e w' => ∃ v0_ v1_ : Value, e = .returned (.agg #[v0_, v1_, .int .i64 r3]) ∧ Kd.R Kd.string 9 w' w.heap.size (fun _ => True) v0_ r1 ∧ Kd.R k48 48 w' w.heap.size (fun _ => True) v1_ r2 ∧ Below w.heap.size w w' := by
  unfold impl_DiskFlush.f at h
  obtain ⟨t, A3, h⟩ := Option.bind_eq_some_iff.mp h
  cases t with
  | false =>
    rw [if_neg (by decide)] at h
    simp only [Option.some.injEq, Prod.mk.injEq] at h
    obtain ⟨rfl, rfl, rfl⟩ := h
    exact impl_DiskFlush.calls_0 k _ _ _ _ _ _ _ w hr0_0 hc0_0 hr0_1 hc0_1 A3
  | true =>
    rw [if_pos rfl] at h
    obtain ⟨⟨c1, c2, c3⟩, A5, h⟩ := Option.bind_eq_some_iff.mp h
    by_cases hz : c3 = 0
    · rw [if_pos hz] at h
      simp only [Option.some.injEq, Prod.mk.injEq] at h
      obtain ⟨rfl, rfl, rfl⟩ := h
      rw [hz] at A5 ⊢
      exact impl_DiskFlush.calls_1 k _ _ _ _ _ _ _ _ _ w hr0_0 hc0_0 hr0_1 hc0_1 A3 A5
    · rw [if_neg hz] at h
      obtain ⟨b, hb, h⟩ := Option.bind_eq_some_iff.mp h
      simp only [Option.some.injEq, Prod.mk.injEq] at h
      obtain ⟨rfl, rfl, rfl⟩ := h
      by_cases hp : 0 < c3
      · rw [if_pos hp]
        exact impl_DiskFlush.calls_2 k _ _ _ _ _ _ _ _ _ _ _ w hr0_0 hc0_0 hr0_1 hc0_1 A3 A5 hp hb
      · rw [if_neg hp]
        exact impl_DiskFlush.calls_3 k _ _ _ _ _ _ _ _ _ _ _ w hr0_0 hc0_0 hr0_1 hc0_1 A3 A5 (by omega) hb
end Go.Proofs.Ytjmdinhobhoojaa.P
