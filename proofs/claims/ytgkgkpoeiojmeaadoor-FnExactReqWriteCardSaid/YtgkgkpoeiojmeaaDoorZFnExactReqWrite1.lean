/- Functions of the law FnExactReqWrite as_ plain Lean functions, and that the machine's calls do what they say. -/
import Derived.Test.YtgkgkpoeiojmeaaDoorZFnExactReqWrite0
import Derived.Shelf.Strings.Trim
import Derived.Shelf.Small.Utf8
import Derived.Shelf.Small.Strs
import Derived.Shelf.Strconv.Atoi
import Derived.Shelf.Strconv.Itoa0
import Derived.Shelf.Strconv.Itoa1
import Derived.Shelf.LaysM
import Derived.Shelf.Strconv.Itoa2
import Derived.Shelf.Strconv.Itoa3
import Derived.Shelf.Strings.Search1
import Derived.Shelf.Strings.Search2
import Derived.Shelf.Strings.Cut
import Derived.Shelf.Strings.Shaped
import Derived.Shelf.Unicode.Decode
import Derived.Shelf.Strings.Runes
import Derived.Shelf.Strings.AsciiSet
import Derived.Shelf.Unicode.DecodeSlow
import Derived.Shelf.Unicode.DecodeAny
import Derived.Shelf.Unicode.DecodeLast
import Derived.Test.YtgkgkpoeiojmeaaDoorProg
import Derived.Shelf.Strings.SlTrimAscii
import Derived.Great.BuildSlice
namespace Go.Proofs.YtgkgkpoeiojmeaaDoor.P
open Go.RowKit Go.Proofs.YtgkgkpoeiojmeaaDoorW.PrintWords Go.Proofs.YtgkgkpoeiojmeaaDoorW.PrintLast Go.Proofs.YtgkgkpoeiojmeaaDoorW.PrintMore
attribute [local go_sem] max2_int min2_int max_two min_two max_three min_three max_four min_four   -- for this text's walks alone
set_option linter.unusedVariables false
set_option linter.unusedSimpArgs false
mutual
def spec_l9Write.j0 : Nat → Bool → Bool → Bool → ByteArray → Int → ByteArray → ByteArray → Int → ByteArray → Option (ByteArray)
  | 0, _, _, _, _, _, _, _, _, _ => none
  | k + 1, x3, x4, x5, x6, x532000, x532001, x532002, x532003, x532004 => if x3 = true then (if x6.size + 1 ≤ 9223372036854775807 then (if x6.size + 1 + x532002.size ≤ 9223372036854775807 then (spec_l9Write.j1 k x4 x5 ((x6 ++ (⟨#[32]⟩ : ByteArray)) ++ x532002) x532000 x532001 x532002 x532003 x532004) else (none)) else (none)) else (spec_l9Write.j1 k x4 x5 x6 x532000 x532001 x532002 x532003 x532004)
def spec_l9Write.j1 : Nat → Bool → Bool → ByteArray → Int → ByteArray → ByteArray → Int → ByteArray → Option (ByteArray)
  | 0, _, _, _, _, _, _, _, _ => none
  | k + 1, x4, x5, x6, x532000, x532001, x532002, x532003, x532004 => if x4 = true then (if x6.size + 1 ≤ 9223372036854775807 then ((spec_l1Dec.f k x532003).bind fun t539 => (if x6.size + 1 + t539.size ≤ 9223372036854775807 then (if x5 = true then (if x6.size + 1 + t539.size + 1 ≤ 9223372036854775807 then (if x6.size + 1 + t539.size + 1 + x532004.size ≤ 9223372036854775807 then (some ((((x6 ++ (⟨#[32]⟩ : ByteArray)) ++ t539) ++ (⟨#[32]⟩ : ByteArray)) ++ x532004)) else (none)) else (none)) else (some ((x6 ++ (⟨#[32]⟩ : ByteArray)) ++ t539))) else (none))) else (none)) else (if x5 = true then (if x6.size + 1 ≤ 9223372036854775807 then (if x6.size + 1 + x532004.size ≤ 9223372036854775807 then (some ((x6 ++ (⟨#[32]⟩ : ByteArray)) ++ x532004)) else (none)) else (none)) else (some x6))
end
def spec_l9Write.f (k : Nat) (a0_0 : Int) (a0_1 : ByteArray) (a0_2 : ByteArray) (a0_3 : Int) (a0_4 : ByteArray) : Option (ByteArray) := (spec_l9Has.f k a0_0).bind fun bt532 => ((spec_l9Words.f).bind fun t535 => (if 0 ≤ a0_0 then (if a0_0 < (t535.length : Int) then (if a0_0 = 12 then (spec_l9Write.j0 k bt532.1 bt532.2.1 bt532.2.2 (rdOf ByteArray.empty t535 a0_0) a0_0 a0_1 a0_2 a0_3 a0_4) else (if (rdOf ByteArray.empty t535 a0_0).size + 1 ≤ 9223372036854775807 then (if (rdOf ByteArray.empty t535 a0_0).size + 1 + a0_1.size ≤ 9223372036854775807 then (spec_l9Write.j0 k bt532.1 bt532.2.1 bt532.2.2 (((rdOf ByteArray.empty t535 a0_0) ++ (⟨#[32]⟩ : ByteArray)) ++ a0_1) a0_0 a0_1 a0_2 a0_3 a0_4) else (none)) else (none))) else (none)) else (none)))
theorem oper_ld {P : Program} {oi : Oper} {a : Act} {w : World} {K : Act → World → Prop} {Q : Exit → Act → World → Prop} {v : Value} (h : K (a.put oi.dst v) w) (hr : (execOp a.eval oi).run P w = .ok (.value v) w) : Oper.wp P oi a w K Q := by
  unfold Oper.wp; rw [hr]
  exact h
set_option maxHeartbeats 8000000 in
set_option maxRecDepth 100000 in
theorem spec_l9Write.calls (k : Nat) (a0_0 : Int) (a0_1 : ByteArray) (a0_2 : ByteArray) (a0_3 : Int) (a0_4 : ByteArray) (r : ByteArray) (w : World) (h : spec_l9Write.f k a0_0 a0_1 a0_2 a0_3 a0_4 = some r) :
    Calls Tryd.prog 58 #[.agg #[.int .i64 a0_0, .string a0_1, .string a0_2, .int .i64 a0_3, .string a0_4]] w fun e w' => e = .returned (.string r) ∧ Below w.heap.size w w' := by
  have hu42 := Tryd.underlying42; have HB := Aside0.mk (Below.refl w.heap.size w); have H : ((spec_l9Has.f k a0_0).bind fun bt532 => ((spec_l9Words.f).bind fun t535 => (if 0 ≤ a0_0 then (if a0_0 < (t535.length : Int) then (if a0_0 = 12 then (spec_l9Write.j0 k bt532.1 bt532.2.1 bt532.2.2 (rdOf ByteArray.empty t535 a0_0) a0_0 a0_1 a0_2 a0_3 a0_4) else (if (rdOf ByteArray.empty t535 a0_0).size + 1 ≤ 9223372036854775807 then (if (rdOf ByteArray.empty t535 a0_0).size + 1 + a0_1.size ≤ 9223372036854775807 then (spec_l9Write.j0 k bt532.1 bt532.2.1 bt532.2.2 (((rdOf ByteArray.empty t535 a0_0) ++ (⟨#[32]⟩ : ByteArray)) ++ a0_1) a0_0 a0_1 a0_2 a0_3 a0_4) else (none)) else (none))) else (none)) else (none)))) = some r := h; clear h; replace H := Option.bind_eq_some_iff.mp H; obtain ⟨⟨t532, t533, t534⟩, A20, H⟩ := H; replace H : ((spec_l9Words.f).bind fun t535 => (if 0 ≤ a0_0 then (if a0_0 < (t535.length : Int) then (if a0_0 = 12 then (spec_l9Write.j0 k t532 t533 t534 (rdOf ByteArray.empty t535 a0_0) a0_0 a0_1 a0_2 a0_3 a0_4) else (if (rdOf ByteArray.empty t535 a0_0).size + 1 ≤ 9223372036854775807 then (if (rdOf ByteArray.empty t535 a0_0).size + 1 + a0_1.size ≤ 9223372036854775807 then (spec_l9Write.j0 k t532 t533 t534 (((rdOf ByteArray.empty t535 a0_0) ++ (⟨#[32]⟩ : ByteArray)) ++ a0_1) a0_0 a0_1 a0_2 a0_3 a0_4) else (none)) else (none))) else (none)) else (none))) = some r := H; have A2 := Aside0.mk A20; clear A20; replace H := Option.bind_eq_some_iff.mp H; obtain ⟨t535, A30, H⟩ := H; replace H : (if 0 ≤ a0_0 then (if a0_0 < (t535.length : Int) then (if a0_0 = 12 then (spec_l9Write.j0 k t532 t533 t534 (rdOf ByteArray.empty t535 a0_0) a0_0 a0_1 a0_2 a0_3 a0_4) else (if (rdOf ByteArray.empty t535 a0_0).size + 1 ≤ 9223372036854775807 then (if (rdOf ByteArray.empty t535 a0_0).size + 1 + a0_1.size ≤ 9223372036854775807 then (spec_l9Write.j0 k t532 t533 t534 (((rdOf ByteArray.empty t535 a0_0) ++ (⟨#[32]⟩ : ByteArray)) ++ a0_1) a0_0 a0_1 a0_2 a0_3 a0_4) else (none)) else (none))) else (none)) else (none)) = some r := H; have A3 := Aside0.mk A30; clear A30; by_cases c4 : 0 ≤ a0_0
  · rw [if_pos c4] at H
    have c4b0 : decide (0 ≤ a0_0) = true := decide_eq_true c4; clear c4; by_cases c5 : a0_0 < (t535.length : Int)
    · rw [if_pos c5] at H
      have c5b0 : decide (a0_0 < (t535.length : Int)) = true := decide_eq_true c5; clear c5; have HC6 := Aside0.mk H; clear H
      go_enter Tryd.func58, Tryd.ntmps58
      try go_wp2_with (first | ((with_reducible refine gate_dst (N := 1) rfl ?_); refine box_event ?hg (N := 1) ?hd (cs := #[.int .i64 a0_0, .string a0_1, .string a0_2, .int .i64 a0_3, .string a0_4]) (t := 42) ?hr ?_; (case hd => rfl); (case hg => rfl); (case hr => first | (go_simp; done) | (go_simp; rfl)); intro gb531 hg w7 hbox hb; have n0_ := Aside0.mk (below_step (by repeat (first | (with_reducible first | exact HB.out | apply below_alloc | apply pw_below_drewN | apply below_drew1) | exact HB.out)) hb); have n1_ := Aside0.mk (hbox); have n2_ := Aside0.mk ((by rw [hg]; exact (below_size (by repeat (first | (with_reducible first | exact HB.out | apply below_alloc | apply pw_below_drewN | apply below_drew1) | exact HB.out))) : w.heap.size ≤ gb531)); have n3_ := Aside0.mk ((by rw [hg]; exact (below_size (by repeat (first | (with_reducible first | exact HB.out | apply below_alloc | apply pw_below_drewN | apply below_drew1) | exact HB.out))) : w.heap.size ≤ gb531)); clear HB; have HB := n0_; have BK531 := n1_; have GW531 := n2_; have GE531 := n3_; clear n0_ n1_ n2_ n3_; clear hb hbox hg; have hcz8_0 : w7.cell? ⟨gb531, 0, none⟩ = some (.int .i64 a0_0) := (blk_cell BK531.out 0).trans rfl; have hcz8_1 : w7.cell? ⟨gb531, 1, none⟩ = some (.string a0_1) := (blk_cell BK531.out 1).trans rfl; have hcz8_2 : w7.cell? ⟨gb531, 2, none⟩ = some (.string a0_2) := (blk_cell BK531.out 2).trans rfl; have hcz8_3 : w7.cell? ⟨gb531, 3, none⟩ = some (.int .i64 a0_3) := (blk_cell BK531.out 3).trans rfl; have hcz8_4 : w7.cell? ⟨gb531, 4, none⟩ = some (.string a0_4) := (blk_cell BK531.out 4).trans rfl; have hfz8_0 := blk_frozen BK531.out 0; have hfz8_1 := blk_frozen BK531.out 1; have hfz8_2 := blk_frozen BK531.out 2; have hfz8_3 := blk_frozen BK531.out 3; have hfz8_4 := blk_frozen BK531.out 4) | ((with_reducible refine gate_callee (f := 51) rfl ?_); refine goesL_ (some 10) rfl rfl Tryd.func51 (by kernel_rfl) rfl #[.int .i64 a0_0] rfl (by (try simp only [List.map_toArray, List.map_cons, List.map_nil]); first | done | rfl | (simp only [List.length_drop, List.length_take]; rfl)) ?_; (with_reducible refine (spec_l9Has.calls k a0_0 t532 t533 t534 _ A2.out).mono ?_); rintro e w' ⟨rfl, ⟨nd, rfl⟩⟩; refine ⟨_, rfl, ?_⟩))
      (try (rw [drewN_self w7]; generalize hq_ : World.drewN w7 _ = w7; have n0_ : Aside0 (w7.heap[gb531]? = some (.cells #[.int .i64 a0_0, .string a0_1, .string a0_2, .int .i64 a0_3, .string a0_4] 42 (0, 0))) := ⟨by rw [← hq_]; exact (by (with_reducible repeat (first | refine blk_drewN ?_ _ | refine blk_drew ?_ | refine blk_alloc ?_ _)); exact BK531.out)⟩; have n1_ : Aside0 (Below w.heap.size w w7) := ⟨by rw [← hq_]; exact (by repeat (first | (with_reducible first | exact HB.out | apply below_alloc | apply pw_below_drewN | apply below_drew1 | refine below_set ?_ GE531.out) | exact HB.out))⟩; clear BK531 HB hq_; have BK531 := n0_; have HB := n1_; clear n0_ n1_))
      have n0_ := Aside0.mk (blk_drew BK531.out); have n1_ := Aside0.mk (below_drew1 HB.out); clear BK531; clear HB; have BK531 := n0_; have HB := n1_; clear n0_ n1_; refine start_ (n := 6) (S := fun w' => w'.cell? ⟨gb531, 0, none⟩ = some (.int .i64 a0_0) ∧ w'.cell? ⟨gb531, 1, none⟩ = some (.string a0_1) ∧ w'.cell? ⟨gb531, 2, none⟩ = some (.string a0_2) ∧ w'.cell? ⟨gb531, 3, none⟩ = some (.int .i64 a0_3) ∧ w'.cell? ⟨gb531, 4, none⟩ = some (.string a0_4)) (ds := []) #[false, false, false, false, false, false] (by kernel_rfl) rfl rfl ⟨(blk_cell BK531.out 0).trans rfl, (blk_cell BK531.out 1).trans rfl, (blk_cell BK531.out 2).trans rfl, (blk_cell BK531.out 3).trans rfl, (blk_cell BK531.out 4).trans rfl⟩ (fun hHeld => ?_); generalize w7.drew = w9 at BK531 HB hHeld ⊢
      refine pure_ (i := 1) (N := some 15) (v := ?_) (a' := ?_) #[false, true, false, false, false, false] rfl rfl (by kernel_rfl) (fun _ _ _ h => h) (Or.inl ⟨by rfl, ?_⟩) ?_ ?_; rotate_left; (· intro w'; go_simp; with_reducible rfl); rotate_left; (· simp only [Act.put, List.setIfInBounds_toArray, List.set_cons_zero, List.set_cons_succ, i64_w, i32_w]; rfl); refine take_ (i := 2) (N := some 16) (v := ?_) (a' := ?_) #[false, true, true, false, false, false] rfl rfl (by kernel_rfl) (fun _ _ _ h => h) (Or.inl ⟨by rfl, ?_⟩) hHeld ?_ ?_; rotate_left; (· rintro w' ⟨s0, s1, s2, s3, s4⟩; go_simp; with_reducible rfl); rotate_left; (· simp only [Act.put, List.setIfInBounds_toArray, List.set_cons_zero, List.set_cons_succ, i64_w, i32_w]; rfl); refine one_ (i := 0) (N := some 14) #[true, true, true, false, false, false] rfl rfl (by kernel_rfl) (by decide) (fun K hK => ?_); refine goes_ Tryd.func71 (by kernel_rfl) rfl #[] (by rfl) rfl rfl (by (try simp only [List.map_toArray, List.map_cons, List.map_nil]); first | done | rfl | (simp only [List.length_drop, List.length_take]; rfl)) ?_; with_reducible refine (spec_l9Words.calls  t535 _ A3.out).mono ?_
      rintro e w10 ⟨v536, rfl, ho0, hb⟩; refine ⟨_, rfl, ?_⟩; have n0_ := Aside0.mk (Kd.R_lower ho0 (below_size (by repeat (first | (with_reducible first | exact HB.out | apply below_alloc | apply pw_below_drewN | apply below_drew1 | refine below_set ?_ GE531.out) | exact HB.out)))); have n1_ := Aside0.mk (blk_below (g := gb531) (o := .cells #[.int .i64 a0_0, .string a0_1, .string a0_2, .int .i64 a0_3, .string a0_4] 42 (0, 0)) (by (with_reducible repeat (first | refine blk_drewN ?_ _ | refine blk_drew ?_ | refine blk_alloc ?_ _)); exact BK531.out) hb); have n2_ := Aside0.mk (below_step (by repeat (first | (with_reducible first | exact HB.out | apply below_alloc | apply pw_below_drewN | apply below_drew1 | refine below_set ?_ GE531.out) | exact HB.out)) hb); clear BK531; clear HB; have HO537 := n0_; have BK531 := n1_; have HB := n2_; clear n0_ n1_ n2_
      (try clear hb)
      (try clear hb2)
      (try clear hk)
      (try clear hi)
      (try clear ho0)
      obtain ⟨Ao11, co11, eo11⟩ := Kd.R_slice HO537.out
      (first | subst eo11 | (injection eo11 with f1_ f2_ f3_; have f4_ := f1_.symm; have f5_ := f3_.symm; clear f1_ f2_ f3_; subst f4_; subst f5_))
      have p538 : 0 ≤ (a0_0 : Int) := of_decide_eq_true (by first | (with_reducible assumption) | assumption); have q538 : a0_0 < (t535.length : Int) := of_decide_eq_true (by first | (with_reducible assumption) | assumption); obtain ⟨ad538, e538, hx538_0⟩ := Kd.at_string (Kd.R_reads' HO537.out).2.2 a0_0 p538 q538
      cases e538
      replace p538 := eq_true p538; replace q538 := eq_true q538; refine hK.out _ _ ⟨(blk_cell BK531.out 0).trans rfl, (blk_cell BK531.out 1).trans rfl, (blk_cell BK531.out 2).trans rfl, (blk_cell BK531.out 3).trans rfl, (blk_cell BK531.out 4).trans rfl⟩ (fun hHeld => ?_); clear hK K; refine norm_ (a' := ?_) ?_ ?_; rotate_left
      · show Act.put _ (some 14) _ = _
        simp only [Act.put, List.setIfInBounds_toArray, List.set_cons_zero, List.set_cons_succ, i64_w, i32_w]; rfl
      refine pure_ (i := 3) (N := some 17) (v := ?_) (a' := ?_) #[true, true, true, true, false, false] rfl rfl (by kernel_rfl) (fun _ _ _ h => h) (Or.inl ⟨by rfl, ?_⟩) ?_ ?_; rotate_left; (· intro w'; go_simp; with_reducible rfl); rotate_left; (· simp only [Act.put, List.setIfInBounds_toArray, List.set_cons_zero, List.set_cons_succ, i64_w, i32_w]; rfl); refine one_ (i := 4) (N := some 18) #[true, true, true, true, true, false] rfl rfl (by kernel_rfl) (by decide) (fun K hK => ?_); rw [if_pos (by rfl)]; refine oper_ld (v := ?vv) ?hh ?hr
      case hr =>
        go_simp
        with_reducible rfl
      refine hK.out _ _ ⟨(blk_cell BK531.out 0).trans rfl, (blk_cell BK531.out 1).trans rfl, (blk_cell BK531.out 2).trans rfl, (blk_cell BK531.out 3).trans rfl, (blk_cell BK531.out 4).trans rfl⟩ (fun hHeld => ?_); clear hK K; refine norm_ (a' := ?_) ?_ ?_; rotate_left
      · show Act.put _ (some 18) _ = _
        simp only [Act.put, List.setIfInBounds_toArray, List.set_cons_zero, List.set_cons_succ, i64_w, i32_w]; rfl
      refine pure_ (i := 5) (N := some 6) (v := ?_) (a' := ?_) #[true, true, true, true, true, true] rfl rfl (by kernel_rfl) (fun _ _ _ h => h) (Or.inl ⟨by rfl, ?_⟩) ?_ ?_; rotate_left; (· intro w'; go_simp; with_reducible rfl); rotate_left; (· simp only [Act.put, List.setIfInBounds_toArray, List.set_cons_zero, List.set_cons_succ, i64_w, i32_w]; rfl); refine done_ (by kernel_rfl) ?_; have hcz12_0 : w10.cell? ⟨gb531, 0, none⟩ = some (.int .i64 a0_0) := (blk_cell BK531.out 0).trans rfl; have hcz12_1 : w10.cell? ⟨gb531, 1, none⟩ = some (.string a0_1) := (blk_cell BK531.out 1).trans rfl; have hcz12_2 : w10.cell? ⟨gb531, 2, none⟩ = some (.string a0_2) := (blk_cell BK531.out 2).trans rfl; have hcz12_3 : w10.cell? ⟨gb531, 3, none⟩ = some (.int .i64 a0_3) := (blk_cell BK531.out 3).trans rfl; have hcz12_4 : w10.cell? ⟨gb531, 4, none⟩ = some (.string a0_4) := (blk_cell BK531.out 4).trans rfl; have hfz12_0 := blk_frozen BK531.out 0; have hfz12_1 := blk_frozen BK531.out 1; have hfz12_2 := blk_frozen BK531.out 2; have hfz12_3 := blk_frozen BK531.out 3; have hfz12_4 := blk_frozen BK531.out 4
      go_upto_if 21 with (fail)
      go_cut [6] (fun v6 wc => ∃ (kq : Nat) (x6_5 : ByteArray), v6 = .string x6_5 ∧ Aside0 (spec_l9Write.j0 kq t532 t533 t534 x6_5 a0_0 a0_1 a0_2 a0_3 a0_4 = some r) ∧ Aside0 (kq ≤ k) ∧ Aside0 (wc.heap[gb531]? = some (.cells #[.int .i64 a0_0, .string a0_1, .string a0_2, .int .i64 a0_3, .string a0_4] 42 (0, 0))) ∧ Aside0 (Below w.heap.size w wc))
      case first =>
        have H := HC6.out; clear HC6; by_cases c13 : a0_0 = 12
        · rw [if_pos c13] at H
          have c13b0 : (a0_0 == 12) = true := beq_iff_eq.mpr c13; have c13b1 : (a0_0 != 12) = false := bne_eq_false_iff_eq.mpr c13; clear c13
          (first | rw [c13b0] | (simp only [i64_w, i32_w]; rw [c13b0]) | skip)
          have H' := Aside0.mk H; clear H
          go_wp2
          go_meet
          case rel => exact ⟨_, (rdOf ByteArray.empty t535 a0_0), (by first | rfl | (simp; done) | (simp [*]; done)), H', ⟨by first | omega | exact Nat.le_refl _⟩, ⟨by (with_reducible repeat (first | refine blk_drewN ?_ _ | refine blk_drew ?_ | refine blk_alloc ?_ _)); exact BK531.out⟩, ⟨by repeat (first | (with_reducible first | exact HB.out | apply below_alloc | apply pw_below_drewN | apply below_drew1 | refine below_set ?_ GE531.out) | exact HB.out)⟩⟩
        · rw [if_neg c13] at H
          have c13b0 : (a0_0 == 12) = false := beq_eq_false_iff_ne.mpr c13; have c13b1 : (a0_0 != 12) = true := bne_iff_ne.mpr c13
          (first | rw [c13b0] | (simp only [i64_w, i32_w]; rw [c13b0]) | skip)
          by_cases c14 : (rdOf ByteArray.empty t535 a0_0).size + 1 ≤ 9223372036854775807
          · rw [if_pos c14] at H
            have c14b0 := eq_true c14; have c14b1 : decide ((rdOf ByteArray.empty t535 a0_0).size + 1 ≤ 9223372036854775807) = true := decide_eq_true c14
            try have c14b2 : (9223372036854775807 < (rdOf ByteArray.empty t535 a0_0).size + 1) = False := eq_false (Nat.not_lt.2 c14)
            by_cases c15 : (rdOf ByteArray.empty t535 a0_0).size + 1 + a0_1.size ≤ 9223372036854775807
            · rw [if_pos c15] at H
              have c15b0 := eq_true c15; have c15b1 : decide ((rdOf ByteArray.empty t535 a0_0).size + 1 + a0_1.size ≤ 9223372036854775807) = true := decide_eq_true c15
              try have c15b2 : (9223372036854775807 < (rdOf ByteArray.empty t535 a0_0).size + 1 + a0_1.size) = False := eq_false (Nat.not_lt.2 c15)
              have H' := Aside0.mk H; clear H; have hcz16_0 : w10.cell? ⟨gb531, 0, none⟩ = some (.int .i64 a0_0) := (blk_cell BK531.out 0).trans rfl; have hcz16_1 : w10.cell? ⟨gb531, 1, none⟩ = some (.string a0_1) := (blk_cell BK531.out 1).trans rfl; have hcz16_2 : w10.cell? ⟨gb531, 2, none⟩ = some (.string a0_2) := (blk_cell BK531.out 2).trans rfl; have hcz16_3 : w10.cell? ⟨gb531, 3, none⟩ = some (.int .i64 a0_3) := (blk_cell BK531.out 3).trans rfl; have hcz16_4 : w10.cell? ⟨gb531, 4, none⟩ = some (.string a0_4) := (blk_cell BK531.out 4).trans rfl; have hfz16_0 := blk_frozen BK531.out 0; have hfz16_1 := blk_frozen BK531.out 1; have hfz16_2 := blk_frozen BK531.out 2; have hfz16_3 := blk_frozen BK531.out 3; have hfz16_4 := blk_frozen BK531.out 4
              go_wp2
              go_meet
              case rel => exact ⟨_, (((rdOf ByteArray.empty t535 a0_0) ++ (⟨#[32]⟩ : ByteArray)) ++ a0_1), (by first | rfl | (simp; done) | (simp [*]; done)), H', ⟨by first | omega | exact Nat.le_refl _⟩, ⟨by (with_reducible repeat (first | refine blk_drewN ?_ _ | refine blk_drew ?_ | refine blk_alloc ?_ _)); exact BK531.out⟩, ⟨by repeat (first | (with_reducible first | exact HB.out | apply below_alloc | apply pw_below_drewN | apply below_drew1 | refine below_set ?_ GE531.out) | exact HB.out)⟩⟩
            · rw [if_neg c15] at H
              exact absurd H (by simp)
          · rw [if_neg c14] at H
            exact absurd H (by simp)
      case rest =>
        clear HC6
        try clear c1
        try clear p2
        try clear c4
        try clear c4b0
        try clear c5
        try clear c5b0
        try clear p5
        try clear q5
        try clear hx5
        try clear c7
        try clear c13
        try clear c13b0
        try clear c13b1
        try clear c14
        try clear c14b0
        try clear c14b1
        try clear c14b2
        try clear c15
        try clear c15b0
        try clear c15b1
        try clear c15b2
        try clear hcz12_0
        try clear hcz12_1
        try clear hcz12_2
        try clear hcz12_3
        try clear hcz12_4
        try clear hcz16_0
        try clear hcz16_1
        try clear hcz16_2
        try clear hcz16_3
        try clear hcz16_4
        try clear hcz8_0
        try clear hcz8_1
        try clear hcz8_2
        try clear hcz8_3
        try clear hcz8_4
        try clear hfz12_0
        try clear hfz12_1
        try clear hfz12_2
        try clear hfz12_3
        try clear hfz12_4
        try clear hfz16_0
        try clear hfz16_1
        try clear hfz16_2
        try clear hfz16_3
        try clear hfz16_4
        try clear hfz8_0
        try clear hfz8_1
        try clear hfz8_2
        try clear hfz8_3
        try clear hfz8_4
        try clear hx538_0
        try clear p538
        try clear q538
        obtain ⟨kq, x6_5, rfl, HA, HJ5, BK531, HB⟩ := hcut
        cases kq with
        | zero => exact absurd HA.out (by simp [spec_l9Write.j0])
        | succ kj5 =>
          have H := HA.out; clear HA; simp only [spec_l9Write.j0] at H; have HC17 := Aside0.mk H; clear H
          go_upto_if 27 with (fail)
          go_cut [6] (fun v6 wc => ∃ (kq : Nat) (x6_16 : ByteArray), v6 = .string x6_16 ∧ Aside0 (spec_l9Write.j1 kq t533 t534 x6_16 a0_0 a0_1 a0_2 a0_3 a0_4 = some r) ∧ Aside0 (kq ≤ kj5) ∧ Aside0 (wc.heap[gb531]? = some (.cells #[.int .i64 a0_0, .string a0_1, .string a0_2, .int .i64 a0_3, .string a0_4] 42 (0, 0))) ∧ Aside0 (Below w.heap.size w wc))
          case first =>
            have H := HC17.out; clear HC17; by_cases c18 : t532 = true
            · subst c18
              have H1 : (if x6_5.size + 1 ≤ 9223372036854775807 then (if x6_5.size + 1 + a0_2.size ≤ 9223372036854775807 then (spec_l9Write.j1 kj5 t533 t534 ((x6_5 ++ (⟨#[32]⟩ : ByteArray)) ++ a0_2) a0_0 a0_1 a0_2 a0_3 a0_4) else (none)) else (none)) = some r := by rw [if_pos rfl] at H; exact H
              clear H; have H := H1; clear H1; by_cases c19 : x6_5.size + 1 ≤ 9223372036854775807
              · rw [if_pos c19] at H
                have c19b0 := eq_true c19; have c19b1 : decide (x6_5.size + 1 ≤ 9223372036854775807) = true := decide_eq_true c19
                try have c19b2 : (9223372036854775807 < x6_5.size + 1) = False := eq_false (Nat.not_lt.2 c19)
                by_cases c20 : x6_5.size + 1 + a0_2.size ≤ 9223372036854775807
                · rw [if_pos c20] at H
                  have c20b0 := eq_true c20; have c20b1 : decide (x6_5.size + 1 + a0_2.size ≤ 9223372036854775807) = true := decide_eq_true c20
                  try have c20b2 : (9223372036854775807 < x6_5.size + 1 + a0_2.size) = False := eq_false (Nat.not_lt.2 c20)
                  have H' := Aside0.mk H; clear H; have hcz21_0 : wc.cell? ⟨gb531, 0, none⟩ = some (.int .i64 a0_0) := (blk_cell BK531.out 0).trans rfl; have hcz21_1 : wc.cell? ⟨gb531, 1, none⟩ = some (.string a0_1) := (blk_cell BK531.out 1).trans rfl; have hcz21_2 : wc.cell? ⟨gb531, 2, none⟩ = some (.string a0_2) := (blk_cell BK531.out 2).trans rfl; have hcz21_3 : wc.cell? ⟨gb531, 3, none⟩ = some (.int .i64 a0_3) := (blk_cell BK531.out 3).trans rfl; have hcz21_4 : wc.cell? ⟨gb531, 4, none⟩ = some (.string a0_4) := (blk_cell BK531.out 4).trans rfl; have hfz21_0 := blk_frozen BK531.out 0; have hfz21_1 := blk_frozen BK531.out 1; have hfz21_2 := blk_frozen BK531.out 2; have hfz21_3 := blk_frozen BK531.out 3; have hfz21_4 := blk_frozen BK531.out 4
                  go_wp2
                  go_meet
                  case rel => exact ⟨_, ((x6_5 ++ (⟨#[32]⟩ : ByteArray)) ++ a0_2), (by first | rfl | (simp; done) | (simp [*]; done)), H', ⟨by have := HJ5.out; first | omega | exact Nat.le_refl _⟩, ⟨by (with_reducible repeat (first | refine blk_drewN ?_ _ | refine blk_drew ?_ | refine blk_alloc ?_ _)); exact BK531.out⟩, ⟨by repeat (first | (with_reducible first | exact HB.out | apply below_alloc | apply pw_below_drewN | apply below_drew1 | refine below_set ?_ GE531.out) | exact HB.out)⟩⟩
                · rw [if_neg c20] at H
                  exact absurd H (by simp)
              · rw [if_neg c19] at H
                exact absurd H (by simp)
            · replace c18 := Bool.eq_false_iff.mpr c18
              subst c18; have H1 : (spec_l9Write.j1 kj5 t533 t534 x6_5 a0_0 a0_1 a0_2 a0_3 a0_4) = some r := by rw [if_neg (show ¬ (false = true) by decide)] at H; exact H
              clear H; have H := H1; clear H1; have H' := Aside0.mk H; clear H
              go_wp2
              go_meet
              case rel => exact ⟨_, (x6_5), (by first | rfl | (simp; done) | (simp [*]; done)), H', ⟨by have := HJ5.out; first | omega | exact Nat.le_refl _⟩, ⟨by (with_reducible repeat (first | refine blk_drewN ?_ _ | refine blk_drew ?_ | refine blk_alloc ?_ _)); exact BK531.out⟩, ⟨by repeat (first | (with_reducible first | exact HB.out | apply below_alloc | apply pw_below_drewN | apply below_drew1 | refine below_set ?_ GE531.out) | exact HB.out)⟩⟩
          case rest =>
            clear HC17
            try clear c1
            try clear c2
            try clear p2
            try clear c4
            try clear c4b0
            try clear c5
            try clear c5b0
            try clear p5
            try clear q5
            try clear hx5
            try clear c7
            try clear c13
            try clear c13b0
            try clear c13b1
            try clear c14
            try clear c14b0
            try clear c14b1
            try clear c14b2
            try clear c15
            try clear c15b0
            try clear c15b1
            try clear c15b2
            try clear c18
            try clear c19
            try clear c19b0
            try clear c19b1
            try clear c19b2
            try clear c20
            try clear c20b0
            try clear c20b1
            try clear c20b2
            try clear hcz12_0
            try clear hcz12_1
            try clear hcz12_2
            try clear hcz12_3
            try clear hcz12_4
            try clear hcz16_0
            try clear hcz16_1
            try clear hcz16_2
            try clear hcz16_3
            try clear hcz16_4
            try clear hcz21_0
            try clear hcz21_1
            try clear hcz21_2
            try clear hcz21_3
            try clear hcz21_4
            try clear hcz8_0
            try clear hcz8_1
            try clear hcz8_2
            try clear hcz8_3
            try clear hcz8_4
            try clear hfz12_0
            try clear hfz12_1
            try clear hfz12_2
            try clear hfz12_3
            try clear hfz12_4
            try clear hfz16_0
            try clear hfz16_1
            try clear hfz16_2
            try clear hfz16_3
            try clear hfz16_4
            try clear hfz21_0
            try clear hfz21_1
            try clear hfz21_2
            try clear hfz21_3
            try clear hfz21_4
            try clear hfz8_0
            try clear hfz8_1
            try clear hfz8_2
            try clear hfz8_3
            try clear hfz8_4
            try clear hx538_0
            try clear p2
            try clear p5
            try clear p538
            try clear q5
            try clear q538
            obtain ⟨kq, x6_16, rfl, HA, HJ16, BK531, HB⟩ := hcut
            cases kq with
            | zero => exact absurd HA.out (by simp [spec_l9Write.j1])
            | succ kj16 =>
              have H := HA.out; clear HA; simp only [spec_l9Write.j1] at H; by_cases c22 : t533 = true
              · subst c22
                have H1 : (if x6_16.size + 1 ≤ 9223372036854775807 then ((spec_l1Dec.f kj16 a0_3).bind fun t539 => (if x6_16.size + 1 + t539.size ≤ 9223372036854775807 then (if t534 = true then (if x6_16.size + 1 + t539.size + 1 ≤ 9223372036854775807 then (if x6_16.size + 1 + t539.size + 1 + a0_4.size ≤ 9223372036854775807 then (some ((((x6_16 ++ (⟨#[32]⟩ : ByteArray)) ++ t539) ++ (⟨#[32]⟩ : ByteArray)) ++ a0_4)) else (none)) else (none)) else (some ((x6_16 ++ (⟨#[32]⟩ : ByteArray)) ++ t539))) else (none))) else (none)) = some r := by rw [if_pos rfl] at H; exact H
                clear H; have H := H1; clear H1; by_cases c23 : x6_16.size + 1 ≤ 9223372036854775807
                · rw [if_pos c23] at H
                  have c23b0 := eq_true c23; have c23b1 : decide (x6_16.size + 1 ≤ 9223372036854775807) = true := decide_eq_true c23
                  try have c23b2 : (9223372036854775807 < x6_16.size + 1) = False := eq_false (Nat.not_lt.2 c23)
                  replace H := Option.bind_eq_some_iff.mp H; obtain ⟨t539, A240, H⟩ := H; replace H : (if x6_16.size + 1 + t539.size ≤ 9223372036854775807 then (if t534 = true then (if x6_16.size + 1 + t539.size + 1 ≤ 9223372036854775807 then (if x6_16.size + 1 + t539.size + 1 + a0_4.size ≤ 9223372036854775807 then (some ((((x6_16 ++ (⟨#[32]⟩ : ByteArray)) ++ t539) ++ (⟨#[32]⟩ : ByteArray)) ++ a0_4)) else (none)) else (none)) else (some ((x6_16 ++ (⟨#[32]⟩ : ByteArray)) ++ t539))) else (none)) = some r := H; have A24 := Aside0.mk A240; clear A240; by_cases c25 : x6_16.size + 1 + t539.size ≤ 9223372036854775807
                  · rw [if_pos c25] at H
                    have c25b0 := eq_true c25; have c25b1 : decide (x6_16.size + 1 + t539.size ≤ 9223372036854775807) = true := decide_eq_true c25
                    try have c25b2 : (9223372036854775807 < x6_16.size + 1 + t539.size) = False := eq_false (Nat.not_lt.2 c25)
                    by_cases c26 : t534 = true
                    · subst c26
                      have H1 : (if x6_16.size + 1 + t539.size + 1 ≤ 9223372036854775807 then (if x6_16.size + 1 + t539.size + 1 + a0_4.size ≤ 9223372036854775807 then (some ((((x6_16 ++ (⟨#[32]⟩ : ByteArray)) ++ t539) ++ (⟨#[32]⟩ : ByteArray)) ++ a0_4)) else (none)) else (none)) = some r := by rw [if_pos rfl] at H; exact H
                      clear H; have H := H1; clear H1; by_cases c27 : x6_16.size + 1 + t539.size + 1 ≤ 9223372036854775807
                      · rw [if_pos c27] at H
                        have c27b0 := eq_true c27; have c27b1 : decide (x6_16.size + 1 + t539.size + 1 ≤ 9223372036854775807) = true := decide_eq_true c27
                        try have c27b2 : (9223372036854775807 < x6_16.size + 1 + t539.size + 1) = False := eq_false (Nat.not_lt.2 c27)
                        by_cases c28 : x6_16.size + 1 + t539.size + 1 + a0_4.size ≤ 9223372036854775807
                        · rw [if_pos c28] at H
                          have c28b0 := eq_true c28; have c28b1 : decide (x6_16.size + 1 + t539.size + 1 + a0_4.size ≤ 9223372036854775807) = true := decide_eq_true c28
                          try have c28b2 : (9223372036854775807 < x6_16.size + 1 + t539.size + 1 + a0_4.size) = False := eq_false (Nat.not_lt.2 c28)
                          obtain rfl := Option.some.inj H; have hcz29_0 : wc.cell? ⟨gb531, 0, none⟩ = some (.int .i64 a0_0) := (blk_cell BK531.out 0).trans rfl; have hcz29_1 : wc.cell? ⟨gb531, 1, none⟩ = some (.string a0_1) := (blk_cell BK531.out 1).trans rfl; have hcz29_2 : wc.cell? ⟨gb531, 2, none⟩ = some (.string a0_2) := (blk_cell BK531.out 2).trans rfl; have hcz29_3 : wc.cell? ⟨gb531, 3, none⟩ = some (.int .i64 a0_3) := (blk_cell BK531.out 3).trans rfl; have hcz29_4 : wc.cell? ⟨gb531, 4, none⟩ = some (.string a0_4) := (blk_cell BK531.out 4).trans rfl; have hfz29_0 := blk_frozen BK531.out 0; have hfz29_1 := blk_frozen BK531.out 1; have hfz29_2 := blk_frozen BK531.out 2; have hfz29_3 := blk_frozen BK531.out 3; have hfz29_4 := blk_frozen BK531.out 4
                          go_wp2_with (first | ((with_reducible refine gate_callee (f := 63) rfl ?_); refine goesL_ (some 38) rfl rfl Tryd.func63 (by kernel_rfl) rfl #[.int .i64 a0_3] rfl (by (try simp only [List.map_toArray, List.map_cons, List.map_nil]); first | done | rfl | (simp only [List.length_drop, List.length_take]; rfl)) ?_; (with_reducible refine (spec_l1Dec.calls kj16 a0_3 t539 _ A24.out).mono ?_); rintro e w30 ⟨rfl, hb⟩; refine ⟨_, rfl, ?_⟩; have n0_ := Aside0.mk (blk_below (g := gb531) (o := .cells #[.int .i64 a0_0, .string a0_1, .string a0_2, .int .i64 a0_3, .string a0_4] 42 (0, 0)) (by (with_reducible repeat (first | refine blk_drewN ?_ _ | refine blk_drew ?_ | refine blk_alloc ?_ _)); exact BK531.out) hb); have n1_ := Aside0.mk (below_step (by repeat (first | (with_reducible first | exact HB.out | apply below_alloc | apply pw_below_drewN | apply below_drew1 | refine below_set ?_ GE531.out) | exact HB.out)) hb); clear BK531; clear HB; have BK531 := n0_; have HB := n1_; clear n0_ n1_; (try clear hb); (try clear hb2); (try clear hk); (try clear hi); have hcz31_0 : w30.cell? ⟨gb531, 0, none⟩ = some (.int .i64 a0_0) := (blk_cell BK531.out 0).trans rfl; have hcz31_1 : w30.cell? ⟨gb531, 1, none⟩ = some (.string a0_1) := (blk_cell BK531.out 1).trans rfl; have hcz31_2 : w30.cell? ⟨gb531, 2, none⟩ = some (.string a0_2) := (blk_cell BK531.out 2).trans rfl; have hcz31_3 : w30.cell? ⟨gb531, 3, none⟩ = some (.int .i64 a0_3) := (blk_cell BK531.out 3).trans rfl; have hcz31_4 : w30.cell? ⟨gb531, 4, none⟩ = some (.string a0_4) := (blk_cell BK531.out 4).trans rfl; have hfz31_0 := blk_frozen BK531.out 0; have hfz31_1 := blk_frozen BK531.out 1; have hfz31_2 := blk_frozen BK531.out 2; have hfz31_3 := blk_frozen BK531.out 3; have hfz31_4 := blk_frozen BK531.out 4))
                          go_ret
                          exact ⟨by first | rfl | (simp [errW_none, errW_some] <;> rfl) | (simp [*, errW_none, errW_some] <;> rfl), by repeat (first | (with_reducible first | exact HB.out | apply below_alloc | apply pw_below_drewN | apply below_drew1 | refine below_set ?_ GE531.out) | exact HB.out)⟩
                        · rw [if_neg c28] at H
                          exact absurd H (by simp)
                      · rw [if_neg c27] at H
                        exact absurd H (by simp)
                    · replace c26 := Bool.eq_false_iff.mpr c26
                      subst c26; have H1 : (some ((x6_16 ++ (⟨#[32]⟩ : ByteArray)) ++ t539)) = some r := by rw [if_neg (show ¬ (false = true) by decide)] at H; exact H
                      clear H; have H := H1; clear H1; obtain rfl := Option.some.inj H; have hcz32_0 : wc.cell? ⟨gb531, 0, none⟩ = some (.int .i64 a0_0) := (blk_cell BK531.out 0).trans rfl; have hcz32_1 : wc.cell? ⟨gb531, 1, none⟩ = some (.string a0_1) := (blk_cell BK531.out 1).trans rfl; have hcz32_2 : wc.cell? ⟨gb531, 2, none⟩ = some (.string a0_2) := (blk_cell BK531.out 2).trans rfl; have hcz32_3 : wc.cell? ⟨gb531, 3, none⟩ = some (.int .i64 a0_3) := (blk_cell BK531.out 3).trans rfl; have hcz32_4 : wc.cell? ⟨gb531, 4, none⟩ = some (.string a0_4) := (blk_cell BK531.out 4).trans rfl; have hfz32_0 := blk_frozen BK531.out 0; have hfz32_1 := blk_frozen BK531.out 1; have hfz32_2 := blk_frozen BK531.out 2; have hfz32_3 := blk_frozen BK531.out 3; have hfz32_4 := blk_frozen BK531.out 4
                      go_wp2_with (first | ((with_reducible refine gate_callee (f := 63) rfl ?_); refine goesL_ (some 38) rfl rfl Tryd.func63 (by kernel_rfl) rfl #[.int .i64 a0_3] rfl (by (try simp only [List.map_toArray, List.map_cons, List.map_nil]); first | done | rfl | (simp only [List.length_drop, List.length_take]; rfl)) ?_; (with_reducible refine (spec_l1Dec.calls kj16 a0_3 t539 _ A24.out).mono ?_); rintro e w33 ⟨rfl, hb⟩; refine ⟨_, rfl, ?_⟩; have n0_ := Aside0.mk (blk_below (g := gb531) (o := .cells #[.int .i64 a0_0, .string a0_1, .string a0_2, .int .i64 a0_3, .string a0_4] 42 (0, 0)) (by (with_reducible repeat (first | refine blk_drewN ?_ _ | refine blk_drew ?_ | refine blk_alloc ?_ _)); exact BK531.out) hb); have n1_ := Aside0.mk (below_step (by repeat (first | (with_reducible first | exact HB.out | apply below_alloc | apply pw_below_drewN | apply below_drew1 | refine below_set ?_ GE531.out) | exact HB.out)) hb); clear BK531; clear HB; have BK531 := n0_; have HB := n1_; clear n0_ n1_; (try clear hb); (try clear hb2); (try clear hk); (try clear hi)))
                      go_ret
                      exact ⟨by first | rfl | (simp [errW_none, errW_some] <;> rfl) | (simp [*, errW_none, errW_some] <;> rfl), by repeat (first | (with_reducible first | exact HB.out | apply below_alloc | apply pw_below_drewN | apply below_drew1 | refine below_set ?_ GE531.out) | exact HB.out)⟩
                  · rw [if_neg c25] at H
                    exact absurd H (by simp)
                · rw [if_neg c23] at H
                  exact absurd H (by simp)
              · replace c22 := Bool.eq_false_iff.mpr c22
                subst c22; have H1 : (if t534 = true then (if x6_16.size + 1 ≤ 9223372036854775807 then (if x6_16.size + 1 + a0_4.size ≤ 9223372036854775807 then (some ((x6_16 ++ (⟨#[32]⟩ : ByteArray)) ++ a0_4)) else (none)) else (none)) else (some x6_16)) = some r := by rw [if_neg (show ¬ (false = true) by decide)] at H; exact H
                clear H; have H := H1; clear H1; by_cases c34 : t534 = true
                · subst c34
                  have H1 : (if x6_16.size + 1 ≤ 9223372036854775807 then (if x6_16.size + 1 + a0_4.size ≤ 9223372036854775807 then (some ((x6_16 ++ (⟨#[32]⟩ : ByteArray)) ++ a0_4)) else (none)) else (none)) = some r := by rw [if_pos rfl] at H; exact H
                  clear H; have H := H1; clear H1; by_cases c35 : x6_16.size + 1 ≤ 9223372036854775807
                  · rw [if_pos c35] at H
                    have c35b0 := eq_true c35; have c35b1 : decide (x6_16.size + 1 ≤ 9223372036854775807) = true := decide_eq_true c35
                    try have c35b2 : (9223372036854775807 < x6_16.size + 1) = False := eq_false (Nat.not_lt.2 c35)
                    by_cases c36 : x6_16.size + 1 + a0_4.size ≤ 9223372036854775807
                    · rw [if_pos c36] at H
                      have c36b0 := eq_true c36; have c36b1 : decide (x6_16.size + 1 + a0_4.size ≤ 9223372036854775807) = true := decide_eq_true c36
                      try have c36b2 : (9223372036854775807 < x6_16.size + 1 + a0_4.size) = False := eq_false (Nat.not_lt.2 c36)
                      obtain rfl := Option.some.inj H; have hcz37_0 : wc.cell? ⟨gb531, 0, none⟩ = some (.int .i64 a0_0) := (blk_cell BK531.out 0).trans rfl; have hcz37_1 : wc.cell? ⟨gb531, 1, none⟩ = some (.string a0_1) := (blk_cell BK531.out 1).trans rfl; have hcz37_2 : wc.cell? ⟨gb531, 2, none⟩ = some (.string a0_2) := (blk_cell BK531.out 2).trans rfl; have hcz37_3 : wc.cell? ⟨gb531, 3, none⟩ = some (.int .i64 a0_3) := (blk_cell BK531.out 3).trans rfl; have hcz37_4 : wc.cell? ⟨gb531, 4, none⟩ = some (.string a0_4) := (blk_cell BK531.out 4).trans rfl; have hfz37_0 := blk_frozen BK531.out 0; have hfz37_1 := blk_frozen BK531.out 1; have hfz37_2 := blk_frozen BK531.out 2; have hfz37_3 := blk_frozen BK531.out 3; have hfz37_4 := blk_frozen BK531.out 4
                      go_wp2
                      go_ret
                      exact ⟨by first | rfl | (simp [errW_none, errW_some] <;> rfl) | (simp [*, errW_none, errW_some] <;> rfl), by repeat (first | (with_reducible first | exact HB.out | apply below_alloc | apply pw_below_drewN | apply below_drew1 | refine below_set ?_ GE531.out) | exact HB.out)⟩
                    · rw [if_neg c36] at H
                      exact absurd H (by simp)
                  · rw [if_neg c35] at H
                    exact absurd H (by simp)
                · replace c34 := Bool.eq_false_iff.mpr c34
                  subst c34; have H1 : (some x6_16) = some r := by rw [if_neg (show ¬ (false = true) by decide)] at H; exact H
                  clear H; have H := H1; clear H1; obtain rfl := Option.some.inj H
                  go_wp2
                  go_ret
                  exact ⟨by first | rfl | (simp [errW_none, errW_some] <;> rfl) | (simp [*, errW_none, errW_some] <;> rfl), by repeat (first | (with_reducible first | exact HB.out | apply below_alloc | apply pw_below_drewN | apply below_drew1 | refine below_set ?_ GE531.out) | exact HB.out)⟩
    · rw [if_neg c5] at H
      exact absurd H (by simp)
  · rw [if_neg c4] at H
    exact absurd H (by simp)
end Go.Proofs.YtgkgkpoeiojmeaaDoor.P
namespace Go.Proofs.YtgkgkpoeiojmeaaDoor.P
open Go.RowKit Go.Proofs.YtgkgkpoeiojmeaaDoorW.PrintWords Go.Proofs.YtgkgkpoeiojmeaaDoorW.PrintLast Go.Proofs.YtgkgkpoeiojmeaaDoorW.PrintMore
attribute [local go_sem] max2_int min2_int max_two min_two max_three min_three max_four min_four   -- for this text's walks alone
set_option linter.unusedVariables false
set_option linter.unusedSimpArgs false
def spec_ReqWrite.f (k : Nat) (a0_0 : Int) (a0_1 : ByteArray) (a0_2 : ByteArray) (a0_3 : Int) (a0_4 : ByteArray) : Option (ByteArray) := (spec_ReqOk.f k a0_0 a0_1 a0_2 a0_3 a0_4).bind fun t541 => (if t541 = true then ((spec_l9Write.f k a0_0 a0_1 a0_2 a0_3 a0_4).bind fun t542 => (some t542)) else (some (⟨#[]⟩ : ByteArray)))
set_option maxHeartbeats 8000000 in
set_option maxRecDepth 100000 in
theorem spec_ReqWrite.calls (k : Nat) (a0_0 : Int) (a0_1 : ByteArray) (a0_2 : ByteArray) (a0_3 : Int) (a0_4 : ByteArray) (r : ByteArray) (w : World) (h : spec_ReqWrite.f k a0_0 a0_1 a0_2 a0_3 a0_4 = some r) :
    Calls Tryd.prog 38 #[.agg #[.int .i64 a0_0, .string a0_1, .string a0_2, .int .i64 a0_3, .string a0_4]] w fun e w' => e = .returned (.string r) ∧ Below w.heap.size w w' := by
  have hu42 := Tryd.underlying42; have HB := Aside0.mk (Below.refl w.heap.size w); have H : ((spec_ReqOk.f k a0_0 a0_1 a0_2 a0_3 a0_4).bind fun t541 => (if t541 = true then ((spec_l9Write.f k a0_0 a0_1 a0_2 a0_3 a0_4).bind fun t542 => (some t542)) else (some (⟨#[]⟩ : ByteArray)))) = some r := h; clear h; replace H := Option.bind_eq_some_iff.mp H; obtain ⟨t541, A20, H⟩ := H; replace H : (if t541 = true then ((spec_l9Write.f k a0_0 a0_1 a0_2 a0_3 a0_4).bind fun t542 => (some t542)) else (some (⟨#[]⟩ : ByteArray))) = some r := H; have A2 := Aside0.mk A20; clear A20; by_cases c3 : t541 = true
  · subst c3
    have H1 : ((spec_l9Write.f k a0_0 a0_1 a0_2 a0_3 a0_4).bind fun t542 => (some t542)) = some r := by rw [if_pos rfl] at H; exact H
    clear H; have H := H1; clear H1; replace H := Option.bind_eq_some_iff.mp H; obtain ⟨t542, A40, H⟩ := H; replace H : (some t542) = some r := H; have A4 := Aside0.mk A40; clear A40; obtain rfl := Option.some.inj H
    go_enter Tryd.func38, Tryd.ntmps38
    go_wp2_with (first | ((with_reducible refine gate_dst (N := 1) rfl ?_); refine box_event ?hg (N := 1) ?hd (cs := #[.int .i64 a0_0, .string a0_1, .string a0_2, .int .i64 a0_3, .string a0_4]) (t := 42) ?hr ?_; (case hd => rfl); (case hg => rfl); (case hr => first | (go_simp; done) | (go_simp; rfl)); intro gb540 hg w5 hbox hb; have n0_ := Aside0.mk (below_step (by repeat (first | (with_reducible first | exact HB.out | apply below_alloc | apply pw_below_drewN | apply below_drew1) | exact HB.out)) hb); have n1_ := Aside0.mk (hbox); have n2_ := Aside0.mk ((by rw [hg]; exact (below_size (by repeat (first | (with_reducible first | exact HB.out | apply below_alloc | apply pw_below_drewN | apply below_drew1) | exact HB.out))) : w.heap.size ≤ gb540)); have n3_ := Aside0.mk ((by rw [hg]; exact (below_size (by repeat (first | (with_reducible first | exact HB.out | apply below_alloc | apply pw_below_drewN | apply below_drew1) | exact HB.out))) : w.heap.size ≤ gb540)); clear HB; have HB := n0_; have BK540 := n1_; have GW540 := n2_; have GE540 := n3_; clear n0_ n1_ n2_ n3_; clear hb hbox hg; have hcz6_0 : w5.cell? ⟨gb540, 0, none⟩ = some (.int .i64 a0_0) := (blk_cell BK540.out 0).trans rfl; have hcz6_1 : w5.cell? ⟨gb540, 1, none⟩ = some (.string a0_1) := (blk_cell BK540.out 1).trans rfl; have hcz6_2 : w5.cell? ⟨gb540, 2, none⟩ = some (.string a0_2) := (blk_cell BK540.out 2).trans rfl; have hcz6_3 : w5.cell? ⟨gb540, 3, none⟩ = some (.int .i64 a0_3) := (blk_cell BK540.out 3).trans rfl; have hcz6_4 : w5.cell? ⟨gb540, 4, none⟩ = some (.string a0_4) := (blk_cell BK540.out 4).trans rfl; have hfz6_0 := blk_frozen BK540.out 0; have hfz6_1 := blk_frozen BK540.out 1; have hfz6_2 := blk_frozen BK540.out 2; have hfz6_3 := blk_frozen BK540.out 3; have hfz6_4 := blk_frozen BK540.out 4) | ((with_reducible refine gate_callee (f := 27) rfl ?_); refine goesL_ (some 4) rfl rfl Tryd.func27 (by kernel_rfl) rfl #[.agg #[.int .i64 a0_0, .string a0_1, .string a0_2, .int .i64 a0_3, .string a0_4]] rfl (by (try simp only [List.map_toArray, List.map_cons, List.map_nil]); first | done | rfl | (simp only [List.length_drop, List.length_take]; rfl)) ?_; (with_reducible refine (spec_ReqOk.calls k a0_0 a0_1 a0_2 a0_3 a0_4 true _ A2.out).mono ?_); rintro e w7 ⟨rfl, hb⟩; refine ⟨_, rfl, ?_⟩; have n0_ := Aside0.mk (blk_below (g := gb540) (o := .cells #[.int .i64 a0_0, .string a0_1, .string a0_2, .int .i64 a0_3, .string a0_4] 42 (0, 0)) (by (with_reducible repeat (first | refine blk_drewN ?_ _ | refine blk_drew ?_ | refine blk_alloc ?_ _)); exact BK540.out) hb); have n1_ := Aside0.mk (below_step (by repeat (first | (with_reducible first | exact HB.out | apply below_alloc | apply pw_below_drewN | apply below_drew1 | refine below_set ?_ GE540.out) | exact HB.out)) hb); clear BK540; clear HB; have BK540 := n0_; have HB := n1_; clear n0_ n1_; (try clear hb); (try clear hb2); (try clear hk); (try clear hi); have hcz8_0 : w7.cell? ⟨gb540, 0, none⟩ = some (.int .i64 a0_0) := (blk_cell BK540.out 0).trans rfl; have hcz8_1 : w7.cell? ⟨gb540, 1, none⟩ = some (.string a0_1) := (blk_cell BK540.out 1).trans rfl; have hcz8_2 : w7.cell? ⟨gb540, 2, none⟩ = some (.string a0_2) := (blk_cell BK540.out 2).trans rfl; have hcz8_3 : w7.cell? ⟨gb540, 3, none⟩ = some (.int .i64 a0_3) := (blk_cell BK540.out 3).trans rfl; have hcz8_4 : w7.cell? ⟨gb540, 4, none⟩ = some (.string a0_4) := (blk_cell BK540.out 4).trans rfl; have hfz8_0 := blk_frozen BK540.out 0; have hfz8_1 := blk_frozen BK540.out 1; have hfz8_2 := blk_frozen BK540.out 2; have hfz8_3 := blk_frozen BK540.out 3; have hfz8_4 := blk_frozen BK540.out 4) | ((with_reducible refine gate_callee (f := 58) rfl ?_); refine goesL_ (some 7) rfl rfl Tryd.func58 (by kernel_rfl) rfl #[.agg #[.int .i64 a0_0, .string a0_1, .string a0_2, .int .i64 a0_3, .string a0_4]] rfl (by (try simp only [List.map_toArray, List.map_cons, List.map_nil]); first | done | rfl | (simp only [List.length_drop, List.length_take]; rfl)) ?_; (with_reducible refine (spec_l9Write.calls k a0_0 a0_1 a0_2 a0_3 a0_4 t542 _ A4.out).mono ?_); rintro e w9 ⟨rfl, hb⟩; refine ⟨_, rfl, ?_⟩; have n0_ := Aside0.mk (blk_below (g := gb540) (o := .cells #[.int .i64 a0_0, .string a0_1, .string a0_2, .int .i64 a0_3, .string a0_4] 42 (0, 0)) (by (with_reducible repeat (first | refine blk_drewN ?_ _ | refine blk_drew ?_ | refine blk_alloc ?_ _)); exact BK540.out) hb); have n1_ := Aside0.mk (below_step (by repeat (first | (with_reducible first | exact HB.out | apply below_alloc | apply pw_below_drewN | apply below_drew1 | refine below_set ?_ GE540.out) | exact HB.out)) hb); clear BK540; clear HB; have BK540 := n0_; have HB := n1_; clear n0_ n1_; (try clear hb); (try clear hb2); (try clear hk); (try clear hi)))
    go_ret
    exact ⟨by first | rfl | (simp [errW_none, errW_some] <;> rfl) | (simp [*, errW_none, errW_some] <;> rfl), by repeat (first | (with_reducible first | exact HB.out | apply below_alloc | apply pw_below_drewN | apply below_drew1 | refine below_set ?_ GE540.out) | exact HB.out)⟩
  · replace c3 := Bool.eq_false_iff.mpr c3
    subst c3; have H1 : (some (⟨#[]⟩ : ByteArray)) = some r := by rw [if_neg (show ¬ (false = true) by decide)] at H; exact H
    clear H; have H := H1; clear H1; obtain rfl := Option.some.inj H
    go_enter Tryd.func38, Tryd.ntmps38
    go_wp2_with (first | ((with_reducible refine gate_dst (N := 1) rfl ?_); refine box_event ?hg (N := 1) ?hd (cs := #[.int .i64 a0_0, .string a0_1, .string a0_2, .int .i64 a0_3, .string a0_4]) (t := 42) ?hr ?_; (case hd => rfl); (case hg => rfl); (case hr => first | (go_simp; done) | (go_simp; rfl)); intro gb540 hg w10 hbox hb; have n0_ := Aside0.mk (below_step (by repeat (first | (with_reducible first | exact HB.out | apply below_alloc | apply pw_below_drewN | apply below_drew1) | exact HB.out)) hb); have n1_ := Aside0.mk (hbox); have n2_ := Aside0.mk ((by rw [hg]; exact (below_size (by repeat (first | (with_reducible first | exact HB.out | apply below_alloc | apply pw_below_drewN | apply below_drew1) | exact HB.out))) : w.heap.size ≤ gb540)); have n3_ := Aside0.mk ((by rw [hg]; exact (below_size (by repeat (first | (with_reducible first | exact HB.out | apply below_alloc | apply pw_below_drewN | apply below_drew1) | exact HB.out))) : w.heap.size ≤ gb540)); clear HB; have HB := n0_; have BK540 := n1_; have GW540 := n2_; have GE540 := n3_; clear n0_ n1_ n2_ n3_; clear hb hbox hg; have hcz11_0 : w10.cell? ⟨gb540, 0, none⟩ = some (.int .i64 a0_0) := (blk_cell BK540.out 0).trans rfl; have hcz11_1 : w10.cell? ⟨gb540, 1, none⟩ = some (.string a0_1) := (blk_cell BK540.out 1).trans rfl; have hcz11_2 : w10.cell? ⟨gb540, 2, none⟩ = some (.string a0_2) := (blk_cell BK540.out 2).trans rfl; have hcz11_3 : w10.cell? ⟨gb540, 3, none⟩ = some (.int .i64 a0_3) := (blk_cell BK540.out 3).trans rfl; have hcz11_4 : w10.cell? ⟨gb540, 4, none⟩ = some (.string a0_4) := (blk_cell BK540.out 4).trans rfl; have hfz11_0 := blk_frozen BK540.out 0; have hfz11_1 := blk_frozen BK540.out 1; have hfz11_2 := blk_frozen BK540.out 2; have hfz11_3 := blk_frozen BK540.out 3; have hfz11_4 := blk_frozen BK540.out 4) | ((with_reducible refine gate_callee (f := 27) rfl ?_); refine goesL_ (some 4) rfl rfl Tryd.func27 (by kernel_rfl) rfl #[.agg #[.int .i64 a0_0, .string a0_1, .string a0_2, .int .i64 a0_3, .string a0_4]] rfl (by (try simp only [List.map_toArray, List.map_cons, List.map_nil]); first | done | rfl | (simp only [List.length_drop, List.length_take]; rfl)) ?_; (with_reducible refine (spec_ReqOk.calls k a0_0 a0_1 a0_2 a0_3 a0_4 false _ A2.out).mono ?_); rintro e w12 ⟨rfl, hb⟩; refine ⟨_, rfl, ?_⟩; have n0_ := Aside0.mk (blk_below (g := gb540) (o := .cells #[.int .i64 a0_0, .string a0_1, .string a0_2, .int .i64 a0_3, .string a0_4] 42 (0, 0)) (by (with_reducible repeat (first | refine blk_drewN ?_ _ | refine blk_drew ?_ | refine blk_alloc ?_ _)); exact BK540.out) hb); have n1_ := Aside0.mk (below_step (by repeat (first | (with_reducible first | exact HB.out | apply below_alloc | apply pw_below_drewN | apply below_drew1 | refine below_set ?_ GE540.out) | exact HB.out)) hb); clear BK540; clear HB; have BK540 := n0_; have HB := n1_; clear n0_ n1_; (try clear hb); (try clear hb2); (try clear hk); (try clear hi)))
    go_ret
    exact ⟨by first | rfl | (simp [errW_none, errW_some] <;> rfl) | (simp [*, errW_none, errW_some] <;> rfl), by repeat (first | (with_reducible first | exact HB.out | apply below_alloc | apply pw_below_drewN | apply below_drew1 | refine below_set ?_ GE540.out) | exact HB.out)⟩
end Go.Proofs.YtgkgkpoeiojmeaaDoor.P
/-
  DERIVED: THE SHELF's CONTRACTS AT THIS DUMP, IN PLAIN WORDS (tools/lay-plain.mjs out of 'TrydShelf.lean', which tools/lay-shelf.mjs wrote): THE SAME DECLARATIONS UNDER THE SAME NAMES: 'import', 'namespace', 'open', 'def', 'theorem' AND NOTHING ELSE: no command of the shelf's: FOR A HAND-IN. Each laying: the table of numbers ('.._ren') and one theorem, a field a fact of the dump's own or the kernel's comparison; each contract: ONE APPLICATION.
-/
namespace Go.Proofs
open Go.Shelf
def Tryd.lays160_ren : Go.Shelf.Ren := ⟨fun | 160 => 65 | 232 => 76 | 231 => 75 | 227 => 77 | 234 => 79 | 233 => 78 | 236 => 81 | 235 => 80 | 228 => 88 | 271 => 91 | 151 => 90 | 197 => 89 | 120 => 101 | 152 => 100 | 260 => 99 | 137 => 116 | 119 => 117 | 224 => 104 | 225 => 103 | 217 => 102 | 266 => 118 | n => n, fun | 9 => 9 | 4 => 4 | 3 => 3 | 5 => 5 | 117 => 82 | 116 => 81 | 0 => 0 | 124 => 85 | 21 => 21 | 105 => 95 | 46 => 108 | 119 => 121 | 139 => 124 | 138 => 123 | n => n, fun | 3 => 2 | 4 => 3 | n => n⟩
theorem Tryd.lays160 : Go.Proofs.Lays.n160 Tryd.prog Tryd.lays160_ren := {
  mixed := by kernel_rfl
  f119 := Tryd.func117.trans (congrArg some (by kernel_rfl))
  f120 := Tryd.func101.trans (congrArg some (by kernel_rfl))
  f137 := Tryd.func116.trans (congrArg some (by kernel_rfl))
  f151 := Tryd.func90.trans (congrArg some (by kernel_rfl))
  f152 := Tryd.func100.trans (congrArg some (by kernel_rfl))
  f160 := Tryd.func65.trans (congrArg some (by kernel_rfl))
  f197 := Tryd.func89.trans (congrArg some (by kernel_rfl))
  f217 := Tryd.func102.trans (congrArg some (by kernel_rfl))
  f224 := Tryd.func104.trans (congrArg some (by kernel_rfl))
  f225 := Tryd.func103.trans (congrArg some (by kernel_rfl))
  f227 := Tryd.func77.trans (congrArg some (by kernel_rfl))
  f228 := Tryd.func88.trans (congrArg some (by kernel_rfl))
  f231 := Tryd.func75.trans (congrArg some (by kernel_rfl))
  f232 := Tryd.func76.trans (congrArg some (by kernel_rfl))
  f233 := Tryd.func78.trans (congrArg some (by kernel_rfl))
  f234 := Tryd.func79.trans (congrArg some (by kernel_rfl))
  f235 := Tryd.func80.trans (congrArg some (by kernel_rfl))
  f236 := Tryd.func81.trans (congrArg some (by kernel_rfl))
  f260 := Tryd.func99.trans (congrArg some (by kernel_rfl))
  f266 := Tryd.func118.trans (congrArg some (by kernel_rfl))
  f271 := Tryd.func91.trans (congrArg some (by kernel_rfl))
  t0 := Tryd.underlying0
  a0 := Tryd.isAgg0
  z0 := Tryd.sizeOf0
  v0 := Tryd.zeroValue0
  t3 := Tryd.underlying3
  a3 := Tryd.isAgg3
  z3 := Tryd.sizeOf3
  v3 := Tryd.zeroValue3
  t4 := Tryd.underlying4
  a4 := Tryd.isAgg4
  z4 := Tryd.sizeOf4
  v4 := Tryd.zeroValue4
  t5 := Tryd.underlying5
  a5 := Tryd.isAgg5
  z5 := Tryd.sizeOf5
  v5 := Tryd.zeroValue5
  t9 := Tryd.underlying9
  a9 := Tryd.isAgg9
  z9 := Tryd.sizeOf9
  v9 := Tryd.zeroValue9
  t21 := Tryd.underlying21
  a21 := Tryd.isAgg21
  z21 := Tryd.sizeOf21
  v21 := Tryd.zeroValue21
  t46 := Tryd.underlying108
  a46 := Tryd.isAgg108
  z46 := Tryd.sizeOf108
  v46 := Tryd.zeroValue108
  t105 := Tryd.underlying95
  a105 := Tryd.isAgg95
  z105 := Tryd.sizeOf95
  v105 := Tryd.zeroValue95
  t116 := Tryd.underlying81
  a116 := Tryd.isAgg81
  z116 := Tryd.sizeOf81
  t117 := Tryd.underlying82
  a117 := Tryd.isAgg82
  z117 := Tryd.sizeOf82
  v117 := Tryd.zeroValue82
  t119 := Tryd.underlying121
  a119 := Tryd.isAgg121
  z119 := Tryd.sizeOf121
  t124 := Tryd.underlying85
  a124 := Tryd.isAgg85
  z124 := Tryd.sizeOf85
  v124 := Tryd.zeroValue85
  t138 := Tryd.underlying123
  a138 := Tryd.isAgg123
  z138 := Tryd.sizeOf123
  v138 := Tryd.zeroValue123
  t139 := Tryd.underlying124
  a139 := Tryd.isAgg124
  z139 := Tryd.sizeOf124
  v139 := Tryd.zeroValue124
  g3 := by kernel_rfl
  g4 := by kernel_rfl }
def Tryd.laysM171_ren : Go.Shelf.Ren := ⟨fun | 171 => 64 | 243 => 74 | 246 => 87 | 283 => 95 | 284 => 96 | 285 => 97 | 286 => 98 | 129 => 112 | 317 => 111 | 318 => 113 | 319 => 114 | 320 => 115 | 337 => 123 | 338 => 124 | n => n, fun | 3 => 3 | 9 => 9 | 2 => 2 | 4 => 4 | 171 => 100 | 0 => 0 | 53 => 101 | 37 => 31 | 5 => 5 | 173 => 104 | 212 => 116 | 51 => 117 | 20 => 20 | 213 => 118 | 46 => 108 | 232 => 140 | 233 => 141 | n => n, fun | 17 => 1 | 18 => 6 | 19 => 7 | n => n⟩
theorem Tryd.laysM171 : Go.Proofs.LaysM.n171 Tryd.prog Tryd.laysM171_ren := {
  mixed := by kernel_rfl
  f129 := Tryd.func112.trans (congrArg some (by kernel_rfl))
  f171 := Tryd.func64.trans (congrArg some (by kernel_rfl))
  f243 := Tryd.func74.trans (congrArg some (by kernel_rfl))
  f246 := Tryd.func87.trans (congrArg some (by kernel_rfl))
  f283 := Tryd.func95.trans (congrArg some (by kernel_rfl))
  f284 := Tryd.func96.trans (congrArg some (by kernel_rfl))
  f285 := Tryd.func97.trans (congrArg some (by kernel_rfl))
  f286 := Tryd.func98.trans (congrArg some (by kernel_rfl))
  f317 := Tryd.func111.trans (congrArg some (by kernel_rfl))
  f318 := Tryd.func113.trans (congrArg some (by kernel_rfl))
  f319 := Tryd.func114.trans (congrArg some (by kernel_rfl))
  f320 := Tryd.func115.trans (congrArg some (by kernel_rfl))
  f337 := Tryd.func123.trans (congrArg some (by kernel_rfl))
  f338 := Tryd.func124.trans (congrArg some (by kernel_rfl))
  t0 := Tryd.underlying0
  a0 := Tryd.isAgg0
  z0 := Tryd.sizeOf0
  v0 := Tryd.zeroValue0
  t2 := Tryd.underlying2
  a2 := Tryd.isAgg2
  z2 := Tryd.sizeOf2
  v2 := Tryd.zeroValue2
  t3 := Tryd.underlying3
  a3 := Tryd.isAgg3
  z3 := Tryd.sizeOf3
  v3 := Tryd.zeroValue3
  t4 := Tryd.underlying4
  a4 := Tryd.isAgg4
  z4 := Tryd.sizeOf4
  v4 := Tryd.zeroValue4
  t5 := Tryd.underlying5
  a5 := Tryd.isAgg5
  z5 := Tryd.sizeOf5
  v5 := Tryd.zeroValue5
  t9 := Tryd.underlying9
  a9 := Tryd.isAgg9
  z9 := Tryd.sizeOf9
  v9 := Tryd.zeroValue9
  t20 := Tryd.underlying20
  a20 := Tryd.isAgg20
  z20 := Tryd.sizeOf20
  v20 := Tryd.zeroValue20
  t37 := Tryd.underlying31
  a37 := Tryd.isAgg31
  z37 := Tryd.sizeOf31
  v37 := Tryd.zeroValue31
  t46 := Tryd.underlying108
  a46 := Tryd.isAgg108
  z46 := Tryd.sizeOf108
  v46 := Tryd.zeroValue108
  t51 := Tryd.underlying117
  a51 := Tryd.isAgg117
  z51 := Tryd.sizeOf117
  v51 := Tryd.zeroValue117
  t53 := Tryd.underlying101
  a53 := Tryd.isAgg101
  z53 := Tryd.sizeOf101
  v53 := Tryd.zeroValue101
  t171 := Tryd.underlying100
  a171 := Tryd.isAgg100
  z171 := Tryd.sizeOf100
  v171 := Tryd.zeroValue100
  t173 := Tryd.underlying104
  a173 := Tryd.isAgg104
  z173 := Tryd.sizeOf104
  v173 := Tryd.zeroValue104
  t212 := Tryd.underlying116
  a212 := Tryd.isAgg116
  z212 := Tryd.sizeOf116
  v212 := Tryd.zeroValue116
  t213 := Tryd.underlying118
  a213 := Tryd.isAgg118
  z213 := Tryd.sizeOf118
  t232 := Tryd.underlying140
  a232 := Tryd.isAgg140
  z232 := Tryd.sizeOf140
  v232 := Tryd.zeroValue140
  t233 := Tryd.underlying141
  a233 := Tryd.isAgg141
  z233 := Tryd.sizeOf141
  v233 := Tryd.zeroValue141
  g17 := by kernel_rfl
  g18 := by kernel_rfl
  g19 := by kernel_rfl
  i0 := by kernel_rfl
  i2 := by kernel_rfl
  i3 := by kernel_rfl
  i4 := by kernel_rfl
  i5 := by kernel_rfl
  i9 := by kernel_rfl
  i20 := by kernel_rfl
  i37 := by kernel_rfl
  i46 := by kernel_rfl
  i51 := by kernel_rfl
  i53 := by kernel_rfl
  i171 := by kernel_rfl
  i173 := by kernel_rfl
  i212 := by kernel_rfl
  i232 := by kernel_rfl
  i233 := by kernel_rfl
  m17 := by kernel_rfl
  m18 := by kernel_rfl
  m19 := by kernel_rfl }
open Go.RowKit Go.Sort Go.Lib in
/-- strconv.Itoa: "Itoa is equivalent to FormatInt(int64(i), 10).": i's DECIMAL NUMERAL ('Lib.itoa': a '-' where i is negative, then the digits), FOR EVERY int. The world behind the call: the world before it, new blocks behind the heap (the library's 'var a [24]byte'), draws. (LAID: no walk: one application.) -/
theorem Tryd.strconv_Itoa (n : Int) (h0 : -9223372036854775808 ≤ n) (h1 : n ≤ 9223372036854775807) (w : World) (htab : Lib.TabIs Tryd.prog w "internal/strconv.uint64pow10" .u64 Lib.pow10Tab) :
    Calls Tryd.prog 64 #[.int .i64 n] w fun e w' => e = .returned (.string ⟨(Lib.itoa n).toArray⟩) ∧ ∃ k os, w' = grow (w.drewN k) os := Any.strconv_Itoa Tryd.laysM171 n h0 h1 w htab
end Go.Proofs
namespace Go.Proofs.YtgkgkpoeiojmeaaDoor.P
open Go.RowKit Go.Proofs.YtgkgkpoeiojmeaaDoorW.PrintWords Go.Proofs.YtgkgkpoeiojmeaaDoorW.PrintLast Go.Proofs.YtgkgkpoeiojmeaaDoorW.PrintMore
attribute [local go_sem] max2_int min2_int max_two min_two max_three min_three max_four min_four   -- for this text's walks alone
set_option linter.unusedVariables false
set_option linter.unusedSimpArgs false
/-- strings.Trim at a set of ASCII letters. -/
def strings_Trim.f (a0 : ByteArray) (a1 : ByteArray) : Option (ByteArray) := if a0.size ≤ 9223372036854775807 ∧ a1.size < 4294967281 ∧ a1.data.toList.all (fun b => decide (b.toNat < 128)) = true then some ⟨(Lib.trimS a0.data.toList a1.data.toList).toArray⟩ else none
theorem strings_Trim.calls (a0 : ByteArray) (a1 : ByteArray) (r : ByteArray) (w : World) (h : strings_Trim.f a0 a1 = some r) :
    Calls Tryd.prog 65 #[.string a0, .string a1] w fun e w' => e = .returned (.string r) ∧ Below w.heap.size w w' := by
  unfold strings_Trim.f at h; by_cases hc : a0.size ≤ 9223372036854775807 ∧ a1.size < 4294967281 ∧ a1.data.toList.all (fun b => decide (b.toNat < 128)) = true
  · rw [if_pos hc] at h
    obtain rfl := Option.some.inj h
    exact Any.strings_Trim_laid Tryd.lays160 (by kernel_rfl) a0 a1 w hc.1 hc.2.1 (ascii_of_all hc.2.2)
  · rw [if_neg hc] at h
    cases h
end Go.Proofs.YtgkgkpoeiojmeaaDoor.P
namespace Go.Proofs.YtgkgkpoeiojmeaaDoor.P
open Go.RowKit Go.Proofs.YtgkgkpoeiojmeaaDoorW.PrintWords Go.Proofs.YtgkgkpoeiojmeaaDoorW.PrintLast Go.Proofs.YtgkgkpoeiojmeaaDoorW.PrintMore
attribute [local go_sem] max2_int min2_int max_two min_two max_three min_three max_four min_four   -- for this text's walks alone
set_option linter.unusedVariables false
set_option linter.unusedSimpArgs false
def impl_isName.f (a0 : ByteArray) : Option (Bool) := if (a0.size : Int) ≥ 1 then (if (a0.size : Int) ≤ 6 then ((strings_Trim.f a0 (⟨#[97, 98, 99, 100, 101, 102, 103, 104, 105, 106, 107, 108, 109, 110, 111, 112, 113, 114, 115, 116, 117, 118, 119, 120, 121, 122]⟩ : ByteArray)).bind fun t158 => (some (t158.toList == ([] : List UInt8)))) else (some false)) else (some false)
set_option maxHeartbeats 8000000 in
set_option maxRecDepth 100000 in
theorem impl_isName.calls (a0 : ByteArray) (r : Bool) (w : World) (h : impl_isName.f a0 = some r) :
    Calls Tryd.prog 47 #[.string a0] w fun e w' => e = .returned (.bool r) ∧ Below w.heap.size w w' := by
  have HB := Aside0.mk (Below.refl w.heap.size w); have H : (if (a0.size : Int) ≥ 1 then (if (a0.size : Int) ≤ 6 then ((strings_Trim.f a0 (⟨#[97, 98, 99, 100, 101, 102, 103, 104, 105, 106, 107, 108, 109, 110, 111, 112, 113, 114, 115, 116, 117, 118, 119, 120, 121, 122]⟩ : ByteArray)).bind fun t158 => (some (t158.toList == ([] : List UInt8)))) else (some false)) else (some false)) = some r := h; clear h; by_cases c2 : (a0.size : Int) ≥ 1
  · rw [if_pos c2] at H
    have c2b0 : decide (1 ≤ (a0.size : Int)) = true := decide_eq_true c2; have c2b1 : decide (1 ≤ a0.size) = true := decide_eq_true (by omega); clear c2; by_cases c3 : (a0.size : Int) ≤ 6
    · rw [if_pos c3] at H
      have c3b0 : decide ((a0.size : Int) ≤ 6) = true := decide_eq_true c3; have c3b1 : decide (a0.size ≤ 6) = true := decide_eq_true (by omega); clear c3; replace H := Option.bind_eq_some_iff.mp H; obtain ⟨t158, A40, H⟩ := H; replace H : (some (t158.toList == ([] : List UInt8))) = some r := H; have A4 := Aside0.mk A40; clear A40; obtain rfl := Option.some.inj H
      go_enter Tryd.func47, Tryd.ntmps47
      go_wp2_with (first | (go_at_call 65; (with_reducible refine (strings_Trim.calls a0 (⟨#[97, 98, 99, 100, 101, 102, 103, 104, 105, 106, 107, 108, 109, 110, 111, 112, 113, 114, 115, 116, 117, 118, 119, 120, 121, 122]⟩ : ByteArray) t158 _ A4.out).mono ?_); rintro e w5 ⟨rfl, hb⟩; have n0_ := Aside0.mk (below_step (by repeat (first | (with_reducible first | exact HB.out | apply below_alloc | apply pw_below_drewN | apply below_drew1) | exact HB.out)) hb); clear HB; have HB := n0_; clear n0_; (try clear hb); (try clear hb2); (try clear hk); (try clear hi)))
      go_ret
      exact ⟨by first | rfl | (simp [errW_none, errW_some] <;> rfl) | (simp [*, errW_none, errW_some] <;> rfl), by repeat (first | (with_reducible first | exact HB.out | apply below_alloc | apply pw_below_drewN | apply below_drew1) | exact HB.out)⟩
    · rw [if_neg c3] at H
      have c3b0 : decide ((a0.size : Int) ≤ 6) = false := decide_eq_false c3; have c3b1 : decide (a0.size ≤ 6) = false := decide_eq_false (by omega); clear c3; obtain rfl := Option.some.inj H
      go_enter Tryd.func47, Tryd.ntmps47
      go_wp2
      go_ret
      exact ⟨by first | rfl | (simp [errW_none, errW_some] <;> rfl) | (simp [*, errW_none, errW_some] <;> rfl), by repeat (first | (with_reducible first | exact HB.out | apply below_alloc | apply pw_below_drewN | apply below_drew1) | exact HB.out)⟩
  · rw [if_neg c2] at H
    have c2b0 : decide (1 ≤ (a0.size : Int)) = false := decide_eq_false c2; have c2b1 : decide (1 ≤ a0.size) = false := decide_eq_false (by omega); clear c2; obtain rfl := Option.some.inj H
    go_enter Tryd.func47, Tryd.ntmps47
    go_wp2
    go_ret
    exact ⟨by first | rfl | (simp [errW_none, errW_some] <;> rfl) | (simp [*, errW_none, errW_some] <;> rfl), by repeat (first | (with_reducible first | exact HB.out | apply below_alloc | apply pw_below_drewN | apply below_drew1) | exact HB.out)⟩
end Go.Proofs.YtgkgkpoeiojmeaaDoor.P
namespace Go.Proofs.YtgkgkpoeiojmeaaDoor.P
open Go.RowKit Go.Proofs.YtgkgkpoeiojmeaaDoorW.PrintWords Go.Proofs.YtgkgkpoeiojmeaaDoorW.PrintLast Go.Proofs.YtgkgkpoeiojmeaaDoorW.PrintMore
attribute [local go_sem] max2_int min2_int max_two min_two max_three min_three max_four min_four   -- for this text's walks alone
set_option linter.unusedVariables false
set_option linter.unusedSimpArgs false
section
variable {P : Program} {ops : Array Oper} {rest : List Oper} {o : Oper} {a : Act} {w : World} {Q : Exit → Act → World → Prop}
theorem form_alloc (hgd : o.guard = none) (t : TypeId) (ho : o.op = .alloc t) (d : Option Tmp) (hd : o.dst = d) (z : Value) (hz : (P.info? t).bind (·.zero) = some z) (cs : Array Value) (hcs : z.cells = cs) (g : Nat) (hg : w.heap.size = g)
    (h : wpList P ops Q rest (a.put d (.pointer (some ⟨g, 0, none⟩))) (w.alloc (.cells cs t (0, 0)))) : wpList P ops Q (o :: rest) a w :=
  wpList_plain hgd fun _ hK => by
    subst hd hcs hg; obtain ⟨it, hi, hz⟩ := Option.bind_eq_some_iff.1 hz
    have hr : (Instr.alloc t true (.tuple #[])).run P w = .ok (.pointer (some ⟨w.heap.size, 0, none⟩)) (w.alloc (.cells z.cells t (0, 0))) := by
      simp [Instr.alloc, zeroValue, typeInfo, newVar, hi, hz, go_sem]
    unfold Oper.wp execOp; simp only [ho, Sem.run_bind, hr, Result.andThen_ok]
    exact hK _ _ h
theorem form_assign (hgd : o.guard = none) (v : Value) (ho : o.op = .assign (.const v)) (d : Option Tmp) (hd : o.dst = d) (h : wpList P ops Q rest (a.put d v) w) : wpList P ops Q (o :: rest) a w :=
  wpList_plain hgd fun _ hK => by
    subst hd; unfold Oper.wp execOp; simp only [ho, Act.eval]
    exact hK _ _ h
end
/-- All forms' cells. -/
def impl_formOf.FC : Array Value := #[.string (⟨#[115, 112, 97, 99, 101]⟩ : ByteArray), .bool true, .bool true, .bool true, .bool false, .string (⟨#[108, 105, 109, 105, 116]⟩ : ByteArray), .bool true, .bool false, .bool true, .bool false, .string (⟨#[99, 108, 111, 115, 101]⟩ : ByteArray), .bool true, .bool false, .bool false, .bool false, .string (⟨#[112, 117, 116]⟩ : ByteArray), .bool true, .bool true, .bool false, .bool true, .string (⟨#[115, 101, 116]⟩ : ByteArray), .bool true, .bool true, .bool true, .bool true, .string (⟨#[109, 97, 114, 107]⟩ : ByteArray), .bool true, .bool true, .bool false, .bool true, .string (⟨#[117, 110, 109, 97, 114, 107]⟩ : ByteArray), .bool true, .bool true, .bool false, .bool true, .string (⟨#[100, 114, 111, 112]⟩ : ByteArray), .bool true, .bool true, .bool false, .bool false, .string (⟨#[103, 101, 116]⟩ : ByteArray), .bool true, .bool true, .bool false, .bool false, .string (⟨#[108, 105, 115, 116]⟩ : ByteArray), .bool true, .bool false, .bool false, .bool false, .string (⟨#[119, 97, 116, 99, 104]⟩ : ByteArray), .bool true, .bool false, .bool true, .bool false, .string (⟨#[115, 116, 101, 112]⟩ : ByteArray), .bool false, .bool false, .bool false, .bool false]
def impl_formOf.ZC : Array Value := #[.string (⟨#[]⟩ : ByteArray), .bool false, .bool false, .bool false, .bool false, .string (⟨#[]⟩ : ByteArray), .bool false, .bool false, .bool false, .bool false, .string (⟨#[]⟩ : ByteArray), .bool false, .bool false, .bool false, .bool false, .string (⟨#[]⟩ : ByteArray), .bool false, .bool false, .bool false, .bool false, .string (⟨#[]⟩ : ByteArray), .bool false, .bool false, .bool false, .bool false, .string (⟨#[]⟩ : ByteArray), .bool false, .bool false, .bool false, .bool false, .string (⟨#[]⟩ : ByteArray), .bool false, .bool false, .bool false, .bool false, .string (⟨#[]⟩ : ByteArray), .bool false, .bool false, .bool false, .bool false, .string (⟨#[]⟩ : ByteArray), .bool false, .bool false, .bool false, .bool false, .string (⟨#[]⟩ : ByteArray), .bool false, .bool false, .bool false, .bool false, .string (⟨#[]⟩ : ByteArray), .bool false, .bool false, .bool false, .bool false, .string (⟨#[]⟩ : ByteArray), .bool false, .bool false, .bool false, .bool false]
/-- How a kind of requests is written. -/
def impl_formOf.f (a0 : Int) : Option (ByteArray × Bool × Bool × Bool × Bool × Bool) := some (if a0 = 1 then ((⟨#[115, 112, 97, 99, 101]⟩ : ByteArray), true, true, true, false, true) else if a0 = 2 then ((⟨#[108, 105, 109, 105, 116]⟩ : ByteArray), true, false, true, false, true) else if a0 = 3 then ((⟨#[99, 108, 111, 115, 101]⟩ : ByteArray), true, false, false, false, true) else if a0 = 4 then ((⟨#[112, 117, 116]⟩ : ByteArray), true, true, false, true, true) else if a0 = 5 then ((⟨#[115, 101, 116]⟩ : ByteArray), true, true, true, true, true) else if a0 = 6 then ((⟨#[109, 97, 114, 107]⟩ : ByteArray), true, true, false, true, true) else if a0 = 7 then ((⟨#[117, 110, 109, 97, 114, 107]⟩ : ByteArray), true, true, false, true, true) else if a0 = 8 then ((⟨#[100, 114, 111, 112]⟩ : ByteArray), true, true, false, false, true) else if a0 = 9 then ((⟨#[103, 101, 116]⟩ : ByteArray), true, true, false, false, true) else if a0 = 10 then ((⟨#[108, 105, 115, 116]⟩ : ByteArray), true, false, false, false, true) else if a0 = 11 then ((⟨#[119, 97, 116, 99, 104]⟩ : ByteArray), true, false, true, false, true) else if a0 = 12 then ((⟨#[115, 116, 101, 112]⟩ : ByteArray), false, false, false, false, true) else ((⟨#[]⟩ : ByteArray), false, false, false, false, false))
/-- What the table and the answer's box hold, behind the table. -/
structure impl_formOf.St (gb g1 : Nat) (w : World) : Prop where
  ne : gb ≠ g1
  box : w.heap[gb]? = some (.cells #[.string (⟨#[]⟩ : ByteArray), .bool false, .bool false, .bool false, .bool false] 69 (0, 0))
  tab : w.heap[g1]? = some (.cells impl_formOf.FC 86 (0, 0))
theorem impl_formOf.St.cell {gb g1 : Nat} {w : World} (h : impl_formOf.St gb g1 w) (i : Nat) (v : Value) (hv : impl_formOf.FC[i]? = some v) : w.cell? ⟨g1, i, none⟩ = some v := by
  simp [World.cell?, h.tab, hv]
/-- What runs behind the table. -/
noncomputable def impl_formOf.rest : Code := match Tryd.f67.body with
  | some (.seq _ (.seq _ c)) => c
  | _ => .ret
set_option maxHeartbeats 8000000 in
set_option maxRecDepth 100000 in
theorem impl_formOf.table (a0 : Int) (R : World → Ending → World → Prop) (w : World)
    (H : ∀ (w2 : World) (g1 : Nat), Aside0 (impl_formOf.St w.heap.size g1 w2) → Aside0 (Below w.heap.size w w2) → Code.wp Tryd.prog impl_formOf.rest (bodyPost Tryd.prog Tryd.f67 (R w)) { tmps := #[.int .i64 a0, undef, .pointer (some ⟨w.heap.size, 0, none⟩), .bool false, .pointer (some ⟨g1, 0, none⟩), .agg #[.string (⟨#[115, 112, 97, 99, 101]⟩ : ByteArray), .bool true, .bool true, .bool true, .bool false], .agg #[.string (⟨#[108, 105, 109, 105, 116]⟩ : ByteArray), .bool true, .bool false, .bool true, .bool false], .agg #[.string (⟨#[99, 108, 111, 115, 101]⟩ : ByteArray), .bool true, .bool false, .bool false, .bool false], .agg #[.string (⟨#[112, 117, 116]⟩ : ByteArray), .bool true, .bool true, .bool false, .bool true], .agg #[.string (⟨#[115, 101, 116]⟩ : ByteArray), .bool true, .bool true, .bool true, .bool true], .agg #[.string (⟨#[109, 97, 114, 107]⟩ : ByteArray), .bool true, .bool true, .bool false, .bool true], .agg #[.string (⟨#[117, 110, 109, 97, 114, 107]⟩ : ByteArray), .bool true, .bool true, .bool false, .bool true], .agg #[.string (⟨#[100, 114, 111, 112]⟩ : ByteArray), .bool true, .bool true, .bool false, .bool false], .agg #[.string (⟨#[103, 101, 116]⟩ : ByteArray), .bool true, .bool true, .bool false, .bool false], .agg #[.string (⟨#[108, 105, 115, 116]⟩ : ByteArray), .bool true, .bool false, .bool false, .bool false], .agg #[.string (⟨#[119, 97, 116, 99, 104]⟩ : ByteArray), .bool true, .bool false, .bool true, .bool false], .agg #[.string (⟨#[115, 116, 101, 112]⟩ : ByteArray), .bool false, .bool false, .bool false, .bool false], .agg impl_formOf.FC, undef, undef, undef, undef, undef, undef, undef, undef, undef, undef, undef], defers := [] } w2) :
    Calls Tryd.prog 67 #[.int .i64 a0] w (R w) := by
  go_enter Tryd.func67, Tryd.ntmps67
  apply wp_seq_k; intro K0 hK0; apply wp_region_lit
  refine form_alloc rfl 69 rfl (some 2) rfl (.agg #[.string (⟨#[]⟩ : ByteArray), .bool false, .bool false, .bool false, .bool false]) (by kernel_rfl) #[.string (⟨#[]⟩ : ByteArray), .bool false, .bool false, .bool false, .bool false] rfl w.heap.size rfl ?_; refine wpList_frame (a' := { tmps := #[.int .i64 a0, undef, .pointer (some ⟨w.heap.size, 0, none⟩), undef, undef, undef, undef, undef, undef, undef, undef, undef, undef, undef, undef, undef, undef, undef, undef, undef, undef, undef, undef, undef, undef, undef, undef, undef, undef], defers := [] }) (by kernel_rfl) ?_; obtain ⟨w1, hw1⟩ : ∃ x, x = w.alloc (.cells #[.string (⟨#[]⟩ : ByteArray), .bool false, .bool false, .bool false, .bool false] 69 (0, 0)) := ⟨_, rfl⟩; rw [← hw1]; have hB1 : Below w.heap.size w w1 := by rw [hw1]; exact below_alloc (Below.refl _ _) _
  have hs1 : w1.heap.size = w.heap.size + 1 := by rw [hw1]; exact World.size_alloc _ _
  have hg1 : w1.heap[w.heap.size]? = some (.cells #[.string (⟨#[]⟩ : ByteArray), .bool false, .bool false, .bool false, .bool false] 69 (0, 0)) := by rw [hw1]; exact blk_new _ _
  clear hw1; refine form_assign rfl (.bool false) rfl (some 3) rfl ?_; refine wpList_frame (a' := { tmps := #[.int .i64 a0, undef, .pointer (some ⟨w.heap.size, 0, none⟩), .bool false, undef, undef, undef, undef, undef, undef, undef, undef, undef, undef, undef, undef, undef, undef, undef, undef, undef, undef, undef, undef, undef, undef, undef, undef, undef], defers := [] }) (by kernel_rfl) ?_; apply wpList_nil; refine hK0 _ _ ?_; clear hK0 K0
  apply wp_seq_k; intro K1 hK1; apply wp_region_lit
  refine wpList_buildTo rfl 69 _ rfl (some 5) rfl #[.string (⟨#[115, 112, 97, 99, 101]⟩ : ByteArray), .bool true, .bool true, .bool true, .bool false] (by kernel_rfl) ?_; refine wpList_frame (a' := { tmps := #[.int .i64 a0, undef, .pointer (some ⟨w.heap.size, 0, none⟩), .bool false, undef, .agg #[.string (⟨#[115, 112, 97, 99, 101]⟩ : ByteArray), .bool true, .bool true, .bool true, .bool false], undef, undef, undef, undef, undef, undef, undef, undef, undef, undef, undef, undef, undef, undef, undef, undef, undef, undef, undef, undef, undef, undef, undef], defers := [] }) (by kernel_rfl) ?_; refine wpList_buildTo rfl 69 _ rfl (some 6) rfl #[.string (⟨#[108, 105, 109, 105, 116]⟩ : ByteArray), .bool true, .bool false, .bool true, .bool false] (by kernel_rfl) ?_; refine wpList_frame (a' := { tmps := #[.int .i64 a0, undef, .pointer (some ⟨w.heap.size, 0, none⟩), .bool false, undef, .agg #[.string (⟨#[115, 112, 97, 99, 101]⟩ : ByteArray), .bool true, .bool true, .bool true, .bool false], .agg #[.string (⟨#[108, 105, 109, 105, 116]⟩ : ByteArray), .bool true, .bool false, .bool true, .bool false], undef, undef, undef, undef, undef, undef, undef, undef, undef, undef, undef, undef, undef, undef, undef, undef, undef, undef, undef, undef, undef, undef], defers := [] }) (by kernel_rfl) ?_; refine wpList_buildTo rfl 69 _ rfl (some 7) rfl #[.string (⟨#[99, 108, 111, 115, 101]⟩ : ByteArray), .bool true, .bool false, .bool false, .bool false] (by kernel_rfl) ?_; refine wpList_frame (a' := { tmps := #[.int .i64 a0, undef, .pointer (some ⟨w.heap.size, 0, none⟩), .bool false, undef, .agg #[.string (⟨#[115, 112, 97, 99, 101]⟩ : ByteArray), .bool true, .bool true, .bool true, .bool false], .agg #[.string (⟨#[108, 105, 109, 105, 116]⟩ : ByteArray), .bool true, .bool false, .bool true, .bool false], .agg #[.string (⟨#[99, 108, 111, 115, 101]⟩ : ByteArray), .bool true, .bool false, .bool false, .bool false], undef, undef, undef, undef, undef, undef, undef, undef, undef, undef, undef, undef, undef, undef, undef, undef, undef, undef, undef, undef, undef], defers := [] }) (by kernel_rfl) ?_; refine wpList_buildTo rfl 69 _ rfl (some 8) rfl #[.string (⟨#[112, 117, 116]⟩ : ByteArray), .bool true, .bool true, .bool false, .bool true] (by kernel_rfl) ?_; refine wpList_frame (a' := { tmps := #[.int .i64 a0, undef, .pointer (some ⟨w.heap.size, 0, none⟩), .bool false, undef, .agg #[.string (⟨#[115, 112, 97, 99, 101]⟩ : ByteArray), .bool true, .bool true, .bool true, .bool false], .agg #[.string (⟨#[108, 105, 109, 105, 116]⟩ : ByteArray), .bool true, .bool false, .bool true, .bool false], .agg #[.string (⟨#[99, 108, 111, 115, 101]⟩ : ByteArray), .bool true, .bool false, .bool false, .bool false], .agg #[.string (⟨#[112, 117, 116]⟩ : ByteArray), .bool true, .bool true, .bool false, .bool true], undef, undef, undef, undef, undef, undef, undef, undef, undef, undef, undef, undef, undef, undef, undef, undef, undef, undef, undef, undef], defers := [] }) (by kernel_rfl) ?_; refine wpList_buildTo rfl 69 _ rfl (some 9) rfl #[.string (⟨#[115, 101, 116]⟩ : ByteArray), .bool true, .bool true, .bool true, .bool true] (by kernel_rfl) ?_; refine wpList_frame (a' := { tmps := #[.int .i64 a0, undef, .pointer (some ⟨w.heap.size, 0, none⟩), .bool false, undef, .agg #[.string (⟨#[115, 112, 97, 99, 101]⟩ : ByteArray), .bool true, .bool true, .bool true, .bool false], .agg #[.string (⟨#[108, 105, 109, 105, 116]⟩ : ByteArray), .bool true, .bool false, .bool true, .bool false], .agg #[.string (⟨#[99, 108, 111, 115, 101]⟩ : ByteArray), .bool true, .bool false, .bool false, .bool false], .agg #[.string (⟨#[112, 117, 116]⟩ : ByteArray), .bool true, .bool true, .bool false, .bool true], .agg #[.string (⟨#[115, 101, 116]⟩ : ByteArray), .bool true, .bool true, .bool true, .bool true], undef, undef, undef, undef, undef, undef, undef, undef, undef, undef, undef, undef, undef, undef, undef, undef, undef, undef, undef], defers := [] }) (by kernel_rfl) ?_; refine wpList_buildTo rfl 69 _ rfl (some 10) rfl #[.string (⟨#[109, 97, 114, 107]⟩ : ByteArray), .bool true, .bool true, .bool false, .bool true] (by kernel_rfl) ?_; refine wpList_frame (a' := { tmps := #[.int .i64 a0, undef, .pointer (some ⟨w.heap.size, 0, none⟩), .bool false, undef, .agg #[.string (⟨#[115, 112, 97, 99, 101]⟩ : ByteArray), .bool true, .bool true, .bool true, .bool false], .agg #[.string (⟨#[108, 105, 109, 105, 116]⟩ : ByteArray), .bool true, .bool false, .bool true, .bool false], .agg #[.string (⟨#[99, 108, 111, 115, 101]⟩ : ByteArray), .bool true, .bool false, .bool false, .bool false], .agg #[.string (⟨#[112, 117, 116]⟩ : ByteArray), .bool true, .bool true, .bool false, .bool true], .agg #[.string (⟨#[115, 101, 116]⟩ : ByteArray), .bool true, .bool true, .bool true, .bool true], .agg #[.string (⟨#[109, 97, 114, 107]⟩ : ByteArray), .bool true, .bool true, .bool false, .bool true], undef, undef, undef, undef, undef, undef, undef, undef, undef, undef, undef, undef, undef, undef, undef, undef, undef, undef], defers := [] }) (by kernel_rfl) ?_; refine wpList_buildTo rfl 69 _ rfl (some 11) rfl #[.string (⟨#[117, 110, 109, 97, 114, 107]⟩ : ByteArray), .bool true, .bool true, .bool false, .bool true] (by kernel_rfl) ?_; refine wpList_frame (a' := { tmps := #[.int .i64 a0, undef, .pointer (some ⟨w.heap.size, 0, none⟩), .bool false, undef, .agg #[.string (⟨#[115, 112, 97, 99, 101]⟩ : ByteArray), .bool true, .bool true, .bool true, .bool false], .agg #[.string (⟨#[108, 105, 109, 105, 116]⟩ : ByteArray), .bool true, .bool false, .bool true, .bool false], .agg #[.string (⟨#[99, 108, 111, 115, 101]⟩ : ByteArray), .bool true, .bool false, .bool false, .bool false], .agg #[.string (⟨#[112, 117, 116]⟩ : ByteArray), .bool true, .bool true, .bool false, .bool true], .agg #[.string (⟨#[115, 101, 116]⟩ : ByteArray), .bool true, .bool true, .bool true, .bool true], .agg #[.string (⟨#[109, 97, 114, 107]⟩ : ByteArray), .bool true, .bool true, .bool false, .bool true], .agg #[.string (⟨#[117, 110, 109, 97, 114, 107]⟩ : ByteArray), .bool true, .bool true, .bool false, .bool true], undef, undef, undef, undef, undef, undef, undef, undef, undef, undef, undef, undef, undef, undef, undef, undef, undef], defers := [] }) (by kernel_rfl) ?_; refine wpList_buildTo rfl 69 _ rfl (some 12) rfl #[.string (⟨#[100, 114, 111, 112]⟩ : ByteArray), .bool true, .bool true, .bool false, .bool false] (by kernel_rfl) ?_; refine wpList_frame (a' := { tmps := #[.int .i64 a0, undef, .pointer (some ⟨w.heap.size, 0, none⟩), .bool false, undef, .agg #[.string (⟨#[115, 112, 97, 99, 101]⟩ : ByteArray), .bool true, .bool true, .bool true, .bool false], .agg #[.string (⟨#[108, 105, 109, 105, 116]⟩ : ByteArray), .bool true, .bool false, .bool true, .bool false], .agg #[.string (⟨#[99, 108, 111, 115, 101]⟩ : ByteArray), .bool true, .bool false, .bool false, .bool false], .agg #[.string (⟨#[112, 117, 116]⟩ : ByteArray), .bool true, .bool true, .bool false, .bool true], .agg #[.string (⟨#[115, 101, 116]⟩ : ByteArray), .bool true, .bool true, .bool true, .bool true], .agg #[.string (⟨#[109, 97, 114, 107]⟩ : ByteArray), .bool true, .bool true, .bool false, .bool true], .agg #[.string (⟨#[117, 110, 109, 97, 114, 107]⟩ : ByteArray), .bool true, .bool true, .bool false, .bool true], .agg #[.string (⟨#[100, 114, 111, 112]⟩ : ByteArray), .bool true, .bool true, .bool false, .bool false], undef, undef, undef, undef, undef, undef, undef, undef, undef, undef, undef, undef, undef, undef, undef, undef], defers := [] }) (by kernel_rfl) ?_; refine wpList_buildTo rfl 69 _ rfl (some 13) rfl #[.string (⟨#[103, 101, 116]⟩ : ByteArray), .bool true, .bool true, .bool false, .bool false] (by kernel_rfl) ?_; refine wpList_frame (a' := { tmps := #[.int .i64 a0, undef, .pointer (some ⟨w.heap.size, 0, none⟩), .bool false, undef, .agg #[.string (⟨#[115, 112, 97, 99, 101]⟩ : ByteArray), .bool true, .bool true, .bool true, .bool false], .agg #[.string (⟨#[108, 105, 109, 105, 116]⟩ : ByteArray), .bool true, .bool false, .bool true, .bool false], .agg #[.string (⟨#[99, 108, 111, 115, 101]⟩ : ByteArray), .bool true, .bool false, .bool false, .bool false], .agg #[.string (⟨#[112, 117, 116]⟩ : ByteArray), .bool true, .bool true, .bool false, .bool true], .agg #[.string (⟨#[115, 101, 116]⟩ : ByteArray), .bool true, .bool true, .bool true, .bool true], .agg #[.string (⟨#[109, 97, 114, 107]⟩ : ByteArray), .bool true, .bool true, .bool false, .bool true], .agg #[.string (⟨#[117, 110, 109, 97, 114, 107]⟩ : ByteArray), .bool true, .bool true, .bool false, .bool true], .agg #[.string (⟨#[100, 114, 111, 112]⟩ : ByteArray), .bool true, .bool true, .bool false, .bool false], .agg #[.string (⟨#[103, 101, 116]⟩ : ByteArray), .bool true, .bool true, .bool false, .bool false], undef, undef, undef, undef, undef, undef, undef, undef, undef, undef, undef, undef, undef, undef, undef], defers := [] }) (by kernel_rfl) ?_; refine wpList_buildTo rfl 69 _ rfl (some 14) rfl #[.string (⟨#[108, 105, 115, 116]⟩ : ByteArray), .bool true, .bool false, .bool false, .bool false] (by kernel_rfl) ?_; refine wpList_frame (a' := { tmps := #[.int .i64 a0, undef, .pointer (some ⟨w.heap.size, 0, none⟩), .bool false, undef, .agg #[.string (⟨#[115, 112, 97, 99, 101]⟩ : ByteArray), .bool true, .bool true, .bool true, .bool false], .agg #[.string (⟨#[108, 105, 109, 105, 116]⟩ : ByteArray), .bool true, .bool false, .bool true, .bool false], .agg #[.string (⟨#[99, 108, 111, 115, 101]⟩ : ByteArray), .bool true, .bool false, .bool false, .bool false], .agg #[.string (⟨#[112, 117, 116]⟩ : ByteArray), .bool true, .bool true, .bool false, .bool true], .agg #[.string (⟨#[115, 101, 116]⟩ : ByteArray), .bool true, .bool true, .bool true, .bool true], .agg #[.string (⟨#[109, 97, 114, 107]⟩ : ByteArray), .bool true, .bool true, .bool false, .bool true], .agg #[.string (⟨#[117, 110, 109, 97, 114, 107]⟩ : ByteArray), .bool true, .bool true, .bool false, .bool true], .agg #[.string (⟨#[100, 114, 111, 112]⟩ : ByteArray), .bool true, .bool true, .bool false, .bool false], .agg #[.string (⟨#[103, 101, 116]⟩ : ByteArray), .bool true, .bool true, .bool false, .bool false], .agg #[.string (⟨#[108, 105, 115, 116]⟩ : ByteArray), .bool true, .bool false, .bool false, .bool false], undef, undef, undef, undef, undef, undef, undef, undef, undef, undef, undef, undef, undef, undef], defers := [] }) (by kernel_rfl) ?_; refine wpList_buildTo rfl 69 _ rfl (some 15) rfl #[.string (⟨#[119, 97, 116, 99, 104]⟩ : ByteArray), .bool true, .bool false, .bool true, .bool false] (by kernel_rfl) ?_; refine wpList_frame (a' := { tmps := #[.int .i64 a0, undef, .pointer (some ⟨w.heap.size, 0, none⟩), .bool false, undef, .agg #[.string (⟨#[115, 112, 97, 99, 101]⟩ : ByteArray), .bool true, .bool true, .bool true, .bool false], .agg #[.string (⟨#[108, 105, 109, 105, 116]⟩ : ByteArray), .bool true, .bool false, .bool true, .bool false], .agg #[.string (⟨#[99, 108, 111, 115, 101]⟩ : ByteArray), .bool true, .bool false, .bool false, .bool false], .agg #[.string (⟨#[112, 117, 116]⟩ : ByteArray), .bool true, .bool true, .bool false, .bool true], .agg #[.string (⟨#[115, 101, 116]⟩ : ByteArray), .bool true, .bool true, .bool true, .bool true], .agg #[.string (⟨#[109, 97, 114, 107]⟩ : ByteArray), .bool true, .bool true, .bool false, .bool true], .agg #[.string (⟨#[117, 110, 109, 97, 114, 107]⟩ : ByteArray), .bool true, .bool true, .bool false, .bool true], .agg #[.string (⟨#[100, 114, 111, 112]⟩ : ByteArray), .bool true, .bool true, .bool false, .bool false], .agg #[.string (⟨#[103, 101, 116]⟩ : ByteArray), .bool true, .bool true, .bool false, .bool false], .agg #[.string (⟨#[108, 105, 115, 116]⟩ : ByteArray), .bool true, .bool false, .bool false, .bool false], .agg #[.string (⟨#[119, 97, 116, 99, 104]⟩ : ByteArray), .bool true, .bool false, .bool true, .bool false], undef, undef, undef, undef, undef, undef, undef, undef, undef, undef, undef, undef, undef], defers := [] }) (by kernel_rfl) ?_; refine wpList_buildTo rfl 69 _ rfl (some 16) rfl #[.string (⟨#[115, 116, 101, 112]⟩ : ByteArray), .bool false, .bool false, .bool false, .bool false] (by kernel_rfl) ?_; refine wpList_frame (a' := { tmps := #[.int .i64 a0, undef, .pointer (some ⟨w.heap.size, 0, none⟩), .bool false, undef, .agg #[.string (⟨#[115, 112, 97, 99, 101]⟩ : ByteArray), .bool true, .bool true, .bool true, .bool false], .agg #[.string (⟨#[108, 105, 109, 105, 116]⟩ : ByteArray), .bool true, .bool false, .bool true, .bool false], .agg #[.string (⟨#[99, 108, 111, 115, 101]⟩ : ByteArray), .bool true, .bool false, .bool false, .bool false], .agg #[.string (⟨#[112, 117, 116]⟩ : ByteArray), .bool true, .bool true, .bool false, .bool true], .agg #[.string (⟨#[115, 101, 116]⟩ : ByteArray), .bool true, .bool true, .bool true, .bool true], .agg #[.string (⟨#[109, 97, 114, 107]⟩ : ByteArray), .bool true, .bool true, .bool false, .bool true], .agg #[.string (⟨#[117, 110, 109, 97, 114, 107]⟩ : ByteArray), .bool true, .bool true, .bool false, .bool true], .agg #[.string (⟨#[100, 114, 111, 112]⟩ : ByteArray), .bool true, .bool true, .bool false, .bool false], .agg #[.string (⟨#[103, 101, 116]⟩ : ByteArray), .bool true, .bool true, .bool false, .bool false], .agg #[.string (⟨#[108, 105, 115, 116]⟩ : ByteArray), .bool true, .bool false, .bool false, .bool false], .agg #[.string (⟨#[119, 97, 116, 99, 104]⟩ : ByteArray), .bool true, .bool false, .bool true, .bool false], .agg #[.string (⟨#[115, 116, 101, 112]⟩ : ByteArray), .bool false, .bool false, .bool false, .bool false], undef, undef, undef, undef, undef, undef, undef, undef, undef, undef, undef, undef], defers := [] }) (by kernel_rfl) ?_; refine wpList_buildTo rfl 86 _ rfl (some 17) rfl impl_formOf.FC (by kernel_rfl) ?_; refine wpList_frame (a' := { tmps := #[.int .i64 a0, undef, .pointer (some ⟨w.heap.size, 0, none⟩), .bool false, undef, .agg #[.string (⟨#[115, 112, 97, 99, 101]⟩ : ByteArray), .bool true, .bool true, .bool true, .bool false], .agg #[.string (⟨#[108, 105, 109, 105, 116]⟩ : ByteArray), .bool true, .bool false, .bool true, .bool false], .agg #[.string (⟨#[99, 108, 111, 115, 101]⟩ : ByteArray), .bool true, .bool false, .bool false, .bool false], .agg #[.string (⟨#[112, 117, 116]⟩ : ByteArray), .bool true, .bool true, .bool false, .bool true], .agg #[.string (⟨#[115, 101, 116]⟩ : ByteArray), .bool true, .bool true, .bool true, .bool true], .agg #[.string (⟨#[109, 97, 114, 107]⟩ : ByteArray), .bool true, .bool true, .bool false, .bool true], .agg #[.string (⟨#[117, 110, 109, 97, 114, 107]⟩ : ByteArray), .bool true, .bool true, .bool false, .bool true], .agg #[.string (⟨#[100, 114, 111, 112]⟩ : ByteArray), .bool true, .bool true, .bool false, .bool false], .agg #[.string (⟨#[103, 101, 116]⟩ : ByteArray), .bool true, .bool true, .bool false, .bool false], .agg #[.string (⟨#[108, 105, 115, 116]⟩ : ByteArray), .bool true, .bool false, .bool false, .bool false], .agg #[.string (⟨#[119, 97, 116, 99, 104]⟩ : ByteArray), .bool true, .bool false, .bool true, .bool false], .agg #[.string (⟨#[115, 116, 101, 112]⟩ : ByteArray), .bool false, .bool false, .bool false, .bool false], .agg impl_formOf.FC, undef, undef, undef, undef, undef, undef, undef, undef, undef, undef, undef], defers := [] }) (by kernel_rfl) ?_; refine form_alloc rfl 86 rfl (some 4) rfl (.agg impl_formOf.ZC) (by kernel_rfl) impl_formOf.ZC rfl w1.heap.size rfl ?_; refine wpList_frame (a' := { tmps := #[.int .i64 a0, undef, .pointer (some ⟨w.heap.size, 0, none⟩), .bool false, .pointer (some ⟨w1.heap.size, 0, none⟩), .agg #[.string (⟨#[115, 112, 97, 99, 101]⟩ : ByteArray), .bool true, .bool true, .bool true, .bool false], .agg #[.string (⟨#[108, 105, 109, 105, 116]⟩ : ByteArray), .bool true, .bool false, .bool true, .bool false], .agg #[.string (⟨#[99, 108, 111, 115, 101]⟩ : ByteArray), .bool true, .bool false, .bool false, .bool false], .agg #[.string (⟨#[112, 117, 116]⟩ : ByteArray), .bool true, .bool true, .bool false, .bool true], .agg #[.string (⟨#[115, 101, 116]⟩ : ByteArray), .bool true, .bool true, .bool true, .bool true], .agg #[.string (⟨#[109, 97, 114, 107]⟩ : ByteArray), .bool true, .bool true, .bool false, .bool true], .agg #[.string (⟨#[117, 110, 109, 97, 114, 107]⟩ : ByteArray), .bool true, .bool true, .bool false, .bool true], .agg #[.string (⟨#[100, 114, 111, 112]⟩ : ByteArray), .bool true, .bool true, .bool false, .bool false], .agg #[.string (⟨#[103, 101, 116]⟩ : ByteArray), .bool true, .bool true, .bool false, .bool false], .agg #[.string (⟨#[108, 105, 115, 116]⟩ : ByteArray), .bool true, .bool false, .bool false, .bool false], .agg #[.string (⟨#[119, 97, 116, 99, 104]⟩ : ByteArray), .bool true, .bool false, .bool true, .bool false], .agg #[.string (⟨#[115, 116, 101, 112]⟩ : ByteArray), .bool false, .bool false, .bool false, .bool false], .agg impl_formOf.FC, undef, undef, undef, undef, undef, undef, undef, undef, undef, undef, undef], defers := [] }) (by kernel_rfl) ?_; refine wpList_store_rowTo rfl 86 _ _ rfl rfl w1.heap.size impl_formOf.FC (by kernel_rfl) (by kernel_rfl) 86 impl_formOf.ZC (blk_new _ _) (by kernel_rfl) (by kernel_rfl) (by kernel_rfl) ?_; obtain ⟨w2, hw2⟩ : ∃ x, x = (w1.alloc (.cells impl_formOf.ZC 86 (0, 0))).setRow w1.heap.size impl_formOf.FC := ⟨_, rfl⟩; rw [← hw2]
  have hB : Below w.heap.size w w2 := by
    have h0 : Below w.heap.size w (w1.alloc (.cells impl_formOf.ZC 86 (0, 0))) := below_alloc hB1 _; rw [hw2]; refine ⟨h0.os, h0.tape, h0.output, ?_, fun i hi => ?_⟩
    · rw [setRow_size]; exact h0.size
    · rw [setRow_other _ _ _ _ (by omega)]; exact h0.block i hi
  have hS : impl_formOf.St w.heap.size w1.heap.size w2 := by
    refine ⟨by omega, ?_, ?_⟩
    · rw [hw2, setRow_other _ _ _ _ (by omega)]; exact blk_alloc hg1 _
    · rw [hw2]; exact setRow_heap _ _ _ _ _ _ (blk_new _ _)
  clear hw2 hB1 hg1; apply wpList_nil; refine hK1 _ _ ?_; clear hK1 K1
  generalize w1.heap.size = g1 at hS hs1 ⊢
  have hH_ := Aside0.mk hS; clear hs1 hS
  exact H w2 g1 hH_ ⟨hB⟩
set_option maxHeartbeats 8000000 in
set_option maxRecDepth 100000 in
theorem impl_formOf.lo (a0 : Int) (hlo : a0 < 1) (w : World) :
    Calls Tryd.prog 67 #[.int .i64 a0] w fun e w' => e = .returned (.tuple #[.agg #[.string (⟨#[]⟩ : ByteArray), .bool false, .bool false, .bool false, .bool false], .bool false]) ∧ Below w.heap.size w w' := by
  refine impl_formOf.table a0 (fun w e w' => e = .returned (.tuple #[.agg #[.string (⟨#[]⟩ : ByteArray), .bool false, .bool false, .bool false, .bool false], .bool false]) ∧ Below w.heap.size w w') w ?_; intro w2 g1 hS hB; have t0 : decide (a0 < 1) = true := decide_eq_true hlo; clear hlo; have hb0 : w2.cell? ⟨w.heap.size, 0, none⟩ = some (.string (⟨#[]⟩ : ByteArray)) := (blk_cell hS.out.box 0).trans rfl; have hf0 : w2.frozen? ⟨w.heap.size, 0, none⟩ = false := blk_frozen hS.out.box 0; have hb1 : w2.cell? ⟨w.heap.size, 1, none⟩ = some (.bool false) := (blk_cell hS.out.box 1).trans rfl; have hf1 : w2.frozen? ⟨w.heap.size, 1, none⟩ = false := blk_frozen hS.out.box 1; have hb2 : w2.cell? ⟨w.heap.size, 2, none⟩ = some (.bool false) := (blk_cell hS.out.box 2).trans rfl; have hf2 : w2.frozen? ⟨w.heap.size, 2, none⟩ = false := blk_frozen hS.out.box 2; have hb3 : w2.cell? ⟨w.heap.size, 3, none⟩ = some (.bool false) := (blk_cell hS.out.box 3).trans rfl; have hf3 : w2.frozen? ⟨w.heap.size, 3, none⟩ = false := blk_frozen hS.out.box 3; have hb4 : w2.cell? ⟨w.heap.size, 4, none⟩ = some (.bool false) := (blk_cell hS.out.box 4).trans rfl; have hf4 : w2.frozen? ⟨w.heap.size, 4, none⟩ = false := blk_frozen hS.out.box 4; have hne := hS.out.ne; simp only [impl_formOf.rest, Tryd.f67]
  go_wp2
  refine bodyPost_ret (results_ct rfl _ _ w.heap.size 69 #[.string (⟨#[]⟩ : ByteArray), .bool false, .bool false, .bool false, .bool false] (0, 0) _ rfl ?hg Tryd.underlying69 rfl (by kernel_rfl)) rfl ?_
  case hg => refine blk_put (cs := #[.string (⟨#[]⟩ : ByteArray), .bool false, .bool false, .bool false, .bool false]) ?_ 4 _ rfl; refine blk_put (cs := #[.string (⟨#[]⟩ : ByteArray), .bool false, .bool false, .bool false, .bool false]) ?_ 3 _ rfl; refine blk_put (cs := #[.string (⟨#[]⟩ : ByteArray), .bool false, .bool false, .bool false, .bool false]) ?_ 2 _ rfl; refine blk_put (cs := #[.string (⟨#[]⟩ : ByteArray), .bool false, .bool false, .bool false, .bool false]) ?_ 1 _ rfl; refine blk_put (cs := #[.string (⟨#[]⟩ : ByteArray), .bool false, .bool false, .bool false, .bool false]) ?_ 0 _ rfl; exact hS.out.box
  exact ⟨rfl, by repeat (first | exact hB.out | refine below_set ?_ (Nat.le_refl _))⟩
set_option maxHeartbeats 8000000 in
set_option maxRecDepth 100000 in
theorem impl_formOf.hi (a0 : Int) (hhi : a0 > 12) (w : World) :
    Calls Tryd.prog 67 #[.int .i64 a0] w fun e w' => e = .returned (.tuple #[.agg #[.string (⟨#[]⟩ : ByteArray), .bool false, .bool false, .bool false, .bool false], .bool false]) ∧ Below w.heap.size w w' := by
  refine impl_formOf.table a0 (fun w e w' => e = .returned (.tuple #[.agg #[.string (⟨#[]⟩ : ByteArray), .bool false, .bool false, .bool false, .bool false], .bool false]) ∧ Below w.heap.size w w') w ?_; intro w2 g1 hS hB; have t0 : decide (a0 < 1) = false := decide_eq_false (by omega); have t1 : decide (12 < a0) = true := decide_eq_true hhi; clear hhi; have hb0 : w2.cell? ⟨w.heap.size, 0, none⟩ = some (.string (⟨#[]⟩ : ByteArray)) := (blk_cell hS.out.box 0).trans rfl; have hf0 : w2.frozen? ⟨w.heap.size, 0, none⟩ = false := blk_frozen hS.out.box 0; have hb1 : w2.cell? ⟨w.heap.size, 1, none⟩ = some (.bool false) := (blk_cell hS.out.box 1).trans rfl; have hf1 : w2.frozen? ⟨w.heap.size, 1, none⟩ = false := blk_frozen hS.out.box 1; have hb2 : w2.cell? ⟨w.heap.size, 2, none⟩ = some (.bool false) := (blk_cell hS.out.box 2).trans rfl; have hf2 : w2.frozen? ⟨w.heap.size, 2, none⟩ = false := blk_frozen hS.out.box 2; have hb3 : w2.cell? ⟨w.heap.size, 3, none⟩ = some (.bool false) := (blk_cell hS.out.box 3).trans rfl; have hf3 : w2.frozen? ⟨w.heap.size, 3, none⟩ = false := blk_frozen hS.out.box 3; have hb4 : w2.cell? ⟨w.heap.size, 4, none⟩ = some (.bool false) := (blk_cell hS.out.box 4).trans rfl; have hf4 : w2.frozen? ⟨w.heap.size, 4, none⟩ = false := blk_frozen hS.out.box 4; have hne := hS.out.ne; simp only [impl_formOf.rest, Tryd.f67]
  go_wp2
  refine bodyPost_ret (results_ct rfl _ _ w.heap.size 69 #[.string (⟨#[]⟩ : ByteArray), .bool false, .bool false, .bool false, .bool false] (0, 0) _ rfl ?hg Tryd.underlying69 rfl (by kernel_rfl)) rfl ?_
  case hg => refine blk_put (cs := #[.string (⟨#[]⟩ : ByteArray), .bool false, .bool false, .bool false, .bool false]) ?_ 4 _ rfl; refine blk_put (cs := #[.string (⟨#[]⟩ : ByteArray), .bool false, .bool false, .bool false, .bool false]) ?_ 3 _ rfl; refine blk_put (cs := #[.string (⟨#[]⟩ : ByteArray), .bool false, .bool false, .bool false, .bool false]) ?_ 2 _ rfl; refine blk_put (cs := #[.string (⟨#[]⟩ : ByteArray), .bool false, .bool false, .bool false, .bool false]) ?_ 1 _ rfl; refine blk_put (cs := #[.string (⟨#[]⟩ : ByteArray), .bool false, .bool false, .bool false, .bool false]) ?_ 0 _ rfl; exact hS.out.box
  exact ⟨rfl, by repeat (first | exact hB.out | refine below_set ?_ (Nat.le_refl _))⟩
set_option maxHeartbeats 8000000 in
set_option maxRecDepth 100000 in
theorem impl_formOf.at1 (w : World) :
    Calls Tryd.prog 67 #[.int .i64 1] w fun e w' => e = .returned (.tuple #[.agg #[.string (⟨#[115, 112, 97, 99, 101]⟩ : ByteArray), .bool true, .bool true, .bool true, .bool false], .bool true]) ∧ Below w.heap.size w w' := by
  refine impl_formOf.table 1 (fun w e w' => e = .returned (.tuple #[.agg #[.string (⟨#[115, 112, 97, 99, 101]⟩ : ByteArray), .bool true, .bool true, .bool true, .bool false], .bool true]) ∧ Below w.heap.size w w') w ?_; intro w2 g1 hS hB; have hb0 : w2.cell? ⟨w.heap.size, 0, none⟩ = some (.string (⟨#[]⟩ : ByteArray)) := (blk_cell hS.out.box 0).trans rfl; have hf0 : w2.frozen? ⟨w.heap.size, 0, none⟩ = false := blk_frozen hS.out.box 0; have hb1 : w2.cell? ⟨w.heap.size, 1, none⟩ = some (.bool false) := (blk_cell hS.out.box 1).trans rfl; have hf1 : w2.frozen? ⟨w.heap.size, 1, none⟩ = false := blk_frozen hS.out.box 1; have hb2 : w2.cell? ⟨w.heap.size, 2, none⟩ = some (.bool false) := (blk_cell hS.out.box 2).trans rfl; have hf2 : w2.frozen? ⟨w.heap.size, 2, none⟩ = false := blk_frozen hS.out.box 2; have hb3 : w2.cell? ⟨w.heap.size, 3, none⟩ = some (.bool false) := (blk_cell hS.out.box 3).trans rfl; have hf3 : w2.frozen? ⟨w.heap.size, 3, none⟩ = false := blk_frozen hS.out.box 3; have hb4 : w2.cell? ⟨w.heap.size, 4, none⟩ = some (.bool false) := (blk_cell hS.out.box 4).trans rfl; have hf4 : w2.frozen? ⟨w.heap.size, 4, none⟩ = false := blk_frozen hS.out.box 4; have hx0 : w2.cell? ⟨g1, 0, none⟩ = some (.string (⟨#[115, 112, 97, 99, 101]⟩ : ByteArray)) := hS.out.cell 0 _ (by kernel_rfl); have hx1 : w2.cell? ⟨g1, 1, none⟩ = some (.bool true) := hS.out.cell 1 _ (by kernel_rfl); have hx2 : w2.cell? ⟨g1, 2, none⟩ = some (.bool true) := hS.out.cell 2 _ (by kernel_rfl); have hx3 : w2.cell? ⟨g1, 3, none⟩ = some (.bool true) := hS.out.cell 3 _ (by kernel_rfl); have hx4 : w2.cell? ⟨g1, 4, none⟩ = some (.bool false) := hS.out.cell 4 _ (by kernel_rfl); have hne := hS.out.ne; simp only [impl_formOf.rest, Tryd.f67]
  go_wp2
  refine bodyPost_ret (results_ct rfl _ _ w.heap.size 69 #[.string (⟨#[115, 112, 97, 99, 101]⟩ : ByteArray), .bool true, .bool true, .bool true, .bool false] (0, 0) _ rfl ?hg Tryd.underlying69 rfl (by kernel_rfl)) rfl ?_
  case hg => refine blk_put (cs := #[.string (⟨#[115, 112, 97, 99, 101]⟩ : ByteArray), .bool true, .bool true, .bool true, .bool false]) ?_ 4 _ rfl; refine blk_put (cs := #[.string (⟨#[115, 112, 97, 99, 101]⟩ : ByteArray), .bool true, .bool true, .bool false, .bool false]) ?_ 3 _ rfl; refine blk_put (cs := #[.string (⟨#[115, 112, 97, 99, 101]⟩ : ByteArray), .bool true, .bool false, .bool false, .bool false]) ?_ 2 _ rfl; refine blk_put (cs := #[.string (⟨#[115, 112, 97, 99, 101]⟩ : ByteArray), .bool false, .bool false, .bool false, .bool false]) ?_ 1 _ rfl; refine blk_put (cs := #[.string (⟨#[]⟩ : ByteArray), .bool false, .bool false, .bool false, .bool false]) ?_ 0 _ rfl; exact hS.out.box
  exact ⟨rfl, by repeat (first | exact hB.out | refine below_set ?_ (Nat.le_refl _))⟩
set_option maxHeartbeats 8000000 in
set_option maxRecDepth 100000 in
theorem impl_formOf.at2 (w : World) :
    Calls Tryd.prog 67 #[.int .i64 2] w fun e w' => e = .returned (.tuple #[.agg #[.string (⟨#[108, 105, 109, 105, 116]⟩ : ByteArray), .bool true, .bool false, .bool true, .bool false], .bool true]) ∧ Below w.heap.size w w' := by
  refine impl_formOf.table 2 (fun w e w' => e = .returned (.tuple #[.agg #[.string (⟨#[108, 105, 109, 105, 116]⟩ : ByteArray), .bool true, .bool false, .bool true, .bool false], .bool true]) ∧ Below w.heap.size w w') w ?_; intro w2 g1 hS hB; have hb0 : w2.cell? ⟨w.heap.size, 0, none⟩ = some (.string (⟨#[]⟩ : ByteArray)) := (blk_cell hS.out.box 0).trans rfl; have hf0 : w2.frozen? ⟨w.heap.size, 0, none⟩ = false := blk_frozen hS.out.box 0; have hb1 : w2.cell? ⟨w.heap.size, 1, none⟩ = some (.bool false) := (blk_cell hS.out.box 1).trans rfl; have hf1 : w2.frozen? ⟨w.heap.size, 1, none⟩ = false := blk_frozen hS.out.box 1; have hb2 : w2.cell? ⟨w.heap.size, 2, none⟩ = some (.bool false) := (blk_cell hS.out.box 2).trans rfl; have hf2 : w2.frozen? ⟨w.heap.size, 2, none⟩ = false := blk_frozen hS.out.box 2; have hb3 : w2.cell? ⟨w.heap.size, 3, none⟩ = some (.bool false) := (blk_cell hS.out.box 3).trans rfl; have hf3 : w2.frozen? ⟨w.heap.size, 3, none⟩ = false := blk_frozen hS.out.box 3; have hb4 : w2.cell? ⟨w.heap.size, 4, none⟩ = some (.bool false) := (blk_cell hS.out.box 4).trans rfl; have hf4 : w2.frozen? ⟨w.heap.size, 4, none⟩ = false := blk_frozen hS.out.box 4; have hx0 : w2.cell? ⟨g1, 5, none⟩ = some (.string (⟨#[108, 105, 109, 105, 116]⟩ : ByteArray)) := hS.out.cell 5 _ (by kernel_rfl); have hx1 : w2.cell? ⟨g1, 6, none⟩ = some (.bool true) := hS.out.cell 6 _ (by kernel_rfl); have hx2 : w2.cell? ⟨g1, 7, none⟩ = some (.bool false) := hS.out.cell 7 _ (by kernel_rfl); have hx3 : w2.cell? ⟨g1, 8, none⟩ = some (.bool true) := hS.out.cell 8 _ (by kernel_rfl); have hx4 : w2.cell? ⟨g1, 9, none⟩ = some (.bool false) := hS.out.cell 9 _ (by kernel_rfl); have hne := hS.out.ne; simp only [impl_formOf.rest, Tryd.f67]
  go_wp2
  refine bodyPost_ret (results_ct rfl _ _ w.heap.size 69 #[.string (⟨#[108, 105, 109, 105, 116]⟩ : ByteArray), .bool true, .bool false, .bool true, .bool false] (0, 0) _ rfl ?hg Tryd.underlying69 rfl (by kernel_rfl)) rfl ?_
  case hg => refine blk_put (cs := #[.string (⟨#[108, 105, 109, 105, 116]⟩ : ByteArray), .bool true, .bool false, .bool true, .bool false]) ?_ 4 _ rfl; refine blk_put (cs := #[.string (⟨#[108, 105, 109, 105, 116]⟩ : ByteArray), .bool true, .bool false, .bool false, .bool false]) ?_ 3 _ rfl; refine blk_put (cs := #[.string (⟨#[108, 105, 109, 105, 116]⟩ : ByteArray), .bool true, .bool false, .bool false, .bool false]) ?_ 2 _ rfl; refine blk_put (cs := #[.string (⟨#[108, 105, 109, 105, 116]⟩ : ByteArray), .bool false, .bool false, .bool false, .bool false]) ?_ 1 _ rfl; refine blk_put (cs := #[.string (⟨#[]⟩ : ByteArray), .bool false, .bool false, .bool false, .bool false]) ?_ 0 _ rfl; exact hS.out.box
  exact ⟨rfl, by repeat (first | exact hB.out | refine below_set ?_ (Nat.le_refl _))⟩
set_option maxHeartbeats 8000000 in
set_option maxRecDepth 100000 in
theorem impl_formOf.at3 (w : World) :
    Calls Tryd.prog 67 #[.int .i64 3] w fun e w' => e = .returned (.tuple #[.agg #[.string (⟨#[99, 108, 111, 115, 101]⟩ : ByteArray), .bool true, .bool false, .bool false, .bool false], .bool true]) ∧ Below w.heap.size w w' := by
  refine impl_formOf.table 3 (fun w e w' => e = .returned (.tuple #[.agg #[.string (⟨#[99, 108, 111, 115, 101]⟩ : ByteArray), .bool true, .bool false, .bool false, .bool false], .bool true]) ∧ Below w.heap.size w w') w ?_; intro w2 g1 hS hB; have hb0 : w2.cell? ⟨w.heap.size, 0, none⟩ = some (.string (⟨#[]⟩ : ByteArray)) := (blk_cell hS.out.box 0).trans rfl; have hf0 : w2.frozen? ⟨w.heap.size, 0, none⟩ = false := blk_frozen hS.out.box 0; have hb1 : w2.cell? ⟨w.heap.size, 1, none⟩ = some (.bool false) := (blk_cell hS.out.box 1).trans rfl; have hf1 : w2.frozen? ⟨w.heap.size, 1, none⟩ = false := blk_frozen hS.out.box 1; have hb2 : w2.cell? ⟨w.heap.size, 2, none⟩ = some (.bool false) := (blk_cell hS.out.box 2).trans rfl; have hf2 : w2.frozen? ⟨w.heap.size, 2, none⟩ = false := blk_frozen hS.out.box 2; have hb3 : w2.cell? ⟨w.heap.size, 3, none⟩ = some (.bool false) := (blk_cell hS.out.box 3).trans rfl; have hf3 : w2.frozen? ⟨w.heap.size, 3, none⟩ = false := blk_frozen hS.out.box 3; have hb4 : w2.cell? ⟨w.heap.size, 4, none⟩ = some (.bool false) := (blk_cell hS.out.box 4).trans rfl; have hf4 : w2.frozen? ⟨w.heap.size, 4, none⟩ = false := blk_frozen hS.out.box 4; have hx0 : w2.cell? ⟨g1, 10, none⟩ = some (.string (⟨#[99, 108, 111, 115, 101]⟩ : ByteArray)) := hS.out.cell 10 _ (by kernel_rfl); have hx1 : w2.cell? ⟨g1, 11, none⟩ = some (.bool true) := hS.out.cell 11 _ (by kernel_rfl); have hx2 : w2.cell? ⟨g1, 12, none⟩ = some (.bool false) := hS.out.cell 12 _ (by kernel_rfl); have hx3 : w2.cell? ⟨g1, 13, none⟩ = some (.bool false) := hS.out.cell 13 _ (by kernel_rfl); have hx4 : w2.cell? ⟨g1, 14, none⟩ = some (.bool false) := hS.out.cell 14 _ (by kernel_rfl); have hne := hS.out.ne; simp only [impl_formOf.rest, Tryd.f67]
  go_wp2
  refine bodyPost_ret (results_ct rfl _ _ w.heap.size 69 #[.string (⟨#[99, 108, 111, 115, 101]⟩ : ByteArray), .bool true, .bool false, .bool false, .bool false] (0, 0) _ rfl ?hg Tryd.underlying69 rfl (by kernel_rfl)) rfl ?_
  case hg => refine blk_put (cs := #[.string (⟨#[99, 108, 111, 115, 101]⟩ : ByteArray), .bool true, .bool false, .bool false, .bool false]) ?_ 4 _ rfl; refine blk_put (cs := #[.string (⟨#[99, 108, 111, 115, 101]⟩ : ByteArray), .bool true, .bool false, .bool false, .bool false]) ?_ 3 _ rfl; refine blk_put (cs := #[.string (⟨#[99, 108, 111, 115, 101]⟩ : ByteArray), .bool true, .bool false, .bool false, .bool false]) ?_ 2 _ rfl; refine blk_put (cs := #[.string (⟨#[99, 108, 111, 115, 101]⟩ : ByteArray), .bool false, .bool false, .bool false, .bool false]) ?_ 1 _ rfl; refine blk_put (cs := #[.string (⟨#[]⟩ : ByteArray), .bool false, .bool false, .bool false, .bool false]) ?_ 0 _ rfl; exact hS.out.box
  exact ⟨rfl, by repeat (first | exact hB.out | refine below_set ?_ (Nat.le_refl _))⟩
set_option maxHeartbeats 8000000 in
set_option maxRecDepth 100000 in
theorem impl_formOf.at4 (w : World) :
    Calls Tryd.prog 67 #[.int .i64 4] w fun e w' => e = .returned (.tuple #[.agg #[.string (⟨#[112, 117, 116]⟩ : ByteArray), .bool true, .bool true, .bool false, .bool true], .bool true]) ∧ Below w.heap.size w w' := by
  refine impl_formOf.table 4 (fun w e w' => e = .returned (.tuple #[.agg #[.string (⟨#[112, 117, 116]⟩ : ByteArray), .bool true, .bool true, .bool false, .bool true], .bool true]) ∧ Below w.heap.size w w') w ?_; intro w2 g1 hS hB; have hb0 : w2.cell? ⟨w.heap.size, 0, none⟩ = some (.string (⟨#[]⟩ : ByteArray)) := (blk_cell hS.out.box 0).trans rfl; have hf0 : w2.frozen? ⟨w.heap.size, 0, none⟩ = false := blk_frozen hS.out.box 0; have hb1 : w2.cell? ⟨w.heap.size, 1, none⟩ = some (.bool false) := (blk_cell hS.out.box 1).trans rfl; have hf1 : w2.frozen? ⟨w.heap.size, 1, none⟩ = false := blk_frozen hS.out.box 1; have hb2 : w2.cell? ⟨w.heap.size, 2, none⟩ = some (.bool false) := (blk_cell hS.out.box 2).trans rfl; have hf2 : w2.frozen? ⟨w.heap.size, 2, none⟩ = false := blk_frozen hS.out.box 2; have hb3 : w2.cell? ⟨w.heap.size, 3, none⟩ = some (.bool false) := (blk_cell hS.out.box 3).trans rfl; have hf3 : w2.frozen? ⟨w.heap.size, 3, none⟩ = false := blk_frozen hS.out.box 3; have hb4 : w2.cell? ⟨w.heap.size, 4, none⟩ = some (.bool false) := (blk_cell hS.out.box 4).trans rfl; have hf4 : w2.frozen? ⟨w.heap.size, 4, none⟩ = false := blk_frozen hS.out.box 4; have hx0 : w2.cell? ⟨g1, 15, none⟩ = some (.string (⟨#[112, 117, 116]⟩ : ByteArray)) := hS.out.cell 15 _ (by kernel_rfl); have hx1 : w2.cell? ⟨g1, 16, none⟩ = some (.bool true) := hS.out.cell 16 _ (by kernel_rfl); have hx2 : w2.cell? ⟨g1, 17, none⟩ = some (.bool true) := hS.out.cell 17 _ (by kernel_rfl); have hx3 : w2.cell? ⟨g1, 18, none⟩ = some (.bool false) := hS.out.cell 18 _ (by kernel_rfl); have hx4 : w2.cell? ⟨g1, 19, none⟩ = some (.bool true) := hS.out.cell 19 _ (by kernel_rfl); have hne := hS.out.ne; simp only [impl_formOf.rest, Tryd.f67]
  go_wp2
  refine bodyPost_ret (results_ct rfl _ _ w.heap.size 69 #[.string (⟨#[112, 117, 116]⟩ : ByteArray), .bool true, .bool true, .bool false, .bool true] (0, 0) _ rfl ?hg Tryd.underlying69 rfl (by kernel_rfl)) rfl ?_
  case hg => refine blk_put (cs := #[.string (⟨#[112, 117, 116]⟩ : ByteArray), .bool true, .bool true, .bool false, .bool false]) ?_ 4 _ rfl; refine blk_put (cs := #[.string (⟨#[112, 117, 116]⟩ : ByteArray), .bool true, .bool true, .bool false, .bool false]) ?_ 3 _ rfl; refine blk_put (cs := #[.string (⟨#[112, 117, 116]⟩ : ByteArray), .bool true, .bool false, .bool false, .bool false]) ?_ 2 _ rfl; refine blk_put (cs := #[.string (⟨#[112, 117, 116]⟩ : ByteArray), .bool false, .bool false, .bool false, .bool false]) ?_ 1 _ rfl; refine blk_put (cs := #[.string (⟨#[]⟩ : ByteArray), .bool false, .bool false, .bool false, .bool false]) ?_ 0 _ rfl; exact hS.out.box
  exact ⟨rfl, by repeat (first | exact hB.out | refine below_set ?_ (Nat.le_refl _))⟩
set_option maxHeartbeats 8000000 in
set_option maxRecDepth 100000 in
theorem impl_formOf.at5 (w : World) :
    Calls Tryd.prog 67 #[.int .i64 5] w fun e w' => e = .returned (.tuple #[.agg #[.string (⟨#[115, 101, 116]⟩ : ByteArray), .bool true, .bool true, .bool true, .bool true], .bool true]) ∧ Below w.heap.size w w' := by
  refine impl_formOf.table 5 (fun w e w' => e = .returned (.tuple #[.agg #[.string (⟨#[115, 101, 116]⟩ : ByteArray), .bool true, .bool true, .bool true, .bool true], .bool true]) ∧ Below w.heap.size w w') w ?_; intro w2 g1 hS hB; have hb0 : w2.cell? ⟨w.heap.size, 0, none⟩ = some (.string (⟨#[]⟩ : ByteArray)) := (blk_cell hS.out.box 0).trans rfl; have hf0 : w2.frozen? ⟨w.heap.size, 0, none⟩ = false := blk_frozen hS.out.box 0; have hb1 : w2.cell? ⟨w.heap.size, 1, none⟩ = some (.bool false) := (blk_cell hS.out.box 1).trans rfl; have hf1 : w2.frozen? ⟨w.heap.size, 1, none⟩ = false := blk_frozen hS.out.box 1; have hb2 : w2.cell? ⟨w.heap.size, 2, none⟩ = some (.bool false) := (blk_cell hS.out.box 2).trans rfl; have hf2 : w2.frozen? ⟨w.heap.size, 2, none⟩ = false := blk_frozen hS.out.box 2; have hb3 : w2.cell? ⟨w.heap.size, 3, none⟩ = some (.bool false) := (blk_cell hS.out.box 3).trans rfl; have hf3 : w2.frozen? ⟨w.heap.size, 3, none⟩ = false := blk_frozen hS.out.box 3; have hb4 : w2.cell? ⟨w.heap.size, 4, none⟩ = some (.bool false) := (blk_cell hS.out.box 4).trans rfl; have hf4 : w2.frozen? ⟨w.heap.size, 4, none⟩ = false := blk_frozen hS.out.box 4; have hx0 : w2.cell? ⟨g1, 20, none⟩ = some (.string (⟨#[115, 101, 116]⟩ : ByteArray)) := hS.out.cell 20 _ (by kernel_rfl); have hx1 : w2.cell? ⟨g1, 21, none⟩ = some (.bool true) := hS.out.cell 21 _ (by kernel_rfl); have hx2 : w2.cell? ⟨g1, 22, none⟩ = some (.bool true) := hS.out.cell 22 _ (by kernel_rfl); have hx3 : w2.cell? ⟨g1, 23, none⟩ = some (.bool true) := hS.out.cell 23 _ (by kernel_rfl); have hx4 : w2.cell? ⟨g1, 24, none⟩ = some (.bool true) := hS.out.cell 24 _ (by kernel_rfl); have hne := hS.out.ne; simp only [impl_formOf.rest, Tryd.f67]
  go_wp2
  refine bodyPost_ret (results_ct rfl _ _ w.heap.size 69 #[.string (⟨#[115, 101, 116]⟩ : ByteArray), .bool true, .bool true, .bool true, .bool true] (0, 0) _ rfl ?hg Tryd.underlying69 rfl (by kernel_rfl)) rfl ?_
  case hg => refine blk_put (cs := #[.string (⟨#[115, 101, 116]⟩ : ByteArray), .bool true, .bool true, .bool true, .bool false]) ?_ 4 _ rfl; refine blk_put (cs := #[.string (⟨#[115, 101, 116]⟩ : ByteArray), .bool true, .bool true, .bool false, .bool false]) ?_ 3 _ rfl; refine blk_put (cs := #[.string (⟨#[115, 101, 116]⟩ : ByteArray), .bool true, .bool false, .bool false, .bool false]) ?_ 2 _ rfl; refine blk_put (cs := #[.string (⟨#[115, 101, 116]⟩ : ByteArray), .bool false, .bool false, .bool false, .bool false]) ?_ 1 _ rfl; refine blk_put (cs := #[.string (⟨#[]⟩ : ByteArray), .bool false, .bool false, .bool false, .bool false]) ?_ 0 _ rfl; exact hS.out.box
  exact ⟨rfl, by repeat (first | exact hB.out | refine below_set ?_ (Nat.le_refl _))⟩
set_option maxHeartbeats 8000000 in
set_option maxRecDepth 100000 in
theorem impl_formOf.at6 (w : World) :
    Calls Tryd.prog 67 #[.int .i64 6] w fun e w' => e = .returned (.tuple #[.agg #[.string (⟨#[109, 97, 114, 107]⟩ : ByteArray), .bool true, .bool true, .bool false, .bool true], .bool true]) ∧ Below w.heap.size w w' := by
  refine impl_formOf.table 6 (fun w e w' => e = .returned (.tuple #[.agg #[.string (⟨#[109, 97, 114, 107]⟩ : ByteArray), .bool true, .bool true, .bool false, .bool true], .bool true]) ∧ Below w.heap.size w w') w ?_; intro w2 g1 hS hB; have hb0 : w2.cell? ⟨w.heap.size, 0, none⟩ = some (.string (⟨#[]⟩ : ByteArray)) := (blk_cell hS.out.box 0).trans rfl; have hf0 : w2.frozen? ⟨w.heap.size, 0, none⟩ = false := blk_frozen hS.out.box 0; have hb1 : w2.cell? ⟨w.heap.size, 1, none⟩ = some (.bool false) := (blk_cell hS.out.box 1).trans rfl; have hf1 : w2.frozen? ⟨w.heap.size, 1, none⟩ = false := blk_frozen hS.out.box 1; have hb2 : w2.cell? ⟨w.heap.size, 2, none⟩ = some (.bool false) := (blk_cell hS.out.box 2).trans rfl; have hf2 : w2.frozen? ⟨w.heap.size, 2, none⟩ = false := blk_frozen hS.out.box 2; have hb3 : w2.cell? ⟨w.heap.size, 3, none⟩ = some (.bool false) := (blk_cell hS.out.box 3).trans rfl; have hf3 : w2.frozen? ⟨w.heap.size, 3, none⟩ = false := blk_frozen hS.out.box 3; have hb4 : w2.cell? ⟨w.heap.size, 4, none⟩ = some (.bool false) := (blk_cell hS.out.box 4).trans rfl; have hf4 : w2.frozen? ⟨w.heap.size, 4, none⟩ = false := blk_frozen hS.out.box 4; have hx0 : w2.cell? ⟨g1, 25, none⟩ = some (.string (⟨#[109, 97, 114, 107]⟩ : ByteArray)) := hS.out.cell 25 _ (by kernel_rfl); have hx1 : w2.cell? ⟨g1, 26, none⟩ = some (.bool true) := hS.out.cell 26 _ (by kernel_rfl); have hx2 : w2.cell? ⟨g1, 27, none⟩ = some (.bool true) := hS.out.cell 27 _ (by kernel_rfl); have hx3 : w2.cell? ⟨g1, 28, none⟩ = some (.bool false) := hS.out.cell 28 _ (by kernel_rfl); have hx4 : w2.cell? ⟨g1, 29, none⟩ = some (.bool true) := hS.out.cell 29 _ (by kernel_rfl); have hne := hS.out.ne; simp only [impl_formOf.rest, Tryd.f67]
  go_wp2
  refine bodyPost_ret (results_ct rfl _ _ w.heap.size 69 #[.string (⟨#[109, 97, 114, 107]⟩ : ByteArray), .bool true, .bool true, .bool false, .bool true] (0, 0) _ rfl ?hg Tryd.underlying69 rfl (by kernel_rfl)) rfl ?_
  case hg => refine blk_put (cs := #[.string (⟨#[109, 97, 114, 107]⟩ : ByteArray), .bool true, .bool true, .bool false, .bool false]) ?_ 4 _ rfl; refine blk_put (cs := #[.string (⟨#[109, 97, 114, 107]⟩ : ByteArray), .bool true, .bool true, .bool false, .bool false]) ?_ 3 _ rfl; refine blk_put (cs := #[.string (⟨#[109, 97, 114, 107]⟩ : ByteArray), .bool true, .bool false, .bool false, .bool false]) ?_ 2 _ rfl; refine blk_put (cs := #[.string (⟨#[109, 97, 114, 107]⟩ : ByteArray), .bool false, .bool false, .bool false, .bool false]) ?_ 1 _ rfl; refine blk_put (cs := #[.string (⟨#[]⟩ : ByteArray), .bool false, .bool false, .bool false, .bool false]) ?_ 0 _ rfl; exact hS.out.box
  exact ⟨rfl, by repeat (first | exact hB.out | refine below_set ?_ (Nat.le_refl _))⟩
set_option maxHeartbeats 8000000 in
set_option maxRecDepth 100000 in
theorem impl_formOf.at7 (w : World) :
    Calls Tryd.prog 67 #[.int .i64 7] w fun e w' => e = .returned (.tuple #[.agg #[.string (⟨#[117, 110, 109, 97, 114, 107]⟩ : ByteArray), .bool true, .bool true, .bool false, .bool true], .bool true]) ∧ Below w.heap.size w w' := by
  refine impl_formOf.table 7 (fun w e w' => e = .returned (.tuple #[.agg #[.string (⟨#[117, 110, 109, 97, 114, 107]⟩ : ByteArray), .bool true, .bool true, .bool false, .bool true], .bool true]) ∧ Below w.heap.size w w') w ?_; intro w2 g1 hS hB; have hb0 : w2.cell? ⟨w.heap.size, 0, none⟩ = some (.string (⟨#[]⟩ : ByteArray)) := (blk_cell hS.out.box 0).trans rfl; have hf0 : w2.frozen? ⟨w.heap.size, 0, none⟩ = false := blk_frozen hS.out.box 0; have hb1 : w2.cell? ⟨w.heap.size, 1, none⟩ = some (.bool false) := (blk_cell hS.out.box 1).trans rfl; have hf1 : w2.frozen? ⟨w.heap.size, 1, none⟩ = false := blk_frozen hS.out.box 1; have hb2 : w2.cell? ⟨w.heap.size, 2, none⟩ = some (.bool false) := (blk_cell hS.out.box 2).trans rfl; have hf2 : w2.frozen? ⟨w.heap.size, 2, none⟩ = false := blk_frozen hS.out.box 2; have hb3 : w2.cell? ⟨w.heap.size, 3, none⟩ = some (.bool false) := (blk_cell hS.out.box 3).trans rfl; have hf3 : w2.frozen? ⟨w.heap.size, 3, none⟩ = false := blk_frozen hS.out.box 3; have hb4 : w2.cell? ⟨w.heap.size, 4, none⟩ = some (.bool false) := (blk_cell hS.out.box 4).trans rfl; have hf4 : w2.frozen? ⟨w.heap.size, 4, none⟩ = false := blk_frozen hS.out.box 4; have hx0 : w2.cell? ⟨g1, 30, none⟩ = some (.string (⟨#[117, 110, 109, 97, 114, 107]⟩ : ByteArray)) := hS.out.cell 30 _ (by kernel_rfl); have hx1 : w2.cell? ⟨g1, 31, none⟩ = some (.bool true) := hS.out.cell 31 _ (by kernel_rfl); have hx2 : w2.cell? ⟨g1, 32, none⟩ = some (.bool true) := hS.out.cell 32 _ (by kernel_rfl); have hx3 : w2.cell? ⟨g1, 33, none⟩ = some (.bool false) := hS.out.cell 33 _ (by kernel_rfl); have hx4 : w2.cell? ⟨g1, 34, none⟩ = some (.bool true) := hS.out.cell 34 _ (by kernel_rfl); have hne := hS.out.ne; simp only [impl_formOf.rest, Tryd.f67]
  go_wp2
  refine bodyPost_ret (results_ct rfl _ _ w.heap.size 69 #[.string (⟨#[117, 110, 109, 97, 114, 107]⟩ : ByteArray), .bool true, .bool true, .bool false, .bool true] (0, 0) _ rfl ?hg Tryd.underlying69 rfl (by kernel_rfl)) rfl ?_
  case hg => refine blk_put (cs := #[.string (⟨#[117, 110, 109, 97, 114, 107]⟩ : ByteArray), .bool true, .bool true, .bool false, .bool false]) ?_ 4 _ rfl; refine blk_put (cs := #[.string (⟨#[117, 110, 109, 97, 114, 107]⟩ : ByteArray), .bool true, .bool true, .bool false, .bool false]) ?_ 3 _ rfl; refine blk_put (cs := #[.string (⟨#[117, 110, 109, 97, 114, 107]⟩ : ByteArray), .bool true, .bool false, .bool false, .bool false]) ?_ 2 _ rfl; refine blk_put (cs := #[.string (⟨#[117, 110, 109, 97, 114, 107]⟩ : ByteArray), .bool false, .bool false, .bool false, .bool false]) ?_ 1 _ rfl; refine blk_put (cs := #[.string (⟨#[]⟩ : ByteArray), .bool false, .bool false, .bool false, .bool false]) ?_ 0 _ rfl; exact hS.out.box
  exact ⟨rfl, by repeat (first | exact hB.out | refine below_set ?_ (Nat.le_refl _))⟩
set_option maxHeartbeats 8000000 in
set_option maxRecDepth 100000 in
theorem impl_formOf.at8 (w : World) :
    Calls Tryd.prog 67 #[.int .i64 8] w fun e w' => e = .returned (.tuple #[.agg #[.string (⟨#[100, 114, 111, 112]⟩ : ByteArray), .bool true, .bool true, .bool false, .bool false], .bool true]) ∧ Below w.heap.size w w' := by
  refine impl_formOf.table 8 (fun w e w' => e = .returned (.tuple #[.agg #[.string (⟨#[100, 114, 111, 112]⟩ : ByteArray), .bool true, .bool true, .bool false, .bool false], .bool true]) ∧ Below w.heap.size w w') w ?_; intro w2 g1 hS hB; have hb0 : w2.cell? ⟨w.heap.size, 0, none⟩ = some (.string (⟨#[]⟩ : ByteArray)) := (blk_cell hS.out.box 0).trans rfl; have hf0 : w2.frozen? ⟨w.heap.size, 0, none⟩ = false := blk_frozen hS.out.box 0; have hb1 : w2.cell? ⟨w.heap.size, 1, none⟩ = some (.bool false) := (blk_cell hS.out.box 1).trans rfl; have hf1 : w2.frozen? ⟨w.heap.size, 1, none⟩ = false := blk_frozen hS.out.box 1; have hb2 : w2.cell? ⟨w.heap.size, 2, none⟩ = some (.bool false) := (blk_cell hS.out.box 2).trans rfl; have hf2 : w2.frozen? ⟨w.heap.size, 2, none⟩ = false := blk_frozen hS.out.box 2; have hb3 : w2.cell? ⟨w.heap.size, 3, none⟩ = some (.bool false) := (blk_cell hS.out.box 3).trans rfl; have hf3 : w2.frozen? ⟨w.heap.size, 3, none⟩ = false := blk_frozen hS.out.box 3; have hb4 : w2.cell? ⟨w.heap.size, 4, none⟩ = some (.bool false) := (blk_cell hS.out.box 4).trans rfl; have hf4 : w2.frozen? ⟨w.heap.size, 4, none⟩ = false := blk_frozen hS.out.box 4; have hx0 : w2.cell? ⟨g1, 35, none⟩ = some (.string (⟨#[100, 114, 111, 112]⟩ : ByteArray)) := hS.out.cell 35 _ (by kernel_rfl); have hx1 : w2.cell? ⟨g1, 36, none⟩ = some (.bool true) := hS.out.cell 36 _ (by kernel_rfl); have hx2 : w2.cell? ⟨g1, 37, none⟩ = some (.bool true) := hS.out.cell 37 _ (by kernel_rfl); have hx3 : w2.cell? ⟨g1, 38, none⟩ = some (.bool false) := hS.out.cell 38 _ (by kernel_rfl); have hx4 : w2.cell? ⟨g1, 39, none⟩ = some (.bool false) := hS.out.cell 39 _ (by kernel_rfl); have hne := hS.out.ne; simp only [impl_formOf.rest, Tryd.f67]
  go_wp2
  refine bodyPost_ret (results_ct rfl _ _ w.heap.size 69 #[.string (⟨#[100, 114, 111, 112]⟩ : ByteArray), .bool true, .bool true, .bool false, .bool false] (0, 0) _ rfl ?hg Tryd.underlying69 rfl (by kernel_rfl)) rfl ?_
  case hg => refine blk_put (cs := #[.string (⟨#[100, 114, 111, 112]⟩ : ByteArray), .bool true, .bool true, .bool false, .bool false]) ?_ 4 _ rfl; refine blk_put (cs := #[.string (⟨#[100, 114, 111, 112]⟩ : ByteArray), .bool true, .bool true, .bool false, .bool false]) ?_ 3 _ rfl; refine blk_put (cs := #[.string (⟨#[100, 114, 111, 112]⟩ : ByteArray), .bool true, .bool false, .bool false, .bool false]) ?_ 2 _ rfl; refine blk_put (cs := #[.string (⟨#[100, 114, 111, 112]⟩ : ByteArray), .bool false, .bool false, .bool false, .bool false]) ?_ 1 _ rfl; refine blk_put (cs := #[.string (⟨#[]⟩ : ByteArray), .bool false, .bool false, .bool false, .bool false]) ?_ 0 _ rfl; exact hS.out.box
  exact ⟨rfl, by repeat (first | exact hB.out | refine below_set ?_ (Nat.le_refl _))⟩
set_option maxHeartbeats 8000000 in
set_option maxRecDepth 100000 in
theorem impl_formOf.at9 (w : World) :
    Calls Tryd.prog 67 #[.int .i64 9] w fun e w' => e = .returned (.tuple #[.agg #[.string (⟨#[103, 101, 116]⟩ : ByteArray), .bool true, .bool true, .bool false, .bool false], .bool true]) ∧ Below w.heap.size w w' := by
  refine impl_formOf.table 9 (fun w e w' => e = .returned (.tuple #[.agg #[.string (⟨#[103, 101, 116]⟩ : ByteArray), .bool true, .bool true, .bool false, .bool false], .bool true]) ∧ Below w.heap.size w w') w ?_; intro w2 g1 hS hB; have hb0 : w2.cell? ⟨w.heap.size, 0, none⟩ = some (.string (⟨#[]⟩ : ByteArray)) := (blk_cell hS.out.box 0).trans rfl; have hf0 : w2.frozen? ⟨w.heap.size, 0, none⟩ = false := blk_frozen hS.out.box 0; have hb1 : w2.cell? ⟨w.heap.size, 1, none⟩ = some (.bool false) := (blk_cell hS.out.box 1).trans rfl; have hf1 : w2.frozen? ⟨w.heap.size, 1, none⟩ = false := blk_frozen hS.out.box 1; have hb2 : w2.cell? ⟨w.heap.size, 2, none⟩ = some (.bool false) := (blk_cell hS.out.box 2).trans rfl; have hf2 : w2.frozen? ⟨w.heap.size, 2, none⟩ = false := blk_frozen hS.out.box 2; have hb3 : w2.cell? ⟨w.heap.size, 3, none⟩ = some (.bool false) := (blk_cell hS.out.box 3).trans rfl; have hf3 : w2.frozen? ⟨w.heap.size, 3, none⟩ = false := blk_frozen hS.out.box 3; have hb4 : w2.cell? ⟨w.heap.size, 4, none⟩ = some (.bool false) := (blk_cell hS.out.box 4).trans rfl; have hf4 : w2.frozen? ⟨w.heap.size, 4, none⟩ = false := blk_frozen hS.out.box 4; have hx0 : w2.cell? ⟨g1, 40, none⟩ = some (.string (⟨#[103, 101, 116]⟩ : ByteArray)) := hS.out.cell 40 _ (by kernel_rfl); have hx1 : w2.cell? ⟨g1, 41, none⟩ = some (.bool true) := hS.out.cell 41 _ (by kernel_rfl); have hx2 : w2.cell? ⟨g1, 42, none⟩ = some (.bool true) := hS.out.cell 42 _ (by kernel_rfl); have hx3 : w2.cell? ⟨g1, 43, none⟩ = some (.bool false) := hS.out.cell 43 _ (by kernel_rfl); have hx4 : w2.cell? ⟨g1, 44, none⟩ = some (.bool false) := hS.out.cell 44 _ (by kernel_rfl); have hne := hS.out.ne; simp only [impl_formOf.rest, Tryd.f67]
  go_wp2
  refine bodyPost_ret (results_ct rfl _ _ w.heap.size 69 #[.string (⟨#[103, 101, 116]⟩ : ByteArray), .bool true, .bool true, .bool false, .bool false] (0, 0) _ rfl ?hg Tryd.underlying69 rfl (by kernel_rfl)) rfl ?_
  case hg => refine blk_put (cs := #[.string (⟨#[103, 101, 116]⟩ : ByteArray), .bool true, .bool true, .bool false, .bool false]) ?_ 4 _ rfl; refine blk_put (cs := #[.string (⟨#[103, 101, 116]⟩ : ByteArray), .bool true, .bool true, .bool false, .bool false]) ?_ 3 _ rfl; refine blk_put (cs := #[.string (⟨#[103, 101, 116]⟩ : ByteArray), .bool true, .bool false, .bool false, .bool false]) ?_ 2 _ rfl; refine blk_put (cs := #[.string (⟨#[103, 101, 116]⟩ : ByteArray), .bool false, .bool false, .bool false, .bool false]) ?_ 1 _ rfl; refine blk_put (cs := #[.string (⟨#[]⟩ : ByteArray), .bool false, .bool false, .bool false, .bool false]) ?_ 0 _ rfl; exact hS.out.box
  exact ⟨rfl, by repeat (first | exact hB.out | refine below_set ?_ (Nat.le_refl _))⟩
set_option maxHeartbeats 8000000 in
set_option maxRecDepth 100000 in
theorem impl_formOf.at10 (w : World) :
    Calls Tryd.prog 67 #[.int .i64 10] w fun e w' => e = .returned (.tuple #[.agg #[.string (⟨#[108, 105, 115, 116]⟩ : ByteArray), .bool true, .bool false, .bool false, .bool false], .bool true]) ∧ Below w.heap.size w w' := by
  refine impl_formOf.table 10 (fun w e w' => e = .returned (.tuple #[.agg #[.string (⟨#[108, 105, 115, 116]⟩ : ByteArray), .bool true, .bool false, .bool false, .bool false], .bool true]) ∧ Below w.heap.size w w') w ?_; intro w2 g1 hS hB; have hb0 : w2.cell? ⟨w.heap.size, 0, none⟩ = some (.string (⟨#[]⟩ : ByteArray)) := (blk_cell hS.out.box 0).trans rfl; have hf0 : w2.frozen? ⟨w.heap.size, 0, none⟩ = false := blk_frozen hS.out.box 0; have hb1 : w2.cell? ⟨w.heap.size, 1, none⟩ = some (.bool false) := (blk_cell hS.out.box 1).trans rfl; have hf1 : w2.frozen? ⟨w.heap.size, 1, none⟩ = false := blk_frozen hS.out.box 1; have hb2 : w2.cell? ⟨w.heap.size, 2, none⟩ = some (.bool false) := (blk_cell hS.out.box 2).trans rfl; have hf2 : w2.frozen? ⟨w.heap.size, 2, none⟩ = false := blk_frozen hS.out.box 2; have hb3 : w2.cell? ⟨w.heap.size, 3, none⟩ = some (.bool false) := (blk_cell hS.out.box 3).trans rfl; have hf3 : w2.frozen? ⟨w.heap.size, 3, none⟩ = false := blk_frozen hS.out.box 3; have hb4 : w2.cell? ⟨w.heap.size, 4, none⟩ = some (.bool false) := (blk_cell hS.out.box 4).trans rfl; have hf4 : w2.frozen? ⟨w.heap.size, 4, none⟩ = false := blk_frozen hS.out.box 4; have hx0 : w2.cell? ⟨g1, 45, none⟩ = some (.string (⟨#[108, 105, 115, 116]⟩ : ByteArray)) := hS.out.cell 45 _ (by kernel_rfl); have hx1 : w2.cell? ⟨g1, 46, none⟩ = some (.bool true) := hS.out.cell 46 _ (by kernel_rfl); have hx2 : w2.cell? ⟨g1, 47, none⟩ = some (.bool false) := hS.out.cell 47 _ (by kernel_rfl); have hx3 : w2.cell? ⟨g1, 48, none⟩ = some (.bool false) := hS.out.cell 48 _ (by kernel_rfl); have hx4 : w2.cell? ⟨g1, 49, none⟩ = some (.bool false) := hS.out.cell 49 _ (by kernel_rfl); have hne := hS.out.ne; simp only [impl_formOf.rest, Tryd.f67]
  go_wp2
  refine bodyPost_ret (results_ct rfl _ _ w.heap.size 69 #[.string (⟨#[108, 105, 115, 116]⟩ : ByteArray), .bool true, .bool false, .bool false, .bool false] (0, 0) _ rfl ?hg Tryd.underlying69 rfl (by kernel_rfl)) rfl ?_
  case hg => refine blk_put (cs := #[.string (⟨#[108, 105, 115, 116]⟩ : ByteArray), .bool true, .bool false, .bool false, .bool false]) ?_ 4 _ rfl; refine blk_put (cs := #[.string (⟨#[108, 105, 115, 116]⟩ : ByteArray), .bool true, .bool false, .bool false, .bool false]) ?_ 3 _ rfl; refine blk_put (cs := #[.string (⟨#[108, 105, 115, 116]⟩ : ByteArray), .bool true, .bool false, .bool false, .bool false]) ?_ 2 _ rfl; refine blk_put (cs := #[.string (⟨#[108, 105, 115, 116]⟩ : ByteArray), .bool false, .bool false, .bool false, .bool false]) ?_ 1 _ rfl; refine blk_put (cs := #[.string (⟨#[]⟩ : ByteArray), .bool false, .bool false, .bool false, .bool false]) ?_ 0 _ rfl; exact hS.out.box
  exact ⟨rfl, by repeat (first | exact hB.out | refine below_set ?_ (Nat.le_refl _))⟩
set_option maxHeartbeats 8000000 in
set_option maxRecDepth 100000 in
theorem impl_formOf.at11 (w : World) :
    Calls Tryd.prog 67 #[.int .i64 11] w fun e w' => e = .returned (.tuple #[.agg #[.string (⟨#[119, 97, 116, 99, 104]⟩ : ByteArray), .bool true, .bool false, .bool true, .bool false], .bool true]) ∧ Below w.heap.size w w' := by
  refine impl_formOf.table 11 (fun w e w' => e = .returned (.tuple #[.agg #[.string (⟨#[119, 97, 116, 99, 104]⟩ : ByteArray), .bool true, .bool false, .bool true, .bool false], .bool true]) ∧ Below w.heap.size w w') w ?_; intro w2 g1 hS hB; have hb0 : w2.cell? ⟨w.heap.size, 0, none⟩ = some (.string (⟨#[]⟩ : ByteArray)) := (blk_cell hS.out.box 0).trans rfl; have hf0 : w2.frozen? ⟨w.heap.size, 0, none⟩ = false := blk_frozen hS.out.box 0; have hb1 : w2.cell? ⟨w.heap.size, 1, none⟩ = some (.bool false) := (blk_cell hS.out.box 1).trans rfl; have hf1 : w2.frozen? ⟨w.heap.size, 1, none⟩ = false := blk_frozen hS.out.box 1; have hb2 : w2.cell? ⟨w.heap.size, 2, none⟩ = some (.bool false) := (blk_cell hS.out.box 2).trans rfl; have hf2 : w2.frozen? ⟨w.heap.size, 2, none⟩ = false := blk_frozen hS.out.box 2; have hb3 : w2.cell? ⟨w.heap.size, 3, none⟩ = some (.bool false) := (blk_cell hS.out.box 3).trans rfl; have hf3 : w2.frozen? ⟨w.heap.size, 3, none⟩ = false := blk_frozen hS.out.box 3; have hb4 : w2.cell? ⟨w.heap.size, 4, none⟩ = some (.bool false) := (blk_cell hS.out.box 4).trans rfl; have hf4 : w2.frozen? ⟨w.heap.size, 4, none⟩ = false := blk_frozen hS.out.box 4; have hx0 : w2.cell? ⟨g1, 50, none⟩ = some (.string (⟨#[119, 97, 116, 99, 104]⟩ : ByteArray)) := hS.out.cell 50 _ (by kernel_rfl); have hx1 : w2.cell? ⟨g1, 51, none⟩ = some (.bool true) := hS.out.cell 51 _ (by kernel_rfl); have hx2 : w2.cell? ⟨g1, 52, none⟩ = some (.bool false) := hS.out.cell 52 _ (by kernel_rfl); have hx3 : w2.cell? ⟨g1, 53, none⟩ = some (.bool true) := hS.out.cell 53 _ (by kernel_rfl); have hx4 : w2.cell? ⟨g1, 54, none⟩ = some (.bool false) := hS.out.cell 54 _ (by kernel_rfl); have hne := hS.out.ne; simp only [impl_formOf.rest, Tryd.f67]
  go_wp2
  refine bodyPost_ret (results_ct rfl _ _ w.heap.size 69 #[.string (⟨#[119, 97, 116, 99, 104]⟩ : ByteArray), .bool true, .bool false, .bool true, .bool false] (0, 0) _ rfl ?hg Tryd.underlying69 rfl (by kernel_rfl)) rfl ?_
  case hg => refine blk_put (cs := #[.string (⟨#[119, 97, 116, 99, 104]⟩ : ByteArray), .bool true, .bool false, .bool true, .bool false]) ?_ 4 _ rfl; refine blk_put (cs := #[.string (⟨#[119, 97, 116, 99, 104]⟩ : ByteArray), .bool true, .bool false, .bool false, .bool false]) ?_ 3 _ rfl; refine blk_put (cs := #[.string (⟨#[119, 97, 116, 99, 104]⟩ : ByteArray), .bool true, .bool false, .bool false, .bool false]) ?_ 2 _ rfl; refine blk_put (cs := #[.string (⟨#[119, 97, 116, 99, 104]⟩ : ByteArray), .bool false, .bool false, .bool false, .bool false]) ?_ 1 _ rfl; refine blk_put (cs := #[.string (⟨#[]⟩ : ByteArray), .bool false, .bool false, .bool false, .bool false]) ?_ 0 _ rfl; exact hS.out.box
  exact ⟨rfl, by repeat (first | exact hB.out | refine below_set ?_ (Nat.le_refl _))⟩
set_option maxHeartbeats 8000000 in
set_option maxRecDepth 100000 in
theorem impl_formOf.at12 (w : World) :
    Calls Tryd.prog 67 #[.int .i64 12] w fun e w' => e = .returned (.tuple #[.agg #[.string (⟨#[115, 116, 101, 112]⟩ : ByteArray), .bool false, .bool false, .bool false, .bool false], .bool true]) ∧ Below w.heap.size w w' := by
  refine impl_formOf.table 12 (fun w e w' => e = .returned (.tuple #[.agg #[.string (⟨#[115, 116, 101, 112]⟩ : ByteArray), .bool false, .bool false, .bool false, .bool false], .bool true]) ∧ Below w.heap.size w w') w ?_; intro w2 g1 hS hB; have hb0 : w2.cell? ⟨w.heap.size, 0, none⟩ = some (.string (⟨#[]⟩ : ByteArray)) := (blk_cell hS.out.box 0).trans rfl; have hf0 : w2.frozen? ⟨w.heap.size, 0, none⟩ = false := blk_frozen hS.out.box 0; have hb1 : w2.cell? ⟨w.heap.size, 1, none⟩ = some (.bool false) := (blk_cell hS.out.box 1).trans rfl; have hf1 : w2.frozen? ⟨w.heap.size, 1, none⟩ = false := blk_frozen hS.out.box 1; have hb2 : w2.cell? ⟨w.heap.size, 2, none⟩ = some (.bool false) := (blk_cell hS.out.box 2).trans rfl; have hf2 : w2.frozen? ⟨w.heap.size, 2, none⟩ = false := blk_frozen hS.out.box 2; have hb3 : w2.cell? ⟨w.heap.size, 3, none⟩ = some (.bool false) := (blk_cell hS.out.box 3).trans rfl; have hf3 : w2.frozen? ⟨w.heap.size, 3, none⟩ = false := blk_frozen hS.out.box 3; have hb4 : w2.cell? ⟨w.heap.size, 4, none⟩ = some (.bool false) := (blk_cell hS.out.box 4).trans rfl; have hf4 : w2.frozen? ⟨w.heap.size, 4, none⟩ = false := blk_frozen hS.out.box 4; have hx0 : w2.cell? ⟨g1, 55, none⟩ = some (.string (⟨#[115, 116, 101, 112]⟩ : ByteArray)) := hS.out.cell 55 _ (by kernel_rfl); have hx1 : w2.cell? ⟨g1, 56, none⟩ = some (.bool false) := hS.out.cell 56 _ (by kernel_rfl); have hx2 : w2.cell? ⟨g1, 57, none⟩ = some (.bool false) := hS.out.cell 57 _ (by kernel_rfl); have hx3 : w2.cell? ⟨g1, 58, none⟩ = some (.bool false) := hS.out.cell 58 _ (by kernel_rfl); have hx4 : w2.cell? ⟨g1, 59, none⟩ = some (.bool false) := hS.out.cell 59 _ (by kernel_rfl); have hne := hS.out.ne; simp only [impl_formOf.rest, Tryd.f67]
  go_wp2
  refine bodyPost_ret (results_ct rfl _ _ w.heap.size 69 #[.string (⟨#[115, 116, 101, 112]⟩ : ByteArray), .bool false, .bool false, .bool false, .bool false] (0, 0) _ rfl ?hg Tryd.underlying69 rfl (by kernel_rfl)) rfl ?_
  case hg => refine blk_put (cs := #[.string (⟨#[115, 116, 101, 112]⟩ : ByteArray), .bool false, .bool false, .bool false, .bool false]) ?_ 4 _ rfl; refine blk_put (cs := #[.string (⟨#[115, 116, 101, 112]⟩ : ByteArray), .bool false, .bool false, .bool false, .bool false]) ?_ 3 _ rfl; refine blk_put (cs := #[.string (⟨#[115, 116, 101, 112]⟩ : ByteArray), .bool false, .bool false, .bool false, .bool false]) ?_ 2 _ rfl; refine blk_put (cs := #[.string (⟨#[115, 116, 101, 112]⟩ : ByteArray), .bool false, .bool false, .bool false, .bool false]) ?_ 1 _ rfl; refine blk_put (cs := #[.string (⟨#[]⟩ : ByteArray), .bool false, .bool false, .bool false, .bool false]) ?_ 0 _ rfl; exact hS.out.box
  exact ⟨rfl, by repeat (first | exact hB.out | refine below_set ?_ (Nat.le_refl _))⟩
theorem impl_formOf.calls (a0 : Int) (r1 : ByteArray) (r2 r3 r4 r5 r6 : Bool) (w : World) (h : impl_formOf.f a0 = some (r1, r2, r3, r4, r5, r6)) :
    Calls Tryd.prog 67 #[.int .i64 a0] w fun e w' => e = .returned (.tuple #[.agg #[.string r1, .bool r2, .bool r3, .bool r4, .bool r5], .bool r6]) ∧ Below w.heap.size w w' := by
  unfold impl_formOf.f at h; replace h := Option.some.inj h; by_cases hlo : a0 < 1
  · rw [if_neg (by omega), if_neg (by omega), if_neg (by omega), if_neg (by omega), if_neg (by omega), if_neg (by omega), if_neg (by omega), if_neg (by omega), if_neg (by omega), if_neg (by omega), if_neg (by omega), if_neg (by omega)] at h
    simp only [Prod.mk.injEq] at h; obtain ⟨rfl, rfl, rfl, rfl, rfl, rfl⟩ := h
    exact impl_formOf.lo a0 hlo w
  by_cases hhi : a0 > 12
  · rw [if_neg (by omega), if_neg (by omega), if_neg (by omega), if_neg (by omega), if_neg (by omega), if_neg (by omega), if_neg (by omega), if_neg (by omega), if_neg (by omega), if_neg (by omega), if_neg (by omega), if_neg (by omega)] at h
    simp only [Prod.mk.injEq] at h; obtain ⟨rfl, rfl, rfl, rfl, rfl, rfl⟩ := h
    exact impl_formOf.hi a0 hhi w
  have hc : a0 = 1 ∨ a0 = 2 ∨ a0 = 3 ∨ a0 = 4 ∨ a0 = 5 ∨ a0 = 6 ∨ a0 = 7 ∨ a0 = 8 ∨ a0 = 9 ∨ a0 = 10 ∨ a0 = 11 ∨ a0 = 12 := by omega
  rcases hc with rfl | rfl | rfl | rfl | rfl | rfl | rfl | rfl | rfl | rfl | rfl | rfl
  · rw [if_pos rfl] at h
    simp only [Prod.mk.injEq] at h; obtain ⟨rfl, rfl, rfl, rfl, rfl, rfl⟩ := h
    exact impl_formOf.at1 w
  · rw [if_neg (by omega), if_pos rfl] at h
    simp only [Prod.mk.injEq] at h; obtain ⟨rfl, rfl, rfl, rfl, rfl, rfl⟩ := h
    exact impl_formOf.at2 w
  · rw [if_neg (by omega), if_neg (by omega), if_pos rfl] at h
    simp only [Prod.mk.injEq] at h; obtain ⟨rfl, rfl, rfl, rfl, rfl, rfl⟩ := h
    exact impl_formOf.at3 w
  · rw [if_neg (by omega), if_neg (by omega), if_neg (by omega), if_pos rfl] at h
    simp only [Prod.mk.injEq] at h; obtain ⟨rfl, rfl, rfl, rfl, rfl, rfl⟩ := h
    exact impl_formOf.at4 w
  · rw [if_neg (by omega), if_neg (by omega), if_neg (by omega), if_neg (by omega), if_pos rfl] at h
    simp only [Prod.mk.injEq] at h; obtain ⟨rfl, rfl, rfl, rfl, rfl, rfl⟩ := h
    exact impl_formOf.at5 w
  · rw [if_neg (by omega), if_neg (by omega), if_neg (by omega), if_neg (by omega), if_neg (by omega), if_pos rfl] at h
    simp only [Prod.mk.injEq] at h; obtain ⟨rfl, rfl, rfl, rfl, rfl, rfl⟩ := h
    exact impl_formOf.at6 w
  · rw [if_neg (by omega), if_neg (by omega), if_neg (by omega), if_neg (by omega), if_neg (by omega), if_neg (by omega), if_pos rfl] at h
    simp only [Prod.mk.injEq] at h; obtain ⟨rfl, rfl, rfl, rfl, rfl, rfl⟩ := h
    exact impl_formOf.at7 w
  · rw [if_neg (by omega), if_neg (by omega), if_neg (by omega), if_neg (by omega), if_neg (by omega), if_neg (by omega), if_neg (by omega), if_pos rfl] at h
    simp only [Prod.mk.injEq] at h; obtain ⟨rfl, rfl, rfl, rfl, rfl, rfl⟩ := h
    exact impl_formOf.at8 w
  · rw [if_neg (by omega), if_neg (by omega), if_neg (by omega), if_neg (by omega), if_neg (by omega), if_neg (by omega), if_neg (by omega), if_neg (by omega), if_pos rfl] at h
    simp only [Prod.mk.injEq] at h; obtain ⟨rfl, rfl, rfl, rfl, rfl, rfl⟩ := h
    exact impl_formOf.at9 w
  · rw [if_neg (by omega), if_neg (by omega), if_neg (by omega), if_neg (by omega), if_neg (by omega), if_neg (by omega), if_neg (by omega), if_neg (by omega), if_neg (by omega), if_pos rfl] at h
    simp only [Prod.mk.injEq] at h; obtain ⟨rfl, rfl, rfl, rfl, rfl, rfl⟩ := h
    exact impl_formOf.at10 w
  · rw [if_neg (by omega), if_neg (by omega), if_neg (by omega), if_neg (by omega), if_neg (by omega), if_neg (by omega), if_neg (by omega), if_neg (by omega), if_neg (by omega), if_neg (by omega), if_pos rfl] at h
    simp only [Prod.mk.injEq] at h; obtain ⟨rfl, rfl, rfl, rfl, rfl, rfl⟩ := h
    exact impl_formOf.at11 w
  · rw [if_neg (by omega), if_neg (by omega), if_neg (by omega), if_neg (by omega), if_neg (by omega), if_neg (by omega), if_neg (by omega), if_neg (by omega), if_neg (by omega), if_neg (by omega), if_neg (by omega), if_pos rfl] at h
    simp only [Prod.mk.injEq] at h; obtain ⟨rfl, rfl, rfl, rfl, rfl, rfl⟩ := h
    exact impl_formOf.at12 w
end Go.Proofs.YtgkgkpoeiojmeaaDoor.P
namespace Go.Proofs.YtgkgkpoeiojmeaaDoor.P
open Go.RowKit Go.Proofs.YtgkgkpoeiojmeaaDoorW.PrintWords Go.Proofs.YtgkgkpoeiojmeaaDoorW.PrintLast Go.Proofs.YtgkgkpoeiojmeaaDoorW.PrintMore
attribute [local go_sem] max2_int min2_int max_two min_two max_three min_three max_four min_four   -- for this text's walks alone
set_option linter.unusedVariables false
set_option linter.unusedSimpArgs false
def impl_isBetween.l0 : Nat → ByteArray → Int → Int → Int → Int → Option (Bool)
  | 0, _, _, _, _, _ => none
  | k + 1, x0, x1, x2, x9, x10 => if x10 < x9 then (if 0 ≤ x10 then (if x10 < (x0.size : Int) then (if (bt x0 x10) < x1 then (some false) else (if (bt x0 x10) > x2 then (some false) else (impl_isBetween.l0 k x0 x1 x2 x9 (wrap64 (x10 + 1))))) else (none)) else (none)) else (some true)
def impl_isBetween.f (k : Nat) (a0 : ByteArray) (a1 : Int) (a2 : Int) : Option (Bool) := impl_isBetween.l0 k a0 a1 a2 (a0.size : Int) 0
set_option maxHeartbeats 8000000 in
set_option maxRecDepth 100000 in
theorem impl_isBetween.calls (k : Nat) (a0 : ByteArray) (a1 : Int) (a2 : Int) (r : Bool) (w : World) (h : impl_isBetween.f k a0 a1 a2 = some r) :
    Calls Tryd.prog 82 #[.string a0, .int .u8 a1, .int .u8 a2] w fun e w' => e = .returned (.bool r) ∧ Drawn0 w w' := by
  have H : (impl_isBetween.l0 k a0 a1 a2 (a0.size : Int) 0) = some r := h; clear h; have H' := Aside0.mk H; clear H
  go_enter Tryd.func82, Tryd.ntmps82
  go_wp2
  go_loopg [10] k (fun kq v10 w' => ∃ (x10_1 : Int), v10 = .int .i64 x10_1 ∧ Aside0 (impl_isBetween.l0 kq a0 a1 a2 (a0.size : Int) x10_1 = some r) ∧ Aside0 (kq ≤ k) ∧ Drawn0 w w')
  case atStart => exact ⟨(0), (by first | rfl | (simp; done) | (simp [*]; done)), H', ⟨Nat.le_refl _⟩, by repeat (first | exact Drawn0.refl _ | apply Drawn0.step)⟩
  case round =>
    clear H'
    try clear p2
    obtain ⟨x10_1, rfl, HA, HK1, ⟨m1, rfl⟩⟩ := hrel
    cases gk with
    | zero => exact absurd HA.out (by simp [impl_isBetween.l0])
    | succ k1 =>
      have H := HA.out; clear HA; simp only [impl_isBetween.l0] at H; by_cases c4 : x10_1 < (a0.size : Int)
      · rw [if_pos c4] at H
        have c4b0 : decide (x10_1 < (a0.size : Int)) = true := decide_eq_true c4; clear c4; by_cases c5 : 0 ≤ x10_1
        · rw [if_pos c5] at H
          have c5b0 : decide (0 ≤ x10_1) = true := decide_eq_true c5; clear c5; by_cases c6 : x10_1 < (a0.size : Int)
          · rw [if_pos c6] at H
            have c6b0 : decide (x10_1 < (a0.size : Int)) = true := decide_eq_true c6; clear c6; by_cases c8 : (bt a0 x10_1) < a1
            · rw [if_pos c8] at H
              have c8b0 : decide ((bt a0 x10_1) < a1) = true := decide_eq_true c8; clear c8; obtain rfl := Option.some.inj H; have p7 : 0 ≤ (x10_1 : Int) := of_decide_eq_true (by first | (with_reducible assumption) | assumption); have q7 : x10_1 < (a0.size : Int) := of_decide_eq_true (by first | (with_reducible assumption) | assumption); have hx7 := bt_at a0 x10_1; replace p7 := eq_true p7; replace q7 := eq_true q7
              go_wp2
              go_ret
              exact ⟨by first | rfl | (simp; done) | (simp [*]; done), by repeat (first | exact Drawn0.refl _ | apply Drawn0.step)⟩
            · rw [if_neg c8] at H
              have c8b0 : decide ((bt a0 x10_1) < a1) = false := decide_eq_false c8; clear c8; by_cases c10 : (bt a0 x10_1) > a2
              · rw [if_pos c10] at H
                have c10b0 : decide (a2 < (bt a0 x10_1)) = true := decide_eq_true c10; clear c10; obtain rfl := Option.some.inj H; have p7 : 0 ≤ (x10_1 : Int) := of_decide_eq_true (by first | (with_reducible assumption) | assumption); have q7 : x10_1 < (a0.size : Int) := of_decide_eq_true (by first | (with_reducible assumption) | assumption); have hx7 := bt_at a0 x10_1; replace p7 := eq_true p7; replace q7 := eq_true q7; have p9 : 0 ≤ (x10_1 : Int) := of_decide_eq_true (by first | (with_reducible assumption) | assumption); have q9 : x10_1 < (a0.size : Int) := of_decide_eq_true (by first | (with_reducible assumption) | assumption); have hx9 := bt_at a0 x10_1; replace p9 := eq_true p9; replace q9 := eq_true q9
                go_wp2
                go_ret
                exact ⟨by first | rfl | (simp; done) | (simp [*]; done), by repeat (first | exact Drawn0.refl _ | apply Drawn0.step)⟩
              · rw [if_neg c10] at H
                have c10b0 : decide (a2 < (bt a0 x10_1)) = false := decide_eq_false c10; clear c10; have H' := Aside0.mk H; clear H; have p7 : 0 ≤ (x10_1 : Int) := of_decide_eq_true (by first | (with_reducible assumption) | assumption); have q7 : x10_1 < (a0.size : Int) := of_decide_eq_true (by first | (with_reducible assumption) | assumption); have hx7 := bt_at a0 x10_1; replace p7 := eq_true p7; replace q7 := eq_true q7; have p9 : 0 ≤ (x10_1 : Int) := of_decide_eq_true (by first | (with_reducible assumption) | assumption); have q9 : x10_1 < (a0.size : Int) := of_decide_eq_true (by first | (with_reducible assumption) | assumption); have hx9 := bt_at a0 x10_1; replace p9 := eq_true p9; replace q9 := eq_true q9
                go_wp2
                go_roundg k1
                case measure => have := HK1.out; omega
                case rel => exact ⟨(wrap64 (x10_1 + 1)), (by first | rfl | (simp; done) | (simp [*]; done)), H', ⟨by have := HK1.out; omega⟩, by repeat (first | exact Drawn0.refl _ | apply Drawn0.step)⟩
          · rw [if_neg c6] at H
            exact absurd H (by simp)
        · rw [if_neg c5] at H
          exact absurd H (by simp)
      · rw [if_neg c4] at H
        have c4b0 : decide (x10_1 < (a0.size : Int)) = false := decide_eq_false c4; clear c4; obtain rfl := Option.some.inj H
        go_wp2
        go_ret
        exact ⟨by first | rfl | (simp; done) | (simp [*]; done), by repeat (first | exact Drawn0.refl _ | apply Drawn0.step)⟩
end Go.Proofs.YtgkgkpoeiojmeaaDoor.P
namespace Go.Proofs.YtgkgkpoeiojmeaaDoor.P
open Go.RowKit Go.Proofs.YtgkgkpoeiojmeaaDoorW.PrintWords Go.Proofs.YtgkgkpoeiojmeaaDoorW.PrintLast Go.Proofs.YtgkgkpoeiojmeaaDoorW.PrintMore
attribute [local go_sem] max2_int min2_int max_two min_two max_three min_three max_four min_four   -- for this text's walks alone
set_option linter.unusedVariables false
set_option linter.unusedSimpArgs false
def impl_isBody.f (k : Nat) (a0 : ByteArray) : Option (Bool) := if (a0.size : Int) ≤ 40 then ((impl_isBetween.f k a0 32 126).bind fun t237 => (some t237)) else (some false)
set_option maxHeartbeats 8000000 in
set_option maxRecDepth 100000 in
theorem impl_isBody.calls (k : Nat) (a0 : ByteArray) (r : Bool) (w : World) (h : impl_isBody.f k a0 = some r) :
    Calls Tryd.prog 68 #[.string a0] w fun e w' => e = .returned (.bool r) ∧ Drawn0 w w' := by
  have H : (if (a0.size : Int) ≤ 40 then ((impl_isBetween.f k a0 32 126).bind fun t237 => (some t237)) else (some false)) = some r := h; clear h; by_cases c2 : (a0.size : Int) ≤ 40
  · rw [if_pos c2] at H
    have c2b0 : decide ((a0.size : Int) ≤ 40) = true := decide_eq_true c2; have c2b1 : decide (a0.size ≤ 40) = true := decide_eq_true (by omega); clear c2; replace H := Option.bind_eq_some_iff.mp H; obtain ⟨t237, A30, H⟩ := H; replace H : (some t237) = some r := H; have A3 := Aside0.mk A30; clear A30; obtain rfl := Option.some.inj H
    go_enter Tryd.func68, Tryd.ntmps68
    go_wp2_with (first | (go_at_call 82; (with_reducible refine (impl_isBetween.calls k a0 32 126 t237 _ A3.out).mono ?_); rintro e w' ⟨rfl, ⟨nd, rfl⟩⟩))
    go_ret
    exact ⟨by first | rfl | (simp; done) | (simp [*]; done), by repeat (first | exact Drawn0.refl _ | apply Drawn0.step)⟩
  · rw [if_neg c2] at H
    have c2b0 : decide ((a0.size : Int) ≤ 40) = false := decide_eq_false c2; have c2b1 : decide (a0.size ≤ 40) = false := decide_eq_false (by omega); clear c2; obtain rfl := Option.some.inj H
    go_enter Tryd.func68, Tryd.ntmps68
    go_wp2
    go_ret
    exact ⟨by first | rfl | (simp; done) | (simp [*]; done), by repeat (first | exact Drawn0.refl _ | apply Drawn0.step)⟩
end Go.Proofs.YtgkgkpoeiojmeaaDoor.P
