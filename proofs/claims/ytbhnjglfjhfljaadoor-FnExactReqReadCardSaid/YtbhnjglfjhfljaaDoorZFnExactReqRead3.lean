/- Functions of the law FnExactReqRead as_ plain Lean functions, and that the machine's calls do what they say. -/
import Derived.Test.YtbhnjglfjhfljaaDoorZFnExactReqRead0
import Derived.Test.YtbhnjglfjhfljaaDoorZFnExactReqRead1
import Derived.Test.YtbhnjglfjhfljaaDoorZFnExactReqRead2
namespace Go.Proofs.YtbhnjglfjhfljaaDoor.P
open Go.RowKit Go.Proofs.YtbhnjglfjhfljaaDoorW.PrintWords Go.Proofs.YtbhnjglfjhfljaaDoorW.PrintLast Go.Proofs.YtbhnjglfjhfljaaDoorW.PrintMore
attribute [local go_sem] max2_int min2_int max_two min_two max_three min_three max_four min_four   -- for this text's walks alone
set_option linter.unusedVariables false
set_option linter.unusedSimpArgs false
mutual
def impl_reqRead.l0 : Nat → ByteArray → Int → Option (Int × ByteArray × ByteArray × Int × ByteArray × Bool)
  | 0, _, _ => none
  | k + 1, x0, x4 => if x4 ≤ 12 then ((impl_formOf.f x4).bind fun bt315 => ((strings_Cut.f x0 (⟨#[32]⟩ : ByteArray)).bind fun bt322 => (if bt322.1.toList = bt315.1.toList then (if bt315.2.1 = true then (impl_reqRead.j1 k x0 bt322.2.2 bt315.1 bt315.2.1 bt315.2.2.1 bt315.2.2.2.1 bt315.2.2.2.2.1 bt322.2.1 bt322.2.2 x4 (⟨#[]⟩ : ByteArray) (⟨#[]⟩ : ByteArray) 0 (⟨#[]⟩ : ByteArray)) else (impl_reqRead.j1 k x0 false bt315.1 bt315.2.1 bt315.2.2.1 bt315.2.2.2.1 bt315.2.2.2.2.1 bt322.2.1 bt322.2.2 x4 (⟨#[]⟩ : ByteArray) (⟨#[]⟩ : ByteArray) 0 (⟨#[]⟩ : ByteArray))) else (impl_reqRead.l0 k x0 (wrap64 (x4 + 1)))))) else (some (0, (⟨#[]⟩ : ByteArray), (⟨#[]⟩ : ByteArray), 0, (⟨#[]⟩ : ByteArray), false))
def impl_reqRead.j1 : Nat → ByteArray → Bool → ByteArray → Bool → Bool → Bool → Bool → ByteArray → Bool → Int → ByteArray → ByteArray → Int → ByteArray → Option (Int × ByteArray × ByteArray × Int × ByteArray × Bool)
  | 0, _, _, _, _, _, _, _, _, _, _, _, _, _, _ => none
  | k + 1, x0, x40, x322000, x322001, x322002, x322003, x322004, x326000, x327000, x328000, x328001, x328002, x328003, x328004 => if x40 = true then ((impl_reqRead_1.f x326000 x327000).bind fun bt328 => (impl_reqRead.j2 k x0 x322000 x322001 x322002 x322003 x322004 bt328.2.1 bt328.2.2 x328000 bt328.1 x328002 x328003 x328004)) else (impl_reqRead.j2 k x0 x322000 x322001 x322002 x322003 x322004 x326000 x327000 x328000 x328001 x328002 x328003 x328004)
def impl_reqRead.j2 : Nat → ByteArray → ByteArray → Bool → Bool → Bool → Bool → ByteArray → Bool → Int → ByteArray → ByteArray → Int → ByteArray → Option (Int × ByteArray × ByteArray × Int × ByteArray × Bool)
  | 0, _, _, _, _, _, _, _, _, _, _, _, _, _ => none
  | k + 1, x0, x322000, x322001, x322002, x322003, x322004, x326000, x327000, x328000, x328001, x328002, x328003, x328004 => if x322002 = true then (impl_reqRead.j3 k x0 x327000 x322000 x322001 x322002 x322003 x322004 x326000 x327000 x328000 x328001 x328002 x328003 x328004) else (impl_reqRead.j3 k x0 false x322000 x322001 x322002 x322003 x322004 x326000 x327000 x328000 x328001 x328002 x328003 x328004)
def impl_reqRead.j3 : Nat → ByteArray → Bool → ByteArray → Bool → Bool → Bool → Bool → ByteArray → Bool → Int → ByteArray → ByteArray → Int → ByteArray → Option (Int × ByteArray × ByteArray × Int × ByteArray × Bool)
  | 0, _, _, _, _, _, _, _, _, _, _, _, _, _, _ => none
  | k + 1, x0, x48, x322000, x322001, x322002, x322003, x322004, x326000, x327000, x328000, x328001, x328002, x328003, x328004 => if x48 = true then ((impl_reqRead_1.f x326000 x327000).bind fun bt331 => (impl_reqRead.j4 k x0 x322000 x322001 x322002 x322003 x322004 bt331.2.1 bt331.2.2 x328000 x328001 bt331.1 x328003 x328004)) else (impl_reqRead.j4 k x0 x322000 x322001 x322002 x322003 x322004 x326000 x327000 x328000 x328001 x328002 x328003 x328004)
def impl_reqRead.j4 : Nat → ByteArray → ByteArray → Bool → Bool → Bool → Bool → ByteArray → Bool → Int → ByteArray → ByteArray → Int → ByteArray → Option (Int × ByteArray × ByteArray × Int × ByteArray × Bool)
  | 0, _, _, _, _, _, _, _, _, _, _, _, _, _ => none
  | k + 1, x0, x322000, x322001, x322002, x322003, x322004, x326000, x327000, x328000, x328001, x328002, x328003, x328004 => if x322003 = true then (impl_reqRead.j5 k x0 x327000 x322000 x322001 x322002 x322003 x322004 x326000 x327000 x328000 x328001 x328002 x328003 x328004) else (impl_reqRead.j5 k x0 false x322000 x322001 x322002 x322003 x322004 x326000 x327000 x328000 x328001 x328002 x328003 x328004)
def impl_reqRead.j5 : Nat → ByteArray → Bool → ByteArray → Bool → Bool → Bool → Bool → ByteArray → Bool → Int → ByteArray → ByteArray → Int → ByteArray → Option (Int × ByteArray × ByteArray × Int × ByteArray × Bool)
  | 0, _, _, _, _, _, _, _, _, _, _, _, _, _, _ => none
  | k + 1, x0, x56, x322000, x322001, x322002, x322003, x322004, x326000, x327000, x328000, x328001, x328002, x328003, x328004 => if x56 = true then ((impl_reqRead_1.f x326000 x327000).bind fun bt334 => ((impl_readLimit.f bt334.1).bind fun bt337 => (if bt337.2 = true then (impl_reqRead.j6 k x0 x322000 x322001 x322002 x322003 x322004 bt334.2.1 bt334.2.2 x328000 x328001 x328002 bt337.1 x328004) else (some (0, (⟨#[]⟩ : ByteArray), (⟨#[]⟩ : ByteArray), 0, (⟨#[]⟩ : ByteArray), false))))) else (impl_reqRead.j6 k x0 x322000 x322001 x322002 x322003 x322004 x326000 x327000 x328000 x328001 x328002 x328003 x328004)
def impl_reqRead.j6 : Nat → ByteArray → ByteArray → Bool → Bool → Bool → Bool → ByteArray → Bool → Int → ByteArray → ByteArray → Int → ByteArray → Option (Int × ByteArray × ByteArray × Int × ByteArray × Bool)
  | 0, _, _, _, _, _, _, _, _, _, _, _, _, _ => none
  | k + 1, x0, x322000, x322001, x322002, x322003, x322004, x326000, x327000, x328000, x328001, x328002, x328003, x328004 => if x322004 = true then (impl_reqRead.j7 k x0 x327000 x326000 x328000 x328001 x328002 x328003 x328004) else (impl_reqRead.j7 k x0 false x326000 x328000 x328001 x328002 x328003 x328004)
def impl_reqRead.j7 : Nat → ByteArray → Bool → ByteArray → Int → ByteArray → ByteArray → Int → ByteArray → Option (Int × ByteArray × ByteArray × Int × ByteArray × Bool)
  | 0, _, _, _, _, _, _, _, _ => none
  | k + 1, x0, x72, x326000, x328000, x328001, x328002, x328003, x328004 => if x72 = true then (impl_reqRead.j8 k x0 x328000 x328001 x328002 x328003 x326000) else (impl_reqRead.j8 k x0 x328000 x328001 x328002 x328003 x328004)
def impl_reqRead.j8 : Nat → ByteArray → Int → ByteArray → ByteArray → Int → ByteArray → Option (Int × ByteArray × ByteArray × Int × ByteArray × Bool)
  | 0, _, _, _, _, _, _ => none
  | k + 1, x0, x328000, x328001, x328002, x328003, x328004 => (impl_isReq.f k x328000 x328001 x328002 x328003 x328004).bind fun t339 => (if t339 = true then ((impl_reqText.f k x328000 x328001 x328002 x328003 x328004).bind fun t340 => (if t340.toList = x0.toList then (some (x328000, x328001, x328002, x328003, x328004, true)) else (some (0, (⟨#[]⟩ : ByteArray), (⟨#[]⟩ : ByteArray), 0, (⟨#[]⟩ : ByteArray), false)))) else (some (0, (⟨#[]⟩ : ByteArray), (⟨#[]⟩ : ByteArray), 0, (⟨#[]⟩ : ByteArray), false)))
end
def impl_reqRead.f (k : Nat) (a0 : ByteArray) : Option (Int × ByteArray × ByteArray × Int × ByteArray × Bool) := impl_reqRead.l0 k a0 1
set_option maxHeartbeats 8000000 in
set_option maxRecDepth 100000 in
theorem impl_reqRead.calls (k : Nat) (a0 : ByteArray) (r1 : Int) (r2 : ByteArray) (r3 : ByteArray) (r4 : Int) (r5 : ByteArray) (r6 : Bool) (w : World) (hT : TabT w) (h : impl_reqRead.f k a0 = some (r1, r2, r3, r4, r5, r6)) :
    Calls Tryd.prog 19 #[.string a0] w fun e w' => e = .returned (.tuple #[.agg #[.int .i64 r1, .string r2, .string r3, .int .i64 r4, .string r5], .bool r6]) ∧ Below w.heap.size w w' := by
  have hu25 := Tryd.underlying25; have hu53 := Tryd.underlying53; have HT := Aside0.mk hT; clear hT; have HB := Aside0.mk (Below.refl w.heap.size w); have H : (impl_reqRead.l0 k a0 1) = some (r1, r2, r3, r4, r5, r6) := h; clear h; have H' := Aside0.mk H; clear H
  go_enter Tryd.func19, Tryd.ntmps19
  go_wp2_with (first | ((with_reducible refine gate_dst (N := 2) rfl ?_); refine box_event ?hg (N := 2) ?hd (cs := #[.int .i64 0, .string (⟨#[]⟩ : ByteArray), .string (⟨#[]⟩ : ByteArray), .int .i64 0, .string (⟨#[]⟩ : ByteArray)]) (t := 25) ?hr ?_; (case hd => rfl); (case hg => rfl); (case hr => first | (go_simp; done) | (go_simp; rfl)); intro gb314 hg w2 hbox hb; have n0_ := Aside0.mk (below_step (by repeat (first | (with_reducible first | exact HB.out | apply below_alloc | apply pw_below_drewN | apply below_drew1) | exact HB.out)) hb); have n1_ := Aside0.mk (hbox); have n2_ := Aside0.mk ((by rw [hg]; exact (below_size (by repeat (first | (with_reducible first | exact HB.out | apply below_alloc | apply pw_below_drewN | apply below_drew1) | exact HB.out))) : w.heap.size ≤ gb314)); have n3_ := Aside0.mk ((by rw [hg]; exact (below_size (by repeat (first | (with_reducible first | exact HB.out | apply below_alloc | apply pw_below_drewN | apply below_drew1) | exact HB.out))) : w.heap.size ≤ gb314)); clear HB; have HB := n0_; have BK314 := n1_; have GW314 := n2_; have GE314 := n3_; clear n0_ n1_ n2_ n3_; clear hb hbox hg))
  go_loopg [4] k (fun kq v4 w' => ∃ (x4_1 : Int) (x315000_1 : Int) (x315001_1 : ByteArray) (x315002_1 : ByteArray) (x315003_1 : Int) (x315004_1 : ByteArray), v4 = .int .i64 x4_1 ∧ Aside0 (impl_reqRead.l0 kq a0 x4_1 = some (r1, r2, r3, r4, r5, r6)) ∧ Aside0 (kq ≤ k) ∧ Aside0 (w'.heap[gb314]? = some (.cells #[.int .i64 x315000_1, .string x315001_1, .string x315002_1, .int .i64 x315003_1, .string x315004_1] 25 (0, 0))) ∧ Aside0 (Below w.heap.size w w'))
  case atStart => exact ⟨(1), (0), ((⟨#[]⟩ : ByteArray)), ((⟨#[]⟩ : ByteArray)), (0), ((⟨#[]⟩ : ByteArray)), (by first | rfl | (simp; done) | (simp [*]; done)), H', ⟨Nat.le_refl _⟩, ⟨by (with_reducible repeat (first | refine blk_drewN ?_ _ | refine blk_drew ?_ | refine blk_alloc ?_ _)); exact BK314.out⟩, ⟨by repeat (first | (with_reducible first | exact HB.out | apply below_alloc | apply pw_below_drewN | apply below_drew1 | refine below_set ?_ GE314.out) | exact HB.out)⟩⟩
  case round =>
    clear H'
    try clear c1
    try clear p2
    obtain ⟨x4_1, x315000_1, x315001_1, x315002_1, x315003_1, x315004_1, rfl, HA, HK1, BK314, HB⟩ := hrel
    cases gk with
    | zero => exact absurd HA.out (by simp [impl_reqRead.l0])
    | succ k1 =>
      have H := HA.out; clear HA; simp only [impl_reqRead.l0] at H; by_cases c3 : x4_1 ≤ 12
      · rw [if_pos c3] at H
        have c3b0 : decide (x4_1 ≤ 12) = true := decide_eq_true c3; clear c3; replace H := Option.bind_eq_some_iff.mp H; obtain ⟨⟨t315, t316, t317, t318, t319, t320⟩, A40, H⟩ := H; replace H : ((strings_Cut.f a0 (⟨#[32]⟩ : ByteArray)).bind fun bt322 => (if bt322.1.toList = t315.toList then (if t316 = true then (impl_reqRead.j1 k1 a0 bt322.2.2 t315 t316 t317 t318 t319 bt322.2.1 bt322.2.2 x4_1 (⟨#[]⟩ : ByteArray) (⟨#[]⟩ : ByteArray) 0 (⟨#[]⟩ : ByteArray)) else (impl_reqRead.j1 k1 a0 false t315 t316 t317 t318 t319 bt322.2.1 bt322.2.2 x4_1 (⟨#[]⟩ : ByteArray) (⟨#[]⟩ : ByteArray) 0 (⟨#[]⟩ : ByteArray))) else (impl_reqRead.l0 k1 a0 (wrap64 (x4_1 + 1))))) = some (r1, r2, r3, r4, r5, r6) := H; have A4 := Aside0.mk A40; clear A40; replace H := Option.bind_eq_some_iff.mp H; obtain ⟨⟨t322, t323, t324⟩, A50, H⟩ := H; replace H : (if t322.toList = t315.toList then (if t316 = true then (impl_reqRead.j1 k1 a0 t324 t315 t316 t317 t318 t319 t323 t324 x4_1 (⟨#[]⟩ : ByteArray) (⟨#[]⟩ : ByteArray) 0 (⟨#[]⟩ : ByteArray)) else (impl_reqRead.j1 k1 a0 false t315 t316 t317 t318 t319 t323 t324 x4_1 (⟨#[]⟩ : ByteArray) (⟨#[]⟩ : ByteArray) 0 (⟨#[]⟩ : ByteArray))) else (impl_reqRead.l0 k1 a0 (wrap64 (x4_1 + 1)))) = some (r1, r2, r3, r4, r5, r6) := H; have A5 := Aside0.mk A50; clear A50; by_cases c6 : t322.toList = t315.toList
        · rw [if_pos c6] at H
          have c6b0 : (t322.toList == t315.toList) = true := beq_iff_eq.mpr c6; have c6b1 : (t322.toList != t315.toList) = false := bne_eq_false_iff_eq.mpr c6; clear c6; have HC7 := Aside0.mk H; clear H
          go_upto_region 9 with (first | ((with_reducible refine gate_callee (f := 33) rfl ?_); refine goesL_ (some 20) rfl rfl Tryd.func33 (by kernel_rfl) rfl #[.int .i64 x4_1] rfl (by (try simp only [List.map_toArray, List.map_cons, List.map_nil]); first | done | rfl | (simp only [List.length_drop, List.length_take]; rfl)) ?_; (with_reducible refine (impl_formOf.calls x4_1 t315 t316 t317 t318 t319 t320 _ A4.out).mono ?_); rintro e w8 ⟨rfl, hb⟩; refine ⟨_, rfl, ?_⟩; have n0_ := Aside0.mk (blk_below (g := gb314) (o := .cells #[.int .i64 x315000_1, .string x315001_1, .string x315002_1, .int .i64 x315003_1, .string x315004_1] 25 (0, 0)) (by (with_reducible repeat (first | refine blk_drewN ?_ _ | refine blk_drew ?_ | refine blk_alloc ?_ _)); exact BK314.out) hb); have n1_ := Aside0.mk (below_step (by repeat (first | (with_reducible first | exact HB.out | apply below_alloc | apply pw_below_drewN | apply below_drew1 | refine below_set ?_ GE314.out) | exact HB.out)) hb); clear BK314; clear HB; have BK314 := n0_; have HB := n1_; clear n0_ n1_; (try clear hb); (try clear hb2); (try clear hk); (try clear hi)) | ((with_reducible refine gate_dst (N := 5) rfl ?_); refine box_event ?hg (N := 5) ?hd (cs := #[.string (⟨#[]⟩ : ByteArray), .bool false, .bool false, .bool false, .bool false]) (t := 53) ?hr ?_; (case hd => rfl); (case hg => rfl); (case hr => first | (go_simp; done) | (go_simp; rfl)); intro gb321 hg w9 hbox hb; have n0_ := Aside0.mk (blk_below (g := gb314) (o := .cells #[.int .i64 x315000_1, .string x315001_1, .string x315002_1, .int .i64 x315003_1, .string x315004_1] 25 (0, 0)) (by (with_reducible repeat (first | refine blk_drewN ?_ _ | refine blk_drew ?_ | refine blk_alloc ?_ _)); exact BK314.out) hb); have n1_ := Aside0.mk (below_step (by repeat (first | (with_reducible first | exact HB.out | apply below_alloc | apply pw_below_drewN | apply below_drew1 | refine below_set ?_ GE314.out) | exact HB.out)) hb); have n2_ := Aside0.mk (hbox); have n3_ := Aside0.mk ((by rw [hg]; exact (below_size (by repeat (first | (with_reducible first | exact HB.out | apply below_alloc | apply pw_below_drewN | apply below_drew1 | refine below_set ?_ GE314.out) | exact HB.out))) : w.heap.size ≤ gb321)); have n4_ := Aside0.mk ((by rw [hg]; exact (below_size (by repeat (first | (with_reducible first | exact HB.out | apply below_alloc | apply pw_below_drewN | apply below_drew1 | refine below_set ?_ GE314.out) | exact HB.out))) : w.heap.size ≤ gb321)); have n5_ := Aside0.mk ((by rw [hg]; exact Nat.ne_of_lt (blk_lt (g := gb314) (o := .cells #[.int .i64 x315000_1, .string x315001_1, .string x315002_1, .int .i64 x315003_1, .string x315004_1] 25 (0, 0)) (by (with_reducible repeat (first | refine blk_drewN ?_ _ | refine blk_drew ?_ | refine blk_alloc ?_ _)); exact BK314.out)) : gb314 ≠ gb321)); have n6_ := Aside0.mk ((by rw [hg]; exact Nat.ne_of_gt (blk_lt (g := gb314) (o := .cells #[.int .i64 x315000_1, .string x315001_1, .string x315002_1, .int .i64 x315003_1, .string x315004_1] 25 (0, 0)) (by (with_reducible repeat (first | refine blk_drewN ?_ _ | refine blk_drew ?_ | refine blk_alloc ?_ _)); exact BK314.out)) : gb321 ≠ gb314)); clear BK314; clear HB; have BK314 := n0_; have HB := n1_; have BK321 := n2_; have GW321 := n3_; have GE321 := n4_; have NB314_321 := n5_; have NB321_314 := n6_; clear n0_ n1_ n2_ n3_ n4_ n5_ n6_; clear hb hbox hg; have hnb10 := NB321_314.out; have hnc10 := NB314_321.out; have hcz11_0 : w9.cell? ⟨gb321, 0, none⟩ = some (.string (⟨#[]⟩ : ByteArray)) := (blk_cell BK321.out 0).trans rfl; have hcz11_1 : w9.cell? ⟨gb321, 1, none⟩ = some (.bool false) := (blk_cell BK321.out 1).trans rfl; have hcz11_2 : w9.cell? ⟨gb321, 2, none⟩ = some (.bool false) := (blk_cell BK321.out 2).trans rfl; have hcz11_3 : w9.cell? ⟨gb321, 3, none⟩ = some (.bool false) := (blk_cell BK321.out 3).trans rfl; have hcz11_4 : w9.cell? ⟨gb321, 4, none⟩ = some (.bool false) := (blk_cell BK321.out 4).trans rfl; have hfz11_0 := blk_frozen BK321.out 0; have hfz11_1 := blk_frozen BK321.out 1; have hfz11_2 := blk_frozen BK321.out 2; have hfz11_3 := blk_frozen BK321.out 3; have hfz11_4 := blk_frozen BK321.out 4) | ((with_reducible refine gate_callee (f := 34) rfl ?_); refine goesL_ (some 25) rfl rfl Tryd.func34 (by kernel_rfl) rfl #[.string a0, .string (⟨#[32]⟩ : ByteArray)] rfl (by (try simp only [List.map_toArray, List.map_cons, List.map_nil]); first | done | rfl | (simp only [List.length_drop, List.length_take]; rfl)) ?_; (with_reducible refine (strings_Cut.calls a0 (⟨#[32]⟩ : ByteArray) t322 t323 t324 _ A5.out).mono ?_); rintro e w' ⟨rfl, ⟨nd, rfl⟩⟩; refine ⟨_, rfl, ?_⟩) | ((with_reducible refine gate_dst (N := 8) rfl ?_); refine box_event ?hg (N := 8) ?hd (cs := #[.string (⟨#[]⟩ : ByteArray)]) (t := 9) ?hr ?_; (case hd => rfl); (case hg => rfl); (case hr => first | (go_simp; done) | (go_simp; rfl)); intro gb325 hg w12 hbox hb; have n0_ := Aside0.mk (blk_below (g := gb314) (o := .cells #[.int .i64 x315000_1, .string x315001_1, .string x315002_1, .int .i64 x315003_1, .string x315004_1] 25 (0, 0)) (by (with_reducible repeat (first | refine blk_drewN ?_ _ | refine blk_drew ?_ | refine blk_alloc ?_ _)); refine blk_far ?_ NB314_321.out _; (with_reducible repeat (first | refine blk_drewN ?_ _ | refine blk_drew ?_ | refine blk_alloc ?_ _)); refine blk_far ?_ NB314_321.out _; (with_reducible repeat (first | refine blk_drewN ?_ _ | refine blk_drew ?_ | refine blk_alloc ?_ _)); refine blk_far ?_ NB314_321.out _; (with_reducible repeat (first | refine blk_drewN ?_ _ | refine blk_drew ?_ | refine blk_alloc ?_ _)); refine blk_far ?_ NB314_321.out _; (with_reducible repeat (first | refine blk_drewN ?_ _ | refine blk_drew ?_ | refine blk_alloc ?_ _)); refine blk_far ?_ NB314_321.out _; (with_reducible repeat (first | refine blk_drewN ?_ _ | refine blk_drew ?_ | refine blk_alloc ?_ _)); exact BK314.out) hb); have n1_ := Aside0.mk (blk_below (g := gb321) (o := .cells #[.string t315, .bool t316, .bool t317, .bool t318, .bool t319] 53 (0, 0)) (by (with_reducible repeat (first | refine blk_drewN ?_ _ | refine blk_drew ?_ | refine blk_alloc ?_ _)); refine blk_put (cs := #[.string t315, .bool t316, .bool t317, .bool t318, .bool false]) ?_ 4 _ rfl; (with_reducible repeat (first | refine blk_drewN ?_ _ | refine blk_drew ?_ | refine blk_alloc ?_ _)); refine blk_put (cs := #[.string t315, .bool t316, .bool t317, .bool false, .bool false]) ?_ 3 _ rfl; (with_reducible repeat (first | refine blk_drewN ?_ _ | refine blk_drew ?_ | refine blk_alloc ?_ _)); refine blk_put (cs := #[.string t315, .bool t316, .bool false, .bool false, .bool false]) ?_ 2 _ rfl; (with_reducible repeat (first | refine blk_drewN ?_ _ | refine blk_drew ?_ | refine blk_alloc ?_ _)); refine blk_put (cs := #[.string t315, .bool false, .bool false, .bool false, .bool false]) ?_ 1 _ rfl; (with_reducible repeat (first | refine blk_drewN ?_ _ | refine blk_drew ?_ | refine blk_alloc ?_ _)); refine blk_put (cs := #[.string (⟨#[]⟩ : ByteArray), .bool false, .bool false, .bool false, .bool false]) ?_ 0 _ rfl; (with_reducible repeat (first | refine blk_drewN ?_ _ | refine blk_drew ?_ | refine blk_alloc ?_ _)); exact BK321.out) hb); have n2_ := Aside0.mk (below_step (by repeat (first | (with_reducible first | exact HB.out | apply below_alloc | apply pw_below_drewN | apply below_drew1 | refine below_set ?_ GE314.out | refine below_set ?_ GE321.out) | exact HB.out)) hb); have n3_ := Aside0.mk (hbox); have n4_ := Aside0.mk ((by rw [hg]; exact (below_size (by repeat (first | (with_reducible first | exact HB.out | apply below_alloc | apply pw_below_drewN | apply below_drew1 | refine below_set ?_ GE314.out | refine below_set ?_ GE321.out) | exact HB.out))) : w.heap.size ≤ gb325)); have n5_ := Aside0.mk ((by rw [hg]; exact (below_size (by repeat (first | (with_reducible first | exact HB.out | apply below_alloc | apply pw_below_drewN | apply below_drew1 | refine below_set ?_ GE314.out | refine below_set ?_ GE321.out) | exact HB.out))) : w.heap.size ≤ gb325)); have n6_ := Aside0.mk ((by rw [hg]; exact Nat.ne_of_lt (blk_lt (g := gb314) (o := .cells #[.int .i64 x315000_1, .string x315001_1, .string x315002_1, .int .i64 x315003_1, .string x315004_1] 25 (0, 0)) (by (with_reducible repeat (first | refine blk_drewN ?_ _ | refine blk_drew ?_ | refine blk_alloc ?_ _)); refine blk_far ?_ NB314_321.out _; (with_reducible repeat (first | refine blk_drewN ?_ _ | refine blk_drew ?_ | refine blk_alloc ?_ _)); refine blk_far ?_ NB314_321.out _; (with_reducible repeat (first | refine blk_drewN ?_ _ | refine blk_drew ?_ | refine blk_alloc ?_ _)); refine blk_far ?_ NB314_321.out _; (with_reducible repeat (first | refine blk_drewN ?_ _ | refine blk_drew ?_ | refine blk_alloc ?_ _)); refine blk_far ?_ NB314_321.out _; (with_reducible repeat (first | refine blk_drewN ?_ _ | refine blk_drew ?_ | refine blk_alloc ?_ _)); refine blk_far ?_ NB314_321.out _; (with_reducible repeat (first | refine blk_drewN ?_ _ | refine blk_drew ?_ | refine blk_alloc ?_ _)); exact BK314.out)) : gb314 ≠ gb325)); have n7_ := Aside0.mk ((by rw [hg]; exact Nat.ne_of_gt (blk_lt (g := gb314) (o := .cells #[.int .i64 x315000_1, .string x315001_1, .string x315002_1, .int .i64 x315003_1, .string x315004_1] 25 (0, 0)) (by (with_reducible repeat (first | refine blk_drewN ?_ _ | refine blk_drew ?_ | refine blk_alloc ?_ _)); refine blk_far ?_ NB314_321.out _; (with_reducible repeat (first | refine blk_drewN ?_ _ | refine blk_drew ?_ | refine blk_alloc ?_ _)); refine blk_far ?_ NB314_321.out _; (with_reducible repeat (first | refine blk_drewN ?_ _ | refine blk_drew ?_ | refine blk_alloc ?_ _)); refine blk_far ?_ NB314_321.out _; (with_reducible repeat (first | refine blk_drewN ?_ _ | refine blk_drew ?_ | refine blk_alloc ?_ _)); refine blk_far ?_ NB314_321.out _; (with_reducible repeat (first | refine blk_drewN ?_ _ | refine blk_drew ?_ | refine blk_alloc ?_ _)); refine blk_far ?_ NB314_321.out _; (with_reducible repeat (first | refine blk_drewN ?_ _ | refine blk_drew ?_ | refine blk_alloc ?_ _)); exact BK314.out)) : gb325 ≠ gb314)); have n8_ := Aside0.mk ((by rw [hg]; exact Nat.ne_of_lt (blk_lt (g := gb321) (o := .cells #[.string t315, .bool t316, .bool t317, .bool t318, .bool t319] 53 (0, 0)) (by (with_reducible repeat (first | refine blk_drewN ?_ _ | refine blk_drew ?_ | refine blk_alloc ?_ _)); refine blk_put (cs := #[.string t315, .bool t316, .bool t317, .bool t318, .bool false]) ?_ 4 _ rfl; (with_reducible repeat (first | refine blk_drewN ?_ _ | refine blk_drew ?_ | refine blk_alloc ?_ _)); refine blk_put (cs := #[.string t315, .bool t316, .bool t317, .bool false, .bool false]) ?_ 3 _ rfl; (with_reducible repeat (first | refine blk_drewN ?_ _ | refine blk_drew ?_ | refine blk_alloc ?_ _)); refine blk_put (cs := #[.string t315, .bool t316, .bool false, .bool false, .bool false]) ?_ 2 _ rfl; (with_reducible repeat (first | refine blk_drewN ?_ _ | refine blk_drew ?_ | refine blk_alloc ?_ _)); refine blk_put (cs := #[.string t315, .bool false, .bool false, .bool false, .bool false]) ?_ 1 _ rfl; (with_reducible repeat (first | refine blk_drewN ?_ _ | refine blk_drew ?_ | refine blk_alloc ?_ _)); refine blk_put (cs := #[.string (⟨#[]⟩ : ByteArray), .bool false, .bool false, .bool false, .bool false]) ?_ 0 _ rfl; (with_reducible repeat (first | refine blk_drewN ?_ _ | refine blk_drew ?_ | refine blk_alloc ?_ _)); exact BK321.out)) : gb321 ≠ gb325)); have n9_ := Aside0.mk ((by rw [hg]; exact Nat.ne_of_gt (blk_lt (g := gb321) (o := .cells #[.string t315, .bool t316, .bool t317, .bool t318, .bool t319] 53 (0, 0)) (by (with_reducible repeat (first | refine blk_drewN ?_ _ | refine blk_drew ?_ | refine blk_alloc ?_ _)); refine blk_put (cs := #[.string t315, .bool t316, .bool t317, .bool t318, .bool false]) ?_ 4 _ rfl; (with_reducible repeat (first | refine blk_drewN ?_ _ | refine blk_drew ?_ | refine blk_alloc ?_ _)); refine blk_put (cs := #[.string t315, .bool t316, .bool t317, .bool false, .bool false]) ?_ 3 _ rfl; (with_reducible repeat (first | refine blk_drewN ?_ _ | refine blk_drew ?_ | refine blk_alloc ?_ _)); refine blk_put (cs := #[.string t315, .bool t316, .bool false, .bool false, .bool false]) ?_ 2 _ rfl; (with_reducible repeat (first | refine blk_drewN ?_ _ | refine blk_drew ?_ | refine blk_alloc ?_ _)); refine blk_put (cs := #[.string t315, .bool false, .bool false, .bool false, .bool false]) ?_ 1 _ rfl; (with_reducible repeat (first | refine blk_drewN ?_ _ | refine blk_drew ?_ | refine blk_alloc ?_ _)); refine blk_put (cs := #[.string (⟨#[]⟩ : ByteArray), .bool false, .bool false, .bool false, .bool false]) ?_ 0 _ rfl; (with_reducible repeat (first | refine blk_drewN ?_ _ | refine blk_drew ?_ | refine blk_alloc ?_ _)); exact BK321.out)) : gb325 ≠ gb321)); clear BK314; clear BK321; clear HB; have BK314 := n0_; have BK321 := n1_; have HB := n2_; have BK325 := n3_; have GW325 := n4_; have GE325 := n5_; have NB314_325 := n6_; have NB325_314 := n7_; have NB321_325 := n8_; have NB325_321 := n9_; clear n0_ n1_ n2_ n3_ n4_ n5_ n6_ n7_ n8_ n9_; clear hb hbox hg) | ((with_reducible refine gate_dst (N := 9) rfl ?_); refine box_event ?hg (N := 9) ?hd (cs := #[.bool false]) (t := 4) ?hr ?_; (case hd => rfl); (case hg => rfl); (case hr => first | (go_simp; done) | (go_simp; rfl)); intro gb326 hg w13 hbox hb; have n0_ := Aside0.mk (blk_below (g := gb314) (o := .cells #[.int .i64 x315000_1, .string x315001_1, .string x315002_1, .int .i64 x315003_1, .string x315004_1] 25 (0, 0)) (by (with_reducible repeat (first | refine blk_drewN ?_ _ | refine blk_drew ?_ | refine blk_alloc ?_ _)); exact BK314.out) hb); have n1_ := Aside0.mk (blk_below (g := gb321) (o := .cells #[.string t315, .bool t316, .bool t317, .bool t318, .bool t319] 53 (0, 0)) (by (with_reducible repeat (first | refine blk_drewN ?_ _ | refine blk_drew ?_ | refine blk_alloc ?_ _)); exact BK321.out) hb); have n2_ := Aside0.mk (blk_below (g := gb325) (o := .cells #[.string (⟨#[]⟩ : ByteArray)] 9 (0, 0)) (by (with_reducible repeat (first | refine blk_drewN ?_ _ | refine blk_drew ?_ | refine blk_alloc ?_ _)); exact BK325.out) hb); have n3_ := Aside0.mk (below_step (by repeat (first | (with_reducible first | exact HB.out | apply below_alloc | apply pw_below_drewN | apply below_drew1 | refine below_set ?_ GE314.out | refine below_set ?_ GE321.out | refine below_set ?_ GE325.out) | exact HB.out)) hb); have n4_ := Aside0.mk (hbox); have n5_ := Aside0.mk ((by rw [hg]; exact (below_size (by repeat (first | (with_reducible first | exact HB.out | apply below_alloc | apply pw_below_drewN | apply below_drew1 | refine below_set ?_ GE314.out | refine below_set ?_ GE321.out | refine below_set ?_ GE325.out) | exact HB.out))) : w.heap.size ≤ gb326)); have n6_ := Aside0.mk ((by rw [hg]; exact (below_size (by repeat (first | (with_reducible first | exact HB.out | apply below_alloc | apply pw_below_drewN | apply below_drew1 | refine below_set ?_ GE314.out | refine below_set ?_ GE321.out | refine below_set ?_ GE325.out) | exact HB.out))) : w.heap.size ≤ gb326)); have n7_ := Aside0.mk ((by rw [hg]; exact Nat.ne_of_lt (blk_lt (g := gb314) (o := .cells #[.int .i64 x315000_1, .string x315001_1, .string x315002_1, .int .i64 x315003_1, .string x315004_1] 25 (0, 0)) (by (with_reducible repeat (first | refine blk_drewN ?_ _ | refine blk_drew ?_ | refine blk_alloc ?_ _)); exact BK314.out)) : gb314 ≠ gb326)); have n8_ := Aside0.mk ((by rw [hg]; exact Nat.ne_of_gt (blk_lt (g := gb314) (o := .cells #[.int .i64 x315000_1, .string x315001_1, .string x315002_1, .int .i64 x315003_1, .string x315004_1] 25 (0, 0)) (by (with_reducible repeat (first | refine blk_drewN ?_ _ | refine blk_drew ?_ | refine blk_alloc ?_ _)); exact BK314.out)) : gb326 ≠ gb314)); have n9_ := Aside0.mk ((by rw [hg]; exact Nat.ne_of_lt (blk_lt (g := gb321) (o := .cells #[.string t315, .bool t316, .bool t317, .bool t318, .bool t319] 53 (0, 0)) (by (with_reducible repeat (first | refine blk_drewN ?_ _ | refine blk_drew ?_ | refine blk_alloc ?_ _)); exact BK321.out)) : gb321 ≠ gb326)); have n10_ := Aside0.mk ((by rw [hg]; exact Nat.ne_of_gt (blk_lt (g := gb321) (o := .cells #[.string t315, .bool t316, .bool t317, .bool t318, .bool t319] 53 (0, 0)) (by (with_reducible repeat (first | refine blk_drewN ?_ _ | refine blk_drew ?_ | refine blk_alloc ?_ _)); exact BK321.out)) : gb326 ≠ gb321)); have n11_ := Aside0.mk ((by rw [hg]; exact Nat.ne_of_lt (blk_lt (g := gb325) (o := .cells #[.string (⟨#[]⟩ : ByteArray)] 9 (0, 0)) (by (with_reducible repeat (first | refine blk_drewN ?_ _ | refine blk_drew ?_ | refine blk_alloc ?_ _)); exact BK325.out)) : gb325 ≠ gb326)); have n12_ := Aside0.mk ((by rw [hg]; exact Nat.ne_of_gt (blk_lt (g := gb325) (o := .cells #[.string (⟨#[]⟩ : ByteArray)] 9 (0, 0)) (by (with_reducible repeat (first | refine blk_drewN ?_ _ | refine blk_drew ?_ | refine blk_alloc ?_ _)); exact BK325.out)) : gb326 ≠ gb325)); clear BK314; clear BK321; clear BK325; clear HB; have BK314 := n0_; have BK321 := n1_; have BK325 := n2_; have HB := n3_; have BK326 := n4_; have GW326 := n5_; have GE326 := n6_; have NB314_326 := n7_; have NB326_314 := n8_; have NB321_326 := n9_; have NB326_321 := n10_; have NB325_326 := n11_; have NB326_325 := n12_; clear n0_ n1_ n2_ n3_ n4_ n5_ n6_ n7_ n8_ n9_ n10_ n11_ n12_; clear hb hbox hg; have hnb14 := NB325_314.out; have hnc14 := NB314_325.out; have hnb15 := NB325_321.out; have hnc15 := NB321_325.out; have hnb16 := NB325_326.out; have hnc16 := NB326_325.out; have hcz17_0 : w13.cell? ⟨gb325, 0, none⟩ = some (.string (⟨#[]⟩ : ByteArray)) := (blk_cell BK325.out 0).trans rfl; have hfz17_0 := blk_frozen BK325.out 0; have hnb18 := NB326_314.out; have hnc18 := NB314_326.out; have hnb19 := NB326_321.out; have hnc19 := NB321_326.out; have hcz20_0 : w13.cell? ⟨gb326, 0, none⟩ = some (.bool false) := (blk_cell BK326.out 0).trans rfl; have hfz20_0 := blk_frozen BK326.out 0; have hcz21_0 : w13.cell? ⟨gb321, 0, none⟩ = some (.string t315) := (blk_cell BK321.out 0).trans rfl; have hcz21_1 : w13.cell? ⟨gb321, 1, none⟩ = some (.bool t316) := (blk_cell BK321.out 1).trans rfl; have hcz21_2 : w13.cell? ⟨gb321, 2, none⟩ = some (.bool t317) := (blk_cell BK321.out 2).trans rfl; have hcz21_3 : w13.cell? ⟨gb321, 3, none⟩ = some (.bool t318) := (blk_cell BK321.out 3).trans rfl; have hcz21_4 : w13.cell? ⟨gb321, 4, none⟩ = some (.bool t319) := (blk_cell BK321.out 4).trans rfl; have hfz21_0 := blk_frozen BK321.out 0; have hfz21_1 := blk_frozen BK321.out 1; have hfz21_2 := blk_frozen BK321.out 2; have hfz21_3 := blk_frozen BK321.out 3; have hfz21_4 := blk_frozen BK321.out 4) | ((with_reducible refine gate_dst (N := 10) rfl ?_); refine box_event ?hg (N := 10) ?hd (cs := #[.int .i64 0, .string (⟨#[]⟩ : ByteArray), .string (⟨#[]⟩ : ByteArray), .int .i64 0, .string (⟨#[]⟩ : ByteArray)]) (t := 25) ?hr ?_; (case hd => rfl); (case hg => rfl); (case hr => first | (go_simp; done) | (go_simp; rfl)); intro gb327 hg w22 hbox hb; have n0_ := Aside0.mk (blk_below (g := gb314) (o := .cells #[.int .i64 x315000_1, .string x315001_1, .string x315002_1, .int .i64 x315003_1, .string x315004_1] 25 (0, 0)) (by (with_reducible repeat (first | refine blk_drewN ?_ _ | refine blk_drew ?_ | refine blk_alloc ?_ _)); refine blk_far ?_ NB314_326.out _; (with_reducible repeat (first | refine blk_drewN ?_ _ | refine blk_drew ?_ | refine blk_alloc ?_ _)); refine blk_far ?_ NB314_325.out _; (with_reducible repeat (first | refine blk_drewN ?_ _ | refine blk_drew ?_ | refine blk_alloc ?_ _)); exact BK314.out) hb); have n1_ := Aside0.mk (blk_below (g := gb321) (o := .cells #[.string t315, .bool t316, .bool t317, .bool t318, .bool t319] 53 (0, 0)) (by (with_reducible repeat (first | refine blk_drewN ?_ _ | refine blk_drew ?_ | refine blk_alloc ?_ _)); refine blk_far ?_ NB321_326.out _; (with_reducible repeat (first | refine blk_drewN ?_ _ | refine blk_drew ?_ | refine blk_alloc ?_ _)); refine blk_far ?_ NB321_325.out _; (with_reducible repeat (first | refine blk_drewN ?_ _ | refine blk_drew ?_ | refine blk_alloc ?_ _)); exact BK321.out) hb); have n2_ := Aside0.mk (blk_below (g := gb325) (o := .cells #[.string t323] 9 (0, 0)) (by (with_reducible repeat (first | refine blk_drewN ?_ _ | refine blk_drew ?_ | refine blk_alloc ?_ _)); refine blk_far ?_ NB325_326.out _; (with_reducible repeat (first | refine blk_drewN ?_ _ | refine blk_drew ?_ | refine blk_alloc ?_ _)); refine blk_put (cs := #[.string (⟨#[]⟩ : ByteArray)]) ?_ 0 _ rfl; (with_reducible repeat (first | refine blk_drewN ?_ _ | refine blk_drew ?_ | refine blk_alloc ?_ _)); exact BK325.out) hb); have n3_ := Aside0.mk (blk_below (g := gb326) (o := .cells #[.bool t324] 4 (0, 0)) (by (with_reducible repeat (first | refine blk_drewN ?_ _ | refine blk_drew ?_ | refine blk_alloc ?_ _)); refine blk_put (cs := #[.bool false]) ?_ 0 _ rfl; (with_reducible repeat (first | refine blk_drewN ?_ _ | refine blk_drew ?_ | refine blk_alloc ?_ _)); refine blk_far ?_ NB326_325.out _; (with_reducible repeat (first | refine blk_drewN ?_ _ | refine blk_drew ?_ | refine blk_alloc ?_ _)); exact BK326.out) hb); have n4_ := Aside0.mk (below_step (by repeat (first | (with_reducible first | exact HB.out | apply below_alloc | apply pw_below_drewN | apply below_drew1 | refine below_set ?_ GE314.out | refine below_set ?_ GE321.out | refine below_set ?_ GE325.out | refine below_set ?_ GE326.out) | exact HB.out)) hb); have n5_ := Aside0.mk (hbox); have n6_ := Aside0.mk ((by rw [hg]; exact (below_size (by repeat (first | (with_reducible first | exact HB.out | apply below_alloc | apply pw_below_drewN | apply below_drew1 | refine below_set ?_ GE314.out | refine below_set ?_ GE321.out | refine below_set ?_ GE325.out | refine below_set ?_ GE326.out) | exact HB.out))) : w.heap.size ≤ gb327)); have n7_ := Aside0.mk ((by rw [hg]; exact (below_size (by repeat (first | (with_reducible first | exact HB.out | apply below_alloc | apply pw_below_drewN | apply below_drew1 | refine below_set ?_ GE314.out | refine below_set ?_ GE321.out | refine below_set ?_ GE325.out | refine below_set ?_ GE326.out) | exact HB.out))) : w.heap.size ≤ gb327)); have n8_ := Aside0.mk ((by rw [hg]; exact Nat.ne_of_lt (blk_lt (g := gb314) (o := .cells #[.int .i64 x315000_1, .string x315001_1, .string x315002_1, .int .i64 x315003_1, .string x315004_1] 25 (0, 0)) (by (with_reducible repeat (first | refine blk_drewN ?_ _ | refine blk_drew ?_ | refine blk_alloc ?_ _)); refine blk_far ?_ NB314_326.out _; (with_reducible repeat (first | refine blk_drewN ?_ _ | refine blk_drew ?_ | refine blk_alloc ?_ _)); refine blk_far ?_ NB314_325.out _; (with_reducible repeat (first | refine blk_drewN ?_ _ | refine blk_drew ?_ | refine blk_alloc ?_ _)); exact BK314.out)) : gb314 ≠ gb327)); have n9_ := Aside0.mk ((by rw [hg]; exact Nat.ne_of_gt (blk_lt (g := gb314) (o := .cells #[.int .i64 x315000_1, .string x315001_1, .string x315002_1, .int .i64 x315003_1, .string x315004_1] 25 (0, 0)) (by (with_reducible repeat (first | refine blk_drewN ?_ _ | refine blk_drew ?_ | refine blk_alloc ?_ _)); refine blk_far ?_ NB314_326.out _; (with_reducible repeat (first | refine blk_drewN ?_ _ | refine blk_drew ?_ | refine blk_alloc ?_ _)); refine blk_far ?_ NB314_325.out _; (with_reducible repeat (first | refine blk_drewN ?_ _ | refine blk_drew ?_ | refine blk_alloc ?_ _)); exact BK314.out)) : gb327 ≠ gb314)); have n10_ := Aside0.mk ((by rw [hg]; exact Nat.ne_of_lt (blk_lt (g := gb321) (o := .cells #[.string t315, .bool t316, .bool t317, .bool t318, .bool t319] 53 (0, 0)) (by (with_reducible repeat (first | refine blk_drewN ?_ _ | refine blk_drew ?_ | refine blk_alloc ?_ _)); refine blk_far ?_ NB321_326.out _; (with_reducible repeat (first | refine blk_drewN ?_ _ | refine blk_drew ?_ | refine blk_alloc ?_ _)); refine blk_far ?_ NB321_325.out _; (with_reducible repeat (first | refine blk_drewN ?_ _ | refine blk_drew ?_ | refine blk_alloc ?_ _)); exact BK321.out)) : gb321 ≠ gb327)); have n11_ := Aside0.mk ((by rw [hg]; exact Nat.ne_of_gt (blk_lt (g := gb321) (o := .cells #[.string t315, .bool t316, .bool t317, .bool t318, .bool t319] 53 (0, 0)) (by (with_reducible repeat (first | refine blk_drewN ?_ _ | refine blk_drew ?_ | refine blk_alloc ?_ _)); refine blk_far ?_ NB321_326.out _; (with_reducible repeat (first | refine blk_drewN ?_ _ | refine blk_drew ?_ | refine blk_alloc ?_ _)); refine blk_far ?_ NB321_325.out _; (with_reducible repeat (first | refine blk_drewN ?_ _ | refine blk_drew ?_ | refine blk_alloc ?_ _)); exact BK321.out)) : gb327 ≠ gb321)); have n12_ := Aside0.mk ((by rw [hg]; exact Nat.ne_of_lt (blk_lt (g := gb325) (o := .cells #[.string t323] 9 (0, 0)) (by (with_reducible repeat (first | refine blk_drewN ?_ _ | refine blk_drew ?_ | refine blk_alloc ?_ _)); refine blk_far ?_ NB325_326.out _; (with_reducible repeat (first | refine blk_drewN ?_ _ | refine blk_drew ?_ | refine blk_alloc ?_ _)); refine blk_put (cs := #[.string (⟨#[]⟩ : ByteArray)]) ?_ 0 _ rfl; (with_reducible repeat (first | refine blk_drewN ?_ _ | refine blk_drew ?_ | refine blk_alloc ?_ _)); exact BK325.out)) : gb325 ≠ gb327)); have n13_ := Aside0.mk ((by rw [hg]; exact Nat.ne_of_gt (blk_lt (g := gb325) (o := .cells #[.string t323] 9 (0, 0)) (by (with_reducible repeat (first | refine blk_drewN ?_ _ | refine blk_drew ?_ | refine blk_alloc ?_ _)); refine blk_far ?_ NB325_326.out _; (with_reducible repeat (first | refine blk_drewN ?_ _ | refine blk_drew ?_ | refine blk_alloc ?_ _)); refine blk_put (cs := #[.string (⟨#[]⟩ : ByteArray)]) ?_ 0 _ rfl; (with_reducible repeat (first | refine blk_drewN ?_ _ | refine blk_drew ?_ | refine blk_alloc ?_ _)); exact BK325.out)) : gb327 ≠ gb325)); have n14_ := Aside0.mk ((by rw [hg]; exact Nat.ne_of_lt (blk_lt (g := gb326) (o := .cells #[.bool t324] 4 (0, 0)) (by (with_reducible repeat (first | refine blk_drewN ?_ _ | refine blk_drew ?_ | refine blk_alloc ?_ _)); refine blk_put (cs := #[.bool false]) ?_ 0 _ rfl; (with_reducible repeat (first | refine blk_drewN ?_ _ | refine blk_drew ?_ | refine blk_alloc ?_ _)); refine blk_far ?_ NB326_325.out _; (with_reducible repeat (first | refine blk_drewN ?_ _ | refine blk_drew ?_ | refine blk_alloc ?_ _)); exact BK326.out)) : gb326 ≠ gb327)); have n15_ := Aside0.mk ((by rw [hg]; exact Nat.ne_of_gt (blk_lt (g := gb326) (o := .cells #[.bool t324] 4 (0, 0)) (by (with_reducible repeat (first | refine blk_drewN ?_ _ | refine blk_drew ?_ | refine blk_alloc ?_ _)); refine blk_put (cs := #[.bool false]) ?_ 0 _ rfl; (with_reducible repeat (first | refine blk_drewN ?_ _ | refine blk_drew ?_ | refine blk_alloc ?_ _)); refine blk_far ?_ NB326_325.out _; (with_reducible repeat (first | refine blk_drewN ?_ _ | refine blk_drew ?_ | refine blk_alloc ?_ _)); exact BK326.out)) : gb327 ≠ gb326)); clear BK314; clear BK321; clear BK325; clear BK326; clear HB; have BK314 := n0_; have BK321 := n1_; have BK325 := n2_; have BK326 := n3_; have HB := n4_; have BK327 := n5_; have GW327 := n6_; have GE327 := n7_; have NB314_327 := n8_; have NB327_314 := n9_; have NB321_327 := n10_; have NB327_321 := n11_; have NB325_327 := n12_; have NB327_325 := n13_; have NB326_327 := n14_; have NB327_326 := n15_; clear n0_ n1_ n2_ n3_ n4_ n5_ n6_ n7_ n8_ n9_ n10_ n11_ n12_ n13_ n14_ n15_; clear hb hbox hg; have hnb23 := NB327_314.out; have hnc23 := NB314_327.out; have hnb24 := NB327_321.out; have hnc24 := NB321_327.out; have hnb25 := NB327_325.out; have hnc25 := NB325_327.out; have hnb26 := NB327_326.out; have hnc26 := NB326_327.out; have hcz27_0 : w22.cell? ⟨gb327, 0, none⟩ = some (.int .i64 0) := (blk_cell BK327.out 0).trans rfl; have hcz27_1 : w22.cell? ⟨gb327, 1, none⟩ = some (.string (⟨#[]⟩ : ByteArray)) := (blk_cell BK327.out 1).trans rfl; have hcz27_2 : w22.cell? ⟨gb327, 2, none⟩ = some (.string (⟨#[]⟩ : ByteArray)) := (blk_cell BK327.out 2).trans rfl; have hcz27_3 : w22.cell? ⟨gb327, 3, none⟩ = some (.int .i64 0) := (blk_cell BK327.out 3).trans rfl; have hcz27_4 : w22.cell? ⟨gb327, 4, none⟩ = some (.string (⟨#[]⟩ : ByteArray)) := (blk_cell BK327.out 4).trans rfl; have hfz27_0 := blk_frozen BK327.out 0; have hfz27_1 := blk_frozen BK327.out 1; have hfz27_2 := blk_frozen BK327.out 2; have hfz27_3 := blk_frozen BK327.out 3; have hfz27_4 := blk_frozen BK327.out 4))
          (try simp only [Act.put, List.setIfInBounds_toArray, List.set_cons_zero, List.set_cons_succ])
          go_cut [40] (fun v40 wc => ∃ (kq : Nat) (x40_6 : Bool), v40 = .bool x40_6 ∧ Aside0 (impl_reqRead.j1 kq a0 x40_6 t315 t316 t317 t318 t319 t323 t324 x4_1 (⟨#[]⟩ : ByteArray) (⟨#[]⟩ : ByteArray) 0 (⟨#[]⟩ : ByteArray) = some (r1, r2, r3, r4, r5, r6)) ∧ Aside0 (kq ≤ k1) ∧ Aside0 (wc.heap[gb314]? = some (.cells #[.int .i64 x315000_1, .string x315001_1, .string x315002_1, .int .i64 x315003_1, .string x315004_1] 25 (0, 0))) ∧ Aside0 (wc.heap[gb321]? = some (.cells #[.string t315, .bool t316, .bool t317, .bool t318, .bool t319] 53 (0, 0))) ∧ Aside0 (wc.heap[gb325]? = some (.cells #[.string t323] 9 (0, 0))) ∧ Aside0 (wc.heap[gb326]? = some (.cells #[.bool t324] 4 (0, 0))) ∧ Aside0 (wc.heap[gb327]? = some (.cells #[.int .i64 x4_1, .string (⟨#[]⟩ : ByteArray), .string (⟨#[]⟩ : ByteArray), .int .i64 0, .string (⟨#[]⟩ : ByteArray)] 25 (0, 0))) ∧ Aside0 (Below w.heap.size w wc))
          case first =>
            have H := HC7.out; clear HC7; by_cases c28 : t316 = true
            · subst c28
              have H1 : (impl_reqRead.j1 k1 a0 t324 t315 true t317 t318 t319 t323 t324 x4_1 (⟨#[]⟩ : ByteArray) (⟨#[]⟩ : ByteArray) 0 (⟨#[]⟩ : ByteArray)) = some (r1, r2, r3, r4, r5, r6) := by rw [if_pos rfl] at H; exact H
              clear H; have H := H1; clear H1; have H' := Aside0.mk H; clear H; have hnb29 := NB321_314.out; have hnc29 := NB314_321.out; have hnb30 := NB321_325.out; have hnc30 := NB325_321.out; have hnb31 := NB321_326.out; have hnc31 := NB326_321.out; have hnb32 := NB321_327.out; have hnc32 := NB327_321.out; have hcz33_0 : w22.cell? ⟨gb321, 0, none⟩ = some (.string t315) := (blk_cell BK321.out 0).trans rfl; have hcz33_1 : w22.cell? ⟨gb321, 1, none⟩ = some (.bool true) := (blk_cell BK321.out 1).trans rfl; have hcz33_2 : w22.cell? ⟨gb321, 2, none⟩ = some (.bool t317) := (blk_cell BK321.out 2).trans rfl; have hcz33_3 : w22.cell? ⟨gb321, 3, none⟩ = some (.bool t318) := (blk_cell BK321.out 3).trans rfl; have hcz33_4 : w22.cell? ⟨gb321, 4, none⟩ = some (.bool t319) := (blk_cell BK321.out 4).trans rfl; have hfz33_0 := blk_frozen BK321.out 0; have hfz33_1 := blk_frozen BK321.out 1; have hfz33_2 := blk_frozen BK321.out 2; have hfz33_3 := blk_frozen BK321.out 3; have hfz33_4 := blk_frozen BK321.out 4; have hnb34 := NB326_314.out; have hnc34 := NB314_326.out; have hnb35 := NB326_325.out; have hnc35 := NB325_326.out; have hnb36 := NB326_327.out; have hnc36 := NB327_326.out; have hcz37_0 : w22.cell? ⟨gb326, 0, none⟩ = some (.bool t324) := (blk_cell BK326.out 0).trans rfl; have hfz37_0 := blk_frozen BK326.out 0
              go_wp2
              go_meet
              case rel => exact ⟨_, (t324), (by first | rfl | (simp; done) | (simp [*]; done)), H', ⟨by have := HK1.out; first | omega | exact Nat.le_refl _⟩, ⟨by (with_reducible repeat (first | refine blk_drewN ?_ _ | refine blk_drew ?_ | refine blk_alloc ?_ _)); refine blk_far ?_ NB314_327.out _; (with_reducible repeat (first | refine blk_drewN ?_ _ | refine blk_drew ?_ | refine blk_alloc ?_ _)); refine blk_far ?_ NB314_327.out _; (with_reducible repeat (first | refine blk_drewN ?_ _ | refine blk_drew ?_ | refine blk_alloc ?_ _)); refine blk_far ?_ NB314_327.out _; (with_reducible repeat (first | refine blk_drewN ?_ _ | refine blk_drew ?_ | refine blk_alloc ?_ _)); refine blk_far ?_ NB314_327.out _; (with_reducible repeat (first | refine blk_drewN ?_ _ | refine blk_drew ?_ | refine blk_alloc ?_ _)); refine blk_far ?_ NB314_327.out _; (with_reducible repeat (first | refine blk_drewN ?_ _ | refine blk_drew ?_ | refine blk_alloc ?_ _)); exact BK314.out⟩, ⟨by (with_reducible repeat (first | refine blk_drewN ?_ _ | refine blk_drew ?_ | refine blk_alloc ?_ _)); refine blk_far ?_ NB321_327.out _; (with_reducible repeat (first | refine blk_drewN ?_ _ | refine blk_drew ?_ | refine blk_alloc ?_ _)); refine blk_far ?_ NB321_327.out _; (with_reducible repeat (first | refine blk_drewN ?_ _ | refine blk_drew ?_ | refine blk_alloc ?_ _)); refine blk_far ?_ NB321_327.out _; (with_reducible repeat (first | refine blk_drewN ?_ _ | refine blk_drew ?_ | refine blk_alloc ?_ _)); refine blk_far ?_ NB321_327.out _; (with_reducible repeat (first | refine blk_drewN ?_ _ | refine blk_drew ?_ | refine blk_alloc ?_ _)); refine blk_far ?_ NB321_327.out _; (with_reducible repeat (first | refine blk_drewN ?_ _ | refine blk_drew ?_ | refine blk_alloc ?_ _)); exact BK321.out⟩, ⟨by (with_reducible repeat (first | refine blk_drewN ?_ _ | refine blk_drew ?_ | refine blk_alloc ?_ _)); refine blk_far ?_ NB325_327.out _; (with_reducible repeat (first | refine blk_drewN ?_ _ | refine blk_drew ?_ | refine blk_alloc ?_ _)); refine blk_far ?_ NB325_327.out _; (with_reducible repeat (first | refine blk_drewN ?_ _ | refine blk_drew ?_ | refine blk_alloc ?_ _)); refine blk_far ?_ NB325_327.out _; (with_reducible repeat (first | refine blk_drewN ?_ _ | refine blk_drew ?_ | refine blk_alloc ?_ _)); refine blk_far ?_ NB325_327.out _; (with_reducible repeat (first | refine blk_drewN ?_ _ | refine blk_drew ?_ | refine blk_alloc ?_ _)); refine blk_far ?_ NB325_327.out _; (with_reducible repeat (first | refine blk_drewN ?_ _ | refine blk_drew ?_ | refine blk_alloc ?_ _)); exact BK325.out⟩, ⟨by (with_reducible repeat (first | refine blk_drewN ?_ _ | refine blk_drew ?_ | refine blk_alloc ?_ _)); refine blk_far ?_ NB326_327.out _; (with_reducible repeat (first | refine blk_drewN ?_ _ | refine blk_drew ?_ | refine blk_alloc ?_ _)); refine blk_far ?_ NB326_327.out _; (with_reducible repeat (first | refine blk_drewN ?_ _ | refine blk_drew ?_ | refine blk_alloc ?_ _)); refine blk_far ?_ NB326_327.out _; (with_reducible repeat (first | refine blk_drewN ?_ _ | refine blk_drew ?_ | refine blk_alloc ?_ _)); refine blk_far ?_ NB326_327.out _; (with_reducible repeat (first | refine blk_drewN ?_ _ | refine blk_drew ?_ | refine blk_alloc ?_ _)); refine blk_far ?_ NB326_327.out _; (with_reducible repeat (first | refine blk_drewN ?_ _ | refine blk_drew ?_ | refine blk_alloc ?_ _)); exact BK326.out⟩, ⟨by (with_reducible repeat (first | refine blk_drewN ?_ _ | refine blk_drew ?_ | refine blk_alloc ?_ _)); refine blk_put (cs := #[.int .i64 x4_1, .string (⟨#[]⟩ : ByteArray), .string (⟨#[]⟩ : ByteArray), .int .i64 0, .string (⟨#[]⟩ : ByteArray)]) ?_ 4 _ rfl; (with_reducible repeat (first | refine blk_drewN ?_ _ | refine blk_drew ?_ | refine blk_alloc ?_ _)); refine blk_put (cs := #[.int .i64 x4_1, .string (⟨#[]⟩ : ByteArray), .string (⟨#[]⟩ : ByteArray), .int .i64 0, .string (⟨#[]⟩ : ByteArray)]) ?_ 3 _ rfl; (with_reducible repeat (first | refine blk_drewN ?_ _ | refine blk_drew ?_ | refine blk_alloc ?_ _)); refine blk_put (cs := #[.int .i64 x4_1, .string (⟨#[]⟩ : ByteArray), .string (⟨#[]⟩ : ByteArray), .int .i64 0, .string (⟨#[]⟩ : ByteArray)]) ?_ 2 _ rfl; (with_reducible repeat (first | refine blk_drewN ?_ _ | refine blk_drew ?_ | refine blk_alloc ?_ _)); refine blk_put (cs := #[.int .i64 x4_1, .string (⟨#[]⟩ : ByteArray), .string (⟨#[]⟩ : ByteArray), .int .i64 0, .string (⟨#[]⟩ : ByteArray)]) ?_ 1 _ rfl; (with_reducible repeat (first | refine blk_drewN ?_ _ | refine blk_drew ?_ | refine blk_alloc ?_ _)); refine blk_put (cs := #[.int .i64 0, .string (⟨#[]⟩ : ByteArray), .string (⟨#[]⟩ : ByteArray), .int .i64 0, .string (⟨#[]⟩ : ByteArray)]) ?_ 0 _ rfl; (with_reducible repeat (first | refine blk_drewN ?_ _ | refine blk_drew ?_ | refine blk_alloc ?_ _)); exact BK327.out⟩, ⟨by repeat (first | (with_reducible first | exact HB.out | apply below_alloc | apply pw_below_drewN | apply below_drew1 | refine below_set ?_ GE314.out | refine below_set ?_ GE321.out | refine below_set ?_ GE325.out | refine below_set ?_ GE326.out | refine below_set ?_ GE327.out) | exact HB.out)⟩⟩
            · replace c28 := Bool.eq_false_iff.mpr c28
              subst c28; have H1 : (impl_reqRead.j1 k1 a0 false t315 false t317 t318 t319 t323 t324 x4_1 (⟨#[]⟩ : ByteArray) (⟨#[]⟩ : ByteArray) 0 (⟨#[]⟩ : ByteArray)) = some (r1, r2, r3, r4, r5, r6) := by rw [if_neg (show ¬ (false = true) by decide)] at H; exact H
              clear H; have H := H1; clear H1; have H' := Aside0.mk H; clear H; have hnb38 := NB321_314.out; have hnc38 := NB314_321.out; have hnb39 := NB321_325.out; have hnc39 := NB325_321.out; have hnb40 := NB321_326.out; have hnc40 := NB326_321.out; have hnb41 := NB321_327.out; have hnc41 := NB327_321.out; have hcz42_0 : w22.cell? ⟨gb321, 0, none⟩ = some (.string t315) := (blk_cell BK321.out 0).trans rfl; have hcz42_1 : w22.cell? ⟨gb321, 1, none⟩ = some (.bool false) := (blk_cell BK321.out 1).trans rfl; have hcz42_2 : w22.cell? ⟨gb321, 2, none⟩ = some (.bool t317) := (blk_cell BK321.out 2).trans rfl; have hcz42_3 : w22.cell? ⟨gb321, 3, none⟩ = some (.bool t318) := (blk_cell BK321.out 3).trans rfl; have hcz42_4 : w22.cell? ⟨gb321, 4, none⟩ = some (.bool t319) := (blk_cell BK321.out 4).trans rfl; have hfz42_0 := blk_frozen BK321.out 0; have hfz42_1 := blk_frozen BK321.out 1; have hfz42_2 := blk_frozen BK321.out 2; have hfz42_3 := blk_frozen BK321.out 3; have hfz42_4 := blk_frozen BK321.out 4
              go_wp2
              go_meet
              case rel => exact ⟨_, (false), (by first | rfl | (simp; done) | (simp [*]; done)), H', ⟨by have := HK1.out; first | omega | exact Nat.le_refl _⟩, ⟨by (with_reducible repeat (first | refine blk_drewN ?_ _ | refine blk_drew ?_ | refine blk_alloc ?_ _)); refine blk_far ?_ NB314_327.out _; (with_reducible repeat (first | refine blk_drewN ?_ _ | refine blk_drew ?_ | refine blk_alloc ?_ _)); refine blk_far ?_ NB314_327.out _; (with_reducible repeat (first | refine blk_drewN ?_ _ | refine blk_drew ?_ | refine blk_alloc ?_ _)); refine blk_far ?_ NB314_327.out _; (with_reducible repeat (first | refine blk_drewN ?_ _ | refine blk_drew ?_ | refine blk_alloc ?_ _)); refine blk_far ?_ NB314_327.out _; (with_reducible repeat (first | refine blk_drewN ?_ _ | refine blk_drew ?_ | refine blk_alloc ?_ _)); refine blk_far ?_ NB314_327.out _; (with_reducible repeat (first | refine blk_drewN ?_ _ | refine blk_drew ?_ | refine blk_alloc ?_ _)); exact BK314.out⟩, ⟨by (with_reducible repeat (first | refine blk_drewN ?_ _ | refine blk_drew ?_ | refine blk_alloc ?_ _)); refine blk_far ?_ NB321_327.out _; (with_reducible repeat (first | refine blk_drewN ?_ _ | refine blk_drew ?_ | refine blk_alloc ?_ _)); refine blk_far ?_ NB321_327.out _; (with_reducible repeat (first | refine blk_drewN ?_ _ | refine blk_drew ?_ | refine blk_alloc ?_ _)); refine blk_far ?_ NB321_327.out _; (with_reducible repeat (first | refine blk_drewN ?_ _ | refine blk_drew ?_ | refine blk_alloc ?_ _)); refine blk_far ?_ NB321_327.out _; (with_reducible repeat (first | refine blk_drewN ?_ _ | refine blk_drew ?_ | refine blk_alloc ?_ _)); refine blk_far ?_ NB321_327.out _; (with_reducible repeat (first | refine blk_drewN ?_ _ | refine blk_drew ?_ | refine blk_alloc ?_ _)); exact BK321.out⟩, ⟨by (with_reducible repeat (first | refine blk_drewN ?_ _ | refine blk_drew ?_ | refine blk_alloc ?_ _)); refine blk_far ?_ NB325_327.out _; (with_reducible repeat (first | refine blk_drewN ?_ _ | refine blk_drew ?_ | refine blk_alloc ?_ _)); refine blk_far ?_ NB325_327.out _; (with_reducible repeat (first | refine blk_drewN ?_ _ | refine blk_drew ?_ | refine blk_alloc ?_ _)); refine blk_far ?_ NB325_327.out _; (with_reducible repeat (first | refine blk_drewN ?_ _ | refine blk_drew ?_ | refine blk_alloc ?_ _)); refine blk_far ?_ NB325_327.out _; (with_reducible repeat (first | refine blk_drewN ?_ _ | refine blk_drew ?_ | refine blk_alloc ?_ _)); refine blk_far ?_ NB325_327.out _; (with_reducible repeat (first | refine blk_drewN ?_ _ | refine blk_drew ?_ | refine blk_alloc ?_ _)); exact BK325.out⟩, ⟨by (with_reducible repeat (first | refine blk_drewN ?_ _ | refine blk_drew ?_ | refine blk_alloc ?_ _)); refine blk_far ?_ NB326_327.out _; (with_reducible repeat (first | refine blk_drewN ?_ _ | refine blk_drew ?_ | refine blk_alloc ?_ _)); refine blk_far ?_ NB326_327.out _; (with_reducible repeat (first | refine blk_drewN ?_ _ | refine blk_drew ?_ | refine blk_alloc ?_ _)); refine blk_far ?_ NB326_327.out _; (with_reducible repeat (first | refine blk_drewN ?_ _ | refine blk_drew ?_ | refine blk_alloc ?_ _)); refine blk_far ?_ NB326_327.out _; (with_reducible repeat (first | refine blk_drewN ?_ _ | refine blk_drew ?_ | refine blk_alloc ?_ _)); refine blk_far ?_ NB326_327.out _; (with_reducible repeat (first | refine blk_drewN ?_ _ | refine blk_drew ?_ | refine blk_alloc ?_ _)); exact BK326.out⟩, ⟨by (with_reducible repeat (first | refine blk_drewN ?_ _ | refine blk_drew ?_ | refine blk_alloc ?_ _)); refine blk_put (cs := #[.int .i64 x4_1, .string (⟨#[]⟩ : ByteArray), .string (⟨#[]⟩ : ByteArray), .int .i64 0, .string (⟨#[]⟩ : ByteArray)]) ?_ 4 _ rfl; (with_reducible repeat (first | refine blk_drewN ?_ _ | refine blk_drew ?_ | refine blk_alloc ?_ _)); refine blk_put (cs := #[.int .i64 x4_1, .string (⟨#[]⟩ : ByteArray), .string (⟨#[]⟩ : ByteArray), .int .i64 0, .string (⟨#[]⟩ : ByteArray)]) ?_ 3 _ rfl; (with_reducible repeat (first | refine blk_drewN ?_ _ | refine blk_drew ?_ | refine blk_alloc ?_ _)); refine blk_put (cs := #[.int .i64 x4_1, .string (⟨#[]⟩ : ByteArray), .string (⟨#[]⟩ : ByteArray), .int .i64 0, .string (⟨#[]⟩ : ByteArray)]) ?_ 2 _ rfl; (with_reducible repeat (first | refine blk_drewN ?_ _ | refine blk_drew ?_ | refine blk_alloc ?_ _)); refine blk_put (cs := #[.int .i64 x4_1, .string (⟨#[]⟩ : ByteArray), .string (⟨#[]⟩ : ByteArray), .int .i64 0, .string (⟨#[]⟩ : ByteArray)]) ?_ 1 _ rfl; (with_reducible repeat (first | refine blk_drewN ?_ _ | refine blk_drew ?_ | refine blk_alloc ?_ _)); refine blk_put (cs := #[.int .i64 0, .string (⟨#[]⟩ : ByteArray), .string (⟨#[]⟩ : ByteArray), .int .i64 0, .string (⟨#[]⟩ : ByteArray)]) ?_ 0 _ rfl; (with_reducible repeat (first | refine blk_drewN ?_ _ | refine blk_drew ?_ | refine blk_alloc ?_ _)); exact BK327.out⟩, ⟨by repeat (first | (with_reducible first | exact HB.out | apply below_alloc | apply pw_below_drewN | apply below_drew1 | refine below_set ?_ GE314.out | refine below_set ?_ GE321.out | refine below_set ?_ GE325.out | refine below_set ?_ GE326.out | refine below_set ?_ GE327.out) | exact HB.out)⟩⟩
          case rest =>
            clear HC7
            try clear c1
            try clear c2
            try clear p2
            try clear c3
            try clear c3b0
            try clear c4
            try clear c6
            try clear c6b0
            try clear c6b1
            try clear p6
            try clear c10
            try clear c14
            try clear c15
            try clear c16
            try clear c18
            try clear c19
            try clear c23
            try clear c24
            try clear c25
            try clear c26
            try clear c28
            try clear c29
            try clear c30
            try clear c31
            try clear c32
            try clear c33
            try clear c34
            try clear c35
            try clear c36
            try clear c38
            try clear c39
            try clear c40
            try clear c41
            try clear hcz11_0
            try clear hcz11_1
            try clear hcz11_2
            try clear hcz11_3
            try clear hcz11_4
            try clear hcz17_0
            try clear hcz20_0
            try clear hcz21_0
            try clear hcz21_1
            try clear hcz21_2
            try clear hcz21_3
            try clear hcz21_4
            try clear hcz27_0
            try clear hcz27_1
            try clear hcz27_2
            try clear hcz27_3
            try clear hcz27_4
            try clear hcz33_0
            try clear hcz33_1
            try clear hcz33_2
            try clear hcz33_3
            try clear hcz33_4
            try clear hcz37_0
            try clear hcz42_0
            try clear hcz42_1
            try clear hcz42_2
            try clear hcz42_3
            try clear hcz42_4
            try clear hfz11_0
            try clear hfz11_1
            try clear hfz11_2
            try clear hfz11_3
            try clear hfz11_4
            try clear hfz17_0
            try clear hfz20_0
            try clear hfz21_0
            try clear hfz21_1
            try clear hfz21_2
            try clear hfz21_3
            try clear hfz21_4
            try clear hfz27_0
            try clear hfz27_1
            try clear hfz27_2
            try clear hfz27_3
            try clear hfz27_4
            try clear hfz33_0
            try clear hfz33_1
            try clear hfz33_2
            try clear hfz33_3
            try clear hfz33_4
            try clear hfz37_0
            try clear hfz42_0
            try clear hfz42_1
            try clear hfz42_2
            try clear hfz42_3
            try clear hfz42_4
            try clear p2
            obtain ⟨kq, x40_6, rfl, HA, HJ6, BK314, BK321, BK325, BK326, BK327, HB⟩ := hcut
            cases kq with
            | zero => exact absurd HA.out (by simp [impl_reqRead.j1])
            | succ kj6 =>
              have H := HA.out; clear HA; simp only [impl_reqRead.j1] at H; have HC43 := Aside0.mk H; clear H
              go_upto_if 40 with (fail)
              go_cut [] (fun wc => ∃ (kq : Nat) (x326000_42 : ByteArray) (x327000_42 : Bool) (x328001_42 : ByteArray), Aside0 (impl_reqRead.j2 kq a0 t315 t316 t317 t318 t319 x326000_42 x327000_42 x4_1 x328001_42 (⟨#[]⟩ : ByteArray) 0 (⟨#[]⟩ : ByteArray) = some (r1, r2, r3, r4, r5, r6)) ∧ Aside0 (kq ≤ kj6) ∧ Aside0 (wc.heap[gb314]? = some (.cells #[.int .i64 x315000_1, .string x315001_1, .string x315002_1, .int .i64 x315003_1, .string x315004_1] 25 (0, 0))) ∧ Aside0 (wc.heap[gb321]? = some (.cells #[.string t315, .bool t316, .bool t317, .bool t318, .bool t319] 53 (0, 0))) ∧ Aside0 (wc.heap[gb325]? = some (.cells #[.string x326000_42] 9 (0, 0))) ∧ Aside0 (wc.heap[gb326]? = some (.cells #[.bool x327000_42] 4 (0, 0))) ∧ Aside0 (wc.heap[gb327]? = some (.cells #[.int .i64 x4_1, .string x328001_42, .string (⟨#[]⟩ : ByteArray), .int .i64 0, .string (⟨#[]⟩ : ByteArray)] 25 (0, 0))) ∧ Aside0 (Below w.heap.size w wc))
              case first =>
                have H := HC43.out; clear HC43; by_cases c44 : x40_6 = true
                · subst c44
                  have H1 : ((impl_reqRead_1.f t323 t324).bind fun bt328 => (impl_reqRead.j2 kj6 a0 t315 t316 t317 t318 t319 bt328.2.1 bt328.2.2 x4_1 bt328.1 (⟨#[]⟩ : ByteArray) 0 (⟨#[]⟩ : ByteArray))) = some (r1, r2, r3, r4, r5, r6) := by rw [if_pos rfl] at H; exact H
                  clear H; have H := H1; clear H1; replace H := Option.bind_eq_some_iff.mp H; obtain ⟨⟨t328, t329, t330⟩, A450, H⟩ := H; replace H : (impl_reqRead.j2 kj6 a0 t315 t316 t317 t318 t319 t329 t330 x4_1 t328 (⟨#[]⟩ : ByteArray) 0 (⟨#[]⟩ : ByteArray)) = some (r1, r2, r3, r4, r5, r6) := H; have A45 := Aside0.mk A450; clear A450; have H' := Aside0.mk H; clear H
                  go_wp2_with (first | (go_at_call 35; (with_reducible refine (impl_reqRead_1.calls t323 t324 gb325 gb326 t328 t329 t330 _ ?side1 ?side2 ?side3 A45.out).mono ?_); (case side1 => exact (by (with_reducible repeat (first | refine blk_drewN ?_ _ | refine blk_drew ?_ | refine blk_alloc ?_ _)); exact BK325.out)); (case side2 => exact (by (with_reducible repeat (first | refine blk_drewN ?_ _ | refine blk_drew ?_ | refine blk_alloc ?_ _)); exact BK326.out)); (case side3 => exact NB325_326.out); rintro e w46 ⟨rfl, hx0, hx1, hkc, hbc⟩; have n0_ := Aside0.mk (hkc _ _ NB314_325.out NB314_326.out (by (with_reducible repeat (first | refine blk_drewN ?_ _ | refine blk_drew ?_ | refine blk_alloc ?_ _)); exact BK314.out)); have n1_ := Aside0.mk (hkc _ _ NB321_325.out NB321_326.out (by (with_reducible repeat (first | refine blk_drewN ?_ _ | refine blk_drew ?_ | refine blk_alloc ?_ _)); exact BK321.out)); have n2_ := Aside0.mk (hx0); have n3_ := Aside0.mk (hx1); have n4_ := Aside0.mk (hkc _ _ NB327_325.out NB327_326.out (by (with_reducible repeat (first | refine blk_drewN ?_ _ | refine blk_drew ?_ | refine blk_alloc ?_ _)); exact BK327.out)); have n5_ := Aside0.mk (hbc _ (by repeat (first | (with_reducible first | exact HB.out | apply below_alloc | apply pw_below_drewN | apply below_drew1 | refine below_set ?_ GE314.out | refine below_set ?_ GE321.out | refine below_set ?_ GE325.out | refine below_set ?_ GE326.out | refine below_set ?_ GE327.out) | exact HB.out)) GW325.out GW326.out); clear BK314; clear BK321; clear BK325; clear BK326; clear BK327; clear HB; have BK314 := n0_; have BK321 := n1_; have BK325 := n2_; have BK326 := n3_; have BK327 := n4_; have HB := n5_; clear n0_ n1_ n2_ n3_ n4_ n5_; (try clear hkc); (try clear hbc); have hnb47 := NB327_314.out; have hnc47 := NB314_327.out; have hnb48 := NB327_321.out; have hnc48 := NB321_327.out; have hnb49 := NB327_325.out; have hnc49 := NB325_327.out; have hnb50 := NB327_326.out; have hnc50 := NB326_327.out; have hcz51_0 : w46.cell? ⟨gb327, 0, none⟩ = some (.int .i64 x4_1) := (blk_cell BK327.out 0).trans rfl; have hcz51_1 : w46.cell? ⟨gb327, 1, none⟩ = some (.string (⟨#[]⟩ : ByteArray)) := (blk_cell BK327.out 1).trans rfl; have hcz51_2 : w46.cell? ⟨gb327, 2, none⟩ = some (.string (⟨#[]⟩ : ByteArray)) := (blk_cell BK327.out 2).trans rfl; have hcz51_3 : w46.cell? ⟨gb327, 3, none⟩ = some (.int .i64 0) := (blk_cell BK327.out 3).trans rfl; have hcz51_4 : w46.cell? ⟨gb327, 4, none⟩ = some (.string (⟨#[]⟩ : ByteArray)) := (blk_cell BK327.out 4).trans rfl; have hfz51_0 := blk_frozen BK327.out 0; have hfz51_1 := blk_frozen BK327.out 1; have hfz51_2 := blk_frozen BK327.out 2; have hfz51_3 := blk_frozen BK327.out 3; have hfz51_4 := blk_frozen BK327.out 4))
                  go_meet
                  case rel => exact ⟨_, (t329), (t330), (t328), H', ⟨by have := HK1.out; have := HJ6.out; first | omega | exact Nat.le_refl _⟩, ⟨by (with_reducible repeat (first | refine blk_drewN ?_ _ | refine blk_drew ?_ | refine blk_alloc ?_ _)); refine blk_far ?_ NB314_327.out _; (with_reducible repeat (first | refine blk_drewN ?_ _ | refine blk_drew ?_ | refine blk_alloc ?_ _)); exact BK314.out⟩, ⟨by (with_reducible repeat (first | refine blk_drewN ?_ _ | refine blk_drew ?_ | refine blk_alloc ?_ _)); refine blk_far ?_ NB321_327.out _; (with_reducible repeat (first | refine blk_drewN ?_ _ | refine blk_drew ?_ | refine blk_alloc ?_ _)); exact BK321.out⟩, ⟨by (with_reducible repeat (first | refine blk_drewN ?_ _ | refine blk_drew ?_ | refine blk_alloc ?_ _)); refine blk_far ?_ NB325_327.out _; (with_reducible repeat (first | refine blk_drewN ?_ _ | refine blk_drew ?_ | refine blk_alloc ?_ _)); exact BK325.out⟩, ⟨by (with_reducible repeat (first | refine blk_drewN ?_ _ | refine blk_drew ?_ | refine blk_alloc ?_ _)); refine blk_far ?_ NB326_327.out _; (with_reducible repeat (first | refine blk_drewN ?_ _ | refine blk_drew ?_ | refine blk_alloc ?_ _)); exact BK326.out⟩, ⟨by (with_reducible repeat (first | refine blk_drewN ?_ _ | refine blk_drew ?_ | refine blk_alloc ?_ _)); refine blk_put (cs := #[.int .i64 x4_1, .string (⟨#[]⟩ : ByteArray), .string (⟨#[]⟩ : ByteArray), .int .i64 0, .string (⟨#[]⟩ : ByteArray)]) ?_ 1 _ rfl; (with_reducible repeat (first | refine blk_drewN ?_ _ | refine blk_drew ?_ | refine blk_alloc ?_ _)); exact BK327.out⟩, ⟨by repeat (first | (with_reducible first | exact HB.out | apply below_alloc | apply pw_below_drewN | apply below_drew1 | refine below_set ?_ GE314.out | refine below_set ?_ GE321.out | refine below_set ?_ GE325.out | refine below_set ?_ GE326.out | refine below_set ?_ GE327.out) | exact HB.out)⟩⟩
                · replace c44 := Bool.eq_false_iff.mpr c44
                  subst c44; have H1 : (impl_reqRead.j2 kj6 a0 t315 t316 t317 t318 t319 t323 t324 x4_1 (⟨#[]⟩ : ByteArray) (⟨#[]⟩ : ByteArray) 0 (⟨#[]⟩ : ByteArray)) = some (r1, r2, r3, r4, r5, r6) := by rw [if_neg (show ¬ (false = true) by decide)] at H; exact H
                  clear H; have H := H1; clear H1; have H' := Aside0.mk H; clear H
                  go_wp2
                  go_meet
                  case rel => exact ⟨_, (t323), (t324), ((⟨#[]⟩ : ByteArray)), H', ⟨by have := HK1.out; have := HJ6.out; first | omega | exact Nat.le_refl _⟩, ⟨by (with_reducible repeat (first | refine blk_drewN ?_ _ | refine blk_drew ?_ | refine blk_alloc ?_ _)); exact BK314.out⟩, ⟨by (with_reducible repeat (first | refine blk_drewN ?_ _ | refine blk_drew ?_ | refine blk_alloc ?_ _)); exact BK321.out⟩, ⟨by (with_reducible repeat (first | refine blk_drewN ?_ _ | refine blk_drew ?_ | refine blk_alloc ?_ _)); exact BK325.out⟩, ⟨by (with_reducible repeat (first | refine blk_drewN ?_ _ | refine blk_drew ?_ | refine blk_alloc ?_ _)); exact BK326.out⟩, ⟨by (with_reducible repeat (first | refine blk_drewN ?_ _ | refine blk_drew ?_ | refine blk_alloc ?_ _)); exact BK327.out⟩, ⟨by repeat (first | (with_reducible first | exact HB.out | apply below_alloc | apply pw_below_drewN | apply below_drew1 | refine below_set ?_ GE314.out | refine below_set ?_ GE321.out | refine below_set ?_ GE325.out | refine below_set ?_ GE326.out | refine below_set ?_ GE327.out) | exact HB.out)⟩⟩
              case rest =>
                clear HC43
                try clear c1
                try clear hx1
                try clear c2
                try clear p2
                try clear c3
                try clear c3b0
                try clear c4
                try clear c5
                try clear c6
                try clear c6b0
                try clear c6b1
                try clear p6
                try clear c10
                try clear c14
                try clear c15
                try clear c16
                try clear c18
                try clear c19
                try clear c23
                try clear c24
                try clear c25
                try clear c26
                try clear c28
                try clear c29
                try clear c30
                try clear c31
                try clear c32
                try clear c33
                try clear c34
                try clear c35
                try clear c36
                try clear c38
                try clear c39
                try clear c40
                try clear c41
                try clear c44
                try clear c47
                try clear c48
                try clear c49
                try clear c50
                try clear hcz11_0
                try clear hcz11_1
                try clear hcz11_2
                try clear hcz11_3
                try clear hcz11_4
                try clear hcz17_0
                try clear hcz20_0
                try clear hcz21_0
                try clear hcz21_1
                try clear hcz21_2
                try clear hcz21_3
                try clear hcz21_4
                try clear hcz27_0
                try clear hcz27_1
                try clear hcz27_2
                try clear hcz27_3
                try clear hcz27_4
                try clear hcz33_0
                try clear hcz33_1
                try clear hcz33_2
                try clear hcz33_3
                try clear hcz33_4
                try clear hcz37_0
                try clear hcz42_0
                try clear hcz42_1
                try clear hcz42_2
                try clear hcz42_3
                try clear hcz42_4
                try clear hcz51_0
                try clear hcz51_1
                try clear hcz51_2
                try clear hcz51_3
                try clear hcz51_4
                try clear hfz11_0
                try clear hfz11_1
                try clear hfz11_2
                try clear hfz11_3
                try clear hfz11_4
                try clear hfz17_0
                try clear hfz20_0
                try clear hfz21_0
                try clear hfz21_1
                try clear hfz21_2
                try clear hfz21_3
                try clear hfz21_4
                try clear hfz27_0
                try clear hfz27_1
                try clear hfz27_2
                try clear hfz27_3
                try clear hfz27_4
                try clear hfz33_0
                try clear hfz33_1
                try clear hfz33_2
                try clear hfz33_3
                try clear hfz33_4
                try clear hfz37_0
                try clear hfz42_0
                try clear hfz42_1
                try clear hfz42_2
                try clear hfz42_3
                try clear hfz42_4
                try clear hfz51_0
                try clear hfz51_1
                try clear hfz51_2
                try clear hfz51_3
                try clear hfz51_4
                try clear p2
                try clear p6
                obtain ⟨kq, x326000_42, x327000_42, x328001_42, HA, HJ42, BK314, BK321, BK325, BK326, BK327, HB⟩ := hcut
                cases kq with
                | zero => exact absurd HA.out (by simp [impl_reqRead.j2])
                | succ kj42 =>
                  have H := HA.out; clear HA; simp only [impl_reqRead.j2] at H; have HC52 := Aside0.mk H; clear H
                  go_upto_region 11 with (fail)
                  go_cut [48] (fun v48 wc => ∃ (kq : Nat) (x48_51 : Bool), v48 = .bool x48_51 ∧ Aside0 (impl_reqRead.j3 kq a0 x48_51 t315 t316 t317 t318 t319 x326000_42 x327000_42 x4_1 x328001_42 (⟨#[]⟩ : ByteArray) 0 (⟨#[]⟩ : ByteArray) = some (r1, r2, r3, r4, r5, r6)) ∧ Aside0 (kq ≤ kj42) ∧ Aside0 (wc.heap[gb314]? = some (.cells #[.int .i64 x315000_1, .string x315001_1, .string x315002_1, .int .i64 x315003_1, .string x315004_1] 25 (0, 0))) ∧ Aside0 (wc.heap[gb321]? = some (.cells #[.string t315, .bool t316, .bool t317, .bool t318, .bool t319] 53 (0, 0))) ∧ Aside0 (wc.heap[gb325]? = some (.cells #[.string x326000_42] 9 (0, 0))) ∧ Aside0 (wc.heap[gb326]? = some (.cells #[.bool x327000_42] 4 (0, 0))) ∧ Aside0 (wc.heap[gb327]? = some (.cells #[.int .i64 x4_1, .string x328001_42, .string (⟨#[]⟩ : ByteArray), .int .i64 0, .string (⟨#[]⟩ : ByteArray)] 25 (0, 0))) ∧ Aside0 (Below w.heap.size w wc))
                  case first =>
                    have H := HC52.out; clear HC52; by_cases c53 : t317 = true
                    · subst c53
                      have H1 : (impl_reqRead.j3 kj42 a0 x327000_42 t315 t316 true t318 t319 x326000_42 x327000_42 x4_1 x328001_42 (⟨#[]⟩ : ByteArray) 0 (⟨#[]⟩ : ByteArray)) = some (r1, r2, r3, r4, r5, r6) := by rw [if_pos rfl] at H; exact H
                      clear H; have H := H1; clear H1; have H' := Aside0.mk H; clear H; have hnb54 := NB321_314.out; have hnc54 := NB314_321.out; have hnb55 := NB321_325.out; have hnc55 := NB325_321.out; have hnb56 := NB321_326.out; have hnc56 := NB326_321.out; have hnb57 := NB321_327.out; have hnc57 := NB327_321.out; have hcz58_0 : wc.cell? ⟨gb321, 0, none⟩ = some (.string t315) := (blk_cell BK321.out 0).trans rfl; have hcz58_1 : wc.cell? ⟨gb321, 1, none⟩ = some (.bool t316) := (blk_cell BK321.out 1).trans rfl; have hcz58_2 : wc.cell? ⟨gb321, 2, none⟩ = some (.bool true) := (blk_cell BK321.out 2).trans rfl; have hcz58_3 : wc.cell? ⟨gb321, 3, none⟩ = some (.bool t318) := (blk_cell BK321.out 3).trans rfl; have hcz58_4 : wc.cell? ⟨gb321, 4, none⟩ = some (.bool t319) := (blk_cell BK321.out 4).trans rfl; have hfz58_0 := blk_frozen BK321.out 0; have hfz58_1 := blk_frozen BK321.out 1; have hfz58_2 := blk_frozen BK321.out 2; have hfz58_3 := blk_frozen BK321.out 3; have hfz58_4 := blk_frozen BK321.out 4; have hnb59 := NB326_314.out; have hnc59 := NB314_326.out; have hnb60 := NB326_325.out; have hnc60 := NB325_326.out; have hnb61 := NB326_327.out; have hnc61 := NB327_326.out; have hcz62_0 : wc.cell? ⟨gb326, 0, none⟩ = some (.bool x327000_42) := (blk_cell BK326.out 0).trans rfl; have hfz62_0 := blk_frozen BK326.out 0
                      go_wp2
                      go_meet
                      case rel => exact ⟨_, (x327000_42), (by first | rfl | (simp; done) | (simp [*]; done)), H', ⟨by have := HK1.out; have := HJ6.out; have := HJ42.out; first | omega | exact Nat.le_refl _⟩, ⟨by (with_reducible repeat (first | refine blk_drewN ?_ _ | refine blk_drew ?_ | refine blk_alloc ?_ _)); exact BK314.out⟩, ⟨by (with_reducible repeat (first | refine blk_drewN ?_ _ | refine blk_drew ?_ | refine blk_alloc ?_ _)); exact BK321.out⟩, ⟨by (with_reducible repeat (first | refine blk_drewN ?_ _ | refine blk_drew ?_ | refine blk_alloc ?_ _)); exact BK325.out⟩, ⟨by (with_reducible repeat (first | refine blk_drewN ?_ _ | refine blk_drew ?_ | refine blk_alloc ?_ _)); exact BK326.out⟩, ⟨by (with_reducible repeat (first | refine blk_drewN ?_ _ | refine blk_drew ?_ | refine blk_alloc ?_ _)); exact BK327.out⟩, ⟨by repeat (first | (with_reducible first | exact HB.out | apply below_alloc | apply pw_below_drewN | apply below_drew1 | refine below_set ?_ GE314.out | refine below_set ?_ GE321.out | refine below_set ?_ GE325.out | refine below_set ?_ GE326.out | refine below_set ?_ GE327.out) | exact HB.out)⟩⟩
                    · replace c53 := Bool.eq_false_iff.mpr c53
                      subst c53; have H1 : (impl_reqRead.j3 kj42 a0 false t315 t316 false t318 t319 x326000_42 x327000_42 x4_1 x328001_42 (⟨#[]⟩ : ByteArray) 0 (⟨#[]⟩ : ByteArray)) = some (r1, r2, r3, r4, r5, r6) := by rw [if_neg (show ¬ (false = true) by decide)] at H; exact H
                      clear H; have H := H1; clear H1; have H' := Aside0.mk H; clear H; have hnb63 := NB321_314.out; have hnc63 := NB314_321.out; have hnb64 := NB321_325.out; have hnc64 := NB325_321.out; have hnb65 := NB321_326.out; have hnc65 := NB326_321.out; have hnb66 := NB321_327.out; have hnc66 := NB327_321.out; have hcz67_0 : wc.cell? ⟨gb321, 0, none⟩ = some (.string t315) := (blk_cell BK321.out 0).trans rfl; have hcz67_1 : wc.cell? ⟨gb321, 1, none⟩ = some (.bool t316) := (blk_cell BK321.out 1).trans rfl; have hcz67_2 : wc.cell? ⟨gb321, 2, none⟩ = some (.bool false) := (blk_cell BK321.out 2).trans rfl; have hcz67_3 : wc.cell? ⟨gb321, 3, none⟩ = some (.bool t318) := (blk_cell BK321.out 3).trans rfl; have hcz67_4 : wc.cell? ⟨gb321, 4, none⟩ = some (.bool t319) := (blk_cell BK321.out 4).trans rfl; have hfz67_0 := blk_frozen BK321.out 0; have hfz67_1 := blk_frozen BK321.out 1; have hfz67_2 := blk_frozen BK321.out 2; have hfz67_3 := blk_frozen BK321.out 3; have hfz67_4 := blk_frozen BK321.out 4
                      go_wp2
                      go_meet
                      case rel => exact ⟨_, (false), (by first | rfl | (simp; done) | (simp [*]; done)), H', ⟨by have := HK1.out; have := HJ6.out; have := HJ42.out; first | omega | exact Nat.le_refl _⟩, ⟨by (with_reducible repeat (first | refine blk_drewN ?_ _ | refine blk_drew ?_ | refine blk_alloc ?_ _)); exact BK314.out⟩, ⟨by (with_reducible repeat (first | refine blk_drewN ?_ _ | refine blk_drew ?_ | refine blk_alloc ?_ _)); exact BK321.out⟩, ⟨by (with_reducible repeat (first | refine blk_drewN ?_ _ | refine blk_drew ?_ | refine blk_alloc ?_ _)); exact BK325.out⟩, ⟨by (with_reducible repeat (first | refine blk_drewN ?_ _ | refine blk_drew ?_ | refine blk_alloc ?_ _)); exact BK326.out⟩, ⟨by (with_reducible repeat (first | refine blk_drewN ?_ _ | refine blk_drew ?_ | refine blk_alloc ?_ _)); exact BK327.out⟩, ⟨by repeat (first | (with_reducible first | exact HB.out | apply below_alloc | apply pw_below_drewN | apply below_drew1 | refine below_set ?_ GE314.out | refine below_set ?_ GE321.out | refine below_set ?_ GE325.out | refine below_set ?_ GE326.out | refine below_set ?_ GE327.out) | exact HB.out)⟩⟩
                  case rest =>
                    clear HC52
                    try clear c1
                    try clear hx1
                    try clear c2
                    try clear p2
                    try clear c3
                    try clear c3b0
                    try clear c4
                    try clear c5
                    try clear c6
                    try clear c6b0
                    try clear c6b1
                    try clear p6
                    try clear c10
                    try clear c14
                    try clear c15
                    try clear c16
                    try clear c18
                    try clear c19
                    try clear c23
                    try clear c24
                    try clear c25
                    try clear c26
                    try clear c28
                    try clear c29
                    try clear c30
                    try clear c31
                    try clear c32
                    try clear c33
                    try clear c34
                    try clear c35
                    try clear c36
                    try clear c38
                    try clear c39
                    try clear c40
                    try clear c41
                    try clear c44
                    try clear c47
                    try clear c48
                    try clear c49
                    try clear c50
                    try clear c53
                    try clear c54
                    try clear c55
                    try clear c56
                    try clear c57
                    try clear c59
                    try clear c60
                    try clear c61
                    try clear c63
                    try clear c64
                    try clear p64
                    try clear c65
                    try clear c66
                    try clear hcz11_0
                    try clear hcz11_1
                    try clear hcz11_2
                    try clear hcz11_3
                    try clear hcz11_4
                    try clear hcz17_0
                    try clear hcz20_0
                    try clear hcz21_0
                    try clear hcz21_1
                    try clear hcz21_2
                    try clear hcz21_3
                    try clear hcz21_4
                    try clear hcz27_0
                    try clear hcz27_1
                    try clear hcz27_2
                    try clear hcz27_3
                    try clear hcz27_4
                    try clear hcz33_0
                    try clear hcz33_1
                    try clear hcz33_2
                    try clear hcz33_3
                    try clear hcz33_4
                    try clear hcz37_0
                    try clear hcz42_0
                    try clear hcz42_1
                    try clear hcz42_2
                    try clear hcz42_3
                    try clear hcz42_4
                    try clear hcz51_0
                    try clear hcz51_1
                    try clear hcz51_2
                    try clear hcz51_3
                    try clear hcz51_4
                    try clear hcz58_0
                    try clear hcz58_1
                    try clear hcz58_2
                    try clear hcz58_3
                    try clear hcz58_4
                    try clear hcz62_0
                    try clear hcz67_0
                    try clear hcz67_1
                    try clear hcz67_2
                    try clear hcz67_3
                    try clear hcz67_4
                    try clear hfz11_0
                    try clear hfz11_1
                    try clear hfz11_2
                    try clear hfz11_3
                    try clear hfz11_4
                    try clear hfz17_0
                    try clear hfz20_0
                    try clear hfz21_0
                    try clear hfz21_1
                    try clear hfz21_2
                    try clear hfz21_3
                    try clear hfz21_4
                    try clear hfz27_0
                    try clear hfz27_1
                    try clear hfz27_2
                    try clear hfz27_3
                    try clear hfz27_4
                    try clear hfz33_0
                    try clear hfz33_1
                    try clear hfz33_2
                    try clear hfz33_3
                    try clear hfz33_4
                    try clear hfz37_0
                    try clear hfz42_0
                    try clear hfz42_1
                    try clear hfz42_2
                    try clear hfz42_3
                    try clear hfz42_4
                    try clear hfz51_0
                    try clear hfz51_1
                    try clear hfz51_2
                    try clear hfz51_3
                    try clear hfz51_4
                    try clear hfz58_0
                    try clear hfz58_1
                    try clear hfz58_2
                    try clear hfz58_3
                    try clear hfz58_4
                    try clear hfz62_0
                    try clear hfz67_0
                    try clear hfz67_1
                    try clear hfz67_2
                    try clear hfz67_3
                    try clear hfz67_4
                    try clear p2
                    try clear p6
                    obtain ⟨kq, x48_51, rfl, HA, HJ51, BK314, BK321, BK325, BK326, BK327, HB⟩ := hcut
                    cases kq with
                    | zero => exact absurd HA.out (by simp [impl_reqRead.j3])
                    | succ kj51 =>
                      have H := HA.out; clear HA; simp only [impl_reqRead.j3] at H; have HC68 := Aside0.mk H; clear H
                      go_upto_if 48 with (fail)
                      go_cut [] (fun wc => ∃ (kq : Nat) (x326000_67 : ByteArray) (x327000_67 : Bool) (x328002_67 : ByteArray), Aside0 (impl_reqRead.j4 kq a0 t315 t316 t317 t318 t319 x326000_67 x327000_67 x4_1 x328001_42 x328002_67 0 (⟨#[]⟩ : ByteArray) = some (r1, r2, r3, r4, r5, r6)) ∧ Aside0 (kq ≤ kj51) ∧ Aside0 (wc.heap[gb314]? = some (.cells #[.int .i64 x315000_1, .string x315001_1, .string x315002_1, .int .i64 x315003_1, .string x315004_1] 25 (0, 0))) ∧ Aside0 (wc.heap[gb321]? = some (.cells #[.string t315, .bool t316, .bool t317, .bool t318, .bool t319] 53 (0, 0))) ∧ Aside0 (wc.heap[gb325]? = some (.cells #[.string x326000_67] 9 (0, 0))) ∧ Aside0 (wc.heap[gb326]? = some (.cells #[.bool x327000_67] 4 (0, 0))) ∧ Aside0 (wc.heap[gb327]? = some (.cells #[.int .i64 x4_1, .string x328001_42, .string x328002_67, .int .i64 0, .string (⟨#[]⟩ : ByteArray)] 25 (0, 0))) ∧ Aside0 (Below w.heap.size w wc))
                      case first =>
                        have H := HC68.out; clear HC68; by_cases c69 : x48_51 = true
                        · subst c69
                          have H1 : ((impl_reqRead_1.f x326000_42 x327000_42).bind fun bt331 => (impl_reqRead.j4 kj51 a0 t315 t316 t317 t318 t319 bt331.2.1 bt331.2.2 x4_1 x328001_42 bt331.1 0 (⟨#[]⟩ : ByteArray))) = some (r1, r2, r3, r4, r5, r6) := by rw [if_pos rfl] at H; exact H
                          clear H; have H := H1; clear H1; replace H := Option.bind_eq_some_iff.mp H; obtain ⟨⟨t331, t332, t333⟩, A700, H⟩ := H; replace H : (impl_reqRead.j4 kj51 a0 t315 t316 t317 t318 t319 t332 t333 x4_1 x328001_42 t331 0 (⟨#[]⟩ : ByteArray)) = some (r1, r2, r3, r4, r5, r6) := H; have A70 := Aside0.mk A700; clear A700; have H' := Aside0.mk H; clear H
                          go_wp2_with (first | (go_at_call 35; (with_reducible refine (impl_reqRead_1.calls x326000_42 x327000_42 gb325 gb326 t331 t332 t333 _ ?side1 ?side2 ?side3 A70.out).mono ?_); (case side1 => exact (by (with_reducible repeat (first | refine blk_drewN ?_ _ | refine blk_drew ?_ | refine blk_alloc ?_ _)); exact BK325.out)); (case side2 => exact (by (with_reducible repeat (first | refine blk_drewN ?_ _ | refine blk_drew ?_ | refine blk_alloc ?_ _)); exact BK326.out)); (case side3 => exact NB325_326.out); rintro e w71 ⟨rfl, hx0, hx1, hkc, hbc⟩; have n0_ := Aside0.mk (hkc _ _ NB314_325.out NB314_326.out (by (with_reducible repeat (first | refine blk_drewN ?_ _ | refine blk_drew ?_ | refine blk_alloc ?_ _)); exact BK314.out)); have n1_ := Aside0.mk (hkc _ _ NB321_325.out NB321_326.out (by (with_reducible repeat (first | refine blk_drewN ?_ _ | refine blk_drew ?_ | refine blk_alloc ?_ _)); exact BK321.out)); have n2_ := Aside0.mk (hx0); have n3_ := Aside0.mk (hx1); have n4_ := Aside0.mk (hkc _ _ NB327_325.out NB327_326.out (by (with_reducible repeat (first | refine blk_drewN ?_ _ | refine blk_drew ?_ | refine blk_alloc ?_ _)); exact BK327.out)); have n5_ := Aside0.mk (hbc _ (by repeat (first | (with_reducible first | exact HB.out | apply below_alloc | apply pw_below_drewN | apply below_drew1 | refine below_set ?_ GE314.out | refine below_set ?_ GE321.out | refine below_set ?_ GE325.out | refine below_set ?_ GE326.out | refine below_set ?_ GE327.out) | exact HB.out)) GW325.out GW326.out); clear BK314; clear BK321; clear BK325; clear BK326; clear BK327; clear HB; have BK314 := n0_; have BK321 := n1_; have BK325 := n2_; have BK326 := n3_; have BK327 := n4_; have HB := n5_; clear n0_ n1_ n2_ n3_ n4_ n5_; (try clear hkc); (try clear hbc); have hnb72 := NB327_314.out; have hnc72 := NB314_327.out; have hnb73 := NB327_321.out; have hnc73 := NB321_327.out; have hnb74 := NB327_325.out; have hnc74 := NB325_327.out; have hnb75 := NB327_326.out; have hnc75 := NB326_327.out; have hcz76_0 : w71.cell? ⟨gb327, 0, none⟩ = some (.int .i64 x4_1) := (blk_cell BK327.out 0).trans rfl; have hcz76_1 : w71.cell? ⟨gb327, 1, none⟩ = some (.string x328001_42) := (blk_cell BK327.out 1).trans rfl; have hcz76_2 : w71.cell? ⟨gb327, 2, none⟩ = some (.string (⟨#[]⟩ : ByteArray)) := (blk_cell BK327.out 2).trans rfl; have hcz76_3 : w71.cell? ⟨gb327, 3, none⟩ = some (.int .i64 0) := (blk_cell BK327.out 3).trans rfl; have hcz76_4 : w71.cell? ⟨gb327, 4, none⟩ = some (.string (⟨#[]⟩ : ByteArray)) := (blk_cell BK327.out 4).trans rfl; have hfz76_0 := blk_frozen BK327.out 0; have hfz76_1 := blk_frozen BK327.out 1; have hfz76_2 := blk_frozen BK327.out 2; have hfz76_3 := blk_frozen BK327.out 3; have hfz76_4 := blk_frozen BK327.out 4))
                          go_meet
                          case rel => exact ⟨_, (t332), (t333), (t331), H', ⟨by have := HK1.out; have := HJ6.out; have := HJ42.out; have := HJ51.out; first | omega | exact Nat.le_refl _⟩, ⟨by (with_reducible repeat (first | refine blk_drewN ?_ _ | refine blk_drew ?_ | refine blk_alloc ?_ _)); refine blk_far ?_ NB314_327.out _; (with_reducible repeat (first | refine blk_drewN ?_ _ | refine blk_drew ?_ | refine blk_alloc ?_ _)); exact BK314.out⟩, ⟨by (with_reducible repeat (first | refine blk_drewN ?_ _ | refine blk_drew ?_ | refine blk_alloc ?_ _)); refine blk_far ?_ NB321_327.out _; (with_reducible repeat (first | refine blk_drewN ?_ _ | refine blk_drew ?_ | refine blk_alloc ?_ _)); exact BK321.out⟩, ⟨by (with_reducible repeat (first | refine blk_drewN ?_ _ | refine blk_drew ?_ | refine blk_alloc ?_ _)); refine blk_far ?_ NB325_327.out _; (with_reducible repeat (first | refine blk_drewN ?_ _ | refine blk_drew ?_ | refine blk_alloc ?_ _)); exact BK325.out⟩, ⟨by (with_reducible repeat (first | refine blk_drewN ?_ _ | refine blk_drew ?_ | refine blk_alloc ?_ _)); refine blk_far ?_ NB326_327.out _; (with_reducible repeat (first | refine blk_drewN ?_ _ | refine blk_drew ?_ | refine blk_alloc ?_ _)); exact BK326.out⟩, ⟨by (with_reducible repeat (first | refine blk_drewN ?_ _ | refine blk_drew ?_ | refine blk_alloc ?_ _)); refine blk_put (cs := #[.int .i64 x4_1, .string x328001_42, .string (⟨#[]⟩ : ByteArray), .int .i64 0, .string (⟨#[]⟩ : ByteArray)]) ?_ 2 _ rfl; (with_reducible repeat (first | refine blk_drewN ?_ _ | refine blk_drew ?_ | refine blk_alloc ?_ _)); exact BK327.out⟩, ⟨by repeat (first | (with_reducible first | exact HB.out | apply below_alloc | apply pw_below_drewN | apply below_drew1 | refine below_set ?_ GE314.out | refine below_set ?_ GE321.out | refine below_set ?_ GE325.out | refine below_set ?_ GE326.out | refine below_set ?_ GE327.out) | exact HB.out)⟩⟩
                        · replace c69 := Bool.eq_false_iff.mpr c69
                          subst c69; have H1 : (impl_reqRead.j4 kj51 a0 t315 t316 t317 t318 t319 x326000_42 x327000_42 x4_1 x328001_42 (⟨#[]⟩ : ByteArray) 0 (⟨#[]⟩ : ByteArray)) = some (r1, r2, r3, r4, r5, r6) := by rw [if_neg (show ¬ (false = true) by decide)] at H; exact H
                          clear H; have H := H1; clear H1; have H' := Aside0.mk H; clear H
                          go_wp2
                          go_meet
                          case rel => exact ⟨_, (x326000_42), (x327000_42), ((⟨#[]⟩ : ByteArray)), H', ⟨by have := HK1.out; have := HJ6.out; have := HJ42.out; have := HJ51.out; first | omega | exact Nat.le_refl _⟩, ⟨by (with_reducible repeat (first | refine blk_drewN ?_ _ | refine blk_drew ?_ | refine blk_alloc ?_ _)); exact BK314.out⟩, ⟨by (with_reducible repeat (first | refine blk_drewN ?_ _ | refine blk_drew ?_ | refine blk_alloc ?_ _)); exact BK321.out⟩, ⟨by (with_reducible repeat (first | refine blk_drewN ?_ _ | refine blk_drew ?_ | refine blk_alloc ?_ _)); exact BK325.out⟩, ⟨by (with_reducible repeat (first | refine blk_drewN ?_ _ | refine blk_drew ?_ | refine blk_alloc ?_ _)); exact BK326.out⟩, ⟨by (with_reducible repeat (first | refine blk_drewN ?_ _ | refine blk_drew ?_ | refine blk_alloc ?_ _)); exact BK327.out⟩, ⟨by repeat (first | (with_reducible first | exact HB.out | apply below_alloc | apply pw_below_drewN | apply below_drew1 | refine below_set ?_ GE314.out | refine below_set ?_ GE321.out | refine below_set ?_ GE325.out | refine below_set ?_ GE326.out | refine below_set ?_ GE327.out) | exact HB.out)⟩⟩
                      case rest =>
                        clear HC68
                        try clear c1
                        try clear hx1
                        try clear c2
                        try clear p2
                        try clear c3
                        try clear c3b0
                        try clear c4
                        try clear c5
                        try clear c6
                        try clear c6b0
                        try clear c6b1
                        try clear p6
                        try clear c7
                        try clear c10
                        try clear c14
                        try clear c15
                        try clear c16
                        try clear c18
                        try clear c19
                        try clear c23
                        try clear c24
                        try clear c25
                        try clear c26
                        try clear c28
                        try clear c29
                        try clear c30
                        try clear c31
                        try clear c32
                        try clear c33
                        try clear c34
                        try clear c35
                        try clear c36
                        try clear c38
                        try clear c39
                        try clear c40
                        try clear c41
                        try clear c44
                        try clear c47
                        try clear c48
                        try clear c49
                        try clear c50
                        try clear c53
                        try clear c54
                        try clear c55
                        try clear c56
                        try clear c57
                        try clear c59
                        try clear c60
                        try clear c61
                        try clear c63
                        try clear c64
                        try clear p64
                        try clear c65
                        try clear c66
                        try clear c69
                        try clear c72
                        try clear c73
                        try clear c74
                        try clear c75
                        try clear hcz11_0
                        try clear hcz11_1
                        try clear hcz11_2
                        try clear hcz11_3
                        try clear hcz11_4
                        try clear hcz17_0
                        try clear hcz20_0
                        try clear hcz21_0
                        try clear hcz21_1
                        try clear hcz21_2
                        try clear hcz21_3
                        try clear hcz21_4
                        try clear hcz27_0
                        try clear hcz27_1
                        try clear hcz27_2
                        try clear hcz27_3
                        try clear hcz27_4
                        try clear hcz33_0
                        try clear hcz33_1
                        try clear hcz33_2
                        try clear hcz33_3
                        try clear hcz33_4
                        try clear hcz37_0
                        try clear hcz42_0
                        try clear hcz42_1
                        try clear hcz42_2
                        try clear hcz42_3
                        try clear hcz42_4
                        try clear hcz51_0
                        try clear hcz51_1
                        try clear hcz51_2
                        try clear hcz51_3
                        try clear hcz51_4
                        try clear hcz58_0
                        try clear hcz58_1
                        try clear hcz58_2
                        try clear hcz58_3
                        try clear hcz58_4
                        try clear hcz62_0
                        try clear hcz67_0
                        try clear hcz67_1
                        try clear hcz67_2
                        try clear hcz67_3
                        try clear hcz67_4
                        try clear hcz76_0
                        try clear hcz76_1
                        try clear hcz76_2
                        try clear hcz76_3
                        try clear hcz76_4
                        try clear hfz11_0
                        try clear hfz11_1
                        try clear hfz11_2
                        try clear hfz11_3
                        try clear hfz11_4
                        try clear hfz17_0
                        try clear hfz20_0
                        try clear hfz21_0
                        try clear hfz21_1
                        try clear hfz21_2
                        try clear hfz21_3
                        try clear hfz21_4
                        try clear hfz27_0
                        try clear hfz27_1
                        try clear hfz27_2
                        try clear hfz27_3
                        try clear hfz27_4
                        try clear hfz33_0
                        try clear hfz33_1
                        try clear hfz33_2
                        try clear hfz33_3
                        try clear hfz33_4
                        try clear hfz37_0
                        try clear hfz42_0
                        try clear hfz42_1
                        try clear hfz42_2
                        try clear hfz42_3
                        try clear hfz42_4
                        try clear hfz51_0
                        try clear hfz51_1
                        try clear hfz51_2
                        try clear hfz51_3
                        try clear hfz51_4
                        try clear hfz58_0
                        try clear hfz58_1
                        try clear hfz58_2
                        try clear hfz58_3
                        try clear hfz58_4
                        try clear hfz62_0
                        try clear hfz67_0
                        try clear hfz67_1
                        try clear hfz67_2
                        try clear hfz67_3
                        try clear hfz67_4
                        try clear hfz76_0
                        try clear hfz76_1
                        try clear hfz76_2
                        try clear hfz76_3
                        try clear hfz76_4
                        try clear p2
                        try clear p6
                        try clear p64
                        obtain ⟨kq, x326000_67, x327000_67, x328002_67, HA, HJ67, BK314, BK321, BK325, BK326, BK327, HB⟩ := hcut
                        cases kq with
                        | zero => exact absurd HA.out (by simp [impl_reqRead.j4])
                        | succ kj67 =>
                          have H := HA.out; clear HA; simp only [impl_reqRead.j4] at H; have HC77 := Aside0.mk H; clear H
                          go_upto_region 13 with (fail)
                          go_cut [56] (fun v56 wc => ∃ (kq : Nat) (x56_76 : Bool), v56 = .bool x56_76 ∧ Aside0 (impl_reqRead.j5 kq a0 x56_76 t315 t316 t317 t318 t319 x326000_67 x327000_67 x4_1 x328001_42 x328002_67 0 (⟨#[]⟩ : ByteArray) = some (r1, r2, r3, r4, r5, r6)) ∧ Aside0 (kq ≤ kj67) ∧ Aside0 (wc.heap[gb314]? = some (.cells #[.int .i64 x315000_1, .string x315001_1, .string x315002_1, .int .i64 x315003_1, .string x315004_1] 25 (0, 0))) ∧ Aside0 (wc.heap[gb321]? = some (.cells #[.string t315, .bool t316, .bool t317, .bool t318, .bool t319] 53 (0, 0))) ∧ Aside0 (wc.heap[gb325]? = some (.cells #[.string x326000_67] 9 (0, 0))) ∧ Aside0 (wc.heap[gb326]? = some (.cells #[.bool x327000_67] 4 (0, 0))) ∧ Aside0 (wc.heap[gb327]? = some (.cells #[.int .i64 x4_1, .string x328001_42, .string x328002_67, .int .i64 0, .string (⟨#[]⟩ : ByteArray)] 25 (0, 0))) ∧ Aside0 (Below w.heap.size w wc))
                          case first =>
                            have H := HC77.out; clear HC77; by_cases c78 : t318 = true
                            · subst c78
                              have H1 : (impl_reqRead.j5 kj67 a0 x327000_67 t315 t316 t317 true t319 x326000_67 x327000_67 x4_1 x328001_42 x328002_67 0 (⟨#[]⟩ : ByteArray)) = some (r1, r2, r3, r4, r5, r6) := by rw [if_pos rfl] at H; exact H
                              clear H; have H := H1; clear H1; have H' := Aside0.mk H; clear H; have hnb79 := NB321_314.out; have hnc79 := NB314_321.out; have hnb80 := NB321_325.out; have hnc80 := NB325_321.out; have hnb81 := NB321_326.out; have hnc81 := NB326_321.out; have hnb82 := NB321_327.out; have hnc82 := NB327_321.out; have hcz83_0 : wc.cell? ⟨gb321, 0, none⟩ = some (.string t315) := (blk_cell BK321.out 0).trans rfl; have hcz83_1 : wc.cell? ⟨gb321, 1, none⟩ = some (.bool t316) := (blk_cell BK321.out 1).trans rfl; have hcz83_2 : wc.cell? ⟨gb321, 2, none⟩ = some (.bool t317) := (blk_cell BK321.out 2).trans rfl; have hcz83_3 : wc.cell? ⟨gb321, 3, none⟩ = some (.bool true) := (blk_cell BK321.out 3).trans rfl; have hcz83_4 : wc.cell? ⟨gb321, 4, none⟩ = some (.bool t319) := (blk_cell BK321.out 4).trans rfl; have hfz83_0 := blk_frozen BK321.out 0; have hfz83_1 := blk_frozen BK321.out 1; have hfz83_2 := blk_frozen BK321.out 2; have hfz83_3 := blk_frozen BK321.out 3; have hfz83_4 := blk_frozen BK321.out 4; have hnb84 := NB326_314.out; have hnc84 := NB314_326.out; have hnb85 := NB326_325.out; have hnc85 := NB325_326.out; have hnb86 := NB326_327.out; have hnc86 := NB327_326.out; have hcz87_0 : wc.cell? ⟨gb326, 0, none⟩ = some (.bool x327000_67) := (blk_cell BK326.out 0).trans rfl; have hfz87_0 := blk_frozen BK326.out 0
                              go_wp2
                              go_meet
                              case rel => exact ⟨_, (x327000_67), (by first | rfl | (simp; done) | (simp [*]; done)), H', ⟨by have := HK1.out; have := HJ6.out; have := HJ42.out; have := HJ51.out; have := HJ67.out; first | omega | exact Nat.le_refl _⟩, ⟨by (with_reducible repeat (first | refine blk_drewN ?_ _ | refine blk_drew ?_ | refine blk_alloc ?_ _)); exact BK314.out⟩, ⟨by (with_reducible repeat (first | refine blk_drewN ?_ _ | refine blk_drew ?_ | refine blk_alloc ?_ _)); exact BK321.out⟩, ⟨by (with_reducible repeat (first | refine blk_drewN ?_ _ | refine blk_drew ?_ | refine blk_alloc ?_ _)); exact BK325.out⟩, ⟨by (with_reducible repeat (first | refine blk_drewN ?_ _ | refine blk_drew ?_ | refine blk_alloc ?_ _)); exact BK326.out⟩, ⟨by (with_reducible repeat (first | refine blk_drewN ?_ _ | refine blk_drew ?_ | refine blk_alloc ?_ _)); exact BK327.out⟩, ⟨by repeat (first | (with_reducible first | exact HB.out | apply below_alloc | apply pw_below_drewN | apply below_drew1 | refine below_set ?_ GE314.out | refine below_set ?_ GE321.out | refine below_set ?_ GE325.out | refine below_set ?_ GE326.out | refine below_set ?_ GE327.out) | exact HB.out)⟩⟩
                            · replace c78 := Bool.eq_false_iff.mpr c78
                              subst c78; have H1 : (impl_reqRead.j5 kj67 a0 false t315 t316 t317 false t319 x326000_67 x327000_67 x4_1 x328001_42 x328002_67 0 (⟨#[]⟩ : ByteArray)) = some (r1, r2, r3, r4, r5, r6) := by rw [if_neg (show ¬ (false = true) by decide)] at H; exact H
                              clear H; have H := H1; clear H1; have H' := Aside0.mk H; clear H; have hnb88 := NB321_314.out; have hnc88 := NB314_321.out; have hnb89 := NB321_325.out; have hnc89 := NB325_321.out; have hnb90 := NB321_326.out; have hnc90 := NB326_321.out; have hnb91 := NB321_327.out; have hnc91 := NB327_321.out; have hcz92_0 : wc.cell? ⟨gb321, 0, none⟩ = some (.string t315) := (blk_cell BK321.out 0).trans rfl; have hcz92_1 : wc.cell? ⟨gb321, 1, none⟩ = some (.bool t316) := (blk_cell BK321.out 1).trans rfl; have hcz92_2 : wc.cell? ⟨gb321, 2, none⟩ = some (.bool t317) := (blk_cell BK321.out 2).trans rfl; have hcz92_3 : wc.cell? ⟨gb321, 3, none⟩ = some (.bool false) := (blk_cell BK321.out 3).trans rfl; have hcz92_4 : wc.cell? ⟨gb321, 4, none⟩ = some (.bool t319) := (blk_cell BK321.out 4).trans rfl; have hfz92_0 := blk_frozen BK321.out 0; have hfz92_1 := blk_frozen BK321.out 1; have hfz92_2 := blk_frozen BK321.out 2; have hfz92_3 := blk_frozen BK321.out 3; have hfz92_4 := blk_frozen BK321.out 4
                              go_wp2
                              go_meet
                              case rel => exact ⟨_, (false), (by first | rfl | (simp; done) | (simp [*]; done)), H', ⟨by have := HK1.out; have := HJ6.out; have := HJ42.out; have := HJ51.out; have := HJ67.out; first | omega | exact Nat.le_refl _⟩, ⟨by (with_reducible repeat (first | refine blk_drewN ?_ _ | refine blk_drew ?_ | refine blk_alloc ?_ _)); exact BK314.out⟩, ⟨by (with_reducible repeat (first | refine blk_drewN ?_ _ | refine blk_drew ?_ | refine blk_alloc ?_ _)); exact BK321.out⟩, ⟨by (with_reducible repeat (first | refine blk_drewN ?_ _ | refine blk_drew ?_ | refine blk_alloc ?_ _)); exact BK325.out⟩, ⟨by (with_reducible repeat (first | refine blk_drewN ?_ _ | refine blk_drew ?_ | refine blk_alloc ?_ _)); exact BK326.out⟩, ⟨by (with_reducible repeat (first | refine blk_drewN ?_ _ | refine blk_drew ?_ | refine blk_alloc ?_ _)); exact BK327.out⟩, ⟨by repeat (first | (with_reducible first | exact HB.out | apply below_alloc | apply pw_below_drewN | apply below_drew1 | refine below_set ?_ GE314.out | refine below_set ?_ GE321.out | refine below_set ?_ GE325.out | refine below_set ?_ GE326.out | refine below_set ?_ GE327.out) | exact HB.out)⟩⟩
                          case rest =>
                            clear HC77
                            try clear c1
                            try clear hx1
                            try clear c2
                            try clear p2
                            try clear c3
                            try clear c3b0
                            try clear c4
                            try clear c5
                            try clear c6
                            try clear c6b0
                            try clear c6b1
                            try clear p6
                            try clear c7
                            try clear c8
                            try clear c9
                            try clear c10
                            try clear c14
                            try clear c15
                            try clear c16
                            try clear c18
                            try clear c19
                            try clear c23
                            try clear c24
                            try clear c25
                            try clear c26
                            try clear c28
                            try clear c29
                            try clear c30
                            try clear c31
                            try clear c32
                            try clear c33
                            try clear c34
                            try clear c35
                            try clear c36
                            try clear c38
                            try clear c39
                            try clear c40
                            try clear c41
                            try clear c44
                            try clear c47
                            try clear c48
                            try clear c49
                            try clear c50
                            try clear c53
                            try clear c54
                            try clear c55
                            try clear c56
                            try clear c57
                            try clear c59
                            try clear c60
                            try clear c61
                            try clear c63
                            try clear c64
                            try clear p64
                            try clear c65
                            try clear c66
                            try clear c69
                            try clear c72
                            try clear c73
                            try clear c74
                            try clear c75
                            try clear c78
                            try clear c79
                            try clear c80
                            try clear c81
                            try clear c82
                            try clear c84
                            try clear c85
                            try clear c86
                            try clear c88
                            try clear c89
                            try clear c90
                            try clear c91
                            try clear hcz11_0
                            try clear hcz11_1
                            try clear hcz11_2
                            try clear hcz11_3
                            try clear hcz11_4
                            try clear hcz17_0
                            try clear hcz20_0
                            try clear hcz21_0
                            try clear hcz21_1
                            try clear hcz21_2
                            try clear hcz21_3
                            try clear hcz21_4
                            try clear hcz27_0
                            try clear hcz27_1
                            try clear hcz27_2
                            try clear hcz27_3
                            try clear hcz27_4
                            try clear hcz33_0
                            try clear hcz33_1
                            try clear hcz33_2
                            try clear hcz33_3
                            try clear hcz33_4
                            try clear hcz37_0
                            try clear hcz42_0
                            try clear hcz42_1
                            try clear hcz42_2
                            try clear hcz42_3
                            try clear hcz42_4
                            try clear hcz51_0
                            try clear hcz51_1
                            try clear hcz51_2
                            try clear hcz51_3
                            try clear hcz51_4
                            try clear hcz58_0
                            try clear hcz58_1
                            try clear hcz58_2
                            try clear hcz58_3
                            try clear hcz58_4
                            try clear hcz62_0
                            try clear hcz67_0
                            try clear hcz67_1
                            try clear hcz67_2
                            try clear hcz67_3
                            try clear hcz67_4
                            try clear hcz76_0
                            try clear hcz76_1
                            try clear hcz76_2
                            try clear hcz76_3
                            try clear hcz76_4
                            try clear hcz83_0
                            try clear hcz83_1
                            try clear hcz83_2
                            try clear hcz83_3
                            try clear hcz83_4
                            try clear hcz87_0
                            try clear hcz92_0
                            try clear hcz92_1
                            try clear hcz92_2
                            try clear hcz92_3
                            try clear hcz92_4
                            try clear hfz11_0
                            try clear hfz11_1
                            try clear hfz11_2
                            try clear hfz11_3
                            try clear hfz11_4
                            try clear hfz17_0
                            try clear hfz20_0
                            try clear hfz21_0
                            try clear hfz21_1
                            try clear hfz21_2
                            try clear hfz21_3
                            try clear hfz21_4
                            try clear hfz27_0
                            try clear hfz27_1
                            try clear hfz27_2
                            try clear hfz27_3
                            try clear hfz27_4
                            try clear hfz33_0
                            try clear hfz33_1
                            try clear hfz33_2
                            try clear hfz33_3
                            try clear hfz33_4
                            try clear hfz37_0
                            try clear hfz42_0
                            try clear hfz42_1
                            try clear hfz42_2
                            try clear hfz42_3
                            try clear hfz42_4
                            try clear hfz51_0
                            try clear hfz51_1
                            try clear hfz51_2
                            try clear hfz51_3
                            try clear hfz51_4
                            try clear hfz58_0
                            try clear hfz58_1
                            try clear hfz58_2
                            try clear hfz58_3
                            try clear hfz58_4
                            try clear hfz62_0
                            try clear hfz67_0
                            try clear hfz67_1
                            try clear hfz67_2
                            try clear hfz67_3
                            try clear hfz67_4
                            try clear hfz76_0
                            try clear hfz76_1
                            try clear hfz76_2
                            try clear hfz76_3
                            try clear hfz76_4
                            try clear hfz83_0
                            try clear hfz83_1
                            try clear hfz83_2
                            try clear hfz83_3
                            try clear hfz83_4
                            try clear hfz87_0
                            try clear hfz92_0
                            try clear hfz92_1
                            try clear hfz92_2
                            try clear hfz92_3
                            try clear hfz92_4
                            try clear p2
                            try clear p6
                            try clear p64
                            obtain ⟨kq, x56_76, rfl, HA, HJ76, BK314, BK321, BK325, BK326, BK327, HB⟩ := hcut
                            cases kq with
                            | zero => exact absurd HA.out (by simp [impl_reqRead.j5])
                            | succ kj76 =>
                              have H := HA.out; clear HA; simp only [impl_reqRead.j5] at H; have HC93 := Aside0.mk H; clear H
                              go_upto_if 56 with (fail)
                              go_cut [] (fun wc => ∃ (kq : Nat) (x315000_92 : Int) (x315001_92 : ByteArray) (x315002_92 : ByteArray) (x315003_92 : Int) (x315004_92 : ByteArray) (x326000_92 : ByteArray) (x327000_92 : Bool) (x328003_92 : Int), Aside0 (impl_reqRead.j6 kq a0 t315 t316 t317 t318 t319 x326000_92 x327000_92 x4_1 x328001_42 x328002_67 x328003_92 (⟨#[]⟩ : ByteArray) = some (r1, r2, r3, r4, r5, r6)) ∧ Aside0 (kq ≤ kj76) ∧ Aside0 (wc.heap[gb314]? = some (.cells #[.int .i64 x315000_92, .string x315001_92, .string x315002_92, .int .i64 x315003_92, .string x315004_92] 25 (0, 0))) ∧ Aside0 (wc.heap[gb321]? = some (.cells #[.string t315, .bool t316, .bool t317, .bool t318, .bool t319] 53 (0, 0))) ∧ Aside0 (wc.heap[gb325]? = some (.cells #[.string x326000_92] 9 (0, 0))) ∧ Aside0 (wc.heap[gb326]? = some (.cells #[.bool x327000_92] 4 (0, 0))) ∧ Aside0 (wc.heap[gb327]? = some (.cells #[.int .i64 x4_1, .string x328001_42, .string x328002_67, .int .i64 x328003_92, .string (⟨#[]⟩ : ByteArray)] 25 (0, 0))) ∧ Aside0 (Below w.heap.size w wc))
                              case first =>
                                have H := HC93.out; clear HC93; by_cases c94 : x56_76 = true
                                · subst c94
                                  have H1 : ((impl_reqRead_1.f x326000_67 x327000_67).bind fun bt334 => ((impl_readLimit.f bt334.1).bind fun bt337 => (if bt337.2 = true then (impl_reqRead.j6 kj76 a0 t315 t316 t317 t318 t319 bt334.2.1 bt334.2.2 x4_1 x328001_42 x328002_67 bt337.1 (⟨#[]⟩ : ByteArray)) else (some (0, (⟨#[]⟩ : ByteArray), (⟨#[]⟩ : ByteArray), 0, (⟨#[]⟩ : ByteArray), false))))) = some (r1, r2, r3, r4, r5, r6) := by rw [if_pos rfl] at H; exact H
                                  clear H; have H := H1; clear H1; replace H := Option.bind_eq_some_iff.mp H; obtain ⟨⟨t334, t335, t336⟩, A950, H⟩ := H; replace H : ((impl_readLimit.f t334).bind fun bt337 => (if bt337.2 = true then (impl_reqRead.j6 kj76 a0 t315 t316 t317 t318 t319 t335 t336 x4_1 x328001_42 x328002_67 bt337.1 (⟨#[]⟩ : ByteArray)) else (some (0, (⟨#[]⟩ : ByteArray), (⟨#[]⟩ : ByteArray), 0, (⟨#[]⟩ : ByteArray), false)))) = some (r1, r2, r3, r4, r5, r6) := H; have A95 := Aside0.mk A950; clear A950; replace H := Option.bind_eq_some_iff.mp H; obtain ⟨⟨t337, t338⟩, A960, H⟩ := H; replace H : (if t338 = true then (impl_reqRead.j6 kj76 a0 t315 t316 t317 t318 t319 t335 t336 x4_1 x328001_42 x328002_67 t337 (⟨#[]⟩ : ByteArray)) else (some (0, (⟨#[]⟩ : ByteArray), (⟨#[]⟩ : ByteArray), 0, (⟨#[]⟩ : ByteArray), false))) = some (r1, r2, r3, r4, r5, r6) := H; have A96 := Aside0.mk A960; clear A960; by_cases c97 : t338 = true
                                  · subst c97
                                    have H1 : (impl_reqRead.j6 kj76 a0 t315 t316 t317 t318 t319 t335 t336 x4_1 x328001_42 x328002_67 t337 (⟨#[]⟩ : ByteArray)) = some (r1, r2, r3, r4, r5, r6) := by rw [if_pos rfl] at H; exact H
                                    clear H; have H := H1; clear H1; have H' := Aside0.mk H; clear H
                                    go_wp2_with (first | (go_at_call 35; (with_reducible refine (impl_reqRead_1.calls x326000_67 x327000_67 gb325 gb326 t334 t335 t336 _ ?side1 ?side2 ?side3 A95.out).mono ?_); (case side1 => exact (by (with_reducible repeat (first | refine blk_drewN ?_ _ | refine blk_drew ?_ | refine blk_alloc ?_ _)); exact BK325.out)); (case side2 => exact (by (with_reducible repeat (first | refine blk_drewN ?_ _ | refine blk_drew ?_ | refine blk_alloc ?_ _)); exact BK326.out)); (case side3 => exact NB325_326.out); rintro e w98 ⟨rfl, hx0, hx1, hkc, hbc⟩; have n0_ := Aside0.mk (hkc _ _ NB314_325.out NB314_326.out (by (with_reducible repeat (first | refine blk_drewN ?_ _ | refine blk_drew ?_ | refine blk_alloc ?_ _)); exact BK314.out)); have n1_ := Aside0.mk (hkc _ _ NB321_325.out NB321_326.out (by (with_reducible repeat (first | refine blk_drewN ?_ _ | refine blk_drew ?_ | refine blk_alloc ?_ _)); exact BK321.out)); have n2_ := Aside0.mk (hx0); have n3_ := Aside0.mk (hx1); have n4_ := Aside0.mk (hkc _ _ NB327_325.out NB327_326.out (by (with_reducible repeat (first | refine blk_drewN ?_ _ | refine blk_drew ?_ | refine blk_alloc ?_ _)); exact BK327.out)); have n5_ := Aside0.mk (hbc _ (by repeat (first | (with_reducible first | exact HB.out | apply below_alloc | apply pw_below_drewN | apply below_drew1 | refine below_set ?_ GE314.out | refine below_set ?_ GE321.out | refine below_set ?_ GE325.out | refine below_set ?_ GE326.out | refine below_set ?_ GE327.out) | exact HB.out)) GW325.out GW326.out); clear BK314; clear BK321; clear BK325; clear BK326; clear BK327; clear HB; have BK314 := n0_; have BK321 := n1_; have BK325 := n2_; have BK326 := n3_; have BK327 := n4_; have HB := n5_; clear n0_ n1_ n2_ n3_ n4_ n5_; (try clear hkc); (try clear hbc)) | ((with_reducible refine gate_callee (f := 36) rfl ?_); refine goesL_ (some 60) rfl rfl Tryd.func36 (by kernel_rfl) rfl #[.string t334] rfl (by (try simp only [List.map_toArray, List.map_cons, List.map_nil]); first | done | rfl | (simp only [List.length_drop, List.length_take]; rfl)) ?_; (with_reducible refine (impl_readLimit.calls t334 t337 true _ A96.out).mono ?_); rintro e w99 ⟨rfl, hb⟩; refine ⟨_, rfl, ?_⟩; have n0_ := Aside0.mk (blk_below (g := gb314) (o := .cells #[.int .i64 x315000_1, .string x315001_1, .string x315002_1, .int .i64 x315003_1, .string x315004_1] 25 (0, 0)) (by (with_reducible repeat (first | refine blk_drewN ?_ _ | refine blk_drew ?_ | refine blk_alloc ?_ _)); exact BK314.out) hb); have n1_ := Aside0.mk (blk_below (g := gb321) (o := .cells #[.string t315, .bool t316, .bool t317, .bool t318, .bool t319] 53 (0, 0)) (by (with_reducible repeat (first | refine blk_drewN ?_ _ | refine blk_drew ?_ | refine blk_alloc ?_ _)); exact BK321.out) hb); have n2_ := Aside0.mk (blk_below (g := gb325) (o := .cells #[.string t335] 9 (0, 0)) (by (with_reducible repeat (first | refine blk_drewN ?_ _ | refine blk_drew ?_ | refine blk_alloc ?_ _)); exact BK325.out) hb); have n3_ := Aside0.mk (blk_below (g := gb326) (o := .cells #[.bool t336] 4 (0, 0)) (by (with_reducible repeat (first | refine blk_drewN ?_ _ | refine blk_drew ?_ | refine blk_alloc ?_ _)); exact BK326.out) hb); have n4_ := Aside0.mk (blk_below (g := gb327) (o := .cells #[.int .i64 x4_1, .string x328001_42, .string x328002_67, .int .i64 0, .string (⟨#[]⟩ : ByteArray)] 25 (0, 0)) (by (with_reducible repeat (first | refine blk_drewN ?_ _ | refine blk_drew ?_ | refine blk_alloc ?_ _)); exact BK327.out) hb); have n5_ := Aside0.mk (below_step (by repeat (first | (with_reducible first | exact HB.out | apply below_alloc | apply pw_below_drewN | apply below_drew1 | refine below_set ?_ GE314.out | refine below_set ?_ GE321.out | refine below_set ?_ GE325.out | refine below_set ?_ GE326.out | refine below_set ?_ GE327.out) | exact HB.out)) hb); clear BK314; clear BK321; clear BK325; clear BK326; clear BK327; clear HB; have BK314 := n0_; have BK321 := n1_; have BK325 := n2_; have BK326 := n3_; have BK327 := n4_; have HB := n5_; clear n0_ n1_ n2_ n3_ n4_ n5_; (try clear hb); (try clear hb2); (try clear hk); (try clear hi); have hnb100 := NB327_314.out; have hnc100 := NB314_327.out; have hnb101 := NB327_321.out; have hnc101 := NB321_327.out; have hnb102 := NB327_325.out; have hnc102 := NB325_327.out; have hnb103 := NB327_326.out; have hnc103 := NB326_327.out; have hcz104_0 : w99.cell? ⟨gb327, 0, none⟩ = some (.int .i64 x4_1) := (blk_cell BK327.out 0).trans rfl; have hcz104_1 : w99.cell? ⟨gb327, 1, none⟩ = some (.string x328001_42) := (blk_cell BK327.out 1).trans rfl; have hcz104_2 : w99.cell? ⟨gb327, 2, none⟩ = some (.string x328002_67) := (blk_cell BK327.out 2).trans rfl; have hcz104_3 : w99.cell? ⟨gb327, 3, none⟩ = some (.int .i64 0) := (blk_cell BK327.out 3).trans rfl; have hcz104_4 : w99.cell? ⟨gb327, 4, none⟩ = some (.string (⟨#[]⟩ : ByteArray)) := (blk_cell BK327.out 4).trans rfl; have hfz104_0 := blk_frozen BK327.out 0; have hfz104_1 := blk_frozen BK327.out 1; have hfz104_2 := blk_frozen BK327.out 2; have hfz104_3 := blk_frozen BK327.out 3; have hfz104_4 := blk_frozen BK327.out 4))
                                    go_meet
                                    case rel => exact ⟨_, (x315000_1), (x315001_1), (x315002_1), (x315003_1), (x315004_1), (t335), (t336), (t337), H', ⟨by have := HK1.out; have := HJ6.out; have := HJ42.out; have := HJ51.out; have := HJ67.out; have := HJ76.out; first | omega | exact Nat.le_refl _⟩, ⟨by (with_reducible repeat (first | refine blk_drewN ?_ _ | refine blk_drew ?_ | refine blk_alloc ?_ _)); refine blk_far ?_ NB314_327.out _; (with_reducible repeat (first | refine blk_drewN ?_ _ | refine blk_drew ?_ | refine blk_alloc ?_ _)); exact BK314.out⟩, ⟨by (with_reducible repeat (first | refine blk_drewN ?_ _ | refine blk_drew ?_ | refine blk_alloc ?_ _)); refine blk_far ?_ NB321_327.out _; (with_reducible repeat (first | refine blk_drewN ?_ _ | refine blk_drew ?_ | refine blk_alloc ?_ _)); exact BK321.out⟩, ⟨by (with_reducible repeat (first | refine blk_drewN ?_ _ | refine blk_drew ?_ | refine blk_alloc ?_ _)); refine blk_far ?_ NB325_327.out _; (with_reducible repeat (first | refine blk_drewN ?_ _ | refine blk_drew ?_ | refine blk_alloc ?_ _)); exact BK325.out⟩, ⟨by (with_reducible repeat (first | refine blk_drewN ?_ _ | refine blk_drew ?_ | refine blk_alloc ?_ _)); refine blk_far ?_ NB326_327.out _; (with_reducible repeat (first | refine blk_drewN ?_ _ | refine blk_drew ?_ | refine blk_alloc ?_ _)); exact BK326.out⟩, ⟨by (with_reducible repeat (first | refine blk_drewN ?_ _ | refine blk_drew ?_ | refine blk_alloc ?_ _)); refine blk_put (cs := #[.int .i64 x4_1, .string x328001_42, .string x328002_67, .int .i64 0, .string (⟨#[]⟩ : ByteArray)]) ?_ 3 _ rfl; (with_reducible repeat (first | refine blk_drewN ?_ _ | refine blk_drew ?_ | refine blk_alloc ?_ _)); exact BK327.out⟩, ⟨by repeat (first | (with_reducible first | exact HB.out | apply below_alloc | apply pw_below_drewN | apply below_drew1 | refine below_set ?_ GE314.out | refine below_set ?_ GE321.out | refine below_set ?_ GE325.out | refine below_set ?_ GE326.out | refine below_set ?_ GE327.out) | exact HB.out)⟩⟩
                                  · replace c97 := Bool.eq_false_iff.mpr c97
                                    subst c97; have H1 : (some (0, (⟨#[]⟩ : ByteArray), (⟨#[]⟩ : ByteArray), 0, (⟨#[]⟩ : ByteArray), false)) = some (r1, r2, r3, r4, r5, r6) := by rw [if_neg (show ¬ (false = true) by decide)] at H; exact H
                                    clear H; have H := H1; clear H1; simp only [Option.some.injEq, Prod.mk.injEq] at H; obtain ⟨rfl, rfl, rfl, rfl, rfl, rfl⟩ := H
                                    go_wp2_with (first | (go_at_call 35; (with_reducible refine (impl_reqRead_1.calls x326000_67 x327000_67 gb325 gb326 t334 t335 t336 _ ?side1 ?side2 ?side3 A95.out).mono ?_); (case side1 => exact (by (with_reducible repeat (first | refine blk_drewN ?_ _ | refine blk_drew ?_ | refine blk_alloc ?_ _)); exact BK325.out)); (case side2 => exact (by (with_reducible repeat (first | refine blk_drewN ?_ _ | refine blk_drew ?_ | refine blk_alloc ?_ _)); exact BK326.out)); (case side3 => exact NB325_326.out); rintro e w105 ⟨rfl, hx0, hx1, hkc, hbc⟩; have n0_ := Aside0.mk (hkc _ _ NB314_325.out NB314_326.out (by (with_reducible repeat (first | refine blk_drewN ?_ _ | refine blk_drew ?_ | refine blk_alloc ?_ _)); exact BK314.out)); have n1_ := Aside0.mk (hkc _ _ NB321_325.out NB321_326.out (by (with_reducible repeat (first | refine blk_drewN ?_ _ | refine blk_drew ?_ | refine blk_alloc ?_ _)); exact BK321.out)); have n2_ := Aside0.mk (hx0); have n3_ := Aside0.mk (hx1); have n4_ := Aside0.mk (hkc _ _ NB327_325.out NB327_326.out (by (with_reducible repeat (first | refine blk_drewN ?_ _ | refine blk_drew ?_ | refine blk_alloc ?_ _)); exact BK327.out)); have n5_ := Aside0.mk (hbc _ (by repeat (first | (with_reducible first | exact HB.out | apply below_alloc | apply pw_below_drewN | apply below_drew1 | refine below_set ?_ GE314.out | refine below_set ?_ GE321.out | refine below_set ?_ GE325.out | refine below_set ?_ GE326.out | refine below_set ?_ GE327.out) | exact HB.out)) GW325.out GW326.out); clear BK314; clear BK321; clear BK325; clear BK326; clear BK327; clear HB; have BK314 := n0_; have BK321 := n1_; have BK325 := n2_; have BK326 := n3_; have BK327 := n4_; have HB := n5_; clear n0_ n1_ n2_ n3_ n4_ n5_; (try clear hkc); (try clear hbc)) | ((with_reducible refine gate_callee (f := 36) rfl ?_); refine goesL_ (some 60) rfl rfl Tryd.func36 (by kernel_rfl) rfl #[.string t334] rfl (by (try simp only [List.map_toArray, List.map_cons, List.map_nil]); first | done | rfl | (simp only [List.length_drop, List.length_take]; rfl)) ?_; (with_reducible refine (impl_readLimit.calls t334 t337 false _ A96.out).mono ?_); rintro e w106 ⟨rfl, hb⟩; refine ⟨_, rfl, ?_⟩; have n0_ := Aside0.mk (blk_below (g := gb314) (o := .cells #[.int .i64 x315000_1, .string x315001_1, .string x315002_1, .int .i64 x315003_1, .string x315004_1] 25 (0, 0)) (by (with_reducible repeat (first | refine blk_drewN ?_ _ | refine blk_drew ?_ | refine blk_alloc ?_ _)); exact BK314.out) hb); have n1_ := Aside0.mk (blk_below (g := gb321) (o := .cells #[.string t315, .bool t316, .bool t317, .bool t318, .bool t319] 53 (0, 0)) (by (with_reducible repeat (first | refine blk_drewN ?_ _ | refine blk_drew ?_ | refine blk_alloc ?_ _)); exact BK321.out) hb); have n2_ := Aside0.mk (blk_below (g := gb325) (o := .cells #[.string t335] 9 (0, 0)) (by (with_reducible repeat (first | refine blk_drewN ?_ _ | refine blk_drew ?_ | refine blk_alloc ?_ _)); exact BK325.out) hb); have n3_ := Aside0.mk (blk_below (g := gb326) (o := .cells #[.bool t336] 4 (0, 0)) (by (with_reducible repeat (first | refine blk_drewN ?_ _ | refine blk_drew ?_ | refine blk_alloc ?_ _)); exact BK326.out) hb); have n4_ := Aside0.mk (blk_below (g := gb327) (o := .cells #[.int .i64 x4_1, .string x328001_42, .string x328002_67, .int .i64 0, .string (⟨#[]⟩ : ByteArray)] 25 (0, 0)) (by (with_reducible repeat (first | refine blk_drewN ?_ _ | refine blk_drew ?_ | refine blk_alloc ?_ _)); exact BK327.out) hb); have n5_ := Aside0.mk (below_step (by repeat (first | (with_reducible first | exact HB.out | apply below_alloc | apply pw_below_drewN | apply below_drew1 | refine below_set ?_ GE314.out | refine below_set ?_ GE321.out | refine below_set ?_ GE325.out | refine below_set ?_ GE326.out | refine below_set ?_ GE327.out) | exact HB.out)) hb); clear BK314; clear BK321; clear BK325; clear BK326; clear BK327; clear HB; have BK314 := n0_; have BK321 := n1_; have BK325 := n2_; have BK326 := n3_; have BK327 := n4_; have HB := n5_; clear n0_ n1_ n2_ n3_ n4_ n5_; (try clear hb); (try clear hb2); (try clear hk); (try clear hi); have hnb107 := NB314_321.out; have hnc107 := NB321_314.out; have hnb108 := NB314_325.out; have hnc108 := NB325_314.out; have hnb109 := NB314_326.out; have hnc109 := NB326_314.out; have hnb110 := NB314_327.out; have hnc110 := NB327_314.out; have hcz111_0 : w106.cell? ⟨gb314, 0, none⟩ = some (.int .i64 x315000_1) := (blk_cell BK314.out 0).trans rfl; have hcz111_1 : w106.cell? ⟨gb314, 1, none⟩ = some (.string x315001_1) := (blk_cell BK314.out 1).trans rfl; have hcz111_2 : w106.cell? ⟨gb314, 2, none⟩ = some (.string x315002_1) := (blk_cell BK314.out 2).trans rfl; have hcz111_3 : w106.cell? ⟨gb314, 3, none⟩ = some (.int .i64 x315003_1) := (blk_cell BK314.out 3).trans rfl; have hcz111_4 : w106.cell? ⟨gb314, 4, none⟩ = some (.string x315004_1) := (blk_cell BK314.out 4).trans rfl; have hfz111_0 := blk_frozen BK314.out 0; have hfz111_1 := blk_frozen BK314.out 1; have hfz111_2 := blk_frozen BK314.out 2; have hfz111_3 := blk_frozen BK314.out 3; have hfz111_4 := blk_frozen BK314.out 4))
                                    refine bodyPost_ret (results_ct rfl _ _ gb314 25 #[.int .i64 0, .string (⟨#[]⟩ : ByteArray), .string (⟨#[]⟩ : ByteArray), .int .i64 0, .string (⟨#[]⟩ : ByteArray)] (0, 0) _ rfl (by (with_reducible repeat (first | refine blk_drewN ?_ _ | refine blk_drew ?_ | refine blk_alloc ?_ _)); refine blk_put (cs := #[.int .i64 0, .string (⟨#[]⟩ : ByteArray), .string (⟨#[]⟩ : ByteArray), .int .i64 0, .string x315004_1]) ?_ 4 _ rfl; (with_reducible repeat (first | refine blk_drewN ?_ _ | refine blk_drew ?_ | refine blk_alloc ?_ _)); refine blk_put (cs := #[.int .i64 0, .string (⟨#[]⟩ : ByteArray), .string (⟨#[]⟩ : ByteArray), .int .i64 x315003_1, .string x315004_1]) ?_ 3 _ rfl; (with_reducible repeat (first | refine blk_drewN ?_ _ | refine blk_drew ?_ | refine blk_alloc ?_ _)); refine blk_put (cs := #[.int .i64 0, .string (⟨#[]⟩ : ByteArray), .string x315002_1, .int .i64 x315003_1, .string x315004_1]) ?_ 2 _ rfl; (with_reducible repeat (first | refine blk_drewN ?_ _ | refine blk_drew ?_ | refine blk_alloc ?_ _)); refine blk_put (cs := #[.int .i64 0, .string x315001_1, .string x315002_1, .int .i64 x315003_1, .string x315004_1]) ?_ 1 _ rfl; (with_reducible repeat (first | refine blk_drewN ?_ _ | refine blk_drew ?_ | refine blk_alloc ?_ _)); refine blk_put (cs := #[.int .i64 x315000_1, .string x315001_1, .string x315002_1, .int .i64 x315003_1, .string x315004_1]) ?_ 0 _ rfl; (with_reducible repeat (first | refine blk_drewN ?_ _ | refine blk_drew ?_ | refine blk_alloc ?_ _)); exact BK314.out) Tryd.underlying25 rfl (by kernel_rfl)) rfl ?_
                                    exact ⟨by first | rfl | (simp [errW_none, errW_some] <;> rfl) | (simp [*, errW_none, errW_some] <;> rfl), by repeat (first | (with_reducible first | exact HB.out | apply below_alloc | apply pw_below_drewN | apply below_drew1 | refine below_set ?_ GE314.out | refine below_set ?_ GE321.out | refine below_set ?_ GE325.out | refine below_set ?_ GE326.out | refine below_set ?_ GE327.out) | exact HB.out)⟩
                                · replace c94 := Bool.eq_false_iff.mpr c94
                                  subst c94; have H1 : (impl_reqRead.j6 kj76 a0 t315 t316 t317 t318 t319 x326000_67 x327000_67 x4_1 x328001_42 x328002_67 0 (⟨#[]⟩ : ByteArray)) = some (r1, r2, r3, r4, r5, r6) := by rw [if_neg (show ¬ (false = true) by decide)] at H; exact H
                                  clear H; have H := H1; clear H1; have H' := Aside0.mk H; clear H
                                  go_wp2
                                  go_meet
                                  case rel => exact ⟨_, (x315000_1), (x315001_1), (x315002_1), (x315003_1), (x315004_1), (x326000_67), (x327000_67), (0), H', ⟨by have := HK1.out; have := HJ6.out; have := HJ42.out; have := HJ51.out; have := HJ67.out; have := HJ76.out; first | omega | exact Nat.le_refl _⟩, ⟨by (with_reducible repeat (first | refine blk_drewN ?_ _ | refine blk_drew ?_ | refine blk_alloc ?_ _)); exact BK314.out⟩, ⟨by (with_reducible repeat (first | refine blk_drewN ?_ _ | refine blk_drew ?_ | refine blk_alloc ?_ _)); exact BK321.out⟩, ⟨by (with_reducible repeat (first | refine blk_drewN ?_ _ | refine blk_drew ?_ | refine blk_alloc ?_ _)); exact BK325.out⟩, ⟨by (with_reducible repeat (first | refine blk_drewN ?_ _ | refine blk_drew ?_ | refine blk_alloc ?_ _)); exact BK326.out⟩, ⟨by (with_reducible repeat (first | refine blk_drewN ?_ _ | refine blk_drew ?_ | refine blk_alloc ?_ _)); exact BK327.out⟩, ⟨by repeat (first | (with_reducible first | exact HB.out | apply below_alloc | apply pw_below_drewN | apply below_drew1 | refine below_set ?_ GE314.out | refine below_set ?_ GE321.out | refine below_set ?_ GE325.out | refine below_set ?_ GE326.out | refine below_set ?_ GE327.out) | exact HB.out)⟩⟩
                              case rest =>
                                clear HC93
                                try clear c1
                                try clear hx1
                                try clear c2
                                try clear p2
                                try clear c3
                                try clear c3b0
                                try clear c4
                                try clear c5
                                try clear c6
                                try clear c6b0
                                try clear c6b1
                                try clear p6
                                try clear c7
                                try clear c8
                                try clear c9
                                try clear c10
                                try clear c11
                                try clear c14
                                try clear c15
                                try clear c16
                                try clear c18
                                try clear c19
                                try clear c23
                                try clear c24
                                try clear c25
                                try clear c26
                                try clear c28
                                try clear c29
                                try clear c30
                                try clear c31
                                try clear c32
                                try clear c33
                                try clear c34
                                try clear c35
                                try clear c36
                                try clear c38
                                try clear c39
                                try clear c40
                                try clear c41
                                try clear c44
                                try clear c47
                                try clear c48
                                try clear c49
                                try clear c50
                                try clear c53
                                try clear c54
                                try clear c55
                                try clear c56
                                try clear c57
                                try clear c59
                                try clear c60
                                try clear c61
                                try clear c63
                                try clear c64
                                try clear p64
                                try clear c65
                                try clear c66
                                try clear c69
                                try clear c72
                                try clear c73
                                try clear c74
                                try clear c75
                                try clear c78
                                try clear c79
                                try clear c80
                                try clear c81
                                try clear c82
                                try clear c84
                                try clear c85
                                try clear c86
                                try clear c88
                                try clear c89
                                try clear c90
                                try clear c91
                                try clear c94
                                try clear c97
                                try clear c100
                                try clear c101
                                try clear c102
                                try clear c103
                                try clear c107
                                try clear c108
                                try clear c109
                                try clear c110
                                try clear hcz104_0
                                try clear hcz104_1
                                try clear hcz104_2
                                try clear hcz104_3
                                try clear hcz104_4
                                try clear hcz111_0
                                try clear hcz111_1
                                try clear hcz111_2
                                try clear hcz111_3
                                try clear hcz111_4
                                try clear hcz11_0
                                try clear hcz11_1
                                try clear hcz11_2
                                try clear hcz11_3
                                try clear hcz11_4
                                try clear hcz17_0
                                try clear hcz20_0
                                try clear hcz21_0
                                try clear hcz21_1
                                try clear hcz21_2
                                try clear hcz21_3
                                try clear hcz21_4
                                try clear hcz27_0
                                try clear hcz27_1
                                try clear hcz27_2
                                try clear hcz27_3
                                try clear hcz27_4
                                try clear hcz33_0
                                try clear hcz33_1
                                try clear hcz33_2
                                try clear hcz33_3
                                try clear hcz33_4
                                try clear hcz37_0
                                try clear hcz42_0
                                try clear hcz42_1
                                try clear hcz42_2
                                try clear hcz42_3
                                try clear hcz42_4
                                try clear hcz51_0
                                try clear hcz51_1
                                try clear hcz51_2
                                try clear hcz51_3
                                try clear hcz51_4
                                try clear hcz58_0
                                try clear hcz58_1
                                try clear hcz58_2
                                try clear hcz58_3
                                try clear hcz58_4
                                try clear hcz62_0
                                try clear hcz67_0
                                try clear hcz67_1
                                try clear hcz67_2
                                try clear hcz67_3
                                try clear hcz67_4
                                try clear hcz76_0
                                try clear hcz76_1
                                try clear hcz76_2
                                try clear hcz76_3
                                try clear hcz76_4
                                try clear hcz83_0
                                try clear hcz83_1
                                try clear hcz83_2
                                try clear hcz83_3
                                try clear hcz83_4
                                try clear hcz87_0
                                try clear hcz92_0
                                try clear hcz92_1
                                try clear hcz92_2
                                try clear hcz92_3
                                try clear hcz92_4
                                try clear hfz104_0
                                try clear hfz104_1
                                try clear hfz104_2
                                try clear hfz104_3
                                try clear hfz104_4
                                try clear hfz111_0
                                try clear hfz111_1
                                try clear hfz111_2
                                try clear hfz111_3
                                try clear hfz111_4
                                try clear hfz11_0
                                try clear hfz11_1
                                try clear hfz11_2
                                try clear hfz11_3
                                try clear hfz11_4
                                try clear hfz17_0
                                try clear hfz20_0
                                try clear hfz21_0
                                try clear hfz21_1
                                try clear hfz21_2
                                try clear hfz21_3
                                try clear hfz21_4
                                try clear hfz27_0
                                try clear hfz27_1
                                try clear hfz27_2
                                try clear hfz27_3
                                try clear hfz27_4
                                try clear hfz33_0
                                try clear hfz33_1
                                try clear hfz33_2
                                try clear hfz33_3
                                try clear hfz33_4
                                try clear hfz37_0
                                try clear hfz42_0
                                try clear hfz42_1
                                try clear hfz42_2
                                try clear hfz42_3
                                try clear hfz42_4
                                try clear hfz51_0
                                try clear hfz51_1
                                try clear hfz51_2
                                try clear hfz51_3
                                try clear hfz51_4
                                try clear hfz58_0
                                try clear hfz58_1
                                try clear hfz58_2
                                try clear hfz58_3
                                try clear hfz58_4
                                try clear hfz62_0
                                try clear hfz67_0
                                try clear hfz67_1
                                try clear hfz67_2
                                try clear hfz67_3
                                try clear hfz67_4
                                try clear hfz76_0
                                try clear hfz76_1
                                try clear hfz76_2
                                try clear hfz76_3
                                try clear hfz76_4
                                try clear hfz83_0
                                try clear hfz83_1
                                try clear hfz83_2
                                try clear hfz83_3
                                try clear hfz83_4
                                try clear hfz87_0
                                try clear hfz92_0
                                try clear hfz92_1
                                try clear hfz92_2
                                try clear hfz92_3
                                try clear hfz92_4
                                try clear p2
                                try clear p6
                                try clear p64
                                obtain ⟨kq, x315000_92, x315001_92, x315002_92, x315003_92, x315004_92, x326000_92, x327000_92, x328003_92, HA, HJ92, BK314, BK321, BK325, BK326, BK327, HB⟩ := hcut
                                cases kq with
                                | zero => exact absurd HA.out (by simp [impl_reqRead.j6])
                                | succ kj92 =>
                                  have H := HA.out; clear HA; simp only [impl_reqRead.j6] at H; have HC112 := Aside0.mk H; clear H
                                  go_upto_region 18 with (fail)
                                  go_cut [72] (fun v72 wc => ∃ (kq : Nat) (x72_111 : Bool), v72 = .bool x72_111 ∧ Aside0 (impl_reqRead.j7 kq a0 x72_111 x326000_92 x4_1 x328001_42 x328002_67 x328003_92 (⟨#[]⟩ : ByteArray) = some (r1, r2, r3, r4, r5, r6)) ∧ Aside0 (kq ≤ kj92) ∧ Aside0 (wc.heap[gb314]? = some (.cells #[.int .i64 x315000_92, .string x315001_92, .string x315002_92, .int .i64 x315003_92, .string x315004_92] 25 (0, 0))) ∧ Aside0 (wc.heap[gb321]? = some (.cells #[.string t315, .bool t316, .bool t317, .bool t318, .bool t319] 53 (0, 0))) ∧ Aside0 (wc.heap[gb325]? = some (.cells #[.string x326000_92] 9 (0, 0))) ∧ Aside0 (wc.heap[gb326]? = some (.cells #[.bool x327000_92] 4 (0, 0))) ∧ Aside0 (wc.heap[gb327]? = some (.cells #[.int .i64 x4_1, .string x328001_42, .string x328002_67, .int .i64 x328003_92, .string (⟨#[]⟩ : ByteArray)] 25 (0, 0))) ∧ Aside0 (Below w.heap.size w wc))
                                  case first =>
                                    have H := HC112.out; clear HC112; by_cases c113 : t319 = true
                                    · subst c113
                                      have H1 : (impl_reqRead.j7 kj92 a0 x327000_92 x326000_92 x4_1 x328001_42 x328002_67 x328003_92 (⟨#[]⟩ : ByteArray)) = some (r1, r2, r3, r4, r5, r6) := by rw [if_pos rfl] at H; exact H
                                      clear H; have H := H1; clear H1; have H' := Aside0.mk H; clear H; have hnb114 := NB321_314.out; have hnc114 := NB314_321.out; have hnb115 := NB321_325.out; have hnc115 := NB325_321.out; have hnb116 := NB321_326.out; have hnc116 := NB326_321.out; have hnb117 := NB321_327.out; have hnc117 := NB327_321.out; have hcz118_0 : wc.cell? ⟨gb321, 0, none⟩ = some (.string t315) := (blk_cell BK321.out 0).trans rfl; have hcz118_1 : wc.cell? ⟨gb321, 1, none⟩ = some (.bool t316) := (blk_cell BK321.out 1).trans rfl; have hcz118_2 : wc.cell? ⟨gb321, 2, none⟩ = some (.bool t317) := (blk_cell BK321.out 2).trans rfl; have hcz118_3 : wc.cell? ⟨gb321, 3, none⟩ = some (.bool t318) := (blk_cell BK321.out 3).trans rfl; have hcz118_4 : wc.cell? ⟨gb321, 4, none⟩ = some (.bool true) := (blk_cell BK321.out 4).trans rfl; have hfz118_0 := blk_frozen BK321.out 0; have hfz118_1 := blk_frozen BK321.out 1; have hfz118_2 := blk_frozen BK321.out 2; have hfz118_3 := blk_frozen BK321.out 3; have hfz118_4 := blk_frozen BK321.out 4; have hnb119 := NB326_314.out; have hnc119 := NB314_326.out; have hnb120 := NB326_325.out; have hnc120 := NB325_326.out; have hnb121 := NB326_327.out; have hnc121 := NB327_326.out; have hcz122_0 : wc.cell? ⟨gb326, 0, none⟩ = some (.bool x327000_92) := (blk_cell BK326.out 0).trans rfl; have hfz122_0 := blk_frozen BK326.out 0
                                      go_wp2
                                      go_meet
                                      case rel => exact ⟨_, (x327000_92), (by first | rfl | (simp; done) | (simp [*]; done)), H', ⟨by have := HK1.out; have := HJ6.out; have := HJ42.out; have := HJ51.out; have := HJ67.out; have := HJ76.out; have := HJ92.out; first | omega | exact Nat.le_refl _⟩, ⟨by (with_reducible repeat (first | refine blk_drewN ?_ _ | refine blk_drew ?_ | refine blk_alloc ?_ _)); exact BK314.out⟩, ⟨by (with_reducible repeat (first | refine blk_drewN ?_ _ | refine blk_drew ?_ | refine blk_alloc ?_ _)); exact BK321.out⟩, ⟨by (with_reducible repeat (first | refine blk_drewN ?_ _ | refine blk_drew ?_ | refine blk_alloc ?_ _)); exact BK325.out⟩, ⟨by (with_reducible repeat (first | refine blk_drewN ?_ _ | refine blk_drew ?_ | refine blk_alloc ?_ _)); exact BK326.out⟩, ⟨by (with_reducible repeat (first | refine blk_drewN ?_ _ | refine blk_drew ?_ | refine blk_alloc ?_ _)); exact BK327.out⟩, ⟨by repeat (first | (with_reducible first | exact HB.out | apply below_alloc | apply pw_below_drewN | apply below_drew1 | refine below_set ?_ GE314.out | refine below_set ?_ GE321.out | refine below_set ?_ GE325.out | refine below_set ?_ GE326.out | refine below_set ?_ GE327.out) | exact HB.out)⟩⟩
                                    · replace c113 := Bool.eq_false_iff.mpr c113
                                      subst c113; have H1 : (impl_reqRead.j7 kj92 a0 false x326000_92 x4_1 x328001_42 x328002_67 x328003_92 (⟨#[]⟩ : ByteArray)) = some (r1, r2, r3, r4, r5, r6) := by rw [if_neg (show ¬ (false = true) by decide)] at H; exact H
                                      clear H; have H := H1; clear H1; have H' := Aside0.mk H; clear H; have hnb123 := NB321_314.out; have hnc123 := NB314_321.out; have hnb124 := NB321_325.out; have hnc124 := NB325_321.out; have hnb125 := NB321_326.out; have hnc125 := NB326_321.out; have hnb126 := NB321_327.out; have hnc126 := NB327_321.out; have hcz127_0 : wc.cell? ⟨gb321, 0, none⟩ = some (.string t315) := (blk_cell BK321.out 0).trans rfl; have hcz127_1 : wc.cell? ⟨gb321, 1, none⟩ = some (.bool t316) := (blk_cell BK321.out 1).trans rfl; have hcz127_2 : wc.cell? ⟨gb321, 2, none⟩ = some (.bool t317) := (blk_cell BK321.out 2).trans rfl; have hcz127_3 : wc.cell? ⟨gb321, 3, none⟩ = some (.bool t318) := (blk_cell BK321.out 3).trans rfl; have hcz127_4 : wc.cell? ⟨gb321, 4, none⟩ = some (.bool false) := (blk_cell BK321.out 4).trans rfl; have hfz127_0 := blk_frozen BK321.out 0; have hfz127_1 := blk_frozen BK321.out 1; have hfz127_2 := blk_frozen BK321.out 2; have hfz127_3 := blk_frozen BK321.out 3; have hfz127_4 := blk_frozen BK321.out 4
                                      go_wp2
                                      go_meet
                                      case rel => exact ⟨_, (false), (by first | rfl | (simp; done) | (simp [*]; done)), H', ⟨by have := HK1.out; have := HJ6.out; have := HJ42.out; have := HJ51.out; have := HJ67.out; have := HJ76.out; have := HJ92.out; first | omega | exact Nat.le_refl _⟩, ⟨by (with_reducible repeat (first | refine blk_drewN ?_ _ | refine blk_drew ?_ | refine blk_alloc ?_ _)); exact BK314.out⟩, ⟨by (with_reducible repeat (first | refine blk_drewN ?_ _ | refine blk_drew ?_ | refine blk_alloc ?_ _)); exact BK321.out⟩, ⟨by (with_reducible repeat (first | refine blk_drewN ?_ _ | refine blk_drew ?_ | refine blk_alloc ?_ _)); exact BK325.out⟩, ⟨by (with_reducible repeat (first | refine blk_drewN ?_ _ | refine blk_drew ?_ | refine blk_alloc ?_ _)); exact BK326.out⟩, ⟨by (with_reducible repeat (first | refine blk_drewN ?_ _ | refine blk_drew ?_ | refine blk_alloc ?_ _)); exact BK327.out⟩, ⟨by repeat (first | (with_reducible first | exact HB.out | apply below_alloc | apply pw_below_drewN | apply below_drew1 | refine below_set ?_ GE314.out | refine below_set ?_ GE321.out | refine below_set ?_ GE325.out | refine below_set ?_ GE326.out | refine below_set ?_ GE327.out) | exact HB.out)⟩⟩
                                  case rest =>
                                    clear HC112
                                    try clear c1
                                    try clear hx1
                                    try clear c2
                                    try clear p2
                                    try clear c3
                                    try clear c3b0
                                    try clear c4
                                    try clear c5
                                    try clear c6
                                    try clear c6b0
                                    try clear c6b1
                                    try clear p6
                                    try clear c7
                                    try clear c8
                                    try clear c9
                                    try clear c10
                                    try clear c11
                                    try clear c12
                                    try clear c14
                                    try clear c15
                                    try clear c16
                                    try clear c18
                                    try clear c19
                                    try clear c23
                                    try clear c24
                                    try clear c25
                                    try clear c26
                                    try clear c28
                                    try clear c29
                                    try clear c30
                                    try clear c31
                                    try clear c32
                                    try clear c33
                                    try clear c34
                                    try clear c35
                                    try clear c36
                                    try clear c38
                                    try clear c39
                                    try clear c40
                                    try clear c41
                                    try clear c44
                                    try clear c47
                                    try clear c48
                                    try clear c49
                                    try clear c50
                                    try clear c53
                                    try clear c54
                                    try clear c55
                                    try clear c56
                                    try clear c57
                                    try clear c59
                                    try clear c60
                                    try clear c61
                                    try clear c63
                                    try clear c64
                                    try clear p64
                                    try clear c65
                                    try clear c66
                                    try clear c69
                                    try clear c72
                                    try clear c73
                                    try clear c74
                                    try clear c75
                                    try clear c78
                                    try clear c79
                                    try clear c80
                                    try clear c81
                                    try clear c82
                                    try clear c84
                                    try clear c85
                                    try clear c86
                                    try clear c88
                                    try clear c89
                                    try clear c90
                                    try clear c91
                                    try clear c94
                                    try clear c97
                                    try clear c100
                                    try clear c101
                                    try clear c102
                                    try clear c103
                                    try clear c107
                                    try clear c108
                                    try clear c109
                                    try clear c110
                                    try clear c113
                                    try clear c114
                                    try clear c115
                                    try clear c116
                                    try clear c117
                                    try clear c119
                                    try clear c120
                                    try clear c121
                                    try clear c123
                                    try clear c124
                                    try clear c125
                                    try clear c126
                                    try clear hcz104_0
                                    try clear hcz104_1
                                    try clear hcz104_2
                                    try clear hcz104_3
                                    try clear hcz104_4
                                    try clear hcz111_0
                                    try clear hcz111_1
                                    try clear hcz111_2
                                    try clear hcz111_3
                                    try clear hcz111_4
                                    try clear hcz118_0
                                    try clear hcz118_1
                                    try clear hcz118_2
                                    try clear hcz118_3
                                    try clear hcz118_4
                                    try clear hcz11_0
                                    try clear hcz11_1
                                    try clear hcz11_2
                                    try clear hcz11_3
                                    try clear hcz11_4
                                    try clear hcz122_0
                                    try clear hcz127_0
                                    try clear hcz127_1
                                    try clear hcz127_2
                                    try clear hcz127_3
                                    try clear hcz127_4
                                    try clear hcz17_0
                                    try clear hcz20_0
                                    try clear hcz21_0
                                    try clear hcz21_1
                                    try clear hcz21_2
                                    try clear hcz21_3
                                    try clear hcz21_4
                                    try clear hcz27_0
                                    try clear hcz27_1
                                    try clear hcz27_2
                                    try clear hcz27_3
                                    try clear hcz27_4
                                    try clear hcz33_0
                                    try clear hcz33_1
                                    try clear hcz33_2
                                    try clear hcz33_3
                                    try clear hcz33_4
                                    try clear hcz37_0
                                    try clear hcz42_0
                                    try clear hcz42_1
                                    try clear hcz42_2
                                    try clear hcz42_3
                                    try clear hcz42_4
                                    try clear hcz51_0
                                    try clear hcz51_1
                                    try clear hcz51_2
                                    try clear hcz51_3
                                    try clear hcz51_4
                                    try clear hcz58_0
                                    try clear hcz58_1
                                    try clear hcz58_2
                                    try clear hcz58_3
                                    try clear hcz58_4
                                    try clear hcz62_0
                                    try clear hcz67_0
                                    try clear hcz67_1
                                    try clear hcz67_2
                                    try clear hcz67_3
                                    try clear hcz67_4
                                    try clear hcz76_0
                                    try clear hcz76_1
                                    try clear hcz76_2
                                    try clear hcz76_3
                                    try clear hcz76_4
                                    try clear hcz83_0
                                    try clear hcz83_1
                                    try clear hcz83_2
                                    try clear hcz83_3
                                    try clear hcz83_4
                                    try clear hcz87_0
                                    try clear hcz92_0
                                    try clear hcz92_1
                                    try clear hcz92_2
                                    try clear hcz92_3
                                    try clear hcz92_4
                                    try clear hfz104_0
                                    try clear hfz104_1
                                    try clear hfz104_2
                                    try clear hfz104_3
                                    try clear hfz104_4
                                    try clear hfz111_0
                                    try clear hfz111_1
                                    try clear hfz111_2
                                    try clear hfz111_3
                                    try clear hfz111_4
                                    try clear hfz118_0
                                    try clear hfz118_1
                                    try clear hfz118_2
                                    try clear hfz118_3
                                    try clear hfz118_4
                                    try clear hfz11_0
                                    try clear hfz11_1
                                    try clear hfz11_2
                                    try clear hfz11_3
                                    try clear hfz11_4
                                    try clear hfz122_0
                                    try clear hfz127_0
                                    try clear hfz127_1
                                    try clear hfz127_2
                                    try clear hfz127_3
                                    try clear hfz127_4
                                    try clear hfz17_0
                                    try clear hfz20_0
                                    try clear hfz21_0
                                    try clear hfz21_1
                                    try clear hfz21_2
                                    try clear hfz21_3
                                    try clear hfz21_4
                                    try clear hfz27_0
                                    try clear hfz27_1
                                    try clear hfz27_2
                                    try clear hfz27_3
                                    try clear hfz27_4
                                    try clear hfz33_0
                                    try clear hfz33_1
                                    try clear hfz33_2
                                    try clear hfz33_3
                                    try clear hfz33_4
                                    try clear hfz37_0
                                    try clear hfz42_0
                                    try clear hfz42_1
                                    try clear hfz42_2
                                    try clear hfz42_3
                                    try clear hfz42_4
                                    try clear hfz51_0
                                    try clear hfz51_1
                                    try clear hfz51_2
                                    try clear hfz51_3
                                    try clear hfz51_4
                                    try clear hfz58_0
                                    try clear hfz58_1
                                    try clear hfz58_2
                                    try clear hfz58_3
                                    try clear hfz58_4
                                    try clear hfz62_0
                                    try clear hfz67_0
                                    try clear hfz67_1
                                    try clear hfz67_2
                                    try clear hfz67_3
                                    try clear hfz67_4
                                    try clear hfz76_0
                                    try clear hfz76_1
                                    try clear hfz76_2
                                    try clear hfz76_3
                                    try clear hfz76_4
                                    try clear hfz83_0
                                    try clear hfz83_1
                                    try clear hfz83_2
                                    try clear hfz83_3
                                    try clear hfz83_4
                                    try clear hfz87_0
                                    try clear hfz92_0
                                    try clear hfz92_1
                                    try clear hfz92_2
                                    try clear hfz92_3
                                    try clear hfz92_4
                                    try clear p2
                                    try clear p6
                                    try clear p64
                                    obtain ⟨kq, x72_111, rfl, HA, HJ111, BK314, BK321, BK325, BK326, BK327, HB⟩ := hcut
                                    cases kq with
                                    | zero => exact absurd HA.out (by simp [impl_reqRead.j7])
                                    | succ kj111 =>
                                      have H := HA.out; clear HA; simp only [impl_reqRead.j7] at H; have HC128 := Aside0.mk H; clear H
                                      go_upto_if 72 with (fail)
                                      go_cut [] (fun wc => ∃ (kq : Nat) (x328004_127 : ByteArray), Aside0 (impl_reqRead.j8 kq a0 x4_1 x328001_42 x328002_67 x328003_92 x328004_127 = some (r1, r2, r3, r4, r5, r6)) ∧ Aside0 (kq ≤ kj111) ∧ Aside0 (wc.heap[gb314]? = some (.cells #[.int .i64 x315000_92, .string x315001_92, .string x315002_92, .int .i64 x315003_92, .string x315004_92] 25 (0, 0))) ∧ Aside0 (wc.heap[gb321]? = some (.cells #[.string t315, .bool t316, .bool t317, .bool t318, .bool t319] 53 (0, 0))) ∧ Aside0 (wc.heap[gb325]? = some (.cells #[.string x326000_92] 9 (0, 0))) ∧ Aside0 (wc.heap[gb326]? = some (.cells #[.bool x327000_92] 4 (0, 0))) ∧ Aside0 (wc.heap[gb327]? = some (.cells #[.int .i64 x4_1, .string x328001_42, .string x328002_67, .int .i64 x328003_92, .string x328004_127] 25 (0, 0))) ∧ Aside0 (Below w.heap.size w wc))
                                      case first =>
                                        have H := HC128.out; clear HC128; by_cases c129 : x72_111 = true
                                        · subst c129
                                          have H1 : (impl_reqRead.j8 kj111 a0 x4_1 x328001_42 x328002_67 x328003_92 x326000_92) = some (r1, r2, r3, r4, r5, r6) := by rw [if_pos rfl] at H; exact H
                                          clear H; have H := H1; clear H1; have H' := Aside0.mk H; clear H; have hnb130 := NB325_314.out; have hnc130 := NB314_325.out; have hnb131 := NB325_321.out; have hnc131 := NB321_325.out; have hnb132 := NB325_326.out; have hnc132 := NB326_325.out; have hnb133 := NB325_327.out; have hnc133 := NB327_325.out; have hcz134_0 : wc.cell? ⟨gb325, 0, none⟩ = some (.string x326000_92) := (blk_cell BK325.out 0).trans rfl; have hfz134_0 := blk_frozen BK325.out 0; have hnb135 := NB327_314.out; have hnc135 := NB314_327.out; have hnb136 := NB327_321.out; have hnc136 := NB321_327.out; have hnb137 := NB327_326.out; have hnc137 := NB326_327.out; have hcz138_0 : wc.cell? ⟨gb327, 0, none⟩ = some (.int .i64 x4_1) := (blk_cell BK327.out 0).trans rfl; have hcz138_1 : wc.cell? ⟨gb327, 1, none⟩ = some (.string x328001_42) := (blk_cell BK327.out 1).trans rfl; have hcz138_2 : wc.cell? ⟨gb327, 2, none⟩ = some (.string x328002_67) := (blk_cell BK327.out 2).trans rfl; have hcz138_3 : wc.cell? ⟨gb327, 3, none⟩ = some (.int .i64 x328003_92) := (blk_cell BK327.out 3).trans rfl; have hcz138_4 : wc.cell? ⟨gb327, 4, none⟩ = some (.string (⟨#[]⟩ : ByteArray)) := (blk_cell BK327.out 4).trans rfl; have hfz138_0 := blk_frozen BK327.out 0; have hfz138_1 := blk_frozen BK327.out 1; have hfz138_2 := blk_frozen BK327.out 2; have hfz138_3 := blk_frozen BK327.out 3; have hfz138_4 := blk_frozen BK327.out 4
                                          go_wp2
                                          go_meet
                                          case rel => exact ⟨_, (x326000_92), H', ⟨by have := HK1.out; have := HJ6.out; have := HJ42.out; have := HJ51.out; have := HJ67.out; have := HJ76.out; have := HJ92.out; have := HJ111.out; first | omega | exact Nat.le_refl _⟩, ⟨by (with_reducible repeat (first | refine blk_drewN ?_ _ | refine blk_drew ?_ | refine blk_alloc ?_ _)); refine blk_far ?_ NB314_327.out _; (with_reducible repeat (first | refine blk_drewN ?_ _ | refine blk_drew ?_ | refine blk_alloc ?_ _)); exact BK314.out⟩, ⟨by (with_reducible repeat (first | refine blk_drewN ?_ _ | refine blk_drew ?_ | refine blk_alloc ?_ _)); refine blk_far ?_ NB321_327.out _; (with_reducible repeat (first | refine blk_drewN ?_ _ | refine blk_drew ?_ | refine blk_alloc ?_ _)); exact BK321.out⟩, ⟨by (with_reducible repeat (first | refine blk_drewN ?_ _ | refine blk_drew ?_ | refine blk_alloc ?_ _)); refine blk_far ?_ NB325_327.out _; (with_reducible repeat (first | refine blk_drewN ?_ _ | refine blk_drew ?_ | refine blk_alloc ?_ _)); exact BK325.out⟩, ⟨by (with_reducible repeat (first | refine blk_drewN ?_ _ | refine blk_drew ?_ | refine blk_alloc ?_ _)); refine blk_far ?_ NB326_327.out _; (with_reducible repeat (first | refine blk_drewN ?_ _ | refine blk_drew ?_ | refine blk_alloc ?_ _)); exact BK326.out⟩, ⟨by (with_reducible repeat (first | refine blk_drewN ?_ _ | refine blk_drew ?_ | refine blk_alloc ?_ _)); refine blk_put (cs := #[.int .i64 x4_1, .string x328001_42, .string x328002_67, .int .i64 x328003_92, .string (⟨#[]⟩ : ByteArray)]) ?_ 4 _ rfl; (with_reducible repeat (first | refine blk_drewN ?_ _ | refine blk_drew ?_ | refine blk_alloc ?_ _)); exact BK327.out⟩, ⟨by repeat (first | (with_reducible first | exact HB.out | apply below_alloc | apply pw_below_drewN | apply below_drew1 | refine below_set ?_ GE314.out | refine below_set ?_ GE321.out | refine below_set ?_ GE325.out | refine below_set ?_ GE326.out | refine below_set ?_ GE327.out) | exact HB.out)⟩⟩
                                        · replace c129 := Bool.eq_false_iff.mpr c129
                                          subst c129; have H1 : (impl_reqRead.j8 kj111 a0 x4_1 x328001_42 x328002_67 x328003_92 (⟨#[]⟩ : ByteArray)) = some (r1, r2, r3, r4, r5, r6) := by rw [if_neg (show ¬ (false = true) by decide)] at H; exact H
                                          clear H; have H := H1; clear H1; have H' := Aside0.mk H; clear H
                                          go_wp2
                                          go_meet
                                          case rel => exact ⟨_, ((⟨#[]⟩ : ByteArray)), H', ⟨by have := HK1.out; have := HJ6.out; have := HJ42.out; have := HJ51.out; have := HJ67.out; have := HJ76.out; have := HJ92.out; have := HJ111.out; first | omega | exact Nat.le_refl _⟩, ⟨by (with_reducible repeat (first | refine blk_drewN ?_ _ | refine blk_drew ?_ | refine blk_alloc ?_ _)); exact BK314.out⟩, ⟨by (with_reducible repeat (first | refine blk_drewN ?_ _ | refine blk_drew ?_ | refine blk_alloc ?_ _)); exact BK321.out⟩, ⟨by (with_reducible repeat (first | refine blk_drewN ?_ _ | refine blk_drew ?_ | refine blk_alloc ?_ _)); exact BK325.out⟩, ⟨by (with_reducible repeat (first | refine blk_drewN ?_ _ | refine blk_drew ?_ | refine blk_alloc ?_ _)); exact BK326.out⟩, ⟨by (with_reducible repeat (first | refine blk_drewN ?_ _ | refine blk_drew ?_ | refine blk_alloc ?_ _)); exact BK327.out⟩, ⟨by repeat (first | (with_reducible first | exact HB.out | apply below_alloc | apply pw_below_drewN | apply below_drew1 | refine below_set ?_ GE314.out | refine below_set ?_ GE321.out | refine below_set ?_ GE325.out | refine below_set ?_ GE326.out | refine below_set ?_ GE327.out) | exact HB.out)⟩⟩
                                      case rest =>
                                        clear HC128
                                        try clear c1
                                        try clear hx1
                                        try clear c2
                                        try clear p2
                                        try clear c3
                                        try clear c3b0
                                        try clear c4
                                        try clear c5
                                        try clear c6
                                        try clear c6b0
                                        try clear c6b1
                                        try clear p6
                                        try clear c7
                                        try clear c8
                                        try clear c9
                                        try clear c10
                                        try clear c11
                                        try clear c12
                                        try clear c13
                                        try clear c14
                                        try clear c15
                                        try clear c16
                                        try clear c18
                                        try clear c19
                                        try clear c23
                                        try clear c24
                                        try clear c25
                                        try clear c26
                                        try clear c28
                                        try clear c29
                                        try clear c30
                                        try clear c31
                                        try clear c32
                                        try clear c33
                                        try clear c34
                                        try clear c35
                                        try clear c36
                                        try clear c38
                                        try clear c39
                                        try clear c40
                                        try clear c41
                                        try clear c44
                                        try clear c47
                                        try clear c48
                                        try clear c49
                                        try clear c50
                                        try clear c53
                                        try clear c54
                                        try clear c55
                                        try clear c56
                                        try clear c57
                                        try clear c59
                                        try clear c60
                                        try clear c61
                                        try clear c63
                                        try clear c64
                                        try clear p64
                                        try clear c65
                                        try clear c66
                                        try clear c69
                                        try clear c72
                                        try clear c73
                                        try clear c74
                                        try clear c75
                                        try clear c78
                                        try clear c79
                                        try clear c80
                                        try clear c81
                                        try clear c82
                                        try clear c84
                                        try clear c85
                                        try clear c86
                                        try clear c88
                                        try clear c89
                                        try clear c90
                                        try clear c91
                                        try clear c94
                                        try clear c97
                                        try clear c100
                                        try clear c101
                                        try clear c102
                                        try clear c103
                                        try clear c107
                                        try clear c108
                                        try clear c109
                                        try clear c110
                                        try clear c113
                                        try clear c114
                                        try clear c115
                                        try clear c116
                                        try clear c117
                                        try clear c119
                                        try clear c120
                                        try clear c121
                                        try clear c123
                                        try clear c124
                                        try clear c125
                                        try clear c126
                                        try clear c129
                                        try clear c130
                                        try clear c131
                                        try clear c132
                                        try clear c133
                                        try clear c135
                                        try clear c136
                                        try clear c137
                                        try clear hcz104_0
                                        try clear hcz104_1
                                        try clear hcz104_2
                                        try clear hcz104_3
                                        try clear hcz104_4
                                        try clear hcz111_0
                                        try clear hcz111_1
                                        try clear hcz111_2
                                        try clear hcz111_3
                                        try clear hcz111_4
                                        try clear hcz118_0
                                        try clear hcz118_1
                                        try clear hcz118_2
                                        try clear hcz118_3
                                        try clear hcz118_4
                                        try clear hcz11_0
                                        try clear hcz11_1
                                        try clear hcz11_2
                                        try clear hcz11_3
                                        try clear hcz11_4
                                        try clear hcz122_0
                                        try clear hcz127_0
                                        try clear hcz127_1
                                        try clear hcz127_2
                                        try clear hcz127_3
                                        try clear hcz127_4
                                        try clear hcz134_0
                                        try clear hcz138_0
                                        try clear hcz138_1
                                        try clear hcz138_2
                                        try clear hcz138_3
                                        try clear hcz138_4
                                        try clear hcz17_0
                                        try clear hcz20_0
                                        try clear hcz21_0
                                        try clear hcz21_1
                                        try clear hcz21_2
                                        try clear hcz21_3
                                        try clear hcz21_4
                                        try clear hcz27_0
                                        try clear hcz27_1
                                        try clear hcz27_2
                                        try clear hcz27_3
                                        try clear hcz27_4
                                        try clear hcz33_0
                                        try clear hcz33_1
                                        try clear hcz33_2
                                        try clear hcz33_3
                                        try clear hcz33_4
                                        try clear hcz37_0
                                        try clear hcz42_0
                                        try clear hcz42_1
                                        try clear hcz42_2
                                        try clear hcz42_3
                                        try clear hcz42_4
                                        try clear hcz51_0
                                        try clear hcz51_1
                                        try clear hcz51_2
                                        try clear hcz51_3
                                        try clear hcz51_4
                                        try clear hcz58_0
                                        try clear hcz58_1
                                        try clear hcz58_2
                                        try clear hcz58_3
                                        try clear hcz58_4
                                        try clear hcz62_0
                                        try clear hcz67_0
                                        try clear hcz67_1
                                        try clear hcz67_2
                                        try clear hcz67_3
                                        try clear hcz67_4
                                        try clear hcz76_0
                                        try clear hcz76_1
                                        try clear hcz76_2
                                        try clear hcz76_3
                                        try clear hcz76_4
                                        try clear hcz83_0
                                        try clear hcz83_1
                                        try clear hcz83_2
                                        try clear hcz83_3
                                        try clear hcz83_4
                                        try clear hcz87_0
                                        try clear hcz92_0
                                        try clear hcz92_1
                                        try clear hcz92_2
                                        try clear hcz92_3
                                        try clear hcz92_4
                                        try clear hfz104_0
                                        try clear hfz104_1
                                        try clear hfz104_2
                                        try clear hfz104_3
                                        try clear hfz104_4
                                        try clear hfz111_0
                                        try clear hfz111_1
                                        try clear hfz111_2
                                        try clear hfz111_3
                                        try clear hfz111_4
                                        try clear hfz118_0
                                        try clear hfz118_1
                                        try clear hfz118_2
                                        try clear hfz118_3
                                        try clear hfz118_4
                                        try clear hfz11_0
                                        try clear hfz11_1
                                        try clear hfz11_2
                                        try clear hfz11_3
                                        try clear hfz11_4
                                        try clear hfz122_0
                                        try clear hfz127_0
                                        try clear hfz127_1
                                        try clear hfz127_2
                                        try clear hfz127_3
                                        try clear hfz127_4
                                        try clear hfz134_0
                                        try clear hfz138_0
                                        try clear hfz138_1
                                        try clear hfz138_2
                                        try clear hfz138_3
                                        try clear hfz138_4
                                        try clear hfz17_0
                                        try clear hfz20_0
                                        try clear hfz21_0
                                        try clear hfz21_1
                                        try clear hfz21_2
                                        try clear hfz21_3
                                        try clear hfz21_4
                                        try clear hfz27_0
                                        try clear hfz27_1
                                        try clear hfz27_2
                                        try clear hfz27_3
                                        try clear hfz27_4
                                        try clear hfz33_0
                                        try clear hfz33_1
                                        try clear hfz33_2
                                        try clear hfz33_3
                                        try clear hfz33_4
                                        try clear hfz37_0
                                        try clear hfz42_0
                                        try clear hfz42_1
                                        try clear hfz42_2
                                        try clear hfz42_3
                                        try clear hfz42_4
                                        try clear hfz51_0
                                        try clear hfz51_1
                                        try clear hfz51_2
                                        try clear hfz51_3
                                        try clear hfz51_4
                                        try clear hfz58_0
                                        try clear hfz58_1
                                        try clear hfz58_2
                                        try clear hfz58_3
                                        try clear hfz58_4
                                        try clear hfz62_0
                                        try clear hfz67_0
                                        try clear hfz67_1
                                        try clear hfz67_2
                                        try clear hfz67_3
                                        try clear hfz67_4
                                        try clear hfz76_0
                                        try clear hfz76_1
                                        try clear hfz76_2
                                        try clear hfz76_3
                                        try clear hfz76_4
                                        try clear hfz83_0
                                        try clear hfz83_1
                                        try clear hfz83_2
                                        try clear hfz83_3
                                        try clear hfz83_4
                                        try clear hfz87_0
                                        try clear hfz92_0
                                        try clear hfz92_1
                                        try clear hfz92_2
                                        try clear hfz92_3
                                        try clear hfz92_4
                                        try clear p2
                                        try clear p6
                                        try clear p64
                                        obtain ⟨kq, x328004_127, HA, HJ127, BK314, BK321, BK325, BK326, BK327, HB⟩ := hcut
                                        cases kq with
                                        | zero => exact absurd HA.out (by simp [impl_reqRead.j8])
                                        | succ kj127 =>
                                          have H := HA.out; clear HA; simp only [impl_reqRead.j8] at H; replace H := Option.bind_eq_some_iff.mp H; obtain ⟨t339, A1390, H⟩ := H; replace H : (if t339 = true then ((impl_reqText.f kj127 x4_1 x328001_42 x328002_67 x328003_92 x328004_127).bind fun t340 => (if t340.toList = a0.toList then (some (x4_1, x328001_42, x328002_67, x328003_92, x328004_127, true)) else (some (0, (⟨#[]⟩ : ByteArray), (⟨#[]⟩ : ByteArray), 0, (⟨#[]⟩ : ByteArray), false)))) else (some (0, (⟨#[]⟩ : ByteArray), (⟨#[]⟩ : ByteArray), 0, (⟨#[]⟩ : ByteArray), false))) = some (r1, r2, r3, r4, r5, r6) := H; have A139 := Aside0.mk A1390; clear A1390; by_cases c140 : t339 = true
                                          · subst c140
                                            have H1 : ((impl_reqText.f kj127 x4_1 x328001_42 x328002_67 x328003_92 x328004_127).bind fun t340 => (if t340.toList = a0.toList then (some (x4_1, x328001_42, x328002_67, x328003_92, x328004_127, true)) else (some (0, (⟨#[]⟩ : ByteArray), (⟨#[]⟩ : ByteArray), 0, (⟨#[]⟩ : ByteArray), false)))) = some (r1, r2, r3, r4, r5, r6) := by rw [if_pos rfl] at H; exact H
                                            clear H; have H := H1; clear H1; replace H := Option.bind_eq_some_iff.mp H; obtain ⟨t340, A1410, H⟩ := H; replace H : (if t340.toList = a0.toList then (some (x4_1, x328001_42, x328002_67, x328003_92, x328004_127, true)) else (some (0, (⟨#[]⟩ : ByteArray), (⟨#[]⟩ : ByteArray), 0, (⟨#[]⟩ : ByteArray), false))) = some (r1, r2, r3, r4, r5, r6) := H; have A141 := Aside0.mk A1410; clear A1410; by_cases c142 : t340.toList = a0.toList
                                            · rw [if_pos c142] at H
                                              have c142b0 : (t340.toList == a0.toList) = true := beq_iff_eq.mpr c142; have c142b1 : (t340.toList != a0.toList) = false := bne_eq_false_iff_eq.mpr c142; clear c142; simp only [Option.some.injEq, Prod.mk.injEq] at H; obtain ⟨rfl, rfl, rfl, rfl, rfl, rfl⟩ := H; have hnb143 := NB327_314.out; have hnc143 := NB314_327.out; have hnb144 := NB327_321.out; have hnc144 := NB321_327.out; have hnb145 := NB327_325.out; have hnc145 := NB325_327.out; have hnb146 := NB327_326.out; have hnc146 := NB326_327.out; have hcz147_0 : wc.cell? ⟨gb327, 0, none⟩ = some (.int .i64 x4_1) := (blk_cell BK327.out 0).trans rfl; have hcz147_1 : wc.cell? ⟨gb327, 1, none⟩ = some (.string x328001_42) := (blk_cell BK327.out 1).trans rfl; have hcz147_2 : wc.cell? ⟨gb327, 2, none⟩ = some (.string x328002_67) := (blk_cell BK327.out 2).trans rfl; have hcz147_3 : wc.cell? ⟨gb327, 3, none⟩ = some (.int .i64 x328003_92) := (blk_cell BK327.out 3).trans rfl; have hcz147_4 : wc.cell? ⟨gb327, 4, none⟩ = some (.string x328004_127) := (blk_cell BK327.out 4).trans rfl; have hfz147_0 := blk_frozen BK327.out 0; have hfz147_1 := blk_frozen BK327.out 1; have hfz147_2 := blk_frozen BK327.out 2; have hfz147_3 := blk_frozen BK327.out 3; have hfz147_4 := blk_frozen BK327.out 4
                                              go_wp2_with (first | ((with_reducible refine gate_callee (f := 25) rfl ?_); refine goesL_ (some 76) rfl rfl Tryd.func25 (by kernel_rfl) rfl #[.agg #[.int .i64 x4_1, .string x328001_42, .string x328002_67, .int .i64 x328003_92, .string x328004_127]] rfl (by (try simp only [List.map_toArray, List.map_cons, List.map_nil]); first | done | rfl | (simp only [List.length_drop, List.length_take]; rfl)) ?_; (with_reducible refine (impl_isReq.calls kj127 x4_1 x328001_42 x328002_67 x328003_92 x328004_127 true _ A139.out).mono ?_); rintro e w148 ⟨rfl, hb⟩; refine ⟨_, rfl, ?_⟩; have n0_ := Aside0.mk (blk_below (g := gb314) (o := .cells #[.int .i64 x315000_92, .string x315001_92, .string x315002_92, .int .i64 x315003_92, .string x315004_92] 25 (0, 0)) (by (with_reducible repeat (first | refine blk_drewN ?_ _ | refine blk_drew ?_ | refine blk_alloc ?_ _)); exact BK314.out) hb); have n1_ := Aside0.mk (blk_below (g := gb321) (o := .cells #[.string t315, .bool t316, .bool t317, .bool t318, .bool t319] 53 (0, 0)) (by (with_reducible repeat (first | refine blk_drewN ?_ _ | refine blk_drew ?_ | refine blk_alloc ?_ _)); exact BK321.out) hb); have n2_ := Aside0.mk (blk_below (g := gb325) (o := .cells #[.string x326000_92] 9 (0, 0)) (by (with_reducible repeat (first | refine blk_drewN ?_ _ | refine blk_drew ?_ | refine blk_alloc ?_ _)); exact BK325.out) hb); have n3_ := Aside0.mk (blk_below (g := gb326) (o := .cells #[.bool x327000_92] 4 (0, 0)) (by (with_reducible repeat (first | refine blk_drewN ?_ _ | refine blk_drew ?_ | refine blk_alloc ?_ _)); exact BK326.out) hb); have n4_ := Aside0.mk (blk_below (g := gb327) (o := .cells #[.int .i64 x4_1, .string x328001_42, .string x328002_67, .int .i64 x328003_92, .string x328004_127] 25 (0, 0)) (by (with_reducible repeat (first | refine blk_drewN ?_ _ | refine blk_drew ?_ | refine blk_alloc ?_ _)); exact BK327.out) hb); have n5_ := Aside0.mk (below_step (by repeat (first | (with_reducible first | exact HB.out | apply below_alloc | apply pw_below_drewN | apply below_drew1 | refine below_set ?_ GE314.out | refine below_set ?_ GE321.out | refine below_set ?_ GE325.out | refine below_set ?_ GE326.out | refine below_set ?_ GE327.out) | exact HB.out)) hb); clear BK314; clear BK321; clear BK325; clear BK326; clear BK327; clear HB; have BK314 := n0_; have BK321 := n1_; have BK325 := n2_; have BK326 := n3_; have BK327 := n4_; have HB := n5_; clear n0_ n1_ n2_ n3_ n4_ n5_; (try clear hb); (try clear hb2); (try clear hk); (try clear hi); have hcz149_0 : w148.cell? ⟨gb327, 0, none⟩ = some (.int .i64 x4_1) := (blk_cell BK327.out 0).trans rfl; have hcz149_1 : w148.cell? ⟨gb327, 1, none⟩ = some (.string x328001_42) := (blk_cell BK327.out 1).trans rfl; have hcz149_2 : w148.cell? ⟨gb327, 2, none⟩ = some (.string x328002_67) := (blk_cell BK327.out 2).trans rfl; have hcz149_3 : w148.cell? ⟨gb327, 3, none⟩ = some (.int .i64 x328003_92) := (blk_cell BK327.out 3).trans rfl; have hcz149_4 : w148.cell? ⟨gb327, 4, none⟩ = some (.string x328004_127) := (blk_cell BK327.out 4).trans rfl; have hfz149_0 := blk_frozen BK327.out 0; have hfz149_1 := blk_frozen BK327.out 1; have hfz149_2 := blk_frozen BK327.out 2; have hfz149_3 := blk_frozen BK327.out 3; have hfz149_4 := blk_frozen BK327.out 4) | (go_at_call 26; (with_reducible refine (impl_reqText.calls kj127 x4_1 x328001_42 x328002_67 x328003_92 x328004_127 t340 _ ?side1 A141.out).mono ?_); (case side1 => exact TabT.below HT.out (by repeat (first | (with_reducible first | exact HB.out | apply below_alloc | apply pw_below_drewN | apply below_drew1 | refine below_set ?_ GE314.out | refine below_set ?_ GE321.out | refine below_set ?_ GE325.out | refine below_set ?_ GE326.out | refine below_set ?_ GE327.out) | exact HB.out))); rintro e w150 ⟨rfl, hb⟩; have n0_ := Aside0.mk (blk_below (g := gb314) (o := .cells #[.int .i64 x315000_92, .string x315001_92, .string x315002_92, .int .i64 x315003_92, .string x315004_92] 25 (0, 0)) (by (with_reducible repeat (first | refine blk_drewN ?_ _ | refine blk_drew ?_ | refine blk_alloc ?_ _)); exact BK314.out) hb); have n1_ := Aside0.mk (blk_below (g := gb321) (o := .cells #[.string t315, .bool t316, .bool t317, .bool t318, .bool t319] 53 (0, 0)) (by (with_reducible repeat (first | refine blk_drewN ?_ _ | refine blk_drew ?_ | refine blk_alloc ?_ _)); exact BK321.out) hb); have n2_ := Aside0.mk (blk_below (g := gb325) (o := .cells #[.string x326000_92] 9 (0, 0)) (by (with_reducible repeat (first | refine blk_drewN ?_ _ | refine blk_drew ?_ | refine blk_alloc ?_ _)); exact BK325.out) hb); have n3_ := Aside0.mk (blk_below (g := gb326) (o := .cells #[.bool x327000_92] 4 (0, 0)) (by (with_reducible repeat (first | refine blk_drewN ?_ _ | refine blk_drew ?_ | refine blk_alloc ?_ _)); exact BK326.out) hb); have n4_ := Aside0.mk (blk_below (g := gb327) (o := .cells #[.int .i64 x4_1, .string x328001_42, .string x328002_67, .int .i64 x328003_92, .string x328004_127] 25 (0, 0)) (by (with_reducible repeat (first | refine blk_drewN ?_ _ | refine blk_drew ?_ | refine blk_alloc ?_ _)); exact BK327.out) hb); have n5_ := Aside0.mk (below_step (by repeat (first | (with_reducible first | exact HB.out | apply below_alloc | apply pw_below_drewN | apply below_drew1 | refine below_set ?_ GE314.out | refine below_set ?_ GE321.out | refine below_set ?_ GE325.out | refine below_set ?_ GE326.out | refine below_set ?_ GE327.out) | exact HB.out)) hb); clear BK314; clear BK321; clear BK325; clear BK326; clear BK327; clear HB; have BK314 := n0_; have BK321 := n1_; have BK325 := n2_; have BK326 := n3_; have BK327 := n4_; have HB := n5_; clear n0_ n1_ n2_ n3_ n4_ n5_; (try clear hb); (try clear hb2); (try clear hk); (try clear hi); have hcz151_0 : w150.cell? ⟨gb327, 0, none⟩ = some (.int .i64 x4_1) := (blk_cell BK327.out 0).trans rfl; have hcz151_1 : w150.cell? ⟨gb327, 1, none⟩ = some (.string x328001_42) := (blk_cell BK327.out 1).trans rfl; have hcz151_2 : w150.cell? ⟨gb327, 2, none⟩ = some (.string x328002_67) := (blk_cell BK327.out 2).trans rfl; have hcz151_3 : w150.cell? ⟨gb327, 3, none⟩ = some (.int .i64 x328003_92) := (blk_cell BK327.out 3).trans rfl; have hcz151_4 : w150.cell? ⟨gb327, 4, none⟩ = some (.string x328004_127) := (blk_cell BK327.out 4).trans rfl; have hfz151_0 := blk_frozen BK327.out 0; have hfz151_1 := blk_frozen BK327.out 1; have hfz151_2 := blk_frozen BK327.out 2; have hfz151_3 := blk_frozen BK327.out 3; have hfz151_4 := blk_frozen BK327.out 4; have hnb152 := NB314_321.out; have hnc152 := NB321_314.out; have hnb153 := NB314_325.out; have hnc153 := NB325_314.out; have hnb154 := NB314_326.out; have hnc154 := NB326_314.out; have hcz155_0 : w150.cell? ⟨gb314, 0, none⟩ = some (.int .i64 x315000_92) := (blk_cell BK314.out 0).trans rfl; have hcz155_1 : w150.cell? ⟨gb314, 1, none⟩ = some (.string x315001_92) := (blk_cell BK314.out 1).trans rfl; have hcz155_2 : w150.cell? ⟨gb314, 2, none⟩ = some (.string x315002_92) := (blk_cell BK314.out 2).trans rfl; have hcz155_3 : w150.cell? ⟨gb314, 3, none⟩ = some (.int .i64 x315003_92) := (blk_cell BK314.out 3).trans rfl; have hcz155_4 : w150.cell? ⟨gb314, 4, none⟩ = some (.string x315004_92) := (blk_cell BK314.out 4).trans rfl; have hfz155_0 := blk_frozen BK314.out 0; have hfz155_1 := blk_frozen BK314.out 1; have hfz155_2 := blk_frozen BK314.out 2; have hfz155_3 := blk_frozen BK314.out 3; have hfz155_4 := blk_frozen BK314.out 4))
                                              refine bodyPost_ret (results_ct rfl _ _ gb314 25 #[.int .i64 x4_1, .string x328001_42, .string x328002_67, .int .i64 x328003_92, .string x328004_127] (0, 0) _ rfl (by (with_reducible repeat (first | refine blk_drewN ?_ _ | refine blk_drew ?_ | refine blk_alloc ?_ _)); refine blk_put (cs := #[.int .i64 x4_1, .string x328001_42, .string x328002_67, .int .i64 x328003_92, .string x315004_92]) ?_ 4 _ rfl; (with_reducible repeat (first | refine blk_drewN ?_ _ | refine blk_drew ?_ | refine blk_alloc ?_ _)); refine blk_put (cs := #[.int .i64 x4_1, .string x328001_42, .string x328002_67, .int .i64 x315003_92, .string x315004_92]) ?_ 3 _ rfl; (with_reducible repeat (first | refine blk_drewN ?_ _ | refine blk_drew ?_ | refine blk_alloc ?_ _)); refine blk_put (cs := #[.int .i64 x4_1, .string x328001_42, .string x315002_92, .int .i64 x315003_92, .string x315004_92]) ?_ 2 _ rfl; (with_reducible repeat (first | refine blk_drewN ?_ _ | refine blk_drew ?_ | refine blk_alloc ?_ _)); refine blk_put (cs := #[.int .i64 x4_1, .string x315001_92, .string x315002_92, .int .i64 x315003_92, .string x315004_92]) ?_ 1 _ rfl; (with_reducible repeat (first | refine blk_drewN ?_ _ | refine blk_drew ?_ | refine blk_alloc ?_ _)); refine blk_put (cs := #[.int .i64 x315000_92, .string x315001_92, .string x315002_92, .int .i64 x315003_92, .string x315004_92]) ?_ 0 _ rfl; (with_reducible repeat (first | refine blk_drewN ?_ _ | refine blk_drew ?_ | refine blk_alloc ?_ _)); exact BK314.out) Tryd.underlying25 rfl (by kernel_rfl)) rfl ?_
                                              exact ⟨by first | rfl | (simp [errW_none, errW_some] <;> rfl) | (simp [*, errW_none, errW_some] <;> rfl), by repeat (first | (with_reducible first | exact HB.out | apply below_alloc | apply pw_below_drewN | apply below_drew1 | refine below_set ?_ GE314.out | refine below_set ?_ GE321.out | refine below_set ?_ GE325.out | refine below_set ?_ GE326.out | refine below_set ?_ GE327.out) | exact HB.out)⟩
                                            · rw [if_neg c142] at H
                                              have c142b0 : (t340.toList == a0.toList) = false := beq_eq_false_iff_ne.mpr c142; have c142b1 : (t340.toList != a0.toList) = true := bne_iff_ne.mpr c142; simp only [Option.some.injEq, Prod.mk.injEq] at H; obtain ⟨rfl, rfl, rfl, rfl, rfl, rfl⟩ := H; have hnb156 := NB327_314.out; have hnc156 := NB314_327.out; have hnb157 := NB327_321.out; have hnc157 := NB321_327.out; have hnb158 := NB327_325.out; have hnc158 := NB325_327.out; have hnb159 := NB327_326.out; have hnc159 := NB326_327.out; have hcz160_0 : wc.cell? ⟨gb327, 0, none⟩ = some (.int .i64 x4_1) := (blk_cell BK327.out 0).trans rfl; have hcz160_1 : wc.cell? ⟨gb327, 1, none⟩ = some (.string x328001_42) := (blk_cell BK327.out 1).trans rfl; have hcz160_2 : wc.cell? ⟨gb327, 2, none⟩ = some (.string x328002_67) := (blk_cell BK327.out 2).trans rfl; have hcz160_3 : wc.cell? ⟨gb327, 3, none⟩ = some (.int .i64 x328003_92) := (blk_cell BK327.out 3).trans rfl; have hcz160_4 : wc.cell? ⟨gb327, 4, none⟩ = some (.string x328004_127) := (blk_cell BK327.out 4).trans rfl; have hfz160_0 := blk_frozen BK327.out 0; have hfz160_1 := blk_frozen BK327.out 1; have hfz160_2 := blk_frozen BK327.out 2; have hfz160_3 := blk_frozen BK327.out 3; have hfz160_4 := blk_frozen BK327.out 4
                                              go_wp2_with (first | ((with_reducible refine gate_callee (f := 25) rfl ?_); refine goesL_ (some 76) rfl rfl Tryd.func25 (by kernel_rfl) rfl #[.agg #[.int .i64 x4_1, .string x328001_42, .string x328002_67, .int .i64 x328003_92, .string x328004_127]] rfl (by (try simp only [List.map_toArray, List.map_cons, List.map_nil]); first | done | rfl | (simp only [List.length_drop, List.length_take]; rfl)) ?_; (with_reducible refine (impl_isReq.calls kj127 x4_1 x328001_42 x328002_67 x328003_92 x328004_127 true _ A139.out).mono ?_); rintro e w161 ⟨rfl, hb⟩; refine ⟨_, rfl, ?_⟩; have n0_ := Aside0.mk (blk_below (g := gb314) (o := .cells #[.int .i64 x315000_92, .string x315001_92, .string x315002_92, .int .i64 x315003_92, .string x315004_92] 25 (0, 0)) (by (with_reducible repeat (first | refine blk_drewN ?_ _ | refine blk_drew ?_ | refine blk_alloc ?_ _)); exact BK314.out) hb); have n1_ := Aside0.mk (blk_below (g := gb321) (o := .cells #[.string t315, .bool t316, .bool t317, .bool t318, .bool t319] 53 (0, 0)) (by (with_reducible repeat (first | refine blk_drewN ?_ _ | refine blk_drew ?_ | refine blk_alloc ?_ _)); exact BK321.out) hb); have n2_ := Aside0.mk (blk_below (g := gb325) (o := .cells #[.string x326000_92] 9 (0, 0)) (by (with_reducible repeat (first | refine blk_drewN ?_ _ | refine blk_drew ?_ | refine blk_alloc ?_ _)); exact BK325.out) hb); have n3_ := Aside0.mk (blk_below (g := gb326) (o := .cells #[.bool x327000_92] 4 (0, 0)) (by (with_reducible repeat (first | refine blk_drewN ?_ _ | refine blk_drew ?_ | refine blk_alloc ?_ _)); exact BK326.out) hb); have n4_ := Aside0.mk (blk_below (g := gb327) (o := .cells #[.int .i64 x4_1, .string x328001_42, .string x328002_67, .int .i64 x328003_92, .string x328004_127] 25 (0, 0)) (by (with_reducible repeat (first | refine blk_drewN ?_ _ | refine blk_drew ?_ | refine blk_alloc ?_ _)); exact BK327.out) hb); have n5_ := Aside0.mk (below_step (by repeat (first | (with_reducible first | exact HB.out | apply below_alloc | apply pw_below_drewN | apply below_drew1 | refine below_set ?_ GE314.out | refine below_set ?_ GE321.out | refine below_set ?_ GE325.out | refine below_set ?_ GE326.out | refine below_set ?_ GE327.out) | exact HB.out)) hb); clear BK314; clear BK321; clear BK325; clear BK326; clear BK327; clear HB; have BK314 := n0_; have BK321 := n1_; have BK325 := n2_; have BK326 := n3_; have BK327 := n4_; have HB := n5_; clear n0_ n1_ n2_ n3_ n4_ n5_; (try clear hb); (try clear hb2); (try clear hk); (try clear hi); have hcz162_0 : w161.cell? ⟨gb327, 0, none⟩ = some (.int .i64 x4_1) := (blk_cell BK327.out 0).trans rfl; have hcz162_1 : w161.cell? ⟨gb327, 1, none⟩ = some (.string x328001_42) := (blk_cell BK327.out 1).trans rfl; have hcz162_2 : w161.cell? ⟨gb327, 2, none⟩ = some (.string x328002_67) := (blk_cell BK327.out 2).trans rfl; have hcz162_3 : w161.cell? ⟨gb327, 3, none⟩ = some (.int .i64 x328003_92) := (blk_cell BK327.out 3).trans rfl; have hcz162_4 : w161.cell? ⟨gb327, 4, none⟩ = some (.string x328004_127) := (blk_cell BK327.out 4).trans rfl; have hfz162_0 := blk_frozen BK327.out 0; have hfz162_1 := blk_frozen BK327.out 1; have hfz162_2 := blk_frozen BK327.out 2; have hfz162_3 := blk_frozen BK327.out 3; have hfz162_4 := blk_frozen BK327.out 4) | (go_at_call 26; (with_reducible refine (impl_reqText.calls kj127 x4_1 x328001_42 x328002_67 x328003_92 x328004_127 t340 _ ?side1 A141.out).mono ?_); (case side1 => exact TabT.below HT.out (by repeat (first | (with_reducible first | exact HB.out | apply below_alloc | apply pw_below_drewN | apply below_drew1 | refine below_set ?_ GE314.out | refine below_set ?_ GE321.out | refine below_set ?_ GE325.out | refine below_set ?_ GE326.out | refine below_set ?_ GE327.out) | exact HB.out))); rintro e w163 ⟨rfl, hb⟩; have n0_ := Aside0.mk (blk_below (g := gb314) (o := .cells #[.int .i64 x315000_92, .string x315001_92, .string x315002_92, .int .i64 x315003_92, .string x315004_92] 25 (0, 0)) (by (with_reducible repeat (first | refine blk_drewN ?_ _ | refine blk_drew ?_ | refine blk_alloc ?_ _)); exact BK314.out) hb); have n1_ := Aside0.mk (blk_below (g := gb321) (o := .cells #[.string t315, .bool t316, .bool t317, .bool t318, .bool t319] 53 (0, 0)) (by (with_reducible repeat (first | refine blk_drewN ?_ _ | refine blk_drew ?_ | refine blk_alloc ?_ _)); exact BK321.out) hb); have n2_ := Aside0.mk (blk_below (g := gb325) (o := .cells #[.string x326000_92] 9 (0, 0)) (by (with_reducible repeat (first | refine blk_drewN ?_ _ | refine blk_drew ?_ | refine blk_alloc ?_ _)); exact BK325.out) hb); have n3_ := Aside0.mk (blk_below (g := gb326) (o := .cells #[.bool x327000_92] 4 (0, 0)) (by (with_reducible repeat (first | refine blk_drewN ?_ _ | refine blk_drew ?_ | refine blk_alloc ?_ _)); exact BK326.out) hb); have n4_ := Aside0.mk (blk_below (g := gb327) (o := .cells #[.int .i64 x4_1, .string x328001_42, .string x328002_67, .int .i64 x328003_92, .string x328004_127] 25 (0, 0)) (by (with_reducible repeat (first | refine blk_drewN ?_ _ | refine blk_drew ?_ | refine blk_alloc ?_ _)); exact BK327.out) hb); have n5_ := Aside0.mk (below_step (by repeat (first | (with_reducible first | exact HB.out | apply below_alloc | apply pw_below_drewN | apply below_drew1 | refine below_set ?_ GE314.out | refine below_set ?_ GE321.out | refine below_set ?_ GE325.out | refine below_set ?_ GE326.out | refine below_set ?_ GE327.out) | exact HB.out)) hb); clear BK314; clear BK321; clear BK325; clear BK326; clear BK327; clear HB; have BK314 := n0_; have BK321 := n1_; have BK325 := n2_; have BK326 := n3_; have BK327 := n4_; have HB := n5_; clear n0_ n1_ n2_ n3_ n4_ n5_; (try clear hb); (try clear hb2); (try clear hk); (try clear hi); have hnb164 := NB314_321.out; have hnc164 := NB321_314.out; have hnb165 := NB314_325.out; have hnc165 := NB325_314.out; have hnb166 := NB314_326.out; have hnc166 := NB326_314.out; have hcz167_0 : w163.cell? ⟨gb314, 0, none⟩ = some (.int .i64 x315000_92) := (blk_cell BK314.out 0).trans rfl; have hcz167_1 : w163.cell? ⟨gb314, 1, none⟩ = some (.string x315001_92) := (blk_cell BK314.out 1).trans rfl; have hcz167_2 : w163.cell? ⟨gb314, 2, none⟩ = some (.string x315002_92) := (blk_cell BK314.out 2).trans rfl; have hcz167_3 : w163.cell? ⟨gb314, 3, none⟩ = some (.int .i64 x315003_92) := (blk_cell BK314.out 3).trans rfl; have hcz167_4 : w163.cell? ⟨gb314, 4, none⟩ = some (.string x315004_92) := (blk_cell BK314.out 4).trans rfl; have hfz167_0 := blk_frozen BK314.out 0; have hfz167_1 := blk_frozen BK314.out 1; have hfz167_2 := blk_frozen BK314.out 2; have hfz167_3 := blk_frozen BK314.out 3; have hfz167_4 := blk_frozen BK314.out 4))
                                              refine bodyPost_ret (results_ct rfl _ _ gb314 25 #[.int .i64 0, .string (⟨#[]⟩ : ByteArray), .string (⟨#[]⟩ : ByteArray), .int .i64 0, .string (⟨#[]⟩ : ByteArray)] (0, 0) _ rfl (by (with_reducible repeat (first | refine blk_drewN ?_ _ | refine blk_drew ?_ | refine blk_alloc ?_ _)); refine blk_put (cs := #[.int .i64 0, .string (⟨#[]⟩ : ByteArray), .string (⟨#[]⟩ : ByteArray), .int .i64 0, .string x315004_92]) ?_ 4 _ rfl; (with_reducible repeat (first | refine blk_drewN ?_ _ | refine blk_drew ?_ | refine blk_alloc ?_ _)); refine blk_put (cs := #[.int .i64 0, .string (⟨#[]⟩ : ByteArray), .string (⟨#[]⟩ : ByteArray), .int .i64 x315003_92, .string x315004_92]) ?_ 3 _ rfl; (with_reducible repeat (first | refine blk_drewN ?_ _ | refine blk_drew ?_ | refine blk_alloc ?_ _)); refine blk_put (cs := #[.int .i64 0, .string (⟨#[]⟩ : ByteArray), .string x315002_92, .int .i64 x315003_92, .string x315004_92]) ?_ 2 _ rfl; (with_reducible repeat (first | refine blk_drewN ?_ _ | refine blk_drew ?_ | refine blk_alloc ?_ _)); refine blk_put (cs := #[.int .i64 0, .string x315001_92, .string x315002_92, .int .i64 x315003_92, .string x315004_92]) ?_ 1 _ rfl; (with_reducible repeat (first | refine blk_drewN ?_ _ | refine blk_drew ?_ | refine blk_alloc ?_ _)); refine blk_put (cs := #[.int .i64 x315000_92, .string x315001_92, .string x315002_92, .int .i64 x315003_92, .string x315004_92]) ?_ 0 _ rfl; (with_reducible repeat (first | refine blk_drewN ?_ _ | refine blk_drew ?_ | refine blk_alloc ?_ _)); exact BK314.out) Tryd.underlying25 rfl (by kernel_rfl)) rfl ?_
                                              exact ⟨by first | rfl | (simp [errW_none, errW_some] <;> rfl) | (simp [*, errW_none, errW_some] <;> rfl), by repeat (first | (with_reducible first | exact HB.out | apply below_alloc | apply pw_below_drewN | apply below_drew1 | refine below_set ?_ GE314.out | refine below_set ?_ GE321.out | refine below_set ?_ GE325.out | refine below_set ?_ GE326.out | refine below_set ?_ GE327.out) | exact HB.out)⟩
                                          · replace c140 := Bool.eq_false_iff.mpr c140
                                            subst c140; have H1 : (some (0, (⟨#[]⟩ : ByteArray), (⟨#[]⟩ : ByteArray), 0, (⟨#[]⟩ : ByteArray), false)) = some (r1, r2, r3, r4, r5, r6) := by rw [if_neg (show ¬ (false = true) by decide)] at H; exact H
                                            clear H; have H := H1; clear H1; simp only [Option.some.injEq, Prod.mk.injEq] at H; obtain ⟨rfl, rfl, rfl, rfl, rfl, rfl⟩ := H; have hnb168 := NB327_314.out; have hnc168 := NB314_327.out; have hnb169 := NB327_321.out; have hnc169 := NB321_327.out; have hnb170 := NB327_325.out; have hnc170 := NB325_327.out; have hnb171 := NB327_326.out; have hnc171 := NB326_327.out; have hcz172_0 : wc.cell? ⟨gb327, 0, none⟩ = some (.int .i64 x4_1) := (blk_cell BK327.out 0).trans rfl; have hcz172_1 : wc.cell? ⟨gb327, 1, none⟩ = some (.string x328001_42) := (blk_cell BK327.out 1).trans rfl; have hcz172_2 : wc.cell? ⟨gb327, 2, none⟩ = some (.string x328002_67) := (blk_cell BK327.out 2).trans rfl; have hcz172_3 : wc.cell? ⟨gb327, 3, none⟩ = some (.int .i64 x328003_92) := (blk_cell BK327.out 3).trans rfl; have hcz172_4 : wc.cell? ⟨gb327, 4, none⟩ = some (.string x328004_127) := (blk_cell BK327.out 4).trans rfl; have hfz172_0 := blk_frozen BK327.out 0; have hfz172_1 := blk_frozen BK327.out 1; have hfz172_2 := blk_frozen BK327.out 2; have hfz172_3 := blk_frozen BK327.out 3; have hfz172_4 := blk_frozen BK327.out 4
                                            go_wp2_with (first | ((with_reducible refine gate_callee (f := 25) rfl ?_); refine goesL_ (some 76) rfl rfl Tryd.func25 (by kernel_rfl) rfl #[.agg #[.int .i64 x4_1, .string x328001_42, .string x328002_67, .int .i64 x328003_92, .string x328004_127]] rfl (by (try simp only [List.map_toArray, List.map_cons, List.map_nil]); first | done | rfl | (simp only [List.length_drop, List.length_take]; rfl)) ?_; (with_reducible refine (impl_isReq.calls kj127 x4_1 x328001_42 x328002_67 x328003_92 x328004_127 false _ A139.out).mono ?_); rintro e w173 ⟨rfl, hb⟩; refine ⟨_, rfl, ?_⟩; have n0_ := Aside0.mk (blk_below (g := gb314) (o := .cells #[.int .i64 x315000_92, .string x315001_92, .string x315002_92, .int .i64 x315003_92, .string x315004_92] 25 (0, 0)) (by (with_reducible repeat (first | refine blk_drewN ?_ _ | refine blk_drew ?_ | refine blk_alloc ?_ _)); exact BK314.out) hb); have n1_ := Aside0.mk (blk_below (g := gb321) (o := .cells #[.string t315, .bool t316, .bool t317, .bool t318, .bool t319] 53 (0, 0)) (by (with_reducible repeat (first | refine blk_drewN ?_ _ | refine blk_drew ?_ | refine blk_alloc ?_ _)); exact BK321.out) hb); have n2_ := Aside0.mk (blk_below (g := gb325) (o := .cells #[.string x326000_92] 9 (0, 0)) (by (with_reducible repeat (first | refine blk_drewN ?_ _ | refine blk_drew ?_ | refine blk_alloc ?_ _)); exact BK325.out) hb); have n3_ := Aside0.mk (blk_below (g := gb326) (o := .cells #[.bool x327000_92] 4 (0, 0)) (by (with_reducible repeat (first | refine blk_drewN ?_ _ | refine blk_drew ?_ | refine blk_alloc ?_ _)); exact BK326.out) hb); have n4_ := Aside0.mk (blk_below (g := gb327) (o := .cells #[.int .i64 x4_1, .string x328001_42, .string x328002_67, .int .i64 x328003_92, .string x328004_127] 25 (0, 0)) (by (with_reducible repeat (first | refine blk_drewN ?_ _ | refine blk_drew ?_ | refine blk_alloc ?_ _)); exact BK327.out) hb); have n5_ := Aside0.mk (below_step (by repeat (first | (with_reducible first | exact HB.out | apply below_alloc | apply pw_below_drewN | apply below_drew1 | refine below_set ?_ GE314.out | refine below_set ?_ GE321.out | refine below_set ?_ GE325.out | refine below_set ?_ GE326.out | refine below_set ?_ GE327.out) | exact HB.out)) hb); clear BK314; clear BK321; clear BK325; clear BK326; clear BK327; clear HB; have BK314 := n0_; have BK321 := n1_; have BK325 := n2_; have BK326 := n3_; have BK327 := n4_; have HB := n5_; clear n0_ n1_ n2_ n3_ n4_ n5_; (try clear hb); (try clear hb2); (try clear hk); (try clear hi); have hnb174 := NB314_321.out; have hnc174 := NB321_314.out; have hnb175 := NB314_325.out; have hnc175 := NB325_314.out; have hnb176 := NB314_326.out; have hnc176 := NB326_314.out; have hcz177_0 : w173.cell? ⟨gb314, 0, none⟩ = some (.int .i64 x315000_92) := (blk_cell BK314.out 0).trans rfl; have hcz177_1 : w173.cell? ⟨gb314, 1, none⟩ = some (.string x315001_92) := (blk_cell BK314.out 1).trans rfl; have hcz177_2 : w173.cell? ⟨gb314, 2, none⟩ = some (.string x315002_92) := (blk_cell BK314.out 2).trans rfl; have hcz177_3 : w173.cell? ⟨gb314, 3, none⟩ = some (.int .i64 x315003_92) := (blk_cell BK314.out 3).trans rfl; have hcz177_4 : w173.cell? ⟨gb314, 4, none⟩ = some (.string x315004_92) := (blk_cell BK314.out 4).trans rfl; have hfz177_0 := blk_frozen BK314.out 0; have hfz177_1 := blk_frozen BK314.out 1; have hfz177_2 := blk_frozen BK314.out 2; have hfz177_3 := blk_frozen BK314.out 3; have hfz177_4 := blk_frozen BK314.out 4))
                                            refine bodyPost_ret (results_ct rfl _ _ gb314 25 #[.int .i64 0, .string (⟨#[]⟩ : ByteArray), .string (⟨#[]⟩ : ByteArray), .int .i64 0, .string (⟨#[]⟩ : ByteArray)] (0, 0) _ rfl (by (with_reducible repeat (first | refine blk_drewN ?_ _ | refine blk_drew ?_ | refine blk_alloc ?_ _)); refine blk_put (cs := #[.int .i64 0, .string (⟨#[]⟩ : ByteArray), .string (⟨#[]⟩ : ByteArray), .int .i64 0, .string x315004_92]) ?_ 4 _ rfl; (with_reducible repeat (first | refine blk_drewN ?_ _ | refine blk_drew ?_ | refine blk_alloc ?_ _)); refine blk_put (cs := #[.int .i64 0, .string (⟨#[]⟩ : ByteArray), .string (⟨#[]⟩ : ByteArray), .int .i64 x315003_92, .string x315004_92]) ?_ 3 _ rfl; (with_reducible repeat (first | refine blk_drewN ?_ _ | refine blk_drew ?_ | refine blk_alloc ?_ _)); refine blk_put (cs := #[.int .i64 0, .string (⟨#[]⟩ : ByteArray), .string x315002_92, .int .i64 x315003_92, .string x315004_92]) ?_ 2 _ rfl; (with_reducible repeat (first | refine blk_drewN ?_ _ | refine blk_drew ?_ | refine blk_alloc ?_ _)); refine blk_put (cs := #[.int .i64 0, .string x315001_92, .string x315002_92, .int .i64 x315003_92, .string x315004_92]) ?_ 1 _ rfl; (with_reducible repeat (first | refine blk_drewN ?_ _ | refine blk_drew ?_ | refine blk_alloc ?_ _)); refine blk_put (cs := #[.int .i64 x315000_92, .string x315001_92, .string x315002_92, .int .i64 x315003_92, .string x315004_92]) ?_ 0 _ rfl; (with_reducible repeat (first | refine blk_drewN ?_ _ | refine blk_drew ?_ | refine blk_alloc ?_ _)); exact BK314.out) Tryd.underlying25 rfl (by kernel_rfl)) rfl ?_
                                            exact ⟨by first | rfl | (simp [errW_none, errW_some] <;> rfl) | (simp [*, errW_none, errW_some] <;> rfl), by repeat (first | (with_reducible first | exact HB.out | apply below_alloc | apply pw_below_drewN | apply below_drew1 | refine below_set ?_ GE314.out | refine below_set ?_ GE321.out | refine below_set ?_ GE325.out | refine below_set ?_ GE326.out | refine below_set ?_ GE327.out) | exact HB.out)⟩
        · rw [if_neg c6] at H
          have c6b0 : (t322.toList == t315.toList) = false := beq_eq_false_iff_ne.mpr c6; have c6b1 : (t322.toList != t315.toList) = true := bne_iff_ne.mpr c6; have H' := Aside0.mk H; clear H
          go_wp2_with (first | ((with_reducible refine gate_callee (f := 33) rfl ?_); refine goesL_ (some 20) rfl rfl Tryd.func33 (by kernel_rfl) rfl #[.int .i64 x4_1] rfl (by (try simp only [List.map_toArray, List.map_cons, List.map_nil]); first | done | rfl | (simp only [List.length_drop, List.length_take]; rfl)) ?_; (with_reducible refine (impl_formOf.calls x4_1 t315 t316 t317 t318 t319 t320 _ A4.out).mono ?_); rintro e w178 ⟨rfl, hb⟩; refine ⟨_, rfl, ?_⟩; have n0_ := Aside0.mk (blk_below (g := gb314) (o := .cells #[.int .i64 x315000_1, .string x315001_1, .string x315002_1, .int .i64 x315003_1, .string x315004_1] 25 (0, 0)) (by (with_reducible repeat (first | refine blk_drewN ?_ _ | refine blk_drew ?_ | refine blk_alloc ?_ _)); exact BK314.out) hb); have n1_ := Aside0.mk (below_step (by repeat (first | (with_reducible first | exact HB.out | apply below_alloc | apply pw_below_drewN | apply below_drew1 | refine below_set ?_ GE314.out) | exact HB.out)) hb); clear BK314; clear HB; have BK314 := n0_; have HB := n1_; clear n0_ n1_; (try clear hb); (try clear hb2); (try clear hk); (try clear hi)) | ((with_reducible refine gate_dst (N := 5) rfl ?_); refine box_event ?hg (N := 5) ?hd (cs := #[.string (⟨#[]⟩ : ByteArray), .bool false, .bool false, .bool false, .bool false]) (t := 53) ?hr ?_; (case hd => rfl); (case hg => rfl); (case hr => first | (go_simp; done) | (go_simp; rfl)); intro gb321 hg w179 hbox hb; have n0_ := Aside0.mk (blk_below (g := gb314) (o := .cells #[.int .i64 x315000_1, .string x315001_1, .string x315002_1, .int .i64 x315003_1, .string x315004_1] 25 (0, 0)) (by (with_reducible repeat (first | refine blk_drewN ?_ _ | refine blk_drew ?_ | refine blk_alloc ?_ _)); exact BK314.out) hb); have n1_ := Aside0.mk (below_step (by repeat (first | (with_reducible first | exact HB.out | apply below_alloc | apply pw_below_drewN | apply below_drew1 | refine below_set ?_ GE314.out) | exact HB.out)) hb); have n2_ := Aside0.mk (hbox); have n3_ := Aside0.mk ((by rw [hg]; exact (below_size (by repeat (first | (with_reducible first | exact HB.out | apply below_alloc | apply pw_below_drewN | apply below_drew1 | refine below_set ?_ GE314.out) | exact HB.out))) : w.heap.size ≤ gb321)); have n4_ := Aside0.mk ((by rw [hg]; exact (below_size (by repeat (first | (with_reducible first | exact HB.out | apply below_alloc | apply pw_below_drewN | apply below_drew1 | refine below_set ?_ GE314.out) | exact HB.out))) : w.heap.size ≤ gb321)); have n5_ := Aside0.mk ((by rw [hg]; exact Nat.ne_of_lt (blk_lt (g := gb314) (o := .cells #[.int .i64 x315000_1, .string x315001_1, .string x315002_1, .int .i64 x315003_1, .string x315004_1] 25 (0, 0)) (by (with_reducible repeat (first | refine blk_drewN ?_ _ | refine blk_drew ?_ | refine blk_alloc ?_ _)); exact BK314.out)) : gb314 ≠ gb321)); have n6_ := Aside0.mk ((by rw [hg]; exact Nat.ne_of_gt (blk_lt (g := gb314) (o := .cells #[.int .i64 x315000_1, .string x315001_1, .string x315002_1, .int .i64 x315003_1, .string x315004_1] 25 (0, 0)) (by (with_reducible repeat (first | refine blk_drewN ?_ _ | refine blk_drew ?_ | refine blk_alloc ?_ _)); exact BK314.out)) : gb321 ≠ gb314)); clear BK314; clear HB; have BK314 := n0_; have HB := n1_; have BK321 := n2_; have GW321 := n3_; have GE321 := n4_; have NB314_321 := n5_; have NB321_314 := n6_; clear n0_ n1_ n2_ n3_ n4_ n5_ n6_; clear hb hbox hg; have hnb180 := NB321_314.out; have hnc180 := NB314_321.out; have hcz181_0 : w179.cell? ⟨gb321, 0, none⟩ = some (.string (⟨#[]⟩ : ByteArray)) := (blk_cell BK321.out 0).trans rfl; have hcz181_1 : w179.cell? ⟨gb321, 1, none⟩ = some (.bool false) := (blk_cell BK321.out 1).trans rfl; have hcz181_2 : w179.cell? ⟨gb321, 2, none⟩ = some (.bool false) := (blk_cell BK321.out 2).trans rfl; have hcz181_3 : w179.cell? ⟨gb321, 3, none⟩ = some (.bool false) := (blk_cell BK321.out 3).trans rfl; have hcz181_4 : w179.cell? ⟨gb321, 4, none⟩ = some (.bool false) := (blk_cell BK321.out 4).trans rfl; have hfz181_0 := blk_frozen BK321.out 0; have hfz181_1 := blk_frozen BK321.out 1; have hfz181_2 := blk_frozen BK321.out 2; have hfz181_3 := blk_frozen BK321.out 3; have hfz181_4 := blk_frozen BK321.out 4) | ((with_reducible refine gate_callee (f := 34) rfl ?_); refine goesL_ (some 25) rfl rfl Tryd.func34 (by kernel_rfl) rfl #[.string a0, .string (⟨#[32]⟩ : ByteArray)] rfl (by (try simp only [List.map_toArray, List.map_cons, List.map_nil]); first | done | rfl | (simp only [List.length_drop, List.length_take]; rfl)) ?_; (with_reducible refine (strings_Cut.calls a0 (⟨#[32]⟩ : ByteArray) t322 t323 t324 _ A5.out).mono ?_); rintro e w' ⟨rfl, ⟨nd, rfl⟩⟩; refine ⟨_, rfl, ?_⟩) | ((with_reducible refine gate_dst (N := 8) rfl ?_); refine box_event ?hg (N := 8) ?hd (cs := #[.string (⟨#[]⟩ : ByteArray)]) (t := 9) ?hr ?_; (case hd => rfl); (case hg => rfl); (case hr => first | (go_simp; done) | (go_simp; rfl)); intro gb325 hg w182 hbox hb; have n0_ := Aside0.mk (blk_below (g := gb314) (o := .cells #[.int .i64 x315000_1, .string x315001_1, .string x315002_1, .int .i64 x315003_1, .string x315004_1] 25 (0, 0)) (by (with_reducible repeat (first | refine blk_drewN ?_ _ | refine blk_drew ?_ | refine blk_alloc ?_ _)); refine blk_far ?_ NB314_321.out _; (with_reducible repeat (first | refine blk_drewN ?_ _ | refine blk_drew ?_ | refine blk_alloc ?_ _)); refine blk_far ?_ NB314_321.out _; (with_reducible repeat (first | refine blk_drewN ?_ _ | refine blk_drew ?_ | refine blk_alloc ?_ _)); refine blk_far ?_ NB314_321.out _; (with_reducible repeat (first | refine blk_drewN ?_ _ | refine blk_drew ?_ | refine blk_alloc ?_ _)); refine blk_far ?_ NB314_321.out _; (with_reducible repeat (first | refine blk_drewN ?_ _ | refine blk_drew ?_ | refine blk_alloc ?_ _)); refine blk_far ?_ NB314_321.out _; (with_reducible repeat (first | refine blk_drewN ?_ _ | refine blk_drew ?_ | refine blk_alloc ?_ _)); exact BK314.out) hb); have n1_ := Aside0.mk (blk_below (g := gb321) (o := .cells #[.string t315, .bool t316, .bool t317, .bool t318, .bool t319] 53 (0, 0)) (by (with_reducible repeat (first | refine blk_drewN ?_ _ | refine blk_drew ?_ | refine blk_alloc ?_ _)); refine blk_put (cs := #[.string t315, .bool t316, .bool t317, .bool t318, .bool false]) ?_ 4 _ rfl; (with_reducible repeat (first | refine blk_drewN ?_ _ | refine blk_drew ?_ | refine blk_alloc ?_ _)); refine blk_put (cs := #[.string t315, .bool t316, .bool t317, .bool false, .bool false]) ?_ 3 _ rfl; (with_reducible repeat (first | refine blk_drewN ?_ _ | refine blk_drew ?_ | refine blk_alloc ?_ _)); refine blk_put (cs := #[.string t315, .bool t316, .bool false, .bool false, .bool false]) ?_ 2 _ rfl; (with_reducible repeat (first | refine blk_drewN ?_ _ | refine blk_drew ?_ | refine blk_alloc ?_ _)); refine blk_put (cs := #[.string t315, .bool false, .bool false, .bool false, .bool false]) ?_ 1 _ rfl; (with_reducible repeat (first | refine blk_drewN ?_ _ | refine blk_drew ?_ | refine blk_alloc ?_ _)); refine blk_put (cs := #[.string (⟨#[]⟩ : ByteArray), .bool false, .bool false, .bool false, .bool false]) ?_ 0 _ rfl; (with_reducible repeat (first | refine blk_drewN ?_ _ | refine blk_drew ?_ | refine blk_alloc ?_ _)); exact BK321.out) hb); have n2_ := Aside0.mk (below_step (by repeat (first | (with_reducible first | exact HB.out | apply below_alloc | apply pw_below_drewN | apply below_drew1 | refine below_set ?_ GE314.out | refine below_set ?_ GE321.out) | exact HB.out)) hb); have n3_ := Aside0.mk (hbox); have n4_ := Aside0.mk ((by rw [hg]; exact (below_size (by repeat (first | (with_reducible first | exact HB.out | apply below_alloc | apply pw_below_drewN | apply below_drew1 | refine below_set ?_ GE314.out | refine below_set ?_ GE321.out) | exact HB.out))) : w.heap.size ≤ gb325)); have n5_ := Aside0.mk ((by rw [hg]; exact (below_size (by repeat (first | (with_reducible first | exact HB.out | apply below_alloc | apply pw_below_drewN | apply below_drew1 | refine below_set ?_ GE314.out | refine below_set ?_ GE321.out) | exact HB.out))) : w.heap.size ≤ gb325)); have n6_ := Aside0.mk ((by rw [hg]; exact Nat.ne_of_lt (blk_lt (g := gb314) (o := .cells #[.int .i64 x315000_1, .string x315001_1, .string x315002_1, .int .i64 x315003_1, .string x315004_1] 25 (0, 0)) (by (with_reducible repeat (first | refine blk_drewN ?_ _ | refine blk_drew ?_ | refine blk_alloc ?_ _)); refine blk_far ?_ NB314_321.out _; (with_reducible repeat (first | refine blk_drewN ?_ _ | refine blk_drew ?_ | refine blk_alloc ?_ _)); refine blk_far ?_ NB314_321.out _; (with_reducible repeat (first | refine blk_drewN ?_ _ | refine blk_drew ?_ | refine blk_alloc ?_ _)); refine blk_far ?_ NB314_321.out _; (with_reducible repeat (first | refine blk_drewN ?_ _ | refine blk_drew ?_ | refine blk_alloc ?_ _)); refine blk_far ?_ NB314_321.out _; (with_reducible repeat (first | refine blk_drewN ?_ _ | refine blk_drew ?_ | refine blk_alloc ?_ _)); refine blk_far ?_ NB314_321.out _; (with_reducible repeat (first | refine blk_drewN ?_ _ | refine blk_drew ?_ | refine blk_alloc ?_ _)); exact BK314.out)) : gb314 ≠ gb325)); have n7_ := Aside0.mk ((by rw [hg]; exact Nat.ne_of_gt (blk_lt (g := gb314) (o := .cells #[.int .i64 x315000_1, .string x315001_1, .string x315002_1, .int .i64 x315003_1, .string x315004_1] 25 (0, 0)) (by (with_reducible repeat (first | refine blk_drewN ?_ _ | refine blk_drew ?_ | refine blk_alloc ?_ _)); refine blk_far ?_ NB314_321.out _; (with_reducible repeat (first | refine blk_drewN ?_ _ | refine blk_drew ?_ | refine blk_alloc ?_ _)); refine blk_far ?_ NB314_321.out _; (with_reducible repeat (first | refine blk_drewN ?_ _ | refine blk_drew ?_ | refine blk_alloc ?_ _)); refine blk_far ?_ NB314_321.out _; (with_reducible repeat (first | refine blk_drewN ?_ _ | refine blk_drew ?_ | refine blk_alloc ?_ _)); refine blk_far ?_ NB314_321.out _; (with_reducible repeat (first | refine blk_drewN ?_ _ | refine blk_drew ?_ | refine blk_alloc ?_ _)); refine blk_far ?_ NB314_321.out _; (with_reducible repeat (first | refine blk_drewN ?_ _ | refine blk_drew ?_ | refine blk_alloc ?_ _)); exact BK314.out)) : gb325 ≠ gb314)); have n8_ := Aside0.mk ((by rw [hg]; exact Nat.ne_of_lt (blk_lt (g := gb321) (o := .cells #[.string t315, .bool t316, .bool t317, .bool t318, .bool t319] 53 (0, 0)) (by (with_reducible repeat (first | refine blk_drewN ?_ _ | refine blk_drew ?_ | refine blk_alloc ?_ _)); refine blk_put (cs := #[.string t315, .bool t316, .bool t317, .bool t318, .bool false]) ?_ 4 _ rfl; (with_reducible repeat (first | refine blk_drewN ?_ _ | refine blk_drew ?_ | refine blk_alloc ?_ _)); refine blk_put (cs := #[.string t315, .bool t316, .bool t317, .bool false, .bool false]) ?_ 3 _ rfl; (with_reducible repeat (first | refine blk_drewN ?_ _ | refine blk_drew ?_ | refine blk_alloc ?_ _)); refine blk_put (cs := #[.string t315, .bool t316, .bool false, .bool false, .bool false]) ?_ 2 _ rfl; (with_reducible repeat (first | refine blk_drewN ?_ _ | refine blk_drew ?_ | refine blk_alloc ?_ _)); refine blk_put (cs := #[.string t315, .bool false, .bool false, .bool false, .bool false]) ?_ 1 _ rfl; (with_reducible repeat (first | refine blk_drewN ?_ _ | refine blk_drew ?_ | refine blk_alloc ?_ _)); refine blk_put (cs := #[.string (⟨#[]⟩ : ByteArray), .bool false, .bool false, .bool false, .bool false]) ?_ 0 _ rfl; (with_reducible repeat (first | refine blk_drewN ?_ _ | refine blk_drew ?_ | refine blk_alloc ?_ _)); exact BK321.out)) : gb321 ≠ gb325)); have n9_ := Aside0.mk ((by rw [hg]; exact Nat.ne_of_gt (blk_lt (g := gb321) (o := .cells #[.string t315, .bool t316, .bool t317, .bool t318, .bool t319] 53 (0, 0)) (by (with_reducible repeat (first | refine blk_drewN ?_ _ | refine blk_drew ?_ | refine blk_alloc ?_ _)); refine blk_put (cs := #[.string t315, .bool t316, .bool t317, .bool t318, .bool false]) ?_ 4 _ rfl; (with_reducible repeat (first | refine blk_drewN ?_ _ | refine blk_drew ?_ | refine blk_alloc ?_ _)); refine blk_put (cs := #[.string t315, .bool t316, .bool t317, .bool false, .bool false]) ?_ 3 _ rfl; (with_reducible repeat (first | refine blk_drewN ?_ _ | refine blk_drew ?_ | refine blk_alloc ?_ _)); refine blk_put (cs := #[.string t315, .bool t316, .bool false, .bool false, .bool false]) ?_ 2 _ rfl; (with_reducible repeat (first | refine blk_drewN ?_ _ | refine blk_drew ?_ | refine blk_alloc ?_ _)); refine blk_put (cs := #[.string t315, .bool false, .bool false, .bool false, .bool false]) ?_ 1 _ rfl; (with_reducible repeat (first | refine blk_drewN ?_ _ | refine blk_drew ?_ | refine blk_alloc ?_ _)); refine blk_put (cs := #[.string (⟨#[]⟩ : ByteArray), .bool false, .bool false, .bool false, .bool false]) ?_ 0 _ rfl; (with_reducible repeat (first | refine blk_drewN ?_ _ | refine blk_drew ?_ | refine blk_alloc ?_ _)); exact BK321.out)) : gb325 ≠ gb321)); clear BK314; clear BK321; clear HB; have BK314 := n0_; have BK321 := n1_; have HB := n2_; have BK325 := n3_; have GW325 := n4_; have GE325 := n5_; have NB314_325 := n6_; have NB325_314 := n7_; have NB321_325 := n8_; have NB325_321 := n9_; clear n0_ n1_ n2_ n3_ n4_ n5_ n6_ n7_ n8_ n9_; clear hb hbox hg) | ((with_reducible refine gate_dst (N := 9) rfl ?_); refine box_event ?hg (N := 9) ?hd (cs := #[.bool false]) (t := 4) ?hr ?_; (case hd => rfl); (case hg => rfl); (case hr => first | (go_simp; done) | (go_simp; rfl)); intro gb326 hg w183 hbox hb; have n0_ := Aside0.mk (blk_below (g := gb314) (o := .cells #[.int .i64 x315000_1, .string x315001_1, .string x315002_1, .int .i64 x315003_1, .string x315004_1] 25 (0, 0)) (by (with_reducible repeat (first | refine blk_drewN ?_ _ | refine blk_drew ?_ | refine blk_alloc ?_ _)); exact BK314.out) hb); have n1_ := Aside0.mk (blk_below (g := gb321) (o := .cells #[.string t315, .bool t316, .bool t317, .bool t318, .bool t319] 53 (0, 0)) (by (with_reducible repeat (first | refine blk_drewN ?_ _ | refine blk_drew ?_ | refine blk_alloc ?_ _)); exact BK321.out) hb); have n2_ := Aside0.mk (blk_below (g := gb325) (o := .cells #[.string (⟨#[]⟩ : ByteArray)] 9 (0, 0)) (by (with_reducible repeat (first | refine blk_drewN ?_ _ | refine blk_drew ?_ | refine blk_alloc ?_ _)); exact BK325.out) hb); have n3_ := Aside0.mk (below_step (by repeat (first | (with_reducible first | exact HB.out | apply below_alloc | apply pw_below_drewN | apply below_drew1 | refine below_set ?_ GE314.out | refine below_set ?_ GE321.out | refine below_set ?_ GE325.out) | exact HB.out)) hb); have n4_ := Aside0.mk (hbox); have n5_ := Aside0.mk ((by rw [hg]; exact (below_size (by repeat (first | (with_reducible first | exact HB.out | apply below_alloc | apply pw_below_drewN | apply below_drew1 | refine below_set ?_ GE314.out | refine below_set ?_ GE321.out | refine below_set ?_ GE325.out) | exact HB.out))) : w.heap.size ≤ gb326)); have n6_ := Aside0.mk ((by rw [hg]; exact (below_size (by repeat (first | (with_reducible first | exact HB.out | apply below_alloc | apply pw_below_drewN | apply below_drew1 | refine below_set ?_ GE314.out | refine below_set ?_ GE321.out | refine below_set ?_ GE325.out) | exact HB.out))) : w.heap.size ≤ gb326)); have n7_ := Aside0.mk ((by rw [hg]; exact Nat.ne_of_lt (blk_lt (g := gb314) (o := .cells #[.int .i64 x315000_1, .string x315001_1, .string x315002_1, .int .i64 x315003_1, .string x315004_1] 25 (0, 0)) (by (with_reducible repeat (first | refine blk_drewN ?_ _ | refine blk_drew ?_ | refine blk_alloc ?_ _)); exact BK314.out)) : gb314 ≠ gb326)); have n8_ := Aside0.mk ((by rw [hg]; exact Nat.ne_of_gt (blk_lt (g := gb314) (o := .cells #[.int .i64 x315000_1, .string x315001_1, .string x315002_1, .int .i64 x315003_1, .string x315004_1] 25 (0, 0)) (by (with_reducible repeat (first | refine blk_drewN ?_ _ | refine blk_drew ?_ | refine blk_alloc ?_ _)); exact BK314.out)) : gb326 ≠ gb314)); have n9_ := Aside0.mk ((by rw [hg]; exact Nat.ne_of_lt (blk_lt (g := gb321) (o := .cells #[.string t315, .bool t316, .bool t317, .bool t318, .bool t319] 53 (0, 0)) (by (with_reducible repeat (first | refine blk_drewN ?_ _ | refine blk_drew ?_ | refine blk_alloc ?_ _)); exact BK321.out)) : gb321 ≠ gb326)); have n10_ := Aside0.mk ((by rw [hg]; exact Nat.ne_of_gt (blk_lt (g := gb321) (o := .cells #[.string t315, .bool t316, .bool t317, .bool t318, .bool t319] 53 (0, 0)) (by (with_reducible repeat (first | refine blk_drewN ?_ _ | refine blk_drew ?_ | refine blk_alloc ?_ _)); exact BK321.out)) : gb326 ≠ gb321)); have n11_ := Aside0.mk ((by rw [hg]; exact Nat.ne_of_lt (blk_lt (g := gb325) (o := .cells #[.string (⟨#[]⟩ : ByteArray)] 9 (0, 0)) (by (with_reducible repeat (first | refine blk_drewN ?_ _ | refine blk_drew ?_ | refine blk_alloc ?_ _)); exact BK325.out)) : gb325 ≠ gb326)); have n12_ := Aside0.mk ((by rw [hg]; exact Nat.ne_of_gt (blk_lt (g := gb325) (o := .cells #[.string (⟨#[]⟩ : ByteArray)] 9 (0, 0)) (by (with_reducible repeat (first | refine blk_drewN ?_ _ | refine blk_drew ?_ | refine blk_alloc ?_ _)); exact BK325.out)) : gb326 ≠ gb325)); clear BK314; clear BK321; clear BK325; clear HB; have BK314 := n0_; have BK321 := n1_; have BK325 := n2_; have HB := n3_; have BK326 := n4_; have GW326 := n5_; have GE326 := n6_; have NB314_326 := n7_; have NB326_314 := n8_; have NB321_326 := n9_; have NB326_321 := n10_; have NB325_326 := n11_; have NB326_325 := n12_; clear n0_ n1_ n2_ n3_ n4_ n5_ n6_ n7_ n8_ n9_ n10_ n11_ n12_; clear hb hbox hg; have hnb184 := NB325_314.out; have hnc184 := NB314_325.out; have hnb185 := NB325_321.out; have hnc185 := NB321_325.out; have hnb186 := NB325_326.out; have hnc186 := NB326_325.out; have hcz187_0 : w183.cell? ⟨gb325, 0, none⟩ = some (.string (⟨#[]⟩ : ByteArray)) := (blk_cell BK325.out 0).trans rfl; have hfz187_0 := blk_frozen BK325.out 0; have hnb188 := NB326_314.out; have hnc188 := NB314_326.out; have hnb189 := NB326_321.out; have hnc189 := NB321_326.out; have hcz190_0 : w183.cell? ⟨gb326, 0, none⟩ = some (.bool false) := (blk_cell BK326.out 0).trans rfl; have hfz190_0 := blk_frozen BK326.out 0; have hcz191_0 : w183.cell? ⟨gb321, 0, none⟩ = some (.string t315) := (blk_cell BK321.out 0).trans rfl; have hcz191_1 : w183.cell? ⟨gb321, 1, none⟩ = some (.bool t316) := (blk_cell BK321.out 1).trans rfl; have hcz191_2 : w183.cell? ⟨gb321, 2, none⟩ = some (.bool t317) := (blk_cell BK321.out 2).trans rfl; have hcz191_3 : w183.cell? ⟨gb321, 3, none⟩ = some (.bool t318) := (blk_cell BK321.out 3).trans rfl; have hcz191_4 : w183.cell? ⟨gb321, 4, none⟩ = some (.bool t319) := (blk_cell BK321.out 4).trans rfl; have hfz191_0 := blk_frozen BK321.out 0; have hfz191_1 := blk_frozen BK321.out 1; have hfz191_2 := blk_frozen BK321.out 2; have hfz191_3 := blk_frozen BK321.out 3; have hfz191_4 := blk_frozen BK321.out 4))
          go_roundg k1
          case measure => have := HK1.out; omega
          case rel => exact ⟨(wrap64 (x4_1 + 1)), (x315000_1), (x315001_1), (x315002_1), (x315003_1), (x315004_1), (by first | rfl | (simp; done) | (simp [*]; done)), H', ⟨by have := HK1.out; omega⟩, ⟨by (with_reducible repeat (first | refine blk_drewN ?_ _ | refine blk_drew ?_ | refine blk_alloc ?_ _)); refine blk_far ?_ NB314_326.out _; (with_reducible repeat (first | refine blk_drewN ?_ _ | refine blk_drew ?_ | refine blk_alloc ?_ _)); refine blk_far ?_ NB314_325.out _; (with_reducible repeat (first | refine blk_drewN ?_ _ | refine blk_drew ?_ | refine blk_alloc ?_ _)); exact BK314.out⟩, ⟨by repeat (first | (with_reducible first | exact HB.out | apply below_alloc | apply pw_below_drewN | apply below_drew1 | refine below_set ?_ GE314.out | refine below_set ?_ GE321.out | refine below_set ?_ GE325.out | refine below_set ?_ GE326.out) | exact HB.out)⟩⟩
      · rw [if_neg c3] at H
        have c3b0 : decide (x4_1 ≤ 12) = false := decide_eq_false c3; clear c3; simp only [Option.some.injEq, Prod.mk.injEq] at H; obtain ⟨rfl, rfl, rfl, rfl, rfl, rfl⟩ := H; have hcz192_0 : wr.cell? ⟨gb314, 0, none⟩ = some (.int .i64 x315000_1) := (blk_cell BK314.out 0).trans rfl; have hcz192_1 : wr.cell? ⟨gb314, 1, none⟩ = some (.string x315001_1) := (blk_cell BK314.out 1).trans rfl; have hcz192_2 : wr.cell? ⟨gb314, 2, none⟩ = some (.string x315002_1) := (blk_cell BK314.out 2).trans rfl; have hcz192_3 : wr.cell? ⟨gb314, 3, none⟩ = some (.int .i64 x315003_1) := (blk_cell BK314.out 3).trans rfl; have hcz192_4 : wr.cell? ⟨gb314, 4, none⟩ = some (.string x315004_1) := (blk_cell BK314.out 4).trans rfl; have hfz192_0 := blk_frozen BK314.out 0; have hfz192_1 := blk_frozen BK314.out 1; have hfz192_2 := blk_frozen BK314.out 2; have hfz192_3 := blk_frozen BK314.out 3; have hfz192_4 := blk_frozen BK314.out 4
        go_wp2
        refine bodyPost_ret (results_ct rfl _ _ gb314 25 #[.int .i64 0, .string (⟨#[]⟩ : ByteArray), .string (⟨#[]⟩ : ByteArray), .int .i64 0, .string (⟨#[]⟩ : ByteArray)] (0, 0) _ rfl (by (with_reducible repeat (first | refine blk_drewN ?_ _ | refine blk_drew ?_ | refine blk_alloc ?_ _)); refine blk_put (cs := #[.int .i64 0, .string (⟨#[]⟩ : ByteArray), .string (⟨#[]⟩ : ByteArray), .int .i64 0, .string x315004_1]) ?_ 4 _ rfl; (with_reducible repeat (first | refine blk_drewN ?_ _ | refine blk_drew ?_ | refine blk_alloc ?_ _)); refine blk_put (cs := #[.int .i64 0, .string (⟨#[]⟩ : ByteArray), .string (⟨#[]⟩ : ByteArray), .int .i64 x315003_1, .string x315004_1]) ?_ 3 _ rfl; (with_reducible repeat (first | refine blk_drewN ?_ _ | refine blk_drew ?_ | refine blk_alloc ?_ _)); refine blk_put (cs := #[.int .i64 0, .string (⟨#[]⟩ : ByteArray), .string x315002_1, .int .i64 x315003_1, .string x315004_1]) ?_ 2 _ rfl; (with_reducible repeat (first | refine blk_drewN ?_ _ | refine blk_drew ?_ | refine blk_alloc ?_ _)); refine blk_put (cs := #[.int .i64 0, .string x315001_1, .string x315002_1, .int .i64 x315003_1, .string x315004_1]) ?_ 1 _ rfl; (with_reducible repeat (first | refine blk_drewN ?_ _ | refine blk_drew ?_ | refine blk_alloc ?_ _)); refine blk_put (cs := #[.int .i64 x315000_1, .string x315001_1, .string x315002_1, .int .i64 x315003_1, .string x315004_1]) ?_ 0 _ rfl; (with_reducible repeat (first | refine blk_drewN ?_ _ | refine blk_drew ?_ | refine blk_alloc ?_ _)); exact BK314.out) Tryd.underlying25 rfl (by kernel_rfl)) rfl ?_
        exact ⟨by first | rfl | (simp [errW_none, errW_some] <;> rfl) | (simp [*, errW_none, errW_some] <;> rfl), by repeat (first | (with_reducible first | exact HB.out | apply below_alloc | apply pw_below_drewN | apply below_drew1 | refine below_set ?_ GE314.out) | exact HB.out)⟩
end Go.Proofs.YtbhnjglfjhfljaaDoor.P
namespace Go.Proofs.YtbhnjglfjhfljaaDoor.P
open Go.RowKit Go.Proofs.YtbhnjglfjhfljaaDoorW.PrintWords Go.Proofs.YtbhnjglfjhfljaaDoorW.PrintLast Go.Proofs.YtbhnjglfjhfljaaDoorW.PrintMore
attribute [local go_sem] max2_int min2_int max_two min_two max_three min_three max_four min_four   -- for this text's walks alone
set_option linter.unusedVariables false
set_option linter.unusedSimpArgs false
def impl_ReqRead.f (k : Nat) (a0 : ByteArray) : Option (Int × ByteArray × ByteArray × Int × ByteArray × Bool) := (impl_reqRead.f k a0).bind fun bt342 => (some (bt342.1, bt342.2.1, bt342.2.2.1, bt342.2.2.2.1, bt342.2.2.2.2.1, bt342.2.2.2.2.2))
set_option maxHeartbeats 8000000 in
set_option maxRecDepth 100000 in
theorem impl_ReqRead.calls (k : Nat) (a0 : ByteArray) (r1 : Int) (r2 : ByteArray) (r3 : ByteArray) (r4 : Int) (r5 : ByteArray) (r6 : Bool) (w : World) (hT : TabT w) (h : impl_ReqRead.f k a0 = some (r1, r2, r3, r4, r5, r6)) :
    Calls Tryd.prog 6 #[.string a0] w fun e w' => e = .returned (.tuple #[.agg #[.int .i64 r1, .string r2, .string r3, .int .i64 r4, .string r5], .bool r6]) ∧ Below w.heap.size w w' := by
  have hu25 := Tryd.underlying25; have HT := Aside0.mk hT; clear hT; have HB := Aside0.mk (Below.refl w.heap.size w); have H : ((impl_reqRead.f k a0).bind fun bt342 => (some (bt342.1, bt342.2.1, bt342.2.2.1, bt342.2.2.2.1, bt342.2.2.2.2.1, bt342.2.2.2.2.2))) = some (r1, r2, r3, r4, r5, r6) := h; clear h; replace H := Option.bind_eq_some_iff.mp H; obtain ⟨⟨t342, t343, t344, t345, t346, t347⟩, A20, H⟩ := H; replace H : (some (t342, t343, t344, t345, t346, t347)) = some (r1, r2, r3, r4, r5, r6) := H; have A2 := Aside0.mk A20; clear A20; simp only [Option.some.injEq, Prod.mk.injEq] at H; obtain ⟨rfl, rfl, rfl, rfl, rfl, rfl⟩ := H
  go_enter Tryd.func6, Tryd.ntmps6
  go_wp2_with (first | ((with_reducible refine gate_dst (N := 2) rfl ?_); refine box_event ?hg (N := 2) ?hd (cs := #[.int .i64 0, .string (⟨#[]⟩ : ByteArray), .string (⟨#[]⟩ : ByteArray), .int .i64 0, .string (⟨#[]⟩ : ByteArray)]) (t := 25) ?hr ?_; (case hd => rfl); (case hg => rfl); (case hr => first | (go_simp; done) | (go_simp; rfl)); intro gb341 hg w3 hbox hb; have n0_ := Aside0.mk (below_step (by repeat (first | (with_reducible first | exact HB.out | apply below_alloc | apply pw_below_drewN | apply below_drew1) | exact HB.out)) hb); have n1_ := Aside0.mk (hbox); have n2_ := Aside0.mk ((by rw [hg]; exact (below_size (by repeat (first | (with_reducible first | exact HB.out | apply below_alloc | apply pw_below_drewN | apply below_drew1) | exact HB.out))) : w.heap.size ≤ gb341)); have n3_ := Aside0.mk ((by rw [hg]; exact (below_size (by repeat (first | (with_reducible first | exact HB.out | apply below_alloc | apply pw_below_drewN | apply below_drew1) | exact HB.out))) : w.heap.size ≤ gb341)); clear HB; have HB := n0_; have BK341 := n1_; have GW341 := n2_; have GE341 := n3_; clear n0_ n1_ n2_ n3_; clear hb hbox hg) | ((with_reducible refine gate_callee (f := 19) rfl ?_); refine goesL_ (some 5) rfl rfl Tryd.func19 (by kernel_rfl) rfl #[.string a0] rfl (by (try simp only [List.map_toArray, List.map_cons, List.map_nil]); first | done | rfl | (simp only [List.length_drop, List.length_take]; rfl)) ?_; (with_reducible refine (impl_reqRead.calls k a0 t342 t343 t344 t345 t346 t347 _ ?side1 A2.out).mono ?_); (case side1 => exact TabT.below HT.out (by repeat (first | (with_reducible first | exact HB.out | apply below_alloc | apply pw_below_drewN | apply below_drew1 | refine below_set ?_ GE341.out) | exact HB.out))); rintro e w4 ⟨rfl, hb⟩; refine ⟨_, rfl, ?_⟩; have n0_ := Aside0.mk (blk_below (g := gb341) (o := .cells #[.int .i64 0, .string (⟨#[]⟩ : ByteArray), .string (⟨#[]⟩ : ByteArray), .int .i64 0, .string (⟨#[]⟩ : ByteArray)] 25 (0, 0)) (by (with_reducible repeat (first | refine blk_drewN ?_ _ | refine blk_drew ?_ | refine blk_alloc ?_ _)); exact BK341.out) hb); have n1_ := Aside0.mk (below_step (by repeat (first | (with_reducible first | exact HB.out | apply below_alloc | apply pw_below_drewN | apply below_drew1 | refine below_set ?_ GE341.out) | exact HB.out)) hb); clear BK341; clear HB; have BK341 := n0_; have HB := n1_; clear n0_ n1_; (try clear hb); (try clear hb2); (try clear hk); (try clear hi); have hcz5_0 : w4.cell? ⟨gb341, 0, none⟩ = some (.int .i64 0) := (blk_cell BK341.out 0).trans rfl; have hcz5_1 : w4.cell? ⟨gb341, 1, none⟩ = some (.string (⟨#[]⟩ : ByteArray)) := (blk_cell BK341.out 1).trans rfl; have hcz5_2 : w4.cell? ⟨gb341, 2, none⟩ = some (.string (⟨#[]⟩ : ByteArray)) := (blk_cell BK341.out 2).trans rfl; have hcz5_3 : w4.cell? ⟨gb341, 3, none⟩ = some (.int .i64 0) := (blk_cell BK341.out 3).trans rfl; have hcz5_4 : w4.cell? ⟨gb341, 4, none⟩ = some (.string (⟨#[]⟩ : ByteArray)) := (blk_cell BK341.out 4).trans rfl; have hfz5_0 := blk_frozen BK341.out 0; have hfz5_1 := blk_frozen BK341.out 1; have hfz5_2 := blk_frozen BK341.out 2; have hfz5_3 := blk_frozen BK341.out 3; have hfz5_4 := blk_frozen BK341.out 4))
  refine bodyPost_ret (results_ct rfl _ _ gb341 25 #[.int .i64 t342, .string t343, .string t344, .int .i64 t345, .string t346] (0, 0) _ rfl (by (with_reducible repeat (first | refine blk_drewN ?_ _ | refine blk_drew ?_ | refine blk_alloc ?_ _)); refine blk_put (cs := #[.int .i64 t342, .string t343, .string t344, .int .i64 t345, .string (⟨#[]⟩ : ByteArray)]) ?_ 4 _ rfl; (with_reducible repeat (first | refine blk_drewN ?_ _ | refine blk_drew ?_ | refine blk_alloc ?_ _)); refine blk_put (cs := #[.int .i64 t342, .string t343, .string t344, .int .i64 0, .string (⟨#[]⟩ : ByteArray)]) ?_ 3 _ rfl; (with_reducible repeat (first | refine blk_drewN ?_ _ | refine blk_drew ?_ | refine blk_alloc ?_ _)); refine blk_put (cs := #[.int .i64 t342, .string t343, .string (⟨#[]⟩ : ByteArray), .int .i64 0, .string (⟨#[]⟩ : ByteArray)]) ?_ 2 _ rfl; (with_reducible repeat (first | refine blk_drewN ?_ _ | refine blk_drew ?_ | refine blk_alloc ?_ _)); refine blk_put (cs := #[.int .i64 t342, .string (⟨#[]⟩ : ByteArray), .string (⟨#[]⟩ : ByteArray), .int .i64 0, .string (⟨#[]⟩ : ByteArray)]) ?_ 1 _ rfl; (with_reducible repeat (first | refine blk_drewN ?_ _ | refine blk_drew ?_ | refine blk_alloc ?_ _)); refine blk_put (cs := #[.int .i64 0, .string (⟨#[]⟩ : ByteArray), .string (⟨#[]⟩ : ByteArray), .int .i64 0, .string (⟨#[]⟩ : ByteArray)]) ?_ 0 _ rfl; (with_reducible repeat (first | refine blk_drewN ?_ _ | refine blk_drew ?_ | refine blk_alloc ?_ _)); exact BK341.out) Tryd.underlying25 rfl (by kernel_rfl)) rfl ?_
  exact ⟨by first | rfl | (simp [errW_none, errW_some] <;> rfl) | (simp [*, errW_none, errW_some] <;> rfl), by repeat (first | (with_reducible first | exact HB.out | apply below_alloc | apply pw_below_drewN | apply below_drew1 | refine below_set ?_ GE341.out) | exact HB.out)⟩
end Go.Proofs.YtbhnjglfjhfljaaDoor.P
namespace Go.Proofs.YtbhnjglfjhfljaaDoor.P
open Go.RowKit Go.Proofs.YtbhnjglfjhfljaaDoorW.PrintWords Go.Proofs.YtbhnjglfjhfljaaDoorW.PrintLast Go.Proofs.YtbhnjglfjhfljaaDoorW.PrintMore
attribute [local go_sem] max2_int min2_int max_two min_two max_three min_three max_four min_four   -- for this text's walks alone
set_option linter.unusedVariables false
set_option linter.unusedSimpArgs false
mutual
def spec_l9Has.j0 : Nat → Int → Bool → Option (Bool × Bool × Bool)
  | 0, _, _ => none
  | k + 1, x5, x8 => if x8 = true then (some (false, true, false)) else (if x5 = 4 then (some (true, false, true)) else (if x5 = 5 then (some (true, true, true)) else (if x5 = 6 then (spec_l9Has.j1 k x5 (x5 == 6)) else (spec_l9Has.j1 k x5 (x5 == 7)))))
def spec_l9Has.j1 : Nat → Int → Bool → Option (Bool × Bool × Bool)
  | 0, _, _ => none
  | k + 1, x5, x15 => if x15 = true then (some (true, false, true)) else (if x5 = 8 then (some (true, false, false)) else (if x5 = 9 then (some (true, false, false)) else (some (false, false, false))))
end
def spec_l9Has.f (k : Nat) (a0 : Int) : Option (Bool × Bool × Bool) := if a0 = 1 then (some (true, true, false)) else (if a0 = 2 then (spec_l9Has.j0 k a0 (a0 == 2)) else (spec_l9Has.j0 k a0 (a0 == 11)))
set_option maxHeartbeats 8000000 in
set_option maxRecDepth 100000 in
theorem spec_l9Has.calls (k : Nat) (a0 : Int) (r1 : Bool) (r2 : Bool) (r3 : Bool) (w : World) (h : spec_l9Has.f k a0 = some (r1, r2, r3)) :
    Calls Tryd.prog 22 #[.int .i64 a0] w fun e w' => e = .returned (.tuple #[.bool r1, .bool r2, .bool r3]) ∧ Drawn0 w w' := by
  have H : (if a0 = 1 then (some (true, true, false)) else (if a0 = 2 then (spec_l9Has.j0 k a0 (a0 == 2)) else (spec_l9Has.j0 k a0 (a0 == 11)))) = some (r1, r2, r3) := h; clear h; by_cases c2 : a0 = 1
  · rw [if_pos c2] at H
    have c2b0 : (a0 == 1) = true := beq_iff_eq.mpr c2; have c2b1 : (a0 != 1) = false := bne_eq_false_iff_eq.mpr c2; clear c2; simp only [Option.some.injEq, Prod.mk.injEq] at H; obtain ⟨rfl, rfl, rfl⟩ := H
    go_enter Tryd.func22, Tryd.ntmps22
    go_wp2
    go_ret3
    exact ⟨by first | rfl | (simp; done) | (simp [*]; done), by repeat (first | exact Drawn0.refl _ | apply Drawn0.step)⟩
  · rw [if_neg c2] at H
    have c2b0 : (a0 == 1) = false := beq_eq_false_iff_ne.mpr c2; have c2b1 : (a0 != 1) = true := bne_iff_ne.mpr c2; have HC3 := Aside0.mk H; clear H
    go_enter Tryd.func22, Tryd.ntmps22
    go_upto_if 8 with (fail)
    go_cut [8] (fun v8 wc => ∃ (kq : Nat) (x8_2 : Bool), v8 = .bool x8_2 ∧ Aside0 (spec_l9Has.j0 kq a0 x8_2 = some (r1, r2, r3)) ∧ Aside0 (kq ≤ k) ∧ Drawn0 w wc)
    case first =>
      have H := HC3.out; clear HC3; by_cases c4 : a0 = 2
      · rw [if_pos c4] at H
        have c4b0 : (a0 == 2) = true := beq_iff_eq.mpr c4; have c4b1 : (a0 != 2) = false := bne_eq_false_iff_eq.mpr c4; clear c4
        (first | rw [c4b0] | (simp only [i64_w, i32_w]; rw [c4b0]) | skip)
        have H' := Aside0.mk H; clear H
        go_wp2
        go_meet
        case rel => exact ⟨_, ((a0 == 2)), (by first | rfl | (simp; done) | (simp [*]; done)), H', ⟨by first | omega | exact Nat.le_refl _⟩, by repeat (first | exact Drawn0.refl _ | apply Drawn0.step)⟩
      · rw [if_neg c4] at H
        have c4b0 : (a0 == 2) = false := beq_eq_false_iff_ne.mpr c4; have c4b1 : (a0 != 2) = true := bne_iff_ne.mpr c4
        (first | rw [c4b0] | (simp only [i64_w, i32_w]; rw [c4b0]) | skip)
        have H' := Aside0.mk H; clear H
        go_wp2
        go_meet
        case rel => exact ⟨_, ((a0 == 11)), (by first | rfl | (simp; done) | (simp [*]; done)), H', ⟨by first | omega | exact Nat.le_refl _⟩, by repeat (first | exact Drawn0.refl _ | apply Drawn0.step)⟩
    case rest =>
      clear HC3
      try clear c2
      try clear c2b0
      try clear c2b1
      try clear p2
      try clear c4
      try clear c4b0
      try clear c4b1
      obtain ⟨kq, x8_2, rfl, HA, HJ2, ⟨mc2, rfl⟩⟩ := hcut
      cases kq with
      | zero => exact absurd HA.out (by simp [spec_l9Has.j0])
      | succ kj2 =>
        have H := HA.out; clear HA; simp only [spec_l9Has.j0] at H; by_cases c5 : x8_2 = true
        · subst c5
          have H1 : (some (false, true, false)) = some (r1, r2, r3) := by rw [if_pos rfl] at H; exact H
          clear H; have H := H1; clear H1; simp only [Option.some.injEq, Prod.mk.injEq] at H; obtain ⟨rfl, rfl, rfl⟩ := H
          go_wp2
          go_ret3
          exact ⟨by first | rfl | (simp; done) | (simp [*]; done), by repeat (first | exact Drawn0.refl _ | apply Drawn0.step)⟩
        · replace c5 := Bool.eq_false_iff.mpr c5
          subst c5; have H1 : (if a0 = 4 then (some (true, false, true)) else (if a0 = 5 then (some (true, true, true)) else (if a0 = 6 then (spec_l9Has.j1 kj2 a0 (a0 == 6)) else (spec_l9Has.j1 kj2 a0 (a0 == 7))))) = some (r1, r2, r3) := by rw [if_neg (show ¬ (false = true) by decide)] at H; exact H
          clear H; have H := H1; clear H1; by_cases c6 : a0 = 4
          · rw [if_pos c6] at H
            have c6b0 : (a0 == 4) = true := beq_iff_eq.mpr c6; have c6b1 : (a0 != 4) = false := bne_eq_false_iff_eq.mpr c6; clear c6; simp only [Option.some.injEq, Prod.mk.injEq] at H; obtain ⟨rfl, rfl, rfl⟩ := H
            go_wp2
            go_ret3
            exact ⟨by first | rfl | (simp; done) | (simp [*]; done), by repeat (first | exact Drawn0.refl _ | apply Drawn0.step)⟩
          · rw [if_neg c6] at H
            have c6b0 : (a0 == 4) = false := beq_eq_false_iff_ne.mpr c6; have c6b1 : (a0 != 4) = true := bne_iff_ne.mpr c6; by_cases c7 : a0 = 5
            · rw [if_pos c7] at H
              have c7b0 : (a0 == 5) = true := beq_iff_eq.mpr c7; have c7b1 : (a0 != 5) = false := bne_eq_false_iff_eq.mpr c7; clear c7; simp only [Option.some.injEq, Prod.mk.injEq] at H; obtain ⟨rfl, rfl, rfl⟩ := H
              go_wp2
              go_ret3
              exact ⟨by first | rfl | (simp; done) | (simp [*]; done), by repeat (first | exact Drawn0.refl _ | apply Drawn0.step)⟩
            · rw [if_neg c7] at H
              have c7b0 : (a0 == 5) = false := beq_eq_false_iff_ne.mpr c7; have c7b1 : (a0 != 5) = true := bne_iff_ne.mpr c7; have HC8 := Aside0.mk H; clear H
              go_upto_if 15 with (fail)
              go_cut [15] (fun v15 wc => ∃ (kq : Nat) (x15_7 : Bool), v15 = .bool x15_7 ∧ Aside0 (spec_l9Has.j1 kq a0 x15_7 = some (r1, r2, r3)) ∧ Aside0 (kq ≤ kj2) ∧ Drawn0 w wc)
              case first =>
                have H := HC8.out; clear HC8; by_cases c9 : a0 = 6
                · rw [if_pos c9] at H
                  have c9b0 : (a0 == 6) = true := beq_iff_eq.mpr c9; have c9b1 : (a0 != 6) = false := bne_eq_false_iff_eq.mpr c9; clear c9
                  (first | rw [c9b0] | (simp only [i64_w, i32_w]; rw [c9b0]) | skip)
                  have H' := Aside0.mk H; clear H
                  go_wp2
                  go_meet
                  case rel => exact ⟨_, ((a0 == 6)), (by first | rfl | (simp; done) | (simp [*]; done)), H', ⟨by have := HJ2.out; first | omega | exact Nat.le_refl _⟩, by repeat (first | exact Drawn0.refl _ | apply Drawn0.step)⟩
                · rw [if_neg c9] at H
                  have c9b0 : (a0 == 6) = false := beq_eq_false_iff_ne.mpr c9; have c9b1 : (a0 != 6) = true := bne_iff_ne.mpr c9
                  (first | rw [c9b0] | (simp only [i64_w, i32_w]; rw [c9b0]) | skip)
                  have H' := Aside0.mk H; clear H
                  go_wp2
                  go_meet
                  case rel => exact ⟨_, ((a0 == 7)), (by first | rfl | (simp; done) | (simp [*]; done)), H', ⟨by have := HJ2.out; first | omega | exact Nat.le_refl _⟩, by repeat (first | exact Drawn0.refl _ | apply Drawn0.step)⟩
              case rest =>
                clear HC8
                try clear c2
                try clear c2b0
                try clear c2b1
                try clear p2
                try clear c4
                try clear c4b0
                try clear c4b1
                try clear c5
                try clear c6
                try clear c6b0
                try clear c6b1
                try clear c7
                try clear c7b0
                try clear c7b1
                try clear c9
                try clear c9b0
                try clear c9b1
                try clear p2
                obtain ⟨kq, x15_7, rfl, HA, HJ7, ⟨mc7, rfl⟩⟩ := hcut
                cases kq with
                | zero => exact absurd HA.out (by simp [spec_l9Has.j1])
                | succ kj7 =>
                  have H := HA.out; clear HA; simp only [spec_l9Has.j1] at H; by_cases c10 : x15_7 = true
                  · subst c10
                    have H1 : (some (true, false, true)) = some (r1, r2, r3) := by rw [if_pos rfl] at H; exact H
                    clear H; have H := H1; clear H1; simp only [Option.some.injEq, Prod.mk.injEq] at H; obtain ⟨rfl, rfl, rfl⟩ := H
                    go_wp2
                    go_ret3
                    exact ⟨by first | rfl | (simp; done) | (simp [*]; done), by repeat (first | exact Drawn0.refl _ | apply Drawn0.step)⟩
                  · replace c10 := Bool.eq_false_iff.mpr c10
                    subst c10; have H1 : (if a0 = 8 then (some (true, false, false)) else (if a0 = 9 then (some (true, false, false)) else (some (false, false, false)))) = some (r1, r2, r3) := by rw [if_neg (show ¬ (false = true) by decide)] at H; exact H
                    clear H; have H := H1; clear H1; by_cases c11 : a0 = 8
                    · rw [if_pos c11] at H
                      have c11b0 : (a0 == 8) = true := beq_iff_eq.mpr c11; have c11b1 : (a0 != 8) = false := bne_eq_false_iff_eq.mpr c11; clear c11; simp only [Option.some.injEq, Prod.mk.injEq] at H; obtain ⟨rfl, rfl, rfl⟩ := H
                      go_wp2
                      go_ret3
                      exact ⟨by first | rfl | (simp; done) | (simp [*]; done), by repeat (first | exact Drawn0.refl _ | apply Drawn0.step)⟩
                    · rw [if_neg c11] at H
                      have c11b0 : (a0 == 8) = false := beq_eq_false_iff_ne.mpr c11; have c11b1 : (a0 != 8) = true := bne_iff_ne.mpr c11; by_cases c12 : a0 = 9
                      · rw [if_pos c12] at H
                        have c12b0 : (a0 == 9) = true := beq_iff_eq.mpr c12; have c12b1 : (a0 != 9) = false := bne_eq_false_iff_eq.mpr c12; clear c12; simp only [Option.some.injEq, Prod.mk.injEq] at H; obtain ⟨rfl, rfl, rfl⟩ := H
                        go_wp2
                        go_ret3
                        exact ⟨by first | rfl | (simp; done) | (simp [*]; done), by repeat (first | exact Drawn0.refl _ | apply Drawn0.step)⟩
                      · rw [if_neg c12] at H
                        have c12b0 : (a0 == 9) = false := beq_eq_false_iff_ne.mpr c12; have c12b1 : (a0 != 9) = true := bne_iff_ne.mpr c12; simp only [Option.some.injEq, Prod.mk.injEq] at H; obtain ⟨rfl, rfl, rfl⟩ := H
                        go_wp2
                        go_ret3
                        exact ⟨by first | rfl | (simp; done) | (simp [*]; done), by repeat (first | exact Drawn0.refl _ | apply Drawn0.step)⟩
end Go.Proofs.YtbhnjglfjhfljaaDoor.P
namespace Go.Proofs.YtbhnjglfjhfljaaDoor.P
open Go.RowKit Go.Proofs.YtbhnjglfjhfljaaDoorW.PrintWords Go.Proofs.YtbhnjglfjhfljaaDoorW.PrintLast Go.Proofs.YtbhnjglfjhfljaaDoorW.PrintMore
attribute [local go_sem] max2_int min2_int max_two min_two max_three min_three max_four min_four   -- for this text's walks alone
set_option linter.unusedVariables false
set_option linter.unusedSimpArgs false
def spec_l9Words.f  : Option (List ByteArray) := some (([(⟨#[]⟩ : ByteArray), (⟨#[115, 112, 97, 99, 101]⟩ : ByteArray), (⟨#[108, 105, 109, 105, 116]⟩ : ByteArray), (⟨#[99, 108, 111, 115, 101]⟩ : ByteArray), (⟨#[112, 117, 116]⟩ : ByteArray), (⟨#[115, 101, 116]⟩ : ByteArray), (⟨#[109, 97, 114, 107]⟩ : ByteArray), (⟨#[117, 110, 109, 97, 114, 107]⟩ : ByteArray), (⟨#[100, 114, 111, 112]⟩ : ByteArray), (⟨#[103, 101, 116]⟩ : ByteArray), (⟨#[108, 105, 115, 116]⟩ : ByteArray), (⟨#[119, 97, 116, 99, 104]⟩ : ByteArray), (⟨#[115, 116, 101, 112]⟩ : ByteArray)] : List ByteArray))
set_option maxHeartbeats 8000000 in
set_option maxRecDepth 100000 in
theorem spec_l9Words.calls  (r : List ByteArray) (w : World) (h : spec_l9Words.f  = some r) :
    Calls Tryd.prog 21 #[] w fun e w' => ∃ v0_ : Value, e = .returned (v0_) ∧ Kd.R Kd.string 9 w' w.heap.size (fun _ => True) v0_ r ∧ Below w.heap.size w w' := by
  have HB := Aside0.mk (Below.refl w.heap.size w); have H : (some (([(⟨#[]⟩ : ByteArray), (⟨#[115, 112, 97, 99, 101]⟩ : ByteArray), (⟨#[108, 105, 109, 105, 116]⟩ : ByteArray), (⟨#[99, 108, 111, 115, 101]⟩ : ByteArray), (⟨#[112, 117, 116]⟩ : ByteArray), (⟨#[115, 101, 116]⟩ : ByteArray), (⟨#[109, 97, 114, 107]⟩ : ByteArray), (⟨#[117, 110, 109, 97, 114, 107]⟩ : ByteArray), (⟨#[100, 114, 111, 112]⟩ : ByteArray), (⟨#[103, 101, 116]⟩ : ByteArray), (⟨#[108, 105, 115, 116]⟩ : ByteArray), (⟨#[119, 97, 116, 99, 104]⟩ : ByteArray), (⟨#[115, 116, 101, 112]⟩ : ByteArray)] : List ByteArray))) = some r := h; clear h; obtain ⟨y121, hy121⟩ : ∃ y_ : List ByteArray, y_ = (([(⟨#[]⟩ : ByteArray), (⟨#[115, 112, 97, 99, 101]⟩ : ByteArray), (⟨#[108, 105, 109, 105, 116]⟩ : ByteArray), (⟨#[99, 108, 111, 115, 101]⟩ : ByteArray), (⟨#[112, 117, 116]⟩ : ByteArray), (⟨#[115, 101, 116]⟩ : ByteArray), (⟨#[109, 97, 114, 107]⟩ : ByteArray), (⟨#[117, 110, 109, 97, 114, 107]⟩ : ByteArray), (⟨#[100, 114, 111, 112]⟩ : ByteArray), (⟨#[103, 101, 116]⟩ : ByteArray), (⟨#[108, 105, 115, 116]⟩ : ByteArray), (⟨#[119, 97, 116, 99, 104]⟩ : ByteArray), (⟨#[115, 116, 101, 112]⟩ : ByteArray)] : List ByteArray)) := ⟨_, rfl⟩; replace H : (some y121) = some r := by first | (rw [hy121]; with_reducible exact H) | (have H2_ := (Option.bind_some _ _).symm.trans H; rw [hy121]; with_reducible exact H2_) | (have H2_ := (Option.bind_some _ _).symm.trans H; with_reducible exact H2_) | with_reducible exact H | (rw [hy121]; exact H) | exact H
  have Ny121 := Aside0.mk hy121; clear hy121; obtain rfl := Option.some.inj H
  go_enter Tryd.func21, Tryd.ntmps21
  go_wp2_with (first | ((with_reducible refine gate_dst (N := 1) rfl ?_); refine Kd.R_lit Kd.string _ 9 ?hg (N := 1) ?hd (xs := ([(⟨#[]⟩ : ByteArray), (⟨#[115, 112, 97, 99, 101]⟩ : ByteArray), (⟨#[108, 105, 109, 105, 116]⟩ : ByteArray), (⟨#[99, 108, 111, 115, 101]⟩ : ByteArray), (⟨#[112, 117, 116]⟩ : ByteArray), (⟨#[115, 101, 116]⟩ : ByteArray), (⟨#[109, 97, 114, 107]⟩ : ByteArray), (⟨#[117, 110, 109, 97, 114, 107]⟩ : ByteArray), (⟨#[100, 114, 111, 112]⟩ : ByteArray), (⟨#[103, 101, 116]⟩ : ByteArray), (⟨#[108, 105, 115, 116]⟩ : ByteArray), (⟨#[119, 97, 116, 99, 104]⟩ : ByteArray), (⟨#[115, 116, 101, 112]⟩ : ByteArray)] : List ByteArray)) (inner := [.string (⟨#[]⟩ : ByteArray), .string (⟨#[115, 112, 97, 99, 101]⟩ : ByteArray), .string (⟨#[108, 105, 109, 105, 116]⟩ : ByteArray), .string (⟨#[99, 108, 111, 115, 101]⟩ : ByteArray), .string (⟨#[112, 117, 116]⟩ : ByteArray), .string (⟨#[115, 101, 116]⟩ : ByteArray), .string (⟨#[109, 97, 114, 107]⟩ : ByteArray), .string (⟨#[117, 110, 109, 97, 114, 107]⟩ : ByteArray), .string (⟨#[100, 114, 111, 112]⟩ : ByteArray), .string (⟨#[103, 101, 116]⟩ : ByteArray), .string (⟨#[108, 105, 115, 116]⟩ : ByteArray), .string (⟨#[119, 97, 116, 99, 104]⟩ : ByteArray), .string (⟨#[115, 116, 101, 112]⟩ : ByteArray)]) (ok := fun _ => True) (okp := fun _ => True) ?hr ?hp (fun _ hk => hk) trivial (Below.refl _ _) (Nat.le_refl _) (by simp) ?_; (case hd => rfl); (case hg => rfl); (case hr => first | (go_simp; done) | (go_simp; rfl)); (case hp => exact (Reps.one (show Kd.M Kd.string _ _ _ (⟨#[]⟩ : ByteArray) [.string (⟨#[]⟩ : ByteArray)] from rfl) (Reps.one (show Kd.M Kd.string _ _ _ (⟨#[115, 112, 97, 99, 101]⟩ : ByteArray) [.string (⟨#[115, 112, 97, 99, 101]⟩ : ByteArray)] from rfl) (Reps.one (show Kd.M Kd.string _ _ _ (⟨#[108, 105, 109, 105, 116]⟩ : ByteArray) [.string (⟨#[108, 105, 109, 105, 116]⟩ : ByteArray)] from rfl) (Reps.one (show Kd.M Kd.string _ _ _ (⟨#[99, 108, 111, 115, 101]⟩ : ByteArray) [.string (⟨#[99, 108, 111, 115, 101]⟩ : ByteArray)] from rfl) (Reps.one (show Kd.M Kd.string _ _ _ (⟨#[112, 117, 116]⟩ : ByteArray) [.string (⟨#[112, 117, 116]⟩ : ByteArray)] from rfl) (Reps.one (show Kd.M Kd.string _ _ _ (⟨#[115, 101, 116]⟩ : ByteArray) [.string (⟨#[115, 101, 116]⟩ : ByteArray)] from rfl) (Reps.one (show Kd.M Kd.string _ _ _ (⟨#[109, 97, 114, 107]⟩ : ByteArray) [.string (⟨#[109, 97, 114, 107]⟩ : ByteArray)] from rfl) (Reps.one (show Kd.M Kd.string _ _ _ (⟨#[117, 110, 109, 97, 114, 107]⟩ : ByteArray) [.string (⟨#[117, 110, 109, 97, 114, 107]⟩ : ByteArray)] from rfl) (Reps.one (show Kd.M Kd.string _ _ _ (⟨#[100, 114, 111, 112]⟩ : ByteArray) [.string (⟨#[100, 114, 111, 112]⟩ : ByteArray)] from rfl) (Reps.one (show Kd.M Kd.string _ _ _ (⟨#[103, 101, 116]⟩ : ByteArray) [.string (⟨#[103, 101, 116]⟩ : ByteArray)] from rfl) (Reps.one (show Kd.M Kd.string _ _ _ (⟨#[108, 105, 115, 116]⟩ : ByteArray) [.string (⟨#[108, 105, 115, 116]⟩ : ByteArray)] from rfl) (Reps.one (show Kd.M Kd.string _ _ _ (⟨#[119, 97, 116, 99, 104]⟩ : ByteArray) [.string (⟨#[119, 97, 116, 99, 104]⟩ : ByteArray)] from rfl) (Reps.one (show Kd.M Kd.string _ _ _ (⟨#[115, 116, 101, 112]⟩ : ByteArray) [.string (⟨#[115, 116, 101, 112]⟩ : ByteArray)] from rfl) (Reps.none _ _))))))))))))))); intro v122 w1 ho2 hb hg_ hnew_; clear hg_ hnew_; (first | rw [← Ny121.out] at ho2 | (simp only [Int.reduceToNat] at ho2; rw [← Ny121.out] at ho2)); have n0_ := Aside0.mk (Kd.R_lower ho2 (below_size (by repeat (first | (with_reducible first | exact HB.out | apply below_alloc | apply pw_below_drewN | apply below_drew1) | exact HB.out)))); have n1_ := Aside0.mk (below_step (by repeat (first | (with_reducible first | exact HB.out | apply below_alloc | apply pw_below_drewN | apply below_drew1) | exact HB.out)) hb); clear HB; have HO123 := n0_; have HB := n1_; clear n0_ n1_; clear hb ho2))
  go_ret
  exact ⟨_, by first | rfl | (simp [errW_none, errW_some] <;> rfl) | (simp [*, errW_none, errW_some] <;> rfl), by (with_reducible repeat (first | apply Kd.R_alloc | apply Kd.R_drewN | apply Kd.R_drew)); exact HO123.out, by repeat (first | (with_reducible first | exact HB.out | apply below_alloc | apply pw_below_drewN | apply below_drew1) | exact HB.out)⟩
end Go.Proofs.YtbhnjglfjhfljaaDoor.P
namespace Go.Proofs.YtbhnjglfjhfljaaDoor.P
open Go.RowKit Go.Proofs.YtbhnjglfjhfljaaDoorW.PrintWords Go.Proofs.YtbhnjglfjhfljaaDoorW.PrintLast Go.Proofs.YtbhnjglfjhfljaaDoorW.PrintMore
attribute [local go_sem] max2_int min2_int max_two min_two max_three min_three max_four min_four   -- for this text's walks alone
set_option linter.unusedVariables false
set_option linter.unusedSimpArgs false
def spec_l1In.f (a0 : Int) (a1 : Int) (a2 : Int) : Option (Bool) := if a0 ≥ a1 then (some (decide (a0 ≤ a2))) else (some false)
set_option maxHeartbeats 8000000 in
set_option maxRecDepth 100000 in
theorem spec_l1In.calls (a0 : Int) (a1 : Int) (a2 : Int) (r : Bool) (w : World) (h : spec_l1In.f a0 a1 a2 = some r) :
    Calls Tryd.prog 29 #[.int .i64 a0, .int .i64 a1, .int .i64 a2] w fun e w' => e = .returned (.bool r) ∧ Drawn0 w w' := by
  have H : (if a0 ≥ a1 then (some (decide (a0 ≤ a2))) else (some false)) = some r := h; clear h; by_cases c4 : a0 ≥ a1
  · rw [if_pos c4] at H
    have c4b0 : decide (a1 ≤ a0) = true := decide_eq_true c4; clear c4; obtain rfl := Option.some.inj H
    go_enter Tryd.func29, Tryd.ntmps29
    go_wp2
    go_ret
    exact ⟨by first | rfl | (simp; done) | (simp [*]; done), by repeat (first | exact Drawn0.refl _ | apply Drawn0.step)⟩
  · rw [if_neg c4] at H
    have c4b0 : decide (a1 ≤ a0) = false := decide_eq_false c4; clear c4; obtain rfl := Option.some.inj H
    go_enter Tryd.func29, Tryd.ntmps29
    go_wp2
    go_ret
    exact ⟨by first | rfl | (simp; done) | (simp [*]; done), by repeat (first | exact Drawn0.refl _ | apply Drawn0.step)⟩
end Go.Proofs.YtbhnjglfjhfljaaDoor.P
