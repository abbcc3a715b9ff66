/- Functions of the law FnExactReqWrite as_ plain Lean functions, and that the machine's calls do what they say. -/
import Derived.Test.YtgkgkpoeiojmeaaDoorZFnExactReqWriteW0
import Derived.Deep.Slices
import Derived.ChangeArms
import Derived.Test.YtgkgkpoeiojmeaaDoorProg
import Derived.Lib.LaidTab
import Derived.Lib.ItoaNum
import Derived.KernelRfl
import Derived.Below
import Derived.Deep.Draws
import Derived.Deep.AppendLies
import Derived.Maps.AppendAt
import Derived.OwnWalk
import Derived.Laws.BytesArg
import Derived.Laws.MakeOwn
import Derived.Laws.OwnMore
import Derived.Deep.OwnRows
import Derived.Tactics
import Derived.Lib.ConvBytes
import Derived.Laws.Slices
import Derived.WalkKit
import Derived.RowKit3
import Derived.Deep.LoopGhost
import Derived.Deep.QuietTactic
import Derived.BigQuiet
import Derived.WideLaws
import Derived.Deep.DeepCutAuto
import Derived.Deep.CutBlock
import Derived.Deep.RegionHeld3
import Derived.Laws.Rows
import Derived.Lib.AppendStr
import Derived.ArgAppend
import Derived.Laws.IdiomCopy
import Derived.OrdersHeld
import Derived.Laws.BitsLemmas
import Derived.RowKit
/- What an argument reads as_ is of the printed kind: whole numbers, bools, strings, slices, structs. -/
namespace Go.Proofs.YtgkgkpoeiojmeaaDoor.Opens
open Go.RowKit Go.Proofs.YtgkgkpoeiojmeaaDoorW.PrintWords Go.ChangeShapes Go.WideShapes
/-- Whatever of type t can be read is of the kind d, and good. -/
structure Opens {α : Type} (P : Program) (d : Kd α) (t : TypeId) (G : α → Prop) : Prop where
  out : ∀ {H : Type} {enc : TypeId × Value → H} {w : World} {base : Nat} {spare : Nat → Bool} {held : Bool} {fuel : Nat} {cs : List Value} {x : DataW H × List MemPlace}, DataW.trod enc P w base spare held fuel t cs = some x → ∃ a, d.K w a cs ∧ G a
section
variable {P : Program} {t : TypeId}
theorem opens_int {k : IntKind} (ht : P.underlying t = some (.int k)) : Opens P (Kd.int k) t (fun n => (Lit.int k n).wf = true) := ⟨fun h => by
  obtain ⟨n, rfl, _, hw⟩ := DataW.trod_int ht h
  exact ⟨n, rfl, hw⟩⟩
theorem opens_string (ht : P.underlying t = some .string) : Opens P Kd.string t (fun s => s.size ≤ 9223372036854775807) := ⟨fun h => by
  obtain ⟨s, rfl, _, hs⟩ := DataW.trod_string ht h
  exact ⟨s, rfl, hs⟩⟩
/-- Cells in line: the first part and what is left. -/
theorem seg_split {cs : List Value} {a n b : Nat} (h : a + n = b) : cs.drop a = (cs.drop a).take n ++ cs.drop b := by
  subst h; rw [← List.drop_drop, List.take_append_drop]
theorem seg_last {cs : List Value} {a n : Nat} (h : cs.length = a + n) : (cs.drop a).take n = cs.drop a := List.take_of_length_le (by simp; omega)
end
/-- A struct that came in. -/
theorem arg_agg {α : Type} {P : Program} {d : Kd α} {t : TypeId} {G : α → Prop} (ho : Opens P d t G) {H : Type} {enc : TypeId × Value → H} {w : World} {base : Nat} {spare : Nat → Bool} {held : Bool} {cs : Array Value} {dd : DataW H} {ps : List MemPlace}
    (h : DataW.Trod enc P w base spare held t (.agg cs) dd ps) : ∃ x : α, d.K w x cs.toList ∧ G x := by
  obtain ⟨n, hn⟩ := h
  exact ho.out hn
/-- Strings above: the other way round. -/
theorem bytesLess_not : ∀ a b : List UInt8, (!(Op.bytesLess a b || a == b)) = Op.bytesLess b a
  | [], [] => rfl
  | [], _ :: _ => rfl
  | _ :: _, [] => rfl
  | a :: x, b :: y => by
    have ih := bytesLess_not x y; simp only [Op.bytesLess, List.cons_beq_cons]; rcases Nat.lt_trichotomy a.toNat b.toNat with h | h | h
    · have h1 : (a < b) = True := by simp [UInt8.lt_iff_toNat_lt, h]
      have h2 : (b < a) = False := by simp [UInt8.lt_iff_toNat_lt]; omega
      have h3 : (b == a) = false := by rw [beq_eq_false_iff_ne]; rintro rfl; omega
      simp [h1, h2, h3]
    · obtain rfl := UInt8.toNat_inj.1 h
      simpa using ih
    · have h1 : (a < b) = False := by simp [UInt8.lt_iff_toNat_lt]; omega
      have h2 : (b < a) = True := by simp [UInt8.lt_iff_toNat_lt, h]
      have h3 : (a == b) = false := by rw [beq_eq_false_iff_ne]; rintro rfl; omega
      simp [h1, h2, h3]
@[go_sem] theorem string_gtr (t : TypeId) (a b : ByteArray) : binOp .gtr t (.string a) (.string b) = pure (.bool (Op.bytesLess b.toList a.toList)) := by rw [← bytesLess_not]; simp [binOp, Op.stringOp]
@[go_sem] theorem string_leq (t : TypeId) (a b : ByteArray) : binOp .leq t (.string a) (.string b) = pure (.bool !(Op.bytesLess b.toList a.toList)) := by rw [← bytesLess_not, Bool.not_not]; simp [binOp, Op.stringOp]
@[go_sem] theorem string_geq (t : TypeId) (a b : ByteArray) : binOp .geq t (.string a) (.string b) = pure (.bool !(Op.bytesLess a.toList b.toList)) := by simp [binOp, Op.stringOp]
end Go.Proofs.YtgkgkpoeiojmeaaDoor.Opens
/- The library's table of powers of ten, as_ the row lists it: what a call that writes a number in figures asks of its world. -/
namespace Go.Proofs.YtgkgkpoeiojmeaaDoor.P
open Go.RowKit Go.Proofs.YtgkgkpoeiojmeaaDoorW.PrintWords
def TabT (w : World) : Prop := Lib.TabIs Tryd.prog w "internal/strconv.uint64pow10" .u64 Lib.pow10Tab
theorem tabGlobal : Tryd.prog.globalNamed "internal/strconv.uint64pow10" = some 1 := by kernel_rfl
theorem TabT.below {w W : World} (h : TabT w) (hb : Below w.heap.size w W) : TabT W := by
  unfold TabT Lib.TabIs World.var? at *; rw [tabGlobal, Option.bind_some] at *
  cases hg : w.heap[1]? with
  | none => rw [hg] at h; cases h
  | some o =>
    have hlt : 1 < w.heap.size := (Array.getElem?_eq_some_iff.1 hg).1; rw [hb.block 1 hlt]
    exact h
theorem tabT_of {W : World} {rest : List (String × DataW Unit)} (h : laidMet Tryd.prog (("internal/strconv.uint64pow10", Lib.tabData .u64 Lib.pow10Tab) :: rest) W) : TabT W :=
  Lib.tabIs_of_head (g := 1) (t := 116) (e := 101) (n := 20) tabGlobal (by kernel_rfl) Tryd.underlying116 Tryd.underlying101 (by kernel_rfl) (by kernel_rfl) h
end Go.Proofs.YtgkgkpoeiojmeaaDoor.P
namespace Go.Proofs.YtgkgkpoeiojmeaaDoor.P
open Go.RowKit Go.Proofs.YtgkgkpoeiojmeaaDoorW.PrintWords Go.Proofs.YtgkgkpoeiojmeaaDoorW.PrintLast Go.Proofs.YtgkgkpoeiojmeaaDoorW.PrintMore
attribute [local go_sem] max2_int min2_int max_two min_two max_three min_three max_four min_four   -- for this text's walks alone
set_option linter.unusedVariables false
set_option linter.unusedSimpArgs false
def errW : Option Int → Value
  | none => .nilIface
  | some c => .iface 109 (.int .i64 c)
theorem errW_none : errW none = .nilIface := rfl
theorem errW_some (c : Int) : errW (some c) = .iface 109 (.int .i64 c) := rfl
structure S_laws_Req where
  f0 : Int
  f1 : ByteArray
  f2 : ByteArray
  f3 : Int
  f4 : ByteArray
def k39 : Kd S_laws_Req := Kd.iso (Kd.pair (Kd.int .i64) (Kd.pair Kd.string (Kd.pair Kd.string (Kd.pair (Kd.int .i64) Kd.string)))) (fun x : S_laws_Req => (x.f0, x.f1, x.f2, x.f3, x.f4))
theorem k39_open {w : World} {x : S_laws_Req} {cs : List Value} (h : k39.K w x cs) : cs = [.int .i64 x.f0, .string x.f1, .string x.f2, .int .i64 x.f3, .string x.f4] := by
  obtain ⟨_, _, rfl, rfl, ⟨_, _, rfl, rfl, ⟨_, _, rfl, rfl, ⟨_, _, rfl, rfl, rfl⟩⟩⟩⟩ := h
  exact rfl
/-- Good values of struct type 39 (laws_Req). -/
def Good_laws_Req (x : S_laws_Req) : Prop := ((Lit.int .i64 x.f0).wf = true) ∧ (x.f1.size ≤ 9223372036854775807) ∧ (x.f2.size ≤ 9223372036854775807) ∧ ((Lit.int .i64 x.f3).wf = true) ∧ (x.f4.size ≤ 9223372036854775807)
set_option maxRecDepth 100000 in
theorem opens39 : Opens.Opens Tryd.prog k39 39 Good_laws_Req := ⟨by
  intro H enc w base spare held fuel cs x h; obtain ⟨xs, n, _, _, hl, hlen, hf⟩ := DataW.trod_struct Tryd.underlying39 h; have hc : cs.length = 5 := hl.trans (by kernel_rfl); have h0 := hf 0 _ rfl; rw [List.getElem?_eq_getElem (by rw [hlen]; first | exact of_decide_eq_true (by kernel_rfl) | decide)] at h0; obtain ⟨a0, k0, g0⟩ := (Opens.opens_int Tryd.underlying3).out h0; have k0 : ((Kd.int .i64)).K w a0 ((cs.drop 0).take 1) := k0; have h1 := hf 1 _ rfl; rw [List.getElem?_eq_getElem (by rw [hlen]; first | exact of_decide_eq_true (by kernel_rfl) | decide)] at h1; obtain ⟨a1, k1, g1⟩ := (Opens.opens_string Tryd.underlying9).out h1; have k1 : (Kd.string).K w a1 ((cs.drop 1).take 1) := k1; have h2 := hf 2 _ rfl; rw [List.getElem?_eq_getElem (by rw [hlen]; first | exact of_decide_eq_true (by kernel_rfl) | decide)] at h2; obtain ⟨a2, k2, g2⟩ := (Opens.opens_string Tryd.underlying9).out h2; have k2 : (Kd.string).K w a2 ((cs.drop 2).take 1) := k2; have h3 := hf 3 _ rfl; rw [List.getElem?_eq_getElem (by rw [hlen]; first | exact of_decide_eq_true (by kernel_rfl) | decide)] at h3; obtain ⟨a3, k3, g3⟩ := (Opens.opens_int Tryd.underlying3).out h3; have k3 : ((Kd.int .i64)).K w a3 ((cs.drop 3).take 1) := k3; have h4 := hf 4 _ rfl; rw [List.getElem?_eq_getElem (by rw [hlen]; first | exact of_decide_eq_true (by kernel_rfl) | decide)] at h4; obtain ⟨a4, k4, g4⟩ := (Opens.opens_string Tryd.underlying9).out h4; have k4 : (Kd.string).K w a4 ((cs.drop 4).take 1) := k4; have q4 : (Kd.string).K w a4 (cs.drop 4) := by rw [Opens.seg_last (n := 1) (by omega)] at k4; exact k4
  exact ⟨⟨a0, a1, a2, a3, a4⟩, ⟨(cs.drop 0).take 1, cs.drop 1, Opens.seg_split (a := 0) (n := 1) rfl, k0, ⟨(cs.drop 1).take 1, cs.drop 2, Opens.seg_split (a := 1) (n := 1) rfl, k1, ⟨(cs.drop 2).take 1, cs.drop 3, Opens.seg_split (a := 2) (n := 1) rfl, k2, ⟨(cs.drop 3).take 1, cs.drop 4, Opens.seg_split (a := 3) (n := 1) rfl, k3, q4⟩⟩⟩⟩, g0, g1, g2, g3, g4⟩⟩
end Go.Proofs.YtgkgkpoeiojmeaaDoor.P
namespace Go.Proofs.YtgkgkpoeiojmeaaDoor.P
open Go.RowKit Go.Proofs.YtgkgkpoeiojmeaaDoorW.PrintWords Go.Proofs.YtgkgkpoeiojmeaaDoorW.PrintLast Go.Proofs.YtgkgkpoeiojmeaaDoorW.PrintMore
attribute [local go_sem] max2_int min2_int max_two min_two max_three min_three max_four min_four   -- for this text's walks alone
set_option linter.unusedVariables false
set_option linter.unusedSimpArgs false
def laws_szReq.f (a0_0 : Int) (a0_1 : ByteArray) (a0_2 : ByteArray) (a0_3 : Int) (a0_4 : ByteArray) (a1 : Int) : Option (Int) := if (wrap64 (a1 - (a0_1.size : Int))) < 0 then (some (-1)) else (if (wrap64 ((wrap64 (a1 - (a0_1.size : Int))) - (a0_2.size : Int))) < 0 then (some (-1)) else (if (wrap64 ((wrap64 ((wrap64 (a1 - (a0_1.size : Int))) - (a0_2.size : Int))) - (a0_4.size : Int))) < 0 then (some (-1)) else (some (wrap64 ((wrap64 ((wrap64 (a1 - (a0_1.size : Int))) - (a0_2.size : Int))) - (a0_4.size : Int))))))
set_option maxHeartbeats 8000000 in
set_option maxRecDepth 100000 in
theorem laws_szReq.calls (a0_0 : Int) (a0_1 : ByteArray) (a0_2 : ByteArray) (a0_3 : Int) (a0_4 : ByteArray) (a1 : Int) (r : Int) (w : World) (h : laws_szReq.f a0_0 a0_1 a0_2 a0_3 a0_4 a1 = some r) :
    Calls Tryd.prog 26 #[.agg #[.int .i64 a0_0, .string a0_1, .string a0_2, .int .i64 a0_3, .string a0_4], .int .i64 a1] w fun e w' => e = .returned (.int .i64 r) ∧ Below w.heap.size w w' := by
  have hu39 := Tryd.underlying39; have HB := Aside0.mk (Below.refl w.heap.size w); have H : (if (wrap64 (a1 - (a0_1.size : Int))) < 0 then (some (-1)) else (if (wrap64 ((wrap64 (a1 - (a0_1.size : Int))) - (a0_2.size : Int))) < 0 then (some (-1)) else (if (wrap64 ((wrap64 ((wrap64 (a1 - (a0_1.size : Int))) - (a0_2.size : Int))) - (a0_4.size : Int))) < 0 then (some (-1)) else (some (wrap64 ((wrap64 ((wrap64 (a1 - (a0_1.size : Int))) - (a0_2.size : Int))) - (a0_4.size : Int))))))) = some r := h; clear h; by_cases c3 : (wrap64 (a1 - (a0_1.size : Int))) < 0
  · rw [if_pos c3] at H
    have c3b0 : decide ((wrap64 (a1 - (a0_1.size : Int))) < 0) = true := decide_eq_true c3; clear c3; obtain rfl := Option.some.inj H
    go_enter Tryd.func26, Tryd.ntmps26
    go_wp2_with (first | ((with_reducible refine gate_dst (N := 2) rfl ?_); refine box_event ?hg (N := 2) ?hd (cs := #[.int .i64 a0_0, .string a0_1, .string a0_2, .int .i64 a0_3, .string a0_4]) (t := 39) ?hr ?_; (case hd => rfl); (case hg => rfl); (case hr => first | (go_simp; done) | (go_simp; rfl)); intro gb214 hg w4 hbox hb; have n0_ := Aside0.mk (below_step (by repeat (first | (with_reducible first | exact HB.out | apply below_alloc | apply pw_below_drewN | apply below_drew1) | exact HB.out)) hb); have n1_ := Aside0.mk (hbox); have n2_ := Aside0.mk ((by rw [hg]; exact (below_size (by repeat (first | (with_reducible first | exact HB.out | apply below_alloc | apply pw_below_drewN | apply below_drew1) | exact HB.out))) : w.heap.size ≤ gb214)); have n3_ := Aside0.mk ((by rw [hg]; exact (below_size (by repeat (first | (with_reducible first | exact HB.out | apply below_alloc | apply pw_below_drewN | apply below_drew1) | exact HB.out))) : w.heap.size ≤ gb214)); clear HB; have HB := n0_; have BK214 := n1_; have GW214 := n2_; have GE214 := n3_; clear n0_ n1_ n2_ n3_; clear hb hbox hg; have hcz5_0 : w4.cell? ⟨gb214, 0, none⟩ = some (.int .i64 a0_0) := (blk_cell BK214.out 0).trans rfl; have hcz5_1 : w4.cell? ⟨gb214, 1, none⟩ = some (.string a0_1) := (blk_cell BK214.out 1).trans rfl; have hcz5_2 : w4.cell? ⟨gb214, 2, none⟩ = some (.string a0_2) := (blk_cell BK214.out 2).trans rfl; have hcz5_3 : w4.cell? ⟨gb214, 3, none⟩ = some (.int .i64 a0_3) := (blk_cell BK214.out 3).trans rfl; have hcz5_4 : w4.cell? ⟨gb214, 4, none⟩ = some (.string a0_4) := (blk_cell BK214.out 4).trans rfl; have hfz5_0 := blk_frozen BK214.out 0; have hfz5_1 := blk_frozen BK214.out 1; have hfz5_2 := blk_frozen BK214.out 2; have hfz5_3 := blk_frozen BK214.out 3; have hfz5_4 := blk_frozen BK214.out 4))
    go_ret
    exact ⟨by first | rfl | (simp [errW_none, errW_some] <;> rfl) | (simp [*, errW_none, errW_some] <;> rfl), by repeat (first | (with_reducible first | exact HB.out | apply below_alloc | apply pw_below_drewN | apply below_drew1 | refine below_set ?_ GE214.out) | exact HB.out)⟩
  · rw [if_neg c3] at H
    have c3b0 : decide ((wrap64 (a1 - (a0_1.size : Int))) < 0) = false := decide_eq_false c3; clear c3; by_cases c6 : (wrap64 ((wrap64 (a1 - (a0_1.size : Int))) - (a0_2.size : Int))) < 0
    · rw [if_pos c6] at H
      have c6b0 : decide ((wrap64 ((wrap64 (a1 - (a0_1.size : Int))) - (a0_2.size : Int))) < 0) = true := decide_eq_true c6; clear c6; obtain rfl := Option.some.inj H
      go_enter Tryd.func26, Tryd.ntmps26
      go_wp2_with (first | ((with_reducible refine gate_dst (N := 2) rfl ?_); refine box_event ?hg (N := 2) ?hd (cs := #[.int .i64 a0_0, .string a0_1, .string a0_2, .int .i64 a0_3, .string a0_4]) (t := 39) ?hr ?_; (case hd => rfl); (case hg => rfl); (case hr => first | (go_simp; done) | (go_simp; rfl)); intro gb214 hg w7 hbox hb; have n0_ := Aside0.mk (below_step (by repeat (first | (with_reducible first | exact HB.out | apply below_alloc | apply pw_below_drewN | apply below_drew1) | exact HB.out)) hb); have n1_ := Aside0.mk (hbox); have n2_ := Aside0.mk ((by rw [hg]; exact (below_size (by repeat (first | (with_reducible first | exact HB.out | apply below_alloc | apply pw_below_drewN | apply below_drew1) | exact HB.out))) : w.heap.size ≤ gb214)); have n3_ := Aside0.mk ((by rw [hg]; exact (below_size (by repeat (first | (with_reducible first | exact HB.out | apply below_alloc | apply pw_below_drewN | apply below_drew1) | exact HB.out))) : w.heap.size ≤ gb214)); clear HB; have HB := n0_; have BK214 := n1_; have GW214 := n2_; have GE214 := n3_; clear n0_ n1_ n2_ n3_; clear hb hbox hg; have hcz8_0 : w7.cell? ⟨gb214, 0, none⟩ = some (.int .i64 a0_0) := (blk_cell BK214.out 0).trans rfl; have hcz8_1 : w7.cell? ⟨gb214, 1, none⟩ = some (.string a0_1) := (blk_cell BK214.out 1).trans rfl; have hcz8_2 : w7.cell? ⟨gb214, 2, none⟩ = some (.string a0_2) := (blk_cell BK214.out 2).trans rfl; have hcz8_3 : w7.cell? ⟨gb214, 3, none⟩ = some (.int .i64 a0_3) := (blk_cell BK214.out 3).trans rfl; have hcz8_4 : w7.cell? ⟨gb214, 4, none⟩ = some (.string a0_4) := (blk_cell BK214.out 4).trans rfl; have hfz8_0 := blk_frozen BK214.out 0; have hfz8_1 := blk_frozen BK214.out 1; have hfz8_2 := blk_frozen BK214.out 2; have hfz8_3 := blk_frozen BK214.out 3; have hfz8_4 := blk_frozen BK214.out 4))
      go_ret
      exact ⟨by first | rfl | (simp [errW_none, errW_some] <;> rfl) | (simp [*, errW_none, errW_some] <;> rfl), by repeat (first | (with_reducible first | exact HB.out | apply below_alloc | apply pw_below_drewN | apply below_drew1 | refine below_set ?_ GE214.out) | exact HB.out)⟩
    · rw [if_neg c6] at H
      have c6b0 : decide ((wrap64 ((wrap64 (a1 - (a0_1.size : Int))) - (a0_2.size : Int))) < 0) = false := decide_eq_false c6; clear c6; by_cases c9 : (wrap64 ((wrap64 ((wrap64 (a1 - (a0_1.size : Int))) - (a0_2.size : Int))) - (a0_4.size : Int))) < 0
      · rw [if_pos c9] at H
        have c9b0 : decide ((wrap64 ((wrap64 ((wrap64 (a1 - (a0_1.size : Int))) - (a0_2.size : Int))) - (a0_4.size : Int))) < 0) = true := decide_eq_true c9; clear c9; obtain rfl := Option.some.inj H
        go_enter Tryd.func26, Tryd.ntmps26
        go_wp2_with (first | ((with_reducible refine gate_dst (N := 2) rfl ?_); refine box_event ?hg (N := 2) ?hd (cs := #[.int .i64 a0_0, .string a0_1, .string a0_2, .int .i64 a0_3, .string a0_4]) (t := 39) ?hr ?_; (case hd => rfl); (case hg => rfl); (case hr => first | (go_simp; done) | (go_simp; rfl)); intro gb214 hg w10 hbox hb; have n0_ := Aside0.mk (below_step (by repeat (first | (with_reducible first | exact HB.out | apply below_alloc | apply pw_below_drewN | apply below_drew1) | exact HB.out)) hb); have n1_ := Aside0.mk (hbox); have n2_ := Aside0.mk ((by rw [hg]; exact (below_size (by repeat (first | (with_reducible first | exact HB.out | apply below_alloc | apply pw_below_drewN | apply below_drew1) | exact HB.out))) : w.heap.size ≤ gb214)); have n3_ := Aside0.mk ((by rw [hg]; exact (below_size (by repeat (first | (with_reducible first | exact HB.out | apply below_alloc | apply pw_below_drewN | apply below_drew1) | exact HB.out))) : w.heap.size ≤ gb214)); clear HB; have HB := n0_; have BK214 := n1_; have GW214 := n2_; have GE214 := n3_; clear n0_ n1_ n2_ n3_; clear hb hbox hg; have hcz11_0 : w10.cell? ⟨gb214, 0, none⟩ = some (.int .i64 a0_0) := (blk_cell BK214.out 0).trans rfl; have hcz11_1 : w10.cell? ⟨gb214, 1, none⟩ = some (.string a0_1) := (blk_cell BK214.out 1).trans rfl; have hcz11_2 : w10.cell? ⟨gb214, 2, none⟩ = some (.string a0_2) := (blk_cell BK214.out 2).trans rfl; have hcz11_3 : w10.cell? ⟨gb214, 3, none⟩ = some (.int .i64 a0_3) := (blk_cell BK214.out 3).trans rfl; have hcz11_4 : w10.cell? ⟨gb214, 4, none⟩ = some (.string a0_4) := (blk_cell BK214.out 4).trans rfl; have hfz11_0 := blk_frozen BK214.out 0; have hfz11_1 := blk_frozen BK214.out 1; have hfz11_2 := blk_frozen BK214.out 2; have hfz11_3 := blk_frozen BK214.out 3; have hfz11_4 := blk_frozen BK214.out 4))
        go_ret
        exact ⟨by first | rfl | (simp [errW_none, errW_some] <;> rfl) | (simp [*, errW_none, errW_some] <;> rfl), by repeat (first | (with_reducible first | exact HB.out | apply below_alloc | apply pw_below_drewN | apply below_drew1 | refine below_set ?_ GE214.out) | exact HB.out)⟩
      · rw [if_neg c9] at H
        have c9b0 : decide ((wrap64 ((wrap64 ((wrap64 (a1 - (a0_1.size : Int))) - (a0_2.size : Int))) - (a0_4.size : Int))) < 0) = false := decide_eq_false c9; clear c9; obtain rfl := Option.some.inj H
        go_enter Tryd.func26, Tryd.ntmps26
        go_wp2_with (first | ((with_reducible refine gate_dst (N := 2) rfl ?_); refine box_event ?hg (N := 2) ?hd (cs := #[.int .i64 a0_0, .string a0_1, .string a0_2, .int .i64 a0_3, .string a0_4]) (t := 39) ?hr ?_; (case hd => rfl); (case hg => rfl); (case hr => first | (go_simp; done) | (go_simp; rfl)); intro gb214 hg w12 hbox hb; have n0_ := Aside0.mk (below_step (by repeat (first | (with_reducible first | exact HB.out | apply below_alloc | apply pw_below_drewN | apply below_drew1) | exact HB.out)) hb); have n1_ := Aside0.mk (hbox); have n2_ := Aside0.mk ((by rw [hg]; exact (below_size (by repeat (first | (with_reducible first | exact HB.out | apply below_alloc | apply pw_below_drewN | apply below_drew1) | exact HB.out))) : w.heap.size ≤ gb214)); have n3_ := Aside0.mk ((by rw [hg]; exact (below_size (by repeat (first | (with_reducible first | exact HB.out | apply below_alloc | apply pw_below_drewN | apply below_drew1) | exact HB.out))) : w.heap.size ≤ gb214)); clear HB; have HB := n0_; have BK214 := n1_; have GW214 := n2_; have GE214 := n3_; clear n0_ n1_ n2_ n3_; clear hb hbox hg; have hcz13_0 : w12.cell? ⟨gb214, 0, none⟩ = some (.int .i64 a0_0) := (blk_cell BK214.out 0).trans rfl; have hcz13_1 : w12.cell? ⟨gb214, 1, none⟩ = some (.string a0_1) := (blk_cell BK214.out 1).trans rfl; have hcz13_2 : w12.cell? ⟨gb214, 2, none⟩ = some (.string a0_2) := (blk_cell BK214.out 2).trans rfl; have hcz13_3 : w12.cell? ⟨gb214, 3, none⟩ = some (.int .i64 a0_3) := (blk_cell BK214.out 3).trans rfl; have hcz13_4 : w12.cell? ⟨gb214, 4, none⟩ = some (.string a0_4) := (blk_cell BK214.out 4).trans rfl; have hfz13_0 := blk_frozen BK214.out 0; have hfz13_1 := blk_frozen BK214.out 1; have hfz13_2 := blk_frozen BK214.out 2; have hfz13_3 := blk_frozen BK214.out 3; have hfz13_4 := blk_frozen BK214.out 4))
        go_ret
        exact ⟨by first | rfl | (simp [errW_none, errW_some] <;> rfl) | (simp [*, errW_none, errW_some] <;> rfl), by repeat (first | (with_reducible first | exact HB.out | apply below_alloc | apply pw_below_drewN | apply below_drew1 | refine below_set ?_ GE214.out) | exact HB.out)⟩
end Go.Proofs.YtgkgkpoeiojmeaaDoor.P
namespace Go.Proofs.YtgkgkpoeiojmeaaDoor.P
open Go.RowKit Go.Proofs.YtgkgkpoeiojmeaaDoorW.PrintWords Go.Proofs.YtgkgkpoeiojmeaaDoorW.PrintLast Go.Proofs.YtgkgkpoeiojmeaaDoorW.PrintMore
attribute [local go_sem] max2_int min2_int max_two min_two max_three min_three max_four min_four   -- for this text's walks alone
set_option linter.unusedVariables false
set_option linter.unusedSimpArgs false
def laws_toReq.f (a0_0 : Int) (a0_1 : ByteArray) (a0_2 : ByteArray) (a0_3 : Int) (a0_4 : ByteArray) : Option (Int × ByteArray × ByteArray × Int × ByteArray) := some (a0_0, a0_1, a0_2, a0_3, a0_4)
set_option maxHeartbeats 8000000 in
set_option maxRecDepth 100000 in
theorem laws_toReq.calls (a0_0 : Int) (a0_1 : ByteArray) (a0_2 : ByteArray) (a0_3 : Int) (a0_4 : ByteArray) (r1 : Int) (r2 : ByteArray) (r3 : ByteArray) (r4 : Int) (r5 : ByteArray) (w : World) (h : laws_toReq.f a0_0 a0_1 a0_2 a0_3 a0_4 = some (r1, r2, r3, r4, r5)) :
    Calls Tryd.prog 28 #[.agg #[.int .i64 a0_0, .string a0_1, .string a0_2, .int .i64 a0_3, .string a0_4]] w fun e w' => e = .returned (.agg #[.int .i64 r1, .string r2, .string r3, .int .i64 r4, .string r5]) ∧ Below w.heap.size w w' := by
  have hu39 := Tryd.underlying39; have hu42 := Tryd.underlying42; have HB := Aside0.mk (Below.refl w.heap.size w); have H : (some (a0_0, a0_1, a0_2, a0_3, a0_4)) = some (r1, r2, r3, r4, r5) := h; clear h; simp only [Option.some.injEq, Prod.mk.injEq] at H; obtain ⟨rfl, rfl, rfl, rfl, rfl⟩ := H
  go_enter Tryd.func28, Tryd.ntmps28
  go_wp2_with (first | ((with_reducible refine gate_dst (N := 1) rfl ?_); refine box_event ?hg (N := 1) ?hd (cs := #[.int .i64 a0_0, .string a0_1, .string a0_2, .int .i64 a0_3, .string a0_4]) (t := 39) ?hr ?_; (case hd => rfl); (case hg => rfl); (case hr => first | (go_simp; done) | (go_simp; rfl)); intro gb234 hg w2 hbox hb; have n0_ := Aside0.mk (below_step (by repeat (first | (with_reducible first | exact HB.out | apply below_alloc | apply pw_below_drewN | apply below_drew1) | exact HB.out)) hb); have n1_ := Aside0.mk (hbox); have n2_ := Aside0.mk ((by rw [hg]; exact (below_size (by repeat (first | (with_reducible first | exact HB.out | apply below_alloc | apply pw_below_drewN | apply below_drew1) | exact HB.out))) : w.heap.size ≤ gb234)); have n3_ := Aside0.mk ((by rw [hg]; exact (below_size (by repeat (first | (with_reducible first | exact HB.out | apply below_alloc | apply pw_below_drewN | apply below_drew1) | exact HB.out))) : w.heap.size ≤ gb234)); clear HB; have HB := n0_; have BK234 := n1_; have GW234 := n2_; have GE234 := n3_; clear n0_ n1_ n2_ n3_; clear hb hbox hg) | ((with_reducible refine gate_dst (N := 2) rfl ?_); refine box_event ?hg (N := 2) ?hd (cs := #[.int .i64 0, .string (⟨#[]⟩ : ByteArray), .string (⟨#[]⟩ : ByteArray), .int .i64 0, .string (⟨#[]⟩ : ByteArray)]) (t := 42) ?hr ?_; (case hd => rfl); (case hg => rfl); (case hr => first | (go_simp; done) | (go_simp; rfl)); intro gb235 hg w3 hbox hb; have n0_ := Aside0.mk (blk_below (g := gb234) (o := .cells #[.int .i64 a0_0, .string a0_1, .string a0_2, .int .i64 a0_3, .string a0_4] 39 (0, 0)) (by (with_reducible repeat (first | refine blk_drewN ?_ _ | refine blk_drew ?_ | refine blk_alloc ?_ _)); exact BK234.out) hb); have n1_ := Aside0.mk (below_step (by repeat (first | (with_reducible first | exact HB.out | apply below_alloc | apply pw_below_drewN | apply below_drew1 | refine below_set ?_ GE234.out) | exact HB.out)) hb); have n2_ := Aside0.mk (hbox); have n3_ := Aside0.mk ((by rw [hg]; exact (below_size (by repeat (first | (with_reducible first | exact HB.out | apply below_alloc | apply pw_below_drewN | apply below_drew1 | refine below_set ?_ GE234.out) | exact HB.out))) : w.heap.size ≤ gb235)); have n4_ := Aside0.mk ((by rw [hg]; exact (below_size (by repeat (first | (with_reducible first | exact HB.out | apply below_alloc | apply pw_below_drewN | apply below_drew1 | refine below_set ?_ GE234.out) | exact HB.out))) : w.heap.size ≤ gb235)); have n5_ := Aside0.mk ((by rw [hg]; exact Nat.ne_of_lt (blk_lt (g := gb234) (o := .cells #[.int .i64 a0_0, .string a0_1, .string a0_2, .int .i64 a0_3, .string a0_4] 39 (0, 0)) (by (with_reducible repeat (first | refine blk_drewN ?_ _ | refine blk_drew ?_ | refine blk_alloc ?_ _)); exact BK234.out)) : gb234 ≠ gb235)); have n6_ := Aside0.mk ((by rw [hg]; exact Nat.ne_of_gt (blk_lt (g := gb234) (o := .cells #[.int .i64 a0_0, .string a0_1, .string a0_2, .int .i64 a0_3, .string a0_4] 39 (0, 0)) (by (with_reducible repeat (first | refine blk_drewN ?_ _ | refine blk_drew ?_ | refine blk_alloc ?_ _)); exact BK234.out)) : gb235 ≠ gb234)); clear BK234; clear HB; have BK234 := n0_; have HB := n1_; have BK235 := n2_; have GW235 := n3_; have GE235 := n4_; have NB234_235 := n5_; have NB235_234 := n6_; clear n0_ n1_ n2_ n3_ n4_ n5_ n6_; clear hb hbox hg) | ((with_reducible refine gate_dst (N := 3) rfl ?_); refine box_event ?hg (N := 3) ?hd (cs := #[.int .i64 0, .string (⟨#[]⟩ : ByteArray), .string (⟨#[]⟩ : ByteArray), .int .i64 0, .string (⟨#[]⟩ : ByteArray)]) (t := 42) ?hr ?_; (case hd => rfl); (case hg => rfl); (case hr => first | (go_simp; done) | (go_simp; rfl)); intro gb236 hg w4 hbox hb; have n0_ := Aside0.mk (blk_below (g := gb234) (o := .cells #[.int .i64 a0_0, .string a0_1, .string a0_2, .int .i64 a0_3, .string a0_4] 39 (0, 0)) (by (with_reducible repeat (first | refine blk_drewN ?_ _ | refine blk_drew ?_ | refine blk_alloc ?_ _)); exact BK234.out) hb); have n1_ := Aside0.mk (blk_below (g := gb235) (o := .cells #[.int .i64 0, .string (⟨#[]⟩ : ByteArray), .string (⟨#[]⟩ : ByteArray), .int .i64 0, .string (⟨#[]⟩ : ByteArray)] 42 (0, 0)) (by (with_reducible repeat (first | refine blk_drewN ?_ _ | refine blk_drew ?_ | refine blk_alloc ?_ _)); exact BK235.out) hb); have n2_ := Aside0.mk (below_step (by repeat (first | (with_reducible first | exact HB.out | apply below_alloc | apply pw_below_drewN | apply below_drew1 | refine below_set ?_ GE234.out | refine below_set ?_ GE235.out) | exact HB.out)) hb); have n3_ := Aside0.mk (hbox); have n4_ := Aside0.mk ((by rw [hg]; exact (below_size (by repeat (first | (with_reducible first | exact HB.out | apply below_alloc | apply pw_below_drewN | apply below_drew1 | refine below_set ?_ GE234.out | refine below_set ?_ GE235.out) | exact HB.out))) : w.heap.size ≤ gb236)); have n5_ := Aside0.mk ((by rw [hg]; exact (below_size (by repeat (first | (with_reducible first | exact HB.out | apply below_alloc | apply pw_below_drewN | apply below_drew1 | refine below_set ?_ GE234.out | refine below_set ?_ GE235.out) | exact HB.out))) : w.heap.size ≤ gb236)); have n6_ := Aside0.mk ((by rw [hg]; exact Nat.ne_of_lt (blk_lt (g := gb234) (o := .cells #[.int .i64 a0_0, .string a0_1, .string a0_2, .int .i64 a0_3, .string a0_4] 39 (0, 0)) (by (with_reducible repeat (first | refine blk_drewN ?_ _ | refine blk_drew ?_ | refine blk_alloc ?_ _)); exact BK234.out)) : gb234 ≠ gb236)); have n7_ := Aside0.mk ((by rw [hg]; exact Nat.ne_of_gt (blk_lt (g := gb234) (o := .cells #[.int .i64 a0_0, .string a0_1, .string a0_2, .int .i64 a0_3, .string a0_4] 39 (0, 0)) (by (with_reducible repeat (first | refine blk_drewN ?_ _ | refine blk_drew ?_ | refine blk_alloc ?_ _)); exact BK234.out)) : gb236 ≠ gb234)); have n8_ := Aside0.mk ((by rw [hg]; exact Nat.ne_of_lt (blk_lt (g := gb235) (o := .cells #[.int .i64 0, .string (⟨#[]⟩ : ByteArray), .string (⟨#[]⟩ : ByteArray), .int .i64 0, .string (⟨#[]⟩ : ByteArray)] 42 (0, 0)) (by (with_reducible repeat (first | refine blk_drewN ?_ _ | refine blk_drew ?_ | refine blk_alloc ?_ _)); exact BK235.out)) : gb235 ≠ gb236)); have n9_ := Aside0.mk ((by rw [hg]; exact Nat.ne_of_gt (blk_lt (g := gb235) (o := .cells #[.int .i64 0, .string (⟨#[]⟩ : ByteArray), .string (⟨#[]⟩ : ByteArray), .int .i64 0, .string (⟨#[]⟩ : ByteArray)] 42 (0, 0)) (by (with_reducible repeat (first | refine blk_drewN ?_ _ | refine blk_drew ?_ | refine blk_alloc ?_ _)); exact BK235.out)) : gb236 ≠ gb235)); clear BK234; clear BK235; clear HB; have BK234 := n0_; have BK235 := n1_; have HB := n2_; have BK236 := n3_; have GW236 := n4_; have GE236 := n5_; have NB234_236 := n6_; have NB236_234 := n7_; have NB235_236 := n8_; have NB236_235 := n9_; clear n0_ n1_ n2_ n3_ n4_ n5_ n6_ n7_ n8_ n9_; clear hb hbox hg; have hnb5 := NB234_235.out; have hnc5 := NB235_234.out; have hnb6 := NB234_236.out; have hnc6 := NB236_234.out; have hcz7_0 : w4.cell? ⟨gb234, 0, none⟩ = some (.int .i64 a0_0) := (blk_cell BK234.out 0).trans rfl; have hcz7_1 : w4.cell? ⟨gb234, 1, none⟩ = some (.string a0_1) := (blk_cell BK234.out 1).trans rfl; have hcz7_2 : w4.cell? ⟨gb234, 2, none⟩ = some (.string a0_2) := (blk_cell BK234.out 2).trans rfl; have hcz7_3 : w4.cell? ⟨gb234, 3, none⟩ = some (.int .i64 a0_3) := (blk_cell BK234.out 3).trans rfl; have hcz7_4 : w4.cell? ⟨gb234, 4, none⟩ = some (.string a0_4) := (blk_cell BK234.out 4).trans rfl; have hfz7_0 := blk_frozen BK234.out 0; have hfz7_1 := blk_frozen BK234.out 1; have hfz7_2 := blk_frozen BK234.out 2; have hfz7_3 := blk_frozen BK234.out 3; have hfz7_4 := blk_frozen BK234.out 4; have hnb8 := NB236_235.out; have hnc8 := NB235_236.out; have hcz9_0 : w4.cell? ⟨gb236, 0, none⟩ = some (.int .i64 0) := (blk_cell BK236.out 0).trans rfl; have hcz9_1 : w4.cell? ⟨gb236, 1, none⟩ = some (.string (⟨#[]⟩ : ByteArray)) := (blk_cell BK236.out 1).trans rfl; have hcz9_2 : w4.cell? ⟨gb236, 2, none⟩ = some (.string (⟨#[]⟩ : ByteArray)) := (blk_cell BK236.out 2).trans rfl; have hcz9_3 : w4.cell? ⟨gb236, 3, none⟩ = some (.int .i64 0) := (blk_cell BK236.out 3).trans rfl; have hcz9_4 : w4.cell? ⟨gb236, 4, none⟩ = some (.string (⟨#[]⟩ : ByteArray)) := (blk_cell BK236.out 4).trans rfl; have hfz9_0 := blk_frozen BK236.out 0; have hfz9_1 := blk_frozen BK236.out 1; have hfz9_2 := blk_frozen BK236.out 2; have hfz9_3 := blk_frozen BK236.out 3; have hfz9_4 := blk_frozen BK236.out 4; have hcz10_0 : w4.cell? ⟨gb235, 0, none⟩ = some (.int .i64 0) := (blk_cell BK235.out 0).trans rfl; have hcz10_1 : w4.cell? ⟨gb235, 1, none⟩ = some (.string (⟨#[]⟩ : ByteArray)) := (blk_cell BK235.out 1).trans rfl; have hcz10_2 : w4.cell? ⟨gb235, 2, none⟩ = some (.string (⟨#[]⟩ : ByteArray)) := (blk_cell BK235.out 2).trans rfl; have hcz10_3 : w4.cell? ⟨gb235, 3, none⟩ = some (.int .i64 0) := (blk_cell BK235.out 3).trans rfl; have hcz10_4 : w4.cell? ⟨gb235, 4, none⟩ = some (.string (⟨#[]⟩ : ByteArray)) := (blk_cell BK235.out 4).trans rfl; have hfz10_0 := blk_frozen BK235.out 0; have hfz10_1 := blk_frozen BK235.out 1; have hfz10_2 := blk_frozen BK235.out 2; have hfz10_3 := blk_frozen BK235.out 3; have hfz10_4 := blk_frozen BK235.out 4))
  refine bodyPost_ret (results_cell_row rfl _ _ gb235 42 #[.int .i64 a0_0, .string a0_1, .string a0_2, .int .i64 a0_3, .string a0_4] (0, 0) _ rfl (by (with_reducible repeat (first | refine blk_drewN ?_ _ | refine blk_drew ?_ | refine blk_alloc ?_ _)); refine blk_put (cs := #[.int .i64 a0_0, .string a0_1, .string a0_2, .int .i64 a0_3, .string (⟨#[]⟩ : ByteArray)]) ?_ 4 _ rfl; (with_reducible repeat (first | refine blk_drewN ?_ _ | refine blk_drew ?_ | refine blk_alloc ?_ _)); refine blk_put (cs := #[.int .i64 a0_0, .string a0_1, .string a0_2, .int .i64 0, .string (⟨#[]⟩ : ByteArray)]) ?_ 3 _ rfl; (with_reducible repeat (first | refine blk_drewN ?_ _ | refine blk_drew ?_ | refine blk_alloc ?_ _)); refine blk_put (cs := #[.int .i64 a0_0, .string a0_1, .string (⟨#[]⟩ : ByteArray), .int .i64 0, .string (⟨#[]⟩ : ByteArray)]) ?_ 2 _ rfl; (with_reducible repeat (first | refine blk_drewN ?_ _ | refine blk_drew ?_ | refine blk_alloc ?_ _)); refine blk_put (cs := #[.int .i64 a0_0, .string (⟨#[]⟩ : ByteArray), .string (⟨#[]⟩ : ByteArray), .int .i64 0, .string (⟨#[]⟩ : ByteArray)]) ?_ 1 _ rfl; (with_reducible repeat (first | refine blk_drewN ?_ _ | refine blk_drew ?_ | refine blk_alloc ?_ _)); refine blk_put (cs := #[.int .i64 0, .string (⟨#[]⟩ : ByteArray), .string (⟨#[]⟩ : ByteArray), .int .i64 0, .string (⟨#[]⟩ : ByteArray)]) ?_ 0 _ rfl; (with_reducible repeat (first | refine blk_drewN ?_ _ | refine blk_drew ?_ | refine blk_alloc ?_ _)); refine blk_far ?_ NB235_236.out _; (with_reducible repeat (first | refine blk_drewN ?_ _ | refine blk_drew ?_ | refine blk_alloc ?_ _)); refine blk_far ?_ NB235_236.out _; (with_reducible repeat (first | refine blk_drewN ?_ _ | refine blk_drew ?_ | refine blk_alloc ?_ _)); refine blk_far ?_ NB235_236.out _; (with_reducible repeat (first | refine blk_drewN ?_ _ | refine blk_drew ?_ | refine blk_alloc ?_ _)); refine blk_far ?_ NB235_236.out _; (with_reducible repeat (first | refine blk_drewN ?_ _ | refine blk_drew ?_ | refine blk_alloc ?_ _)); refine blk_far ?_ NB235_236.out _; (with_reducible repeat (first | refine blk_drewN ?_ _ | refine blk_drew ?_ | refine blk_alloc ?_ _)); exact BK235.out) Tryd.underlying42 rfl (by kernel_rfl)) rfl ?_
  exact ⟨by first | rfl | (simp [errW_none, errW_some] <;> rfl) | (simp [*, errW_none, errW_some] <;> rfl), by repeat (first | (with_reducible first | exact HB.out | apply below_alloc | apply pw_below_drewN | apply below_drew1 | refine below_set ?_ GE234.out | refine below_set ?_ GE235.out | refine below_set ?_ GE236.out) | exact HB.out)⟩
end Go.Proofs.YtgkgkpoeiojmeaaDoor.P
namespace Go.Proofs.YtgkgkpoeiojmeaaDoor.P
open Go.RowKit Go.Proofs.YtgkgkpoeiojmeaaDoorW.PrintWords Go.Proofs.YtgkgkpoeiojmeaaDoorW.PrintLast Go.Proofs.YtgkgkpoeiojmeaaDoorW.PrintMore
attribute [local go_sem] max2_int min2_int max_two min_two max_three min_three max_four min_four   -- for this text's walks alone
set_option linter.unusedVariables false
set_option linter.unusedSimpArgs false
def spec_l1In.f (a0 : Int) (a1 : Int) (a2 : Int) : Option (Bool) := if a0 ≥ a1 then (some (decide (a0 ≤ a2))) else (some false)
set_option maxHeartbeats 8000000 in
set_option maxRecDepth 100000 in
theorem spec_l1In.calls (a0 : Int) (a1 : Int) (a2 : Int) (r : Bool) (w : World) (h : spec_l1In.f a0 a1 a2 = some r) :
    Calls Tryd.prog 46 #[.int .i64 a0, .int .i64 a1, .int .i64 a2] w fun e w' => e = .returned (.bool r) ∧ Drawn0 w w' := by
  have H : (if a0 ≥ a1 then (some (decide (a0 ≤ a2))) else (some false)) = some r := h; clear h; by_cases c4 : a0 ≥ a1
  · rw [if_pos c4] at H
    have c4b0 : decide (a1 ≤ a0) = true := decide_eq_true c4; clear c4; obtain rfl := Option.some.inj H
    go_enter Tryd.func46, Tryd.ntmps46
    go_wp2
    go_ret
    exact ⟨by first | rfl | (simp; done) | (simp [*]; done), by repeat (first | exact Drawn0.refl _ | apply Drawn0.step)⟩
  · rw [if_neg c4] at H
    have c4b0 : decide (a1 ≤ a0) = false := decide_eq_false c4; clear c4; obtain rfl := Option.some.inj H
    go_enter Tryd.func46, Tryd.ntmps46
    go_wp2
    go_ret
    exact ⟨by first | rfl | (simp; done) | (simp [*]; done), by repeat (first | exact Drawn0.refl _ | apply Drawn0.step)⟩
end Go.Proofs.YtgkgkpoeiojmeaaDoor.P
namespace Go.Proofs.YtgkgkpoeiojmeaaDoor.P
open Go.RowKit Go.Proofs.YtgkgkpoeiojmeaaDoorW.PrintWords Go.Proofs.YtgkgkpoeiojmeaaDoorW.PrintLast Go.Proofs.YtgkgkpoeiojmeaaDoorW.PrintMore
attribute [local go_sem] max2_int min2_int max_two min_two max_three min_three max_four min_four   -- for this text's walks alone
set_option linter.unusedVariables false
set_option linter.unusedSimpArgs false
def spec_NameOk.l0 : Nat → ByteArray → Int → Option (Bool)
  | 0, _, _ => none
  | k + 1, x0, x3 => if x3 < (x0.size : Int) then (if 0 ≤ x3 then (if (bt x0 x3) < 97 then (some false) else (if (bt x0 x3) > 122 then (some false) else (spec_NameOk.l0 k x0 (wrap64 (x3 + 1))))) else (none)) else ((spec_l1In.f (x0.size : Int) 1 6).bind fun t156 => (some t156))
def spec_NameOk.f (k : Nat) (a0 : ByteArray) : Option (Bool) := spec_NameOk.l0 k a0 0
set_option maxHeartbeats 8000000 in
set_option maxRecDepth 100000 in
theorem spec_NameOk.calls (k : Nat) (a0 : ByteArray) (r : Bool) (w : World) (h : spec_NameOk.f k a0 = some r) :
    Calls Tryd.prog 19 #[.string a0] w fun e w' => e = .returned (.bool r) ∧ Drawn0 w w' := by
  have H : (spec_NameOk.l0 k a0 0) = some r := h; clear h; have H' := Aside0.mk H; clear H
  go_enter Tryd.func19, Tryd.ntmps19
  go_wp2
  go_loopg [3] k (fun kq v3 w' => ∃ (x3_1 : Int), v3 = .int .i64 x3_1 ∧ Aside0 (spec_NameOk.l0 kq a0 x3_1 = some r) ∧ Aside0 (kq ≤ k) ∧ Drawn0 w w')
  case atStart => exact ⟨(0), (by first | rfl | (simp; done) | (simp [*]; done)), H', ⟨Nat.le_refl _⟩, by repeat (first | exact Drawn0.refl _ | apply Drawn0.step)⟩
  case round =>
    clear H'
    try clear c1
    obtain ⟨x3_1, rfl, HA, HK1, ⟨m1, rfl⟩⟩ := hrel
    cases gk with
    | zero => exact absurd HA.out (by simp [spec_NameOk.l0])
    | succ k1 =>
      have H := HA.out; clear HA; simp only [spec_NameOk.l0] at H; by_cases c2 : x3_1 < (a0.size : Int)
      · rw [if_pos c2] at H
        have c2b0 : decide (x3_1 < (a0.size : Int)) = true := decide_eq_true c2; clear c2; by_cases c3 : 0 ≤ x3_1
        · rw [if_pos c3] at H
          have c3b0 : decide (0 ≤ x3_1) = true := decide_eq_true c3; clear c3; by_cases c5 : (bt a0 x3_1) < 97
          · rw [if_pos c5] at H
            have c5b0 : decide ((bt a0 x3_1) < 97) = true := decide_eq_true c5; clear c5; obtain rfl := Option.some.inj H; have p4 : 0 ≤ (x3_1 : Int) := of_decide_eq_true (by first | (with_reducible assumption) | assumption); have q4 : x3_1 < (a0.size : Int) := of_decide_eq_true (by first | (with_reducible assumption) | assumption); have hx4 := bt_at a0 x3_1; replace p4 := eq_true p4; replace q4 := eq_true q4
            go_wp2
            go_ret
            exact ⟨by first | rfl | (simp; done) | (simp [*]; done), by repeat (first | exact Drawn0.refl _ | apply Drawn0.step)⟩
          · rw [if_neg c5] at H
            have c5b0 : decide ((bt a0 x3_1) < 97) = false := decide_eq_false c5; clear c5; by_cases c7 : (bt a0 x3_1) > 122
            · rw [if_pos c7] at H
              have c7b0 : decide (122 < (bt a0 x3_1)) = true := decide_eq_true c7; clear c7; obtain rfl := Option.some.inj H; have p4 : 0 ≤ (x3_1 : Int) := of_decide_eq_true (by first | (with_reducible assumption) | assumption); have q4 : x3_1 < (a0.size : Int) := of_decide_eq_true (by first | (with_reducible assumption) | assumption); have hx4 := bt_at a0 x3_1; replace p4 := eq_true p4; replace q4 := eq_true q4; have p6 : 0 ≤ (x3_1 : Int) := of_decide_eq_true (by first | (with_reducible assumption) | assumption); have q6 : x3_1 < (a0.size : Int) := of_decide_eq_true (by first | (with_reducible assumption) | assumption); have hx6 := bt_at a0 x3_1; replace p6 := eq_true p6; replace q6 := eq_true q6
              go_wp2
              go_ret
              exact ⟨by first | rfl | (simp; done) | (simp [*]; done), by repeat (first | exact Drawn0.refl _ | apply Drawn0.step)⟩
            · rw [if_neg c7] at H
              have c7b0 : decide (122 < (bt a0 x3_1)) = false := decide_eq_false c7; clear c7; have H' := Aside0.mk H; clear H; have p4 : 0 ≤ (x3_1 : Int) := of_decide_eq_true (by first | (with_reducible assumption) | assumption); have q4 : x3_1 < (a0.size : Int) := of_decide_eq_true (by first | (with_reducible assumption) | assumption); have hx4 := bt_at a0 x3_1; replace p4 := eq_true p4; replace q4 := eq_true q4; have p6 : 0 ≤ (x3_1 : Int) := of_decide_eq_true (by first | (with_reducible assumption) | assumption); have q6 : x3_1 < (a0.size : Int) := of_decide_eq_true (by first | (with_reducible assumption) | assumption); have hx6 := bt_at a0 x3_1; replace p6 := eq_true p6; replace q6 := eq_true q6
              go_wp2
              go_roundg k1
              case measure => have := HK1.out; omega
              case rel => exact ⟨(wrap64 (x3_1 + 1)), (by first | rfl | (simp; done) | (simp [*]; done)), H', ⟨by have := HK1.out; omega⟩, by repeat (first | exact Drawn0.refl _ | apply Drawn0.step)⟩
        · rw [if_neg c3] at H
          exact absurd H (by simp)
      · rw [if_neg c2] at H
        have c2b0 : decide (x3_1 < (a0.size : Int)) = false := decide_eq_false c2; clear c2; replace H := Option.bind_eq_some_iff.mp H; obtain ⟨t156, A80, H⟩ := H; replace H : (some t156) = some r := H; have A8 := Aside0.mk A80; clear A80; obtain rfl := Option.some.inj H
        go_wp2_with (first | ((with_reducible refine gate_callee (f := 46) rfl ?_); refine goesL_ (some 22) rfl rfl Tryd.func46 (by kernel_rfl) rfl #[.int .i64 (a0.size : Int), .int .i64 1, .int .i64 6] rfl (by (try simp only [List.map_toArray, List.map_cons, List.map_nil]); first | done | rfl | (simp only [List.length_drop, List.length_take]; rfl)) ?_; (with_reducible refine (spec_l1In.calls (a0.size : Int) 1 6 t156 _ A8.out).mono ?_); rintro e w' ⟨rfl, ⟨nd, rfl⟩⟩; refine ⟨_, rfl, ?_⟩))
        go_ret
        exact ⟨by first | rfl | (simp; done) | (simp [*]; done), by repeat (first | exact Drawn0.refl _ | apply Drawn0.step)⟩
end Go.Proofs.YtgkgkpoeiojmeaaDoor.P
namespace Go.Proofs.YtgkgkpoeiojmeaaDoor.P
open Go.RowKit Go.Proofs.YtgkgkpoeiojmeaaDoorW.PrintWords Go.Proofs.YtgkgkpoeiojmeaaDoorW.PrintLast Go.Proofs.YtgkgkpoeiojmeaaDoorW.PrintMore
attribute [local go_sem] max2_int min2_int max_two min_two max_three min_three max_four min_four   -- for this text's walks alone
set_option linter.unusedVariables false
set_option linter.unusedSimpArgs false
mutual
def spec_l9Has.j0 : Nat → Int → Bool → Option (Bool × Bool × Bool)
  | 0, _, _ => none
  | k + 1, x5, x8 => if x8 = true then (some (false, true, false)) else (if x5 = 4 then (some (true, false, true)) else (if x5 = 5 then (some (true, true, true)) else (if x5 = 6 then (spec_l9Has.j1 k x5 (x5 == 6)) else (spec_l9Has.j1 k x5 (x5 == 7)))))
def spec_l9Has.j1 : Nat → Int → Bool → Option (Bool × Bool × Bool)
  | 0, _, _ => none
  | k + 1, x5, x15 => if x15 = true then (some (true, false, true)) else (if x5 = 8 then (some (true, false, false)) else (if x5 = 9 then (some (true, false, false)) else (some (false, false, false))))
end
def spec_l9Has.f (k : Nat) (a0 : Int) : Option (Bool × Bool × Bool) := if a0 = 1 then (some (true, true, false)) else (if a0 = 2 then (spec_l9Has.j0 k a0 (a0 == 2)) else (spec_l9Has.j0 k a0 (a0 == 11)))
set_option maxHeartbeats 8000000 in
set_option maxRecDepth 100000 in
theorem spec_l9Has.calls (k : Nat) (a0 : Int) (r1 : Bool) (r2 : Bool) (r3 : Bool) (w : World) (h : spec_l9Has.f k a0 = some (r1, r2, r3)) :
    Calls Tryd.prog 51 #[.int .i64 a0] w fun e w' => e = .returned (.tuple #[.bool r1, .bool r2, .bool r3]) ∧ Drawn0 w w' := by
  have H : (if a0 = 1 then (some (true, true, false)) else (if a0 = 2 then (spec_l9Has.j0 k a0 (a0 == 2)) else (spec_l9Has.j0 k a0 (a0 == 11)))) = some (r1, r2, r3) := h; clear h; by_cases c2 : a0 = 1
  · rw [if_pos c2] at H
    have c2b0 : (a0 == 1) = true := beq_iff_eq.mpr c2; have c2b1 : (a0 != 1) = false := bne_eq_false_iff_eq.mpr c2; clear c2; simp only [Option.some.injEq, Prod.mk.injEq] at H; obtain ⟨rfl, rfl, rfl⟩ := H
    go_enter Tryd.func51, Tryd.ntmps51
    go_wp2
    go_ret3
    exact ⟨by first | rfl | (simp; done) | (simp [*]; done), by repeat (first | exact Drawn0.refl _ | apply Drawn0.step)⟩
  · rw [if_neg c2] at H
    have c2b0 : (a0 == 1) = false := beq_eq_false_iff_ne.mpr c2; have c2b1 : (a0 != 1) = true := bne_iff_ne.mpr c2; have HC3 := Aside0.mk H; clear H
    go_enter Tryd.func51, Tryd.ntmps51
    go_upto_if 8 with (fail)
    go_cut [8] (fun v8 wc => ∃ (kq : Nat) (x8_2 : Bool), v8 = .bool x8_2 ∧ Aside0 (spec_l9Has.j0 kq a0 x8_2 = some (r1, r2, r3)) ∧ Aside0 (kq ≤ k) ∧ Drawn0 w wc)
    case first =>
      have H := HC3.out; clear HC3; by_cases c4 : a0 = 2
      · rw [if_pos c4] at H
        have c4b0 : (a0 == 2) = true := beq_iff_eq.mpr c4; have c4b1 : (a0 != 2) = false := bne_eq_false_iff_eq.mpr c4; clear c4
        (first | rw [c4b0] | (simp only [i64_w, i32_w]; rw [c4b0]) | skip)
        have H' := Aside0.mk H; clear H
        go_wp2
        go_meet
        case rel => exact ⟨_, ((a0 == 2)), (by first | rfl | (simp; done) | (simp [*]; done)), H', ⟨by first | omega | exact Nat.le_refl _⟩, by repeat (first | exact Drawn0.refl _ | apply Drawn0.step)⟩
      · rw [if_neg c4] at H
        have c4b0 : (a0 == 2) = false := beq_eq_false_iff_ne.mpr c4; have c4b1 : (a0 != 2) = true := bne_iff_ne.mpr c4
        (first | rw [c4b0] | (simp only [i64_w, i32_w]; rw [c4b0]) | skip)
        have H' := Aside0.mk H; clear H
        go_wp2
        go_meet
        case rel => exact ⟨_, ((a0 == 11)), (by first | rfl | (simp; done) | (simp [*]; done)), H', ⟨by first | omega | exact Nat.le_refl _⟩, by repeat (first | exact Drawn0.refl _ | apply Drawn0.step)⟩
    case rest =>
      clear HC3
      try clear c2
      try clear c2b0
      try clear c2b1
      try clear p2
      try clear c4
      try clear c4b0
      try clear c4b1
      obtain ⟨kq, x8_2, rfl, HA, HJ2, ⟨mc2, rfl⟩⟩ := hcut
      cases kq with
      | zero => exact absurd HA.out (by simp [spec_l9Has.j0])
      | succ kj2 =>
        have H := HA.out; clear HA; simp only [spec_l9Has.j0] at H; by_cases c5 : x8_2 = true
        · subst c5
          have H1 : (some (false, true, false)) = some (r1, r2, r3) := by rw [if_pos rfl] at H; exact H
          clear H; have H := H1; clear H1; simp only [Option.some.injEq, Prod.mk.injEq] at H; obtain ⟨rfl, rfl, rfl⟩ := H
          go_wp2
          go_ret3
          exact ⟨by first | rfl | (simp; done) | (simp [*]; done), by repeat (first | exact Drawn0.refl _ | apply Drawn0.step)⟩
        · replace c5 := Bool.eq_false_iff.mpr c5
          subst c5; have H1 : (if a0 = 4 then (some (true, false, true)) else (if a0 = 5 then (some (true, true, true)) else (if a0 = 6 then (spec_l9Has.j1 kj2 a0 (a0 == 6)) else (spec_l9Has.j1 kj2 a0 (a0 == 7))))) = some (r1, r2, r3) := by rw [if_neg (show ¬ (false = true) by decide)] at H; exact H
          clear H; have H := H1; clear H1; by_cases c6 : a0 = 4
          · rw [if_pos c6] at H
            have c6b0 : (a0 == 4) = true := beq_iff_eq.mpr c6; have c6b1 : (a0 != 4) = false := bne_eq_false_iff_eq.mpr c6; clear c6; simp only [Option.some.injEq, Prod.mk.injEq] at H; obtain ⟨rfl, rfl, rfl⟩ := H
            go_wp2
            go_ret3
            exact ⟨by first | rfl | (simp; done) | (simp [*]; done), by repeat (first | exact Drawn0.refl _ | apply Drawn0.step)⟩
          · rw [if_neg c6] at H
            have c6b0 : (a0 == 4) = false := beq_eq_false_iff_ne.mpr c6; have c6b1 : (a0 != 4) = true := bne_iff_ne.mpr c6; by_cases c7 : a0 = 5
            · rw [if_pos c7] at H
              have c7b0 : (a0 == 5) = true := beq_iff_eq.mpr c7; have c7b1 : (a0 != 5) = false := bne_eq_false_iff_eq.mpr c7; clear c7; simp only [Option.some.injEq, Prod.mk.injEq] at H; obtain ⟨rfl, rfl, rfl⟩ := H
              go_wp2
              go_ret3
              exact ⟨by first | rfl | (simp; done) | (simp [*]; done), by repeat (first | exact Drawn0.refl _ | apply Drawn0.step)⟩
            · rw [if_neg c7] at H
              have c7b0 : (a0 == 5) = false := beq_eq_false_iff_ne.mpr c7; have c7b1 : (a0 != 5) = true := bne_iff_ne.mpr c7; have HC8 := Aside0.mk H; clear H
              go_upto_if 15 with (fail)
              go_cut [15] (fun v15 wc => ∃ (kq : Nat) (x15_7 : Bool), v15 = .bool x15_7 ∧ Aside0 (spec_l9Has.j1 kq a0 x15_7 = some (r1, r2, r3)) ∧ Aside0 (kq ≤ kj2) ∧ Drawn0 w wc)
              case first =>
                have H := HC8.out; clear HC8; by_cases c9 : a0 = 6
                · rw [if_pos c9] at H
                  have c9b0 : (a0 == 6) = true := beq_iff_eq.mpr c9; have c9b1 : (a0 != 6) = false := bne_eq_false_iff_eq.mpr c9; clear c9
                  (first | rw [c9b0] | (simp only [i64_w, i32_w]; rw [c9b0]) | skip)
                  have H' := Aside0.mk H; clear H
                  go_wp2
                  go_meet
                  case rel => exact ⟨_, ((a0 == 6)), (by first | rfl | (simp; done) | (simp [*]; done)), H', ⟨by have := HJ2.out; first | omega | exact Nat.le_refl _⟩, by repeat (first | exact Drawn0.refl _ | apply Drawn0.step)⟩
                · rw [if_neg c9] at H
                  have c9b0 : (a0 == 6) = false := beq_eq_false_iff_ne.mpr c9; have c9b1 : (a0 != 6) = true := bne_iff_ne.mpr c9
                  (first | rw [c9b0] | (simp only [i64_w, i32_w]; rw [c9b0]) | skip)
                  have H' := Aside0.mk H; clear H
                  go_wp2
                  go_meet
                  case rel => exact ⟨_, ((a0 == 7)), (by first | rfl | (simp; done) | (simp [*]; done)), H', ⟨by have := HJ2.out; first | omega | exact Nat.le_refl _⟩, by repeat (first | exact Drawn0.refl _ | apply Drawn0.step)⟩
              case rest =>
                clear HC8
                try clear c2
                try clear c2b0
                try clear c2b1
                try clear p2
                try clear c4
                try clear c4b0
                try clear c4b1
                try clear c5
                try clear c6
                try clear c6b0
                try clear c6b1
                try clear c7
                try clear c7b0
                try clear c7b1
                try clear c9
                try clear c9b0
                try clear c9b1
                try clear p2
                obtain ⟨kq, x15_7, rfl, HA, HJ7, ⟨mc7, rfl⟩⟩ := hcut
                cases kq with
                | zero => exact absurd HA.out (by simp [spec_l9Has.j1])
                | succ kj7 =>
                  have H := HA.out; clear HA; simp only [spec_l9Has.j1] at H; by_cases c10 : x15_7 = true
                  · subst c10
                    have H1 : (some (true, false, true)) = some (r1, r2, r3) := by rw [if_pos rfl] at H; exact H
                    clear H; have H := H1; clear H1; simp only [Option.some.injEq, Prod.mk.injEq] at H; obtain ⟨rfl, rfl, rfl⟩ := H
                    go_wp2
                    go_ret3
                    exact ⟨by first | rfl | (simp; done) | (simp [*]; done), by repeat (first | exact Drawn0.refl _ | apply Drawn0.step)⟩
                  · replace c10 := Bool.eq_false_iff.mpr c10
                    subst c10; have H1 : (if a0 = 8 then (some (true, false, false)) else (if a0 = 9 then (some (true, false, false)) else (some (false, false, false)))) = some (r1, r2, r3) := by rw [if_neg (show ¬ (false = true) by decide)] at H; exact H
                    clear H; have H := H1; clear H1; by_cases c11 : a0 = 8
                    · rw [if_pos c11] at H
                      have c11b0 : (a0 == 8) = true := beq_iff_eq.mpr c11; have c11b1 : (a0 != 8) = false := bne_eq_false_iff_eq.mpr c11; clear c11; simp only [Option.some.injEq, Prod.mk.injEq] at H; obtain ⟨rfl, rfl, rfl⟩ := H
                      go_wp2
                      go_ret3
                      exact ⟨by first | rfl | (simp; done) | (simp [*]; done), by repeat (first | exact Drawn0.refl _ | apply Drawn0.step)⟩
                    · rw [if_neg c11] at H
                      have c11b0 : (a0 == 8) = false := beq_eq_false_iff_ne.mpr c11; have c11b1 : (a0 != 8) = true := bne_iff_ne.mpr c11; by_cases c12 : a0 = 9
                      · rw [if_pos c12] at H
                        have c12b0 : (a0 == 9) = true := beq_iff_eq.mpr c12; have c12b1 : (a0 != 9) = false := bne_eq_false_iff_eq.mpr c12; clear c12; simp only [Option.some.injEq, Prod.mk.injEq] at H; obtain ⟨rfl, rfl, rfl⟩ := H
                        go_wp2
                        go_ret3
                        exact ⟨by first | rfl | (simp; done) | (simp [*]; done), by repeat (first | exact Drawn0.refl _ | apply Drawn0.step)⟩
                      · rw [if_neg c12] at H
                        have c12b0 : (a0 == 9) = false := beq_eq_false_iff_ne.mpr c12; have c12b1 : (a0 != 9) = true := bne_iff_ne.mpr c12; simp only [Option.some.injEq, Prod.mk.injEq] at H; obtain ⟨rfl, rfl, rfl⟩ := H
                        go_wp2
                        go_ret3
                        exact ⟨by first | rfl | (simp; done) | (simp [*]; done), by repeat (first | exact Drawn0.refl _ | apply Drawn0.step)⟩
end Go.Proofs.YtgkgkpoeiojmeaaDoor.P
namespace Go.Proofs.YtgkgkpoeiojmeaaDoor.P
open Go.RowKit Go.Proofs.YtgkgkpoeiojmeaaDoorW.PrintWords Go.Proofs.YtgkgkpoeiojmeaaDoorW.PrintLast Go.Proofs.YtgkgkpoeiojmeaaDoorW.PrintMore
attribute [local go_sem] max2_int min2_int max_two min_two max_three min_three max_four min_four   -- for this text's walks alone
set_option linter.unusedVariables false
set_option linter.unusedSimpArgs false
def spec_l4Value.l0 : Nat → ByteArray → Int → Option (Bool)
  | 0, _, _ => none
  | k + 1, x0, x3 => if x3 < (x0.size : Int) then (if 0 ≤ x3 then (if (bt x0 x3) < 32 then (some false) else (if (bt x0 x3) > 126 then (some false) else (spec_l4Value.l0 k x0 (wrap64 (x3 + 1))))) else (none)) else (some (decide ((x0.size : Int) ≤ 80)))
def spec_l4Value.f (k : Nat) (a0 : ByteArray) : Option (Bool) := spec_l4Value.l0 k a0 0
set_option maxHeartbeats 8000000 in
set_option maxRecDepth 100000 in
theorem spec_l4Value.calls (k : Nat) (a0 : ByteArray) (r : Bool) (w : World) (h : spec_l4Value.f k a0 = some r) :
    Calls Tryd.prog 66 #[.string a0] w fun e w' => e = .returned (.bool r) ∧ Drawn0 w w' := by
  have H : (spec_l4Value.l0 k a0 0) = some r := h; clear h; have H' := Aside0.mk H; clear H
  go_enter Tryd.func66, Tryd.ntmps66
  go_wp2
  go_loopg [3] k (fun kq v3 w' => ∃ (x3_1 : Int), v3 = .int .i64 x3_1 ∧ Aside0 (spec_l4Value.l0 kq a0 x3_1 = some r) ∧ Aside0 (kq ≤ k) ∧ Drawn0 w w')
  case atStart => exact ⟨(0), (by first | rfl | (simp; done) | (simp [*]; done)), H', ⟨Nat.le_refl _⟩, by repeat (first | exact Drawn0.refl _ | apply Drawn0.step)⟩
  case round =>
    clear H'; obtain ⟨x3_1, rfl, HA, HK1, ⟨m1, rfl⟩⟩ := hrel
    cases gk with
    | zero => exact absurd HA.out (by simp [spec_l4Value.l0])
    | succ k1 =>
      have H := HA.out; clear HA; simp only [spec_l4Value.l0] at H; by_cases c2 : x3_1 < (a0.size : Int)
      · rw [if_pos c2] at H
        have c2b0 : decide (x3_1 < (a0.size : Int)) = true := decide_eq_true c2; clear c2; by_cases c3 : 0 ≤ x3_1
        · rw [if_pos c3] at H
          have c3b0 : decide (0 ≤ x3_1) = true := decide_eq_true c3; clear c3; by_cases c5 : (bt a0 x3_1) < 32
          · rw [if_pos c5] at H
            have c5b0 : decide ((bt a0 x3_1) < 32) = true := decide_eq_true c5; clear c5; obtain rfl := Option.some.inj H; have p4 : 0 ≤ (x3_1 : Int) := of_decide_eq_true (by first | (with_reducible assumption) | assumption); have q4 : x3_1 < (a0.size : Int) := of_decide_eq_true (by first | (with_reducible assumption) | assumption); have hx4 := bt_at a0 x3_1; replace p4 := eq_true p4; replace q4 := eq_true q4
            go_wp2
            go_ret
            exact ⟨by first | rfl | (simp; done) | (simp [*]; done), by repeat (first | exact Drawn0.refl _ | apply Drawn0.step)⟩
          · rw [if_neg c5] at H
            have c5b0 : decide ((bt a0 x3_1) < 32) = false := decide_eq_false c5; clear c5; by_cases c7 : (bt a0 x3_1) > 126
            · rw [if_pos c7] at H
              have c7b0 : decide (126 < (bt a0 x3_1)) = true := decide_eq_true c7; clear c7; obtain rfl := Option.some.inj H; have p4 : 0 ≤ (x3_1 : Int) := of_decide_eq_true (by first | (with_reducible assumption) | assumption); have q4 : x3_1 < (a0.size : Int) := of_decide_eq_true (by first | (with_reducible assumption) | assumption); have hx4 := bt_at a0 x3_1; replace p4 := eq_true p4; replace q4 := eq_true q4; have p6 : 0 ≤ (x3_1 : Int) := of_decide_eq_true (by first | (with_reducible assumption) | assumption); have q6 : x3_1 < (a0.size : Int) := of_decide_eq_true (by first | (with_reducible assumption) | assumption); have hx6 := bt_at a0 x3_1; replace p6 := eq_true p6; replace q6 := eq_true q6
              go_wp2
              go_ret
              exact ⟨by first | rfl | (simp; done) | (simp [*]; done), by repeat (first | exact Drawn0.refl _ | apply Drawn0.step)⟩
            · rw [if_neg c7] at H
              have c7b0 : decide (126 < (bt a0 x3_1)) = false := decide_eq_false c7; clear c7; have H' := Aside0.mk H; clear H; have p4 : 0 ≤ (x3_1 : Int) := of_decide_eq_true (by first | (with_reducible assumption) | assumption); have q4 : x3_1 < (a0.size : Int) := of_decide_eq_true (by first | (with_reducible assumption) | assumption); have hx4 := bt_at a0 x3_1; replace p4 := eq_true p4; replace q4 := eq_true q4; have p6 : 0 ≤ (x3_1 : Int) := of_decide_eq_true (by first | (with_reducible assumption) | assumption); have q6 : x3_1 < (a0.size : Int) := of_decide_eq_true (by first | (with_reducible assumption) | assumption); have hx6 := bt_at a0 x3_1; replace p6 := eq_true p6; replace q6 := eq_true q6
              go_wp2
              go_roundg k1
              case measure => have := HK1.out; omega
              case rel => exact ⟨(wrap64 (x3_1 + 1)), (by first | rfl | (simp; done) | (simp [*]; done)), H', ⟨by have := HK1.out; omega⟩, by repeat (first | exact Drawn0.refl _ | apply Drawn0.step)⟩
        · rw [if_neg c3] at H
          exact absurd H (by simp)
      · rw [if_neg c2] at H
        have c2b0 : decide (x3_1 < (a0.size : Int)) = false := decide_eq_false c2; clear c2; obtain rfl := Option.some.inj H
        go_wp2
        go_ret
        exact ⟨by first | rfl | (simp; done) | (simp [*]; done), by repeat (first | exact Drawn0.refl _ | apply Drawn0.step)⟩
end Go.Proofs.YtgkgkpoeiojmeaaDoor.P
namespace Go.Proofs.YtgkgkpoeiojmeaaDoor.P
open Go.RowKit Go.Proofs.YtgkgkpoeiojmeaaDoorW.PrintWords Go.Proofs.YtgkgkpoeiojmeaaDoorW.PrintLast Go.Proofs.YtgkgkpoeiojmeaaDoorW.PrintMore
attribute [local go_sem] max2_int min2_int max_two min_two max_three min_three max_four min_four   -- for this text's walks alone
set_option linter.unusedVariables false
set_option linter.unusedSimpArgs false
def spec_l7Body.f (k : Nat) (a0 : ByteArray) : Option (Bool) := (spec_l4Value.f k a0).bind fun t215 => (if t215 = true then (some (decide ((a0.size : Int) ≤ 40))) else (some false))
set_option maxHeartbeats 8000000 in
set_option maxRecDepth 100000 in
theorem spec_l7Body.calls (k : Nat) (a0 : ByteArray) (r : Bool) (w : World) (h : spec_l7Body.f k a0 = some r) :
    Calls Tryd.prog 52 #[.string a0] w fun e w' => e = .returned (.bool r) ∧ Drawn0 w w' := by
  have H : ((spec_l4Value.f k a0).bind fun t215 => (if t215 = true then (some (decide ((a0.size : Int) ≤ 40))) else (some false))) = some r := h; clear h; replace H := Option.bind_eq_some_iff.mp H; obtain ⟨t215, A20, H⟩ := H; replace H : (if t215 = true then (some (decide ((a0.size : Int) ≤ 40))) else (some false)) = some r := H; have A2 := Aside0.mk A20; clear A20; by_cases c3 : t215 = true
  · subst c3
    have H1 : (some (decide ((a0.size : Int) ≤ 40))) = some r := by rw [if_pos rfl] at H; exact H
    clear H; have H := H1; clear H1; obtain rfl := Option.some.inj H
    go_enter Tryd.func52, Tryd.ntmps52
    go_wp2_with (first | ((with_reducible refine gate_callee (f := 66) rfl ?_); refine goesL_ (some 4) rfl rfl Tryd.func66 (by kernel_rfl) rfl #[.string a0] rfl (by (try simp only [List.map_toArray, List.map_cons, List.map_nil]); first | done | rfl | (simp only [List.length_drop, List.length_take]; rfl)) ?_; (with_reducible refine (spec_l4Value.calls k a0 true _ A2.out).mono ?_); rintro e w' ⟨rfl, ⟨nd, rfl⟩⟩; refine ⟨_, rfl, ?_⟩))
    go_ret
    exact ⟨by first | rfl | (simp; done) | (simp [*]; done), by repeat (first | exact Drawn0.refl _ | apply Drawn0.step)⟩
  · replace c3 := Bool.eq_false_iff.mpr c3
    subst c3; have H1 : (some false) = some r := by rw [if_neg (show ¬ (false = true) by decide)] at H; exact H
    clear H; have H := H1; clear H1; obtain rfl := Option.some.inj H
    go_enter Tryd.func52, Tryd.ntmps52
    go_wp2_with (first | ((with_reducible refine gate_callee (f := 66) rfl ?_); refine goesL_ (some 4) rfl rfl Tryd.func66 (by kernel_rfl) rfl #[.string a0] rfl (by (try simp only [List.map_toArray, List.map_cons, List.map_nil]); first | done | rfl | (simp only [List.length_drop, List.length_take]; rfl)) ?_; (with_reducible refine (spec_l4Value.calls k a0 false _ A2.out).mono ?_); rintro e w' ⟨rfl, ⟨nd, rfl⟩⟩; refine ⟨_, rfl, ?_⟩))
    go_ret
    exact ⟨by first | rfl | (simp; done) | (simp [*]; done), by repeat (first | exact Drawn0.refl _ | apply Drawn0.step)⟩
end Go.Proofs.YtgkgkpoeiojmeaaDoor.P
namespace Go.Proofs.YtgkgkpoeiojmeaaDoor.P
open Go.RowKit Go.Proofs.YtgkgkpoeiojmeaaDoorW.PrintWords Go.Proofs.YtgkgkpoeiojmeaaDoorW.PrintLast Go.Proofs.YtgkgkpoeiojmeaaDoorW.PrintMore
attribute [local go_sem] max2_int min2_int max_two min_two max_three min_three max_four min_four   -- for this text's walks alone
set_option linter.unusedVariables false
set_option linter.unusedSimpArgs false
theorem xorB_ (t : Bool) (l : List UInt8) (h : (t != (l != ([] : List UInt8))) = true) : (l = [] ∧ t = true) ∨ (¬ l = [] ∧ t = false) := by
  cases t <;> cases l <;> simp_all
mutual
def spec_ReqOk.j0 : Nat → Bool → Int → ByteArray → ByteArray → Int → ByteArray → Option (Bool)
  | 0, _, _, _, _, _, _ => none
  | k + 1, x81, x217000, x217001, x217002, x217003, x217004 => if x81 = true then (some false) else (if x217000 = 5 then (spec_ReqOk.j1 k x217000 (x217000 == 5) x217000 x217001 x217002 x217003 x217004) else (spec_ReqOk.j1 k x217000 (x217000 == 11) x217000 x217001 x217002 x217003 x217004))
def spec_ReqOk.j1 : Nat → Int → Bool → Int → ByteArray → ByteArray → Int → ByteArray → Option (Bool)
  | 0, _, _, _, _, _, _, _ => none
  | k + 1, x83, x84, x217000, x217001, x217002, x217003, x217004 => if x84 = true then (if x217003 ≥ 0 then ((spec_l7Body.f k x217004).bind fun t231 => (some t231)) else (some false)) else (if x83 = 6 then (spec_ReqOk.j2 k (x83 == 6) x217000 x217001 x217002 x217003 x217004) else (spec_ReqOk.j2 k (x83 == 7) x217000 x217001 x217002 x217003 x217004))
def spec_ReqOk.j2 : Nat → Bool → Int → ByteArray → ByteArray → Int → ByteArray → Option (Bool)
  | 0, _, _, _, _, _, _ => none
  | k + 1, x95, x217000, x217001, x217002, x217003, x217004 => if x95 = true then ((spec_NameOk.f k x217004).bind fun t232 => (some t232)) else ((spec_l7Body.f k x217004).bind fun t233 => (some t233))
end
def spec_ReqOk.f (k : Nat) (a0_0 : Int) (a0_1 : ByteArray) (a0_2 : ByteArray) (a0_3 : Int) (a0_4 : ByteArray) : Option (Bool) := (spec_l1In.f a0_0 1 12).bind fun t217 => (if t217 = true then ((spec_l9Has.f k a0_0).bind fun bt218 => (if a0_0 = 12 then (if a0_1.toList = ([] : List UInt8) then (if a0_2.toList = ([] : List UInt8) then (if a0_3 = 0 then (some (a0_4.toList == ([] : List UInt8))) else (some false)) else (some false)) else (some false)) else ((spec_NameOk.f k a0_1).bind fun t221 => (if t221 = true then (if (bt218.1 != (a0_2.toList != ([] : List UInt8))) = true then (spec_ReqOk.j0 k true a0_0 a0_1 a0_2 a0_3 a0_4) else (if bt218.1 = true then ((spec_NameOk.f k a0_2).bind fun t222 => (if t222 = true then (if bt218.2.1 = true then (if bt218.2.2 = true then ((spec_l1In.f a0_3 (-1) 99999).bind fun t223 => (spec_ReqOk.j0 k (!t223) a0_0 a0_1 a0_2 a0_3 a0_4)) else (if a0_4.toList = ([] : List UInt8) then ((spec_l1In.f a0_3 (-1) 99999).bind fun t224 => (spec_ReqOk.j0 k (!t224) a0_0 a0_1 a0_2 a0_3 a0_4)) else (spec_ReqOk.j0 k true a0_0 a0_1 a0_2 a0_3 a0_4))) else (if a0_3 = 0 then (if bt218.2.2 = true then ((spec_l1In.f a0_3 (-1) 99999).bind fun t225 => (spec_ReqOk.j0 k (!t225) a0_0 a0_1 a0_2 a0_3 a0_4)) else (if a0_4.toList = ([] : List UInt8) then ((spec_l1In.f a0_3 (-1) 99999).bind fun t226 => (spec_ReqOk.j0 k (!t226) a0_0 a0_1 a0_2 a0_3 a0_4)) else (spec_ReqOk.j0 k true a0_0 a0_1 a0_2 a0_3 a0_4))) else (spec_ReqOk.j0 k true a0_0 a0_1 a0_2 a0_3 a0_4))) else (spec_ReqOk.j0 k true a0_0 a0_1 a0_2 a0_3 a0_4))) else (if bt218.2.1 = true then (if bt218.2.2 = true then ((spec_l1In.f a0_3 (-1) 99999).bind fun t227 => (spec_ReqOk.j0 k (!t227) a0_0 a0_1 a0_2 a0_3 a0_4)) else (if a0_4.toList = ([] : List UInt8) then ((spec_l1In.f a0_3 (-1) 99999).bind fun t228 => (spec_ReqOk.j0 k (!t228) a0_0 a0_1 a0_2 a0_3 a0_4)) else (spec_ReqOk.j0 k true a0_0 a0_1 a0_2 a0_3 a0_4))) else (if a0_3 = 0 then (if bt218.2.2 = true then ((spec_l1In.f a0_3 (-1) 99999).bind fun t229 => (spec_ReqOk.j0 k (!t229) a0_0 a0_1 a0_2 a0_3 a0_4)) else (if a0_4.toList = ([] : List UInt8) then ((spec_l1In.f a0_3 (-1) 99999).bind fun t230 => (spec_ReqOk.j0 k (!t230) a0_0 a0_1 a0_2 a0_3 a0_4)) else (spec_ReqOk.j0 k true a0_0 a0_1 a0_2 a0_3 a0_4))) else (spec_ReqOk.j0 k true a0_0 a0_1 a0_2 a0_3 a0_4))))) else (spec_ReqOk.j0 k true a0_0 a0_1 a0_2 a0_3 a0_4))))) else (some false))
set_option maxHeartbeats 8000000 in
set_option maxRecDepth 100000 in
theorem spec_ReqOk.calls (k : Nat) (a0_0 : Int) (a0_1 : ByteArray) (a0_2 : ByteArray) (a0_3 : Int) (a0_4 : ByteArray) (r : Bool) (w : World) (h : spec_ReqOk.f k a0_0 a0_1 a0_2 a0_3 a0_4 = some r) :
    Calls Tryd.prog 27 #[.agg #[.int .i64 a0_0, .string a0_1, .string a0_2, .int .i64 a0_3, .string a0_4]] w fun e w' => e = .returned (.bool r) ∧ Below w.heap.size w w' := by
  have hu42 := Tryd.underlying42; have HB := Aside0.mk (Below.refl w.heap.size w); have H : ((spec_l1In.f a0_0 1 12).bind fun t217 => (if t217 = true then ((spec_l9Has.f k a0_0).bind fun bt218 => (if a0_0 = 12 then (if a0_1.toList = ([] : List UInt8) then (if a0_2.toList = ([] : List UInt8) then (if a0_3 = 0 then (some (a0_4.toList == ([] : List UInt8))) else (some false)) else (some false)) else (some false)) else ((spec_NameOk.f k a0_1).bind fun t221 => (if t221 = true then (if (bt218.1 != (a0_2.toList != ([] : List UInt8))) = true then (spec_ReqOk.j0 k true a0_0 a0_1 a0_2 a0_3 a0_4) else (if bt218.1 = true then ((spec_NameOk.f k a0_2).bind fun t222 => (if t222 = true then (if bt218.2.1 = true then (if bt218.2.2 = true then ((spec_l1In.f a0_3 (-1) 99999).bind fun t223 => (spec_ReqOk.j0 k (!t223) a0_0 a0_1 a0_2 a0_3 a0_4)) else (if a0_4.toList = ([] : List UInt8) then ((spec_l1In.f a0_3 (-1) 99999).bind fun t224 => (spec_ReqOk.j0 k (!t224) a0_0 a0_1 a0_2 a0_3 a0_4)) else (spec_ReqOk.j0 k true a0_0 a0_1 a0_2 a0_3 a0_4))) else (if a0_3 = 0 then (if bt218.2.2 = true then ((spec_l1In.f a0_3 (-1) 99999).bind fun t225 => (spec_ReqOk.j0 k (!t225) a0_0 a0_1 a0_2 a0_3 a0_4)) else (if a0_4.toList = ([] : List UInt8) then ((spec_l1In.f a0_3 (-1) 99999).bind fun t226 => (spec_ReqOk.j0 k (!t226) a0_0 a0_1 a0_2 a0_3 a0_4)) else (spec_ReqOk.j0 k true a0_0 a0_1 a0_2 a0_3 a0_4))) else (spec_ReqOk.j0 k true a0_0 a0_1 a0_2 a0_3 a0_4))) else (spec_ReqOk.j0 k true a0_0 a0_1 a0_2 a0_3 a0_4))) else (if bt218.2.1 = true then (if bt218.2.2 = true then ((spec_l1In.f a0_3 (-1) 99999).bind fun t227 => (spec_ReqOk.j0 k (!t227) a0_0 a0_1 a0_2 a0_3 a0_4)) else (if a0_4.toList = ([] : List UInt8) then ((spec_l1In.f a0_3 (-1) 99999).bind fun t228 => (spec_ReqOk.j0 k (!t228) a0_0 a0_1 a0_2 a0_3 a0_4)) else (spec_ReqOk.j0 k true a0_0 a0_1 a0_2 a0_3 a0_4))) else (if a0_3 = 0 then (if bt218.2.2 = true then ((spec_l1In.f a0_3 (-1) 99999).bind fun t229 => (spec_ReqOk.j0 k (!t229) a0_0 a0_1 a0_2 a0_3 a0_4)) else (if a0_4.toList = ([] : List UInt8) then ((spec_l1In.f a0_3 (-1) 99999).bind fun t230 => (spec_ReqOk.j0 k (!t230) a0_0 a0_1 a0_2 a0_3 a0_4)) else (spec_ReqOk.j0 k true a0_0 a0_1 a0_2 a0_3 a0_4))) else (spec_ReqOk.j0 k true a0_0 a0_1 a0_2 a0_3 a0_4))))) else (spec_ReqOk.j0 k true a0_0 a0_1 a0_2 a0_3 a0_4))))) else (some false))) = some r := h; clear h; replace H := Option.bind_eq_some_iff.mp H; obtain ⟨t217, A20, H⟩ := H; replace H : (if t217 = true then ((spec_l9Has.f k a0_0).bind fun bt218 => (if a0_0 = 12 then (if a0_1.toList = ([] : List UInt8) then (if a0_2.toList = ([] : List UInt8) then (if a0_3 = 0 then (some (a0_4.toList == ([] : List UInt8))) else (some false)) else (some false)) else (some false)) else ((spec_NameOk.f k a0_1).bind fun t221 => (if t221 = true then (if (bt218.1 != (a0_2.toList != ([] : List UInt8))) = true then (spec_ReqOk.j0 k true a0_0 a0_1 a0_2 a0_3 a0_4) else (if bt218.1 = true then ((spec_NameOk.f k a0_2).bind fun t222 => (if t222 = true then (if bt218.2.1 = true then (if bt218.2.2 = true then ((spec_l1In.f a0_3 (-1) 99999).bind fun t223 => (spec_ReqOk.j0 k (!t223) a0_0 a0_1 a0_2 a0_3 a0_4)) else (if a0_4.toList = ([] : List UInt8) then ((spec_l1In.f a0_3 (-1) 99999).bind fun t224 => (spec_ReqOk.j0 k (!t224) a0_0 a0_1 a0_2 a0_3 a0_4)) else (spec_ReqOk.j0 k true a0_0 a0_1 a0_2 a0_3 a0_4))) else (if a0_3 = 0 then (if bt218.2.2 = true then ((spec_l1In.f a0_3 (-1) 99999).bind fun t225 => (spec_ReqOk.j0 k (!t225) a0_0 a0_1 a0_2 a0_3 a0_4)) else (if a0_4.toList = ([] : List UInt8) then ((spec_l1In.f a0_3 (-1) 99999).bind fun t226 => (spec_ReqOk.j0 k (!t226) a0_0 a0_1 a0_2 a0_3 a0_4)) else (spec_ReqOk.j0 k true a0_0 a0_1 a0_2 a0_3 a0_4))) else (spec_ReqOk.j0 k true a0_0 a0_1 a0_2 a0_3 a0_4))) else (spec_ReqOk.j0 k true a0_0 a0_1 a0_2 a0_3 a0_4))) else (if bt218.2.1 = true then (if bt218.2.2 = true then ((spec_l1In.f a0_3 (-1) 99999).bind fun t227 => (spec_ReqOk.j0 k (!t227) a0_0 a0_1 a0_2 a0_3 a0_4)) else (if a0_4.toList = ([] : List UInt8) then ((spec_l1In.f a0_3 (-1) 99999).bind fun t228 => (spec_ReqOk.j0 k (!t228) a0_0 a0_1 a0_2 a0_3 a0_4)) else (spec_ReqOk.j0 k true a0_0 a0_1 a0_2 a0_3 a0_4))) else (if a0_3 = 0 then (if bt218.2.2 = true then ((spec_l1In.f a0_3 (-1) 99999).bind fun t229 => (spec_ReqOk.j0 k (!t229) a0_0 a0_1 a0_2 a0_3 a0_4)) else (if a0_4.toList = ([] : List UInt8) then ((spec_l1In.f a0_3 (-1) 99999).bind fun t230 => (spec_ReqOk.j0 k (!t230) a0_0 a0_1 a0_2 a0_3 a0_4)) else (spec_ReqOk.j0 k true a0_0 a0_1 a0_2 a0_3 a0_4))) else (spec_ReqOk.j0 k true a0_0 a0_1 a0_2 a0_3 a0_4))))) else (spec_ReqOk.j0 k true a0_0 a0_1 a0_2 a0_3 a0_4))))) else (some false)) = some r := H; have A2 := Aside0.mk A20; clear A20; by_cases c3 : t217 = true
  · subst c3
    have H1 : ((spec_l9Has.f k a0_0).bind fun bt218 => (if a0_0 = 12 then (if a0_1.toList = ([] : List UInt8) then (if a0_2.toList = ([] : List UInt8) then (if a0_3 = 0 then (some (a0_4.toList == ([] : List UInt8))) else (some false)) else (some false)) else (some false)) else ((spec_NameOk.f k a0_1).bind fun t221 => (if t221 = true then (if (bt218.1 != (a0_2.toList != ([] : List UInt8))) = true then (spec_ReqOk.j0 k true a0_0 a0_1 a0_2 a0_3 a0_4) else (if bt218.1 = true then ((spec_NameOk.f k a0_2).bind fun t222 => (if t222 = true then (if bt218.2.1 = true then (if bt218.2.2 = true then ((spec_l1In.f a0_3 (-1) 99999).bind fun t223 => (spec_ReqOk.j0 k (!t223) a0_0 a0_1 a0_2 a0_3 a0_4)) else (if a0_4.toList = ([] : List UInt8) then ((spec_l1In.f a0_3 (-1) 99999).bind fun t224 => (spec_ReqOk.j0 k (!t224) a0_0 a0_1 a0_2 a0_3 a0_4)) else (spec_ReqOk.j0 k true a0_0 a0_1 a0_2 a0_3 a0_4))) else (if a0_3 = 0 then (if bt218.2.2 = true then ((spec_l1In.f a0_3 (-1) 99999).bind fun t225 => (spec_ReqOk.j0 k (!t225) a0_0 a0_1 a0_2 a0_3 a0_4)) else (if a0_4.toList = ([] : List UInt8) then ((spec_l1In.f a0_3 (-1) 99999).bind fun t226 => (spec_ReqOk.j0 k (!t226) a0_0 a0_1 a0_2 a0_3 a0_4)) else (spec_ReqOk.j0 k true a0_0 a0_1 a0_2 a0_3 a0_4))) else (spec_ReqOk.j0 k true a0_0 a0_1 a0_2 a0_3 a0_4))) else (spec_ReqOk.j0 k true a0_0 a0_1 a0_2 a0_3 a0_4))) else (if bt218.2.1 = true then (if bt218.2.2 = true then ((spec_l1In.f a0_3 (-1) 99999).bind fun t227 => (spec_ReqOk.j0 k (!t227) a0_0 a0_1 a0_2 a0_3 a0_4)) else (if a0_4.toList = ([] : List UInt8) then ((spec_l1In.f a0_3 (-1) 99999).bind fun t228 => (spec_ReqOk.j0 k (!t228) a0_0 a0_1 a0_2 a0_3 a0_4)) else (spec_ReqOk.j0 k true a0_0 a0_1 a0_2 a0_3 a0_4))) else (if a0_3 = 0 then (if bt218.2.2 = true then ((spec_l1In.f a0_3 (-1) 99999).bind fun t229 => (spec_ReqOk.j0 k (!t229) a0_0 a0_1 a0_2 a0_3 a0_4)) else (if a0_4.toList = ([] : List UInt8) then ((spec_l1In.f a0_3 (-1) 99999).bind fun t230 => (spec_ReqOk.j0 k (!t230) a0_0 a0_1 a0_2 a0_3 a0_4)) else (spec_ReqOk.j0 k true a0_0 a0_1 a0_2 a0_3 a0_4))) else (spec_ReqOk.j0 k true a0_0 a0_1 a0_2 a0_3 a0_4))))) else (spec_ReqOk.j0 k true a0_0 a0_1 a0_2 a0_3 a0_4))))) = some r := by rw [if_pos rfl] at H; exact H
    clear H; have H := H1; clear H1; replace H := Option.bind_eq_some_iff.mp H; obtain ⟨⟨t218, t219, t220⟩, A40, H⟩ := H; replace H : (if a0_0 = 12 then (if a0_1.toList = ([] : List UInt8) then (if a0_2.toList = ([] : List UInt8) then (if a0_3 = 0 then (some (a0_4.toList == ([] : List UInt8))) else (some false)) else (some false)) else (some false)) else ((spec_NameOk.f k a0_1).bind fun t221 => (if t221 = true then (if (t218 != (a0_2.toList != ([] : List UInt8))) = true then (spec_ReqOk.j0 k true a0_0 a0_1 a0_2 a0_3 a0_4) else (if t218 = true then ((spec_NameOk.f k a0_2).bind fun t222 => (if t222 = true then (if t219 = true then (if t220 = true then ((spec_l1In.f a0_3 (-1) 99999).bind fun t223 => (spec_ReqOk.j0 k (!t223) a0_0 a0_1 a0_2 a0_3 a0_4)) else (if a0_4.toList = ([] : List UInt8) then ((spec_l1In.f a0_3 (-1) 99999).bind fun t224 => (spec_ReqOk.j0 k (!t224) a0_0 a0_1 a0_2 a0_3 a0_4)) else (spec_ReqOk.j0 k true a0_0 a0_1 a0_2 a0_3 a0_4))) else (if a0_3 = 0 then (if t220 = true then ((spec_l1In.f a0_3 (-1) 99999).bind fun t225 => (spec_ReqOk.j0 k (!t225) a0_0 a0_1 a0_2 a0_3 a0_4)) else (if a0_4.toList = ([] : List UInt8) then ((spec_l1In.f a0_3 (-1) 99999).bind fun t226 => (spec_ReqOk.j0 k (!t226) a0_0 a0_1 a0_2 a0_3 a0_4)) else (spec_ReqOk.j0 k true a0_0 a0_1 a0_2 a0_3 a0_4))) else (spec_ReqOk.j0 k true a0_0 a0_1 a0_2 a0_3 a0_4))) else (spec_ReqOk.j0 k true a0_0 a0_1 a0_2 a0_3 a0_4))) else (if t219 = true then (if t220 = true then ((spec_l1In.f a0_3 (-1) 99999).bind fun t227 => (spec_ReqOk.j0 k (!t227) a0_0 a0_1 a0_2 a0_3 a0_4)) else (if a0_4.toList = ([] : List UInt8) then ((spec_l1In.f a0_3 (-1) 99999).bind fun t228 => (spec_ReqOk.j0 k (!t228) a0_0 a0_1 a0_2 a0_3 a0_4)) else (spec_ReqOk.j0 k true a0_0 a0_1 a0_2 a0_3 a0_4))) else (if a0_3 = 0 then (if t220 = true then ((spec_l1In.f a0_3 (-1) 99999).bind fun t229 => (spec_ReqOk.j0 k (!t229) a0_0 a0_1 a0_2 a0_3 a0_4)) else (if a0_4.toList = ([] : List UInt8) then ((spec_l1In.f a0_3 (-1) 99999).bind fun t230 => (spec_ReqOk.j0 k (!t230) a0_0 a0_1 a0_2 a0_3 a0_4)) else (spec_ReqOk.j0 k true a0_0 a0_1 a0_2 a0_3 a0_4))) else (spec_ReqOk.j0 k true a0_0 a0_1 a0_2 a0_3 a0_4))))) else (spec_ReqOk.j0 k true a0_0 a0_1 a0_2 a0_3 a0_4)))) = some r := H; have A4 := Aside0.mk A40; clear A40; by_cases c5 : a0_0 = 12
    · rw [if_pos c5] at H
      have c5b0 : (a0_0 == 12) = true := beq_iff_eq.mpr c5; have c5b1 : (a0_0 != 12) = false := bne_eq_false_iff_eq.mpr c5; clear c5; by_cases c6 : a0_1.toList = ([] : List UInt8)
      · rw [if_pos c6] at H
        have c6b0 : (a0_1.toList == ([] : List UInt8)) = true := beq_iff_eq.mpr c6; have c6b1 : (a0_1.toList != ([] : List UInt8)) = false := bne_eq_false_iff_eq.mpr c6; clear c6; by_cases c7 : a0_2.toList = ([] : List UInt8)
        · rw [if_pos c7] at H
          have c7b0 : (a0_2.toList == ([] : List UInt8)) = true := beq_iff_eq.mpr c7; have c7b1 : (a0_2.toList != ([] : List UInt8)) = false := bne_eq_false_iff_eq.mpr c7; clear c7; by_cases c8 : a0_3 = 0
          · rw [if_pos c8] at H
            have c8b0 : (a0_3 == 0) = true := beq_iff_eq.mpr c8; have c8b1 : (a0_3 != 0) = false := bne_eq_false_iff_eq.mpr c8; clear c8; obtain rfl := Option.some.inj H
            go_enter Tryd.func27, Tryd.ntmps27
            go_wp2_with (first | ((with_reducible refine gate_dst (N := 1) rfl ?_); refine box_event ?hg (N := 1) ?hd (cs := #[.int .i64 a0_0, .string a0_1, .string a0_2, .int .i64 a0_3, .string a0_4]) (t := 42) ?hr ?_; (case hd => rfl); (case hg => rfl); (case hr => first | (go_simp; done) | (go_simp; rfl)); intro gb216 hg w9 hbox hb; have n0_ := Aside0.mk (below_step (by repeat (first | (with_reducible first | exact HB.out | apply below_alloc | apply pw_below_drewN | apply below_drew1) | exact HB.out)) hb); have n1_ := Aside0.mk (hbox); have n2_ := Aside0.mk ((by rw [hg]; exact (below_size (by repeat (first | (with_reducible first | exact HB.out | apply below_alloc | apply pw_below_drewN | apply below_drew1) | exact HB.out))) : w.heap.size ≤ gb216)); have n3_ := Aside0.mk ((by rw [hg]; exact (below_size (by repeat (first | (with_reducible first | exact HB.out | apply below_alloc | apply pw_below_drewN | apply below_drew1) | exact HB.out))) : w.heap.size ≤ gb216)); clear HB; have HB := n0_; have BK216 := n1_; have GW216 := n2_; have GE216 := n3_; clear n0_ n1_ n2_ n3_; clear hb hbox hg; have hcz10_0 : w9.cell? ⟨gb216, 0, none⟩ = some (.int .i64 a0_0) := (blk_cell BK216.out 0).trans rfl; have hcz10_1 : w9.cell? ⟨gb216, 1, none⟩ = some (.string a0_1) := (blk_cell BK216.out 1).trans rfl; have hcz10_2 : w9.cell? ⟨gb216, 2, none⟩ = some (.string a0_2) := (blk_cell BK216.out 2).trans rfl; have hcz10_3 : w9.cell? ⟨gb216, 3, none⟩ = some (.int .i64 a0_3) := (blk_cell BK216.out 3).trans rfl; have hcz10_4 : w9.cell? ⟨gb216, 4, none⟩ = some (.string a0_4) := (blk_cell BK216.out 4).trans rfl; have hfz10_0 := blk_frozen BK216.out 0; have hfz10_1 := blk_frozen BK216.out 1; have hfz10_2 := blk_frozen BK216.out 2; have hfz10_3 := blk_frozen BK216.out 3; have hfz10_4 := blk_frozen BK216.out 4) | ((with_reducible refine gate_callee (f := 46) rfl ?_); refine goesL_ (some 8) rfl rfl Tryd.func46 (by kernel_rfl) rfl #[.int .i64 a0_0, .int .i64 1, .int .i64 12] rfl (by (try simp only [List.map_toArray, List.map_cons, List.map_nil]); first | done | rfl | (simp only [List.length_drop, List.length_take]; rfl)) ?_; (with_reducible refine (spec_l1In.calls a0_0 1 12 true _ A2.out).mono ?_); rintro e w' ⟨rfl, ⟨nd, rfl⟩⟩; refine ⟨_, rfl, ?_⟩) | ((with_reducible refine gate_callee (f := 51) rfl ?_); refine goesL_ (some 13) rfl rfl Tryd.func51 (by kernel_rfl) rfl #[.int .i64 a0_0] rfl (by (try simp only [List.map_toArray, List.map_cons, List.map_nil]); first | done | rfl | (simp only [List.length_drop, List.length_take]; rfl)) ?_; (with_reducible refine (spec_l9Has.calls k a0_0 t218 t219 t220 _ A4.out).mono ?_); rintro e w' ⟨rfl, ⟨nd, rfl⟩⟩; refine ⟨_, rfl, ?_⟩))
            go_ret
            exact ⟨by first | rfl | (simp [errW_none, errW_some] <;> rfl) | (simp [*, errW_none, errW_some] <;> rfl), by repeat (first | (with_reducible first | exact HB.out | apply below_alloc | apply pw_below_drewN | apply below_drew1 | refine below_set ?_ GE216.out) | exact HB.out)⟩
          · rw [if_neg c8] at H
            have c8b0 : (a0_3 == 0) = false := beq_eq_false_iff_ne.mpr c8; have c8b1 : (a0_3 != 0) = true := bne_iff_ne.mpr c8; obtain rfl := Option.some.inj H
            go_enter Tryd.func27, Tryd.ntmps27
            go_wp2_with (first | ((with_reducible refine gate_dst (N := 1) rfl ?_); refine box_event ?hg (N := 1) ?hd (cs := #[.int .i64 a0_0, .string a0_1, .string a0_2, .int .i64 a0_3, .string a0_4]) (t := 42) ?hr ?_; (case hd => rfl); (case hg => rfl); (case hr => first | (go_simp; done) | (go_simp; rfl)); intro gb216 hg w11 hbox hb; have n0_ := Aside0.mk (below_step (by repeat (first | (with_reducible first | exact HB.out | apply below_alloc | apply pw_below_drewN | apply below_drew1) | exact HB.out)) hb); have n1_ := Aside0.mk (hbox); have n2_ := Aside0.mk ((by rw [hg]; exact (below_size (by repeat (first | (with_reducible first | exact HB.out | apply below_alloc | apply pw_below_drewN | apply below_drew1) | exact HB.out))) : w.heap.size ≤ gb216)); have n3_ := Aside0.mk ((by rw [hg]; exact (below_size (by repeat (first | (with_reducible first | exact HB.out | apply below_alloc | apply pw_below_drewN | apply below_drew1) | exact HB.out))) : w.heap.size ≤ gb216)); clear HB; have HB := n0_; have BK216 := n1_; have GW216 := n2_; have GE216 := n3_; clear n0_ n1_ n2_ n3_; clear hb hbox hg; have hcz12_0 : w11.cell? ⟨gb216, 0, none⟩ = some (.int .i64 a0_0) := (blk_cell BK216.out 0).trans rfl; have hcz12_1 : w11.cell? ⟨gb216, 1, none⟩ = some (.string a0_1) := (blk_cell BK216.out 1).trans rfl; have hcz12_2 : w11.cell? ⟨gb216, 2, none⟩ = some (.string a0_2) := (blk_cell BK216.out 2).trans rfl; have hcz12_3 : w11.cell? ⟨gb216, 3, none⟩ = some (.int .i64 a0_3) := (blk_cell BK216.out 3).trans rfl; have hcz12_4 : w11.cell? ⟨gb216, 4, none⟩ = some (.string a0_4) := (blk_cell BK216.out 4).trans rfl; have hfz12_0 := blk_frozen BK216.out 0; have hfz12_1 := blk_frozen BK216.out 1; have hfz12_2 := blk_frozen BK216.out 2; have hfz12_3 := blk_frozen BK216.out 3; have hfz12_4 := blk_frozen BK216.out 4) | ((with_reducible refine gate_callee (f := 46) rfl ?_); refine goesL_ (some 8) rfl rfl Tryd.func46 (by kernel_rfl) rfl #[.int .i64 a0_0, .int .i64 1, .int .i64 12] rfl (by (try simp only [List.map_toArray, List.map_cons, List.map_nil]); first | done | rfl | (simp only [List.length_drop, List.length_take]; rfl)) ?_; (with_reducible refine (spec_l1In.calls a0_0 1 12 true _ A2.out).mono ?_); rintro e w' ⟨rfl, ⟨nd, rfl⟩⟩; refine ⟨_, rfl, ?_⟩) | ((with_reducible refine gate_callee (f := 51) rfl ?_); refine goesL_ (some 13) rfl rfl Tryd.func51 (by kernel_rfl) rfl #[.int .i64 a0_0] rfl (by (try simp only [List.map_toArray, List.map_cons, List.map_nil]); first | done | rfl | (simp only [List.length_drop, List.length_take]; rfl)) ?_; (with_reducible refine (spec_l9Has.calls k a0_0 t218 t219 t220 _ A4.out).mono ?_); rintro e w' ⟨rfl, ⟨nd, rfl⟩⟩; refine ⟨_, rfl, ?_⟩))
            go_ret
            exact ⟨by first | rfl | (simp [errW_none, errW_some] <;> rfl) | (simp [*, errW_none, errW_some] <;> rfl), by repeat (first | (with_reducible first | exact HB.out | apply below_alloc | apply pw_below_drewN | apply below_drew1 | refine below_set ?_ GE216.out) | exact HB.out)⟩
        · rw [if_neg c7] at H
          have c7b0 : (a0_2.toList == ([] : List UInt8)) = false := beq_eq_false_iff_ne.mpr c7; have c7b1 : (a0_2.toList != ([] : List UInt8)) = true := bne_iff_ne.mpr c7; obtain rfl := Option.some.inj H
          go_enter Tryd.func27, Tryd.ntmps27
          go_wp2_with (first | ((with_reducible refine gate_dst (N := 1) rfl ?_); refine box_event ?hg (N := 1) ?hd (cs := #[.int .i64 a0_0, .string a0_1, .string a0_2, .int .i64 a0_3, .string a0_4]) (t := 42) ?hr ?_; (case hd => rfl); (case hg => rfl); (case hr => first | (go_simp; done) | (go_simp; rfl)); intro gb216 hg w13 hbox hb; have n0_ := Aside0.mk (below_step (by repeat (first | (with_reducible first | exact HB.out | apply below_alloc | apply pw_below_drewN | apply below_drew1) | exact HB.out)) hb); have n1_ := Aside0.mk (hbox); have n2_ := Aside0.mk ((by rw [hg]; exact (below_size (by repeat (first | (with_reducible first | exact HB.out | apply below_alloc | apply pw_below_drewN | apply below_drew1) | exact HB.out))) : w.heap.size ≤ gb216)); have n3_ := Aside0.mk ((by rw [hg]; exact (below_size (by repeat (first | (with_reducible first | exact HB.out | apply below_alloc | apply pw_below_drewN | apply below_drew1) | exact HB.out))) : w.heap.size ≤ gb216)); clear HB; have HB := n0_; have BK216 := n1_; have GW216 := n2_; have GE216 := n3_; clear n0_ n1_ n2_ n3_; clear hb hbox hg; have hcz14_0 : w13.cell? ⟨gb216, 0, none⟩ = some (.int .i64 a0_0) := (blk_cell BK216.out 0).trans rfl; have hcz14_1 : w13.cell? ⟨gb216, 1, none⟩ = some (.string a0_1) := (blk_cell BK216.out 1).trans rfl; have hcz14_2 : w13.cell? ⟨gb216, 2, none⟩ = some (.string a0_2) := (blk_cell BK216.out 2).trans rfl; have hcz14_3 : w13.cell? ⟨gb216, 3, none⟩ = some (.int .i64 a0_3) := (blk_cell BK216.out 3).trans rfl; have hcz14_4 : w13.cell? ⟨gb216, 4, none⟩ = some (.string a0_4) := (blk_cell BK216.out 4).trans rfl; have hfz14_0 := blk_frozen BK216.out 0; have hfz14_1 := blk_frozen BK216.out 1; have hfz14_2 := blk_frozen BK216.out 2; have hfz14_3 := blk_frozen BK216.out 3; have hfz14_4 := blk_frozen BK216.out 4) | ((with_reducible refine gate_callee (f := 46) rfl ?_); refine goesL_ (some 8) rfl rfl Tryd.func46 (by kernel_rfl) rfl #[.int .i64 a0_0, .int .i64 1, .int .i64 12] rfl (by (try simp only [List.map_toArray, List.map_cons, List.map_nil]); first | done | rfl | (simp only [List.length_drop, List.length_take]; rfl)) ?_; (with_reducible refine (spec_l1In.calls a0_0 1 12 true _ A2.out).mono ?_); rintro e w' ⟨rfl, ⟨nd, rfl⟩⟩; refine ⟨_, rfl, ?_⟩) | ((with_reducible refine gate_callee (f := 51) rfl ?_); refine goesL_ (some 13) rfl rfl Tryd.func51 (by kernel_rfl) rfl #[.int .i64 a0_0] rfl (by (try simp only [List.map_toArray, List.map_cons, List.map_nil]); first | done | rfl | (simp only [List.length_drop, List.length_take]; rfl)) ?_; (with_reducible refine (spec_l9Has.calls k a0_0 t218 t219 t220 _ A4.out).mono ?_); rintro e w' ⟨rfl, ⟨nd, rfl⟩⟩; refine ⟨_, rfl, ?_⟩))
          go_ret
          exact ⟨by first | rfl | (simp [errW_none, errW_some] <;> rfl) | (simp [*, errW_none, errW_some] <;> rfl), by repeat (first | (with_reducible first | exact HB.out | apply below_alloc | apply pw_below_drewN | apply below_drew1 | refine below_set ?_ GE216.out) | exact HB.out)⟩
      · rw [if_neg c6] at H
        have c6b0 : (a0_1.toList == ([] : List UInt8)) = false := beq_eq_false_iff_ne.mpr c6; have c6b1 : (a0_1.toList != ([] : List UInt8)) = true := bne_iff_ne.mpr c6; obtain rfl := Option.some.inj H
        go_enter Tryd.func27, Tryd.ntmps27
        go_wp2_with (first | ((with_reducible refine gate_dst (N := 1) rfl ?_); refine box_event ?hg (N := 1) ?hd (cs := #[.int .i64 a0_0, .string a0_1, .string a0_2, .int .i64 a0_3, .string a0_4]) (t := 42) ?hr ?_; (case hd => rfl); (case hg => rfl); (case hr => first | (go_simp; done) | (go_simp; rfl)); intro gb216 hg w15 hbox hb; have n0_ := Aside0.mk (below_step (by repeat (first | (with_reducible first | exact HB.out | apply below_alloc | apply pw_below_drewN | apply below_drew1) | exact HB.out)) hb); have n1_ := Aside0.mk (hbox); have n2_ := Aside0.mk ((by rw [hg]; exact (below_size (by repeat (first | (with_reducible first | exact HB.out | apply below_alloc | apply pw_below_drewN | apply below_drew1) | exact HB.out))) : w.heap.size ≤ gb216)); have n3_ := Aside0.mk ((by rw [hg]; exact (below_size (by repeat (first | (with_reducible first | exact HB.out | apply below_alloc | apply pw_below_drewN | apply below_drew1) | exact HB.out))) : w.heap.size ≤ gb216)); clear HB; have HB := n0_; have BK216 := n1_; have GW216 := n2_; have GE216 := n3_; clear n0_ n1_ n2_ n3_; clear hb hbox hg; have hcz16_0 : w15.cell? ⟨gb216, 0, none⟩ = some (.int .i64 a0_0) := (blk_cell BK216.out 0).trans rfl; have hcz16_1 : w15.cell? ⟨gb216, 1, none⟩ = some (.string a0_1) := (blk_cell BK216.out 1).trans rfl; have hcz16_2 : w15.cell? ⟨gb216, 2, none⟩ = some (.string a0_2) := (blk_cell BK216.out 2).trans rfl; have hcz16_3 : w15.cell? ⟨gb216, 3, none⟩ = some (.int .i64 a0_3) := (blk_cell BK216.out 3).trans rfl; have hcz16_4 : w15.cell? ⟨gb216, 4, none⟩ = some (.string a0_4) := (blk_cell BK216.out 4).trans rfl; have hfz16_0 := blk_frozen BK216.out 0; have hfz16_1 := blk_frozen BK216.out 1; have hfz16_2 := blk_frozen BK216.out 2; have hfz16_3 := blk_frozen BK216.out 3; have hfz16_4 := blk_frozen BK216.out 4) | ((with_reducible refine gate_callee (f := 46) rfl ?_); refine goesL_ (some 8) rfl rfl Tryd.func46 (by kernel_rfl) rfl #[.int .i64 a0_0, .int .i64 1, .int .i64 12] rfl (by (try simp only [List.map_toArray, List.map_cons, List.map_nil]); first | done | rfl | (simp only [List.length_drop, List.length_take]; rfl)) ?_; (with_reducible refine (spec_l1In.calls a0_0 1 12 true _ A2.out).mono ?_); rintro e w' ⟨rfl, ⟨nd, rfl⟩⟩; refine ⟨_, rfl, ?_⟩) | ((with_reducible refine gate_callee (f := 51) rfl ?_); refine goesL_ (some 13) rfl rfl Tryd.func51 (by kernel_rfl) rfl #[.int .i64 a0_0] rfl (by (try simp only [List.map_toArray, List.map_cons, List.map_nil]); first | done | rfl | (simp only [List.length_drop, List.length_take]; rfl)) ?_; (with_reducible refine (spec_l9Has.calls k a0_0 t218 t219 t220 _ A4.out).mono ?_); rintro e w' ⟨rfl, ⟨nd, rfl⟩⟩; refine ⟨_, rfl, ?_⟩))
        go_ret
        exact ⟨by first | rfl | (simp [errW_none, errW_some] <;> rfl) | (simp [*, errW_none, errW_some] <;> rfl), by repeat (first | (with_reducible first | exact HB.out | apply below_alloc | apply pw_below_drewN | apply below_drew1 | refine below_set ?_ GE216.out) | exact HB.out)⟩
    · rw [if_neg c5] at H
      have c5b0 : (a0_0 == 12) = false := beq_eq_false_iff_ne.mpr c5; have c5b1 : (a0_0 != 12) = true := bne_iff_ne.mpr c5; have HC17 := Aside0.mk H; clear H
      go_enter Tryd.func27, Tryd.ntmps27
      go_upto_region 6 with (first | ((with_reducible refine gate_dst (N := 1) rfl ?_); refine box_event ?hg (N := 1) ?hd (cs := #[.int .i64 a0_0, .string a0_1, .string a0_2, .int .i64 a0_3, .string a0_4]) (t := 42) ?hr ?_; (case hd => rfl); (case hg => rfl); (case hr => first | (go_simp; done) | (go_simp; rfl)); intro gb216 hg w18 hbox hb; have n0_ := Aside0.mk (below_step (by repeat (first | (with_reducible first | exact HB.out | apply below_alloc | apply pw_below_drewN | apply below_drew1) | exact HB.out)) hb); have n1_ := Aside0.mk (hbox); have n2_ := Aside0.mk ((by rw [hg]; exact (below_size (by repeat (first | (with_reducible first | exact HB.out | apply below_alloc | apply pw_below_drewN | apply below_drew1) | exact HB.out))) : w.heap.size ≤ gb216)); have n3_ := Aside0.mk ((by rw [hg]; exact (below_size (by repeat (first | (with_reducible first | exact HB.out | apply below_alloc | apply pw_below_drewN | apply below_drew1) | exact HB.out))) : w.heap.size ≤ gb216)); clear HB; have HB := n0_; have BK216 := n1_; have GW216 := n2_; have GE216 := n3_; clear n0_ n1_ n2_ n3_; clear hb hbox hg; have hcz19_0 : w18.cell? ⟨gb216, 0, none⟩ = some (.int .i64 a0_0) := (blk_cell BK216.out 0).trans rfl; have hcz19_1 : w18.cell? ⟨gb216, 1, none⟩ = some (.string a0_1) := (blk_cell BK216.out 1).trans rfl; have hcz19_2 : w18.cell? ⟨gb216, 2, none⟩ = some (.string a0_2) := (blk_cell BK216.out 2).trans rfl; have hcz19_3 : w18.cell? ⟨gb216, 3, none⟩ = some (.int .i64 a0_3) := (blk_cell BK216.out 3).trans rfl; have hcz19_4 : w18.cell? ⟨gb216, 4, none⟩ = some (.string a0_4) := (blk_cell BK216.out 4).trans rfl; have hfz19_0 := blk_frozen BK216.out 0; have hfz19_1 := blk_frozen BK216.out 1; have hfz19_2 := blk_frozen BK216.out 2; have hfz19_3 := blk_frozen BK216.out 3; have hfz19_4 := blk_frozen BK216.out 4) | ((with_reducible refine gate_callee (f := 46) rfl ?_); refine goesL_ (some 8) rfl rfl Tryd.func46 (by kernel_rfl) rfl #[.int .i64 a0_0, .int .i64 1, .int .i64 12] rfl (by (try simp only [List.map_toArray, List.map_cons, List.map_nil]); first | done | rfl | (simp only [List.length_drop, List.length_take]; rfl)) ?_; (with_reducible refine (spec_l1In.calls a0_0 1 12 true _ A2.out).mono ?_); rintro e w' ⟨rfl, ⟨nd, rfl⟩⟩; refine ⟨_, rfl, ?_⟩) | ((with_reducible refine gate_callee (f := 51) rfl ?_); refine goesL_ (some 13) rfl rfl Tryd.func51 (by kernel_rfl) rfl #[.int .i64 a0_0] rfl (by (try simp only [List.map_toArray, List.map_cons, List.map_nil]); first | done | rfl | (simp only [List.length_drop, List.length_take]; rfl)) ?_; (with_reducible refine (spec_l9Has.calls k a0_0 t218 t219 t220 _ A4.out).mono ?_); rintro e w' ⟨rfl, ⟨nd, rfl⟩⟩; refine ⟨_, rfl, ?_⟩))
      (try simp only [Act.put, List.setIfInBounds_toArray, List.set_cons_zero, List.set_cons_succ])
      go_cut [81] (fun v81 wc => ∃ (kq : Nat) (x81_16 : Bool), v81 = .bool x81_16 ∧ Aside0 (spec_ReqOk.j0 kq x81_16 a0_0 a0_1 a0_2 a0_3 a0_4 = some r) ∧ Aside0 (kq ≤ k) ∧ Aside0 (wc.heap[gb216]? = some (.cells #[.int .i64 a0_0, .string a0_1, .string a0_2, .int .i64 a0_3, .string a0_4] 42 (0, 0))) ∧ Aside0 (Below w.heap.size w wc))
      case first =>
        have H := HC17.out; clear HC17; replace H := Option.bind_eq_some_iff.mp H; obtain ⟨t221, A200, H⟩ := H; replace H : (if t221 = true then (if (t218 != (a0_2.toList != ([] : List UInt8))) = true then (spec_ReqOk.j0 k true a0_0 a0_1 a0_2 a0_3 a0_4) else (if t218 = true then ((spec_NameOk.f k a0_2).bind fun t222 => (if t222 = true then (if t219 = true then (if t220 = true then ((spec_l1In.f a0_3 (-1) 99999).bind fun t223 => (spec_ReqOk.j0 k (!t223) a0_0 a0_1 a0_2 a0_3 a0_4)) else (if a0_4.toList = ([] : List UInt8) then ((spec_l1In.f a0_3 (-1) 99999).bind fun t224 => (spec_ReqOk.j0 k (!t224) a0_0 a0_1 a0_2 a0_3 a0_4)) else (spec_ReqOk.j0 k true a0_0 a0_1 a0_2 a0_3 a0_4))) else (if a0_3 = 0 then (if t220 = true then ((spec_l1In.f a0_3 (-1) 99999).bind fun t225 => (spec_ReqOk.j0 k (!t225) a0_0 a0_1 a0_2 a0_3 a0_4)) else (if a0_4.toList = ([] : List UInt8) then ((spec_l1In.f a0_3 (-1) 99999).bind fun t226 => (spec_ReqOk.j0 k (!t226) a0_0 a0_1 a0_2 a0_3 a0_4)) else (spec_ReqOk.j0 k true a0_0 a0_1 a0_2 a0_3 a0_4))) else (spec_ReqOk.j0 k true a0_0 a0_1 a0_2 a0_3 a0_4))) else (spec_ReqOk.j0 k true a0_0 a0_1 a0_2 a0_3 a0_4))) else (if t219 = true then (if t220 = true then ((spec_l1In.f a0_3 (-1) 99999).bind fun t227 => (spec_ReqOk.j0 k (!t227) a0_0 a0_1 a0_2 a0_3 a0_4)) else (if a0_4.toList = ([] : List UInt8) then ((spec_l1In.f a0_3 (-1) 99999).bind fun t228 => (spec_ReqOk.j0 k (!t228) a0_0 a0_1 a0_2 a0_3 a0_4)) else (spec_ReqOk.j0 k true a0_0 a0_1 a0_2 a0_3 a0_4))) else (if a0_3 = 0 then (if t220 = true then ((spec_l1In.f a0_3 (-1) 99999).bind fun t229 => (spec_ReqOk.j0 k (!t229) a0_0 a0_1 a0_2 a0_3 a0_4)) else (if a0_4.toList = ([] : List UInt8) then ((spec_l1In.f a0_3 (-1) 99999).bind fun t230 => (spec_ReqOk.j0 k (!t230) a0_0 a0_1 a0_2 a0_3 a0_4)) else (spec_ReqOk.j0 k true a0_0 a0_1 a0_2 a0_3 a0_4))) else (spec_ReqOk.j0 k true a0_0 a0_1 a0_2 a0_3 a0_4))))) else (spec_ReqOk.j0 k true a0_0 a0_1 a0_2 a0_3 a0_4)) = some r := H; have A20 := Aside0.mk A200; clear A200; by_cases c21 : t221 = true
        · subst c21
          have H1 : (if (t218 != (a0_2.toList != ([] : List UInt8))) = true then (spec_ReqOk.j0 k true a0_0 a0_1 a0_2 a0_3 a0_4) else (if t218 = true then ((spec_NameOk.f k a0_2).bind fun t222 => (if t222 = true then (if t219 = true then (if t220 = true then ((spec_l1In.f a0_3 (-1) 99999).bind fun t223 => (spec_ReqOk.j0 k (!t223) a0_0 a0_1 a0_2 a0_3 a0_4)) else (if a0_4.toList = ([] : List UInt8) then ((spec_l1In.f a0_3 (-1) 99999).bind fun t224 => (spec_ReqOk.j0 k (!t224) a0_0 a0_1 a0_2 a0_3 a0_4)) else (spec_ReqOk.j0 k true a0_0 a0_1 a0_2 a0_3 a0_4))) else (if a0_3 = 0 then (if t220 = true then ((spec_l1In.f a0_3 (-1) 99999).bind fun t225 => (spec_ReqOk.j0 k (!t225) a0_0 a0_1 a0_2 a0_3 a0_4)) else (if a0_4.toList = ([] : List UInt8) then ((spec_l1In.f a0_3 (-1) 99999).bind fun t226 => (spec_ReqOk.j0 k (!t226) a0_0 a0_1 a0_2 a0_3 a0_4)) else (spec_ReqOk.j0 k true a0_0 a0_1 a0_2 a0_3 a0_4))) else (spec_ReqOk.j0 k true a0_0 a0_1 a0_2 a0_3 a0_4))) else (spec_ReqOk.j0 k true a0_0 a0_1 a0_2 a0_3 a0_4))) else (if t219 = true then (if t220 = true then ((spec_l1In.f a0_3 (-1) 99999).bind fun t227 => (spec_ReqOk.j0 k (!t227) a0_0 a0_1 a0_2 a0_3 a0_4)) else (if a0_4.toList = ([] : List UInt8) then ((spec_l1In.f a0_3 (-1) 99999).bind fun t228 => (spec_ReqOk.j0 k (!t228) a0_0 a0_1 a0_2 a0_3 a0_4)) else (spec_ReqOk.j0 k true a0_0 a0_1 a0_2 a0_3 a0_4))) else (if a0_3 = 0 then (if t220 = true then ((spec_l1In.f a0_3 (-1) 99999).bind fun t229 => (spec_ReqOk.j0 k (!t229) a0_0 a0_1 a0_2 a0_3 a0_4)) else (if a0_4.toList = ([] : List UInt8) then ((spec_l1In.f a0_3 (-1) 99999).bind fun t230 => (spec_ReqOk.j0 k (!t230) a0_0 a0_1 a0_2 a0_3 a0_4)) else (spec_ReqOk.j0 k true a0_0 a0_1 a0_2 a0_3 a0_4))) else (spec_ReqOk.j0 k true a0_0 a0_1 a0_2 a0_3 a0_4))))) = some r := by rw [if_pos rfl] at H; exact H
          clear H; have H := H1; clear H1; by_cases c22 : (t218 != (a0_2.toList != ([] : List UInt8))) = true
          · rw [if_pos c22] at H
            have c22b0 : (t218 != (a0_2.toList != ([] : List UInt8))) = true := c22
            (try (have c22s0a : ¬ (a0_2.toList = ([] : List UInt8)) := by simpa using c22b0))
            (try (have c22s0b : (a0_2.toList == ([] : List UInt8)) = false := by simpa using c22b0))
            (try (have c22s0c : (a0_2.toList == ([] : List UInt8)) = true := by simpa using c22b0))
            (try (have c22s0d : a0_2.toList.isEmpty = false := by simpa using c22b0))
            (try (have c22s0e : a0_2.toList.isEmpty = true := by simpa using c22b0))
            (try (have c22b1 : decide (t218 = (a0_2.toList != ([] : List UInt8))) = false := by simpa using c22))
            (try (have c22b2 : (t218 == (a0_2.toList != ([] : List UInt8))) = false := by simpa using c22))
            (try (have c22b3 : ¬ (t218 = (a0_2.toList != ([] : List UInt8))) := by simpa using c22))
            clear c22
            (first | rw [c22b0] | (simp only [i64_w, i32_w]; rw [c22b0]) | skip)
            have H' := Aside0.mk H; clear H; have hcz23_0 : w18.cell? ⟨gb216, 0, none⟩ = some (.int .i64 a0_0) := (blk_cell BK216.out 0).trans rfl; have hcz23_1 : w18.cell? ⟨gb216, 1, none⟩ = some (.string a0_1) := (blk_cell BK216.out 1).trans rfl; have hcz23_2 : w18.cell? ⟨gb216, 2, none⟩ = some (.string a0_2) := (blk_cell BK216.out 2).trans rfl; have hcz23_3 : w18.cell? ⟨gb216, 3, none⟩ = some (.int .i64 a0_3) := (blk_cell BK216.out 3).trans rfl; have hcz23_4 : w18.cell? ⟨gb216, 4, none⟩ = some (.string a0_4) := (blk_cell BK216.out 4).trans rfl; have hfz23_0 := blk_frozen BK216.out 0; have hfz23_1 := blk_frozen BK216.out 1; have hfz23_2 := blk_frozen BK216.out 2; have hfz23_3 := blk_frozen BK216.out 3; have hfz23_4 := blk_frozen BK216.out 4; rcases xorB_ _ _ c22b0 with ⟨zF_, zG_⟩ | ⟨zF_, zG_⟩
            · subst zG_
              (try clear c22b0)
              (try clear c22b1)
              (try clear c22b2)
              go_wp2_with (first | ((with_reducible refine gate_callee (f := 19) rfl ?_); refine goesL_ (some 40) rfl rfl Tryd.func19 (by kernel_rfl) rfl #[.string a0_1] rfl (by (try simp only [List.map_toArray, List.map_cons, List.map_nil]); first | done | rfl | (simp only [List.length_drop, List.length_take]; rfl)) ?_; (with_reducible refine (spec_NameOk.calls k a0_1 true _ A20.out).mono ?_); rintro e w' ⟨rfl, ⟨nd, rfl⟩⟩; refine ⟨_, rfl, ?_⟩))
              go_meet
              case rel => exact ⟨_, (true), (by first | rfl | (simp; done) | (simp [*]; done)), H', ⟨by first | omega | exact Nat.le_refl _⟩, ⟨by (with_reducible repeat (first | refine blk_drewN ?_ _ | refine blk_drew ?_ | refine blk_alloc ?_ _)); exact BK216.out⟩, ⟨by repeat (first | (with_reducible first | exact HB.out | apply below_alloc | apply pw_below_drewN | apply below_drew1 | refine below_set ?_ GE216.out) | exact HB.out)⟩⟩
            · subst zG_
              (try clear c22b0)
              (try clear c22b1)
              (try clear c22b2)
              go_wp2_with (first | ((with_reducible refine gate_callee (f := 19) rfl ?_); refine goesL_ (some 40) rfl rfl Tryd.func19 (by kernel_rfl) rfl #[.string a0_1] rfl (by (try simp only [List.map_toArray, List.map_cons, List.map_nil]); first | done | rfl | (simp only [List.length_drop, List.length_take]; rfl)) ?_; (with_reducible refine (spec_NameOk.calls k a0_1 true _ A20.out).mono ?_); rintro e w' ⟨rfl, ⟨nd, rfl⟩⟩; refine ⟨_, rfl, ?_⟩))
              go_meet
              case rel => exact ⟨_, (true), (by first | rfl | (simp; done) | (simp [*]; done)), H', ⟨by first | omega | exact Nat.le_refl _⟩, ⟨by (with_reducible repeat (first | refine blk_drewN ?_ _ | refine blk_drew ?_ | refine blk_alloc ?_ _)); exact BK216.out⟩, ⟨by repeat (first | (with_reducible first | exact HB.out | apply below_alloc | apply pw_below_drewN | apply below_drew1 | refine below_set ?_ GE216.out) | exact HB.out)⟩⟩
          · rw [if_neg c22] at H
            have c22b0 : (t218 != (a0_2.toList != ([] : List UInt8))) = false := by simpa using c22
            (try (have c22s0a : ¬ (a0_2.toList = ([] : List UInt8)) := by simpa using c22b0))
            (try (have c22s0b : (a0_2.toList == ([] : List UInt8)) = false := by simpa using c22b0))
            (try (have c22s0c : (a0_2.toList == ([] : List UInt8)) = true := by simpa using c22b0))
            (try (have c22s0d : a0_2.toList.isEmpty = false := by simpa using c22b0))
            (try (have c22s0e : a0_2.toList.isEmpty = true := by simpa using c22b0))
            (try (have c22b1 : decide (t218 = (a0_2.toList != ([] : List UInt8))) = true := by simpa using c22))
            (try (have c22b2 : (t218 == (a0_2.toList != ([] : List UInt8))) = true := by simpa using c22))
            clear c22
            (first | rw [c22b0] | (simp only [i64_w, i32_w]; rw [c22b0]) | skip)
            by_cases c24 : t218 = true
            · subst c24
              have H1 : ((spec_NameOk.f k a0_2).bind fun t222 => (if t222 = true then (if t219 = true then (if t220 = true then ((spec_l1In.f a0_3 (-1) 99999).bind fun t223 => (spec_ReqOk.j0 k (!t223) a0_0 a0_1 a0_2 a0_3 a0_4)) else (if a0_4.toList = ([] : List UInt8) then ((spec_l1In.f a0_3 (-1) 99999).bind fun t224 => (spec_ReqOk.j0 k (!t224) a0_0 a0_1 a0_2 a0_3 a0_4)) else (spec_ReqOk.j0 k true a0_0 a0_1 a0_2 a0_3 a0_4))) else (if a0_3 = 0 then (if t220 = true then ((spec_l1In.f a0_3 (-1) 99999).bind fun t225 => (spec_ReqOk.j0 k (!t225) a0_0 a0_1 a0_2 a0_3 a0_4)) else (if a0_4.toList = ([] : List UInt8) then ((spec_l1In.f a0_3 (-1) 99999).bind fun t226 => (spec_ReqOk.j0 k (!t226) a0_0 a0_1 a0_2 a0_3 a0_4)) else (spec_ReqOk.j0 k true a0_0 a0_1 a0_2 a0_3 a0_4))) else (spec_ReqOk.j0 k true a0_0 a0_1 a0_2 a0_3 a0_4))) else (spec_ReqOk.j0 k true a0_0 a0_1 a0_2 a0_3 a0_4))) = some r := by rw [if_pos rfl] at H; exact H
              clear H; have H := H1; clear H1; replace H := Option.bind_eq_some_iff.mp H; obtain ⟨t222, A250, H⟩ := H; replace H : (if t222 = true then (if t219 = true then (if t220 = true then ((spec_l1In.f a0_3 (-1) 99999).bind fun t223 => (spec_ReqOk.j0 k (!t223) a0_0 a0_1 a0_2 a0_3 a0_4)) else (if a0_4.toList = ([] : List UInt8) then ((spec_l1In.f a0_3 (-1) 99999).bind fun t224 => (spec_ReqOk.j0 k (!t224) a0_0 a0_1 a0_2 a0_3 a0_4)) else (spec_ReqOk.j0 k true a0_0 a0_1 a0_2 a0_3 a0_4))) else (if a0_3 = 0 then (if t220 = true then ((spec_l1In.f a0_3 (-1) 99999).bind fun t225 => (spec_ReqOk.j0 k (!t225) a0_0 a0_1 a0_2 a0_3 a0_4)) else (if a0_4.toList = ([] : List UInt8) then ((spec_l1In.f a0_3 (-1) 99999).bind fun t226 => (spec_ReqOk.j0 k (!t226) a0_0 a0_1 a0_2 a0_3 a0_4)) else (spec_ReqOk.j0 k true a0_0 a0_1 a0_2 a0_3 a0_4))) else (spec_ReqOk.j0 k true a0_0 a0_1 a0_2 a0_3 a0_4))) else (spec_ReqOk.j0 k true a0_0 a0_1 a0_2 a0_3 a0_4)) = some r := H; have A25 := Aside0.mk A250; clear A250; by_cases c26 : t222 = true
              · subst c26
                have H1 : (if t219 = true then (if t220 = true then ((spec_l1In.f a0_3 (-1) 99999).bind fun t223 => (spec_ReqOk.j0 k (!t223) a0_0 a0_1 a0_2 a0_3 a0_4)) else (if a0_4.toList = ([] : List UInt8) then ((spec_l1In.f a0_3 (-1) 99999).bind fun t224 => (spec_ReqOk.j0 k (!t224) a0_0 a0_1 a0_2 a0_3 a0_4)) else (spec_ReqOk.j0 k true a0_0 a0_1 a0_2 a0_3 a0_4))) else (if a0_3 = 0 then (if t220 = true then ((spec_l1In.f a0_3 (-1) 99999).bind fun t225 => (spec_ReqOk.j0 k (!t225) a0_0 a0_1 a0_2 a0_3 a0_4)) else (if a0_4.toList = ([] : List UInt8) then ((spec_l1In.f a0_3 (-1) 99999).bind fun t226 => (spec_ReqOk.j0 k (!t226) a0_0 a0_1 a0_2 a0_3 a0_4)) else (spec_ReqOk.j0 k true a0_0 a0_1 a0_2 a0_3 a0_4))) else (spec_ReqOk.j0 k true a0_0 a0_1 a0_2 a0_3 a0_4))) = some r := by rw [if_pos rfl] at H; exact H
                clear H; have H := H1; clear H1; by_cases c27 : t219 = true
                · subst c27
                  have H1 : (if t220 = true then ((spec_l1In.f a0_3 (-1) 99999).bind fun t223 => (spec_ReqOk.j0 k (!t223) a0_0 a0_1 a0_2 a0_3 a0_4)) else (if a0_4.toList = ([] : List UInt8) then ((spec_l1In.f a0_3 (-1) 99999).bind fun t224 => (spec_ReqOk.j0 k (!t224) a0_0 a0_1 a0_2 a0_3 a0_4)) else (spec_ReqOk.j0 k true a0_0 a0_1 a0_2 a0_3 a0_4))) = some r := by rw [if_pos rfl] at H; exact H
                  clear H; have H := H1; clear H1; by_cases c28 : t220 = true
                  · subst c28
                    have H1 : ((spec_l1In.f a0_3 (-1) 99999).bind fun t223 => (spec_ReqOk.j0 k (!t223) a0_0 a0_1 a0_2 a0_3 a0_4)) = some r := by rw [if_pos rfl] at H; exact H
                    clear H; have H := H1; clear H1; replace H := Option.bind_eq_some_iff.mp H; obtain ⟨t223, A290, H⟩ := H; replace H : (spec_ReqOk.j0 k (!t223) a0_0 a0_1 a0_2 a0_3 a0_4) = some r := H; have A29 := Aside0.mk A290; clear A290; have H' := Aside0.mk H; clear H; have hcz30_0 : w18.cell? ⟨gb216, 0, none⟩ = some (.int .i64 a0_0) := (blk_cell BK216.out 0).trans rfl; have hcz30_1 : w18.cell? ⟨gb216, 1, none⟩ = some (.string a0_1) := (blk_cell BK216.out 1).trans rfl; have hcz30_2 : w18.cell? ⟨gb216, 2, none⟩ = some (.string a0_2) := (blk_cell BK216.out 2).trans rfl; have hcz30_3 : w18.cell? ⟨gb216, 3, none⟩ = some (.int .i64 a0_3) := (blk_cell BK216.out 3).trans rfl; have hcz30_4 : w18.cell? ⟨gb216, 4, none⟩ = some (.string a0_4) := (blk_cell BK216.out 4).trans rfl; have hfz30_0 := blk_frozen BK216.out 0; have hfz30_1 := blk_frozen BK216.out 1; have hfz30_2 := blk_frozen BK216.out 2; have hfz30_3 := blk_frozen BK216.out 3; have hfz30_4 := blk_frozen BK216.out 4
                    (try (have zx_ : ¬ (a0_2.toList = ([] : List UInt8)) := by simpa using c22b0))
                    (try (have zy_ : (a0_2.toList = ([] : List UInt8)) := by simpa using c22b0))
                    (try (have zb_ : (a0_2.toList == ([] : List UInt8)) = false := by simpa using c22b0))
                    (try (have zc_ : (a0_2.toList == ([] : List UInt8)) = true := by simpa using c22b0))
                    (try (have zA_ : (a0_2.toList = ([] : List UInt8)) → t218 = true := by intro e_; simpa [e_] using c22b0))
                    (try (have zB_ : ¬ (a0_2.toList = ([] : List UInt8)) → t218 = false := by intro e_; simpa [e_] using c22b0))
                    (try (have zC_ : (a0_2.toList = ([] : List UInt8)) → t218 = false := by intro e_; simpa [e_] using c22b0))
                    (try (have zD_ : ¬ (a0_2.toList = ([] : List UInt8)) → t218 = true := by intro e_; simpa [e_] using c22b0))
                    go_wp2_with (first | ((with_reducible refine gate_callee (f := 19) rfl ?_); refine goesL_ (some 40) rfl rfl Tryd.func19 (by kernel_rfl) rfl #[.string a0_1] rfl (by (try simp only [List.map_toArray, List.map_cons, List.map_nil]); first | done | rfl | (simp only [List.length_drop, List.length_take]; rfl)) ?_; (with_reducible refine (spec_NameOk.calls k a0_1 true _ A20.out).mono ?_); rintro e w' ⟨rfl, ⟨nd, rfl⟩⟩; refine ⟨_, rfl, ?_⟩) | (go_at_call 19; (with_reducible refine (spec_NameOk.calls k a0_2 true _ A25.out).mono ?_); rintro e w' ⟨rfl, ⟨nd, rfl⟩⟩) | (go_at_call 46; (with_reducible refine (spec_l1In.calls a0_3 (-1) 99999 t223 _ A29.out).mono ?_); rintro e w' ⟨rfl, ⟨nd, rfl⟩⟩))
                    go_meet
                    case rel => exact ⟨_, (!t223), (by first | rfl | (simp; done) | (simp [*]; done)), H', ⟨by first | omega | exact Nat.le_refl _⟩, ⟨by (with_reducible repeat (first | refine blk_drewN ?_ _ | refine blk_drew ?_ | refine blk_alloc ?_ _)); exact BK216.out⟩, ⟨by repeat (first | (with_reducible first | exact HB.out | apply below_alloc | apply pw_below_drewN | apply below_drew1 | refine below_set ?_ GE216.out) | exact HB.out)⟩⟩
                  · replace c28 := Bool.eq_false_iff.mpr c28
                    subst c28; have H1 : (if a0_4.toList = ([] : List UInt8) then ((spec_l1In.f a0_3 (-1) 99999).bind fun t224 => (spec_ReqOk.j0 k (!t224) a0_0 a0_1 a0_2 a0_3 a0_4)) else (spec_ReqOk.j0 k true a0_0 a0_1 a0_2 a0_3 a0_4)) = some r := by rw [if_neg (show ¬ (false = true) by decide)] at H; exact H
                    clear H; have H := H1; clear H1; by_cases c31 : a0_4.toList = ([] : List UInt8)
                    · rw [if_pos c31] at H
                      have c31b0 : (a0_4.toList == ([] : List UInt8)) = true := beq_iff_eq.mpr c31; have c31b1 : (a0_4.toList != ([] : List UInt8)) = false := bne_eq_false_iff_eq.mpr c31; clear c31; replace H := Option.bind_eq_some_iff.mp H; obtain ⟨t224, A320, H⟩ := H; replace H : (spec_ReqOk.j0 k (!t224) a0_0 a0_1 a0_2 a0_3 a0_4) = some r := H; have A32 := Aside0.mk A320; clear A320; have H' := Aside0.mk H; clear H; have hcz33_0 : w18.cell? ⟨gb216, 0, none⟩ = some (.int .i64 a0_0) := (blk_cell BK216.out 0).trans rfl; have hcz33_1 : w18.cell? ⟨gb216, 1, none⟩ = some (.string a0_1) := (blk_cell BK216.out 1).trans rfl; have hcz33_2 : w18.cell? ⟨gb216, 2, none⟩ = some (.string a0_2) := (blk_cell BK216.out 2).trans rfl; have hcz33_3 : w18.cell? ⟨gb216, 3, none⟩ = some (.int .i64 a0_3) := (blk_cell BK216.out 3).trans rfl; have hcz33_4 : w18.cell? ⟨gb216, 4, none⟩ = some (.string a0_4) := (blk_cell BK216.out 4).trans rfl; have hfz33_0 := blk_frozen BK216.out 0; have hfz33_1 := blk_frozen BK216.out 1; have hfz33_2 := blk_frozen BK216.out 2; have hfz33_3 := blk_frozen BK216.out 3; have hfz33_4 := blk_frozen BK216.out 4
                      (try (have zx_ : ¬ (a0_2.toList = ([] : List UInt8)) := by simpa using c22b0))
                      (try (have zy_ : (a0_2.toList = ([] : List UInt8)) := by simpa using c22b0))
                      (try (have zb_ : (a0_2.toList == ([] : List UInt8)) = false := by simpa using c22b0))
                      (try (have zc_ : (a0_2.toList == ([] : List UInt8)) = true := by simpa using c22b0))
                      (try (have zA_ : (a0_2.toList = ([] : List UInt8)) → t218 = true := by intro e_; simpa [e_] using c22b0))
                      (try (have zB_ : ¬ (a0_2.toList = ([] : List UInt8)) → t218 = false := by intro e_; simpa [e_] using c22b0))
                      (try (have zC_ : (a0_2.toList = ([] : List UInt8)) → t218 = false := by intro e_; simpa [e_] using c22b0))
                      (try (have zD_ : ¬ (a0_2.toList = ([] : List UInt8)) → t218 = true := by intro e_; simpa [e_] using c22b0))
                      go_wp2_with (first | ((with_reducible refine gate_callee (f := 19) rfl ?_); refine goesL_ (some 40) rfl rfl Tryd.func19 (by kernel_rfl) rfl #[.string a0_1] rfl (by (try simp only [List.map_toArray, List.map_cons, List.map_nil]); first | done | rfl | (simp only [List.length_drop, List.length_take]; rfl)) ?_; (with_reducible refine (spec_NameOk.calls k a0_1 true _ A20.out).mono ?_); rintro e w' ⟨rfl, ⟨nd, rfl⟩⟩; refine ⟨_, rfl, ?_⟩) | (go_at_call 19; (with_reducible refine (spec_NameOk.calls k a0_2 true _ A25.out).mono ?_); rintro e w' ⟨rfl, ⟨nd, rfl⟩⟩) | (go_at_call 46; (with_reducible refine (spec_l1In.calls a0_3 (-1) 99999 t224 _ A32.out).mono ?_); rintro e w' ⟨rfl, ⟨nd, rfl⟩⟩))
                      go_meet
                      case rel => exact ⟨_, (!t224), (by first | rfl | (simp; done) | (simp [*]; done)), H', ⟨by first | omega | exact Nat.le_refl _⟩, ⟨by (with_reducible repeat (first | refine blk_drewN ?_ _ | refine blk_drew ?_ | refine blk_alloc ?_ _)); exact BK216.out⟩, ⟨by repeat (first | (with_reducible first | exact HB.out | apply below_alloc | apply pw_below_drewN | apply below_drew1 | refine below_set ?_ GE216.out) | exact HB.out)⟩⟩
                    · rw [if_neg c31] at H
                      have c31b0 : (a0_4.toList == ([] : List UInt8)) = false := beq_eq_false_iff_ne.mpr c31; have c31b1 : (a0_4.toList != ([] : List UInt8)) = true := bne_iff_ne.mpr c31; have H' := Aside0.mk H; clear H; have hcz34_0 : w18.cell? ⟨gb216, 0, none⟩ = some (.int .i64 a0_0) := (blk_cell BK216.out 0).trans rfl; have hcz34_1 : w18.cell? ⟨gb216, 1, none⟩ = some (.string a0_1) := (blk_cell BK216.out 1).trans rfl; have hcz34_2 : w18.cell? ⟨gb216, 2, none⟩ = some (.string a0_2) := (blk_cell BK216.out 2).trans rfl; have hcz34_3 : w18.cell? ⟨gb216, 3, none⟩ = some (.int .i64 a0_3) := (blk_cell BK216.out 3).trans rfl; have hcz34_4 : w18.cell? ⟨gb216, 4, none⟩ = some (.string a0_4) := (blk_cell BK216.out 4).trans rfl; have hfz34_0 := blk_frozen BK216.out 0; have hfz34_1 := blk_frozen BK216.out 1; have hfz34_2 := blk_frozen BK216.out 2; have hfz34_3 := blk_frozen BK216.out 3; have hfz34_4 := blk_frozen BK216.out 4
                      (try (have zx_ : ¬ (a0_2.toList = ([] : List UInt8)) := by simpa using c22b0))
                      (try (have zy_ : (a0_2.toList = ([] : List UInt8)) := by simpa using c22b0))
                      (try (have zb_ : (a0_2.toList == ([] : List UInt8)) = false := by simpa using c22b0))
                      (try (have zc_ : (a0_2.toList == ([] : List UInt8)) = true := by simpa using c22b0))
                      (try (have zA_ : (a0_2.toList = ([] : List UInt8)) → t218 = true := by intro e_; simpa [e_] using c22b0))
                      (try (have zB_ : ¬ (a0_2.toList = ([] : List UInt8)) → t218 = false := by intro e_; simpa [e_] using c22b0))
                      (try (have zC_ : (a0_2.toList = ([] : List UInt8)) → t218 = false := by intro e_; simpa [e_] using c22b0))
                      (try (have zD_ : ¬ (a0_2.toList = ([] : List UInt8)) → t218 = true := by intro e_; simpa [e_] using c22b0))
                      go_wp2_with (first | ((with_reducible refine gate_callee (f := 19) rfl ?_); refine goesL_ (some 40) rfl rfl Tryd.func19 (by kernel_rfl) rfl #[.string a0_1] rfl (by (try simp only [List.map_toArray, List.map_cons, List.map_nil]); first | done | rfl | (simp only [List.length_drop, List.length_take]; rfl)) ?_; (with_reducible refine (spec_NameOk.calls k a0_1 true _ A20.out).mono ?_); rintro e w' ⟨rfl, ⟨nd, rfl⟩⟩; refine ⟨_, rfl, ?_⟩) | (go_at_call 19; (with_reducible refine (spec_NameOk.calls k a0_2 true _ A25.out).mono ?_); rintro e w' ⟨rfl, ⟨nd, rfl⟩⟩))
                      go_meet
                      case rel => exact ⟨_, (true), (by first | rfl | (simp; done) | (simp [*]; done)), H', ⟨by first | omega | exact Nat.le_refl _⟩, ⟨by (with_reducible repeat (first | refine blk_drewN ?_ _ | refine blk_drew ?_ | refine blk_alloc ?_ _)); exact BK216.out⟩, ⟨by repeat (first | (with_reducible first | exact HB.out | apply below_alloc | apply pw_below_drewN | apply below_drew1 | refine below_set ?_ GE216.out) | exact HB.out)⟩⟩
                · replace c27 := Bool.eq_false_iff.mpr c27
                  subst c27; have H1 : (if a0_3 = 0 then (if t220 = true then ((spec_l1In.f a0_3 (-1) 99999).bind fun t225 => (spec_ReqOk.j0 k (!t225) a0_0 a0_1 a0_2 a0_3 a0_4)) else (if a0_4.toList = ([] : List UInt8) then ((spec_l1In.f a0_3 (-1) 99999).bind fun t226 => (spec_ReqOk.j0 k (!t226) a0_0 a0_1 a0_2 a0_3 a0_4)) else (spec_ReqOk.j0 k true a0_0 a0_1 a0_2 a0_3 a0_4))) else (spec_ReqOk.j0 k true a0_0 a0_1 a0_2 a0_3 a0_4)) = some r := by rw [if_neg (show ¬ (false = true) by decide)] at H; exact H
                  clear H; have H := H1; clear H1; by_cases c35 : a0_3 = 0
                  · rw [if_pos c35] at H
                    have c35b0 : (a0_3 == 0) = true := beq_iff_eq.mpr c35; have c35b1 : (a0_3 != 0) = false := bne_eq_false_iff_eq.mpr c35; clear c35; by_cases c36 : t220 = true
                    · subst c36
                      have H1 : ((spec_l1In.f a0_3 (-1) 99999).bind fun t225 => (spec_ReqOk.j0 k (!t225) a0_0 a0_1 a0_2 a0_3 a0_4)) = some r := by rw [if_pos rfl] at H; exact H
                      clear H; have H := H1; clear H1; replace H := Option.bind_eq_some_iff.mp H; obtain ⟨t225, A370, H⟩ := H; replace H : (spec_ReqOk.j0 k (!t225) a0_0 a0_1 a0_2 a0_3 a0_4) = some r := H; have A37 := Aside0.mk A370; clear A370; have H' := Aside0.mk H; clear H; have hcz38_0 : w18.cell? ⟨gb216, 0, none⟩ = some (.int .i64 a0_0) := (blk_cell BK216.out 0).trans rfl; have hcz38_1 : w18.cell? ⟨gb216, 1, none⟩ = some (.string a0_1) := (blk_cell BK216.out 1).trans rfl; have hcz38_2 : w18.cell? ⟨gb216, 2, none⟩ = some (.string a0_2) := (blk_cell BK216.out 2).trans rfl; have hcz38_3 : w18.cell? ⟨gb216, 3, none⟩ = some (.int .i64 a0_3) := (blk_cell BK216.out 3).trans rfl; have hcz38_4 : w18.cell? ⟨gb216, 4, none⟩ = some (.string a0_4) := (blk_cell BK216.out 4).trans rfl; have hfz38_0 := blk_frozen BK216.out 0; have hfz38_1 := blk_frozen BK216.out 1; have hfz38_2 := blk_frozen BK216.out 2; have hfz38_3 := blk_frozen BK216.out 3; have hfz38_4 := blk_frozen BK216.out 4
                      (try (have zx_ : ¬ (a0_2.toList = ([] : List UInt8)) := by simpa using c22b0))
                      (try (have zy_ : (a0_2.toList = ([] : List UInt8)) := by simpa using c22b0))
                      (try (have zb_ : (a0_2.toList == ([] : List UInt8)) = false := by simpa using c22b0))
                      (try (have zc_ : (a0_2.toList == ([] : List UInt8)) = true := by simpa using c22b0))
                      (try (have zA_ : (a0_2.toList = ([] : List UInt8)) → t218 = true := by intro e_; simpa [e_] using c22b0))
                      (try (have zB_ : ¬ (a0_2.toList = ([] : List UInt8)) → t218 = false := by intro e_; simpa [e_] using c22b0))
                      (try (have zC_ : (a0_2.toList = ([] : List UInt8)) → t218 = false := by intro e_; simpa [e_] using c22b0))
                      (try (have zD_ : ¬ (a0_2.toList = ([] : List UInt8)) → t218 = true := by intro e_; simpa [e_] using c22b0))
                      go_wp2_with (first | ((with_reducible refine gate_callee (f := 19) rfl ?_); refine goesL_ (some 40) rfl rfl Tryd.func19 (by kernel_rfl) rfl #[.string a0_1] rfl (by (try simp only [List.map_toArray, List.map_cons, List.map_nil]); first | done | rfl | (simp only [List.length_drop, List.length_take]; rfl)) ?_; (with_reducible refine (spec_NameOk.calls k a0_1 true _ A20.out).mono ?_); rintro e w' ⟨rfl, ⟨nd, rfl⟩⟩; refine ⟨_, rfl, ?_⟩) | (go_at_call 19; (with_reducible refine (spec_NameOk.calls k a0_2 true _ A25.out).mono ?_); rintro e w' ⟨rfl, ⟨nd, rfl⟩⟩) | (go_at_call 46; (with_reducible refine (spec_l1In.calls a0_3 (-1) 99999 t225 _ A37.out).mono ?_); rintro e w' ⟨rfl, ⟨nd, rfl⟩⟩))
                      go_meet
                      case rel => exact ⟨_, (!t225), (by first | rfl | (simp; done) | (simp [*]; done)), H', ⟨by first | omega | exact Nat.le_refl _⟩, ⟨by (with_reducible repeat (first | refine blk_drewN ?_ _ | refine blk_drew ?_ | refine blk_alloc ?_ _)); exact BK216.out⟩, ⟨by repeat (first | (with_reducible first | exact HB.out | apply below_alloc | apply pw_below_drewN | apply below_drew1 | refine below_set ?_ GE216.out) | exact HB.out)⟩⟩
                    · replace c36 := Bool.eq_false_iff.mpr c36
                      subst c36; have H1 : (if a0_4.toList = ([] : List UInt8) then ((spec_l1In.f a0_3 (-1) 99999).bind fun t226 => (spec_ReqOk.j0 k (!t226) a0_0 a0_1 a0_2 a0_3 a0_4)) else (spec_ReqOk.j0 k true a0_0 a0_1 a0_2 a0_3 a0_4)) = some r := by rw [if_neg (show ¬ (false = true) by decide)] at H; exact H
                      clear H; have H := H1; clear H1; by_cases c39 : a0_4.toList = ([] : List UInt8)
                      · rw [if_pos c39] at H
                        have c39b0 : (a0_4.toList == ([] : List UInt8)) = true := beq_iff_eq.mpr c39; have c39b1 : (a0_4.toList != ([] : List UInt8)) = false := bne_eq_false_iff_eq.mpr c39; clear c39; replace H := Option.bind_eq_some_iff.mp H; obtain ⟨t226, A400, H⟩ := H; replace H : (spec_ReqOk.j0 k (!t226) a0_0 a0_1 a0_2 a0_3 a0_4) = some r := H; have A40 := Aside0.mk A400; clear A400; have H' := Aside0.mk H; clear H; have hcz41_0 : w18.cell? ⟨gb216, 0, none⟩ = some (.int .i64 a0_0) := (blk_cell BK216.out 0).trans rfl; have hcz41_1 : w18.cell? ⟨gb216, 1, none⟩ = some (.string a0_1) := (blk_cell BK216.out 1).trans rfl; have hcz41_2 : w18.cell? ⟨gb216, 2, none⟩ = some (.string a0_2) := (blk_cell BK216.out 2).trans rfl; have hcz41_3 : w18.cell? ⟨gb216, 3, none⟩ = some (.int .i64 a0_3) := (blk_cell BK216.out 3).trans rfl; have hcz41_4 : w18.cell? ⟨gb216, 4, none⟩ = some (.string a0_4) := (blk_cell BK216.out 4).trans rfl; have hfz41_0 := blk_frozen BK216.out 0; have hfz41_1 := blk_frozen BK216.out 1; have hfz41_2 := blk_frozen BK216.out 2; have hfz41_3 := blk_frozen BK216.out 3; have hfz41_4 := blk_frozen BK216.out 4
                        (try (have zx_ : ¬ (a0_2.toList = ([] : List UInt8)) := by simpa using c22b0))
                        (try (have zy_ : (a0_2.toList = ([] : List UInt8)) := by simpa using c22b0))
                        (try (have zb_ : (a0_2.toList == ([] : List UInt8)) = false := by simpa using c22b0))
                        (try (have zc_ : (a0_2.toList == ([] : List UInt8)) = true := by simpa using c22b0))
                        (try (have zA_ : (a0_2.toList = ([] : List UInt8)) → t218 = true := by intro e_; simpa [e_] using c22b0))
                        (try (have zB_ : ¬ (a0_2.toList = ([] : List UInt8)) → t218 = false := by intro e_; simpa [e_] using c22b0))
                        (try (have zC_ : (a0_2.toList = ([] : List UInt8)) → t218 = false := by intro e_; simpa [e_] using c22b0))
                        (try (have zD_ : ¬ (a0_2.toList = ([] : List UInt8)) → t218 = true := by intro e_; simpa [e_] using c22b0))
                        go_wp2_with (first | ((with_reducible refine gate_callee (f := 19) rfl ?_); refine goesL_ (some 40) rfl rfl Tryd.func19 (by kernel_rfl) rfl #[.string a0_1] rfl (by (try simp only [List.map_toArray, List.map_cons, List.map_nil]); first | done | rfl | (simp only [List.length_drop, List.length_take]; rfl)) ?_; (with_reducible refine (spec_NameOk.calls k a0_1 true _ A20.out).mono ?_); rintro e w' ⟨rfl, ⟨nd, rfl⟩⟩; refine ⟨_, rfl, ?_⟩) | (go_at_call 19; (with_reducible refine (spec_NameOk.calls k a0_2 true _ A25.out).mono ?_); rintro e w' ⟨rfl, ⟨nd, rfl⟩⟩) | (go_at_call 46; (with_reducible refine (spec_l1In.calls a0_3 (-1) 99999 t226 _ A40.out).mono ?_); rintro e w' ⟨rfl, ⟨nd, rfl⟩⟩))
                        go_meet
                        case rel => exact ⟨_, (!t226), (by first | rfl | (simp; done) | (simp [*]; done)), H', ⟨by first | omega | exact Nat.le_refl _⟩, ⟨by (with_reducible repeat (first | refine blk_drewN ?_ _ | refine blk_drew ?_ | refine blk_alloc ?_ _)); exact BK216.out⟩, ⟨by repeat (first | (with_reducible first | exact HB.out | apply below_alloc | apply pw_below_drewN | apply below_drew1 | refine below_set ?_ GE216.out) | exact HB.out)⟩⟩
                      · rw [if_neg c39] at H
                        have c39b0 : (a0_4.toList == ([] : List UInt8)) = false := beq_eq_false_iff_ne.mpr c39; have c39b1 : (a0_4.toList != ([] : List UInt8)) = true := bne_iff_ne.mpr c39; have H' := Aside0.mk H; clear H; have hcz42_0 : w18.cell? ⟨gb216, 0, none⟩ = some (.int .i64 a0_0) := (blk_cell BK216.out 0).trans rfl; have hcz42_1 : w18.cell? ⟨gb216, 1, none⟩ = some (.string a0_1) := (blk_cell BK216.out 1).trans rfl; have hcz42_2 : w18.cell? ⟨gb216, 2, none⟩ = some (.string a0_2) := (blk_cell BK216.out 2).trans rfl; have hcz42_3 : w18.cell? ⟨gb216, 3, none⟩ = some (.int .i64 a0_3) := (blk_cell BK216.out 3).trans rfl; have hcz42_4 : w18.cell? ⟨gb216, 4, none⟩ = some (.string a0_4) := (blk_cell BK216.out 4).trans rfl; have hfz42_0 := blk_frozen BK216.out 0; have hfz42_1 := blk_frozen BK216.out 1; have hfz42_2 := blk_frozen BK216.out 2; have hfz42_3 := blk_frozen BK216.out 3; have hfz42_4 := blk_frozen BK216.out 4
                        (try (have zx_ : ¬ (a0_2.toList = ([] : List UInt8)) := by simpa using c22b0))
                        (try (have zy_ : (a0_2.toList = ([] : List UInt8)) := by simpa using c22b0))
                        (try (have zb_ : (a0_2.toList == ([] : List UInt8)) = false := by simpa using c22b0))
                        (try (have zc_ : (a0_2.toList == ([] : List UInt8)) = true := by simpa using c22b0))
                        (try (have zA_ : (a0_2.toList = ([] : List UInt8)) → t218 = true := by intro e_; simpa [e_] using c22b0))
                        (try (have zB_ : ¬ (a0_2.toList = ([] : List UInt8)) → t218 = false := by intro e_; simpa [e_] using c22b0))
                        (try (have zC_ : (a0_2.toList = ([] : List UInt8)) → t218 = false := by intro e_; simpa [e_] using c22b0))
                        (try (have zD_ : ¬ (a0_2.toList = ([] : List UInt8)) → t218 = true := by intro e_; simpa [e_] using c22b0))
                        go_wp2_with (first | ((with_reducible refine gate_callee (f := 19) rfl ?_); refine goesL_ (some 40) rfl rfl Tryd.func19 (by kernel_rfl) rfl #[.string a0_1] rfl (by (try simp only [List.map_toArray, List.map_cons, List.map_nil]); first | done | rfl | (simp only [List.length_drop, List.length_take]; rfl)) ?_; (with_reducible refine (spec_NameOk.calls k a0_1 true _ A20.out).mono ?_); rintro e w' ⟨rfl, ⟨nd, rfl⟩⟩; refine ⟨_, rfl, ?_⟩) | (go_at_call 19; (with_reducible refine (spec_NameOk.calls k a0_2 true _ A25.out).mono ?_); rintro e w' ⟨rfl, ⟨nd, rfl⟩⟩))
                        go_meet
                        case rel => exact ⟨_, (true), (by first | rfl | (simp; done) | (simp [*]; done)), H', ⟨by first | omega | exact Nat.le_refl _⟩, ⟨by (with_reducible repeat (first | refine blk_drewN ?_ _ | refine blk_drew ?_ | refine blk_alloc ?_ _)); exact BK216.out⟩, ⟨by repeat (first | (with_reducible first | exact HB.out | apply below_alloc | apply pw_below_drewN | apply below_drew1 | refine below_set ?_ GE216.out) | exact HB.out)⟩⟩
                  · rw [if_neg c35] at H
                    have c35b0 : (a0_3 == 0) = false := beq_eq_false_iff_ne.mpr c35; have c35b1 : (a0_3 != 0) = true := bne_iff_ne.mpr c35; have H' := Aside0.mk H; clear H; have hcz43_0 : w18.cell? ⟨gb216, 0, none⟩ = some (.int .i64 a0_0) := (blk_cell BK216.out 0).trans rfl; have hcz43_1 : w18.cell? ⟨gb216, 1, none⟩ = some (.string a0_1) := (blk_cell BK216.out 1).trans rfl; have hcz43_2 : w18.cell? ⟨gb216, 2, none⟩ = some (.string a0_2) := (blk_cell BK216.out 2).trans rfl; have hcz43_3 : w18.cell? ⟨gb216, 3, none⟩ = some (.int .i64 a0_3) := (blk_cell BK216.out 3).trans rfl; have hcz43_4 : w18.cell? ⟨gb216, 4, none⟩ = some (.string a0_4) := (blk_cell BK216.out 4).trans rfl; have hfz43_0 := blk_frozen BK216.out 0; have hfz43_1 := blk_frozen BK216.out 1; have hfz43_2 := blk_frozen BK216.out 2; have hfz43_3 := blk_frozen BK216.out 3; have hfz43_4 := blk_frozen BK216.out 4
                    (try (have zx_ : ¬ (a0_2.toList = ([] : List UInt8)) := by simpa using c22b0))
                    (try (have zy_ : (a0_2.toList = ([] : List UInt8)) := by simpa using c22b0))
                    (try (have zb_ : (a0_2.toList == ([] : List UInt8)) = false := by simpa using c22b0))
                    (try (have zc_ : (a0_2.toList == ([] : List UInt8)) = true := by simpa using c22b0))
                    (try (have zA_ : (a0_2.toList = ([] : List UInt8)) → t218 = true := by intro e_; simpa [e_] using c22b0))
                    (try (have zB_ : ¬ (a0_2.toList = ([] : List UInt8)) → t218 = false := by intro e_; simpa [e_] using c22b0))
                    (try (have zC_ : (a0_2.toList = ([] : List UInt8)) → t218 = false := by intro e_; simpa [e_] using c22b0))
                    (try (have zD_ : ¬ (a0_2.toList = ([] : List UInt8)) → t218 = true := by intro e_; simpa [e_] using c22b0))
                    go_wp2_with (first | ((with_reducible refine gate_callee (f := 19) rfl ?_); refine goesL_ (some 40) rfl rfl Tryd.func19 (by kernel_rfl) rfl #[.string a0_1] rfl (by (try simp only [List.map_toArray, List.map_cons, List.map_nil]); first | done | rfl | (simp only [List.length_drop, List.length_take]; rfl)) ?_; (with_reducible refine (spec_NameOk.calls k a0_1 true _ A20.out).mono ?_); rintro e w' ⟨rfl, ⟨nd, rfl⟩⟩; refine ⟨_, rfl, ?_⟩) | (go_at_call 19; (with_reducible refine (spec_NameOk.calls k a0_2 true _ A25.out).mono ?_); rintro e w' ⟨rfl, ⟨nd, rfl⟩⟩))
                    go_meet
                    case rel => exact ⟨_, (true), (by first | rfl | (simp; done) | (simp [*]; done)), H', ⟨by first | omega | exact Nat.le_refl _⟩, ⟨by (with_reducible repeat (first | refine blk_drewN ?_ _ | refine blk_drew ?_ | refine blk_alloc ?_ _)); exact BK216.out⟩, ⟨by repeat (first | (with_reducible first | exact HB.out | apply below_alloc | apply pw_below_drewN | apply below_drew1 | refine below_set ?_ GE216.out) | exact HB.out)⟩⟩
              · replace c26 := Bool.eq_false_iff.mpr c26
                subst c26; have H1 : (spec_ReqOk.j0 k true a0_0 a0_1 a0_2 a0_3 a0_4) = some r := by rw [if_neg (show ¬ (false = true) by decide)] at H; exact H
                clear H; have H := H1; clear H1; have H' := Aside0.mk H; clear H; have hcz44_0 : w18.cell? ⟨gb216, 0, none⟩ = some (.int .i64 a0_0) := (blk_cell BK216.out 0).trans rfl; have hcz44_1 : w18.cell? ⟨gb216, 1, none⟩ = some (.string a0_1) := (blk_cell BK216.out 1).trans rfl; have hcz44_2 : w18.cell? ⟨gb216, 2, none⟩ = some (.string a0_2) := (blk_cell BK216.out 2).trans rfl; have hcz44_3 : w18.cell? ⟨gb216, 3, none⟩ = some (.int .i64 a0_3) := (blk_cell BK216.out 3).trans rfl; have hcz44_4 : w18.cell? ⟨gb216, 4, none⟩ = some (.string a0_4) := (blk_cell BK216.out 4).trans rfl; have hfz44_0 := blk_frozen BK216.out 0; have hfz44_1 := blk_frozen BK216.out 1; have hfz44_2 := blk_frozen BK216.out 2; have hfz44_3 := blk_frozen BK216.out 3; have hfz44_4 := blk_frozen BK216.out 4
                (try (have zx_ : ¬ (a0_2.toList = ([] : List UInt8)) := by simpa using c22b0))
                (try (have zy_ : (a0_2.toList = ([] : List UInt8)) := by simpa using c22b0))
                (try (have zb_ : (a0_2.toList == ([] : List UInt8)) = false := by simpa using c22b0))
                (try (have zc_ : (a0_2.toList == ([] : List UInt8)) = true := by simpa using c22b0))
                (try (have zA_ : (a0_2.toList = ([] : List UInt8)) → t218 = true := by intro e_; simpa [e_] using c22b0))
                (try (have zB_ : ¬ (a0_2.toList = ([] : List UInt8)) → t218 = false := by intro e_; simpa [e_] using c22b0))
                (try (have zC_ : (a0_2.toList = ([] : List UInt8)) → t218 = false := by intro e_; simpa [e_] using c22b0))
                (try (have zD_ : ¬ (a0_2.toList = ([] : List UInt8)) → t218 = true := by intro e_; simpa [e_] using c22b0))
                go_wp2_with (first | ((with_reducible refine gate_callee (f := 19) rfl ?_); refine goesL_ (some 40) rfl rfl Tryd.func19 (by kernel_rfl) rfl #[.string a0_1] rfl (by (try simp only [List.map_toArray, List.map_cons, List.map_nil]); first | done | rfl | (simp only [List.length_drop, List.length_take]; rfl)) ?_; (with_reducible refine (spec_NameOk.calls k a0_1 true _ A20.out).mono ?_); rintro e w' ⟨rfl, ⟨nd, rfl⟩⟩; refine ⟨_, rfl, ?_⟩) | (go_at_call 19; (with_reducible refine (spec_NameOk.calls k a0_2 false _ A25.out).mono ?_); rintro e w' ⟨rfl, ⟨nd, rfl⟩⟩))
                go_meet
                case rel => exact ⟨_, (true), (by first | rfl | (simp; done) | (simp [*]; done)), H', ⟨by first | omega | exact Nat.le_refl _⟩, ⟨by (with_reducible repeat (first | refine blk_drewN ?_ _ | refine blk_drew ?_ | refine blk_alloc ?_ _)); exact BK216.out⟩, ⟨by repeat (first | (with_reducible first | exact HB.out | apply below_alloc | apply pw_below_drewN | apply below_drew1 | refine below_set ?_ GE216.out) | exact HB.out)⟩⟩
            · replace c24 := Bool.eq_false_iff.mpr c24
              subst c24; have H1 : (if t219 = true then (if t220 = true then ((spec_l1In.f a0_3 (-1) 99999).bind fun t227 => (spec_ReqOk.j0 k (!t227) a0_0 a0_1 a0_2 a0_3 a0_4)) else (if a0_4.toList = ([] : List UInt8) then ((spec_l1In.f a0_3 (-1) 99999).bind fun t228 => (spec_ReqOk.j0 k (!t228) a0_0 a0_1 a0_2 a0_3 a0_4)) else (spec_ReqOk.j0 k true a0_0 a0_1 a0_2 a0_3 a0_4))) else (if a0_3 = 0 then (if t220 = true then ((spec_l1In.f a0_3 (-1) 99999).bind fun t229 => (spec_ReqOk.j0 k (!t229) a0_0 a0_1 a0_2 a0_3 a0_4)) else (if a0_4.toList = ([] : List UInt8) then ((spec_l1In.f a0_3 (-1) 99999).bind fun t230 => (spec_ReqOk.j0 k (!t230) a0_0 a0_1 a0_2 a0_3 a0_4)) else (spec_ReqOk.j0 k true a0_0 a0_1 a0_2 a0_3 a0_4))) else (spec_ReqOk.j0 k true a0_0 a0_1 a0_2 a0_3 a0_4))) = some r := by rw [if_neg (show ¬ (false = true) by decide)] at H; exact H
              clear H; have H := H1; clear H1; by_cases c45 : t219 = true
              · subst c45
                have H1 : (if t220 = true then ((spec_l1In.f a0_3 (-1) 99999).bind fun t227 => (spec_ReqOk.j0 k (!t227) a0_0 a0_1 a0_2 a0_3 a0_4)) else (if a0_4.toList = ([] : List UInt8) then ((spec_l1In.f a0_3 (-1) 99999).bind fun t228 => (spec_ReqOk.j0 k (!t228) a0_0 a0_1 a0_2 a0_3 a0_4)) else (spec_ReqOk.j0 k true a0_0 a0_1 a0_2 a0_3 a0_4))) = some r := by rw [if_pos rfl] at H; exact H
                clear H; have H := H1; clear H1; by_cases c46 : t220 = true
                · subst c46
                  have H1 : ((spec_l1In.f a0_3 (-1) 99999).bind fun t227 => (spec_ReqOk.j0 k (!t227) a0_0 a0_1 a0_2 a0_3 a0_4)) = some r := by rw [if_pos rfl] at H; exact H
                  clear H; have H := H1; clear H1; replace H := Option.bind_eq_some_iff.mp H; obtain ⟨t227, A470, H⟩ := H; replace H : (spec_ReqOk.j0 k (!t227) a0_0 a0_1 a0_2 a0_3 a0_4) = some r := H; have A47 := Aside0.mk A470; clear A470; have H' := Aside0.mk H; clear H; have hcz48_0 : w18.cell? ⟨gb216, 0, none⟩ = some (.int .i64 a0_0) := (blk_cell BK216.out 0).trans rfl; have hcz48_1 : w18.cell? ⟨gb216, 1, none⟩ = some (.string a0_1) := (blk_cell BK216.out 1).trans rfl; have hcz48_2 : w18.cell? ⟨gb216, 2, none⟩ = some (.string a0_2) := (blk_cell BK216.out 2).trans rfl; have hcz48_3 : w18.cell? ⟨gb216, 3, none⟩ = some (.int .i64 a0_3) := (blk_cell BK216.out 3).trans rfl; have hcz48_4 : w18.cell? ⟨gb216, 4, none⟩ = some (.string a0_4) := (blk_cell BK216.out 4).trans rfl; have hfz48_0 := blk_frozen BK216.out 0; have hfz48_1 := blk_frozen BK216.out 1; have hfz48_2 := blk_frozen BK216.out 2; have hfz48_3 := blk_frozen BK216.out 3; have hfz48_4 := blk_frozen BK216.out 4
                  (try (have zx_ : ¬ (a0_2.toList = ([] : List UInt8)) := by simpa using c22b0))
                  (try (have zy_ : (a0_2.toList = ([] : List UInt8)) := by simpa using c22b0))
                  (try (have zb_ : (a0_2.toList == ([] : List UInt8)) = false := by simpa using c22b0))
                  (try (have zc_ : (a0_2.toList == ([] : List UInt8)) = true := by simpa using c22b0))
                  (try (have zA_ : (a0_2.toList = ([] : List UInt8)) → t218 = true := by intro e_; simpa [e_] using c22b0))
                  (try (have zB_ : ¬ (a0_2.toList = ([] : List UInt8)) → t218 = false := by intro e_; simpa [e_] using c22b0))
                  (try (have zC_ : (a0_2.toList = ([] : List UInt8)) → t218 = false := by intro e_; simpa [e_] using c22b0))
                  (try (have zD_ : ¬ (a0_2.toList = ([] : List UInt8)) → t218 = true := by intro e_; simpa [e_] using c22b0))
                  go_wp2_with (first | ((with_reducible refine gate_callee (f := 19) rfl ?_); refine goesL_ (some 40) rfl rfl Tryd.func19 (by kernel_rfl) rfl #[.string a0_1] rfl (by (try simp only [List.map_toArray, List.map_cons, List.map_nil]); first | done | rfl | (simp only [List.length_drop, List.length_take]; rfl)) ?_; (with_reducible refine (spec_NameOk.calls k a0_1 true _ A20.out).mono ?_); rintro e w' ⟨rfl, ⟨nd, rfl⟩⟩; refine ⟨_, rfl, ?_⟩) | (go_at_call 46; (with_reducible refine (spec_l1In.calls a0_3 (-1) 99999 t227 _ A47.out).mono ?_); rintro e w' ⟨rfl, ⟨nd, rfl⟩⟩))
                  go_meet
                  case rel => exact ⟨_, (!t227), (by first | rfl | (simp; done) | (simp [*]; done)), H', ⟨by first | omega | exact Nat.le_refl _⟩, ⟨by (with_reducible repeat (first | refine blk_drewN ?_ _ | refine blk_drew ?_ | refine blk_alloc ?_ _)); exact BK216.out⟩, ⟨by repeat (first | (with_reducible first | exact HB.out | apply below_alloc | apply pw_below_drewN | apply below_drew1 | refine below_set ?_ GE216.out) | exact HB.out)⟩⟩
                · replace c46 := Bool.eq_false_iff.mpr c46
                  subst c46; have H1 : (if a0_4.toList = ([] : List UInt8) then ((spec_l1In.f a0_3 (-1) 99999).bind fun t228 => (spec_ReqOk.j0 k (!t228) a0_0 a0_1 a0_2 a0_3 a0_4)) else (spec_ReqOk.j0 k true a0_0 a0_1 a0_2 a0_3 a0_4)) = some r := by rw [if_neg (show ¬ (false = true) by decide)] at H; exact H
                  clear H; have H := H1; clear H1; by_cases c49 : a0_4.toList = ([] : List UInt8)
                  · rw [if_pos c49] at H
                    have c49b0 : (a0_4.toList == ([] : List UInt8)) = true := beq_iff_eq.mpr c49; have c49b1 : (a0_4.toList != ([] : List UInt8)) = false := bne_eq_false_iff_eq.mpr c49; clear c49; replace H := Option.bind_eq_some_iff.mp H; obtain ⟨t228, A500, H⟩ := H; replace H : (spec_ReqOk.j0 k (!t228) a0_0 a0_1 a0_2 a0_3 a0_4) = some r := H; have A50 := Aside0.mk A500; clear A500; have H' := Aside0.mk H; clear H; have hcz51_0 : w18.cell? ⟨gb216, 0, none⟩ = some (.int .i64 a0_0) := (blk_cell BK216.out 0).trans rfl; have hcz51_1 : w18.cell? ⟨gb216, 1, none⟩ = some (.string a0_1) := (blk_cell BK216.out 1).trans rfl; have hcz51_2 : w18.cell? ⟨gb216, 2, none⟩ = some (.string a0_2) := (blk_cell BK216.out 2).trans rfl; have hcz51_3 : w18.cell? ⟨gb216, 3, none⟩ = some (.int .i64 a0_3) := (blk_cell BK216.out 3).trans rfl; have hcz51_4 : w18.cell? ⟨gb216, 4, none⟩ = some (.string a0_4) := (blk_cell BK216.out 4).trans rfl; have hfz51_0 := blk_frozen BK216.out 0; have hfz51_1 := blk_frozen BK216.out 1; have hfz51_2 := blk_frozen BK216.out 2; have hfz51_3 := blk_frozen BK216.out 3; have hfz51_4 := blk_frozen BK216.out 4
                    (try (have zx_ : ¬ (a0_2.toList = ([] : List UInt8)) := by simpa using c22b0))
                    (try (have zy_ : (a0_2.toList = ([] : List UInt8)) := by simpa using c22b0))
                    (try (have zb_ : (a0_2.toList == ([] : List UInt8)) = false := by simpa using c22b0))
                    (try (have zc_ : (a0_2.toList == ([] : List UInt8)) = true := by simpa using c22b0))
                    (try (have zA_ : (a0_2.toList = ([] : List UInt8)) → t218 = true := by intro e_; simpa [e_] using c22b0))
                    (try (have zB_ : ¬ (a0_2.toList = ([] : List UInt8)) → t218 = false := by intro e_; simpa [e_] using c22b0))
                    (try (have zC_ : (a0_2.toList = ([] : List UInt8)) → t218 = false := by intro e_; simpa [e_] using c22b0))
                    (try (have zD_ : ¬ (a0_2.toList = ([] : List UInt8)) → t218 = true := by intro e_; simpa [e_] using c22b0))
                    go_wp2_with (first | ((with_reducible refine gate_callee (f := 19) rfl ?_); refine goesL_ (some 40) rfl rfl Tryd.func19 (by kernel_rfl) rfl #[.string a0_1] rfl (by (try simp only [List.map_toArray, List.map_cons, List.map_nil]); first | done | rfl | (simp only [List.length_drop, List.length_take]; rfl)) ?_; (with_reducible refine (spec_NameOk.calls k a0_1 true _ A20.out).mono ?_); rintro e w' ⟨rfl, ⟨nd, rfl⟩⟩; refine ⟨_, rfl, ?_⟩) | (go_at_call 46; (with_reducible refine (spec_l1In.calls a0_3 (-1) 99999 t228 _ A50.out).mono ?_); rintro e w' ⟨rfl, ⟨nd, rfl⟩⟩))
                    go_meet
                    case rel => exact ⟨_, (!t228), (by first | rfl | (simp; done) | (simp [*]; done)), H', ⟨by first | omega | exact Nat.le_refl _⟩, ⟨by (with_reducible repeat (first | refine blk_drewN ?_ _ | refine blk_drew ?_ | refine blk_alloc ?_ _)); exact BK216.out⟩, ⟨by repeat (first | (with_reducible first | exact HB.out | apply below_alloc | apply pw_below_drewN | apply below_drew1 | refine below_set ?_ GE216.out) | exact HB.out)⟩⟩
                  · rw [if_neg c49] at H
                    have c49b0 : (a0_4.toList == ([] : List UInt8)) = false := beq_eq_false_iff_ne.mpr c49; have c49b1 : (a0_4.toList != ([] : List UInt8)) = true := bne_iff_ne.mpr c49; have H' := Aside0.mk H; clear H; have hcz52_0 : w18.cell? ⟨gb216, 0, none⟩ = some (.int .i64 a0_0) := (blk_cell BK216.out 0).trans rfl; have hcz52_1 : w18.cell? ⟨gb216, 1, none⟩ = some (.string a0_1) := (blk_cell BK216.out 1).trans rfl; have hcz52_2 : w18.cell? ⟨gb216, 2, none⟩ = some (.string a0_2) := (blk_cell BK216.out 2).trans rfl; have hcz52_3 : w18.cell? ⟨gb216, 3, none⟩ = some (.int .i64 a0_3) := (blk_cell BK216.out 3).trans rfl; have hcz52_4 : w18.cell? ⟨gb216, 4, none⟩ = some (.string a0_4) := (blk_cell BK216.out 4).trans rfl; have hfz52_0 := blk_frozen BK216.out 0; have hfz52_1 := blk_frozen BK216.out 1; have hfz52_2 := blk_frozen BK216.out 2; have hfz52_3 := blk_frozen BK216.out 3; have hfz52_4 := blk_frozen BK216.out 4
                    (try (have zx_ : ¬ (a0_2.toList = ([] : List UInt8)) := by simpa using c22b0))
                    (try (have zy_ : (a0_2.toList = ([] : List UInt8)) := by simpa using c22b0))
                    (try (have zb_ : (a0_2.toList == ([] : List UInt8)) = false := by simpa using c22b0))
                    (try (have zc_ : (a0_2.toList == ([] : List UInt8)) = true := by simpa using c22b0))
                    (try (have zA_ : (a0_2.toList = ([] : List UInt8)) → t218 = true := by intro e_; simpa [e_] using c22b0))
                    (try (have zB_ : ¬ (a0_2.toList = ([] : List UInt8)) → t218 = false := by intro e_; simpa [e_] using c22b0))
                    (try (have zC_ : (a0_2.toList = ([] : List UInt8)) → t218 = false := by intro e_; simpa [e_] using c22b0))
                    (try (have zD_ : ¬ (a0_2.toList = ([] : List UInt8)) → t218 = true := by intro e_; simpa [e_] using c22b0))
                    go_wp2_with (first | ((with_reducible refine gate_callee (f := 19) rfl ?_); refine goesL_ (some 40) rfl rfl Tryd.func19 (by kernel_rfl) rfl #[.string a0_1] rfl (by (try simp only [List.map_toArray, List.map_cons, List.map_nil]); first | done | rfl | (simp only [List.length_drop, List.length_take]; rfl)) ?_; (with_reducible refine (spec_NameOk.calls k a0_1 true _ A20.out).mono ?_); rintro e w' ⟨rfl, ⟨nd, rfl⟩⟩; refine ⟨_, rfl, ?_⟩))
                    go_meet
                    case rel => exact ⟨_, (true), (by first | rfl | (simp; done) | (simp [*]; done)), H', ⟨by first | omega | exact Nat.le_refl _⟩, ⟨by (with_reducible repeat (first | refine blk_drewN ?_ _ | refine blk_drew ?_ | refine blk_alloc ?_ _)); exact BK216.out⟩, ⟨by repeat (first | (with_reducible first | exact HB.out | apply below_alloc | apply pw_below_drewN | apply below_drew1 | refine below_set ?_ GE216.out) | exact HB.out)⟩⟩
              · replace c45 := Bool.eq_false_iff.mpr c45
                subst c45; have H1 : (if a0_3 = 0 then (if t220 = true then ((spec_l1In.f a0_3 (-1) 99999).bind fun t229 => (spec_ReqOk.j0 k (!t229) a0_0 a0_1 a0_2 a0_3 a0_4)) else (if a0_4.toList = ([] : List UInt8) then ((spec_l1In.f a0_3 (-1) 99999).bind fun t230 => (spec_ReqOk.j0 k (!t230) a0_0 a0_1 a0_2 a0_3 a0_4)) else (spec_ReqOk.j0 k true a0_0 a0_1 a0_2 a0_3 a0_4))) else (spec_ReqOk.j0 k true a0_0 a0_1 a0_2 a0_3 a0_4)) = some r := by rw [if_neg (show ¬ (false = true) by decide)] at H; exact H
                clear H; have H := H1; clear H1; by_cases c53 : a0_3 = 0
                · rw [if_pos c53] at H
                  have c53b0 : (a0_3 == 0) = true := beq_iff_eq.mpr c53; have c53b1 : (a0_3 != 0) = false := bne_eq_false_iff_eq.mpr c53; clear c53; by_cases c54 : t220 = true
                  · subst c54
                    have H1 : ((spec_l1In.f a0_3 (-1) 99999).bind fun t229 => (spec_ReqOk.j0 k (!t229) a0_0 a0_1 a0_2 a0_3 a0_4)) = some r := by rw [if_pos rfl] at H; exact H
                    clear H; have H := H1; clear H1; replace H := Option.bind_eq_some_iff.mp H; obtain ⟨t229, A550, H⟩ := H; replace H : (spec_ReqOk.j0 k (!t229) a0_0 a0_1 a0_2 a0_3 a0_4) = some r := H; have A55 := Aside0.mk A550; clear A550; have H' := Aside0.mk H; clear H; have hcz56_0 : w18.cell? ⟨gb216, 0, none⟩ = some (.int .i64 a0_0) := (blk_cell BK216.out 0).trans rfl; have hcz56_1 : w18.cell? ⟨gb216, 1, none⟩ = some (.string a0_1) := (blk_cell BK216.out 1).trans rfl; have hcz56_2 : w18.cell? ⟨gb216, 2, none⟩ = some (.string a0_2) := (blk_cell BK216.out 2).trans rfl; have hcz56_3 : w18.cell? ⟨gb216, 3, none⟩ = some (.int .i64 a0_3) := (blk_cell BK216.out 3).trans rfl; have hcz56_4 : w18.cell? ⟨gb216, 4, none⟩ = some (.string a0_4) := (blk_cell BK216.out 4).trans rfl; have hfz56_0 := blk_frozen BK216.out 0; have hfz56_1 := blk_frozen BK216.out 1; have hfz56_2 := blk_frozen BK216.out 2; have hfz56_3 := blk_frozen BK216.out 3; have hfz56_4 := blk_frozen BK216.out 4
                    (try (have zx_ : ¬ (a0_2.toList = ([] : List UInt8)) := by simpa using c22b0))
                    (try (have zy_ : (a0_2.toList = ([] : List UInt8)) := by simpa using c22b0))
                    (try (have zb_ : (a0_2.toList == ([] : List UInt8)) = false := by simpa using c22b0))
                    (try (have zc_ : (a0_2.toList == ([] : List UInt8)) = true := by simpa using c22b0))
                    (try (have zA_ : (a0_2.toList = ([] : List UInt8)) → t218 = true := by intro e_; simpa [e_] using c22b0))
                    (try (have zB_ : ¬ (a0_2.toList = ([] : List UInt8)) → t218 = false := by intro e_; simpa [e_] using c22b0))
                    (try (have zC_ : (a0_2.toList = ([] : List UInt8)) → t218 = false := by intro e_; simpa [e_] using c22b0))
                    (try (have zD_ : ¬ (a0_2.toList = ([] : List UInt8)) → t218 = true := by intro e_; simpa [e_] using c22b0))
                    go_wp2_with (first | ((with_reducible refine gate_callee (f := 19) rfl ?_); refine goesL_ (some 40) rfl rfl Tryd.func19 (by kernel_rfl) rfl #[.string a0_1] rfl (by (try simp only [List.map_toArray, List.map_cons, List.map_nil]); first | done | rfl | (simp only [List.length_drop, List.length_take]; rfl)) ?_; (with_reducible refine (spec_NameOk.calls k a0_1 true _ A20.out).mono ?_); rintro e w' ⟨rfl, ⟨nd, rfl⟩⟩; refine ⟨_, rfl, ?_⟩) | (go_at_call 46; (with_reducible refine (spec_l1In.calls a0_3 (-1) 99999 t229 _ A55.out).mono ?_); rintro e w' ⟨rfl, ⟨nd, rfl⟩⟩))
                    go_meet
                    case rel => exact ⟨_, (!t229), (by first | rfl | (simp; done) | (simp [*]; done)), H', ⟨by first | omega | exact Nat.le_refl _⟩, ⟨by (with_reducible repeat (first | refine blk_drewN ?_ _ | refine blk_drew ?_ | refine blk_alloc ?_ _)); exact BK216.out⟩, ⟨by repeat (first | (with_reducible first | exact HB.out | apply below_alloc | apply pw_below_drewN | apply below_drew1 | refine below_set ?_ GE216.out) | exact HB.out)⟩⟩
                  · replace c54 := Bool.eq_false_iff.mpr c54
                    subst c54; have H1 : (if a0_4.toList = ([] : List UInt8) then ((spec_l1In.f a0_3 (-1) 99999).bind fun t230 => (spec_ReqOk.j0 k (!t230) a0_0 a0_1 a0_2 a0_3 a0_4)) else (spec_ReqOk.j0 k true a0_0 a0_1 a0_2 a0_3 a0_4)) = some r := by rw [if_neg (show ¬ (false = true) by decide)] at H; exact H
                    clear H; have H := H1; clear H1; by_cases c57 : a0_4.toList = ([] : List UInt8)
                    · rw [if_pos c57] at H
                      have c57b0 : (a0_4.toList == ([] : List UInt8)) = true := beq_iff_eq.mpr c57; have c57b1 : (a0_4.toList != ([] : List UInt8)) = false := bne_eq_false_iff_eq.mpr c57; clear c57; replace H := Option.bind_eq_some_iff.mp H; obtain ⟨t230, A580, H⟩ := H; replace H : (spec_ReqOk.j0 k (!t230) a0_0 a0_1 a0_2 a0_3 a0_4) = some r := H; have A58 := Aside0.mk A580; clear A580; have H' := Aside0.mk H; clear H; have hcz59_0 : w18.cell? ⟨gb216, 0, none⟩ = some (.int .i64 a0_0) := (blk_cell BK216.out 0).trans rfl; have hcz59_1 : w18.cell? ⟨gb216, 1, none⟩ = some (.string a0_1) := (blk_cell BK216.out 1).trans rfl; have hcz59_2 : w18.cell? ⟨gb216, 2, none⟩ = some (.string a0_2) := (blk_cell BK216.out 2).trans rfl; have hcz59_3 : w18.cell? ⟨gb216, 3, none⟩ = some (.int .i64 a0_3) := (blk_cell BK216.out 3).trans rfl; have hcz59_4 : w18.cell? ⟨gb216, 4, none⟩ = some (.string a0_4) := (blk_cell BK216.out 4).trans rfl; have hfz59_0 := blk_frozen BK216.out 0; have hfz59_1 := blk_frozen BK216.out 1; have hfz59_2 := blk_frozen BK216.out 2; have hfz59_3 := blk_frozen BK216.out 3; have hfz59_4 := blk_frozen BK216.out 4
                      (try (have zx_ : ¬ (a0_2.toList = ([] : List UInt8)) := by simpa using c22b0))
                      (try (have zy_ : (a0_2.toList = ([] : List UInt8)) := by simpa using c22b0))
                      (try (have zb_ : (a0_2.toList == ([] : List UInt8)) = false := by simpa using c22b0))
                      (try (have zc_ : (a0_2.toList == ([] : List UInt8)) = true := by simpa using c22b0))
                      (try (have zA_ : (a0_2.toList = ([] : List UInt8)) → t218 = true := by intro e_; simpa [e_] using c22b0))
                      (try (have zB_ : ¬ (a0_2.toList = ([] : List UInt8)) → t218 = false := by intro e_; simpa [e_] using c22b0))
                      (try (have zC_ : (a0_2.toList = ([] : List UInt8)) → t218 = false := by intro e_; simpa [e_] using c22b0))
                      (try (have zD_ : ¬ (a0_2.toList = ([] : List UInt8)) → t218 = true := by intro e_; simpa [e_] using c22b0))
                      go_wp2_with (first | ((with_reducible refine gate_callee (f := 19) rfl ?_); refine goesL_ (some 40) rfl rfl Tryd.func19 (by kernel_rfl) rfl #[.string a0_1] rfl (by (try simp only [List.map_toArray, List.map_cons, List.map_nil]); first | done | rfl | (simp only [List.length_drop, List.length_take]; rfl)) ?_; (with_reducible refine (spec_NameOk.calls k a0_1 true _ A20.out).mono ?_); rintro e w' ⟨rfl, ⟨nd, rfl⟩⟩; refine ⟨_, rfl, ?_⟩) | (go_at_call 46; (with_reducible refine (spec_l1In.calls a0_3 (-1) 99999 t230 _ A58.out).mono ?_); rintro e w' ⟨rfl, ⟨nd, rfl⟩⟩))
                      go_meet
                      case rel => exact ⟨_, (!t230), (by first | rfl | (simp; done) | (simp [*]; done)), H', ⟨by first | omega | exact Nat.le_refl _⟩, ⟨by (with_reducible repeat (first | refine blk_drewN ?_ _ | refine blk_drew ?_ | refine blk_alloc ?_ _)); exact BK216.out⟩, ⟨by repeat (first | (with_reducible first | exact HB.out | apply below_alloc | apply pw_below_drewN | apply below_drew1 | refine below_set ?_ GE216.out) | exact HB.out)⟩⟩
                    · rw [if_neg c57] at H
                      have c57b0 : (a0_4.toList == ([] : List UInt8)) = false := beq_eq_false_iff_ne.mpr c57; have c57b1 : (a0_4.toList != ([] : List UInt8)) = true := bne_iff_ne.mpr c57; have H' := Aside0.mk H; clear H; have hcz60_0 : w18.cell? ⟨gb216, 0, none⟩ = some (.int .i64 a0_0) := (blk_cell BK216.out 0).trans rfl; have hcz60_1 : w18.cell? ⟨gb216, 1, none⟩ = some (.string a0_1) := (blk_cell BK216.out 1).trans rfl; have hcz60_2 : w18.cell? ⟨gb216, 2, none⟩ = some (.string a0_2) := (blk_cell BK216.out 2).trans rfl; have hcz60_3 : w18.cell? ⟨gb216, 3, none⟩ = some (.int .i64 a0_3) := (blk_cell BK216.out 3).trans rfl; have hcz60_4 : w18.cell? ⟨gb216, 4, none⟩ = some (.string a0_4) := (blk_cell BK216.out 4).trans rfl; have hfz60_0 := blk_frozen BK216.out 0; have hfz60_1 := blk_frozen BK216.out 1; have hfz60_2 := blk_frozen BK216.out 2; have hfz60_3 := blk_frozen BK216.out 3; have hfz60_4 := blk_frozen BK216.out 4
                      (try (have zx_ : ¬ (a0_2.toList = ([] : List UInt8)) := by simpa using c22b0))
                      (try (have zy_ : (a0_2.toList = ([] : List UInt8)) := by simpa using c22b0))
                      (try (have zb_ : (a0_2.toList == ([] : List UInt8)) = false := by simpa using c22b0))
                      (try (have zc_ : (a0_2.toList == ([] : List UInt8)) = true := by simpa using c22b0))
                      (try (have zA_ : (a0_2.toList = ([] : List UInt8)) → t218 = true := by intro e_; simpa [e_] using c22b0))
                      (try (have zB_ : ¬ (a0_2.toList = ([] : List UInt8)) → t218 = false := by intro e_; simpa [e_] using c22b0))
                      (try (have zC_ : (a0_2.toList = ([] : List UInt8)) → t218 = false := by intro e_; simpa [e_] using c22b0))
                      (try (have zD_ : ¬ (a0_2.toList = ([] : List UInt8)) → t218 = true := by intro e_; simpa [e_] using c22b0))
                      go_wp2_with (first | ((with_reducible refine gate_callee (f := 19) rfl ?_); refine goesL_ (some 40) rfl rfl Tryd.func19 (by kernel_rfl) rfl #[.string a0_1] rfl (by (try simp only [List.map_toArray, List.map_cons, List.map_nil]); first | done | rfl | (simp only [List.length_drop, List.length_take]; rfl)) ?_; (with_reducible refine (spec_NameOk.calls k a0_1 true _ A20.out).mono ?_); rintro e w' ⟨rfl, ⟨nd, rfl⟩⟩; refine ⟨_, rfl, ?_⟩))
                      go_meet
                      case rel => exact ⟨_, (true), (by first | rfl | (simp; done) | (simp [*]; done)), H', ⟨by first | omega | exact Nat.le_refl _⟩, ⟨by (with_reducible repeat (first | refine blk_drewN ?_ _ | refine blk_drew ?_ | refine blk_alloc ?_ _)); exact BK216.out⟩, ⟨by repeat (first | (with_reducible first | exact HB.out | apply below_alloc | apply pw_below_drewN | apply below_drew1 | refine below_set ?_ GE216.out) | exact HB.out)⟩⟩
                · rw [if_neg c53] at H
                  have c53b0 : (a0_3 == 0) = false := beq_eq_false_iff_ne.mpr c53; have c53b1 : (a0_3 != 0) = true := bne_iff_ne.mpr c53; have H' := Aside0.mk H; clear H; have hcz61_0 : w18.cell? ⟨gb216, 0, none⟩ = some (.int .i64 a0_0) := (blk_cell BK216.out 0).trans rfl; have hcz61_1 : w18.cell? ⟨gb216, 1, none⟩ = some (.string a0_1) := (blk_cell BK216.out 1).trans rfl; have hcz61_2 : w18.cell? ⟨gb216, 2, none⟩ = some (.string a0_2) := (blk_cell BK216.out 2).trans rfl; have hcz61_3 : w18.cell? ⟨gb216, 3, none⟩ = some (.int .i64 a0_3) := (blk_cell BK216.out 3).trans rfl; have hcz61_4 : w18.cell? ⟨gb216, 4, none⟩ = some (.string a0_4) := (blk_cell BK216.out 4).trans rfl; have hfz61_0 := blk_frozen BK216.out 0; have hfz61_1 := blk_frozen BK216.out 1; have hfz61_2 := blk_frozen BK216.out 2; have hfz61_3 := blk_frozen BK216.out 3; have hfz61_4 := blk_frozen BK216.out 4
                  (try (have zx_ : ¬ (a0_2.toList = ([] : List UInt8)) := by simpa using c22b0))
                  (try (have zy_ : (a0_2.toList = ([] : List UInt8)) := by simpa using c22b0))
                  (try (have zb_ : (a0_2.toList == ([] : List UInt8)) = false := by simpa using c22b0))
                  (try (have zc_ : (a0_2.toList == ([] : List UInt8)) = true := by simpa using c22b0))
                  (try (have zA_ : (a0_2.toList = ([] : List UInt8)) → t218 = true := by intro e_; simpa [e_] using c22b0))
                  (try (have zB_ : ¬ (a0_2.toList = ([] : List UInt8)) → t218 = false := by intro e_; simpa [e_] using c22b0))
                  (try (have zC_ : (a0_2.toList = ([] : List UInt8)) → t218 = false := by intro e_; simpa [e_] using c22b0))
                  (try (have zD_ : ¬ (a0_2.toList = ([] : List UInt8)) → t218 = true := by intro e_; simpa [e_] using c22b0))
                  go_wp2_with (first | ((with_reducible refine gate_callee (f := 19) rfl ?_); refine goesL_ (some 40) rfl rfl Tryd.func19 (by kernel_rfl) rfl #[.string a0_1] rfl (by (try simp only [List.map_toArray, List.map_cons, List.map_nil]); first | done | rfl | (simp only [List.length_drop, List.length_take]; rfl)) ?_; (with_reducible refine (spec_NameOk.calls k a0_1 true _ A20.out).mono ?_); rintro e w' ⟨rfl, ⟨nd, rfl⟩⟩; refine ⟨_, rfl, ?_⟩))
                  go_meet
                  case rel => exact ⟨_, (true), (by first | rfl | (simp; done) | (simp [*]; done)), H', ⟨by first | omega | exact Nat.le_refl _⟩, ⟨by (with_reducible repeat (first | refine blk_drewN ?_ _ | refine blk_drew ?_ | refine blk_alloc ?_ _)); exact BK216.out⟩, ⟨by repeat (first | (with_reducible first | exact HB.out | apply below_alloc | apply pw_below_drewN | apply below_drew1 | refine below_set ?_ GE216.out) | exact HB.out)⟩⟩
        · replace c21 := Bool.eq_false_iff.mpr c21
          subst c21; have H1 : (spec_ReqOk.j0 k true a0_0 a0_1 a0_2 a0_3 a0_4) = some r := by rw [if_neg (show ¬ (false = true) by decide)] at H; exact H
          clear H; have H := H1; clear H1; have H' := Aside0.mk H; clear H; have hcz62_0 : w18.cell? ⟨gb216, 0, none⟩ = some (.int .i64 a0_0) := (blk_cell BK216.out 0).trans rfl; have hcz62_1 : w18.cell? ⟨gb216, 1, none⟩ = some (.string a0_1) := (blk_cell BK216.out 1).trans rfl; have hcz62_2 : w18.cell? ⟨gb216, 2, none⟩ = some (.string a0_2) := (blk_cell BK216.out 2).trans rfl; have hcz62_3 : w18.cell? ⟨gb216, 3, none⟩ = some (.int .i64 a0_3) := (blk_cell BK216.out 3).trans rfl; have hcz62_4 : w18.cell? ⟨gb216, 4, none⟩ = some (.string a0_4) := (blk_cell BK216.out 4).trans rfl; have hfz62_0 := blk_frozen BK216.out 0; have hfz62_1 := blk_frozen BK216.out 1; have hfz62_2 := blk_frozen BK216.out 2; have hfz62_3 := blk_frozen BK216.out 3; have hfz62_4 := blk_frozen BK216.out 4
          (try (have zx_ : ¬ (a0_2.toList = ([] : List UInt8)) := by simpa using c22b0))
          (try (have zy_ : (a0_2.toList = ([] : List UInt8)) := by simpa using c22b0))
          (try (have zb_ : (a0_2.toList == ([] : List UInt8)) = false := by simpa using c22b0))
          (try (have zc_ : (a0_2.toList == ([] : List UInt8)) = true := by simpa using c22b0))
          (try (have zA_ : (a0_2.toList = ([] : List UInt8)) → t218 = true := by intro e_; simpa [e_] using c22b0))
          (try (have zB_ : ¬ (a0_2.toList = ([] : List UInt8)) → t218 = false := by intro e_; simpa [e_] using c22b0))
          (try (have zC_ : (a0_2.toList = ([] : List UInt8)) → t218 = false := by intro e_; simpa [e_] using c22b0))
          (try (have zD_ : ¬ (a0_2.toList = ([] : List UInt8)) → t218 = true := by intro e_; simpa [e_] using c22b0))
          go_wp2_with (first | ((with_reducible refine gate_callee (f := 19) rfl ?_); refine goesL_ (some 40) rfl rfl Tryd.func19 (by kernel_rfl) rfl #[.string a0_1] rfl (by (try simp only [List.map_toArray, List.map_cons, List.map_nil]); first | done | rfl | (simp only [List.length_drop, List.length_take]; rfl)) ?_; (with_reducible refine (spec_NameOk.calls k a0_1 false _ A20.out).mono ?_); rintro e w' ⟨rfl, ⟨nd, rfl⟩⟩; refine ⟨_, rfl, ?_⟩))
          go_meet
          case rel => exact ⟨_, (true), (by first | rfl | (simp; done) | (simp [*]; done)), H', ⟨by first | omega | exact Nat.le_refl _⟩, ⟨by (with_reducible repeat (first | refine blk_drewN ?_ _ | refine blk_drew ?_ | refine blk_alloc ?_ _)); exact BK216.out⟩, ⟨by repeat (first | (with_reducible first | exact HB.out | apply below_alloc | apply pw_below_drewN | apply below_drew1 | refine below_set ?_ GE216.out) | exact HB.out)⟩⟩
      case rest =>
        clear HC17
        try clear c1
        try clear c2
        try clear p2
        try clear c3
        try clear c4
        try clear c5
        try clear c5b0
        try clear c5b1
        try clear c6
        try clear c6b0
        try clear c6b1
        try clear c7
        try clear c7b0
        try clear c7b1
        try clear c8
        try clear c8b0
        try clear c8b1
        try clear c19
        try clear c21
        try clear c22
        try clear c22b0
        try clear c22b1
        try clear c22b2
        try clear c24
        try clear c26
        try clear c27
        try clear c28
        try clear c31
        try clear c31b0
        try clear c31b1
        try clear c35
        try clear c35b0
        try clear c35b1
        try clear c36
        try clear c39
        try clear c39b0
        try clear c39b1
        try clear c45
        try clear c46
        try clear c49
        try clear c49b0
        try clear c49b1
        try clear c51
        try clear c53
        try clear c53b0
        try clear c53b1
        try clear c54
        try clear c57
        try clear c57b0
        try clear c57b1
        try clear hcz10_0
        try clear hcz10_1
        try clear hcz10_2
        try clear hcz10_3
        try clear hcz10_4
        try clear hcz12_0
        try clear hcz12_1
        try clear hcz12_2
        try clear hcz12_3
        try clear hcz12_4
        try clear hcz14_0
        try clear hcz14_1
        try clear hcz14_2
        try clear hcz14_3
        try clear hcz14_4
        try clear hcz16_0
        try clear hcz16_1
        try clear hcz16_2
        try clear hcz16_3
        try clear hcz16_4
        try clear hcz19_0
        try clear hcz19_1
        try clear hcz19_2
        try clear hcz19_3
        try clear hcz19_4
        try clear hcz23_0
        try clear hcz23_1
        try clear hcz23_2
        try clear hcz23_3
        try clear hcz23_4
        try clear hcz30_0
        try clear hcz30_1
        try clear hcz30_2
        try clear hcz30_3
        try clear hcz30_4
        try clear hcz33_0
        try clear hcz33_1
        try clear hcz33_2
        try clear hcz33_3
        try clear hcz33_4
        try clear hcz34_0
        try clear hcz34_1
        try clear hcz34_2
        try clear hcz34_3
        try clear hcz34_4
        try clear hcz38_0
        try clear hcz38_1
        try clear hcz38_2
        try clear hcz38_3
        try clear hcz38_4
        try clear hcz41_0
        try clear hcz41_1
        try clear hcz41_2
        try clear hcz41_3
        try clear hcz41_4
        try clear hcz42_0
        try clear hcz42_1
        try clear hcz42_2
        try clear hcz42_3
        try clear hcz42_4
        try clear hcz43_0
        try clear hcz43_1
        try clear hcz43_2
        try clear hcz43_3
        try clear hcz43_4
        try clear hcz44_0
        try clear hcz44_1
        try clear hcz44_2
        try clear hcz44_3
        try clear hcz44_4
        try clear hcz48_0
        try clear hcz48_1
        try clear hcz48_2
        try clear hcz48_3
        try clear hcz48_4
        try clear hcz51_0
        try clear hcz51_1
        try clear hcz51_2
        try clear hcz51_3
        try clear hcz51_4
        try clear hcz52_0
        try clear hcz52_1
        try clear hcz52_2
        try clear hcz52_3
        try clear hcz52_4
        try clear hcz56_0
        try clear hcz56_1
        try clear hcz56_2
        try clear hcz56_3
        try clear hcz56_4
        try clear hcz59_0
        try clear hcz59_1
        try clear hcz59_2
        try clear hcz59_3
        try clear hcz59_4
        try clear hcz60_0
        try clear hcz60_1
        try clear hcz60_2
        try clear hcz60_3
        try clear hcz60_4
        try clear hcz61_0
        try clear hcz61_1
        try clear hcz61_2
        try clear hcz61_3
        try clear hcz61_4
        try clear hcz62_0
        try clear hcz62_1
        try clear hcz62_2
        try clear hcz62_3
        try clear hcz62_4
        try clear hfz10_0
        try clear hfz10_1
        try clear hfz10_2
        try clear hfz10_3
        try clear hfz10_4
        try clear hfz12_0
        try clear hfz12_1
        try clear hfz12_2
        try clear hfz12_3
        try clear hfz12_4
        try clear hfz14_0
        try clear hfz14_1
        try clear hfz14_2
        try clear hfz14_3
        try clear hfz14_4
        try clear hfz16_0
        try clear hfz16_1
        try clear hfz16_2
        try clear hfz16_3
        try clear hfz16_4
        try clear hfz19_0
        try clear hfz19_1
        try clear hfz19_2
        try clear hfz19_3
        try clear hfz19_4
        try clear hfz23_0
        try clear hfz23_1
        try clear hfz23_2
        try clear hfz23_3
        try clear hfz23_4
        try clear hfz30_0
        try clear hfz30_1
        try clear hfz30_2
        try clear hfz30_3
        try clear hfz30_4
        try clear hfz33_0
        try clear hfz33_1
        try clear hfz33_2
        try clear hfz33_3
        try clear hfz33_4
        try clear hfz34_0
        try clear hfz34_1
        try clear hfz34_2
        try clear hfz34_3
        try clear hfz34_4
        try clear hfz38_0
        try clear hfz38_1
        try clear hfz38_2
        try clear hfz38_3
        try clear hfz38_4
        try clear hfz41_0
        try clear hfz41_1
        try clear hfz41_2
        try clear hfz41_3
        try clear hfz41_4
        try clear hfz42_0
        try clear hfz42_1
        try clear hfz42_2
        try clear hfz42_3
        try clear hfz42_4
        try clear hfz43_0
        try clear hfz43_1
        try clear hfz43_2
        try clear hfz43_3
        try clear hfz43_4
        try clear hfz44_0
        try clear hfz44_1
        try clear hfz44_2
        try clear hfz44_3
        try clear hfz44_4
        try clear hfz48_0
        try clear hfz48_1
        try clear hfz48_2
        try clear hfz48_3
        try clear hfz48_4
        try clear hfz51_0
        try clear hfz51_1
        try clear hfz51_2
        try clear hfz51_3
        try clear hfz51_4
        try clear hfz52_0
        try clear hfz52_1
        try clear hfz52_2
        try clear hfz52_3
        try clear hfz52_4
        try clear hfz56_0
        try clear hfz56_1
        try clear hfz56_2
        try clear hfz56_3
        try clear hfz56_4
        try clear hfz59_0
        try clear hfz59_1
        try clear hfz59_2
        try clear hfz59_3
        try clear hfz59_4
        try clear hfz60_0
        try clear hfz60_1
        try clear hfz60_2
        try clear hfz60_3
        try clear hfz60_4
        try clear hfz61_0
        try clear hfz61_1
        try clear hfz61_2
        try clear hfz61_3
        try clear hfz61_4
        try clear hfz62_0
        try clear hfz62_1
        try clear hfz62_2
        try clear hfz62_3
        try clear hfz62_4
        obtain ⟨kq, x81_16, rfl, HA, HJ16, BK216, HB⟩ := hcut
        cases kq with
        | zero => exact absurd HA.out (by simp [spec_ReqOk.j0])
        | succ kj16 =>
          have H := HA.out; clear HA; simp only [spec_ReqOk.j0] at H; by_cases c63 : x81_16 = true
          · subst c63
            have H1 : (some false) = some r := by rw [if_pos rfl] at H; exact H
            clear H; have H := H1; clear H1; obtain rfl := Option.some.inj H
            go_wp2
            go_ret
            exact ⟨by first | rfl | (simp [errW_none, errW_some] <;> rfl) | (simp [*, errW_none, errW_some] <;> rfl), by repeat (first | (with_reducible first | exact HB.out | apply below_alloc | apply pw_below_drewN | apply below_drew1 | refine below_set ?_ GE216.out) | exact HB.out)⟩
          · replace c63 := Bool.eq_false_iff.mpr c63
            subst c63; have H1 : (if a0_0 = 5 then (spec_ReqOk.j1 kj16 a0_0 (a0_0 == 5) a0_0 a0_1 a0_2 a0_3 a0_4) else (spec_ReqOk.j1 kj16 a0_0 (a0_0 == 11) a0_0 a0_1 a0_2 a0_3 a0_4)) = some r := by rw [if_neg (show ¬ (false = true) by decide)] at H; exact H
            clear H; have H := H1; clear H1; have HC64 := Aside0.mk H; clear H; have hcz65_0 : wc.cell? ⟨gb216, 0, none⟩ = some (.int .i64 a0_0) := (blk_cell BK216.out 0).trans rfl; have hcz65_1 : wc.cell? ⟨gb216, 1, none⟩ = some (.string a0_1) := (blk_cell BK216.out 1).trans rfl; have hcz65_2 : wc.cell? ⟨gb216, 2, none⟩ = some (.string a0_2) := (blk_cell BK216.out 2).trans rfl; have hcz65_3 : wc.cell? ⟨gb216, 3, none⟩ = some (.int .i64 a0_3) := (blk_cell BK216.out 3).trans rfl; have hcz65_4 : wc.cell? ⟨gb216, 4, none⟩ = some (.string a0_4) := (blk_cell BK216.out 4).trans rfl; have hfz65_0 := blk_frozen BK216.out 0; have hfz65_1 := blk_frozen BK216.out 1; have hfz65_2 := blk_frozen BK216.out 2; have hfz65_3 := blk_frozen BK216.out 3; have hfz65_4 := blk_frozen BK216.out 4
            go_upto_if 84 with (fail)
            go_cut [84] (fun v84 wc => ∃ (kq : Nat) (x84_63 : Bool), v84 = .bool x84_63 ∧ Aside0 (spec_ReqOk.j1 kq a0_0 x84_63 a0_0 a0_1 a0_2 a0_3 a0_4 = some r) ∧ Aside0 (kq ≤ kj16) ∧ Aside0 (wc.heap[gb216]? = some (.cells #[.int .i64 a0_0, .string a0_1, .string a0_2, .int .i64 a0_3, .string a0_4] 42 (0, 0))) ∧ Aside0 (Below w.heap.size w wc))
            case first =>
              have H := HC64.out; clear HC64; by_cases c66 : a0_0 = 5
              · rw [if_pos c66] at H
                have c66b0 : (a0_0 == 5) = true := beq_iff_eq.mpr c66; have c66b1 : (a0_0 != 5) = false := bne_eq_false_iff_eq.mpr c66; clear c66
                (first | rw [c66b0] | (simp only [i64_w, i32_w]; rw [c66b0]) | skip)
                have H' := Aside0.mk H; clear H
                go_wp2
                go_meet
                case rel => exact ⟨_, ((a0_0 == 5)), (by first | rfl | (simp; done) | (simp [*]; done)), H', ⟨by have := HJ16.out; first | omega | exact Nat.le_refl _⟩, ⟨by (with_reducible repeat (first | refine blk_drewN ?_ _ | refine blk_drew ?_ | refine blk_alloc ?_ _)); exact BK216.out⟩, ⟨by repeat (first | (with_reducible first | exact HB.out | apply below_alloc | apply pw_below_drewN | apply below_drew1 | refine below_set ?_ GE216.out) | exact HB.out)⟩⟩
              · rw [if_neg c66] at H
                have c66b0 : (a0_0 == 5) = false := beq_eq_false_iff_ne.mpr c66; have c66b1 : (a0_0 != 5) = true := bne_iff_ne.mpr c66
                (first | rw [c66b0] | (simp only [i64_w, i32_w]; rw [c66b0]) | skip)
                have H' := Aside0.mk H; clear H
                go_wp2
                go_meet
                case rel => exact ⟨_, ((a0_0 == 11)), (by first | rfl | (simp; done) | (simp [*]; done)), H', ⟨by have := HJ16.out; first | omega | exact Nat.le_refl _⟩, ⟨by (with_reducible repeat (first | refine blk_drewN ?_ _ | refine blk_drew ?_ | refine blk_alloc ?_ _)); exact BK216.out⟩, ⟨by repeat (first | (with_reducible first | exact HB.out | apply below_alloc | apply pw_below_drewN | apply below_drew1 | refine below_set ?_ GE216.out) | exact HB.out)⟩⟩
            case rest =>
              clear HC64
              try clear c1
              try clear c2
              try clear p2
              try clear c3
              try clear c4
              try clear c5
              try clear c5b0
              try clear c5b1
              try clear c6
              try clear c6b0
              try clear c6b1
              try clear c7
              try clear c7b0
              try clear c7b1
              try clear c8
              try clear c8b0
              try clear c8b1
              try clear c19
              try clear c21
              try clear c22
              try clear c22b0
              try clear c22b1
              try clear c22b2
              try clear c24
              try clear c26
              try clear c27
              try clear c28
              try clear c31
              try clear c31b0
              try clear c31b1
              try clear c35
              try clear c35b0
              try clear c35b1
              try clear c36
              try clear c39
              try clear c39b0
              try clear c39b1
              try clear c45
              try clear c46
              try clear c49
              try clear c49b0
              try clear c49b1
              try clear c51
              try clear c53
              try clear c53b0
              try clear c53b1
              try clear c54
              try clear c57
              try clear c57b0
              try clear c57b1
              try clear c63
              try clear c66
              try clear c66b0
              try clear c66b1
              try clear hcz10_0
              try clear hcz10_1
              try clear hcz10_2
              try clear hcz10_3
              try clear hcz10_4
              try clear hcz12_0
              try clear hcz12_1
              try clear hcz12_2
              try clear hcz12_3
              try clear hcz12_4
              try clear hcz14_0
              try clear hcz14_1
              try clear hcz14_2
              try clear hcz14_3
              try clear hcz14_4
              try clear hcz16_0
              try clear hcz16_1
              try clear hcz16_2
              try clear hcz16_3
              try clear hcz16_4
              try clear hcz19_0
              try clear hcz19_1
              try clear hcz19_2
              try clear hcz19_3
              try clear hcz19_4
              try clear hcz23_0
              try clear hcz23_1
              try clear hcz23_2
              try clear hcz23_3
              try clear hcz23_4
              try clear hcz30_0
              try clear hcz30_1
              try clear hcz30_2
              try clear hcz30_3
              try clear hcz30_4
              try clear hcz33_0
              try clear hcz33_1
              try clear hcz33_2
              try clear hcz33_3
              try clear hcz33_4
              try clear hcz34_0
              try clear hcz34_1
              try clear hcz34_2
              try clear hcz34_3
              try clear hcz34_4
              try clear hcz38_0
              try clear hcz38_1
              try clear hcz38_2
              try clear hcz38_3
              try clear hcz38_4
              try clear hcz41_0
              try clear hcz41_1
              try clear hcz41_2
              try clear hcz41_3
              try clear hcz41_4
              try clear hcz42_0
              try clear hcz42_1
              try clear hcz42_2
              try clear hcz42_3
              try clear hcz42_4
              try clear hcz43_0
              try clear hcz43_1
              try clear hcz43_2
              try clear hcz43_3
              try clear hcz43_4
              try clear hcz44_0
              try clear hcz44_1
              try clear hcz44_2
              try clear hcz44_3
              try clear hcz44_4
              try clear hcz48_0
              try clear hcz48_1
              try clear hcz48_2
              try clear hcz48_3
              try clear hcz48_4
              try clear hcz51_0
              try clear hcz51_1
              try clear hcz51_2
              try clear hcz51_3
              try clear hcz51_4
              try clear hcz52_0
              try clear hcz52_1
              try clear hcz52_2
              try clear hcz52_3
              try clear hcz52_4
              try clear hcz56_0
              try clear hcz56_1
              try clear hcz56_2
              try clear hcz56_3
              try clear hcz56_4
              try clear hcz59_0
              try clear hcz59_1
              try clear hcz59_2
              try clear hcz59_3
              try clear hcz59_4
              try clear hcz60_0
              try clear hcz60_1
              try clear hcz60_2
              try clear hcz60_3
              try clear hcz60_4
              try clear hcz61_0
              try clear hcz61_1
              try clear hcz61_2
              try clear hcz61_3
              try clear hcz61_4
              try clear hcz62_0
              try clear hcz62_1
              try clear hcz62_2
              try clear hcz62_3
              try clear hcz62_4
              try clear hcz65_0
              try clear hcz65_1
              try clear hcz65_2
              try clear hcz65_3
              try clear hcz65_4
              try clear hfz10_0
              try clear hfz10_1
              try clear hfz10_2
              try clear hfz10_3
              try clear hfz10_4
              try clear hfz12_0
              try clear hfz12_1
              try clear hfz12_2
              try clear hfz12_3
              try clear hfz12_4
              try clear hfz14_0
              try clear hfz14_1
              try clear hfz14_2
              try clear hfz14_3
              try clear hfz14_4
              try clear hfz16_0
              try clear hfz16_1
              try clear hfz16_2
              try clear hfz16_3
              try clear hfz16_4
              try clear hfz19_0
              try clear hfz19_1
              try clear hfz19_2
              try clear hfz19_3
              try clear hfz19_4
              try clear hfz23_0
              try clear hfz23_1
              try clear hfz23_2
              try clear hfz23_3
              try clear hfz23_4
              try clear hfz30_0
              try clear hfz30_1
              try clear hfz30_2
              try clear hfz30_3
              try clear hfz30_4
              try clear hfz33_0
              try clear hfz33_1
              try clear hfz33_2
              try clear hfz33_3
              try clear hfz33_4
              try clear hfz34_0
              try clear hfz34_1
              try clear hfz34_2
              try clear hfz34_3
              try clear hfz34_4
              try clear hfz38_0
              try clear hfz38_1
              try clear hfz38_2
              try clear hfz38_3
              try clear hfz38_4
              try clear hfz41_0
              try clear hfz41_1
              try clear hfz41_2
              try clear hfz41_3
              try clear hfz41_4
              try clear hfz42_0
              try clear hfz42_1
              try clear hfz42_2
              try clear hfz42_3
              try clear hfz42_4
              try clear hfz43_0
              try clear hfz43_1
              try clear hfz43_2
              try clear hfz43_3
              try clear hfz43_4
              try clear hfz44_0
              try clear hfz44_1
              try clear hfz44_2
              try clear hfz44_3
              try clear hfz44_4
              try clear hfz48_0
              try clear hfz48_1
              try clear hfz48_2
              try clear hfz48_3
              try clear hfz48_4
              try clear hfz51_0
              try clear hfz51_1
              try clear hfz51_2
              try clear hfz51_3
              try clear hfz51_4
              try clear hfz52_0
              try clear hfz52_1
              try clear hfz52_2
              try clear hfz52_3
              try clear hfz52_4
              try clear hfz56_0
              try clear hfz56_1
              try clear hfz56_2
              try clear hfz56_3
              try clear hfz56_4
              try clear hfz59_0
              try clear hfz59_1
              try clear hfz59_2
              try clear hfz59_3
              try clear hfz59_4
              try clear hfz60_0
              try clear hfz60_1
              try clear hfz60_2
              try clear hfz60_3
              try clear hfz60_4
              try clear hfz61_0
              try clear hfz61_1
              try clear hfz61_2
              try clear hfz61_3
              try clear hfz61_4
              try clear hfz62_0
              try clear hfz62_1
              try clear hfz62_2
              try clear hfz62_3
              try clear hfz62_4
              try clear hfz65_0
              try clear hfz65_1
              try clear hfz65_2
              try clear hfz65_3
              try clear hfz65_4
              try clear p2
              obtain ⟨kq, x84_63, rfl, HA, HJ63, BK216, HB⟩ := hcut
              cases kq with
              | zero => exact absurd HA.out (by simp [spec_ReqOk.j1])
              | succ kj63 =>
                have H := HA.out; clear HA; simp only [spec_ReqOk.j1] at H; by_cases c67 : x84_63 = true
                · subst c67
                  have H1 : (if a0_3 ≥ 0 then ((spec_l7Body.f kj63 a0_4).bind fun t231 => (some t231)) else (some false)) = some r := by rw [if_pos rfl] at H; exact H
                  clear H; have H := H1; clear H1; by_cases c68 : a0_3 ≥ 0
                  · rw [if_pos c68] at H
                    have c68b0 : decide (0 ≤ a0_3) = true := decide_eq_true c68; clear c68; replace H := Option.bind_eq_some_iff.mp H; obtain ⟨t231, A690, H⟩ := H; replace H : (some t231) = some r := H; have A69 := Aside0.mk A690; clear A690; obtain rfl := Option.some.inj H; have hcz70_0 : wc.cell? ⟨gb216, 0, none⟩ = some (.int .i64 a0_0) := (blk_cell BK216.out 0).trans rfl; have hcz70_1 : wc.cell? ⟨gb216, 1, none⟩ = some (.string a0_1) := (blk_cell BK216.out 1).trans rfl; have hcz70_2 : wc.cell? ⟨gb216, 2, none⟩ = some (.string a0_2) := (blk_cell BK216.out 2).trans rfl; have hcz70_3 : wc.cell? ⟨gb216, 3, none⟩ = some (.int .i64 a0_3) := (blk_cell BK216.out 3).trans rfl; have hcz70_4 : wc.cell? ⟨gb216, 4, none⟩ = some (.string a0_4) := (blk_cell BK216.out 4).trans rfl; have hfz70_0 := blk_frozen BK216.out 0; have hfz70_1 := blk_frozen BK216.out 1; have hfz70_2 := blk_frozen BK216.out 2; have hfz70_3 := blk_frozen BK216.out 3; have hfz70_4 := blk_frozen BK216.out 4
                    go_wp2_with (first | (go_at_call 52; (with_reducible refine (spec_l7Body.calls kj63 a0_4 t231 _ A69.out).mono ?_); rintro e w' ⟨rfl, ⟨nd, rfl⟩⟩))
                    go_ret
                    exact ⟨by first | rfl | (simp [errW_none, errW_some] <;> rfl) | (simp [*, errW_none, errW_some] <;> rfl), by repeat (first | (with_reducible first | exact HB.out | apply below_alloc | apply pw_below_drewN | apply below_drew1 | refine below_set ?_ GE216.out) | exact HB.out)⟩
                  · rw [if_neg c68] at H
                    have c68b0 : decide (0 ≤ a0_3) = false := decide_eq_false c68; clear c68; obtain rfl := Option.some.inj H; have hcz71_0 : wc.cell? ⟨gb216, 0, none⟩ = some (.int .i64 a0_0) := (blk_cell BK216.out 0).trans rfl; have hcz71_1 : wc.cell? ⟨gb216, 1, none⟩ = some (.string a0_1) := (blk_cell BK216.out 1).trans rfl; have hcz71_2 : wc.cell? ⟨gb216, 2, none⟩ = some (.string a0_2) := (blk_cell BK216.out 2).trans rfl; have hcz71_3 : wc.cell? ⟨gb216, 3, none⟩ = some (.int .i64 a0_3) := (blk_cell BK216.out 3).trans rfl; have hcz71_4 : wc.cell? ⟨gb216, 4, none⟩ = some (.string a0_4) := (blk_cell BK216.out 4).trans rfl; have hfz71_0 := blk_frozen BK216.out 0; have hfz71_1 := blk_frozen BK216.out 1; have hfz71_2 := blk_frozen BK216.out 2; have hfz71_3 := blk_frozen BK216.out 3; have hfz71_4 := blk_frozen BK216.out 4
                    go_wp2
                    go_ret
                    exact ⟨by first | rfl | (simp [errW_none, errW_some] <;> rfl) | (simp [*, errW_none, errW_some] <;> rfl), by repeat (first | (with_reducible first | exact HB.out | apply below_alloc | apply pw_below_drewN | apply below_drew1 | refine below_set ?_ GE216.out) | exact HB.out)⟩
                · replace c67 := Bool.eq_false_iff.mpr c67
                  subst c67; have H1 : (if a0_0 = 6 then (spec_ReqOk.j2 kj63 (a0_0 == 6) a0_0 a0_1 a0_2 a0_3 a0_4) else (spec_ReqOk.j2 kj63 (a0_0 == 7) a0_0 a0_1 a0_2 a0_3 a0_4)) = some r := by rw [if_neg (show ¬ (false = true) by decide)] at H; exact H
                  clear H; have H := H1; clear H1; have HC72 := Aside0.mk H; clear H
                  go_upto_if 95 with (fail)
                  go_cut [95] (fun v95 wc => ∃ (kq : Nat) (x95_71 : Bool), v95 = .bool x95_71 ∧ Aside0 (spec_ReqOk.j2 kq x95_71 a0_0 a0_1 a0_2 a0_3 a0_4 = some r) ∧ Aside0 (kq ≤ kj63) ∧ Aside0 (wc.heap[gb216]? = some (.cells #[.int .i64 a0_0, .string a0_1, .string a0_2, .int .i64 a0_3, .string a0_4] 42 (0, 0))) ∧ Aside0 (Below w.heap.size w wc))
                  case first =>
                    have H := HC72.out; clear HC72; by_cases c73 : a0_0 = 6
                    · rw [if_pos c73] at H
                      have c73b0 : (a0_0 == 6) = true := beq_iff_eq.mpr c73; have c73b1 : (a0_0 != 6) = false := bne_eq_false_iff_eq.mpr c73; clear c73
                      (first | rw [c73b0] | (simp only [i64_w, i32_w]; rw [c73b0]) | skip)
                      have H' := Aside0.mk H; clear H
                      go_wp2
                      go_meet
                      case rel => exact ⟨_, ((a0_0 == 6)), (by first | rfl | (simp; done) | (simp [*]; done)), H', ⟨by have := HJ16.out; have := HJ63.out; first | omega | exact Nat.le_refl _⟩, ⟨by (with_reducible repeat (first | refine blk_drewN ?_ _ | refine blk_drew ?_ | refine blk_alloc ?_ _)); exact BK216.out⟩, ⟨by repeat (first | (with_reducible first | exact HB.out | apply below_alloc | apply pw_below_drewN | apply below_drew1 | refine below_set ?_ GE216.out) | exact HB.out)⟩⟩
                    · rw [if_neg c73] at H
                      have c73b0 : (a0_0 == 6) = false := beq_eq_false_iff_ne.mpr c73; have c73b1 : (a0_0 != 6) = true := bne_iff_ne.mpr c73
                      (first | rw [c73b0] | (simp only [i64_w, i32_w]; rw [c73b0]) | skip)
                      have H' := Aside0.mk H; clear H
                      go_wp2
                      go_meet
                      case rel => exact ⟨_, ((a0_0 == 7)), (by first | rfl | (simp; done) | (simp [*]; done)), H', ⟨by have := HJ16.out; have := HJ63.out; first | omega | exact Nat.le_refl _⟩, ⟨by (with_reducible repeat (first | refine blk_drewN ?_ _ | refine blk_drew ?_ | refine blk_alloc ?_ _)); exact BK216.out⟩, ⟨by repeat (first | (with_reducible first | exact HB.out | apply below_alloc | apply pw_below_drewN | apply below_drew1 | refine below_set ?_ GE216.out) | exact HB.out)⟩⟩
                  case rest =>
                    clear HC72
                    try clear c1
                    try clear c2
                    try clear p2
                    try clear c3
                    try clear c4
                    try clear c5
                    try clear c5b0
                    try clear c5b1
                    try clear c6
                    try clear c6b0
                    try clear c6b1
                    try clear c7
                    try clear c7b0
                    try clear c7b1
                    try clear c8
                    try clear c8b0
                    try clear c8b1
                    try clear c19
                    try clear c21
                    try clear c22
                    try clear c22b0
                    try clear c22b1
                    try clear c22b2
                    try clear c24
                    try clear c26
                    try clear c27
                    try clear c28
                    try clear c31
                    try clear c31b0
                    try clear c31b1
                    try clear c35
                    try clear c35b0
                    try clear c35b1
                    try clear c36
                    try clear c39
                    try clear c39b0
                    try clear c39b1
                    try clear c45
                    try clear c46
                    try clear c49
                    try clear c49b0
                    try clear c49b1
                    try clear c51
                    try clear c53
                    try clear c53b0
                    try clear c53b1
                    try clear c54
                    try clear c57
                    try clear c57b0
                    try clear c57b1
                    try clear c63
                    try clear c66
                    try clear c66b0
                    try clear c66b1
                    try clear c67
                    try clear c68
                    try clear c68b0
                    try clear c73
                    try clear c73b0
                    try clear c73b1
                    try clear hcz10_0
                    try clear hcz10_1
                    try clear hcz10_2
                    try clear hcz10_3
                    try clear hcz10_4
                    try clear hcz12_0
                    try clear hcz12_1
                    try clear hcz12_2
                    try clear hcz12_3
                    try clear hcz12_4
                    try clear hcz14_0
                    try clear hcz14_1
                    try clear hcz14_2
                    try clear hcz14_3
                    try clear hcz14_4
                    try clear hcz16_0
                    try clear hcz16_1
                    try clear hcz16_2
                    try clear hcz16_3
                    try clear hcz16_4
                    try clear hcz19_0
                    try clear hcz19_1
                    try clear hcz19_2
                    try clear hcz19_3
                    try clear hcz19_4
                    try clear hcz23_0
                    try clear hcz23_1
                    try clear hcz23_2
                    try clear hcz23_3
                    try clear hcz23_4
                    try clear hcz30_0
                    try clear hcz30_1
                    try clear hcz30_2
                    try clear hcz30_3
                    try clear hcz30_4
                    try clear hcz33_0
                    try clear hcz33_1
                    try clear hcz33_2
                    try clear hcz33_3
                    try clear hcz33_4
                    try clear hcz34_0
                    try clear hcz34_1
                    try clear hcz34_2
                    try clear hcz34_3
                    try clear hcz34_4
                    try clear hcz38_0
                    try clear hcz38_1
                    try clear hcz38_2
                    try clear hcz38_3
                    try clear hcz38_4
                    try clear hcz41_0
                    try clear hcz41_1
                    try clear hcz41_2
                    try clear hcz41_3
                    try clear hcz41_4
                    try clear hcz42_0
                    try clear hcz42_1
                    try clear hcz42_2
                    try clear hcz42_3
                    try clear hcz42_4
                    try clear hcz43_0
                    try clear hcz43_1
                    try clear hcz43_2
                    try clear hcz43_3
                    try clear hcz43_4
                    try clear hcz44_0
                    try clear hcz44_1
                    try clear hcz44_2
                    try clear hcz44_3
                    try clear hcz44_4
                    try clear hcz48_0
                    try clear hcz48_1
                    try clear hcz48_2
                    try clear hcz48_3
                    try clear hcz48_4
                    try clear hcz51_0
                    try clear hcz51_1
                    try clear hcz51_2
                    try clear hcz51_3
                    try clear hcz51_4
                    try clear hcz52_0
                    try clear hcz52_1
                    try clear hcz52_2
                    try clear hcz52_3
                    try clear hcz52_4
                    try clear hcz56_0
                    try clear hcz56_1
                    try clear hcz56_2
                    try clear hcz56_3
                    try clear hcz56_4
                    try clear hcz59_0
                    try clear hcz59_1
                    try clear hcz59_2
                    try clear hcz59_3
                    try clear hcz59_4
                    try clear hcz60_0
                    try clear hcz60_1
                    try clear hcz60_2
                    try clear hcz60_3
                    try clear hcz60_4
                    try clear hcz61_0
                    try clear hcz61_1
                    try clear hcz61_2
                    try clear hcz61_3
                    try clear hcz61_4
                    try clear hcz62_0
                    try clear hcz62_1
                    try clear hcz62_2
                    try clear hcz62_3
                    try clear hcz62_4
                    try clear hcz65_0
                    try clear hcz65_1
                    try clear hcz65_2
                    try clear hcz65_3
                    try clear hcz65_4
                    try clear hcz70_0
                    try clear hcz70_1
                    try clear hcz70_2
                    try clear hcz70_3
                    try clear hcz70_4
                    try clear hcz71_0
                    try clear hcz71_1
                    try clear hcz71_2
                    try clear hcz71_3
                    try clear hcz71_4
                    try clear hfz10_0
                    try clear hfz10_1
                    try clear hfz10_2
                    try clear hfz10_3
                    try clear hfz10_4
                    try clear hfz12_0
                    try clear hfz12_1
                    try clear hfz12_2
                    try clear hfz12_3
                    try clear hfz12_4
                    try clear hfz14_0
                    try clear hfz14_1
                    try clear hfz14_2
                    try clear hfz14_3
                    try clear hfz14_4
                    try clear hfz16_0
                    try clear hfz16_1
                    try clear hfz16_2
                    try clear hfz16_3
                    try clear hfz16_4
                    try clear hfz19_0
                    try clear hfz19_1
                    try clear hfz19_2
                    try clear hfz19_3
                    try clear hfz19_4
                    try clear hfz23_0
                    try clear hfz23_1
                    try clear hfz23_2
                    try clear hfz23_3
                    try clear hfz23_4
                    try clear hfz30_0
                    try clear hfz30_1
                    try clear hfz30_2
                    try clear hfz30_3
                    try clear hfz30_4
                    try clear hfz33_0
                    try clear hfz33_1
                    try clear hfz33_2
                    try clear hfz33_3
                    try clear hfz33_4
                    try clear hfz34_0
                    try clear hfz34_1
                    try clear hfz34_2
                    try clear hfz34_3
                    try clear hfz34_4
                    try clear hfz38_0
                    try clear hfz38_1
                    try clear hfz38_2
                    try clear hfz38_3
                    try clear hfz38_4
                    try clear hfz41_0
                    try clear hfz41_1
                    try clear hfz41_2
                    try clear hfz41_3
                    try clear hfz41_4
                    try clear hfz42_0
                    try clear hfz42_1
                    try clear hfz42_2
                    try clear hfz42_3
                    try clear hfz42_4
                    try clear hfz43_0
                    try clear hfz43_1
                    try clear hfz43_2
                    try clear hfz43_3
                    try clear hfz43_4
                    try clear hfz44_0
                    try clear hfz44_1
                    try clear hfz44_2
                    try clear hfz44_3
                    try clear hfz44_4
                    try clear hfz48_0
                    try clear hfz48_1
                    try clear hfz48_2
                    try clear hfz48_3
                    try clear hfz48_4
                    try clear hfz51_0
                    try clear hfz51_1
                    try clear hfz51_2
                    try clear hfz51_3
                    try clear hfz51_4
                    try clear hfz52_0
                    try clear hfz52_1
                    try clear hfz52_2
                    try clear hfz52_3
                    try clear hfz52_4
                    try clear hfz56_0
                    try clear hfz56_1
                    try clear hfz56_2
                    try clear hfz56_3
                    try clear hfz56_4
                    try clear hfz59_0
                    try clear hfz59_1
                    try clear hfz59_2
                    try clear hfz59_3
                    try clear hfz59_4
                    try clear hfz60_0
                    try clear hfz60_1
                    try clear hfz60_2
                    try clear hfz60_3
                    try clear hfz60_4
                    try clear hfz61_0
                    try clear hfz61_1
                    try clear hfz61_2
                    try clear hfz61_3
                    try clear hfz61_4
                    try clear hfz62_0
                    try clear hfz62_1
                    try clear hfz62_2
                    try clear hfz62_3
                    try clear hfz62_4
                    try clear hfz65_0
                    try clear hfz65_1
                    try clear hfz65_2
                    try clear hfz65_3
                    try clear hfz65_4
                    try clear hfz70_0
                    try clear hfz70_1
                    try clear hfz70_2
                    try clear hfz70_3
                    try clear hfz70_4
                    try clear hfz71_0
                    try clear hfz71_1
                    try clear hfz71_2
                    try clear hfz71_3
                    try clear hfz71_4
                    try clear p2
                    obtain ⟨kq, x95_71, rfl, HA, HJ71, BK216, HB⟩ := hcut
                    cases kq with
                    | zero => exact absurd HA.out (by simp [spec_ReqOk.j2])
                    | succ kj71 =>
                      have H := HA.out; clear HA; simp only [spec_ReqOk.j2] at H; by_cases c74 : x95_71 = true
                      · subst c74
                        have H1 : ((spec_NameOk.f kj71 a0_4).bind fun t232 => (some t232)) = some r := by rw [if_pos rfl] at H; exact H
                        clear H; have H := H1; clear H1; replace H := Option.bind_eq_some_iff.mp H; obtain ⟨t232, A750, H⟩ := H; replace H : (some t232) = some r := H; have A75 := Aside0.mk A750; clear A750; obtain rfl := Option.some.inj H; have hcz76_0 : wc.cell? ⟨gb216, 0, none⟩ = some (.int .i64 a0_0) := (blk_cell BK216.out 0).trans rfl; have hcz76_1 : wc.cell? ⟨gb216, 1, none⟩ = some (.string a0_1) := (blk_cell BK216.out 1).trans rfl; have hcz76_2 : wc.cell? ⟨gb216, 2, none⟩ = some (.string a0_2) := (blk_cell BK216.out 2).trans rfl; have hcz76_3 : wc.cell? ⟨gb216, 3, none⟩ = some (.int .i64 a0_3) := (blk_cell BK216.out 3).trans rfl; have hcz76_4 : wc.cell? ⟨gb216, 4, none⟩ = some (.string a0_4) := (blk_cell BK216.out 4).trans rfl; have hfz76_0 := blk_frozen BK216.out 0; have hfz76_1 := blk_frozen BK216.out 1; have hfz76_2 := blk_frozen BK216.out 2; have hfz76_3 := blk_frozen BK216.out 3; have hfz76_4 := blk_frozen BK216.out 4
                        go_wp2_with (first | ((with_reducible refine gate_callee (f := 19) rfl ?_); refine goesL_ (some 100) rfl rfl Tryd.func19 (by kernel_rfl) rfl #[.string a0_4] rfl (by (try simp only [List.map_toArray, List.map_cons, List.map_nil]); first | done | rfl | (simp only [List.length_drop, List.length_take]; rfl)) ?_; (with_reducible refine (spec_NameOk.calls kj71 a0_4 t232 _ A75.out).mono ?_); rintro e w' ⟨rfl, ⟨nd, rfl⟩⟩; refine ⟨_, rfl, ?_⟩))
                        go_ret
                        exact ⟨by first | rfl | (simp [errW_none, errW_some] <;> rfl) | (simp [*, errW_none, errW_some] <;> rfl), by repeat (first | (with_reducible first | exact HB.out | apply below_alloc | apply pw_below_drewN | apply below_drew1 | refine below_set ?_ GE216.out) | exact HB.out)⟩
                      · replace c74 := Bool.eq_false_iff.mpr c74
                        subst c74; have H1 : ((spec_l7Body.f kj71 a0_4).bind fun t233 => (some t233)) = some r := by rw [if_neg (show ¬ (false = true) by decide)] at H; exact H
                        clear H; have H := H1; clear H1; replace H := Option.bind_eq_some_iff.mp H; obtain ⟨t233, A770, H⟩ := H; replace H : (some t233) = some r := H; have A77 := Aside0.mk A770; clear A770; obtain rfl := Option.some.inj H; have hcz78_0 : wc.cell? ⟨gb216, 0, none⟩ = some (.int .i64 a0_0) := (blk_cell BK216.out 0).trans rfl; have hcz78_1 : wc.cell? ⟨gb216, 1, none⟩ = some (.string a0_1) := (blk_cell BK216.out 1).trans rfl; have hcz78_2 : wc.cell? ⟨gb216, 2, none⟩ = some (.string a0_2) := (blk_cell BK216.out 2).trans rfl; have hcz78_3 : wc.cell? ⟨gb216, 3, none⟩ = some (.int .i64 a0_3) := (blk_cell BK216.out 3).trans rfl; have hcz78_4 : wc.cell? ⟨gb216, 4, none⟩ = some (.string a0_4) := (blk_cell BK216.out 4).trans rfl; have hfz78_0 := blk_frozen BK216.out 0; have hfz78_1 := blk_frozen BK216.out 1; have hfz78_2 := blk_frozen BK216.out 2; have hfz78_3 := blk_frozen BK216.out 3; have hfz78_4 := blk_frozen BK216.out 4
                        go_wp2_with (first | ((with_reducible refine gate_callee (f := 52) rfl ?_); refine goesL_ (some 103) rfl rfl Tryd.func52 (by kernel_rfl) rfl #[.string a0_4] rfl (by (try simp only [List.map_toArray, List.map_cons, List.map_nil]); first | done | rfl | (simp only [List.length_drop, List.length_take]; rfl)) ?_; (with_reducible refine (spec_l7Body.calls kj71 a0_4 t233 _ A77.out).mono ?_); rintro e w' ⟨rfl, ⟨nd, rfl⟩⟩; refine ⟨_, rfl, ?_⟩))
                        go_ret
                        exact ⟨by first | rfl | (simp [errW_none, errW_some] <;> rfl) | (simp [*, errW_none, errW_some] <;> rfl), by repeat (first | (with_reducible first | exact HB.out | apply below_alloc | apply pw_below_drewN | apply below_drew1 | refine below_set ?_ GE216.out) | exact HB.out)⟩
  · replace c3 := Bool.eq_false_iff.mpr c3
    subst c3; have H1 : (some false) = some r := by rw [if_neg (show ¬ (false = true) by decide)] at H; exact H
    clear H; have H := H1; clear H1; obtain rfl := Option.some.inj H
    go_enter Tryd.func27, Tryd.ntmps27
    go_wp2_with (first | ((with_reducible refine gate_dst (N := 1) rfl ?_); refine box_event ?hg (N := 1) ?hd (cs := #[.int .i64 a0_0, .string a0_1, .string a0_2, .int .i64 a0_3, .string a0_4]) (t := 42) ?hr ?_; (case hd => rfl); (case hg => rfl); (case hr => first | (go_simp; done) | (go_simp; rfl)); intro gb216 hg w79 hbox hb; have n0_ := Aside0.mk (below_step (by repeat (first | (with_reducible first | exact HB.out | apply below_alloc | apply pw_below_drewN | apply below_drew1) | exact HB.out)) hb); have n1_ := Aside0.mk (hbox); have n2_ := Aside0.mk ((by rw [hg]; exact (below_size (by repeat (first | (with_reducible first | exact HB.out | apply below_alloc | apply pw_below_drewN | apply below_drew1) | exact HB.out))) : w.heap.size ≤ gb216)); have n3_ := Aside0.mk ((by rw [hg]; exact (below_size (by repeat (first | (with_reducible first | exact HB.out | apply below_alloc | apply pw_below_drewN | apply below_drew1) | exact HB.out))) : w.heap.size ≤ gb216)); clear HB; have HB := n0_; have BK216 := n1_; have GW216 := n2_; have GE216 := n3_; clear n0_ n1_ n2_ n3_; clear hb hbox hg; have hcz80_0 : w79.cell? ⟨gb216, 0, none⟩ = some (.int .i64 a0_0) := (blk_cell BK216.out 0).trans rfl; have hcz80_1 : w79.cell? ⟨gb216, 1, none⟩ = some (.string a0_1) := (blk_cell BK216.out 1).trans rfl; have hcz80_2 : w79.cell? ⟨gb216, 2, none⟩ = some (.string a0_2) := (blk_cell BK216.out 2).trans rfl; have hcz80_3 : w79.cell? ⟨gb216, 3, none⟩ = some (.int .i64 a0_3) := (blk_cell BK216.out 3).trans rfl; have hcz80_4 : w79.cell? ⟨gb216, 4, none⟩ = some (.string a0_4) := (blk_cell BK216.out 4).trans rfl; have hfz80_0 := blk_frozen BK216.out 0; have hfz80_1 := blk_frozen BK216.out 1; have hfz80_2 := blk_frozen BK216.out 2; have hfz80_3 := blk_frozen BK216.out 3; have hfz80_4 := blk_frozen BK216.out 4) | ((with_reducible refine gate_callee (f := 46) rfl ?_); refine goesL_ (some 8) rfl rfl Tryd.func46 (by kernel_rfl) rfl #[.int .i64 a0_0, .int .i64 1, .int .i64 12] rfl (by (try simp only [List.map_toArray, List.map_cons, List.map_nil]); first | done | rfl | (simp only [List.length_drop, List.length_take]; rfl)) ?_; (with_reducible refine (spec_l1In.calls a0_0 1 12 false _ A2.out).mono ?_); rintro e w' ⟨rfl, ⟨nd, rfl⟩⟩; refine ⟨_, rfl, ?_⟩))
    go_ret
    exact ⟨by first | rfl | (simp [errW_none, errW_some] <;> rfl) | (simp [*, errW_none, errW_some] <;> rfl), by repeat (first | (with_reducible first | exact HB.out | apply below_alloc | apply pw_below_drewN | apply below_drew1 | refine below_set ?_ GE216.out) | exact HB.out)⟩
end Go.Proofs.YtgkgkpoeiojmeaaDoor.P
namespace Go.Proofs.YtgkgkpoeiojmeaaDoor.P
open Go.RowKit Go.Proofs.YtgkgkpoeiojmeaaDoorW.PrintWords Go.Proofs.YtgkgkpoeiojmeaaDoorW.PrintLast Go.Proofs.YtgkgkpoeiojmeaaDoorW.PrintMore
attribute [local go_sem] max2_int min2_int max_two min_two max_three min_three max_four min_four   -- for this text's walks alone
set_option linter.unusedVariables false
set_option linter.unusedSimpArgs false
def spec_l1Dec.f : Nat → Int → Option (ByteArray)
  | 0, _ => none
  | k + 1, a0 => if a0 < (-9223372036854775807) then (some (⟨#[45, 57, 50, 50, 51, 51, 55, 50, 48, 51, 54, 56, 53, 52, 55, 55, 53, 56, 48, 56]⟩ : ByteArray)) else (if a0 < 0 then ((spec_l1Dec.f k (wrap64 (-a0))).bind fun t102 => (if 1 + t102.size ≤ 9223372036854775807 then (some ((⟨#[45]⟩ : ByteArray) ++ t102)) else (none))) else (if a0 < 10 then (some (strOfNums (([(wrap64 (48 + a0)) % 256] : List Int)))) else ((spec_l1Dec.f k (wrap64 (Int.tdiv a0 10))).bind fun t106 => ((some (([(wrap64 (48 + (Int.tmod a0 10))) % 256] : List Int) : List Int)).bind fun y107 => (if t106.size + (strOfNums y107).size ≤ 9223372036854775807 then (some (t106 ++ (strOfNums y107))) else (none))))))
def spec_l1Dec.T7 : Bool × List (List Nat × List Nat) := (true, [([], []), ([0], [0]), ([1], [1]), ([], []), ([3], [3]), ([4], [4]), ([5], [5]), ([6], [6]), ([7], [7]), ([2, 8], [2, 8]), ([9, 2, 0, 1, 2, 3, 4, 5, 6, 7, 8, 9], [9])])
def spec_l1Dec.B7 : List Nat := [0, 1, 3, 0, 8, 24, 56, 120, 248, 511, 1023]
theorem spec_l1Dec.tab7 : rtab .any (opsOf Tryd.f63 7) = spec_l1Dec.T7 := by kernel_rfl
theorem spec_l1Dec.bits7 : waitsOk spec_l1Dec.T7.2 spec_l1Dec.B7 = true := by kernel_rfl
set_option maxHeartbeats 8000000 in
set_option maxRecDepth 100000 in
theorem spec_l1Dec.calls (k : Nat) : ∀ (a0 : Int) (r : ByteArray) (w : World) (h : spec_l1Dec.f k a0 = some r),
    Calls Tryd.prog 63 #[.int .i64 a0] w fun e w' => e = .returned (.string r) ∧ Below w.heap.size w w' := by
  induction k using Nat.strongRecOn with
  | _ k ih =>
  intro a0 r w h
  cases k with
  | zero => exact absurd h (by simp [spec_l1Dec.f])
  | succ k =>
  simp only [spec_l1Dec.f] at h; have HB := Aside0.mk (Below.refl w.heap.size w); have H : (if a0 < (-9223372036854775807) then (some (⟨#[45, 57, 50, 50, 51, 51, 55, 50, 48, 51, 54, 56, 53, 52, 55, 55, 53, 56, 48, 56]⟩ : ByteArray)) else (if a0 < 0 then ((spec_l1Dec.f k (wrap64 (-a0))).bind fun t102 => (if 1 + t102.size ≤ 9223372036854775807 then (some ((⟨#[45]⟩ : ByteArray) ++ t102)) else (none))) else (if a0 < 10 then (some (strOfNums (([(wrap64 (48 + a0)) % 256] : List Int)))) else ((spec_l1Dec.f k (wrap64 (Int.tdiv a0 10))).bind fun t106 => ((some (([(wrap64 (48 + (Int.tmod a0 10))) % 256] : List Int) : List Int)).bind fun y107 => (if t106.size + (strOfNums y107).size ≤ 9223372036854775807 then (some (t106 ++ (strOfNums y107))) else (none))))))) = some r := h; clear h; by_cases c2 : a0 < (-9223372036854775807)
  · rw [if_pos c2] at H
    have c2b0 : decide (a0 < (-9223372036854775807)) = true := decide_eq_true c2; clear c2; obtain rfl := Option.some.inj H
    go_enter Tryd.func63, Tryd.ntmps63
    go_wp2
    go_ret
    exact ⟨by first | rfl | (simp [errW_none, errW_some] <;> rfl) | (simp [*, errW_none, errW_some] <;> rfl), by repeat (first | (with_reducible first | exact HB.out | apply below_alloc | apply pw_below_drewN | apply below_drew1) | exact HB.out)⟩
  · rw [if_neg c2] at H
    have c2b0 : decide (a0 < (-9223372036854775807)) = false := decide_eq_false c2; clear c2; by_cases c3 : a0 < 0
    · rw [if_pos c3] at H
      have c3b0 : decide (a0 < 0) = true := decide_eq_true c3; clear c3; replace H := Option.bind_eq_some_iff.mp H; obtain ⟨t102, A40, H⟩ := H; replace H : (if 1 + t102.size ≤ 9223372036854775807 then (some ((⟨#[45]⟩ : ByteArray) ++ t102)) else (none)) = some r := H; have A4 := Aside0.mk A40; clear A40; by_cases c5 : 1 + t102.size ≤ 9223372036854775807
      · rw [if_pos c5] at H
        have c5b0 := eq_true c5; have c5b1 : decide (1 + t102.size ≤ 9223372036854775807) = true := decide_eq_true c5
        try have c5b2 : (9223372036854775807 < 1 + t102.size) = False := eq_false (Nat.not_lt.2 c5)
        obtain rfl := Option.some.inj H
        go_enter Tryd.func63, Tryd.ntmps63
        go_wp2_with (first | ((with_reducible refine gate_callee (f := 63) rfl ?_); refine goesL_ (some 9) rfl rfl Tryd.func63 (by kernel_rfl) rfl #[.int .i64 (wrap64 (-a0))] rfl (by (try simp only [List.map_toArray, List.map_cons, List.map_nil]); first | done | rfl | (simp only [List.length_drop, List.length_take]; rfl)) ?_; (with_reducible refine (ih k (by omega) (wrap64 (-a0)) t102 _ A4.out).mono ?_); rintro e w6 ⟨rfl, hb⟩; refine ⟨_, rfl, ?_⟩; have n0_ := Aside0.mk (below_step (by repeat (first | (with_reducible first | exact HB.out | apply below_alloc | apply pw_below_drewN | apply below_drew1) | exact HB.out)) hb); clear HB; have HB := n0_; clear n0_; (try clear hb); (try clear hb2); (try clear hk); (try clear hi)))
        go_ret
        exact ⟨by first | rfl | (simp [errW_none, errW_some] <;> rfl) | (simp [*, errW_none, errW_some] <;> rfl), by repeat (first | (with_reducible first | exact HB.out | apply below_alloc | apply pw_below_drewN | apply below_drew1) | exact HB.out)⟩
      · rw [if_neg c5] at H
        exact absurd H (by simp)
    · rw [if_neg c3] at H
      have c3b0 : decide (a0 < 0) = false := decide_eq_false c3; clear c3; by_cases c7 : a0 < 10
      · rw [if_pos c7] at H
        have c7b0 : decide (a0 < 10) = true := decide_eq_true c7; clear c7; obtain ⟨y103, hy103⟩ : ∃ y_ : List Int, y_ = (([(wrap64 (48 + a0)) % 256] : List Int)) := ⟨_, rfl⟩; replace H : (some (strOfNums y103)) = some r := by first | (rw [hy103]; with_reducible exact H) | (have H2_ := (Option.bind_some _ _).symm.trans H; rw [hy103]; with_reducible exact H2_) | (have H2_ := (Option.bind_some _ _).symm.trans H; with_reducible exact H2_) | with_reducible exact H | (rw [hy103]; exact H) | exact H
        have Ny103 := Aside0.mk hy103; clear hy103; obtain rfl := Option.some.inj H
        go_enter Tryd.func63, Tryd.ntmps63
        go_wp2_with (first | ((with_reducible refine gate_dst (N := 16) rfl ?_); refine Kd.R_lit (Kd.int .u8) _ 5 ?hg (N := 16) ?hd (xs := ([(wrap64 (48 + a0)) % 256] : List Int)) (inner := [.int .u8 ((wrap64 (48 + a0)) % 256)]) (ok := fun _ => True) (okp := fun _ => True) ?hr ?hp (fun _ hk => hk) trivial (Below.refl _ _) (Nat.le_refl _) (by simp) ?_; (case hd => rfl); (case hg => rfl); (case hr => first | (go_simp; done) | (go_simp; rfl)); (case hp => exact (Reps.one (show Kd.M (Kd.int .u8) _ _ _ ((wrap64 (48 + a0)) % 256) [.int .u8 ((wrap64 (48 + a0)) % 256)] from rfl) (Reps.none _ _))); intro v104 w8 ho9 hb hg_ hnew_; clear hg_ hnew_; (first | rw [← Ny103.out] at ho9 | (simp only [Int.reduceToNat] at ho9; rw [← Ny103.out] at ho9)); have n0_ := Aside0.mk (Kd.R_lower ho9 (below_size (by repeat (first | (with_reducible first | exact HB.out | apply below_alloc | apply pw_below_drewN | apply below_drew1) | exact HB.out)))); have n1_ := Aside0.mk (below_step (by repeat (first | (with_reducible first | exact HB.out | apply below_alloc | apply pw_below_drewN | apply below_drew1) | exact HB.out)) hb); clear HB; have HO105 := n0_; have HB := n1_; clear n0_ n1_; clear hb ho9; have hcv10 := own_string (P := Tryd.prog) Tryd.underlying31 Tryd.underlying5 Tryd.underlying9 (Kd.own_of_R HO105.out)))
        go_ret
        exact ⟨by first | rfl | (simp [errW_none, errW_some] <;> rfl) | (simp [*, errW_none, errW_some] <;> rfl), by repeat (first | (with_reducible first | exact HB.out | apply below_alloc | apply pw_below_drewN | apply below_drew1) | exact HB.out)⟩
      · rw [if_neg c7] at H
        have c7b0 : decide (a0 < 10) = false := decide_eq_false c7; clear c7; replace H := Option.bind_eq_some_iff.mp H; obtain ⟨t106, A110, H⟩ := H; replace H : ((some (([(wrap64 (48 + (Int.tmod a0 10))) % 256] : List Int) : List Int)).bind fun y107 => (if t106.size + (strOfNums y107).size ≤ 9223372036854775807 then (some (t106 ++ (strOfNums y107))) else (none))) = some r := H; have A11 := Aside0.mk A110; clear A110; obtain ⟨y107, hy107⟩ : ∃ y_ : List Int, y_ = (([(wrap64 (48 + (Int.tmod a0 10))) % 256] : List Int)) := ⟨_, rfl⟩; replace H : (if t106.size + (strOfNums y107).size ≤ 9223372036854775807 then (some (t106 ++ (strOfNums y107))) else (none)) = some r := by first | (rw [hy107]; with_reducible exact H) | (have H2_ := (Option.bind_some _ _).symm.trans H; rw [hy107]; with_reducible exact H2_) | (have H2_ := (Option.bind_some _ _).symm.trans H; with_reducible exact H2_) | with_reducible exact H | (rw [hy107]; exact H) | exact H
        have Ny107 := Aside0.mk hy107; clear hy107; by_cases c12 : t106.size + (strOfNums y107).size ≤ 9223372036854775807
        · rw [if_pos c12] at H
          have c12b0 := eq_true c12; have c12b1 : decide (t106.size + (strOfNums y107).size ≤ 9223372036854775807) = true := decide_eq_true c12
          try have c12b2 : (9223372036854775807 < t106.size + (strOfNums y107).size) = False := eq_false (Nat.not_lt.2 c12)
          obtain rfl := Option.some.inj H
          go_enter Tryd.func63, Tryd.ntmps63
          try go_wp2
          have n0_ := Aside0.mk (below_drew1 HB.out); clear HB; have HB := n0_; clear n0_; refine start_ (n := 11) (S := fun w' => True) (ds := []) #[false, false, false, false, false, false, false, false, false, false, false] (by kernel_rfl) rfl rfl trivial (fun hHeld => ?_); refine with_tabW spec_l1Dec.tab7 spec_l1Dec.bits7 (fun HT_ HW_ => ?_); generalize w.drew = w13 at HB hHeld ⊢
          refine pure_ (i := 0) (N := some 18) (v := ?_) (a' := ?_) #[true, false, false, false, false, false, false, false, false, false, false] rfl rfl (any_of HT_.out (by kernel_rfl)) (fun _ _ _ h => h) (Or.inl ⟨by rfl, ?_⟩) ?_ ?_; rotate_left; (· intro w'; go_simp; with_reducible rfl); rotate_left; (· simp only [Act.put, List.setIfInBounds_toArray, List.set_cons_zero, List.set_cons_succ, i64_w, i32_w]; rfl); refine pure_ (i := 1) (N := some 19) (v := ?_) (a' := ?_) #[true, true, false, false, false, false, false, false, false, false, false] rfl rfl (any_of HT_.out (by kernel_rfl)) (fun _ _ _ h => h) (Or.inl ⟨by rfl, ?_⟩) ?_ ?_; rotate_left; (· intro w'; go_simp; with_reducible rfl); rotate_left; (· simp only [Act.put, List.setIfInBounds_toArray, List.set_cons_zero, List.set_cons_succ, i64_w, i32_w]; rfl); refine pure_ (i := 3) (N := some 21) (v := ?_) (a' := ?_) #[true, true, false, true, false, false, false, false, false, false, false] rfl rfl (any_of HT_.out (by kernel_rfl)) (fun _ _ _ h => h) (Or.inl ⟨by rfl, ?_⟩) ?_ ?_; rotate_left; (· intro w'; go_simp; with_reducible rfl); rotate_left; (· simp only [Act.put, List.setIfInBounds_toArray, List.set_cons_zero, List.set_cons_succ, i64_w, i32_w]; rfl); refine pure_ (i := 4) (N := some 22) (v := ?_) (a' := ?_) #[true, true, false, true, true, false, false, false, false, false, false] rfl rfl (any_of HT_.out (by kernel_rfl)) (fun _ _ _ h => h) (Or.inl ⟨by rfl, ?_⟩) ?_ ?_; rotate_left; (· intro w'; go_simp; with_reducible rfl); rotate_left; (· simp only [Act.put, List.setIfInBounds_toArray, List.set_cons_zero, List.set_cons_succ, i64_w, i32_w]; rfl); refine pure_ (i := 5) (N := some 23) (v := ?_) (a' := ?_) #[true, true, false, true, true, true, false, false, false, false, false] rfl rfl (any_of HT_.out (by kernel_rfl)) (fun _ _ _ h => h) (Or.inl ⟨by rfl, ?_⟩) ?_ ?_; rotate_left; (· intro w'; go_simp; with_reducible rfl); rotate_left; (· simp only [Act.put, List.setIfInBounds_toArray, List.set_cons_zero, List.set_cons_succ, i64_w, i32_w]; rfl); refine pure_ (i := 6) (N := some 24) (v := ?_) (a' := ?_) #[true, true, false, true, true, true, true, false, false, false, false] rfl rfl (any_of HT_.out (by kernel_rfl)) (fun _ _ _ h => h) (Or.inl ⟨by rfl, ?_⟩) ?_ ?_; rotate_left; (· intro w'; go_simp; with_reducible rfl); rotate_left; (· simp only [Act.put, List.setIfInBounds_toArray, List.set_cons_zero, List.set_cons_succ, i64_w, i32_w]; rfl); refine join_ (σ := Value) 2 #[true, true, true, true, true, true, true, true, true, false, false] (fun s_ => [(20, .string t106), (25, s_), (26, .string (strOfNums y107))]) (fun s_ w' => (Kd.R (Kd.int .u8) 5 w' w.heap.size (fun _ => True) s_ y107) ∧ (Below w.heap.size w w')) ?_ ?_; rotate_left
          · intro hCont
            refine two_ (i := 2) (j := 7) (Ni := some 20) (Nj := some 25) #[true, true, true, true, true, true, true, false, false, false, false] #[true, true, false, true, true, true, true, true, false, false, false] rfl rfl rfl rfl (two_of HT_.out (by kernel_rfl)) (by decide) (by decide) (fun K hK => ?_) (fun K hK => ?_)
            · skip
              refine goes_ Tryd.func63 (by kernel_rfl) rfl #[.int .i64 (wrap64 (Int.tdiv a0 10))] (by rfl) rfl rfl (by (try simp only [List.map_toArray, List.map_cons, List.map_nil]); first | done | rfl | (simp only [List.length_drop, List.length_take]; rfl)) ?_; with_reducible refine (ih k (by omega) (wrap64 (Int.tdiv a0 10)) t106 _ A11.out).mono ?_
              rintro e w14 ⟨rfl, hb⟩; refine ⟨_, rfl, ?_⟩; have n0_ := Aside0.mk (below_step (by repeat (first | (with_reducible first | exact HB.out | apply below_alloc | apply pw_below_drewN | apply below_drew1) | exact HB.out)) hb); clear HB; have HB := n0_; clear n0_
              (try clear hb)
              (try clear hb2)
              (try clear hk)
              (try clear hi)
              refine hK.out _ _ trivial (fun hHeld => ?_); clear hK K; refine norm_ (a' := ?_) ?_ ?_; rotate_left
              · show Act.put _ (some 20) _ = _
                simp only [Act.put, List.setIfInBounds_toArray, List.set_cons_zero, List.set_cons_succ, i64_w, i32_w]; rfl
              refine one_ (i := 7) (N := some 25) #[true, true, true, true, true, true, true, true, false, false, false] rfl rfl (one_of HT_.out (by kernel_rfl)) (by decide) (fun K hK => ?_); refine Kd.R_lit_step (Kd.int .u8) _ 5 ?hg (N := 25) ?hd (xs := ([(wrap64 (48 + (Int.tmod a0 10))) % 256] : List Int)) (inner := [.int .u8 ((wrap64 (48 + (Int.tmod a0 10))) % 256)]) (ok := fun _ => True) (okp := fun _ => True) ?hr ?hp (fun _ hk => hk) trivial (Below.refl _ _) (Nat.le_refl _) (by simp) ?_; (case hd => rfl); (case hg => rfl); (case hr => first | (go_simp; done) | (go_simp; rfl)); (case hp => exact (Reps.one (show Kd.M (Kd.int .u8) _ _ _ ((wrap64 (48 + (Int.tmod a0 10))) % 256) [.int .u8 ((wrap64 (48 + (Int.tmod a0 10))) % 256)] from rfl) (Reps.none _ _))); intro v108 w15 ho16 hb hg_ hnew_; clear hg_ hnew_
              (first | rw [← Ny107.out] at ho16 | (simp only [Int.reduceToNat] at ho16; rw [← Ny107.out] at ho16))
              have n0_ := Aside0.mk (Kd.R_lower ho16 (below_size (by repeat (first | (with_reducible first | exact HB.out | apply below_alloc | apply pw_below_drewN | apply below_drew1) | exact HB.out)))); have n1_ := Aside0.mk (below_step (by repeat (first | (with_reducible first | exact HB.out | apply below_alloc | apply pw_below_drewN | apply below_drew1) | exact HB.out)) hb); clear HB; have HO109 := n0_; have HB := n1_; clear n0_ n1_; clear hb ho16; refine hK.out _ _ trivial (fun hHeld => ?_); clear hK K; refine norm_ (a' := ?_) ?_ ?_; rotate_left
              · show Act.put _ (some 25) _ = _
                simp only [Act.put, List.setIfInBounds_toArray, List.set_cons_zero, List.set_cons_succ, i64_w, i32_w]; rfl
              refine one_ (i := 8) (N := some 26) #[true, true, true, true, true, true, true, true, true, false, false] rfl rfl (one_of HT_.out (by kernel_rfl)) (by decide) (fun K hK => ?_); have hcv17 := own_string (P := Tryd.prog) Tryd.underlying31 Tryd.underlying5 Tryd.underlying9 (Kd.own_of_R HO109.out); refine value_ (w1 := ?_) (v := ?_) (by rfl) rfl ?_ ?_; rotate_left 2
              · go_simp
                constructor
                · rfl
                · rfl
              clear hcv17; refine hK.out _ _ trivial (fun hHeld => ?_); clear hK K; refine norm_ (a' := ?_) ?_ ?_; rotate_left
              · show Act.put _ (some 26) _ = _
                simp only [Act.put, List.setIfInBounds_toArray, List.set_cons_zero, List.set_cons_succ, i64_w, i32_w]; rfl
              exact norm_ (by simp only [putAll, Act.put, List.setIfInBounds_toArray, List.set_cons_zero, List.set_cons_succ]) (hCont (v108) _ ⟨(by (with_reducible repeat (first | apply Kd.R_alloc | apply Kd.R_drewN | apply Kd.R_drew)); exact HO109.out), (by repeat (first | (with_reducible first | exact HB.out | apply below_alloc | apply pw_below_drewN | apply below_drew1) | exact HB.out))⟩)
            · skip
              refine Kd.R_lit_step (Kd.int .u8) _ 5 ?hg (N := 25) ?hd (xs := ([(wrap64 (48 + (Int.tmod a0 10))) % 256] : List Int)) (inner := [.int .u8 ((wrap64 (48 + (Int.tmod a0 10))) % 256)]) (ok := fun _ => True) (okp := fun _ => True) ?hr ?hp (fun _ hk => hk) trivial (Below.refl _ _) (Nat.le_refl _) (by simp) ?_; (case hd => rfl); (case hg => rfl); (case hr => first | (go_simp; done) | (go_simp; rfl)); (case hp => exact (Reps.one (show Kd.M (Kd.int .u8) _ _ _ ((wrap64 (48 + (Int.tmod a0 10))) % 256) [.int .u8 ((wrap64 (48 + (Int.tmod a0 10))) % 256)] from rfl) (Reps.none _ _))); intro v108 w14 ho15 hb hg_ hnew_; clear hg_ hnew_
              (first | rw [← Ny107.out] at ho15 | (simp only [Int.reduceToNat] at ho15; rw [← Ny107.out] at ho15))
              have n0_ := Aside0.mk (Kd.R_lower ho15 (below_size (by repeat (first | (with_reducible first | exact HB.out | apply below_alloc | apply pw_below_drewN | apply below_drew1) | exact HB.out)))); have n1_ := Aside0.mk (below_step (by repeat (first | (with_reducible first | exact HB.out | apply below_alloc | apply pw_below_drewN | apply below_drew1) | exact HB.out)) hb); clear HB; have HO109 := n0_; have HB := n1_; clear n0_ n1_; clear hb ho15; refine hK.out _ _ trivial (fun hHeld => ?_); clear hK K; refine norm_ (a' := ?_) ?_ ?_; rotate_left
              · show Act.put _ (some 25) _ = _
                simp only [Act.put, List.setIfInBounds_toArray, List.set_cons_zero, List.set_cons_succ, i64_w, i32_w]; rfl
              refine two_ (i := 2) (j := 8) (Ni := some 20) (Nj := some 26) #[true, true, true, true, true, true, true, true, false, false, false] #[true, true, false, true, true, true, true, true, true, false, false] rfl rfl rfl rfl (two_of HT_.out (by kernel_rfl)) (by decide) (by decide) (fun K hK => ?_) (fun K hK => ?_)
              · skip
                refine goes_ Tryd.func63 (by kernel_rfl) rfl #[.int .i64 (wrap64 (Int.tdiv a0 10))] (by rfl) rfl rfl (by (try simp only [List.map_toArray, List.map_cons, List.map_nil]); first | done | rfl | (simp only [List.length_drop, List.length_take]; rfl)) ?_; with_reducible refine (ih k (by omega) (wrap64 (Int.tdiv a0 10)) t106 _ A11.out).mono ?_
                rintro e w16 ⟨rfl, hb⟩; refine ⟨_, rfl, ?_⟩; have n0_ := Aside0.mk (Kd.R_below (by (with_reducible repeat (first | apply Kd.R_alloc | apply Kd.R_drewN | apply Kd.R_drew)); exact HO109.out) hb); have n1_ := Aside0.mk (below_step (by repeat (first | (with_reducible first | exact HB.out | apply below_alloc | apply pw_below_drewN | apply below_drew1) | exact HB.out)) hb); clear HO109; clear HB; have HO109 := n0_; have HB := n1_; clear n0_ n1_
                (try clear hb)
                (try clear hb2)
                (try clear hk)
                (try clear hi)
                refine hK.out _ _ trivial (fun hHeld => ?_); clear hK K; refine norm_ (a' := ?_) ?_ ?_; rotate_left
                · show Act.put _ (some 20) _ = _
                  simp only [Act.put, List.setIfInBounds_toArray, List.set_cons_zero, List.set_cons_succ, i64_w, i32_w]; rfl
                refine one_ (i := 8) (N := some 26) #[true, true, true, true, true, true, true, true, true, false, false] rfl rfl (one_of HT_.out (by kernel_rfl)) (by decide) (fun K hK => ?_); have hcv17 := own_string (P := Tryd.prog) Tryd.underlying31 Tryd.underlying5 Tryd.underlying9 (Kd.own_of_R HO109.out); refine value_ (w1 := ?_) (v := ?_) (by rfl) rfl ?_ ?_; rotate_left 2
                · go_simp
                  constructor
                  · rfl
                  · rfl
                clear hcv17; refine hK.out _ _ trivial (fun hHeld => ?_); clear hK K; refine norm_ (a' := ?_) ?_ ?_; rotate_left
                · show Act.put _ (some 26) _ = _
                  simp only [Act.put, List.setIfInBounds_toArray, List.set_cons_zero, List.set_cons_succ, i64_w, i32_w]; rfl
                exact norm_ (by simp only [putAll, Act.put, List.setIfInBounds_toArray, List.set_cons_zero, List.set_cons_succ]) (hCont (v108) _ ⟨(by (with_reducible repeat (first | apply Kd.R_alloc | apply Kd.R_drewN | apply Kd.R_drew)); exact HO109.out), (by repeat (first | (with_reducible first | exact HB.out | apply below_alloc | apply pw_below_drewN | apply below_drew1) | exact HB.out))⟩)
              · skip
                have hcv16 := own_string (P := Tryd.prog) Tryd.underlying31 Tryd.underlying5 Tryd.underlying9 (Kd.own_of_R HO109.out); refine value_ (w1 := ?_) (v := ?_) (by rfl) rfl ?_ ?_; rotate_left 2
                · go_simp
                  constructor
                  · rfl
                  · rfl
                clear hcv16; refine hK.out _ _ trivial (fun hHeld => ?_); clear hK K; refine norm_ (a' := ?_) ?_ ?_; rotate_left
                · show Act.put _ (some 26) _ = _
                  simp only [Act.put, List.setIfInBounds_toArray, List.set_cons_zero, List.set_cons_succ, i64_w, i32_w]; rfl
                refine one_ (i := 2) (N := some 20) #[true, true, true, true, true, true, true, true, true, false, false] rfl rfl (one_of HT_.out (by kernel_rfl)) (by decide) (fun K hK => ?_); refine goes_ Tryd.func63 (by kernel_rfl) rfl #[.int .i64 (wrap64 (Int.tdiv a0 10))] (by rfl) rfl rfl (by (try simp only [List.map_toArray, List.map_cons, List.map_nil]); first | done | rfl | (simp only [List.length_drop, List.length_take]; rfl)) ?_; with_reducible refine (ih k (by omega) (wrap64 (Int.tdiv a0 10)) t106 _ A11.out).mono ?_
                rintro e w17 ⟨rfl, hb⟩; refine ⟨_, rfl, ?_⟩; have n0_ := Aside0.mk (Kd.R_below (by (with_reducible repeat (first | apply Kd.R_alloc | apply Kd.R_drewN | apply Kd.R_drew)); exact HO109.out) hb); have n1_ := Aside0.mk (below_step (by repeat (first | (with_reducible first | exact HB.out | apply below_alloc | apply pw_below_drewN | apply below_drew1) | exact HB.out)) hb); clear HO109; clear HB; have HO109 := n0_; have HB := n1_; clear n0_ n1_
                (try clear hb)
                (try clear hb2)
                (try clear hk)
                (try clear hi)
                refine hK.out _ _ trivial (fun hHeld => ?_); clear hK K; refine norm_ (a' := ?_) ?_ ?_; rotate_left
                · show Act.put _ (some 20) _ = _
                  simp only [Act.put, List.setIfInBounds_toArray, List.set_cons_zero, List.set_cons_succ, i64_w, i32_w]; rfl
                exact norm_ (by simp only [putAll, Act.put, List.setIfInBounds_toArray, List.set_cons_zero, List.set_cons_succ]) (hCont (v108) _ ⟨(by (with_reducible repeat (first | apply Kd.R_alloc | apply Kd.R_drewN | apply Kd.R_drew)); exact HO109.out), (by repeat (first | (with_reducible first | exact HB.out | apply below_alloc | apply pw_below_drewN | apply below_drew1) | exact HB.out))⟩)
          rintro v108 w18 ⟨h0_, h1_⟩; have n0_ : Aside0 (Kd.R (Kd.int .u8) 5 w18 w.heap.size (fun _ => True) v108 y107) := ⟨h0_⟩; have n1_ : Aside0 (Below w.heap.size w w18) := ⟨h1_⟩; clear HB; clear h0_ h1_; have HO109 := n0_; have HB := n1_; clear n0_ n1_; have hHeld := trivial; refine norm_ (a' := ?_) ?_ ?_; rotate_left; (· simp only [putAll, Act.put, List.setIfInBounds_toArray, List.set_cons_zero, List.set_cons_succ]; rfl); refine pure_ (i := 9) (N := some 27) (v := ?_) (a' := ?_) #[true, true, true, true, true, true, true, true, true, true, false] rfl rfl (any_of HT_.out (by kernel_rfl)) (fun _ _ _ h => h) (Or.inl ⟨by rfl, ?_⟩) ?_ ?_; rotate_left; (· intro w'; go_simp; with_reducible rfl); rotate_left; (· simp only [Act.put, List.setIfInBounds_toArray, List.set_cons_zero, List.set_cons_succ, i64_w, i32_w]; rfl); refine pure_ (i := 10) (N := some 2) (v := ?_) (a' := ?_) #[true, true, true, true, true, true, true, true, true, true, true] rfl rfl (any_of HT_.out (by kernel_rfl)) (fun _ _ _ h => h) (Or.inl ⟨by rfl, ?_⟩) ?_ ?_; rotate_left; (· intro w'; go_simp; with_reducible rfl); rotate_left; (· simp only [Act.put, List.setIfInBounds_toArray, List.set_cons_zero, List.set_cons_succ, i64_w, i32_w]; rfl); refine done_ (done_of HT_.out (by kernel_rfl)) ?_
          try go_wp2
          go_ret
          exact ⟨by first | rfl | (simp [errW_none, errW_some] <;> rfl) | (simp [*, errW_none, errW_some] <;> rfl), by repeat (first | (with_reducible first | exact HB.out | apply below_alloc | apply pw_below_drewN | apply below_drew1) | exact HB.out)⟩
        · rw [if_neg c12] at H
          exact absurd H (by simp)
end Go.Proofs.YtgkgkpoeiojmeaaDoor.P
namespace Go.Proofs.YtgkgkpoeiojmeaaDoor.P
open Go.RowKit Go.Proofs.YtgkgkpoeiojmeaaDoorW.PrintWords Go.Proofs.YtgkgkpoeiojmeaaDoorW.PrintLast Go.Proofs.YtgkgkpoeiojmeaaDoorW.PrintMore
attribute [local go_sem] max2_int min2_int max_two min_two max_three min_three max_four min_four   -- for this text's walks alone
set_option linter.unusedVariables false
set_option linter.unusedSimpArgs false
def spec_l9Words.f  : Option (List ByteArray) := some (([(⟨#[]⟩ : ByteArray), (⟨#[115, 112, 97, 99, 101]⟩ : ByteArray), (⟨#[108, 105, 109, 105, 116]⟩ : ByteArray), (⟨#[99, 108, 111, 115, 101]⟩ : ByteArray), (⟨#[112, 117, 116]⟩ : ByteArray), (⟨#[115, 101, 116]⟩ : ByteArray), (⟨#[109, 97, 114, 107]⟩ : ByteArray), (⟨#[117, 110, 109, 97, 114, 107]⟩ : ByteArray), (⟨#[100, 114, 111, 112]⟩ : ByteArray), (⟨#[103, 101, 116]⟩ : ByteArray), (⟨#[108, 105, 115, 116]⟩ : ByteArray), (⟨#[119, 97, 116, 99, 104]⟩ : ByteArray), (⟨#[115, 116, 101, 112]⟩ : ByteArray)] : List ByteArray))
set_option maxHeartbeats 8000000 in
set_option maxRecDepth 100000 in
theorem spec_l9Words.calls  (r : List ByteArray) (w : World) (h : spec_l9Words.f  = some r) :
    Calls Tryd.prog 71 #[] w fun e w' => ∃ v0_ : Value, e = .returned (v0_) ∧ Kd.R Kd.string 9 w' w.heap.size (fun _ => True) v0_ r ∧ Below w.heap.size w w' := by
  have HB := Aside0.mk (Below.refl w.heap.size w); have H : (some (([(⟨#[]⟩ : ByteArray), (⟨#[115, 112, 97, 99, 101]⟩ : ByteArray), (⟨#[108, 105, 109, 105, 116]⟩ : ByteArray), (⟨#[99, 108, 111, 115, 101]⟩ : ByteArray), (⟨#[112, 117, 116]⟩ : ByteArray), (⟨#[115, 101, 116]⟩ : ByteArray), (⟨#[109, 97, 114, 107]⟩ : ByteArray), (⟨#[117, 110, 109, 97, 114, 107]⟩ : ByteArray), (⟨#[100, 114, 111, 112]⟩ : ByteArray), (⟨#[103, 101, 116]⟩ : ByteArray), (⟨#[108, 105, 115, 116]⟩ : ByteArray), (⟨#[119, 97, 116, 99, 104]⟩ : ByteArray), (⟨#[115, 116, 101, 112]⟩ : ByteArray)] : List ByteArray))) = some r := h; clear h; obtain ⟨y528, hy528⟩ : ∃ y_ : List ByteArray, y_ = (([(⟨#[]⟩ : ByteArray), (⟨#[115, 112, 97, 99, 101]⟩ : ByteArray), (⟨#[108, 105, 109, 105, 116]⟩ : ByteArray), (⟨#[99, 108, 111, 115, 101]⟩ : ByteArray), (⟨#[112, 117, 116]⟩ : ByteArray), (⟨#[115, 101, 116]⟩ : ByteArray), (⟨#[109, 97, 114, 107]⟩ : ByteArray), (⟨#[117, 110, 109, 97, 114, 107]⟩ : ByteArray), (⟨#[100, 114, 111, 112]⟩ : ByteArray), (⟨#[103, 101, 116]⟩ : ByteArray), (⟨#[108, 105, 115, 116]⟩ : ByteArray), (⟨#[119, 97, 116, 99, 104]⟩ : ByteArray), (⟨#[115, 116, 101, 112]⟩ : ByteArray)] : List ByteArray)) := ⟨_, rfl⟩; replace H : (some y528) = some r := by first | (rw [hy528]; with_reducible exact H) | (have H2_ := (Option.bind_some _ _).symm.trans H; rw [hy528]; with_reducible exact H2_) | (have H2_ := (Option.bind_some _ _).symm.trans H; with_reducible exact H2_) | with_reducible exact H | (rw [hy528]; exact H) | exact H
  have Ny528 := Aside0.mk hy528; clear hy528; obtain rfl := Option.some.inj H
  go_enter Tryd.func71, Tryd.ntmps71
  go_wp2_with (first | ((with_reducible refine gate_dst (N := 1) rfl ?_); refine Kd.R_lit Kd.string _ 9 ?hg (N := 1) ?hd (xs := ([(⟨#[]⟩ : ByteArray), (⟨#[115, 112, 97, 99, 101]⟩ : ByteArray), (⟨#[108, 105, 109, 105, 116]⟩ : ByteArray), (⟨#[99, 108, 111, 115, 101]⟩ : ByteArray), (⟨#[112, 117, 116]⟩ : ByteArray), (⟨#[115, 101, 116]⟩ : ByteArray), (⟨#[109, 97, 114, 107]⟩ : ByteArray), (⟨#[117, 110, 109, 97, 114, 107]⟩ : ByteArray), (⟨#[100, 114, 111, 112]⟩ : ByteArray), (⟨#[103, 101, 116]⟩ : ByteArray), (⟨#[108, 105, 115, 116]⟩ : ByteArray), (⟨#[119, 97, 116, 99, 104]⟩ : ByteArray), (⟨#[115, 116, 101, 112]⟩ : ByteArray)] : List ByteArray)) (inner := [.string (⟨#[]⟩ : ByteArray), .string (⟨#[115, 112, 97, 99, 101]⟩ : ByteArray), .string (⟨#[108, 105, 109, 105, 116]⟩ : ByteArray), .string (⟨#[99, 108, 111, 115, 101]⟩ : ByteArray), .string (⟨#[112, 117, 116]⟩ : ByteArray), .string (⟨#[115, 101, 116]⟩ : ByteArray), .string (⟨#[109, 97, 114, 107]⟩ : ByteArray), .string (⟨#[117, 110, 109, 97, 114, 107]⟩ : ByteArray), .string (⟨#[100, 114, 111, 112]⟩ : ByteArray), .string (⟨#[103, 101, 116]⟩ : ByteArray), .string (⟨#[108, 105, 115, 116]⟩ : ByteArray), .string (⟨#[119, 97, 116, 99, 104]⟩ : ByteArray), .string (⟨#[115, 116, 101, 112]⟩ : ByteArray)]) (ok := fun _ => True) (okp := fun _ => True) ?hr ?hp (fun _ hk => hk) trivial (Below.refl _ _) (Nat.le_refl _) (by simp) ?_; (case hd => rfl); (case hg => rfl); (case hr => first | (go_simp; done) | (go_simp; rfl)); (case hp => exact (Reps.one (show Kd.M Kd.string _ _ _ (⟨#[]⟩ : ByteArray) [.string (⟨#[]⟩ : ByteArray)] from rfl) (Reps.one (show Kd.M Kd.string _ _ _ (⟨#[115, 112, 97, 99, 101]⟩ : ByteArray) [.string (⟨#[115, 112, 97, 99, 101]⟩ : ByteArray)] from rfl) (Reps.one (show Kd.M Kd.string _ _ _ (⟨#[108, 105, 109, 105, 116]⟩ : ByteArray) [.string (⟨#[108, 105, 109, 105, 116]⟩ : ByteArray)] from rfl) (Reps.one (show Kd.M Kd.string _ _ _ (⟨#[99, 108, 111, 115, 101]⟩ : ByteArray) [.string (⟨#[99, 108, 111, 115, 101]⟩ : ByteArray)] from rfl) (Reps.one (show Kd.M Kd.string _ _ _ (⟨#[112, 117, 116]⟩ : ByteArray) [.string (⟨#[112, 117, 116]⟩ : ByteArray)] from rfl) (Reps.one (show Kd.M Kd.string _ _ _ (⟨#[115, 101, 116]⟩ : ByteArray) [.string (⟨#[115, 101, 116]⟩ : ByteArray)] from rfl) (Reps.one (show Kd.M Kd.string _ _ _ (⟨#[109, 97, 114, 107]⟩ : ByteArray) [.string (⟨#[109, 97, 114, 107]⟩ : ByteArray)] from rfl) (Reps.one (show Kd.M Kd.string _ _ _ (⟨#[117, 110, 109, 97, 114, 107]⟩ : ByteArray) [.string (⟨#[117, 110, 109, 97, 114, 107]⟩ : ByteArray)] from rfl) (Reps.one (show Kd.M Kd.string _ _ _ (⟨#[100, 114, 111, 112]⟩ : ByteArray) [.string (⟨#[100, 114, 111, 112]⟩ : ByteArray)] from rfl) (Reps.one (show Kd.M Kd.string _ _ _ (⟨#[103, 101, 116]⟩ : ByteArray) [.string (⟨#[103, 101, 116]⟩ : ByteArray)] from rfl) (Reps.one (show Kd.M Kd.string _ _ _ (⟨#[108, 105, 115, 116]⟩ : ByteArray) [.string (⟨#[108, 105, 115, 116]⟩ : ByteArray)] from rfl) (Reps.one (show Kd.M Kd.string _ _ _ (⟨#[119, 97, 116, 99, 104]⟩ : ByteArray) [.string (⟨#[119, 97, 116, 99, 104]⟩ : ByteArray)] from rfl) (Reps.one (show Kd.M Kd.string _ _ _ (⟨#[115, 116, 101, 112]⟩ : ByteArray) [.string (⟨#[115, 116, 101, 112]⟩ : ByteArray)] from rfl) (Reps.none _ _))))))))))))))); intro v529 w1 ho2 hb hg_ hnew_; clear hg_ hnew_; (first | rw [← Ny528.out] at ho2 | (simp only [Int.reduceToNat] at ho2; rw [← Ny528.out] at ho2)); have n0_ := Aside0.mk (Kd.R_lower ho2 (below_size (by repeat (first | (with_reducible first | exact HB.out | apply below_alloc | apply pw_below_drewN | apply below_drew1) | exact HB.out)))); have n1_ := Aside0.mk (below_step (by repeat (first | (with_reducible first | exact HB.out | apply below_alloc | apply pw_below_drewN | apply below_drew1) | exact HB.out)) hb); clear HB; have HO530 := n0_; have HB := n1_; clear n0_ n1_; clear hb ho2))
  go_ret
  exact ⟨_, by first | rfl | (simp [errW_none, errW_some] <;> rfl) | (simp [*, errW_none, errW_some] <;> rfl), by (with_reducible repeat (first | apply Kd.R_alloc | apply Kd.R_drewN | apply Kd.R_drew)); exact HO530.out, by repeat (first | (with_reducible first | exact HB.out | apply below_alloc | apply pw_below_drewN | apply below_drew1) | exact HB.out)⟩
end Go.Proofs.YtgkgkpoeiojmeaaDoor.P
