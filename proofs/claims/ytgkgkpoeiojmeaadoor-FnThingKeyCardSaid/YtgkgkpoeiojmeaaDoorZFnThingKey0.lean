/- Functions of the law FnThingKey as plain Lean functions, and that the machine's calls do what they say. -/
import Derived.Test.YtgkgkpoeiojmeaaDoorZFnThingKeyW0
import Derived.Deep.Slices
import Derived.ChangeArms
import Derived.Test.YtgkgkpoeiojmeaaDoorProg
import Derived.Lib.LaidTab
import Derived.Lib.ItoaNum
import Derived.KernelRfl
import Derived.Below
import Derived.Deep.Draws
import Derived.Deep.AppendLies
import Derived.Maps.AppendAt
import Derived.OwnWalk
import Derived.Laws.BytesArg
import Derived.Laws.MakeOwn
import Derived.Laws.OwnMore
import Derived.Deep.OwnRows
import Derived.Tactics
import Derived.Lib.ConvBytes
import Derived.Laws.Slices
import Derived.WalkKit
import Derived.RowKit3
import Derived.Deep.LoopGhost
import Derived.Deep.QuietTactic
import Derived.BigQuiet
import Derived.WideLaws
import Derived.Deep.DeepCutAuto
import Derived.Deep.CutBlock
import Derived.Deep.RegionHeld3
import Derived.Laws.Rows
import Derived.Lib.AppendStr
import Derived.ArgAppend
import Derived.Laws.IdiomCopy
import Derived.OrdersHeld
import Derived.Laws.BitsLemmas
import Derived.RowKit
import Derived.Shelf.Strings.Trim
import Derived.Shelf.Small.Utf8
import Derived.Shelf.Small.Strs
import Derived.Shelf.Strconv.Atoi
import Derived.Shelf.Strconv.Itoa0
import Derived.Shelf.Strconv.Itoa1
import Derived.Shelf.LaysM
import Derived.Shelf.Strconv.Itoa2
import Derived.Shelf.Strconv.Itoa3
import Derived.Shelf.Strings.Search1
import Derived.Shelf.Strings.Search2
import Derived.Shelf.Strings.Cut
import Derived.Shelf.Strings.Shaped
import Derived.Shelf.Unicode.Decode
import Derived.Shelf.Strings.Runes
import Derived.Shelf.Strings.AsciiSet
import Derived.Shelf.Unicode.DecodeSlow
import Derived.Shelf.Unicode.DecodeAny
import Derived.Shelf.Unicode.DecodeLast
import Derived.Shelf.Strings.SlTrimAscii
/- What an argument reads as is of the printed kind: whole numbers, bools, strings, slices, structs. -/
namespace Go.Proofs.YtgkgkpoeiojmeaaDoor.Opens
open Go.RowKit Go.Proofs.YtgkgkpoeiojmeaaDoorW.PrintWords Go.ChangeShapes Go.WideShapes
/-- Whatever of type t can be read is of the kind d, and good. -/
structure Opens {α : Type} (P : Program) (d : Kd α) (t : TypeId) (G : α → Prop) : Prop where
  out : ∀ {H : Type} {enc : TypeId × Value → H} {w : World} {base : Nat} {spare : Nat → Bool} {held : Bool} {fuel : Nat} {cs : List Value} {x : DataW H × List MemPlace}, DataW.trod enc P w base spare held fuel t cs = some x → ∃ a, d.K w a cs ∧ G a
section
variable {P : Program} {t : TypeId}
theorem opens_int {k : IntKind} (ht : P.underlying t = some (.int k)) : Opens P (Kd.int k) t (fun n => (Lit.int k n).wf = true) := ⟨fun h => by
  obtain ⟨n, rfl, _, hw⟩ := DataW.trod_int ht h
  exact ⟨n, rfl, hw⟩⟩
theorem opens_slice {α : Type} {d : Kd α} {e : TypeId} {G : α → Prop} (ht : P.underlying t = some (.slice e)) (hc : P.cellsOf e = d.sz) (ho : Opens P d e G) :
    Opens P (Kd.slice e d) t (fun l => l.length ≤ 9223372036854775807 ∧ ∀ y ∈ l, G y) := ⟨by
  intro H enc w base spare held fuel cs x h; rcases Go.Deep.open_slice ht h with ⟨rfl, _⟩ | ⟨a, len, cap, m, n, D, Pl, rfl, hba, hl, hm, hmm, hxe, hx⟩
  · exact ⟨[], ⟨none, 0, rfl, Nat.le_refl _, rfl, by simp, fun hp => absurd hp (by simp)⟩, by simp, fun y hy => by cases hy⟩
  · clear hxe hba
    have hlm : len ≤ m := by rw [hmm]; split <;> omega
    have key : ∀ i, i < len → ∃ y : α, (∃ c, c.length = d.sz ∧ d.K w y c ∧ ∀ j u, c[j]? = some u → w.cell? (a.add (i * d.sz + j)) = some u) ∧ G y := by
      intro i hi; obtain ⟨cs', h1, h2⟩ := hx i (by omega); obtain ⟨y, hy, hg⟩ := ho.out h2; obtain ⟨_, h3, h4⟩ := World.cells?_some h1; rw [hc] at h3 h4; refine ⟨y, ⟨cs', h3, hy, fun j u hu => ?_⟩, hg⟩
      have hj : j < d.sz := by
        have := (List.getElem?_eq_some_iff.1 hu).1; omega
      have h5 := h4 j hj; rw [Go.Deep.add_add, hu] at h5
      exact h5
    obtain ⟨l, hlen, hall⟩ : ∃ l : List α, l.length = len ∧ ∀ i y, l[i]? = some y → (∃ c, c.length = d.sz ∧ d.K w y c ∧ ∀ j u, c[j]? = some u → w.cell? (a.add (i * d.sz + j)) = some u) ∧ G y := by
      clear hx hlm hmm h hl; induction len with
      | zero => exact ⟨[], rfl, fun i y hy => by simp at hy⟩
      | succ k ih =>
        obtain ⟨l, h1, h2⟩ := ih (fun i hi => key i (by omega)); obtain ⟨y, hy⟩ := key k (by omega); refine ⟨l ++ [y], by simp [h1], fun i z hz => ?_⟩; rcases Nat.lt_trichotomy i k with hik | hik | hik
        · rw [List.getElem?_append_left (by omega)] at hz
          exact h2 i z hz
        · subst hik
          rw [List.getElem?_append_right (by omega), h1] at hz; simp at hz
          subst hz
          exact hy
        · rw [List.getElem?_eq_none (by simp; omega)] at hz
          cases hz
    subst hlen; have hb : l.length ≤ 9223372036854775807 := Nat.le_trans hl (by unfold maxLen at hm; exact hm); refine ⟨l, ⟨some a, cap, rfl, hl, rfl, hb, fun _ => ⟨a, rfl, fun j p hj => (hall j p hj).1⟩⟩, hb, fun y hy => ?_⟩; obtain ⟨i, hi, rfl⟩ := List.getElem_of_mem hy
    exact (hall i _ (List.getElem?_eq_getElem hi)).2⟩
end
/-- A slice that came in. -/
theorem arg_slice {α : Type} {P : Program} {d : Kd α} {t e : TypeId} {G : List α → Prop} (ho : Opens P (Kd.slice e d) t G) {H : Type} {enc : TypeId × Value → H} {w : World} {base : Nat} {spare : Nat → Bool} {held : Bool} {a : Option Addr} {len cap : Nat} {dd : DataW H} {ps : List MemPlace}
    (h : DataW.Trod enc P w base spare held t (.slice a len cap) dd ps) : ∃ l : List α, l.length = len ∧ l.length ≤ cap ∧ d.C w a l.length l ∧ G l := by
  obtain ⟨n, hn⟩ := h; obtain ⟨l, ⟨A, c, he, hl, hC⟩, hg⟩ := ho.out hn; simp [Value.cells] at he
  obtain ⟨rfl, rfl, rfl⟩ := he
  exact ⟨l, rfl, hl, hC, hg⟩
/-- Strings above: the other way round. -/
theorem bytesLess_not : ∀ a b : List UInt8, (!(Op.bytesLess a b || a == b)) = Op.bytesLess b a
  | [], [] => rfl
  | [], _ :: _ => rfl
  | _ :: _, [] => rfl
  | a :: x, b :: y => by
    have ih := bytesLess_not x y; simp only [Op.bytesLess, List.cons_beq_cons]; rcases Nat.lt_trichotomy a.toNat b.toNat with h | h | h
    · have h1 : (a < b) = True := by simp [UInt8.lt_iff_toNat_lt, h]
      have h2 : (b < a) = False := by simp [UInt8.lt_iff_toNat_lt]; omega
      have h3 : (b == a) = false := by rw [beq_eq_false_iff_ne]; rintro rfl; omega
      simp [h1, h2, h3]
    · obtain rfl := UInt8.toNat_inj.1 h
      simpa using ih
    · have h1 : (a < b) = False := by simp [UInt8.lt_iff_toNat_lt]; omega
      have h2 : (b < a) = True := by simp [UInt8.lt_iff_toNat_lt, h]
      have h3 : (a == b) = false := by rw [beq_eq_false_iff_ne]; rintro rfl; omega
      simp [h1, h2, h3]
@[go_sem] theorem string_gtr (t : TypeId) (a b : ByteArray) : binOp .gtr t (.string a) (.string b) = pure (.bool (Op.bytesLess b.toList a.toList)) := by rw [← bytesLess_not]; simp [binOp, Op.stringOp]
@[go_sem] theorem string_leq (t : TypeId) (a b : ByteArray) : binOp .leq t (.string a) (.string b) = pure (.bool !(Op.bytesLess b.toList a.toList)) := by rw [← bytesLess_not, Bool.not_not]; simp [binOp, Op.stringOp]
@[go_sem] theorem string_geq (t : TypeId) (a b : ByteArray) : binOp .geq t (.string a) (.string b) = pure (.bool !(Op.bytesLess a.toList b.toList)) := by simp [binOp, Op.stringOp]
end Go.Proofs.YtgkgkpoeiojmeaaDoor.Opens
/- The library's table of powers of ten, as the row lists it: what a call that writes a number in figures asks of its world. -/
namespace Go.Proofs.YtgkgkpoeiojmeaaDoor.P
open Go.RowKit Go.Proofs.YtgkgkpoeiojmeaaDoorW.PrintWords
def TabT (w : World) : Prop := Lib.TabIs Tryd.prog w "internal/strconv.uint64pow10" .u64 Lib.pow10Tab
theorem tabGlobal : Tryd.prog.globalNamed "internal/strconv.uint64pow10" = some 1 := by kernel_rfl
theorem TabT.below {w W : World} (h : TabT w) (hb : Below w.heap.size w W) : TabT W := by
  unfold TabT Lib.TabIs World.var? at *; rw [tabGlobal, Option.bind_some] at *
  cases hg : w.heap[1]? with
  | none => rw [hg] at h; cases h
  | some o =>
    have hlt : 1 < w.heap.size := (Array.getElem?_eq_some_iff.1 hg).1; rw [hb.block 1 hlt]
    exact h
end Go.Proofs.YtgkgkpoeiojmeaaDoor.P
namespace Go.Proofs.YtgkgkpoeiojmeaaDoor.P
open Go.RowKit Go.Proofs.YtgkgkpoeiojmeaaDoorW.PrintWords Go.Proofs.YtgkgkpoeiojmeaaDoorW.PrintLast Go.Proofs.YtgkgkpoeiojmeaaDoorW.PrintMore
attribute [local go_sem] max2_int min2_int max_two min_two max_three min_three max_four min_four   -- for this text's walks alone
set_option linter.unusedVariables false
set_option linter.unusedSimpArgs false
def errW : Option Int → Value
  | none => .nilIface
  | some c => .iface 109 (.int .i64 c)
theorem errW_none : errW none = .nilIface := rfl
theorem errW_some (c : Int) : errW (some c) = .iface 109 (.int .i64 c) := rfl
theorem info5 : (Tryd.prog.info? 5).map (fun i => (i.zero, i.size, i.bytes)) = some (some (.int .u8 0), 1, 1) := by kernel_rfl
end Go.Proofs.YtgkgkpoeiojmeaaDoor.P
/-
  DERIVED: THE SHELF's CONTRACTS AT THIS DUMP, IN PLAIN WORDS (tools/lay-plain.mjs out of 'TrydShelf.lean', which tools/lay-shelf.mjs wrote): THE SAME DECLARATIONS UNDER THE SAME NAMES: 'import', 'namespace', 'open', 'def', 'theorem' AND NOTHING ELSE: no command of the shelf's: FOR A HAND-IN. Each laying: the table of numbers ('.._ren') and one theorem, a field a fact of the dump's own or the kernel's comparison; each contract: ONE APPLICATION.
-/
namespace Go.Proofs
open Go.Shelf
def Tryd.lays160_ren : Go.Shelf.Ren := ⟨fun | 160 => 65 | 232 => 76 | 231 => 75 | 227 => 77 | 234 => 79 | 233 => 78 | 236 => 81 | 235 => 80 | 228 => 88 | 271 => 91 | 151 => 90 | 197 => 89 | 120 => 101 | 152 => 100 | 260 => 99 | 137 => 116 | 119 => 117 | 224 => 104 | 225 => 103 | 217 => 102 | 266 => 118 | n => n, fun | 9 => 9 | 4 => 4 | 3 => 3 | 5 => 5 | 117 => 82 | 116 => 81 | 0 => 0 | 124 => 85 | 21 => 21 | 105 => 95 | 46 => 108 | 119 => 121 | 139 => 124 | 138 => 123 | n => n, fun | 3 => 2 | 4 => 3 | n => n⟩
theorem Tryd.lays160 : Go.Proofs.Lays.n160 Tryd.prog Tryd.lays160_ren := {
  mixed := by kernel_rfl
  f119 := Tryd.func117.trans (congrArg some (by kernel_rfl))
  f120 := Tryd.func101.trans (congrArg some (by kernel_rfl))
  f137 := Tryd.func116.trans (congrArg some (by kernel_rfl))
  f151 := Tryd.func90.trans (congrArg some (by kernel_rfl))
  f152 := Tryd.func100.trans (congrArg some (by kernel_rfl))
  f160 := Tryd.func65.trans (congrArg some (by kernel_rfl))
  f197 := Tryd.func89.trans (congrArg some (by kernel_rfl))
  f217 := Tryd.func102.trans (congrArg some (by kernel_rfl))
  f224 := Tryd.func104.trans (congrArg some (by kernel_rfl))
  f225 := Tryd.func103.trans (congrArg some (by kernel_rfl))
  f227 := Tryd.func77.trans (congrArg some (by kernel_rfl))
  f228 := Tryd.func88.trans (congrArg some (by kernel_rfl))
  f231 := Tryd.func75.trans (congrArg some (by kernel_rfl))
  f232 := Tryd.func76.trans (congrArg some (by kernel_rfl))
  f233 := Tryd.func78.trans (congrArg some (by kernel_rfl))
  f234 := Tryd.func79.trans (congrArg some (by kernel_rfl))
  f235 := Tryd.func80.trans (congrArg some (by kernel_rfl))
  f236 := Tryd.func81.trans (congrArg some (by kernel_rfl))
  f260 := Tryd.func99.trans (congrArg some (by kernel_rfl))
  f266 := Tryd.func118.trans (congrArg some (by kernel_rfl))
  f271 := Tryd.func91.trans (congrArg some (by kernel_rfl))
  t0 := Tryd.underlying0
  a0 := Tryd.isAgg0
  z0 := Tryd.sizeOf0
  v0 := Tryd.zeroValue0
  t3 := Tryd.underlying3
  a3 := Tryd.isAgg3
  z3 := Tryd.sizeOf3
  v3 := Tryd.zeroValue3
  t4 := Tryd.underlying4
  a4 := Tryd.isAgg4
  z4 := Tryd.sizeOf4
  v4 := Tryd.zeroValue4
  t5 := Tryd.underlying5
  a5 := Tryd.isAgg5
  z5 := Tryd.sizeOf5
  v5 := Tryd.zeroValue5
  t9 := Tryd.underlying9
  a9 := Tryd.isAgg9
  z9 := Tryd.sizeOf9
  v9 := Tryd.zeroValue9
  t21 := Tryd.underlying21
  a21 := Tryd.isAgg21
  z21 := Tryd.sizeOf21
  v21 := Tryd.zeroValue21
  t46 := Tryd.underlying108
  a46 := Tryd.isAgg108
  z46 := Tryd.sizeOf108
  v46 := Tryd.zeroValue108
  t105 := Tryd.underlying95
  a105 := Tryd.isAgg95
  z105 := Tryd.sizeOf95
  v105 := Tryd.zeroValue95
  t116 := Tryd.underlying81
  a116 := Tryd.isAgg81
  z116 := Tryd.sizeOf81
  t117 := Tryd.underlying82
  a117 := Tryd.isAgg82
  z117 := Tryd.sizeOf82
  v117 := Tryd.zeroValue82
  t119 := Tryd.underlying121
  a119 := Tryd.isAgg121
  z119 := Tryd.sizeOf121
  t124 := Tryd.underlying85
  a124 := Tryd.isAgg85
  z124 := Tryd.sizeOf85
  v124 := Tryd.zeroValue85
  t138 := Tryd.underlying123
  a138 := Tryd.isAgg123
  z138 := Tryd.sizeOf123
  v138 := Tryd.zeroValue123
  t139 := Tryd.underlying124
  a139 := Tryd.isAgg124
  z139 := Tryd.sizeOf124
  v139 := Tryd.zeroValue124
  g3 := by kernel_rfl
  g4 := by kernel_rfl }
end Go.Proofs
namespace Go.Proofs.YtgkgkpoeiojmeaaDoor.P
open Go.RowKit Go.Proofs.YtgkgkpoeiojmeaaDoorW.PrintWords Go.Proofs.YtgkgkpoeiojmeaaDoorW.PrintLast Go.Proofs.YtgkgkpoeiojmeaaDoorW.PrintMore
attribute [local go_sem] max2_int min2_int max_two min_two max_three min_three max_four min_four   -- for this text's walks alone
set_option linter.unusedVariables false
set_option linter.unusedSimpArgs false
/-- strings.Trim at a set of ASCII letters. -/
def strings_Trim.f (a0 : ByteArray) (a1 : ByteArray) : Option (ByteArray) := if a0.size ≤ 9223372036854775807 ∧ a1.size < 4294967281 ∧ a1.data.toList.all (fun b => decide (b.toNat < 128)) = true then some ⟨(Lib.trimS a0.data.toList a1.data.toList).toArray⟩ else none
theorem strings_Trim.calls (a0 : ByteArray) (a1 : ByteArray) (r : ByteArray) (w : World) (h : strings_Trim.f a0 a1 = some r) :
    Calls Tryd.prog 65 #[.string a0, .string a1] w fun e w' => e = .returned (.string r) ∧ Below w.heap.size w w' := by
  unfold strings_Trim.f at h; by_cases hc : a0.size ≤ 9223372036854775807 ∧ a1.size < 4294967281 ∧ a1.data.toList.all (fun b => decide (b.toNat < 128)) = true
  · rw [if_pos hc] at h
    obtain rfl := Option.some.inj h
    exact Any.strings_Trim_laid Tryd.lays160 (by kernel_rfl) a0 a1 w hc.1 hc.2.1 (ascii_of_all hc.2.2)
  · rw [if_neg hc] at h
    cases h
end Go.Proofs.YtgkgkpoeiojmeaaDoor.P
namespace Go.Proofs.YtgkgkpoeiojmeaaDoor.P
open Go.RowKit Go.Proofs.YtgkgkpoeiojmeaaDoorW.PrintWords Go.Proofs.YtgkgkpoeiojmeaaDoorW.PrintLast Go.Proofs.YtgkgkpoeiojmeaaDoorW.PrintMore
attribute [local go_sem] max2_int min2_int max_two min_two max_three min_three max_four min_four   -- for this text's walks alone
set_option linter.unusedVariables false
set_option linter.unusedSimpArgs false
def impl_isName.f (a0 : ByteArray) : Option (Bool) := if (a0.size : Int) ≥ 1 then (if (a0.size : Int) ≤ 6 then ((strings_Trim.f a0 (⟨#[97, 98, 99, 100, 101, 102, 103, 104, 105, 106, 107, 108, 109, 110, 111, 112, 113, 114, 115, 116, 117, 118, 119, 120, 121, 122]⟩ : ByteArray)).bind fun t158 => (some (t158.toList == ([] : List UInt8)))) else (some false)) else (some false)
set_option maxHeartbeats 8000000 in
set_option maxRecDepth 100000 in
theorem impl_isName.calls (a0 : ByteArray) (r : Bool) (w : World) (h : impl_isName.f a0 = some r) :
    Calls Tryd.prog 47 #[.string a0] w fun e w' => e = .returned (.bool r) ∧ Below w.heap.size w w' := by
  have HB := Aside0.mk (Below.refl w.heap.size w); have H : (if (a0.size : Int) ≥ 1 then (if (a0.size : Int) ≤ 6 then ((strings_Trim.f a0 (⟨#[97, 98, 99, 100, 101, 102, 103, 104, 105, 106, 107, 108, 109, 110, 111, 112, 113, 114, 115, 116, 117, 118, 119, 120, 121, 122]⟩ : ByteArray)).bind fun t158 => (some (t158.toList == ([] : List UInt8)))) else (some false)) else (some false)) = some r := h; clear h; by_cases c2 : (a0.size : Int) ≥ 1
  · rw [if_pos c2] at H
    have c2b0 : decide (1 ≤ (a0.size : Int)) = true := decide_eq_true c2; have c2b1 : decide (1 ≤ a0.size) = true := decide_eq_true (by omega); clear c2; by_cases c3 : (a0.size : Int) ≤ 6
    · rw [if_pos c3] at H
      have c3b0 : decide ((a0.size : Int) ≤ 6) = true := decide_eq_true c3; have c3b1 : decide (a0.size ≤ 6) = true := decide_eq_true (by omega); clear c3; replace H := Option.bind_eq_some_iff.mp H; obtain ⟨t158, A40, H⟩ := H; replace H : (some (t158.toList == ([] : List UInt8))) = some r := H; have A4 := Aside0.mk A40; clear A40; obtain rfl := Option.some.inj H
      go_enter Tryd.func47, Tryd.ntmps47
      go_wp2_with (first | (go_at_call 65; (with_reducible refine (strings_Trim.calls a0 (⟨#[97, 98, 99, 100, 101, 102, 103, 104, 105, 106, 107, 108, 109, 110, 111, 112, 113, 114, 115, 116, 117, 118, 119, 120, 121, 122]⟩ : ByteArray) t158 _ A4.out).mono ?_); rintro e w5 ⟨rfl, hb⟩; have n0_ := Aside0.mk (below_step (by repeat (first | (with_reducible first | exact HB.out | apply below_alloc | apply pw_below_drewN | apply below_drew1) | exact HB.out)) hb); clear HB; have HB := n0_; clear n0_; (try clear hb); (try clear hb2); (try clear hk); (try clear hi)))
      go_ret
      exact ⟨by first | rfl | (simp [errW_none, errW_some] <;> rfl) | (simp [*, errW_none, errW_some] <;> rfl), by repeat (first | (with_reducible first | exact HB.out | apply below_alloc | apply pw_below_drewN | apply below_drew1) | exact HB.out)⟩
    · rw [if_neg c3] at H
      have c3b0 : decide ((a0.size : Int) ≤ 6) = false := decide_eq_false c3; have c3b1 : decide (a0.size ≤ 6) = false := decide_eq_false (by omega); clear c3; obtain rfl := Option.some.inj H
      go_enter Tryd.func47, Tryd.ntmps47
      go_wp2
      go_ret
      exact ⟨by first | rfl | (simp [errW_none, errW_some] <;> rfl) | (simp [*, errW_none, errW_some] <;> rfl), by repeat (first | (with_reducible first | exact HB.out | apply below_alloc | apply pw_below_drewN | apply below_drew1) | exact HB.out)⟩
  · rw [if_neg c2] at H
    have c2b0 : decide (1 ≤ (a0.size : Int)) = false := decide_eq_false c2; have c2b1 : decide (1 ≤ a0.size) = false := decide_eq_false (by omega); clear c2; obtain rfl := Option.some.inj H
    go_enter Tryd.func47, Tryd.ntmps47
    go_wp2
    go_ret
    exact ⟨by first | rfl | (simp [errW_none, errW_some] <;> rfl) | (simp [*, errW_none, errW_some] <;> rfl), by repeat (first | (with_reducible first | exact HB.out | apply below_alloc | apply pw_below_drewN | apply below_drew1) | exact HB.out)⟩
end Go.Proofs.YtgkgkpoeiojmeaaDoor.P
namespace Go.Proofs.YtgkgkpoeiojmeaaDoor.P
open Go.RowKit Go.Proofs.YtgkgkpoeiojmeaaDoorW.PrintWords Go.Proofs.YtgkgkpoeiojmeaaDoorW.PrintLast Go.Proofs.YtgkgkpoeiojmeaaDoorW.PrintMore
attribute [local go_sem] max2_int min2_int max_two min_two max_three min_three max_four min_four   -- for this text's walks alone
set_option linter.unusedVariables false
set_option linter.unusedSimpArgs false
def impl_NameOk.f (a0 : ByteArray) : Option (Bool) := (impl_isName.f a0).bind fun t159 => (some t159)
set_option maxHeartbeats 8000000 in
set_option maxRecDepth 100000 in
theorem impl_NameOk.calls (a0 : ByteArray) (r : Bool) (w : World) (h : impl_NameOk.f a0 = some r) :
    Calls Tryd.prog 20 #[.string a0] w fun e w' => e = .returned (.bool r) ∧ Below w.heap.size w w' := by
  have HB := Aside0.mk (Below.refl w.heap.size w); have H : ((impl_isName.f a0).bind fun t159 => (some t159)) = some r := h; clear h; replace H := Option.bind_eq_some_iff.mp H; obtain ⟨t159, A20, H⟩ := H; replace H : (some t159) = some r := H; have A2 := Aside0.mk A20; clear A20; obtain rfl := Option.some.inj H
  go_enter Tryd.func20, Tryd.ntmps20
  go_wp2_with (first | ((with_reducible refine gate_callee (f := 47) rfl ?_); refine goesL_ (some 4) rfl rfl Tryd.func47 (by kernel_rfl) rfl #[.string a0] rfl (by (try simp only [List.map_toArray, List.map_cons, List.map_nil]); first | done | rfl | (simp only [List.length_drop, List.length_take]; rfl)) ?_; (with_reducible refine (impl_isName.calls a0 t159 _ A2.out).mono ?_); rintro e w3 ⟨rfl, hb⟩; refine ⟨_, rfl, ?_⟩; have n0_ := Aside0.mk (below_step (by repeat (first | (with_reducible first | exact HB.out | apply below_alloc | apply pw_below_drewN | apply below_drew1) | exact HB.out)) hb); clear HB; have HB := n0_; clear n0_; (try clear hb); (try clear hb2); (try clear hk); (try clear hi)))
  go_ret
  exact ⟨by first | rfl | (simp [errW_none, errW_some] <;> rfl) | (simp [*, errW_none, errW_some] <;> rfl), by repeat (first | (with_reducible first | exact HB.out | apply below_alloc | apply pw_below_drewN | apply below_drew1) | exact HB.out)⟩
end Go.Proofs.YtgkgkpoeiojmeaaDoor.P
namespace Go.Proofs.YtgkgkpoeiojmeaaDoor.P
open Go.RowKit Go.Proofs.YtgkgkpoeiojmeaaDoorW.PrintWords Go.Proofs.YtgkgkpoeiojmeaaDoorW.PrintLast Go.Proofs.YtgkgkpoeiojmeaaDoorW.PrintMore
attribute [local go_sem] max2_int min2_int max_two min_two max_three min_three max_four min_four   -- for this text's walks alone
set_option linter.unusedVariables false
set_option linter.unusedSimpArgs false
def spec_l1In.f (a0 : Int) (a1 : Int) (a2 : Int) : Option (Bool) := if a0 ≥ a1 then (some (decide (a0 ≤ a2))) else (some false)
set_option maxHeartbeats 8000000 in
set_option maxRecDepth 100000 in
theorem spec_l1In.calls (a0 : Int) (a1 : Int) (a2 : Int) (r : Bool) (w : World) (h : spec_l1In.f a0 a1 a2 = some r) :
    Calls Tryd.prog 46 #[.int .i64 a0, .int .i64 a1, .int .i64 a2] w fun e w' => e = .returned (.bool r) ∧ Drawn0 w w' := by
  have H : (if a0 ≥ a1 then (some (decide (a0 ≤ a2))) else (some false)) = some r := h; clear h; by_cases c4 : a0 ≥ a1
  · rw [if_pos c4] at H
    have c4b0 : decide (a1 ≤ a0) = true := decide_eq_true c4; clear c4; obtain rfl := Option.some.inj H
    go_enter Tryd.func46, Tryd.ntmps46
    go_wp2
    go_ret
    exact ⟨by first | rfl | (simp; done) | (simp [*]; done), by repeat (first | exact Drawn0.refl _ | apply Drawn0.step)⟩
  · rw [if_neg c4] at H
    have c4b0 : decide (a1 ≤ a0) = false := decide_eq_false c4; clear c4; obtain rfl := Option.some.inj H
    go_enter Tryd.func46, Tryd.ntmps46
    go_wp2
    go_ret
    exact ⟨by first | rfl | (simp; done) | (simp [*]; done), by repeat (first | exact Drawn0.refl _ | apply Drawn0.step)⟩
end Go.Proofs.YtgkgkpoeiojmeaaDoor.P
namespace Go.Proofs.YtgkgkpoeiojmeaaDoor.P
open Go.RowKit Go.Proofs.YtgkgkpoeiojmeaaDoorW.PrintWords Go.Proofs.YtgkgkpoeiojmeaaDoorW.PrintLast Go.Proofs.YtgkgkpoeiojmeaaDoorW.PrintMore
attribute [local go_sem] max2_int min2_int max_two min_two max_three min_three max_four min_four   -- for this text's walks alone
set_option linter.unusedVariables false
set_option linter.unusedSimpArgs false
def spec_NameOk.l0 : Nat → ByteArray → Int → Option (Bool)
  | 0, _, _ => none
  | k + 1, x0, x3 => if x3 < (x0.size : Int) then (if 0 ≤ x3 then (if (bt x0 x3) < 97 then (some false) else (if (bt x0 x3) > 122 then (some false) else (spec_NameOk.l0 k x0 (wrap64 (x3 + 1))))) else (none)) else ((spec_l1In.f (x0.size : Int) 1 6).bind fun t156 => (some t156))
def spec_NameOk.f (k : Nat) (a0 : ByteArray) : Option (Bool) := spec_NameOk.l0 k a0 0
set_option maxHeartbeats 8000000 in
set_option maxRecDepth 100000 in
theorem spec_NameOk.calls (k : Nat) (a0 : ByteArray) (r : Bool) (w : World) (h : spec_NameOk.f k a0 = some r) :
    Calls Tryd.prog 19 #[.string a0] w fun e w' => e = .returned (.bool r) ∧ Drawn0 w w' := by
  have H : (spec_NameOk.l0 k a0 0) = some r := h; clear h; have H' := Aside0.mk H; clear H
  go_enter Tryd.func19, Tryd.ntmps19
  go_wp2
  go_loopg [3] k (fun kq v3 w' => ∃ (x3_1 : Int), v3 = .int .i64 x3_1 ∧ Aside0 (spec_NameOk.l0 kq a0 x3_1 = some r) ∧ Aside0 (kq ≤ k) ∧ Drawn0 w w')
  case atStart => exact ⟨(0), (by first | rfl | (simp; done) | (simp [*]; done)), H', ⟨Nat.le_refl _⟩, by repeat (first | exact Drawn0.refl _ | apply Drawn0.step)⟩
  case round =>
    clear H'
    try clear c1
    obtain ⟨x3_1, rfl, HA, HK1, ⟨m1, rfl⟩⟩ := hrel
    cases gk with
    | zero => exact absurd HA.out (by simp [spec_NameOk.l0])
    | succ k1 =>
      have H := HA.out; clear HA; simp only [spec_NameOk.l0] at H; by_cases c2 : x3_1 < (a0.size : Int)
      · rw [if_pos c2] at H
        have c2b0 : decide (x3_1 < (a0.size : Int)) = true := decide_eq_true c2; clear c2; by_cases c3 : 0 ≤ x3_1
        · rw [if_pos c3] at H
          have c3b0 : decide (0 ≤ x3_1) = true := decide_eq_true c3; clear c3; by_cases c5 : (bt a0 x3_1) < 97
          · rw [if_pos c5] at H
            have c5b0 : decide ((bt a0 x3_1) < 97) = true := decide_eq_true c5; clear c5; obtain rfl := Option.some.inj H; have p4 : 0 ≤ (x3_1 : Int) := of_decide_eq_true (by first | (with_reducible assumption) | assumption); have q4 : x3_1 < (a0.size : Int) := of_decide_eq_true (by first | (with_reducible assumption) | assumption); have hx4 := bt_at a0 x3_1; replace p4 := eq_true p4; replace q4 := eq_true q4
            go_wp2
            go_ret
            exact ⟨by first | rfl | (simp; done) | (simp [*]; done), by repeat (first | exact Drawn0.refl _ | apply Drawn0.step)⟩
          · rw [if_neg c5] at H
            have c5b0 : decide ((bt a0 x3_1) < 97) = false := decide_eq_false c5; clear c5; by_cases c7 : (bt a0 x3_1) > 122
            · rw [if_pos c7] at H
              have c7b0 : decide (122 < (bt a0 x3_1)) = true := decide_eq_true c7; clear c7; obtain rfl := Option.some.inj H; have p4 : 0 ≤ (x3_1 : Int) := of_decide_eq_true (by first | (with_reducible assumption) | assumption); have q4 : x3_1 < (a0.size : Int) := of_decide_eq_true (by first | (with_reducible assumption) | assumption); have hx4 := bt_at a0 x3_1; replace p4 := eq_true p4; replace q4 := eq_true q4; have p6 : 0 ≤ (x3_1 : Int) := of_decide_eq_true (by first | (with_reducible assumption) | assumption); have q6 : x3_1 < (a0.size : Int) := of_decide_eq_true (by first | (with_reducible assumption) | assumption); have hx6 := bt_at a0 x3_1; replace p6 := eq_true p6; replace q6 := eq_true q6
              go_wp2
              go_ret
              exact ⟨by first | rfl | (simp; done) | (simp [*]; done), by repeat (first | exact Drawn0.refl _ | apply Drawn0.step)⟩
            · rw [if_neg c7] at H
              have c7b0 : decide (122 < (bt a0 x3_1)) = false := decide_eq_false c7; clear c7; have H' := Aside0.mk H; clear H; have p4 : 0 ≤ (x3_1 : Int) := of_decide_eq_true (by first | (with_reducible assumption) | assumption); have q4 : x3_1 < (a0.size : Int) := of_decide_eq_true (by first | (with_reducible assumption) | assumption); have hx4 := bt_at a0 x3_1; replace p4 := eq_true p4; replace q4 := eq_true q4; have p6 : 0 ≤ (x3_1 : Int) := of_decide_eq_true (by first | (with_reducible assumption) | assumption); have q6 : x3_1 < (a0.size : Int) := of_decide_eq_true (by first | (with_reducible assumption) | assumption); have hx6 := bt_at a0 x3_1; replace p6 := eq_true p6; replace q6 := eq_true q6
              go_wp2
              go_roundg k1
              case measure => have := HK1.out; omega
              case rel => exact ⟨(wrap64 (x3_1 + 1)), (by first | rfl | (simp; done) | (simp [*]; done)), H', ⟨by have := HK1.out; omega⟩, by repeat (first | exact Drawn0.refl _ | apply Drawn0.step)⟩
        · rw [if_neg c3] at H
          exact absurd H (by simp)
      · rw [if_neg c2] at H
        have c2b0 : decide (x3_1 < (a0.size : Int)) = false := decide_eq_false c2; clear c2; replace H := Option.bind_eq_some_iff.mp H; obtain ⟨t156, A80, H⟩ := H; replace H : (some t156) = some r := H; have A8 := Aside0.mk A80; clear A80; obtain rfl := Option.some.inj H
        go_wp2_with (first | ((with_reducible refine gate_callee (f := 46) rfl ?_); refine goesL_ (some 22) rfl rfl Tryd.func46 (by kernel_rfl) rfl #[.int .i64 (a0.size : Int), .int .i64 1, .int .i64 6] rfl (by (try simp only [List.map_toArray, List.map_cons, List.map_nil]); first | done | rfl | (simp only [List.length_drop, List.length_take]; rfl)) ?_; (with_reducible refine (spec_l1In.calls (a0.size : Int) 1 6 t156 _ A8.out).mono ?_); rintro e w' ⟨rfl, ⟨nd, rfl⟩⟩; refine ⟨_, rfl, ?_⟩))
        go_ret
        exact ⟨by first | rfl | (simp; done) | (simp [*]; done), by repeat (first | exact Drawn0.refl _ | apply Drawn0.step)⟩
end Go.Proofs.YtgkgkpoeiojmeaaDoor.P
namespace Go.Proofs.YtgkgkpoeiojmeaaDoor.P
open Go.RowKit Go.Proofs.YtgkgkpoeiojmeaaDoorW.PrintWords Go.Proofs.YtgkgkpoeiojmeaaDoorW.PrintLast Go.Proofs.YtgkgkpoeiojmeaaDoorW.PrintMore
attribute [local go_sem] max2_int min2_int max_two min_two max_three min_three max_four min_four   -- for this text's walks alone
set_option linter.unusedVariables false
set_option linter.unusedSimpArgs false
def spec_ThingKey.f (k : Nat) (a0 : ByteArray) (a1 : ByteArray) : Option (ByteArray) := (spec_NameOk.f k a0).bind fun t162 => (if t162 = true then ((spec_NameOk.f k a1).bind fun t163 => (if t163 = true then (if 2 + a0.size ≤ 9223372036854775807 then (if 2 + a0.size + 1 ≤ 9223372036854775807 then (if 2 + a0.size + 1 + a1.size ≤ 9223372036854775807 then (some ((((⟨#[116, 46]⟩ : ByteArray) ++ a0) ++ (⟨#[46]⟩ : ByteArray)) ++ a1)) else (none)) else (none)) else (none)) else (some (⟨#[]⟩ : ByteArray)))) else (some (⟨#[]⟩ : ByteArray)))
set_option maxHeartbeats 8000000 in
set_option maxRecDepth 100000 in
theorem spec_ThingKey.calls (k : Nat) (a0 : ByteArray) (a1 : ByteArray) (r : ByteArray) (w : World) (h : spec_ThingKey.f k a0 a1 = some r) :
    Calls Tryd.prog 21 #[.string a0, .string a1] w fun e w' => e = .returned (.string r) ∧ Drawn0 w w' := by
  have H : ((spec_NameOk.f k a0).bind fun t162 => (if t162 = true then ((spec_NameOk.f k a1).bind fun t163 => (if t163 = true then (if 2 + a0.size ≤ 9223372036854775807 then (if 2 + a0.size + 1 ≤ 9223372036854775807 then (if 2 + a0.size + 1 + a1.size ≤ 9223372036854775807 then (some ((((⟨#[116, 46]⟩ : ByteArray) ++ a0) ++ (⟨#[46]⟩ : ByteArray)) ++ a1)) else (none)) else (none)) else (none)) else (some (⟨#[]⟩ : ByteArray)))) else (some (⟨#[]⟩ : ByteArray)))) = some r := h; clear h; replace H := Option.bind_eq_some_iff.mp H; obtain ⟨t162, A30, H⟩ := H; replace H : (if t162 = true then ((spec_NameOk.f k a1).bind fun t163 => (if t163 = true then (if 2 + a0.size ≤ 9223372036854775807 then (if 2 + a0.size + 1 ≤ 9223372036854775807 then (if 2 + a0.size + 1 + a1.size ≤ 9223372036854775807 then (some ((((⟨#[116, 46]⟩ : ByteArray) ++ a0) ++ (⟨#[46]⟩ : ByteArray)) ++ a1)) else (none)) else (none)) else (none)) else (some (⟨#[]⟩ : ByteArray)))) else (some (⟨#[]⟩ : ByteArray))) = some r := H; have A3 := Aside0.mk A30; clear A30; by_cases c4 : t162 = true
  · subst c4
    have H1 : ((spec_NameOk.f k a1).bind fun t163 => (if t163 = true then (if 2 + a0.size ≤ 9223372036854775807 then (if 2 + a0.size + 1 ≤ 9223372036854775807 then (if 2 + a0.size + 1 + a1.size ≤ 9223372036854775807 then (some ((((⟨#[116, 46]⟩ : ByteArray) ++ a0) ++ (⟨#[46]⟩ : ByteArray)) ++ a1)) else (none)) else (none)) else (none)) else (some (⟨#[]⟩ : ByteArray)))) = some r := by rw [if_pos rfl] at H; exact H
    clear H; have H := H1; clear H1; replace H := Option.bind_eq_some_iff.mp H; obtain ⟨t163, A50, H⟩ := H; replace H : (if t163 = true then (if 2 + a0.size ≤ 9223372036854775807 then (if 2 + a0.size + 1 ≤ 9223372036854775807 then (if 2 + a0.size + 1 + a1.size ≤ 9223372036854775807 then (some ((((⟨#[116, 46]⟩ : ByteArray) ++ a0) ++ (⟨#[46]⟩ : ByteArray)) ++ a1)) else (none)) else (none)) else (none)) else (some (⟨#[]⟩ : ByteArray))) = some r := H; have A5 := Aside0.mk A50; clear A50; by_cases c6 : t163 = true
    · subst c6
      have H1 : (if 2 + a0.size ≤ 9223372036854775807 then (if 2 + a0.size + 1 ≤ 9223372036854775807 then (if 2 + a0.size + 1 + a1.size ≤ 9223372036854775807 then (some ((((⟨#[116, 46]⟩ : ByteArray) ++ a0) ++ (⟨#[46]⟩ : ByteArray)) ++ a1)) else (none)) else (none)) else (none)) = some r := by rw [if_pos rfl] at H; exact H
      clear H; have H := H1; clear H1; by_cases c7 : 2 + a0.size ≤ 9223372036854775807
      · rw [if_pos c7] at H
        have c7b0 := eq_true c7; have c7b1 : decide (2 + a0.size ≤ 9223372036854775807) = true := decide_eq_true c7
        try have c7b2 : (9223372036854775807 < 2 + a0.size) = False := eq_false (Nat.not_lt.2 c7)
        by_cases c8 : 2 + a0.size + 1 ≤ 9223372036854775807
        · rw [if_pos c8] at H
          have c8b0 := eq_true c8; have c8b1 : decide (2 + a0.size + 1 ≤ 9223372036854775807) = true := decide_eq_true c8
          try have c8b2 : (9223372036854775807 < 2 + a0.size + 1) = False := eq_false (Nat.not_lt.2 c8)
          by_cases c9 : 2 + a0.size + 1 + a1.size ≤ 9223372036854775807
          · rw [if_pos c9] at H
            have c9b0 := eq_true c9; have c9b1 : decide (2 + a0.size + 1 + a1.size ≤ 9223372036854775807) = true := decide_eq_true c9
            try have c9b2 : (9223372036854775807 < 2 + a0.size + 1 + a1.size) = False := eq_false (Nat.not_lt.2 c9)
            obtain rfl := Option.some.inj H
            go_enter Tryd.func21, Tryd.ntmps21
            go_wp2_with (first | ((with_reducible refine gate_callee (f := 19) rfl ?_); refine goesL_ (some 6) rfl rfl Tryd.func19 (by kernel_rfl) rfl #[.string a0] rfl (by (try simp only [List.map_toArray, List.map_cons, List.map_nil]); first | done | rfl | (simp only [List.length_drop, List.length_take]; rfl)) ?_; (with_reducible refine (spec_NameOk.calls k a0 true _ A3.out).mono ?_); rintro e w' ⟨rfl, ⟨nd, rfl⟩⟩; refine ⟨_, rfl, ?_⟩) | (go_at_call 19; (with_reducible refine (spec_NameOk.calls k a1 true _ A5.out).mono ?_); rintro e w' ⟨rfl, ⟨nd, rfl⟩⟩))
            go_ret
            exact ⟨by first | rfl | (simp; done) | (simp [*]; done), by repeat (first | exact Drawn0.refl _ | apply Drawn0.step)⟩
          · rw [if_neg c9] at H
            exact absurd H (by simp)
        · rw [if_neg c8] at H
          exact absurd H (by simp)
      · rw [if_neg c7] at H
        exact absurd H (by simp)
    · replace c6 := Bool.eq_false_iff.mpr c6
      subst c6; have H1 : (some (⟨#[]⟩ : ByteArray)) = some r := by rw [if_neg (show ¬ (false = true) by decide)] at H; exact H
      clear H; have H := H1; clear H1; obtain rfl := Option.some.inj H
      go_enter Tryd.func21, Tryd.ntmps21
      go_wp2_with (first | ((with_reducible refine gate_callee (f := 19) rfl ?_); refine goesL_ (some 6) rfl rfl Tryd.func19 (by kernel_rfl) rfl #[.string a0] rfl (by (try simp only [List.map_toArray, List.map_cons, List.map_nil]); first | done | rfl | (simp only [List.length_drop, List.length_take]; rfl)) ?_; (with_reducible refine (spec_NameOk.calls k a0 true _ A3.out).mono ?_); rintro e w' ⟨rfl, ⟨nd, rfl⟩⟩; refine ⟨_, rfl, ?_⟩) | (go_at_call 19; (with_reducible refine (spec_NameOk.calls k a1 false _ A5.out).mono ?_); rintro e w' ⟨rfl, ⟨nd, rfl⟩⟩))
      go_ret
      exact ⟨by first | rfl | (simp; done) | (simp [*]; done), by repeat (first | exact Drawn0.refl _ | apply Drawn0.step)⟩
  · replace c4 := Bool.eq_false_iff.mpr c4
    subst c4; have H1 : (some (⟨#[]⟩ : ByteArray)) = some r := by rw [if_neg (show ¬ (false = true) by decide)] at H; exact H
    clear H; have H := H1; clear H1; obtain rfl := Option.some.inj H
    go_enter Tryd.func21, Tryd.ntmps21
    go_wp2_with (first | ((with_reducible refine gate_callee (f := 19) rfl ?_); refine goesL_ (some 6) rfl rfl Tryd.func19 (by kernel_rfl) rfl #[.string a0] rfl (by (try simp only [List.map_toArray, List.map_cons, List.map_nil]); first | done | rfl | (simp only [List.length_drop, List.length_take]; rfl)) ?_; (with_reducible refine (spec_NameOk.calls k a0 false _ A3.out).mono ?_); rintro e w' ⟨rfl, ⟨nd, rfl⟩⟩; refine ⟨_, rfl, ?_⟩))
    go_ret
    exact ⟨by first | rfl | (simp; done) | (simp [*]; done), by repeat (first | exact Drawn0.refl _ | apply Drawn0.step)⟩
end Go.Proofs.YtgkgkpoeiojmeaaDoor.P
namespace Go.Proofs.YtgkgkpoeiojmeaaDoor.P
open Go.RowKit Go.Proofs.YtgkgkpoeiojmeaaDoorW.PrintWords Go.Proofs.YtgkgkpoeiojmeaaDoorW.PrintLast Go.Proofs.YtgkgkpoeiojmeaaDoorW.PrintMore
attribute [local go_sem] max2_int min2_int max_two min_two max_three min_three max_four min_four   -- for this text's walks alone
set_option linter.unusedVariables false
set_option linter.unusedSimpArgs false
def impl_ThingKey.f (a0 : ByteArray) (a1 : ByteArray) : Option (ByteArray) := (impl_isName.f a0).bind fun t164 => (if t164 = true then ((impl_isName.f a1).bind fun t165 => (if t165 = true then (if 2 + a0.size ≤ 9223372036854775807 then (if 2 + a0.size + 1 ≤ 9223372036854775807 then (if 2 + a0.size + 1 + a1.size ≤ 9223372036854775807 then (some ((((⟨#[116, 46]⟩ : ByteArray) ++ a0) ++ (⟨#[46]⟩ : ByteArray)) ++ a1)) else (none)) else (none)) else (none)) else (some (⟨#[]⟩ : ByteArray)))) else (some (⟨#[]⟩ : ByteArray)))
set_option maxHeartbeats 8000000 in
set_option maxRecDepth 100000 in
theorem impl_ThingKey.calls (a0 : ByteArray) (a1 : ByteArray) (r : ByteArray) (w : World) (h : impl_ThingKey.f a0 a1 = some r) :
    Calls Tryd.prog 22 #[.string a0, .string a1] w fun e w' => e = .returned (.string r) ∧ Below w.heap.size w w' := by
  have HB := Aside0.mk (Below.refl w.heap.size w); have H : ((impl_isName.f a0).bind fun t164 => (if t164 = true then ((impl_isName.f a1).bind fun t165 => (if t165 = true then (if 2 + a0.size ≤ 9223372036854775807 then (if 2 + a0.size + 1 ≤ 9223372036854775807 then (if 2 + a0.size + 1 + a1.size ≤ 9223372036854775807 then (some ((((⟨#[116, 46]⟩ : ByteArray) ++ a0) ++ (⟨#[46]⟩ : ByteArray)) ++ a1)) else (none)) else (none)) else (none)) else (some (⟨#[]⟩ : ByteArray)))) else (some (⟨#[]⟩ : ByteArray)))) = some r := h; clear h; replace H := Option.bind_eq_some_iff.mp H; obtain ⟨t164, A30, H⟩ := H; replace H : (if t164 = true then ((impl_isName.f a1).bind fun t165 => (if t165 = true then (if 2 + a0.size ≤ 9223372036854775807 then (if 2 + a0.size + 1 ≤ 9223372036854775807 then (if 2 + a0.size + 1 + a1.size ≤ 9223372036854775807 then (some ((((⟨#[116, 46]⟩ : ByteArray) ++ a0) ++ (⟨#[46]⟩ : ByteArray)) ++ a1)) else (none)) else (none)) else (none)) else (some (⟨#[]⟩ : ByteArray)))) else (some (⟨#[]⟩ : ByteArray))) = some r := H; have A3 := Aside0.mk A30; clear A30; by_cases c4 : t164 = true
  · subst c4
    have H1 : ((impl_isName.f a1).bind fun t165 => (if t165 = true then (if 2 + a0.size ≤ 9223372036854775807 then (if 2 + a0.size + 1 ≤ 9223372036854775807 then (if 2 + a0.size + 1 + a1.size ≤ 9223372036854775807 then (some ((((⟨#[116, 46]⟩ : ByteArray) ++ a0) ++ (⟨#[46]⟩ : ByteArray)) ++ a1)) else (none)) else (none)) else (none)) else (some (⟨#[]⟩ : ByteArray)))) = some r := by rw [if_pos rfl] at H; exact H
    clear H; have H := H1; clear H1; replace H := Option.bind_eq_some_iff.mp H; obtain ⟨t165, A50, H⟩ := H; replace H : (if t165 = true then (if 2 + a0.size ≤ 9223372036854775807 then (if 2 + a0.size + 1 ≤ 9223372036854775807 then (if 2 + a0.size + 1 + a1.size ≤ 9223372036854775807 then (some ((((⟨#[116, 46]⟩ : ByteArray) ++ a0) ++ (⟨#[46]⟩ : ByteArray)) ++ a1)) else (none)) else (none)) else (none)) else (some (⟨#[]⟩ : ByteArray))) = some r := H; have A5 := Aside0.mk A50; clear A50; by_cases c6 : t165 = true
    · subst c6
      have H1 : (if 2 + a0.size ≤ 9223372036854775807 then (if 2 + a0.size + 1 ≤ 9223372036854775807 then (if 2 + a0.size + 1 + a1.size ≤ 9223372036854775807 then (some ((((⟨#[116, 46]⟩ : ByteArray) ++ a0) ++ (⟨#[46]⟩ : ByteArray)) ++ a1)) else (none)) else (none)) else (none)) = some r := by rw [if_pos rfl] at H; exact H
      clear H; have H := H1; clear H1; by_cases c7 : 2 + a0.size ≤ 9223372036854775807
      · rw [if_pos c7] at H
        have c7b0 := eq_true c7; have c7b1 : decide (2 + a0.size ≤ 9223372036854775807) = true := decide_eq_true c7
        try have c7b2 : (9223372036854775807 < 2 + a0.size) = False := eq_false (Nat.not_lt.2 c7)
        by_cases c8 : 2 + a0.size + 1 ≤ 9223372036854775807
        · rw [if_pos c8] at H
          have c8b0 := eq_true c8; have c8b1 : decide (2 + a0.size + 1 ≤ 9223372036854775807) = true := decide_eq_true c8
          try have c8b2 : (9223372036854775807 < 2 + a0.size + 1) = False := eq_false (Nat.not_lt.2 c8)
          by_cases c9 : 2 + a0.size + 1 + a1.size ≤ 9223372036854775807
          · rw [if_pos c9] at H
            have c9b0 := eq_true c9; have c9b1 : decide (2 + a0.size + 1 + a1.size ≤ 9223372036854775807) = true := decide_eq_true c9
            try have c9b2 : (9223372036854775807 < 2 + a0.size + 1 + a1.size) = False := eq_false (Nat.not_lt.2 c9)
            obtain rfl := Option.some.inj H
            go_enter Tryd.func22, Tryd.ntmps22
            go_wp2_with (first | ((with_reducible refine gate_callee (f := 47) rfl ?_); refine goesL_ (some 6) rfl rfl Tryd.func47 (by kernel_rfl) rfl #[.string a0] rfl (by (try simp only [List.map_toArray, List.map_cons, List.map_nil]); first | done | rfl | (simp only [List.length_drop, List.length_take]; rfl)) ?_; (with_reducible refine (impl_isName.calls a0 true _ A3.out).mono ?_); rintro e w10 ⟨rfl, hb⟩; refine ⟨_, rfl, ?_⟩; have n0_ := Aside0.mk (below_step (by repeat (first | (with_reducible first | exact HB.out | apply below_alloc | apply pw_below_drewN | apply below_drew1) | exact HB.out)) hb); clear HB; have HB := n0_; clear n0_; (try clear hb); (try clear hb2); (try clear hk); (try clear hi)) | (go_at_call 47; (with_reducible refine (impl_isName.calls a1 true _ A5.out).mono ?_); rintro e w11 ⟨rfl, hb⟩; have n0_ := Aside0.mk (below_step (by repeat (first | (with_reducible first | exact HB.out | apply below_alloc | apply pw_below_drewN | apply below_drew1) | exact HB.out)) hb); clear HB; have HB := n0_; clear n0_; (try clear hb); (try clear hb2); (try clear hk); (try clear hi)))
            go_ret
            exact ⟨by first | rfl | (simp [errW_none, errW_some] <;> rfl) | (simp [*, errW_none, errW_some] <;> rfl), by repeat (first | (with_reducible first | exact HB.out | apply below_alloc | apply pw_below_drewN | apply below_drew1) | exact HB.out)⟩
          · rw [if_neg c9] at H
            exact absurd H (by simp)
        · rw [if_neg c8] at H
          exact absurd H (by simp)
      · rw [if_neg c7] at H
        exact absurd H (by simp)
    · replace c6 := Bool.eq_false_iff.mpr c6
      subst c6; have H1 : (some (⟨#[]⟩ : ByteArray)) = some r := by rw [if_neg (show ¬ (false = true) by decide)] at H; exact H
      clear H; have H := H1; clear H1; obtain rfl := Option.some.inj H
      go_enter Tryd.func22, Tryd.ntmps22
      go_wp2_with (first | ((with_reducible refine gate_callee (f := 47) rfl ?_); refine goesL_ (some 6) rfl rfl Tryd.func47 (by kernel_rfl) rfl #[.string a0] rfl (by (try simp only [List.map_toArray, List.map_cons, List.map_nil]); first | done | rfl | (simp only [List.length_drop, List.length_take]; rfl)) ?_; (with_reducible refine (impl_isName.calls a0 true _ A3.out).mono ?_); rintro e w12 ⟨rfl, hb⟩; refine ⟨_, rfl, ?_⟩; have n0_ := Aside0.mk (below_step (by repeat (first | (with_reducible first | exact HB.out | apply below_alloc | apply pw_below_drewN | apply below_drew1) | exact HB.out)) hb); clear HB; have HB := n0_; clear n0_; (try clear hb); (try clear hb2); (try clear hk); (try clear hi)) | (go_at_call 47; (with_reducible refine (impl_isName.calls a1 false _ A5.out).mono ?_); rintro e w13 ⟨rfl, hb⟩; have n0_ := Aside0.mk (below_step (by repeat (first | (with_reducible first | exact HB.out | apply below_alloc | apply pw_below_drewN | apply below_drew1) | exact HB.out)) hb); clear HB; have HB := n0_; clear n0_; (try clear hb); (try clear hb2); (try clear hk); (try clear hi)))
      go_ret
      exact ⟨by first | rfl | (simp [errW_none, errW_some] <;> rfl) | (simp [*, errW_none, errW_some] <;> rfl), by repeat (first | (with_reducible first | exact HB.out | apply below_alloc | apply pw_below_drewN | apply below_drew1) | exact HB.out)⟩
  · replace c4 := Bool.eq_false_iff.mpr c4
    subst c4; have H1 : (some (⟨#[]⟩ : ByteArray)) = some r := by rw [if_neg (show ¬ (false = true) by decide)] at H; exact H
    clear H; have H := H1; clear H1; obtain rfl := Option.some.inj H
    go_enter Tryd.func22, Tryd.ntmps22
    go_wp2_with (first | ((with_reducible refine gate_callee (f := 47) rfl ?_); refine goesL_ (some 6) rfl rfl Tryd.func47 (by kernel_rfl) rfl #[.string a0] rfl (by (try simp only [List.map_toArray, List.map_cons, List.map_nil]); first | done | rfl | (simp only [List.length_drop, List.length_take]; rfl)) ?_; (with_reducible refine (impl_isName.calls a0 false _ A3.out).mono ?_); rintro e w14 ⟨rfl, hb⟩; refine ⟨_, rfl, ?_⟩; have n0_ := Aside0.mk (below_step (by repeat (first | (with_reducible first | exact HB.out | apply below_alloc | apply pw_below_drewN | apply below_drew1) | exact HB.out)) hb); clear HB; have HB := n0_; clear n0_; (try clear hb); (try clear hb2); (try clear hk); (try clear hi)))
    go_ret
    exact ⟨by first | rfl | (simp [errW_none, errW_some] <;> rfl) | (simp [*, errW_none, errW_some] <;> rfl), by repeat (first | (with_reducible first | exact HB.out | apply below_alloc | apply pw_below_drewN | apply below_drew1) | exact HB.out)⟩
end Go.Proofs.YtgkgkpoeiojmeaaDoor.P
namespace Go.Proofs.YtgkgkpoeiojmeaaDoor.P
open Go.RowKit Go.Proofs.YtgkgkpoeiojmeaaDoorW.PrintWords Go.Proofs.YtgkgkpoeiojmeaaDoorW.PrintLast Go.Proofs.YtgkgkpoeiojmeaaDoorW.PrintMore
attribute [local go_sem] max2_int min2_int max_two min_two max_three min_three max_four min_four   -- for this text's walks alone
set_option linter.unusedVariables false
set_option linter.unusedSimpArgs false
/-- A state of type 67 at block g of W; what its slices lead to came in by w0. -/
def IsS67 (w0 W : World) (g : Nat) (f0 : List Int) (f1 : Int) : Prop := ∃ A0 c0, W.heap[g]? = some (.cells #[.slice A0 f0.length c0, .int .i64 f1] 67 (0, 0)) ∧ w0.heap.size ≤ g ∧ Kd.C (Kd.int .u8) w0 A0 f0.length f0
theorem IsS67.grown {w0 W : World} {g : Nat} {f0 : List Int} {f1 : Int} {W1 : World} {row : Option Nat} (h : IsS67 w0 W g f0 f1) (hw : W.grownBy W1 row) (hne : some g ≠ row) : IsS67 w0 W1 g f0 f1 := by
  obtain ⟨A0, c0, hb, hg, hr0⟩ := h
  exact ⟨A0, c0, blk_grown hb hw hne, hg, hr0⟩
theorem IsS67.kept {w0 W : World} {g : Nat} {f0 : List Int} {f1 : Int} {W1 : World} {S : Nat → Prop} (h : IsS67 w0 W g f0 f1) (hk : Kept W W1 S) (hne : ¬ S g) : IsS67 w0 W1 g f0 f1 := by
  obtain ⟨A0, c0, hb, hg, hr0⟩ := h
  exact ⟨A0, c0, blk_kept hb hk hne, hg, hr0⟩
theorem IsS67.below {w0 W : World} {g : Nat} {f0 : List Int} {f1 : Int} {W1 : World} (h : IsS67 w0 W g f0 f1) (hw : Below W.heap.size W W1) : IsS67 w0 W1 g f0 f1 := h.grown (grown_of_below hw none) (by simp)
theorem IsS67.alloc {w0 W : World} {g : Nat} {f0 : List Int} {f1 : Int} (h : IsS67 w0 W g f0 f1) (o : Obj) : IsS67 w0 (W.alloc o) g f0 f1 := h.below (below_alloc (Below.refl _ _) o)
theorem IsS67.drewN {w0 W : World} {g : Nat} {f0 : List Int} {f1 : Int} (h : IsS67 w0 W g f0 f1) (m : Nat) : IsS67 w0 (W.drewN m) g f0 f1 := h
theorem IsS67.drew {w0 W : World} {g : Nat} {f0 : List Int} {f1 : Int} (h : IsS67 w0 W g f0 f1) : IsS67 w0 W.drew g f0 f1 := h
theorem IsS67.at_ {w0 W : World} {g : Nat} {f0 : List Int} {f1 : Int} {w' : World} {m : Nat} (hq : W.drewN m = w') (h : IsS67 w0 W g f0 f1) : IsS67 w0 w' g f0 f1 := by subst hq; exact IsS67.drewN h m
theorem IsS67.apart {w0 W : World} {g : Nat} {f0 : List Int} {f1 : Int} {α : Type} {d : Kd α} {e : Nat} {base : Nat} {ok : Nat → Prop} {v : Value} {xs : List α} (h : IsS67 w0 W g f0 f1) (ho : d.R e W base ok v xs) (ht : ∀ q, q ∈ e :: d.E → q ≠ 67) : d.R e W base (fun k => ok k ∧ k ≠ g) v xs := by
  obtain ⟨A0, c0, hb, hg, hr0⟩ := h
  exact Kd.R_types ho hb ht
theorem IsS67.own_ne {w0 W : World} {g : Nat} {f0 : List Int} {f1 : Int} {α : Type} {d : Kd α} {e : Nat} {base : Nat} {ok : Nat → Prop} {v : Value} {xs : List α} (h : IsS67 w0 W g f0 f1) (ho : d.R e W base ok v xs) (ht : e ≠ 67) : some g ≠ v.ownBlock := by
  obtain ⟨A0, c0, hb, hg, hr0⟩ := h
  exact Kd.R_ne ho hb ht
theorem IsS67.ge {w0 W : World} {g : Nat} {f0 : List Int} {f1 : Int} (h : IsS67 w0 W g f0 f1) : w0.heap.size ≤ g := by
  obtain ⟨A0, c0, hb, hg, hr0⟩ := h
  exact hg
theorem cellS67_0 {W : World} {g : Nat} {A0 : Option Addr} {c0 : Nat} {f0 : List Int} {f1 : Int} (h : W.heap[g]? = some (.cells #[.slice A0 f0.length c0, .int .i64 f1] 67 (0, 0))) : W.cell? ⟨g, 0, none⟩ = some (.slice A0 f0.length c0) := (blk_cell h 0).trans rfl
theorem cellS67_1 {W : World} {g : Nat} {A0 : Option Addr} {c0 : Nat} {f0 : List Int} {f1 : Int} (h : W.heap[g]? = some (.cells #[.slice A0 f0.length c0, .int .i64 f1] 67 (0, 0))) : W.cell? ⟨g, 1, none⟩ = some (.int .i64 f1) := (blk_cell h 1).trans rfl
theorem IsS67.set_1 {w0 W : World} {g : Nat} {f0 : List Int} {f1 : Int} (h : IsS67 w0 W g f0 f1) (x : Int) : IsS67 w0 (W.setCell ⟨g, 1, none⟩ (.int .i64 x)) g f0 x := by
  obtain ⟨A0, c0, hb, hg, hr0⟩ := h
  exact ⟨A0, c0, by simpa using blk_set hb 1 (.int .i64 x), hg, hr0⟩
theorem IsS67.new (w0 W : World) (A0 : Option Addr) (c0 : Nat) (f0 : List Int) (f1 : Int) (hB : Below w0.heap.size w0 W) (hr0 : Kd.C (Kd.int .u8) w0 A0 f0.length f0) : IsS67 w0 (W.alloc (.cells #[.slice A0 f0.length c0, .int .i64 f1] 67)) W.heap.size f0 f1 := ⟨A0, c0, by simpa using heap_alloc_new W _, hB.size, hr0⟩
def spec_l1Open.f (l0 : List Int) : Option (List Int × Int) := if (l0.length : Int) > 2000 then (if 2000 ≤ (l0.length : Int) then (some (l0.take 2000, 0)) else (none)) else (some (l0, 0))
set_option maxHeartbeats 8000000 in
set_option maxRecDepth 100000 in
theorem spec_l1Open.calls (A0 : Option Addr) (c0 : Nat) (l0 : List Int) (r1 : List Int) (r2 : Int) (w0 w : World) (hB : Below w0.heap.size w0 w) (hr0 : Kd.C (Kd.int .u8) w0 A0 l0.length l0) (hc0 : l0.length ≤ c0) (h : spec_l1Open.f l0 = some (r1, r2)) :
    Calls Tryd.prog 48 #[.slice A0 l0.length c0] w fun e w' => ∃ g_ : Nat, e = .returned (.pointer (some ⟨g_, 0, none⟩)) ∧ IsS67 w0 w' g_ r1 r2 ∧ Below w0.heap.size w0 w' ∧ Below w.heap.size w w' := by
  have hu67 := Tryd.underlying67; have HR0 := Aside0.mk hr0; have HC0 := Aside0.mk hc0; clear hr0 hc0; have HBW := Aside0.mk (Below.refl w.heap.size w); have HW0 := Aside0.mk hB.size; have HB := Aside0.mk hB; clear hB; have H : (if (l0.length : Int) > 2000 then (if 2000 ≤ (l0.length : Int) then (some (l0.take 2000, 0)) else (none)) else (some (l0, 0))) = some (r1, r2) := h; clear h; by_cases c2 : (l0.length : Int) > 2000
  · rw [if_pos c2] at H
    have c2b0 : decide (2000 < (l0.length : Int)) = true := decide_eq_true c2; have c2b1 : decide (2000 < l0.length) = true := decide_eq_true (by omega); clear c2; by_cases c3 : 2000 ≤ (l0.length : Int)
    · rw [if_pos c3] at H
      have c3b0 := eq_true c3; have c3b1 : decide (2000 ≤ (l0.length : Int)) = true := decide_eq_true c3; clear c3; simp only [Option.some.injEq, Prod.mk.injEq] at H; obtain ⟨rfl, rfl⟩ := H; obtain ⟨i04, hi04, _, hsz4, _⟩ := info_parts info5; obtain ⟨hcut4, hA4, hC4⟩ := print_take_of (P := Tryd.prog) (Value.int .u8) 0 31 5 .i64 Tryd.underlying31 hi04 hsz4 A0 c0 l0 2000 (by omega) (of_decide_eq_true (by first | (with_reducible assumption) | assumption)) HC0.out; have HR168 := Aside0.mk (Kd.C_of_reads (h1 := fun _ => rfl) (hA4 _ (Kd.reads_of_C HR0.out))); have HC168 := Aside0.mk hC4; clear hA4 hC4 hi04 hsz4
      go_enter Tryd.func48, Tryd.ntmps48
      go_wp2_with (first | ((with_reducible refine gate_dst (N := 10) rfl ?_); refine box_event ?hg (N := 10) ?hd (cs := #[.slice A0 (l0.take 2000).length c0, .int .i64 0]) (t := 67) ?hr ?_; (case hd => rfl); (case hg => rfl); (case hr => first | (go_simp; done) | (go_simp; rfl)); intro gb169 hg w5 hbox hb; have n0_ := Aside0.mk (below_step HBW.out hb); have n1_ := Aside0.mk (below_step (by repeat (first | (with_reducible first | exact HB.out | apply below_alloc | apply pw_below_drewN | apply below_drew1) | exact HB.out)) hb); have n2_ := Aside0.mk (hbox); have n3_ := Aside0.mk ((by rw [hg]; exact (below_size (by repeat (first | (with_reducible first | exact HBW.out | apply below_alloc | apply pw_below_drewN | apply below_drew1) | exact HBW.out))) : w.heap.size ≤ gb169)); have n4_ := Aside0.mk ((Nat.le_trans HW0.out (by rw [hg]; exact (below_size (by repeat (first | (with_reducible first | exact HBW.out | apply below_alloc | apply pw_below_drewN | apply below_drew1) | exact HBW.out))) : w.heap.size ≤ gb169) : w0.heap.size ≤ gb169)); clear HBW; clear HB; have HBW := n0_; have HB := n1_; have BK169 := n2_; have GW169 := n3_; have GE169 := n4_; clear n0_ n1_ n2_ n3_ n4_; clear hb hbox hg))
      go_ret
      exact ⟨_, rfl, (show IsS67 w0 _ gb169 (l0.take 2000) 0 from ⟨_, _, by (with_reducible repeat (first | refine blk_drewN ?_ _ | refine blk_drew ?_ | refine blk_alloc ?_ _)); exact BK169.out, GE169.out, HR168.out⟩), by repeat (first | (with_reducible first | exact HB.out | apply below_alloc | apply pw_below_drewN | apply below_drew1 | refine below_set ?_ GE169.out) | exact HB.out), by repeat (first | (with_reducible first | exact HBW.out | apply below_alloc | apply pw_below_drewN | apply below_drew1 | refine below_set ?_ GW169.out) | exact HBW.out)⟩
    · rw [if_neg c3] at H
      exact absurd H (by simp)
  · rw [if_neg c2] at H
    have c2b0 : decide (2000 < (l0.length : Int)) = false := decide_eq_false c2; have c2b1 : decide (2000 < l0.length) = false := decide_eq_false (by omega); clear c2; simp only [Option.some.injEq, Prod.mk.injEq] at H; obtain ⟨rfl, rfl⟩ := H
    go_enter Tryd.func48, Tryd.ntmps48
    go_wp2_with (first | ((with_reducible refine gate_dst (N := 10) rfl ?_); refine box_event ?hg (N := 10) ?hd (cs := #[.slice A0 l0.length c0, .int .i64 0]) (t := 67) ?hr ?_; (case hd => rfl); (case hg => rfl); (case hr => first | (go_simp; done) | (go_simp; rfl)); intro gb170 hg w6 hbox hb; have n0_ := Aside0.mk (below_step HBW.out hb); have n1_ := Aside0.mk (below_step (by repeat (first | (with_reducible first | exact HB.out | apply below_alloc | apply pw_below_drewN | apply below_drew1) | exact HB.out)) hb); have n2_ := Aside0.mk (hbox); have n3_ := Aside0.mk ((by rw [hg]; exact (below_size (by repeat (first | (with_reducible first | exact HBW.out | apply below_alloc | apply pw_below_drewN | apply below_drew1) | exact HBW.out))) : w.heap.size ≤ gb170)); have n4_ := Aside0.mk ((Nat.le_trans HW0.out (by rw [hg]; exact (below_size (by repeat (first | (with_reducible first | exact HBW.out | apply below_alloc | apply pw_below_drewN | apply below_drew1) | exact HBW.out))) : w.heap.size ≤ gb170) : w0.heap.size ≤ gb170)); clear HBW; clear HB; have HBW := n0_; have HB := n1_; have BK170 := n2_; have GW170 := n3_; have GE170 := n4_; clear n0_ n1_ n2_ n3_ n4_; clear hb hbox hg))
    go_ret
    exact ⟨_, rfl, (show IsS67 w0 _ gb170 l0 0 from ⟨_, _, by (with_reducible repeat (first | refine blk_drewN ?_ _ | refine blk_drew ?_ | refine blk_alloc ?_ _)); exact BK170.out, GE170.out, HR0.out⟩), by repeat (first | (with_reducible first | exact HB.out | apply below_alloc | apply pw_below_drewN | apply below_drew1 | refine below_set ?_ GE170.out) | exact HB.out), by repeat (first | (with_reducible first | exact HBW.out | apply below_alloc | apply pw_below_drewN | apply below_drew1 | refine below_set ?_ GW170.out) | exact HBW.out)⟩
end Go.Proofs.YtgkgkpoeiojmeaaDoor.P
namespace Go.Proofs.YtgkgkpoeiojmeaaDoor.P
open Go.RowKit Go.Proofs.YtgkgkpoeiojmeaaDoorW.PrintWords Go.Proofs.YtgkgkpoeiojmeaaDoorW.PrintLast Go.Proofs.YtgkgkpoeiojmeaaDoorW.PrintMore
attribute [local go_sem] max2_int min2_int max_two min_two max_three min_three max_four min_four   -- for this text's walks alone
set_option linter.unusedVariables false
set_option linter.unusedSimpArgs false
def spec_l1Rd_pick.j0 : Nat → Int → Bool → List Int → Int → Option (Int × Int)
  | 0, _, _, _, _ => none
  | k + 1, x1, x24, x1000, x1001 => if x24 = true then (some (0, x1001)) else (if (wrap64 (x1001 - 1)) < (x1000.length : Int) then (if 0 ≤ (wrap64 (x1001 - 1)) then (if x1 = 0 then (none) else (some (Int.tmod (wrap64 (rd x1000 (wrap64 (x1001 - 1)))) x1, x1001))) else (none)) else (if (x1000.length : Int) = 0 then (none) else (if 0 ≤ (Int.tmod (wrap64 (x1001 - 1)) (x1000.length : Int)) then (if (Int.tmod (wrap64 (x1001 - 1)) (x1000.length : Int)) < (x1000.length : Int) then (if 0 ≤ (Int.tmod (wrap64 ((wrap64 ((wrap64 (x1001 - 1)) * 7)) + 3)) (x1000.length : Int)) then (if (Int.tmod (wrap64 ((wrap64 ((wrap64 (x1001 - 1)) * 7)) + 3)) (x1000.length : Int)) < (x1000.length : Int) then (if x1 = 0 then (none) else (some (Int.tmod (Go.bits .xor .i64 (wrap64 ((wrap64 ((wrap64 ((wrap64 ((wrap64 (rd x1000 (Int.tmod (wrap64 (x1001 - 1)) (x1000.length : Int)))) * 131)) + (wrap64 ((wrap64 (rd x1000 (Int.tmod (wrap64 ((wrap64 ((wrap64 (x1001 - 1)) * 7)) + 3)) (x1000.length : Int)))) * 1117)))) + (wrap64 ((wrap64 (x1001 - 1)) * 29)))) + (wrap64 ((wrap64 (Int.tdiv (wrap64 (x1001 - 1)) (x1000.length : Int))) * 53)))) (wrap64 (Int.tdiv (wrap64 ((wrap64 ((wrap64 ((wrap64 ((wrap64 (rd x1000 (Int.tmod (wrap64 (x1001 - 1)) (x1000.length : Int)))) * 131)) + (wrap64 ((wrap64 (rd x1000 (Int.tmod (wrap64 ((wrap64 ((wrap64 (x1001 - 1)) * 7)) + 3)) (x1000.length : Int)))) * 1117)))) + (wrap64 ((wrap64 (x1001 - 1)) * 29)))) + (wrap64 ((wrap64 (Int.tdiv (wrap64 (x1001 - 1)) (x1000.length : Int))) * 53)))) 64))) x1, x1001))) else (none)) else (none)) else (none)) else (none))))
def spec_l1Rd_pick.f (k : Nat) (s0_0 : List Int) (s0_1 : Int) (a1 : Int) : Option (Int × Int) := if a1 < 1 then (spec_l1Rd_pick.j0 k a1 true s0_0 (wrap64 (s0_1 + 1))) else (spec_l1Rd_pick.j0 k a1 ((s0_0.length : Int) == 0) s0_0 (wrap64 (s0_1 + 1)))
set_option maxHeartbeats 8000000 in
set_option maxRecDepth 100000 in
theorem spec_l1Rd_pick.calls (k : Nat) (g : Nat) (s0_0 : List Int) (s0_1 : Int) (a1 : Int) (r1 : Int) (r2 : Int) (w0 w : World) (hI : IsS67 w0 w g s0_0 s0_1) (hB : Below w0.heap.size w0 w) (h : spec_l1Rd_pick.f k s0_0 s0_1 a1 = some (r1, r2)) :
    Calls Tryd.prog 50 #[.pointer (some ⟨g, 0, none⟩), .int .i64 a1] w fun e w' => e = .returned (.int .i64 r1) ∧ IsS67 w0 w' g s0_0 r2 ∧ Below w0.heap.size w0 w' ∧ KeepBut w w' g none := by
  have HI0 := Aside0.mk hI; have HK := Aside0.mk (KeepBut.refl w g none); have HL := Aside0.mk hB.size; clear hI; have HW0 := Aside0.mk hB.size; have HB := Aside0.mk hB; clear hB; have H : (if a1 < 1 then (spec_l1Rd_pick.j0 k a1 true s0_0 (wrap64 (s0_1 + 1))) else (spec_l1Rd_pick.j0 k a1 ((s0_0.length : Int) == 0) s0_0 (wrap64 (s0_1 + 1)))) = some (r1, r2) := h; clear h; have HC3 := Aside0.mk H; clear H; obtain ⟨ASz4_0, cSz4_0, HGz4, hgz4, HSz4_0⟩ := HI0.out; have hcz4_0 := cellS67_0 HGz4; have hcz4_1 := cellS67_1 HGz4; have hfz4_1 := blk_frozen HGz4 1; clear HGz4 hgz4
  go_enter Tryd.func50, Tryd.ntmps50
  go_upto_region 2 with (fail)
  repeat (go_quiet (fail); go_upto_region 2 with (fail))
  go_cut [24] (fun v24 wc => ∃ (kq : Nat) (x24_2 : Bool), v24 = .bool x24_2 ∧ Aside0 (spec_l1Rd_pick.j0 kq a1 x24_2 s0_0 (wrap64 (s0_1 + 1)) = some (r1, r2)) ∧ Aside0 (kq ≤ k) ∧ Aside0 (IsS67 w0 wc g s0_0 (wrap64 (s0_1 + 1))) ∧ Aside0 (KeepBut w wc g none) ∧ Aside0 (Below w0.heap.size w0 wc))
  case first =>
    have H := HC3.out; clear HC3; by_cases c5 : a1 < 1
    · rw [if_pos c5] at H
      have c5b0 : decide (a1 < 1) = true := decide_eq_true c5; clear c5
      (first | rw [c5b0] | (simp only [i64_w, i32_w]; rw [c5b0]) | skip)
      have H' := Aside0.mk H; clear H
      go_wp2
      repeat (go_quiet (fail); try go_wp2)
      go_meet
      case rel => exact ⟨_, (true), (by first | rfl | (simp; done) | (simp [*]; done)), H', ⟨by first | omega | exact Nat.le_refl _⟩, ⟨by repeat (first | (with_reducible first | exact HI0.out | apply IsS67.alloc | apply IsS67.drewN | apply IsS67.drew | apply IsS67.set_1) | exact HI0.out)⟩, ⟨by repeat (first | (with_reducible first | exact HK.out | apply KeepBut.set_ | apply keep_drewN | apply keep_drew | apply keep_alloc) | exact HK.out)⟩, ⟨by repeat (first | (with_reducible first | exact HB.out | apply below_alloc | apply pw_below_drewN | apply below_drew1 | refine below_set ?_ (IsS67.ge HI0.out)) | exact HB.out)⟩⟩
    · rw [if_neg c5] at H
      have c5b0 : decide (a1 < 1) = false := decide_eq_false c5; clear c5
      (first | rw [c5b0] | (simp only [i64_w, i32_w]; rw [c5b0]) | skip)
      have H' := Aside0.mk H; clear H; obtain ⟨ASz6_0, cSz6_0, HGz6, hgz6, HSz6_0⟩ := HI0.out; have hcz6_0 := cellS67_0 HGz6; have hcz6_1 := cellS67_1 HGz6; have hfz6_1 := blk_frozen HGz6 1; clear HGz6 hgz6
      go_wp2
      repeat (go_quiet (fail); try go_wp2)
      go_meet
      case rel => exact ⟨_, (((s0_0.length : Int) == 0)), (by first | rfl | (simp; done) | (simp [*]; done)), H', ⟨by first | omega | exact Nat.le_refl _⟩, ⟨by repeat (first | (with_reducible first | exact HI0.out | apply IsS67.alloc | apply IsS67.drewN | apply IsS67.drew | apply IsS67.set_1) | exact HI0.out)⟩, ⟨by repeat (first | (with_reducible first | exact HK.out | apply KeepBut.set_ | apply keep_drewN | apply keep_drew | apply keep_alloc) | exact HK.out)⟩, ⟨by repeat (first | (with_reducible first | exact HB.out | apply below_alloc | apply pw_below_drewN | apply below_drew1 | refine below_set ?_ (IsS67.ge HI0.out)) | exact HB.out)⟩⟩
  case rest =>
    clear HC3
    try clear p2
    try clear c5
    try clear c5b0
    try clear p6
    try clear hcz4_0
    try clear hcz4_1
    try clear hcz6_0
    try clear hcz6_1
    try clear hfz4_1
    try clear hfz6_1
    obtain ⟨kq, x24_2, rfl, HA, HJ2, HI0, HK, HB⟩ := hcut
    cases kq with
    | zero => exact absurd HA.out (by simp [spec_l1Rd_pick.j0])
    | succ kj2 =>
      have H := HA.out; clear HA; simp only [spec_l1Rd_pick.j0] at H; by_cases c7 : x24_2 = true
      · subst c7
        have H1 : (some (0, (wrap64 (s0_1 + 1)))) = some (r1, r2) := by rw [if_pos rfl] at H; exact H
        clear H; have H := H1; clear H1; simp only [Option.some.injEq, Prod.mk.injEq] at H; obtain ⟨rfl, rfl⟩ := H
        go_wp2
        repeat (go_quiet (fail); try go_wp2)
        go_ret
        exact ⟨by first | rfl | (simp [errW_none, errW_some] <;> rfl) | (simp [*, errW_none, errW_some] <;> rfl), by repeat (first | (with_reducible first | exact HI0.out | apply IsS67.alloc | apply IsS67.drewN | apply IsS67.drew | apply IsS67.set_1) | exact HI0.out), by repeat (first | (with_reducible first | exact HB.out | apply below_alloc | apply pw_below_drewN | apply below_drew1 | refine below_set ?_ (IsS67.ge HI0.out)) | exact HB.out), by repeat (first | (with_reducible first | exact HK.out | apply KeepBut.set_ | apply keep_drewN | apply keep_drew | apply keep_alloc) | exact HK.out)⟩
      · replace c7 := Bool.eq_false_iff.mpr c7
        subst c7; have H1 : (if (wrap64 ((wrap64 (s0_1 + 1)) - 1)) < (s0_0.length : Int) then (if 0 ≤ (wrap64 ((wrap64 (s0_1 + 1)) - 1)) then (if a1 = 0 then (none) else (some (Int.tmod (wrap64 (rd s0_0 (wrap64 ((wrap64 (s0_1 + 1)) - 1)))) a1, (wrap64 (s0_1 + 1))))) else (none)) else (if (s0_0.length : Int) = 0 then (none) else (if 0 ≤ (Int.tmod (wrap64 ((wrap64 (s0_1 + 1)) - 1)) (s0_0.length : Int)) then (if (Int.tmod (wrap64 ((wrap64 (s0_1 + 1)) - 1)) (s0_0.length : Int)) < (s0_0.length : Int) then (if 0 ≤ (Int.tmod (wrap64 ((wrap64 ((wrap64 ((wrap64 (s0_1 + 1)) - 1)) * 7)) + 3)) (s0_0.length : Int)) then (if (Int.tmod (wrap64 ((wrap64 ((wrap64 ((wrap64 (s0_1 + 1)) - 1)) * 7)) + 3)) (s0_0.length : Int)) < (s0_0.length : Int) then (if a1 = 0 then (none) else (some (Int.tmod (Go.bits .xor .i64 (wrap64 ((wrap64 ((wrap64 ((wrap64 ((wrap64 (rd s0_0 (Int.tmod (wrap64 ((wrap64 (s0_1 + 1)) - 1)) (s0_0.length : Int)))) * 131)) + (wrap64 ((wrap64 (rd s0_0 (Int.tmod (wrap64 ((wrap64 ((wrap64 ((wrap64 (s0_1 + 1)) - 1)) * 7)) + 3)) (s0_0.length : Int)))) * 1117)))) + (wrap64 ((wrap64 ((wrap64 (s0_1 + 1)) - 1)) * 29)))) + (wrap64 ((wrap64 (Int.tdiv (wrap64 ((wrap64 (s0_1 + 1)) - 1)) (s0_0.length : Int))) * 53)))) (wrap64 (Int.tdiv (wrap64 ((wrap64 ((wrap64 ((wrap64 ((wrap64 (rd s0_0 (Int.tmod (wrap64 ((wrap64 (s0_1 + 1)) - 1)) (s0_0.length : Int)))) * 131)) + (wrap64 ((wrap64 (rd s0_0 (Int.tmod (wrap64 ((wrap64 ((wrap64 ((wrap64 (s0_1 + 1)) - 1)) * 7)) + 3)) (s0_0.length : Int)))) * 1117)))) + (wrap64 ((wrap64 ((wrap64 (s0_1 + 1)) - 1)) * 29)))) + (wrap64 ((wrap64 (Int.tdiv (wrap64 ((wrap64 (s0_1 + 1)) - 1)) (s0_0.length : Int))) * 53)))) 64))) a1, (wrap64 (s0_1 + 1))))) else (none)) else (none)) else (none)) else (none)))) = some (r1, r2) := by rw [if_neg (show ¬ (false = true) by decide)] at H; exact H
        clear H; have H := H1; clear H1; by_cases c8 : (wrap64 ((wrap64 (s0_1 + 1)) - 1)) < (s0_0.length : Int)
        · rw [if_pos c8] at H
          have c8b0 : decide ((wrap64 ((wrap64 (s0_1 + 1)) - 1)) < (s0_0.length : Int)) = true := decide_eq_true c8; clear c8; obtain ⟨ji9, hji9⟩ : ∃ j_ : Int, (wrap64 ((wrap64 (s0_1 + 1)) - 1)) = j_ := ⟨_, rfl⟩; replace H : (if 0 ≤ (ji9) then (if a1 = 0 then (none) else (some (Int.tmod (wrap64 (rd s0_0 (ji9))) a1, (wrap64 (s0_1 + 1))))) else (none)) = some (r1, r2) := by first | (rw [hji9] at H; exact H) | (simp only [hji9] at H ⊢; exact H)
          (try rw [hji9] at c8b0)
          have hji9w : (IntKind.i64.wrap ((wrap64 (s0_1 + 1)) - 1)) = ji9 := (i64_w _).trans hji9; by_cases c10 : 0 ≤ (ji9)
          · rw [if_pos c10] at H
            have c10b0 : decide (0 ≤ (ji9)) = true := decide_eq_true c10; clear c10; by_cases c11 : a1 = 0
            · rw [if_pos c11] at H
              exact absurd H (by simp)
            · rw [if_neg c11] at H
              have c11b0 : (a1 == 0) = false := beq_eq_false_iff_ne.mpr c11; have c11b1 : (a1 != 0) = true := bne_iff_ne.mpr c11; simp only [Option.some.injEq, Prod.mk.injEq] at H; obtain ⟨rfl, rfl⟩ := H; obtain ⟨ASz12_0, cSz12_0, HGz12, hgz12, HSz12_0⟩ := HI0.out; have hcz12_0 := cellS67_0 HGz12; have hcz12_1 := cellS67_1 HGz12; have hfz12_1 := blk_frozen HGz12 1; clear HGz12 hgz12; have p171 : 0 ≤ ((ji9) : Int) := of_decide_eq_true (by first | (with_reducible assumption) | assumption); have q171 : (ji9) < (s0_0.length : Int) := of_decide_eq_true (by first | (with_reducible assumption) | assumption); obtain ⟨ad171, e171, hx171_0⟩ := Kd.at_int HSz12_0 (ji9) p171 q171
              cases e171
              replace hx171_0 := pw_cell_below HB.out hx171_0; replace p171 := eq_true p171; replace q171 := eq_true q171
              go_wp2
              repeat (go_quiet (fail); try go_wp2)
              go_ret
              exact ⟨by first | rfl | (simp [errW_none, errW_some] <;> rfl) | (simp only [← hji9]; first | rfl | (simp [errW_none, errW_some] <;> rfl)) | (simp [*, errW_none, errW_some] <;> rfl), by repeat (first | (with_reducible first | exact HI0.out | apply IsS67.alloc | apply IsS67.drewN | apply IsS67.drew | apply IsS67.set_1) | exact HI0.out), by repeat (first | (with_reducible first | exact HB.out | apply below_alloc | apply pw_below_drewN | apply below_drew1 | refine below_set ?_ (IsS67.ge HI0.out)) | exact HB.out), by repeat (first | (with_reducible first | exact HK.out | apply KeepBut.set_ | apply keep_drewN | apply keep_drew | apply keep_alloc) | exact HK.out)⟩
          · rw [if_neg c10] at H
            exact absurd H (by simp)
        · rw [if_neg c8] at H
          have c8b0 : decide ((wrap64 ((wrap64 (s0_1 + 1)) - 1)) < (s0_0.length : Int)) = false := decide_eq_false c8; clear c8; by_cases c13 : (s0_0.length : Int) = 0
          · rw [if_pos c13] at H
            exact absurd H (by simp)
          · rw [if_neg c13] at H
            have c13b0 : ((s0_0.length : Int) == 0) = false := beq_eq_false_iff_ne.mpr c13; have c13b1 : ((s0_0.length : Int) != 0) = true := bne_iff_ne.mpr c13; have c13b2 : ¬ (s0_0 = []) := fun h_ => c13 (by rw [h_]; rfl)
            obtain ⟨ji14, hji14⟩ : ∃ j_ : Int, (Int.tmod (wrap64 ((wrap64 (s0_1 + 1)) - 1)) (s0_0.length : Int)) = j_ := ⟨_, rfl⟩; replace H : (if 0 ≤ (ji14) then (if (ji14) < (s0_0.length : Int) then (if 0 ≤ (Int.tmod (wrap64 ((wrap64 ((wrap64 ((wrap64 (s0_1 + 1)) - 1)) * 7)) + 3)) (s0_0.length : Int)) then (if (Int.tmod (wrap64 ((wrap64 ((wrap64 ((wrap64 (s0_1 + 1)) - 1)) * 7)) + 3)) (s0_0.length : Int)) < (s0_0.length : Int) then (if a1 = 0 then (none) else (some (Int.tmod (Go.bits .xor .i64 (wrap64 ((wrap64 ((wrap64 ((wrap64 ((wrap64 (rd s0_0 (ji14))) * 131)) + (wrap64 ((wrap64 (rd s0_0 (Int.tmod (wrap64 ((wrap64 ((wrap64 ((wrap64 (s0_1 + 1)) - 1)) * 7)) + 3)) (s0_0.length : Int)))) * 1117)))) + (wrap64 ((wrap64 ((wrap64 (s0_1 + 1)) - 1)) * 29)))) + (wrap64 ((wrap64 (Int.tdiv (wrap64 ((wrap64 (s0_1 + 1)) - 1)) (s0_0.length : Int))) * 53)))) (wrap64 (Int.tdiv (wrap64 ((wrap64 ((wrap64 ((wrap64 ((wrap64 (rd s0_0 (ji14))) * 131)) + (wrap64 ((wrap64 (rd s0_0 (Int.tmod (wrap64 ((wrap64 ((wrap64 ((wrap64 (s0_1 + 1)) - 1)) * 7)) + 3)) (s0_0.length : Int)))) * 1117)))) + (wrap64 ((wrap64 ((wrap64 (s0_1 + 1)) - 1)) * 29)))) + (wrap64 ((wrap64 (Int.tdiv (wrap64 ((wrap64 (s0_1 + 1)) - 1)) (s0_0.length : Int))) * 53)))) 64))) a1, (wrap64 (s0_1 + 1))))) else (none)) else (none)) else (none)) else (none)) = some (r1, r2) := by first | (rw [hji14] at H; exact H) | (simp only [hji14] at H ⊢; exact H)
            by_cases c15 : 0 ≤ (ji14)
            · rw [if_pos c15] at H
              have c15b0 : decide (0 ≤ (ji14)) = true := decide_eq_true c15; clear c15; by_cases c16 : (ji14) < (s0_0.length : Int)
              · rw [if_pos c16] at H
                have c16b0 : decide ((ji14) < (s0_0.length : Int)) = true := decide_eq_true c16; clear c16; obtain ⟨ji17, hji17⟩ : ∃ j_ : Int, (Int.tmod (wrap64 ((wrap64 ((wrap64 ((wrap64 (s0_1 + 1)) - 1)) * 7)) + 3)) (s0_0.length : Int)) = j_ := ⟨_, rfl⟩; replace H : (if 0 ≤ (ji17) then (if (ji17) < (s0_0.length : Int) then (if a1 = 0 then (none) else (some (Int.tmod (Go.bits .xor .i64 (wrap64 ((wrap64 ((wrap64 ((wrap64 ((wrap64 (rd s0_0 (ji14))) * 131)) + (wrap64 ((wrap64 (rd s0_0 (ji17))) * 1117)))) + (wrap64 ((wrap64 ((wrap64 (s0_1 + 1)) - 1)) * 29)))) + (wrap64 ((wrap64 (Int.tdiv (wrap64 ((wrap64 (s0_1 + 1)) - 1)) (s0_0.length : Int))) * 53)))) (wrap64 (Int.tdiv (wrap64 ((wrap64 ((wrap64 ((wrap64 ((wrap64 (rd s0_0 (ji14))) * 131)) + (wrap64 ((wrap64 (rd s0_0 (ji17))) * 1117)))) + (wrap64 ((wrap64 ((wrap64 (s0_1 + 1)) - 1)) * 29)))) + (wrap64 ((wrap64 (Int.tdiv (wrap64 ((wrap64 (s0_1 + 1)) - 1)) (s0_0.length : Int))) * 53)))) 64))) a1, (wrap64 (s0_1 + 1))))) else (none)) else (none)) = some (r1, r2) := by first | (rw [hji17] at H; exact H) | (simp only [hji17] at H ⊢; exact H)
                by_cases c18 : 0 ≤ (ji17)
                · rw [if_pos c18] at H
                  have c18b0 : decide (0 ≤ (ji17)) = true := decide_eq_true c18; clear c18; by_cases c19 : (ji17) < (s0_0.length : Int)
                  · rw [if_pos c19] at H
                    have c19b0 : decide ((ji17) < (s0_0.length : Int)) = true := decide_eq_true c19; clear c19; by_cases c20 : a1 = 0
                    · rw [if_pos c20] at H
                      exact absurd H (by simp)
                    · rw [if_neg c20] at H
                      have c20b0 : (a1 == 0) = false := beq_eq_false_iff_ne.mpr c20; have c20b1 : (a1 != 0) = true := bne_iff_ne.mpr c20; simp only [Option.some.injEq, Prod.mk.injEq] at H; obtain ⟨rfl, rfl⟩ := H; obtain ⟨ASz21_0, cSz21_0, HGz21, hgz21, HSz21_0⟩ := HI0.out; have hcz21_0 := cellS67_0 HGz21; have hcz21_1 := cellS67_1 HGz21; have hfz21_1 := blk_frozen HGz21 1; clear HGz21 hgz21; have p172 : 0 ≤ ((ji14) : Int) := of_decide_eq_true (by first | (with_reducible assumption) | assumption); have q172 : (ji14) < (s0_0.length : Int) := of_decide_eq_true (by first | (with_reducible assumption) | assumption); obtain ⟨ad172, e172, hx172_0⟩ := Kd.at_int HSz21_0 (ji14) p172 q172
                      cases e172
                      replace hx172_0 := pw_cell_below HB.out hx172_0; replace p172 := eq_true p172; replace q172 := eq_true q172; have p173 : 0 ≤ ((ji17) : Int) := of_decide_eq_true (by first | (with_reducible assumption) | assumption); have q173 : (ji17) < (s0_0.length : Int) := of_decide_eq_true (by first | (with_reducible assumption) | assumption); obtain ⟨ad173, e173, hx173_0⟩ := Kd.at_int HSz21_0 (ji17) p173 q173; obtain rfl : ad172 = ad173 := (by injection e173); replace hx173_0 := pw_cell_below HB.out hx173_0; replace p173 := eq_true p173; replace q173 := eq_true q173
                      go_wp2
                      repeat (go_quiet (fail); try go_wp2)
                      go_ret
                      exact ⟨by first | rfl | (simp [errW_none, errW_some] <;> rfl) | (simp only [← hji14, ← hji17]; first | rfl | (simp [errW_none, errW_some] <;> rfl)) | (simp [*, errW_none, errW_some] <;> rfl), by repeat (first | (with_reducible first | exact HI0.out | apply IsS67.alloc | apply IsS67.drewN | apply IsS67.drew | apply IsS67.set_1) | exact HI0.out), by repeat (first | (with_reducible first | exact HB.out | apply below_alloc | apply pw_below_drewN | apply below_drew1 | refine below_set ?_ (IsS67.ge HI0.out)) | exact HB.out), by repeat (first | (with_reducible first | exact HK.out | apply KeepBut.set_ | apply keep_drewN | apply keep_drew | apply keep_alloc) | exact HK.out)⟩
                  · rw [if_neg c19] at H
                    exact absurd H (by simp)
                · rw [if_neg c18] at H
                  exact absurd H (by simp)
              · rw [if_neg c16] at H
                exact absurd H (by simp)
            · rw [if_neg c15] at H
              exact absurd H (by simp)
end Go.Proofs.YtgkgkpoeiojmeaaDoor.P
namespace Go.Proofs.YtgkgkpoeiojmeaaDoor.P
open Go.RowKit Go.Proofs.YtgkgkpoeiojmeaaDoorW.PrintWords Go.Proofs.YtgkgkpoeiojmeaaDoorW.PrintLast Go.Proofs.YtgkgkpoeiojmeaaDoorW.PrintMore
attribute [local go_sem] max2_int min2_int max_two min_two max_three min_three max_four min_four   -- for this text's walks alone
set_option linter.unusedVariables false
set_option linter.unusedSimpArgs false
def spec_DrawThingKey.f (k : Nat) (l0 : List Int) : Option (ByteArray × ByteArray) := (spec_l1Open.f l0).bind fun bt190 => ((some (([(⟨#[97]⟩ : ByteArray), (⟨#[97, 108, 108]⟩ : ByteArray), (⟨#[98]⟩ : ByteArray), (⟨#[]⟩ : ByteArray), (⟨#[65]⟩ : ByteArray)] : List ByteArray) : List ByteArray)).bind fun y193 => ((spec_l1Rd_pick.f k bt190.1 bt190.2 11).bind fun bt196 => (if 0 ≤ (wrap64 (Int.tdiv (wrap64 (bt196.1 * 5)) 11)) then (if (wrap64 (Int.tdiv (wrap64 (bt196.1 * 5)) 11)) < (y193.length : Int) then ((some (([(⟨#[120]⟩ : ByteArray), (⟨#[121]⟩ : ByteArray), (⟨#[97, 98]⟩ : ByteArray), (⟨#[]⟩ : ByteArray), (⟨#[116, 111, 111, 108, 111, 110, 103]⟩ : ByteArray)] : List ByteArray) : List ByteArray)).bind fun y199 => ((spec_l1Rd_pick.f k bt190.1 bt196.2 11).bind fun bt202 => (if 0 ≤ (wrap64 (Int.tdiv (wrap64 (bt202.1 * 5)) 11)) then (if (wrap64 (Int.tdiv (wrap64 (bt202.1 * 5)) 11)) < (y199.length : Int) then (some (rdOf ByteArray.empty y193 (wrap64 (Int.tdiv (wrap64 (bt196.1 * 5)) 11)), rdOf ByteArray.empty y199 (wrap64 (Int.tdiv (wrap64 (bt202.1 * 5)) 11)))) else (none)) else (none)))) else (none)) else (none))))
def spec_DrawThingKey.T2 : Bool × List (List Nat × List Nat) := (true, [([], []), ([], []), ([1], [1]), ([2], [2]), ([3], [3]), ([0, 4], [0, 4]), ([5], [5]), ([], []), ([], []), ([8, 2], [8]), ([9], [9]), ([10], [10]), ([7, 11], [7, 11]), ([12], [12]), ([6, 9, 0, 1, 2, 3, 4, 5, 6], [6]), ([13, 14, 0, 1, 2, 3, 4, 5, 6, 7, 8, 9, 10, 11, 12, 13, 14], [13])])
def spec_DrawThingKey.B2 : List Nat := [0, 0, 2, 6, 14, 31, 63, 0, 0, 262, 774, 1798, 3974, 8070, 895, 32767]
theorem spec_DrawThingKey.tab2 : rtab .any (opsOf Tryd.f25 2) = spec_DrawThingKey.T2 := by kernel_rfl
theorem spec_DrawThingKey.bits2 : waitsOk spec_DrawThingKey.T2.2 spec_DrawThingKey.B2 = true := by kernel_rfl
set_option maxHeartbeats 8000000 in
set_option maxRecDepth 100000 in
theorem spec_DrawThingKey.calls (k : Nat) (A0 : Option Addr) (c0 : Nat) (l0 : List Int) (r1 : ByteArray) (r2 : ByteArray) (w : World) (hr0 : Kd.C (Kd.int .u8) w A0 l0.length l0) (hc0 : l0.length ≤ c0) (h : spec_DrawThingKey.f k l0 = some (r1, r2)) :
    Calls Tryd.prog 25 #[.slice A0 l0.length c0] w fun e w' => e = .returned (.tuple #[.string r1, .string r2]) ∧ Below w.heap.size w w' := by
  have HR0 := Aside0.mk hr0; have HC0 := Aside0.mk hc0; clear hr0 hc0; have HB := Aside0.mk (Below.refl w.heap.size w); have H : ((spec_l1Open.f l0).bind fun bt190 => ((some (([(⟨#[97]⟩ : ByteArray), (⟨#[97, 108, 108]⟩ : ByteArray), (⟨#[98]⟩ : ByteArray), (⟨#[]⟩ : ByteArray), (⟨#[65]⟩ : ByteArray)] : List ByteArray) : List ByteArray)).bind fun y193 => ((spec_l1Rd_pick.f k bt190.1 bt190.2 11).bind fun bt196 => (if 0 ≤ (wrap64 (Int.tdiv (wrap64 (bt196.1 * 5)) 11)) then (if (wrap64 (Int.tdiv (wrap64 (bt196.1 * 5)) 11)) < (y193.length : Int) then ((some (([(⟨#[120]⟩ : ByteArray), (⟨#[121]⟩ : ByteArray), (⟨#[97, 98]⟩ : ByteArray), (⟨#[]⟩ : ByteArray), (⟨#[116, 111, 111, 108, 111, 110, 103]⟩ : ByteArray)] : List ByteArray) : List ByteArray)).bind fun y199 => ((spec_l1Rd_pick.f k bt190.1 bt196.2 11).bind fun bt202 => (if 0 ≤ (wrap64 (Int.tdiv (wrap64 (bt202.1 * 5)) 11)) then (if (wrap64 (Int.tdiv (wrap64 (bt202.1 * 5)) 11)) < (y199.length : Int) then (some (rdOf ByteArray.empty y193 (wrap64 (Int.tdiv (wrap64 (bt196.1 * 5)) 11)), rdOf ByteArray.empty y199 (wrap64 (Int.tdiv (wrap64 (bt202.1 * 5)) 11)))) else (none)) else (none)))) else (none)) else (none))))) = some (r1, r2) := h; clear h; replace H := Option.bind_eq_some_iff.mp H; obtain ⟨⟨t190, t191⟩, A20, H⟩ := H; replace H : ((some (([(⟨#[97]⟩ : ByteArray), (⟨#[97, 108, 108]⟩ : ByteArray), (⟨#[98]⟩ : ByteArray), (⟨#[]⟩ : ByteArray), (⟨#[65]⟩ : ByteArray)] : List ByteArray) : List ByteArray)).bind fun y193 => ((spec_l1Rd_pick.f k t190 t191 11).bind fun bt196 => (if 0 ≤ (wrap64 (Int.tdiv (wrap64 (bt196.1 * 5)) 11)) then (if (wrap64 (Int.tdiv (wrap64 (bt196.1 * 5)) 11)) < (y193.length : Int) then ((some (([(⟨#[120]⟩ : ByteArray), (⟨#[121]⟩ : ByteArray), (⟨#[97, 98]⟩ : ByteArray), (⟨#[]⟩ : ByteArray), (⟨#[116, 111, 111, 108, 111, 110, 103]⟩ : ByteArray)] : List ByteArray) : List ByteArray)).bind fun y199 => ((spec_l1Rd_pick.f k t190 bt196.2 11).bind fun bt202 => (if 0 ≤ (wrap64 (Int.tdiv (wrap64 (bt202.1 * 5)) 11)) then (if (wrap64 (Int.tdiv (wrap64 (bt202.1 * 5)) 11)) < (y199.length : Int) then (some (rdOf ByteArray.empty y193 (wrap64 (Int.tdiv (wrap64 (bt196.1 * 5)) 11)), rdOf ByteArray.empty y199 (wrap64 (Int.tdiv (wrap64 (bt202.1 * 5)) 11)))) else (none)) else (none)))) else (none)) else (none)))) = some (r1, r2) := H; have A2 := Aside0.mk A20; clear A20; obtain ⟨y193, hy193⟩ : ∃ y_ : List ByteArray, y_ = (([(⟨#[97]⟩ : ByteArray), (⟨#[97, 108, 108]⟩ : ByteArray), (⟨#[98]⟩ : ByteArray), (⟨#[]⟩ : ByteArray), (⟨#[65]⟩ : ByteArray)] : List ByteArray)) := ⟨_, rfl⟩; replace H : ((spec_l1Rd_pick.f k t190 t191 11).bind fun bt196 => (if 0 ≤ (wrap64 (Int.tdiv (wrap64 (bt196.1 * 5)) 11)) then (if (wrap64 (Int.tdiv (wrap64 (bt196.1 * 5)) 11)) < (y193.length : Int) then ((some (([(⟨#[120]⟩ : ByteArray), (⟨#[121]⟩ : ByteArray), (⟨#[97, 98]⟩ : ByteArray), (⟨#[]⟩ : ByteArray), (⟨#[116, 111, 111, 108, 111, 110, 103]⟩ : ByteArray)] : List ByteArray) : List ByteArray)).bind fun y199 => ((spec_l1Rd_pick.f k t190 bt196.2 11).bind fun bt202 => (if 0 ≤ (wrap64 (Int.tdiv (wrap64 (bt202.1 * 5)) 11)) then (if (wrap64 (Int.tdiv (wrap64 (bt202.1 * 5)) 11)) < (y199.length : Int) then (some (rdOf ByteArray.empty y193 (wrap64 (Int.tdiv (wrap64 (bt196.1 * 5)) 11)), rdOf ByteArray.empty y199 (wrap64 (Int.tdiv (wrap64 (bt202.1 * 5)) 11)))) else (none)) else (none)))) else (none)) else (none))) = some (r1, r2) := by first | (rw [hy193]; with_reducible exact H) | (have H2_ := (Option.bind_some _ _).symm.trans H; rw [hy193]; with_reducible exact H2_) | (have H2_ := (Option.bind_some _ _).symm.trans H; with_reducible exact H2_) | with_reducible exact H | (rw [hy193]; exact H) | exact H
  have Ny193 := Aside0.mk hy193; clear hy193; replace H := Option.bind_eq_some_iff.mp H; obtain ⟨⟨t196, t197⟩, A30, H⟩ := H; replace H : (if 0 ≤ (wrap64 (Int.tdiv (wrap64 (t196 * 5)) 11)) then (if (wrap64 (Int.tdiv (wrap64 (t196 * 5)) 11)) < (y193.length : Int) then ((some (([(⟨#[120]⟩ : ByteArray), (⟨#[121]⟩ : ByteArray), (⟨#[97, 98]⟩ : ByteArray), (⟨#[]⟩ : ByteArray), (⟨#[116, 111, 111, 108, 111, 110, 103]⟩ : ByteArray)] : List ByteArray) : List ByteArray)).bind fun y199 => ((spec_l1Rd_pick.f k t190 t197 11).bind fun bt202 => (if 0 ≤ (wrap64 (Int.tdiv (wrap64 (bt202.1 * 5)) 11)) then (if (wrap64 (Int.tdiv (wrap64 (bt202.1 * 5)) 11)) < (y199.length : Int) then (some (rdOf ByteArray.empty y193 (wrap64 (Int.tdiv (wrap64 (t196 * 5)) 11)), rdOf ByteArray.empty y199 (wrap64 (Int.tdiv (wrap64 (bt202.1 * 5)) 11)))) else (none)) else (none)))) else (none)) else (none)) = some (r1, r2) := H; have A3 := Aside0.mk A30; clear A30; obtain ⟨ji4, hji4⟩ : ∃ j_ : Int, (wrap64 (Int.tdiv (wrap64 (t196 * 5)) 11)) = j_ := ⟨_, rfl⟩; replace H : (if 0 ≤ (ji4) then (if (ji4) < (y193.length : Int) then ((some (([(⟨#[120]⟩ : ByteArray), (⟨#[121]⟩ : ByteArray), (⟨#[97, 98]⟩ : ByteArray), (⟨#[]⟩ : ByteArray), (⟨#[116, 111, 111, 108, 111, 110, 103]⟩ : ByteArray)] : List ByteArray) : List ByteArray)).bind fun y199 => ((spec_l1Rd_pick.f k t190 t197 11).bind fun bt202 => (if 0 ≤ (wrap64 (Int.tdiv (wrap64 (bt202.1 * 5)) 11)) then (if (wrap64 (Int.tdiv (wrap64 (bt202.1 * 5)) 11)) < (y199.length : Int) then (some (rdOf ByteArray.empty y193 (ji4), rdOf ByteArray.empty y199 (wrap64 (Int.tdiv (wrap64 (bt202.1 * 5)) 11)))) else (none)) else (none)))) else (none)) else (none)) = some (r1, r2) := by first | (rw [hji4] at H; exact H) | (simp only [hji4] at H ⊢; exact H)
  (try rw [hji4] at A2)
  (try rw [hji4] at A3)
  have hji4w : (IntKind.i64.wrap (Int.tdiv (wrap64 (t196 * 5)) 11)) = ji4 := (i64_w _).trans hji4; by_cases c5 : 0 ≤ (ji4)
  · rw [if_pos c5] at H
    have c5b0 : decide (0 ≤ (ji4)) = true := decide_eq_true c5; clear c5; by_cases c6 : (ji4) < (y193.length : Int)
    · rw [if_pos c6] at H
      have c6b0 : decide ((ji4) < (y193.length : Int)) = true := decide_eq_true c6; clear c6; obtain ⟨y199, hy199⟩ : ∃ y_ : List ByteArray, y_ = (([(⟨#[120]⟩ : ByteArray), (⟨#[121]⟩ : ByteArray), (⟨#[97, 98]⟩ : ByteArray), (⟨#[]⟩ : ByteArray), (⟨#[116, 111, 111, 108, 111, 110, 103]⟩ : ByteArray)] : List ByteArray)) := ⟨_, rfl⟩; replace H : ((spec_l1Rd_pick.f k t190 t197 11).bind fun bt202 => (if 0 ≤ (wrap64 (Int.tdiv (wrap64 (bt202.1 * 5)) 11)) then (if (wrap64 (Int.tdiv (wrap64 (bt202.1 * 5)) 11)) < (y199.length : Int) then (some (rdOf ByteArray.empty y193 (ji4), rdOf ByteArray.empty y199 (wrap64 (Int.tdiv (wrap64 (bt202.1 * 5)) 11)))) else (none)) else (none))) = some (r1, r2) := by first | (rw [hy199]; with_reducible exact H) | (have H2_ := (Option.bind_some _ _).symm.trans H; rw [hy199]; with_reducible exact H2_) | (have H2_ := (Option.bind_some _ _).symm.trans H; with_reducible exact H2_) | with_reducible exact H | (rw [hy199]; exact H) | exact H
      have Ny199 := Aside0.mk hy199; clear hy199; replace H := Option.bind_eq_some_iff.mp H; obtain ⟨⟨t202, t203⟩, A70, H⟩ := H; replace H : (if 0 ≤ (wrap64 (Int.tdiv (wrap64 (t202 * 5)) 11)) then (if (wrap64 (Int.tdiv (wrap64 (t202 * 5)) 11)) < (y199.length : Int) then (some (rdOf ByteArray.empty y193 (ji4), rdOf ByteArray.empty y199 (wrap64 (Int.tdiv (wrap64 (t202 * 5)) 11)))) else (none)) else (none)) = some (r1, r2) := H; have A7 := Aside0.mk A70; clear A70; obtain ⟨ji8, hji8⟩ : ∃ j_ : Int, (wrap64 (Int.tdiv (wrap64 (t202 * 5)) 11)) = j_ := ⟨_, rfl⟩; replace H : (if 0 ≤ (ji8) then (if (ji8) < (y199.length : Int) then (some (rdOf ByteArray.empty y193 (ji4), rdOf ByteArray.empty y199 (ji8))) else (none)) else (none)) = some (r1, r2) := by first | (rw [hji8] at H; exact H) | (simp only [hji8] at H ⊢; exact H)
      (try rw [hji8] at A2)
      (try rw [hji8] at A3)
      (try rw [hji8] at A7)
      have hji8w : (IntKind.i64.wrap (Int.tdiv (wrap64 (t202 * 5)) 11)) = ji8 := (i64_w _).trans hji8; by_cases c9 : 0 ≤ (ji8)
      · rw [if_pos c9] at H
        have c9b0 : decide (0 ≤ (ji8)) = true := decide_eq_true c9; clear c9; by_cases c10 : (ji8) < (y199.length : Int)
        · rw [if_pos c10] at H
          have c10b0 : decide ((ji8) < (y199.length : Int)) = true := decide_eq_true c10; clear c10; simp only [Option.some.injEq, Prod.mk.injEq] at H; obtain ⟨rfl, rfl⟩ := H
          go_enter Tryd.func25, Tryd.ntmps25
          try go_wp2_with (first | ((with_reducible refine gate_callee (f := 48) rfl ?_); refine goesL_ (some 6) rfl rfl Tryd.func48 (by kernel_rfl) rfl #[.slice A0 l0.length c0] rfl (by (try simp only [List.map_toArray, List.map_cons, List.map_nil]); first | done | rfl | (simp only [List.length_drop, List.length_take]; rfl)) ?_; (with_reducible refine (spec_l1Open.calls _ _ l0 t190 t191 w _ ?side1 ?side2 ?side3 A2.out).mono ?_); (case side1 => repeat (first | (with_reducible first | exact HB.out | apply below_alloc | apply pw_below_drewN | apply below_drew1) | exact HB.out)); (case side2 => exact HR0.out); (case side3 => exact HC0.out); rintro e w11 ⟨g192, rfl, hi, hb, hb2⟩; refine ⟨_, rfl, ?_⟩; have n0_ := Aside0.mk (hb); have n1_ := Aside0.mk (hi); clear HB; have HB := n0_; have HI192 := n1_; clear n0_ n1_; (try clear hb); (try clear hb2); (try clear hk); (try clear hi)))
          have pi198 : (0 ≤ ((ji4) : Int)) = True := eq_true (of_decide_eq_true (by first | (with_reducible assumption) | assumption)); have qi198 : ((ji4) < (y193.length : Int)) = True := eq_true (of_decide_eq_true (by first | (with_reducible assumption) | assumption)); have pi204 : (0 ≤ ((ji8) : Int)) = True := eq_true (of_decide_eq_true (by first | (with_reducible assumption) | assumption)); have qi204 : ((ji8) < (y199.length : Int)) = True := eq_true (of_decide_eq_true (by first | (with_reducible assumption) | assumption)); have n0_ := Aside0.mk (IsS67.drew HI192.out); have n1_ := Aside0.mk (below_drew1 HB.out); clear HI192; clear HB; have HI192 := n0_; have HB := n1_; clear n0_ n1_; refine start_ (n := 16) (S := fun w' => True) (ds := []) #[false, false, false, false, false, false, false, false, false, false, false, false, false, false, false, false] (by kernel_rfl) rfl rfl trivial (fun hHeld => ?_); refine with_tabW spec_DrawThingKey.tab2 spec_DrawThingKey.bits2 (fun HT_ HW_ => ?_); generalize w11.drew = w12 at HI192 HB hHeld ⊢
          refine pure_ (i := 1) (N := some 8) (v := ?_) (a' := ?_) #[false, true, false, false, false, false, false, false, false, false, false, false, false, false, false, false] rfl rfl (any_of HT_.out (by kernel_rfl)) (fun _ _ _ h => h) (Or.inl ⟨by rfl, ?_⟩) ?_ ?_; rotate_left; (· intro w'; go_simp; with_reducible rfl); rotate_left; (· simp only [Act.put, List.setIfInBounds_toArray, List.set_cons_zero, List.set_cons_succ, i64_w, i32_w]; rfl); refine pure_ (i := 8) (N := some 15) (v := ?_) (a' := ?_) #[false, true, false, false, false, false, false, false, true, false, false, false, false, false, false, false] rfl rfl (any_of HT_.out (by kernel_rfl)) (fun _ _ _ h => h) (Or.inl ⟨by rfl, ?_⟩) ?_ ?_; rotate_left; (· intro w'; go_simp; with_reducible rfl); rotate_left; (· simp only [Act.put, List.setIfInBounds_toArray, List.set_cons_zero, List.set_cons_succ, i64_w, i32_w]; rfl); refine inv_at [0, 2, 3, 4, 5, 6, 7, 9, 10, 11, 12, 13, 14, 15] (fun a0_ b a w' => ∃ (v194 : Value) (adz_v194 : Addr) (v200 : Value) (adz_v200 : Addr) (m5_ : Value) (m12_ : Value), a = putSel a0_ b [(0, 7, v194), (2, 9, .int .i64 t196), (3, 10, .int .i64 (wrap64 (t196 * 5))), (4, 11, .int .i64 ji4), (5, 12, m5_), (6, 13, .string (rdOf ByteArray.empty y193 (ji4))), (7, 14, v200), (9, 16, .int .i64 t202), (10, 17, .int .i64 (wrap64 (t202 * 5))), (11, 18, .int .i64 ji8), (12, 19, m12_), (13, 20, .string (rdOf ByteArray.empty y199 (ji8))), (14, 2, .string (rdOf ByteArray.empty y193 (ji4))), (15, 3, .string (rdOf ByteArray.empty y199 (ji8)))] ∧ (b 2 = false → IsS67 w w' g192 t190 t191) ∧ (Below w.heap.size w w') ∧ (b 0 = true → Kd.R Kd.string 9 w' w.heap.size (fun _ => True) v194 y193) ∧ (b 0 = true → ∃ c_, (v194 : Value) = .slice (some adz_v194) y193.length c_) ∧ (b 2 = true → b 9 = false → IsS67 w w' g192 t190 t197) ∧ (b 7 = true → Kd.R Kd.string 9 w' w.heap.size (fun _ => True) v200 y199) ∧ (b 7 = true → ∃ c_, (v200 : Value) = .slice (some adz_v200) y199.length c_) ∧ (b 9 = true → IsS67 w w' g192 t190 t203) ∧ (b 5 = true → (m5_ : Value) = .pointer (some (adz_v194.add ((ji4)).toNat))) ∧ (b 12 = true → (m12_ : Value) = .pointer (some (adz_v200.add ((ji8)).toNat)))) HT_.out HW_.out (by kernel_rfl) (by kernel_rfl) ?_ ?_ ?_
          · exact ⟨.bool false, ⟨0, 0, none⟩, .bool false, ⟨0, 0, none⟩, .bool false, .bool false, by simp only [putSel, Bool.false_eq_true, if_false], fun _ => HI192.out, HB.out, fun h_ => absurd h_ (by decide), fun h_ => absurd h_ (by decide), fun h_ => absurd h_ (by decide), fun h_ => absurd h_ (by decide), fun h_ => absurd h_ (by decide), fun h_ => absurd h_ (by decide), fun h_ => absurd h_ (by decide), fun h_ => absurd h_ (by decide)⟩
          · skip
            clear HB HI192; refine steps_cons ?_ ?_
            · rintro b a w' ⟨v194, adz_v194, v200, adz_v200, m5_, m12_, ha, Q_HI192, Q_HB, Q_HO195, Q_HA_HO195, Q_HI192_e2, Q_HO201, Q_HA_HO201, Q_HI192_e9, Q_X5_, Q_X12_⟩ hb_ hon hoff
              refine ⟨_, rfl, fun K hK => ?_⟩; replace ha := Aside0.mk ha; have HB := Aside0.mk Q_HB; refine Kd.R_lit_step Kd.string _ 9 ?hg (N := 7) ?hd (xs := ([(⟨#[97]⟩ : ByteArray), (⟨#[97, 108, 108]⟩ : ByteArray), (⟨#[98]⟩ : ByteArray), (⟨#[]⟩ : ByteArray), (⟨#[65]⟩ : ByteArray)] : List ByteArray)) (inner := [.string (⟨#[97]⟩ : ByteArray), .string (⟨#[97, 108, 108]⟩ : ByteArray), .string (⟨#[98]⟩ : ByteArray), .string (⟨#[]⟩ : ByteArray), .string (⟨#[65]⟩ : ByteArray)]) (ok := fun _ => True) (okp := fun _ => True) ?hr ?hp (fun _ hk => hk) trivial (Below.refl _ _) (Nat.le_refl _) (by simp) ?_; (case hd => rfl); (case hg => rfl); (case hr => first | (go_simp; done) | (go_simp; rfl)); (case hp => exact (Reps.one (show Kd.M Kd.string _ _ _ (⟨#[97]⟩ : ByteArray) [.string (⟨#[97]⟩ : ByteArray)] from rfl) (Reps.one (show Kd.M Kd.string _ _ _ (⟨#[97, 108, 108]⟩ : ByteArray) [.string (⟨#[97, 108, 108]⟩ : ByteArray)] from rfl) (Reps.one (show Kd.M Kd.string _ _ _ (⟨#[98]⟩ : ByteArray) [.string (⟨#[98]⟩ : ByteArray)] from rfl) (Reps.one (show Kd.M Kd.string _ _ _ (⟨#[]⟩ : ByteArray) [.string (⟨#[]⟩ : ByteArray)] from rfl) (Reps.one (show Kd.M Kd.string _ _ _ (⟨#[65]⟩ : ByteArray) [.string (⟨#[65]⟩ : ByteArray)] from rfl) (Reps.none _ _))))))); intro v194 w13 ho14 hb hg_ hnew_; clear hg_ hnew_
              (first | rw [← Ny193.out] at ho14 | (simp only [Int.reduceToNat] at ho14; rw [← Ny193.out] at ho14))
              have n0_ := Aside0.mk (Kd.R_lower ho14 (below_size (by repeat (first | (with_reducible first | exact HB.out | apply below_alloc | apply pw_below_drewN | apply below_drew1) | exact HB.out)))); have n2_ := Aside0.mk (below_step (by repeat (first | (with_reducible first | exact HB.out | apply below_alloc | apply pw_below_drewN | apply below_drew1) | exact HB.out)) hb); have z_HI192 := fun (h0_ : b 2 = false) => (show IsS67 w w13 g192 t190 t191 from by first | exact (IsS67.below (by repeat (first | (with_reducible first | exact (Q_HI192 h0_) | apply IsS67.alloc | apply IsS67.drewN | apply IsS67.drew | apply IsS67.set_1) | exact (Q_HI192 h0_))) hb))
              have z_HI192_e2 := fun (h0_ : b 2 = true) (h1_ : b 9 = false) => (show IsS67 w w13 g192 t190 t197 from by first | exact (IsS67.below (by repeat (first | (with_reducible first | exact (Q_HI192_e2 h0_ h1_) | apply IsS67.alloc | apply IsS67.drewN | apply IsS67.drew | apply IsS67.set_1) | exact (Q_HI192_e2 h0_ h1_))) hb))
              have z_HO201 := fun (h0_ : b 7 = true) => (show Kd.R Kd.string 9 w13 w.heap.size (fun _ => True) v200 y199 from by first | exact (Kd.R_elder' (by (with_reducible repeat (first | apply Kd.R_alloc | apply Kd.R_drewN | apply Kd.R_drew)); exact (Q_HO201 h0_)) (Kd.R_base ho14) hb) | exact Kd.R_mono (Kd.R_elder' (by (with_reducible repeat (first | apply Kd.R_alloc | apply Kd.R_drewN | apply Kd.R_drew)); exact (Q_HO201 h0_)) (Kd.R_base ho14) hb) (fun _ h_ => by first | trivial | exact h_ | exact h_.1))
              have z_HI192_e9 := fun (h0_ : b 9 = true) => (show IsS67 w w13 g192 t190 t203 from by first | exact (IsS67.below (by repeat (first | (with_reducible first | exact (Q_HI192_e9 h0_) | apply IsS67.alloc | apply IsS67.drewN | apply IsS67.drew | apply IsS67.set_1) | exact (Q_HI192_e9 h0_))) hb))
              clear HB; have HO195 := n0_; have HB := n2_; clear n0_ n2_; clear hb ho14; obtain ⟨Ao15, co15, eo15⟩ := Kd.R_slice HO195.out; subst eo15; obtain ⟨ado15, fo15, _⟩ := Kd.at_string (Kd.R_reads' HO195.out).2.2 0 (by decide) (by rw [Ny193.out]; simp)
              cases fo15
              refine hK.out _ _ ⟨.slice (some ado15) y193.length co15, ado15, v200, adz_v200, m5_, m12_, (by rw [ha.out]; exact putSel_upk 0 hb_ rfl rfl rfl), z_HI192, (by repeat (first | (with_reducible first | exact HB.out | apply below_alloc | apply pw_below_drewN | apply below_drew1) | exact HB.out)), fun _ => (by (with_reducible repeat (first | apply Kd.R_alloc | apply Kd.R_drewN | apply Kd.R_drew)); exact HO195.out), fun _ => ⟨_, rfl⟩, z_HI192_e2, z_HO201, Q_HA_HO201, z_HI192_e9, fun h0_ => absurd ((hoff 5 (by kernel_rfl)).symm.trans h0_) (by decide), Q_X12_⟩
            refine steps_cons ?_ ?_
            · rintro b a w' ⟨v194, adz_v194, v200, adz_v200, m5_, m12_, ha, Q_HI192, Q_HB, Q_HO195, Q_HA_HO195, Q_HI192_e2, Q_HO201, Q_HA_HO201, Q_HI192_e9, Q_X5_, Q_X12_⟩ hb_ hon hoff
              refine ⟨_, rfl, fun K hK => ?_⟩; have e8 : a.tmps[8]? = some (.pointer (some ⟨g192, 0, none⟩)) := by rw [ha]; exact (putSel_off rfl).trans rfl
              replace ha := Aside0.mk ha; have HI192 := Aside0.mk (Q_HI192 hb_); have HB := Aside0.mk Q_HB; refine goes_ Tryd.func50 (by kernel_rfl) rfl #[.pointer (some ⟨g192, 0, none⟩), .int .i64 11] (by rfl) rfl rfl (by first | (simp only [List.map_toArray, List.map_cons, List.map_nil, Act.eval, Array.getD_eq_getD_getElem?, Option.getD_some, e8]; done) | (simp only [List.map_toArray, List.map_cons, List.map_nil, Act.eval, Array.getD_eq_getD_getElem?, Option.getD_some, e8]; rfl)) ?_; with_reducible refine (spec_l1Rd_pick.calls k g192 t190 t191 11 t196 t197 w _ ?side1 ?side2 A3.out).mono ?_
              (case side1 => repeat (first | (with_reducible first | exact HI192.out | apply IsS67.alloc | apply IsS67.drewN | apply IsS67.drew | apply IsS67.set_1) | exact HI192.out))
              (case side2 => repeat (first | (with_reducible first | exact HB.out | apply below_alloc | apply pw_below_drewN | apply below_drew1 | refine below_set ?_ (IsS67.ge HI192.out)) | exact HB.out))
              rintro e w13 ⟨rfl, hi, hb, hk⟩; refine ⟨_, rfl, ?_⟩; have n0_ := Aside0.mk (hb); have n1_ := Aside0.mk (hi); have z_HO195 := fun (h0_ : b 0 = true) => (show Kd.R Kd.string 9 w13 w.heap.size (fun _ => True) v194 y193 from by first | exact (Kd.R_mono (Kd.R_keep (IsS67.apart (show IsS67 w _ g192 t190 t191 from by repeat (first | (with_reducible first | exact HI192.out | apply IsS67.alloc | apply IsS67.drewN | apply IsS67.drew | apply IsS67.set_1) | exact HI192.out)) (by (with_reducible repeat (first | apply Kd.R_alloc | apply Kd.R_drewN | apply Kd.R_drew)); exact (Q_HO195 h0_)) (by decide)) hk (fun _ h => h.2)) (fun _ h => h.1)) | exact Kd.R_mono (Kd.R_mono (Kd.R_keep (IsS67.apart (show IsS67 w _ g192 t190 t191 from by repeat (first | (with_reducible first | exact HI192.out | apply IsS67.alloc | apply IsS67.drewN | apply IsS67.drew | apply IsS67.set_1) | exact HI192.out)) (by (with_reducible repeat (first | apply Kd.R_alloc | apply Kd.R_drewN | apply Kd.R_drew)); exact (Q_HO195 h0_)) (by decide)) hk (fun _ h => h.2)) (fun _ h => h.1)) (fun _ h_ => by first | trivial | exact h_ | exact h_.1))
              have z_HO201 := fun (h0_ : b 7 = true) => (show Kd.R Kd.string 9 w13 w.heap.size (fun _ => True) v200 y199 from by first | exact (Kd.R_mono (Kd.R_keep (IsS67.apart (show IsS67 w _ g192 t190 t191 from by repeat (first | (with_reducible first | exact HI192.out | apply IsS67.alloc | apply IsS67.drewN | apply IsS67.drew | apply IsS67.set_1) | exact HI192.out)) (by (with_reducible repeat (first | apply Kd.R_alloc | apply Kd.R_drewN | apply Kd.R_drew)); exact (Q_HO201 h0_)) (by decide)) hk (fun _ h => h.2)) (fun _ h => h.1)) | exact Kd.R_mono (Kd.R_mono (Kd.R_keep (IsS67.apart (show IsS67 w _ g192 t190 t191 from by repeat (first | (with_reducible first | exact HI192.out | apply IsS67.alloc | apply IsS67.drewN | apply IsS67.drew | apply IsS67.set_1) | exact HI192.out)) (by (with_reducible repeat (first | apply Kd.R_alloc | apply Kd.R_drewN | apply Kd.R_drew)); exact (Q_HO201 h0_)) (by decide)) hk (fun _ h => h.2)) (fun _ h => h.1)) (fun _ h_ => by first | trivial | exact h_ | exact h_.1))
              clear HB; clear HI192; have HB := n0_; have HI192 := n1_; clear n0_ n1_
              (try clear hb)
              (try clear hb2)
              (try clear hk)
              (try clear hi)
              refine hK.out _ _ ⟨v194, adz_v194, v200, adz_v200, m5_, m12_, (by rw [ha.out]; exact putSel_upk 1 hb_ rfl rfl rfl), fun h0_ => absurd ((up_self b 2).symm.trans h0_) (by decide), (by repeat (first | (with_reducible first | exact HB.out | apply below_alloc | apply pw_below_drewN | apply below_drew1 | refine below_set ?_ (IsS67.ge HI192.out)) | exact HB.out)), z_HO195, Q_HA_HO195, fun _ _ => (by repeat (first | (with_reducible first | exact HI192.out | apply IsS67.alloc | apply IsS67.drewN | apply IsS67.drew | apply IsS67.set_1) | exact HI192.out)), z_HO201, Q_HA_HO201, fun h0_ => absurd ((hoff 9 (by kernel_rfl)).symm.trans h0_) (by decide), fun h0_ => absurd ((hoff 5 (by kernel_rfl)).symm.trans h0_) (by decide), fun h0_ => absurd ((hoff 12 (by kernel_rfl)).symm.trans h0_) (by decide)⟩
            refine steps_cons ?_ ?_
            · rintro b a w' ⟨v194, adz_v194, v200, adz_v200, m5_, m12_, ha, Q_HI192, Q_HB, Q_HO195, Q_HA_HO195, Q_HI192_e2, Q_HO201, Q_HA_HO201, Q_HI192_e9, Q_X5_, Q_X12_⟩ hb_ hon hoff
              refine ⟨_, rfl, fun K hK => ?_⟩; have e9 : a.tmps[9]? = some (.int .i64 t196) := by rw [ha]; exact putSel_on (e := (2, 9, .int .i64 t196)) 1 rfl rfl (hon 2 (by kernel_rfl)) rfl
              replace ha := Aside0.mk ha; have HB := Aside0.mk Q_HB; refine value_ (w1 := w') (v := .int .i64 (wrap64 (t196 * 5))) (by rfl) rfl ?_ ?_
              · go_simp
                (try simp only [i64_w])
                try rfl
              refine hK.out _ _ ⟨v194, adz_v194, v200, adz_v200, m5_, m12_, (by rw [ha.out]; exact putSel_upk 2 hb_ rfl rfl rfl), fun h0_ => absurd ((hon 2 (by kernel_rfl)).symm.trans h0_) (by decide), Q_HB, Q_HO195, Q_HA_HO195, Q_HI192_e2, Q_HO201, Q_HA_HO201, Q_HI192_e9, fun h0_ => absurd ((hoff 5 (by kernel_rfl)).symm.trans h0_) (by decide), Q_X12_⟩
            refine steps_cons ?_ ?_
            · rintro b a w' ⟨v194, adz_v194, v200, adz_v200, m5_, m12_, ha, Q_HI192, Q_HB, Q_HO195, Q_HA_HO195, Q_HI192_e2, Q_HO201, Q_HA_HO201, Q_HI192_e9, Q_X5_, Q_X12_⟩ hb_ hon hoff
              refine ⟨_, rfl, fun K hK => ?_⟩; have e10 : a.tmps[10]? = some (.int .i64 (wrap64 (t196 * 5))) := by rw [ha]; exact putSel_on (e := (3, 10, .int .i64 (wrap64 (t196 * 5)))) 2 rfl rfl (hon 3 (by kernel_rfl)) rfl
              replace ha := Aside0.mk ha; have HB := Aside0.mk Q_HB; refine value_ (w1 := w') (v := .int .i64 ji4) (by rfl) rfl ?_ ?_
              · go_simp
                (try simp only [i64_w])
                try rfl
              refine hK.out _ _ ⟨v194, adz_v194, v200, adz_v200, m5_, m12_, (by rw [ha.out]; exact putSel_upk 3 hb_ rfl rfl rfl), fun h0_ => absurd ((hon 2 (by kernel_rfl)).symm.trans h0_) (by decide), Q_HB, Q_HO195, Q_HA_HO195, Q_HI192_e2, Q_HO201, Q_HA_HO201, Q_HI192_e9, fun h0_ => absurd ((hoff 5 (by kernel_rfl)).symm.trans h0_) (by decide), Q_X12_⟩
            refine steps_cons ?_ ?_
            · rintro b a w' ⟨v194, adz_v194, v200, adz_v200, m5_, m12_, ha, Q_HI192, Q_HB, Q_HO195, Q_HA_HO195, Q_HI192_e2, Q_HO201, Q_HA_HO201, Q_HI192_e9, Q_X5_, Q_X12_⟩ hb_ hon hoff
              refine ⟨_, rfl, fun K hK => ?_⟩; have e7 : a.tmps[7]? = some (v194) := by rw [ha]; exact putSel_on (e := (0, 7, v194)) 0 rfl rfl (hon 0 (by kernel_rfl)) rfl
              have e11 : a.tmps[11]? = some (.int .i64 ji4) := by rw [ha]; exact putSel_on (e := (4, 11, .int .i64 ji4)) 3 rfl rfl (hon 4 (by kernel_rfl)) rfl
              replace ha := Aside0.mk ha; have HB := Aside0.mk Q_HB; have HO195 := Aside0.mk (Q_HO195 (hon 0 (by kernel_rfl))); have HA_HO195 := Aside0.mk (Q_HA_HO195 (hon 0 (by kernel_rfl))); obtain ⟨c_, hv_⟩ := HA_HO195.out; rw [hv_] at e7; refine value_ (w1 := w') (v := .pointer (some (adz_v194.add ((ji4)).toNat))) (by rfl) rfl ?_ ?_
              · go_simp
                (try simp only [i64_w])
                try rfl
              refine hK.out _ _ ⟨v194, adz_v194, v200, adz_v200, (.pointer (some (adz_v194.add ((ji4)).toNat))), m12_, (by rw [ha.out]; exact putSel_upk 4 hb_ rfl rfl rfl), fun h0_ => absurd ((hon 2 (by kernel_rfl)).symm.trans h0_) (by decide), Q_HB, Q_HO195, Q_HA_HO195, Q_HI192_e2, Q_HO201, Q_HA_HO201, Q_HI192_e9, fun _ => rfl, Q_X12_⟩
            refine steps_cons ?_ ?_
            · rintro b a w' ⟨v194, adz_v194, v200, adz_v200, m5_, m12_, ha, Q_HI192, Q_HB, Q_HO195, Q_HA_HO195, Q_HI192_e2, Q_HO201, Q_HA_HO201, Q_HI192_e9, Q_X5_, Q_X12_⟩ hb_ hon hoff
              refine ⟨_, rfl, fun K hK => ?_⟩; have e12 : a.tmps[12]? = some (m5_) := by rw [ha]; exact putSel_on (e := (5, 12, m5_)) 4 rfl rfl (hon 5 (by kernel_rfl)) rfl
              rw [Q_X5_ (hon 5 (by kernel_rfl))] at e12; replace ha := Aside0.mk ha; have HB := Aside0.mk Q_HB; have HO195 := Aside0.mk (Q_HO195 (hon 0 (by kernel_rfl))); have HA_HO195 := Aside0.mk (Q_HA_HO195 (hon 0 (by kernel_rfl))); obtain ⟨c_, hv_⟩ := HA_HO195.out; have hF_ := HO195.out; rw [hv_] at hF_; obtain ⟨ad_, ea_, hx_⟩ := Kd.at_string (Kd.R_reads' hF_).2.2 (ji4) (of_eq_true pi198) (of_eq_true qi198)
              cases ea_
              refine value_ (w1 := w') (v := .string (rdOf ByteArray.empty y193 (ji4))) (by rfl) rfl ?_ ?_
              · go_simp
                (try simp only [i64_w])
                try rfl
              refine hK.out _ _ ⟨v194, adz_v194, v200, adz_v200, m5_, m12_, (by rw [ha.out]; exact putSel_upk 5 hb_ rfl rfl rfl), fun h0_ => absurd ((hon 2 (by kernel_rfl)).symm.trans h0_) (by decide), Q_HB, Q_HO195, Q_HA_HO195, Q_HI192_e2, Q_HO201, Q_HA_HO201, Q_HI192_e9, Q_X5_, Q_X12_⟩
            refine steps_cons ?_ ?_
            · rintro b a w' ⟨v194, adz_v194, v200, adz_v200, m5_, m12_, ha, Q_HI192, Q_HB, Q_HO195, Q_HA_HO195, Q_HI192_e2, Q_HO201, Q_HA_HO201, Q_HI192_e9, Q_X5_, Q_X12_⟩ hb_ hon hoff
              refine ⟨_, rfl, fun K hK => ?_⟩; replace ha := Aside0.mk ha; have HB := Aside0.mk Q_HB; refine Kd.R_lit_step Kd.string _ 9 ?hg (N := 14) ?hd (xs := ([(⟨#[120]⟩ : ByteArray), (⟨#[121]⟩ : ByteArray), (⟨#[97, 98]⟩ : ByteArray), (⟨#[]⟩ : ByteArray), (⟨#[116, 111, 111, 108, 111, 110, 103]⟩ : ByteArray)] : List ByteArray)) (inner := [.string (⟨#[120]⟩ : ByteArray), .string (⟨#[121]⟩ : ByteArray), .string (⟨#[97, 98]⟩ : ByteArray), .string (⟨#[]⟩ : ByteArray), .string (⟨#[116, 111, 111, 108, 111, 110, 103]⟩ : ByteArray)]) (ok := fun _ => True) (okp := fun _ => True) ?hr ?hp (fun _ hk => hk) trivial (Below.refl _ _) (Nat.le_refl _) (by simp) ?_; (case hd => rfl); (case hg => rfl); (case hr => first | (go_simp; done) | (go_simp; rfl)); (case hp => exact (Reps.one (show Kd.M Kd.string _ _ _ (⟨#[120]⟩ : ByteArray) [.string (⟨#[120]⟩ : ByteArray)] from rfl) (Reps.one (show Kd.M Kd.string _ _ _ (⟨#[121]⟩ : ByteArray) [.string (⟨#[121]⟩ : ByteArray)] from rfl) (Reps.one (show Kd.M Kd.string _ _ _ (⟨#[97, 98]⟩ : ByteArray) [.string (⟨#[97, 98]⟩ : ByteArray)] from rfl) (Reps.one (show Kd.M Kd.string _ _ _ (⟨#[]⟩ : ByteArray) [.string (⟨#[]⟩ : ByteArray)] from rfl) (Reps.one (show Kd.M Kd.string _ _ _ (⟨#[116, 111, 111, 108, 111, 110, 103]⟩ : ByteArray) [.string (⟨#[116, 111, 111, 108, 111, 110, 103]⟩ : ByteArray)] from rfl) (Reps.none _ _))))))); intro v200 w13 ho14 hb hg_ hnew_; clear hg_ hnew_
              (first | rw [← Ny199.out] at ho14 | (simp only [Int.reduceToNat] at ho14; rw [← Ny199.out] at ho14))
              have n0_ := Aside0.mk (Kd.R_lower ho14 (below_size (by repeat (first | (with_reducible first | exact HB.out | apply below_alloc | apply pw_below_drewN | apply below_drew1) | exact HB.out)))); have n2_ := Aside0.mk (below_step (by repeat (first | (with_reducible first | exact HB.out | apply below_alloc | apply pw_below_drewN | apply below_drew1) | exact HB.out)) hb); have z_HI192 := fun (h0_ : b 2 = false) => (show IsS67 w w13 g192 t190 t191 from by first | exact (IsS67.below (by repeat (first | (with_reducible first | exact (Q_HI192 h0_) | apply IsS67.alloc | apply IsS67.drewN | apply IsS67.drew | apply IsS67.set_1) | exact (Q_HI192 h0_))) hb))
              have z_HO195 := fun (h0_ : b 0 = true) => (show Kd.R Kd.string 9 w13 w.heap.size (fun _ => True) v194 y193 from by first | exact (Kd.R_elder' (by (with_reducible repeat (first | apply Kd.R_alloc | apply Kd.R_drewN | apply Kd.R_drew)); exact (Q_HO195 h0_)) (Kd.R_base ho14) hb) | exact Kd.R_mono (Kd.R_elder' (by (with_reducible repeat (first | apply Kd.R_alloc | apply Kd.R_drewN | apply Kd.R_drew)); exact (Q_HO195 h0_)) (Kd.R_base ho14) hb) (fun _ h_ => by first | trivial | exact h_ | exact h_.1))
              have z_HI192_e2 := fun (h0_ : b 2 = true) (h1_ : b 9 = false) => (show IsS67 w w13 g192 t190 t197 from by first | exact (IsS67.below (by repeat (first | (with_reducible first | exact (Q_HI192_e2 h0_ h1_) | apply IsS67.alloc | apply IsS67.drewN | apply IsS67.drew | apply IsS67.set_1) | exact (Q_HI192_e2 h0_ h1_))) hb))
              have z_HI192_e9 := fun (h0_ : b 9 = true) => (show IsS67 w w13 g192 t190 t203 from by first | exact (IsS67.below (by repeat (first | (with_reducible first | exact (Q_HI192_e9 h0_) | apply IsS67.alloc | apply IsS67.drewN | apply IsS67.drew | apply IsS67.set_1) | exact (Q_HI192_e9 h0_))) hb))
              clear HB; have HO201 := n0_; have HB := n2_; clear n0_ n2_; clear hb ho14; obtain ⟨Ao15, co15, eo15⟩ := Kd.R_slice HO201.out; subst eo15; obtain ⟨ado15, fo15, _⟩ := Kd.at_string (Kd.R_reads' HO201.out).2.2 0 (by decide) (by rw [Ny199.out]; simp)
              cases fo15
              refine hK.out _ _ ⟨v194, adz_v194, .slice (some ado15) y199.length co15, ado15, m5_, m12_, (by rw [ha.out]; exact putSel_upk 6 hb_ rfl rfl rfl), z_HI192, (by repeat (first | (with_reducible first | exact HB.out | apply below_alloc | apply pw_below_drewN | apply below_drew1) | exact HB.out)), z_HO195, Q_HA_HO195, z_HI192_e2, fun _ => (by (with_reducible repeat (first | apply Kd.R_alloc | apply Kd.R_drewN | apply Kd.R_drew)); exact HO201.out), fun _ => ⟨_, rfl⟩, z_HI192_e9, Q_X5_, fun h0_ => absurd ((hoff 12 (by kernel_rfl)).symm.trans h0_) (by decide)⟩
            refine steps_cons ?_ ?_
            · rintro b a w' ⟨v194, adz_v194, v200, adz_v200, m5_, m12_, ha, Q_HI192, Q_HB, Q_HO195, Q_HA_HO195, Q_HI192_e2, Q_HO201, Q_HA_HO201, Q_HI192_e9, Q_X5_, Q_X12_⟩ hb_ hon hoff
              refine ⟨_, rfl, fun K hK => ?_⟩; have e15 : a.tmps[15]? = some (.pointer (some ⟨g192, 0, none⟩)) := by rw [ha]; exact (putSel_off rfl).trans rfl
              replace ha := Aside0.mk ha; have HB := Aside0.mk Q_HB; have HI192 := Aside0.mk (Q_HI192_e2 (hon 2 (by kernel_rfl)) hb_); refine goes_ Tryd.func50 (by kernel_rfl) rfl #[.pointer (some ⟨g192, 0, none⟩), .int .i64 11] (by rfl) rfl rfl (by first | (simp only [List.map_toArray, List.map_cons, List.map_nil, Act.eval, Array.getD_eq_getD_getElem?, Option.getD_some, e15]; done) | (simp only [List.map_toArray, List.map_cons, List.map_nil, Act.eval, Array.getD_eq_getD_getElem?, Option.getD_some, e15]; rfl)) ?_; with_reducible refine (spec_l1Rd_pick.calls k g192 t190 t197 11 t202 t203 w _ ?side1 ?side2 A7.out).mono ?_
              (case side1 => repeat (first | (with_reducible first | exact HI192.out | apply IsS67.alloc | apply IsS67.drewN | apply IsS67.drew | apply IsS67.set_1) | exact HI192.out))
              (case side2 => repeat (first | (with_reducible first | exact HB.out | apply below_alloc | apply pw_below_drewN | apply below_drew1 | refine below_set ?_ (IsS67.ge HI192.out)) | exact HB.out))
              rintro e w15 ⟨rfl, hi, hb, hk⟩; refine ⟨_, rfl, ?_⟩; have n0_ := Aside0.mk (hb); have n1_ := Aside0.mk (hi); have z_HO195 := fun (h0_ : b 0 = true) => (show Kd.R Kd.string 9 w15 w.heap.size (fun _ => True) v194 y193 from by first | exact (Kd.R_mono (Kd.R_keep (IsS67.apart (show IsS67 w _ g192 t190 t197 from by repeat (first | (with_reducible first | exact HI192.out | apply IsS67.alloc | apply IsS67.drewN | apply IsS67.drew | apply IsS67.set_1) | exact HI192.out)) (by (with_reducible repeat (first | apply Kd.R_alloc | apply Kd.R_drewN | apply Kd.R_drew)); exact (Q_HO195 h0_)) (by decide)) hk (fun _ h => h.2)) (fun _ h => h.1)) | exact Kd.R_mono (Kd.R_mono (Kd.R_keep (IsS67.apart (show IsS67 w _ g192 t190 t197 from by repeat (first | (with_reducible first | exact HI192.out | apply IsS67.alloc | apply IsS67.drewN | apply IsS67.drew | apply IsS67.set_1) | exact HI192.out)) (by (with_reducible repeat (first | apply Kd.R_alloc | apply Kd.R_drewN | apply Kd.R_drew)); exact (Q_HO195 h0_)) (by decide)) hk (fun _ h => h.2)) (fun _ h => h.1)) (fun _ h_ => by first | trivial | exact h_ | exact h_.1))
              have z_HO201 := fun (h0_ : b 7 = true) => (show Kd.R Kd.string 9 w15 w.heap.size (fun _ => True) v200 y199 from by first | exact (Kd.R_mono (Kd.R_keep (IsS67.apart (show IsS67 w _ g192 t190 t197 from by repeat (first | (with_reducible first | exact HI192.out | apply IsS67.alloc | apply IsS67.drewN | apply IsS67.drew | apply IsS67.set_1) | exact HI192.out)) (by (with_reducible repeat (first | apply Kd.R_alloc | apply Kd.R_drewN | apply Kd.R_drew)); exact (Q_HO201 h0_)) (by decide)) hk (fun _ h => h.2)) (fun _ h => h.1)) | exact Kd.R_mono (Kd.R_mono (Kd.R_keep (IsS67.apart (show IsS67 w _ g192 t190 t197 from by repeat (first | (with_reducible first | exact HI192.out | apply IsS67.alloc | apply IsS67.drewN | apply IsS67.drew | apply IsS67.set_1) | exact HI192.out)) (by (with_reducible repeat (first | apply Kd.R_alloc | apply Kd.R_drewN | apply Kd.R_drew)); exact (Q_HO201 h0_)) (by decide)) hk (fun _ h => h.2)) (fun _ h => h.1)) (fun _ h_ => by first | trivial | exact h_ | exact h_.1))
              clear HB; clear HI192; have HB := n0_; have HI192 := n1_; clear n0_ n1_
              (try clear hb)
              (try clear hb2)
              (try clear hk)
              (try clear hi)
              refine hK.out _ _ ⟨v194, adz_v194, v200, adz_v200, m5_, m12_, (by rw [ha.out]; exact putSel_upk 7 hb_ rfl rfl rfl), fun h0_ => absurd ((hon 2 (by kernel_rfl)).symm.trans h0_) (by decide), (by repeat (first | (with_reducible first | exact HB.out | apply below_alloc | apply pw_below_drewN | apply below_drew1 | refine below_set ?_ (IsS67.ge HI192.out)) | exact HB.out)), z_HO195, Q_HA_HO195, fun _ h1_ => absurd ((up_self b 9).symm.trans h1_) (by decide), z_HO201, Q_HA_HO201, fun _ => (by repeat (first | (with_reducible first | exact HI192.out | apply IsS67.alloc | apply IsS67.drewN | apply IsS67.drew | apply IsS67.set_1) | exact HI192.out)), Q_X5_, fun h0_ => absurd ((hoff 12 (by kernel_rfl)).symm.trans h0_) (by decide)⟩
            refine steps_cons ?_ ?_
            · rintro b a w' ⟨v194, adz_v194, v200, adz_v200, m5_, m12_, ha, Q_HI192, Q_HB, Q_HO195, Q_HA_HO195, Q_HI192_e2, Q_HO201, Q_HA_HO201, Q_HI192_e9, Q_X5_, Q_X12_⟩ hb_ hon hoff
              refine ⟨_, rfl, fun K hK => ?_⟩; have e16 : a.tmps[16]? = some (.int .i64 t202) := by rw [ha]; exact putSel_on (e := (9, 16, .int .i64 t202)) 7 rfl rfl (hon 9 (by kernel_rfl)) rfl
              replace ha := Aside0.mk ha; have HB := Aside0.mk Q_HB; have HI192 := Aside0.mk (Q_HI192_e9 (hon 9 (by kernel_rfl))); refine value_ (w1 := w') (v := .int .i64 (wrap64 (t202 * 5))) (by rfl) rfl ?_ ?_
              · go_simp
                (try simp only [i64_w])
                try rfl
              refine hK.out _ _ ⟨v194, adz_v194, v200, adz_v200, m5_, m12_, (by rw [ha.out]; exact putSel_upk 8 hb_ rfl rfl rfl), fun h0_ => absurd ((hon 2 (by kernel_rfl)).symm.trans h0_) (by decide), Q_HB, Q_HO195, Q_HA_HO195, fun _ h1_ => absurd ((hon 9 (by kernel_rfl)).symm.trans h1_) (by decide), Q_HO201, Q_HA_HO201, Q_HI192_e9, Q_X5_, fun h0_ => absurd ((hoff 12 (by kernel_rfl)).symm.trans h0_) (by decide)⟩
            refine steps_cons ?_ ?_
            · rintro b a w' ⟨v194, adz_v194, v200, adz_v200, m5_, m12_, ha, Q_HI192, Q_HB, Q_HO195, Q_HA_HO195, Q_HI192_e2, Q_HO201, Q_HA_HO201, Q_HI192_e9, Q_X5_, Q_X12_⟩ hb_ hon hoff
              refine ⟨_, rfl, fun K hK => ?_⟩; have e17 : a.tmps[17]? = some (.int .i64 (wrap64 (t202 * 5))) := by rw [ha]; exact putSel_on (e := (10, 17, .int .i64 (wrap64 (t202 * 5)))) 8 rfl rfl (hon 10 (by kernel_rfl)) rfl
              replace ha := Aside0.mk ha; have HB := Aside0.mk Q_HB; have HI192 := Aside0.mk (Q_HI192_e9 (hon 9 (by kernel_rfl))); refine value_ (w1 := w') (v := .int .i64 ji8) (by rfl) rfl ?_ ?_
              · go_simp
                (try simp only [i64_w])
                try rfl
              refine hK.out _ _ ⟨v194, adz_v194, v200, adz_v200, m5_, m12_, (by rw [ha.out]; exact putSel_upk 9 hb_ rfl rfl rfl), fun h0_ => absurd ((hon 2 (by kernel_rfl)).symm.trans h0_) (by decide), Q_HB, Q_HO195, Q_HA_HO195, fun _ h1_ => absurd ((hon 9 (by kernel_rfl)).symm.trans h1_) (by decide), Q_HO201, Q_HA_HO201, Q_HI192_e9, Q_X5_, fun h0_ => absurd ((hoff 12 (by kernel_rfl)).symm.trans h0_) (by decide)⟩
            refine steps_cons ?_ ?_
            · rintro b a w' ⟨v194, adz_v194, v200, adz_v200, m5_, m12_, ha, Q_HI192, Q_HB, Q_HO195, Q_HA_HO195, Q_HI192_e2, Q_HO201, Q_HA_HO201, Q_HI192_e9, Q_X5_, Q_X12_⟩ hb_ hon hoff
              refine ⟨_, rfl, fun K hK => ?_⟩; have e14 : a.tmps[14]? = some (v200) := by rw [ha]; exact putSel_on (e := (7, 14, v200)) 6 rfl rfl (hon 7 (by kernel_rfl)) rfl
              have e18 : a.tmps[18]? = some (.int .i64 ji8) := by rw [ha]; exact putSel_on (e := (11, 18, .int .i64 ji8)) 9 rfl rfl (hon 11 (by kernel_rfl)) rfl
              replace ha := Aside0.mk ha; have HB := Aside0.mk Q_HB; have HO201 := Aside0.mk (Q_HO201 (hon 7 (by kernel_rfl))); have HA_HO201 := Aside0.mk (Q_HA_HO201 (hon 7 (by kernel_rfl))); have HI192 := Aside0.mk (Q_HI192_e9 (hon 9 (by kernel_rfl))); obtain ⟨c_, hv_⟩ := HA_HO201.out; rw [hv_] at e14; refine value_ (w1 := w') (v := .pointer (some (adz_v200.add ((ji8)).toNat))) (by rfl) rfl ?_ ?_
              · go_simp
                (try simp only [i64_w])
                try rfl
              refine hK.out _ _ ⟨v194, adz_v194, v200, adz_v200, m5_, (.pointer (some (adz_v200.add ((ji8)).toNat))), (by rw [ha.out]; exact putSel_upk 10 hb_ rfl rfl rfl), fun h0_ => absurd ((hon 2 (by kernel_rfl)).symm.trans h0_) (by decide), Q_HB, Q_HO195, Q_HA_HO195, fun _ h1_ => absurd ((hon 9 (by kernel_rfl)).symm.trans h1_) (by decide), Q_HO201, Q_HA_HO201, Q_HI192_e9, Q_X5_, fun _ => rfl⟩
            refine steps_cons ?_ ?_
            · rintro b a w' ⟨v194, adz_v194, v200, adz_v200, m5_, m12_, ha, Q_HI192, Q_HB, Q_HO195, Q_HA_HO195, Q_HI192_e2, Q_HO201, Q_HA_HO201, Q_HI192_e9, Q_X5_, Q_X12_⟩ hb_ hon hoff
              refine ⟨_, rfl, fun K hK => ?_⟩; have e19 : a.tmps[19]? = some (m12_) := by rw [ha]; exact putSel_on (e := (12, 19, m12_)) 10 rfl rfl (hon 12 (by kernel_rfl)) rfl
              rw [Q_X12_ (hon 12 (by kernel_rfl))] at e19; replace ha := Aside0.mk ha; have HB := Aside0.mk Q_HB; have HO201 := Aside0.mk (Q_HO201 (hon 7 (by kernel_rfl))); have HA_HO201 := Aside0.mk (Q_HA_HO201 (hon 7 (by kernel_rfl))); have HI192 := Aside0.mk (Q_HI192_e9 (hon 9 (by kernel_rfl))); obtain ⟨c_, hv_⟩ := HA_HO201.out; have hF_ := HO201.out; rw [hv_] at hF_; obtain ⟨ad_, ea_, hx_⟩ := Kd.at_string (Kd.R_reads' hF_).2.2 (ji8) (of_eq_true pi204) (of_eq_true qi204)
              cases ea_
              refine value_ (w1 := w') (v := .string (rdOf ByteArray.empty y199 (ji8))) (by rfl) rfl ?_ ?_
              · go_simp
                (try simp only [i64_w])
                try rfl
              refine hK.out _ _ ⟨v194, adz_v194, v200, adz_v200, m5_, m12_, (by rw [ha.out]; exact putSel_upk 11 hb_ rfl rfl rfl), fun h0_ => absurd ((hon 2 (by kernel_rfl)).symm.trans h0_) (by decide), Q_HB, Q_HO195, Q_HA_HO195, fun _ h1_ => absurd ((hon 9 (by kernel_rfl)).symm.trans h1_) (by decide), Q_HO201, Q_HA_HO201, Q_HI192_e9, Q_X5_, Q_X12_⟩
            refine steps_cons ?_ ?_
            · rintro b a w' ⟨v194, adz_v194, v200, adz_v200, m5_, m12_, ha, Q_HI192, Q_HB, Q_HO195, Q_HA_HO195, Q_HI192_e2, Q_HO201, Q_HA_HO201, Q_HI192_e9, Q_X5_, Q_X12_⟩ hb_ hon hoff
              refine ⟨_, rfl, fun K hK => ?_⟩; have e13 : a.tmps[13]? = some (.string (rdOf ByteArray.empty y193 (ji4))) := by rw [ha]; exact putSel_on (e := (6, 13, .string (rdOf ByteArray.empty y193 (ji4)))) 5 rfl rfl (hon 6 (by kernel_rfl)) rfl
              replace ha := Aside0.mk ha; have HB := Aside0.mk Q_HB; have HO195 := Aside0.mk (Q_HO195 (hon 0 (by kernel_rfl))); have HA_HO195 := Aside0.mk (Q_HA_HO195 (hon 0 (by kernel_rfl))); have HI192 := Aside0.mk (Q_HI192_e9 (hon 9 (by kernel_rfl))); refine value_ (w1 := w') (v := .string (rdOf ByteArray.empty y193 (ji4))) (by rfl) rfl ?_ ?_
              · go_simp
                (try simp only [i64_w])
                try rfl
              refine hK.out _ _ ⟨v194, adz_v194, v200, adz_v200, m5_, m12_, (by rw [ha.out]; exact putSel_upk 12 hb_ rfl rfl rfl), fun h0_ => absurd ((hon 2 (by kernel_rfl)).symm.trans h0_) (by decide), Q_HB, Q_HO195, Q_HA_HO195, fun _ h1_ => absurd ((hon 9 (by kernel_rfl)).symm.trans h1_) (by decide), Q_HO201, Q_HA_HO201, Q_HI192_e9, Q_X5_, Q_X12_⟩
            refine steps_cons ?_ ?_
            · rintro b a w' ⟨v194, adz_v194, v200, adz_v200, m5_, m12_, ha, Q_HI192, Q_HB, Q_HO195, Q_HA_HO195, Q_HI192_e2, Q_HO201, Q_HA_HO201, Q_HI192_e9, Q_X5_, Q_X12_⟩ hb_ hon hoff
              refine ⟨_, rfl, fun K hK => ?_⟩; have e20 : a.tmps[20]? = some (.string (rdOf ByteArray.empty y199 (ji8))) := by rw [ha]; exact putSel_on (e := (13, 20, .string (rdOf ByteArray.empty y199 (ji8)))) 11 rfl rfl (hon 13 (by kernel_rfl)) rfl
              replace ha := Aside0.mk ha; have HB := Aside0.mk Q_HB; have HO195 := Aside0.mk (Q_HO195 (hon 0 (by kernel_rfl))); have HA_HO195 := Aside0.mk (Q_HA_HO195 (hon 0 (by kernel_rfl))); have HO201 := Aside0.mk (Q_HO201 (hon 7 (by kernel_rfl))); have HA_HO201 := Aside0.mk (Q_HA_HO201 (hon 7 (by kernel_rfl))); have HI192 := Aside0.mk (Q_HI192_e9 (hon 9 (by kernel_rfl))); refine value_ (w1 := w') (v := .string (rdOf ByteArray.empty y199 (ji8))) (by rfl) rfl ?_ ?_
              · go_simp
                (try simp only [i64_w])
                try rfl
              refine hK.out _ _ ⟨v194, adz_v194, v200, adz_v200, m5_, m12_, (by rw [ha.out]; exact putSel_upk 13 hb_ rfl rfl rfl), fun h0_ => absurd ((hon 2 (by kernel_rfl)).symm.trans h0_) (by decide), Q_HB, Q_HO195, Q_HA_HO195, fun _ h1_ => absurd ((hon 9 (by kernel_rfl)).symm.trans h1_) (by decide), Q_HO201, Q_HA_HO201, Q_HI192_e9, Q_X5_, Q_X12_⟩
            exact steps_nil
          rintro b a w21 hall ⟨v194, adz_v194, v200, adz_v200, m5_, m12_, ha, Q_HI192, Q_HB, Q_HO195, Q_HA_HO195, Q_HI192_e2, Q_HO201, Q_HA_HO201, Q_HI192_e9, Q_X5_, Q_X12_⟩; clear HB HI192; have hb0_ := hall 0 (by kernel_rfl); have hb2_ := hall 2 (by kernel_rfl); have hb3_ := hall 3 (by kernel_rfl); have hb4_ := hall 4 (by kernel_rfl); have hb5_ := hall 5 (by kernel_rfl); have hb6_ := hall 6 (by kernel_rfl); have hb7_ := hall 7 (by kernel_rfl); have hb9_ := hall 9 (by kernel_rfl); have hb10_ := hall 10 (by kernel_rfl); have hb11_ := hall 11 (by kernel_rfl); have hb12_ := hall 12 (by kernel_rfl); have hb13_ := hall 13 (by kernel_rfl); have hb14_ := hall 14 (by kernel_rfl); have hb15_ := hall 15 (by kernel_rfl); subst ha; obtain rfl := Q_X5_ hb5_; obtain rfl := Q_X12_ hb12_; simp only [putSel, hb0_, hb2_, hb3_, hb4_, hb5_, hb6_, hb7_, hb9_, hb10_, hb11_, hb12_, hb13_, hb14_, hb15_, if_true, Act.put, List.setIfInBounds_toArray, List.set_cons_zero, List.set_cons_succ]; clear Q_HI192; have HB := Aside0.mk Q_HB; clear Q_HB; have HO195 := Aside0.mk (Q_HO195 hb0_); clear Q_HO195; have HA_HO195 := Aside0.mk (Q_HA_HO195 hb0_); clear Q_HA_HO195; clear Q_HI192_e2; have HO201 := Aside0.mk (Q_HO201 hb7_); clear Q_HO201; have HA_HO201 := Aside0.mk (Q_HA_HO201 hb7_); clear Q_HA_HO201; have HI192 := Aside0.mk (Q_HI192_e9 hb9_); clear Q_HI192_e9; clear hall hb0_ hb2_ hb3_ hb4_ hb5_ hb6_ hb7_ hb9_ hb10_ hb11_ hb12_ hb13_ hb14_ hb15_; obtain ⟨co22, eo22⟩ := HA_HO195.out; clear HA_HO195; subst eo22; obtain ⟨co23, eo23⟩ := HA_HO201.out; clear HA_HO201; subst eo23
          try go_wp2
          go_ret2
          exact ⟨by first | rfl | (simp [errW_none, errW_some] <;> rfl) | (simp only [← hji4, ← hji8]; first | rfl | (simp [errW_none, errW_some] <;> rfl)) | (simp [*, errW_none, errW_some] <;> rfl), by repeat (first | (with_reducible first | exact HB.out | apply below_alloc | apply pw_below_drewN | apply below_drew1 | refine below_set ?_ (IsS67.ge HI192.out)) | exact HB.out)⟩
        · rw [if_neg c10] at H
          exact absurd H (by simp)
      · rw [if_neg c9] at H
        exact absurd H (by simp)
    · rw [if_neg c6] at H
      exact absurd H (by simp)
  · rw [if_neg c5] at H
    exact absurd H (by simp)
end Go.Proofs.YtgkgkpoeiojmeaaDoor.P
namespace Go.Proofs.YtgkgkpoeiojmeaaDoor.P
open Go.RowKit Go.Proofs.YtgkgkpoeiojmeaaDoorW.PrintWords Go.Proofs.YtgkgkpoeiojmeaaDoorW.PrintLast Go.Proofs.YtgkgkpoeiojmeaaDoorW.PrintMore
attribute [local go_sem] max2_int min2_int max_two min_two max_three min_three max_four min_four   -- for this text's walks alone
set_option linter.unusedVariables false
set_option linter.unusedSimpArgs false
def laws_FnThingKey.j0 : Nat → List Int → List Int → Bool → Option (Bool)
  | 0, _, _, _ => none
  | k + 1, x0, x1, x18 => if x18 = true then (some true) else ((spec_DrawThingKey.f k x0).bind fun bt205 => ((spec_DrawThingKey.f k x1).bind fun bt207 => ((impl_ThingKey.f bt205.1 bt205.2).bind fun t209 => ((impl_ThingKey.f bt207.1 bt207.2).bind fun t210 => ((spec_ThingKey.f k bt205.1 bt205.2).bind fun t211 => (if t209.toList = t211.toList then ((impl_NameOk.f bt205.1).bind fun t212 => (if t212 = true then ((impl_NameOk.f bt205.2).bind fun t213 => (if ((t209.toList == ([] : List UInt8)) == (!t213)) = true then (if t209.toList = t210.toList then (if t209.toList = ([] : List UInt8) then (some true) else (if bt205.1.toList = bt207.1.toList then (some (bt205.2.toList == bt207.2.toList)) else (some false))) else (some true)) else (some false))) else (if ((t209.toList == ([] : List UInt8)) == (!false)) = true then (if t209.toList = t210.toList then (if t209.toList = ([] : List UInt8) then (some true) else (if bt205.1.toList = bt207.1.toList then (some (bt205.2.toList == bt207.2.toList)) else (some false))) else (some true)) else (some false)))) else (some false)))))))
def laws_FnThingKey.f (k : Nat) (l0 : List Int) (l1 : List Int) : Option (Bool) := if (l0.length : Int) > 1048576 then (laws_FnThingKey.j0 k l0 l1 true) else (laws_FnThingKey.j0 k l0 l1 (decide ((l1.length : Int) > 1048576)))
set_option maxHeartbeats 8000000 in
set_option maxRecDepth 100000 in
theorem laws_FnThingKey.calls (k : Nat) (A0 : Option Addr) (c0 : Nat) (l0 : List Int) (A1 : Option Addr) (c1 : Nat) (l1 : List Int) (r : Bool) (w : World) (hr0 : Kd.C (Kd.int .u8) w A0 l0.length l0) (hc0 : l0.length ≤ c0) (hr1 : Kd.C (Kd.int .u8) w A1 l1.length l1) (hc1 : l1.length ≤ c1) (HTru_ : Aside0 (r = true)) (h : laws_FnThingKey.f k l0 l1 = some r) :
    Calls Tryd.prog 7 #[.slice A0 l0.length c0, .slice A1 l1.length c1] w fun e w' => e = .returned (.bool r) ∧ Below w.heap.size w w' := by
  have HR0 := Aside0.mk hr0; have HC0 := Aside0.mk hc0; clear hr0 hc0; have HR1 := Aside0.mk hr1; have HC1 := Aside0.mk hc1; clear hr1 hc1; have HB := Aside0.mk (Below.refl w.heap.size w); have H : (if (l0.length : Int) > 1048576 then (laws_FnThingKey.j0 k l0 l1 true) else (laws_FnThingKey.j0 k l0 l1 (decide ((l1.length : Int) > 1048576)))) = some r := h; clear h; have HC3 := Aside0.mk H; clear H
  go_enter Tryd.func7, Tryd.ntmps7
  go_upto_region 1 with (fail)
  go_cut [18] (fun v18 wc => ∃ (kq : Nat) (x18_2 : Bool), v18 = .bool x18_2 ∧ Aside0 (laws_FnThingKey.j0 kq l0 l1 x18_2 = some r) ∧ Aside0 (kq ≤ k) ∧ Aside0 (Below w.heap.size w wc))
  case first =>
    have H := HC3.out; clear HC3; by_cases c4 : (l0.length : Int) > 1048576
    · rw [if_pos c4] at H
      have c4b0 : decide (1048576 < (l0.length : Int)) = true := decide_eq_true c4; have c4b1 : decide (1048576 < l0.length) = true := decide_eq_true (by omega); clear c4
      (first | rw [c4b0] | (simp only [i64_w, i32_w]; rw [c4b0]) | skip)
      have H' := Aside0.mk H; clear H
      go_wp2
      go_meet
      case rel => exact ⟨_, (true), (by first | rfl | (simp; done) | (simp [*]; done)), H', ⟨by first | omega | exact Nat.le_refl _⟩, ⟨by repeat (first | (with_reducible first | exact HB.out | apply below_alloc | apply pw_below_drewN | apply below_drew1) | exact HB.out)⟩⟩
    · rw [if_neg c4] at H
      have c4b0 : decide (1048576 < (l0.length : Int)) = false := decide_eq_false c4; have c4b1 : decide (1048576 < l0.length) = false := decide_eq_false (by omega); clear c4
      (first | rw [c4b0] | (simp only [i64_w, i32_w]; rw [c4b0]) | skip)
      have H' := Aside0.mk H; clear H
      go_wp2
      go_meet
      case rel => exact ⟨_, (decide ((l1.length : Int) > 1048576)), (by first | rfl | (simp; done) | (simp [*]; done)), H', ⟨by first | omega | exact Nat.le_refl _⟩, ⟨by repeat (first | (with_reducible first | exact HB.out | apply below_alloc | apply pw_below_drewN | apply below_drew1) | exact HB.out)⟩⟩
  case rest =>
    clear HC3
    try clear c1
    try clear p2
    try clear c4
    try clear c4b0
    try clear c4b1
    obtain ⟨kq, x18_2, rfl, HA, HJ2, HB⟩ := hcut
    cases kq with
    | zero => exact absurd HA.out (by simp [laws_FnThingKey.j0])
    | succ kj2 =>
      have H := HA.out; clear HA; simp only [laws_FnThingKey.j0] at H; by_cases c5 : x18_2 = true
      · subst c5
        have H1 : (some true) = some r := by rw [if_pos rfl] at H; exact H
        clear H; have H := H1; clear H1; obtain rfl := Option.some.inj H
        go_wp2
        all_goals (go_ret; exact ⟨by first | rfl | (simp [errW_none, errW_some] <;> rfl) | (simp [*, errW_none, errW_some] <;> rfl), by repeat (first | (with_reducible first | exact HB.out | apply below_alloc | apply pw_below_drewN | apply below_drew1) | exact HB.out)⟩)
      · replace c5 := Bool.eq_false_iff.mpr c5
        subst c5; have H1 : ((spec_DrawThingKey.f kj2 l0).bind fun bt205 => ((spec_DrawThingKey.f kj2 l1).bind fun bt207 => ((impl_ThingKey.f bt205.1 bt205.2).bind fun t209 => ((impl_ThingKey.f bt207.1 bt207.2).bind fun t210 => ((spec_ThingKey.f kj2 bt205.1 bt205.2).bind fun t211 => (if t209.toList = t211.toList then ((impl_NameOk.f bt205.1).bind fun t212 => (if t212 = true then ((impl_NameOk.f bt205.2).bind fun t213 => (if ((t209.toList == ([] : List UInt8)) == (!t213)) = true then (if t209.toList = t210.toList then (if t209.toList = ([] : List UInt8) then (some true) else (if bt205.1.toList = bt207.1.toList then (some (bt205.2.toList == bt207.2.toList)) else (some false))) else (some true)) else (some false))) else (if ((t209.toList == ([] : List UInt8)) == (!false)) = true then (if t209.toList = t210.toList then (if t209.toList = ([] : List UInt8) then (some true) else (if bt205.1.toList = bt207.1.toList then (some (bt205.2.toList == bt207.2.toList)) else (some false))) else (some true)) else (some false)))) else (some false))))))) = some r := by rw [if_neg (show ¬ (false = true) by decide)] at H; exact H
        clear H; have H := H1; clear H1; replace H := Option.bind_eq_some_iff.mp H; obtain ⟨⟨t205, t206⟩, A60, H⟩ := H; replace H : ((spec_DrawThingKey.f kj2 l1).bind fun bt207 => ((impl_ThingKey.f t205 t206).bind fun t209 => ((impl_ThingKey.f bt207.1 bt207.2).bind fun t210 => ((spec_ThingKey.f kj2 t205 t206).bind fun t211 => (if t209.toList = t211.toList then ((impl_NameOk.f t205).bind fun t212 => (if t212 = true then ((impl_NameOk.f t206).bind fun t213 => (if ((t209.toList == ([] : List UInt8)) == (!t213)) = true then (if t209.toList = t210.toList then (if t209.toList = ([] : List UInt8) then (some true) else (if t205.toList = bt207.1.toList then (some (t206.toList == bt207.2.toList)) else (some false))) else (some true)) else (some false))) else (if ((t209.toList == ([] : List UInt8)) == (!false)) = true then (if t209.toList = t210.toList then (if t209.toList = ([] : List UInt8) then (some true) else (if t205.toList = bt207.1.toList then (some (t206.toList == bt207.2.toList)) else (some false))) else (some true)) else (some false)))) else (some false)))))) = some r := H; have A6 := Aside0.mk A60; clear A60; replace H := Option.bind_eq_some_iff.mp H; obtain ⟨⟨t207, t208⟩, A70, H⟩ := H; replace H : ((impl_ThingKey.f t205 t206).bind fun t209 => ((impl_ThingKey.f t207 t208).bind fun t210 => ((spec_ThingKey.f kj2 t205 t206).bind fun t211 => (if t209.toList = t211.toList then ((impl_NameOk.f t205).bind fun t212 => (if t212 = true then ((impl_NameOk.f t206).bind fun t213 => (if ((t209.toList == ([] : List UInt8)) == (!t213)) = true then (if t209.toList = t210.toList then (if t209.toList = ([] : List UInt8) then (some true) else (if t205.toList = t207.toList then (some (t206.toList == t208.toList)) else (some false))) else (some true)) else (some false))) else (if ((t209.toList == ([] : List UInt8)) == (!false)) = true then (if t209.toList = t210.toList then (if t209.toList = ([] : List UInt8) then (some true) else (if t205.toList = t207.toList then (some (t206.toList == t208.toList)) else (some false))) else (some true)) else (some false)))) else (some false))))) = some r := H; have A7 := Aside0.mk A70; clear A70; replace H := Option.bind_eq_some_iff.mp H; obtain ⟨t209, A80, H⟩ := H; replace H : ((impl_ThingKey.f t207 t208).bind fun t210 => ((spec_ThingKey.f kj2 t205 t206).bind fun t211 => (if t209.toList = t211.toList then ((impl_NameOk.f t205).bind fun t212 => (if t212 = true then ((impl_NameOk.f t206).bind fun t213 => (if ((t209.toList == ([] : List UInt8)) == (!t213)) = true then (if t209.toList = t210.toList then (if t209.toList = ([] : List UInt8) then (some true) else (if t205.toList = t207.toList then (some (t206.toList == t208.toList)) else (some false))) else (some true)) else (some false))) else (if ((t209.toList == ([] : List UInt8)) == (!false)) = true then (if t209.toList = t210.toList then (if t209.toList = ([] : List UInt8) then (some true) else (if t205.toList = t207.toList then (some (t206.toList == t208.toList)) else (some false))) else (some true)) else (some false)))) else (some false)))) = some r := H; have A8 := Aside0.mk A80; clear A80; replace H := Option.bind_eq_some_iff.mp H; obtain ⟨t210, A90, H⟩ := H; replace H : ((spec_ThingKey.f kj2 t205 t206).bind fun t211 => (if t209.toList = t211.toList then ((impl_NameOk.f t205).bind fun t212 => (if t212 = true then ((impl_NameOk.f t206).bind fun t213 => (if ((t209.toList == ([] : List UInt8)) == (!t213)) = true then (if t209.toList = t210.toList then (if t209.toList = ([] : List UInt8) then (some true) else (if t205.toList = t207.toList then (some (t206.toList == t208.toList)) else (some false))) else (some true)) else (some false))) else (if ((t209.toList == ([] : List UInt8)) == (!false)) = true then (if t209.toList = t210.toList then (if t209.toList = ([] : List UInt8) then (some true) else (if t205.toList = t207.toList then (some (t206.toList == t208.toList)) else (some false))) else (some true)) else (some false)))) else (some false))) = some r := H; have A9 := Aside0.mk A90; clear A90; replace H := Option.bind_eq_some_iff.mp H; obtain ⟨t211, A100, H⟩ := H; replace H : (if t209.toList = t211.toList then ((impl_NameOk.f t205).bind fun t212 => (if t212 = true then ((impl_NameOk.f t206).bind fun t213 => (if ((t209.toList == ([] : List UInt8)) == (!t213)) = true then (if t209.toList = t210.toList then (if t209.toList = ([] : List UInt8) then (some true) else (if t205.toList = t207.toList then (some (t206.toList == t208.toList)) else (some false))) else (some true)) else (some false))) else (if ((t209.toList == ([] : List UInt8)) == (!false)) = true then (if t209.toList = t210.toList then (if t209.toList = ([] : List UInt8) then (some true) else (if t205.toList = t207.toList then (some (t206.toList == t208.toList)) else (some false))) else (some true)) else (some false)))) else (some false)) = some r := H; have A10 := Aside0.mk A100; clear A100; by_cases c11 : t209.toList = t211.toList
        · rw [if_pos c11] at H
          have c11b0 : (t209.toList == t211.toList) = true := beq_iff_eq.mpr c11; have c11b1 : (t209.toList != t211.toList) = false := bne_eq_false_iff_eq.mpr c11; clear c11; replace H := Option.bind_eq_some_iff.mp H; obtain ⟨t212, A120, H⟩ := H; replace H : (if t212 = true then ((impl_NameOk.f t206).bind fun t213 => (if ((t209.toList == ([] : List UInt8)) == (!t213)) = true then (if t209.toList = t210.toList then (if t209.toList = ([] : List UInt8) then (some true) else (if t205.toList = t207.toList then (some (t206.toList == t208.toList)) else (some false))) else (some true)) else (some false))) else (if ((t209.toList == ([] : List UInt8)) == (!false)) = true then (if t209.toList = t210.toList then (if t209.toList = ([] : List UInt8) then (some true) else (if t205.toList = t207.toList then (some (t206.toList == t208.toList)) else (some false))) else (some true)) else (some false))) = some r := H; have A12 := Aside0.mk A120; clear A120; by_cases c13 : t212 = true
          · subst c13
            have H1 : ((impl_NameOk.f t206).bind fun t213 => (if ((t209.toList == ([] : List UInt8)) == (!t213)) = true then (if t209.toList = t210.toList then (if t209.toList = ([] : List UInt8) then (some true) else (if t205.toList = t207.toList then (some (t206.toList == t208.toList)) else (some false))) else (some true)) else (some false))) = some r := by rw [if_pos rfl] at H; exact H
            clear H; have H := H1; clear H1; replace H := Option.bind_eq_some_iff.mp H; obtain ⟨t213, A140, H⟩ := H; replace H : (if ((t209.toList == ([] : List UInt8)) == (!t213)) = true then (if t209.toList = t210.toList then (if t209.toList = ([] : List UInt8) then (some true) else (if t205.toList = t207.toList then (some (t206.toList == t208.toList)) else (some false))) else (some true)) else (some false)) = some r := H; have A14 := Aside0.mk A140; clear A140; by_cases c15 : ((t209.toList == ([] : List UInt8)) == (!t213)) = true
            · rw [if_pos c15] at H
              have c15b0 : ((t209.toList == ([] : List UInt8)) == (!t213)) = true := c15
              (try (have c15s0a : ¬ (t209.toList = ([] : List UInt8)) := by simpa using c15b0))
              (try (have c15s0b : (t209.toList == ([] : List UInt8)) = false := by simpa using c15b0))
              (try (have c15s0c : (t209.toList == ([] : List UInt8)) = true := by simpa using c15b0))
              (try (have c15s0d : t209.toList.isEmpty = false := by simpa using c15b0))
              (try (have c15s0e : t209.toList.isEmpty = true := by simpa using c15b0))
              (try (have c15b1 : decide ((t209.toList == ([] : List UInt8)) = (!t213)) = true := by simpa using c15))
              (try (have c15b2 : ((t209.toList == ([] : List UInt8)) == (!t213)) = true := by simpa using c15))
              clear c15; by_cases c16 : t209.toList = t210.toList
              · rw [if_pos c16] at H
                have c16b0 : (t209.toList == t210.toList) = true := beq_iff_eq.mpr c16; have c16b1 : (t209.toList != t210.toList) = false := bne_eq_false_iff_eq.mpr c16; clear c16; by_cases c17 : t209.toList = ([] : List UInt8)
                · rw [if_pos c17] at H
                  have c17b0 : (t209.toList == ([] : List UInt8)) = true := beq_iff_eq.mpr c17
                  (try (have c17zc15 := c15b0; simp [c17b0] at c17zc15; revert c17zc15; intro c17zc15))
                  have c17b1 : (t209.toList != ([] : List UInt8)) = false := bne_eq_false_iff_eq.mpr c17; clear c17; obtain rfl := Option.some.inj H
                  go_wp2_with (first | ((with_reducible refine gate_callee (f := 25) rfl ?_); refine goesL_ (some 21) rfl rfl Tryd.func25 (by kernel_rfl) rfl #[.slice A0 l0.length c0] rfl (by (try simp only [List.map_toArray, List.map_cons, List.map_nil]); first | done | rfl | (simp only [List.length_drop, List.length_take]; rfl)) ?_; (with_reducible refine (spec_DrawThingKey.calls kj2 _ _ l0 t205 t206 _ ?side1 ?side2 A6.out).mono ?_); (case side1 => repeat (first | exact (Kd.C_below HR0.out HB.out) | (with_reducible refine Kd.C_alloc ?_ _) | (with_reducible refine Kd.C_drewN ?_ _) | (with_reducible refine Kd.C_drew ?_))); (case side2 => exact HC0.out); rintro e w18 ⟨rfl, hb⟩; refine ⟨_, rfl, ?_⟩; have n0_ := Aside0.mk (below_step (by repeat (first | (with_reducible first | exact HB.out | apply below_alloc | apply pw_below_drewN | apply below_drew1) | exact HB.out)) hb); clear HB; have HB := n0_; clear n0_; (try clear hb); (try clear hb2); (try clear hk); (try clear hi)) | ((with_reducible refine gate_callee (f := 25) rfl ?_); refine goesL_ (some 26) rfl rfl Tryd.func25 (by kernel_rfl) rfl #[.slice A1 l1.length c1] rfl (by (try simp only [List.map_toArray, List.map_cons, List.map_nil]); first | done | rfl | (simp only [List.length_drop, List.length_take]; rfl)) ?_; (with_reducible refine (spec_DrawThingKey.calls kj2 _ _ l1 t207 t208 _ ?side1 ?side2 A7.out).mono ?_); (case side1 => repeat (first | exact (Kd.C_below HR1.out HB.out) | (with_reducible refine Kd.C_alloc ?_ _) | (with_reducible refine Kd.C_drewN ?_ _) | (with_reducible refine Kd.C_drew ?_))); (case side2 => exact HC1.out); rintro e w19 ⟨rfl, hb⟩; refine ⟨_, rfl, ?_⟩; have n0_ := Aside0.mk (below_step (by repeat (first | (with_reducible first | exact HB.out | apply below_alloc | apply pw_below_drewN | apply below_drew1) | exact HB.out)) hb); clear HB; have HB := n0_; clear n0_; (try clear hb); (try clear hb2); (try clear hk); (try clear hi)) | ((with_reducible refine gate_callee (f := 22) rfl ?_); refine goesL_ (some 31) rfl rfl Tryd.func22 (by kernel_rfl) rfl #[.string t205, .string t206] rfl (by (try simp only [List.map_toArray, List.map_cons, List.map_nil]); first | done | rfl | (simp only [List.length_drop, List.length_take]; rfl)) ?_; (with_reducible refine (impl_ThingKey.calls t205 t206 t209 _ A8.out).mono ?_); rintro e w20 ⟨rfl, hb⟩; refine ⟨_, rfl, ?_⟩; have n0_ := Aside0.mk (below_step (by repeat (first | (with_reducible first | exact HB.out | apply below_alloc | apply pw_below_drewN | apply below_drew1) | exact HB.out)) hb); clear HB; have HB := n0_; clear n0_; (try clear hb); (try clear hb2); (try clear hk); (try clear hi)) | ((with_reducible refine gate_callee (f := 22) rfl ?_); refine goesL_ (some 34) rfl rfl Tryd.func22 (by kernel_rfl) rfl #[.string t207, .string t208] rfl (by (try simp only [List.map_toArray, List.map_cons, List.map_nil]); first | done | rfl | (simp only [List.length_drop, List.length_take]; rfl)) ?_; (with_reducible refine (impl_ThingKey.calls t207 t208 t210 _ A9.out).mono ?_); rintro e w21 ⟨rfl, hb⟩; refine ⟨_, rfl, ?_⟩; have n0_ := Aside0.mk (below_step (by repeat (first | (with_reducible first | exact HB.out | apply below_alloc | apply pw_below_drewN | apply below_drew1) | exact HB.out)) hb); clear HB; have HB := n0_; clear n0_; (try clear hb); (try clear hb2); (try clear hk); (try clear hi)) | ((with_reducible refine gate_callee (f := 21) rfl ?_); refine goesL_ (some 38) rfl rfl Tryd.func21 (by kernel_rfl) rfl #[.string t205, .string t206] rfl (by (try simp only [List.map_toArray, List.map_cons, List.map_nil]); first | done | rfl | (simp only [List.length_drop, List.length_take]; rfl)) ?_; (with_reducible refine (spec_ThingKey.calls kj2 t205 t206 t211 _ A10.out).mono ?_); rintro e w' ⟨rfl, ⟨nd, rfl⟩⟩; refine ⟨_, rfl, ?_⟩) | (go_at_call 20; (with_reducible refine (impl_NameOk.calls t205 true _ A12.out).mono ?_); rintro e w22 ⟨rfl, hb⟩; have n0_ := Aside0.mk (below_step (by repeat (first | (with_reducible first | exact HB.out | apply below_alloc | apply pw_below_drewN | apply below_drew1) | exact HB.out)) hb); clear HB; have HB := n0_; clear n0_; (try clear hb); (try clear hb2); (try clear hk); (try clear hi)) | (go_at_call 20; (with_reducible refine (impl_NameOk.calls t206 t213 _ A14.out).mono ?_); rintro e w23 ⟨rfl, hb⟩; have n0_ := Aside0.mk (below_step (by repeat (first | (with_reducible first | exact HB.out | apply below_alloc | apply pw_below_drewN | apply below_drew1) | exact HB.out)) hb); clear HB; have HB := n0_; clear n0_; (try clear hb); (try clear hb2); (try clear hk); (try clear hi)))
                  all_goals (go_ret; exact ⟨by first | rfl | (simp [errW_none, errW_some] <;> rfl) | (simp [*, errW_none, errW_some] <;> rfl), by repeat (first | (with_reducible first | exact HB.out | apply below_alloc | apply pw_below_drewN | apply below_drew1) | exact HB.out)⟩)
                · rw [if_neg c17] at H
                  have c17b0 : (t209.toList == ([] : List UInt8)) = false := beq_eq_false_iff_ne.mpr c17
                  (try (have c17zc15 := c15b0; simp [c17b0] at c17zc15; revert c17zc15; intro c17zc15))
                  have c17b1 : (t209.toList != ([] : List UInt8)) = true := bne_iff_ne.mpr c17; by_cases c24 : t205.toList = t207.toList
                  · rw [if_pos c24] at H
                    have c24b0 : (t205.toList == t207.toList) = true := beq_iff_eq.mpr c24; have c24b1 : (t205.toList != t207.toList) = false := bne_eq_false_iff_eq.mpr c24; clear c24; obtain rfl := Option.some.inj H
                    go_wp2_with (first | ((with_reducible refine gate_callee (f := 25) rfl ?_); refine goesL_ (some 21) rfl rfl Tryd.func25 (by kernel_rfl) rfl #[.slice A0 l0.length c0] rfl (by (try simp only [List.map_toArray, List.map_cons, List.map_nil]); first | done | rfl | (simp only [List.length_drop, List.length_take]; rfl)) ?_; (with_reducible refine (spec_DrawThingKey.calls kj2 _ _ l0 t205 t206 _ ?side1 ?side2 A6.out).mono ?_); (case side1 => repeat (first | exact (Kd.C_below HR0.out HB.out) | (with_reducible refine Kd.C_alloc ?_ _) | (with_reducible refine Kd.C_drewN ?_ _) | (with_reducible refine Kd.C_drew ?_))); (case side2 => exact HC0.out); rintro e w25 ⟨rfl, hb⟩; refine ⟨_, rfl, ?_⟩; have n0_ := Aside0.mk (below_step (by repeat (first | (with_reducible first | exact HB.out | apply below_alloc | apply pw_below_drewN | apply below_drew1) | exact HB.out)) hb); clear HB; have HB := n0_; clear n0_; (try clear hb); (try clear hb2); (try clear hk); (try clear hi)) | ((with_reducible refine gate_callee (f := 25) rfl ?_); refine goesL_ (some 26) rfl rfl Tryd.func25 (by kernel_rfl) rfl #[.slice A1 l1.length c1] rfl (by (try simp only [List.map_toArray, List.map_cons, List.map_nil]); first | done | rfl | (simp only [List.length_drop, List.length_take]; rfl)) ?_; (with_reducible refine (spec_DrawThingKey.calls kj2 _ _ l1 t207 t208 _ ?side1 ?side2 A7.out).mono ?_); (case side1 => repeat (first | exact (Kd.C_below HR1.out HB.out) | (with_reducible refine Kd.C_alloc ?_ _) | (with_reducible refine Kd.C_drewN ?_ _) | (with_reducible refine Kd.C_drew ?_))); (case side2 => exact HC1.out); rintro e w26 ⟨rfl, hb⟩; refine ⟨_, rfl, ?_⟩; have n0_ := Aside0.mk (below_step (by repeat (first | (with_reducible first | exact HB.out | apply below_alloc | apply pw_below_drewN | apply below_drew1) | exact HB.out)) hb); clear HB; have HB := n0_; clear n0_; (try clear hb); (try clear hb2); (try clear hk); (try clear hi)) | ((with_reducible refine gate_callee (f := 22) rfl ?_); refine goesL_ (some 31) rfl rfl Tryd.func22 (by kernel_rfl) rfl #[.string t205, .string t206] rfl (by (try simp only [List.map_toArray, List.map_cons, List.map_nil]); first | done | rfl | (simp only [List.length_drop, List.length_take]; rfl)) ?_; (with_reducible refine (impl_ThingKey.calls t205 t206 t209 _ A8.out).mono ?_); rintro e w27 ⟨rfl, hb⟩; refine ⟨_, rfl, ?_⟩; have n0_ := Aside0.mk (below_step (by repeat (first | (with_reducible first | exact HB.out | apply below_alloc | apply pw_below_drewN | apply below_drew1) | exact HB.out)) hb); clear HB; have HB := n0_; clear n0_; (try clear hb); (try clear hb2); (try clear hk); (try clear hi)) | ((with_reducible refine gate_callee (f := 22) rfl ?_); refine goesL_ (some 34) rfl rfl Tryd.func22 (by kernel_rfl) rfl #[.string t207, .string t208] rfl (by (try simp only [List.map_toArray, List.map_cons, List.map_nil]); first | done | rfl | (simp only [List.length_drop, List.length_take]; rfl)) ?_; (with_reducible refine (impl_ThingKey.calls t207 t208 t210 _ A9.out).mono ?_); rintro e w28 ⟨rfl, hb⟩; refine ⟨_, rfl, ?_⟩; have n0_ := Aside0.mk (below_step (by repeat (first | (with_reducible first | exact HB.out | apply below_alloc | apply pw_below_drewN | apply below_drew1) | exact HB.out)) hb); clear HB; have HB := n0_; clear n0_; (try clear hb); (try clear hb2); (try clear hk); (try clear hi)) | ((with_reducible refine gate_callee (f := 21) rfl ?_); refine goesL_ (some 38) rfl rfl Tryd.func21 (by kernel_rfl) rfl #[.string t205, .string t206] rfl (by (try simp only [List.map_toArray, List.map_cons, List.map_nil]); first | done | rfl | (simp only [List.length_drop, List.length_take]; rfl)) ?_; (with_reducible refine (spec_ThingKey.calls kj2 t205 t206 t211 _ A10.out).mono ?_); rintro e w' ⟨rfl, ⟨nd, rfl⟩⟩; refine ⟨_, rfl, ?_⟩) | (go_at_call 20; (with_reducible refine (impl_NameOk.calls t205 true _ A12.out).mono ?_); rintro e w29 ⟨rfl, hb⟩; have n0_ := Aside0.mk (below_step (by repeat (first | (with_reducible first | exact HB.out | apply below_alloc | apply pw_below_drewN | apply below_drew1) | exact HB.out)) hb); clear HB; have HB := n0_; clear n0_; (try clear hb); (try clear hb2); (try clear hk); (try clear hi)) | (go_at_call 20; (with_reducible refine (impl_NameOk.calls t206 t213 _ A14.out).mono ?_); rintro e w30 ⟨rfl, hb⟩; have n0_ := Aside0.mk (below_step (by repeat (first | (with_reducible first | exact HB.out | apply below_alloc | apply pw_below_drewN | apply below_drew1) | exact HB.out)) hb); clear HB; have HB := n0_; clear n0_; (try clear hb); (try clear hb2); (try clear hk); (try clear hi)))
                    all_goals (go_ret; exact ⟨by first | rfl | (simp [errW_none, errW_some] <;> rfl) | (simp [*, errW_none, errW_some] <;> rfl), by repeat (first | (with_reducible first | exact HB.out | apply below_alloc | apply pw_below_drewN | apply below_drew1) | exact HB.out)⟩)
                  · rw [if_neg c24] at H
                    have c24b0 : (t205.toList == t207.toList) = false := beq_eq_false_iff_ne.mpr c24; have c24b1 : (t205.toList != t207.toList) = true := bne_iff_ne.mpr c24
                    exact absurd ((Option.some.inj H).trans HTru_.out) (by decide)
              · rw [if_neg c16] at H
                have c16b0 : (t209.toList == t210.toList) = false := beq_eq_false_iff_ne.mpr c16; have c16b1 : (t209.toList != t210.toList) = true := bne_iff_ne.mpr c16; obtain rfl := Option.some.inj H
                go_wp2_with (first | ((with_reducible refine gate_callee (f := 25) rfl ?_); refine goesL_ (some 21) rfl rfl Tryd.func25 (by kernel_rfl) rfl #[.slice A0 l0.length c0] rfl (by (try simp only [List.map_toArray, List.map_cons, List.map_nil]); first | done | rfl | (simp only [List.length_drop, List.length_take]; rfl)) ?_; (with_reducible refine (spec_DrawThingKey.calls kj2 _ _ l0 t205 t206 _ ?side1 ?side2 A6.out).mono ?_); (case side1 => repeat (first | exact (Kd.C_below HR0.out HB.out) | (with_reducible refine Kd.C_alloc ?_ _) | (with_reducible refine Kd.C_drewN ?_ _) | (with_reducible refine Kd.C_drew ?_))); (case side2 => exact HC0.out); rintro e w31 ⟨rfl, hb⟩; refine ⟨_, rfl, ?_⟩; have n0_ := Aside0.mk (below_step (by repeat (first | (with_reducible first | exact HB.out | apply below_alloc | apply pw_below_drewN | apply below_drew1) | exact HB.out)) hb); clear HB; have HB := n0_; clear n0_; (try clear hb); (try clear hb2); (try clear hk); (try clear hi)) | ((with_reducible refine gate_callee (f := 25) rfl ?_); refine goesL_ (some 26) rfl rfl Tryd.func25 (by kernel_rfl) rfl #[.slice A1 l1.length c1] rfl (by (try simp only [List.map_toArray, List.map_cons, List.map_nil]); first | done | rfl | (simp only [List.length_drop, List.length_take]; rfl)) ?_; (with_reducible refine (spec_DrawThingKey.calls kj2 _ _ l1 t207 t208 _ ?side1 ?side2 A7.out).mono ?_); (case side1 => repeat (first | exact (Kd.C_below HR1.out HB.out) | (with_reducible refine Kd.C_alloc ?_ _) | (with_reducible refine Kd.C_drewN ?_ _) | (with_reducible refine Kd.C_drew ?_))); (case side2 => exact HC1.out); rintro e w32 ⟨rfl, hb⟩; refine ⟨_, rfl, ?_⟩; have n0_ := Aside0.mk (below_step (by repeat (first | (with_reducible first | exact HB.out | apply below_alloc | apply pw_below_drewN | apply below_drew1) | exact HB.out)) hb); clear HB; have HB := n0_; clear n0_; (try clear hb); (try clear hb2); (try clear hk); (try clear hi)) | ((with_reducible refine gate_callee (f := 22) rfl ?_); refine goesL_ (some 31) rfl rfl Tryd.func22 (by kernel_rfl) rfl #[.string t205, .string t206] rfl (by (try simp only [List.map_toArray, List.map_cons, List.map_nil]); first | done | rfl | (simp only [List.length_drop, List.length_take]; rfl)) ?_; (with_reducible refine (impl_ThingKey.calls t205 t206 t209 _ A8.out).mono ?_); rintro e w33 ⟨rfl, hb⟩; refine ⟨_, rfl, ?_⟩; have n0_ := Aside0.mk (below_step (by repeat (first | (with_reducible first | exact HB.out | apply below_alloc | apply pw_below_drewN | apply below_drew1) | exact HB.out)) hb); clear HB; have HB := n0_; clear n0_; (try clear hb); (try clear hb2); (try clear hk); (try clear hi)) | ((with_reducible refine gate_callee (f := 22) rfl ?_); refine goesL_ (some 34) rfl rfl Tryd.func22 (by kernel_rfl) rfl #[.string t207, .string t208] rfl (by (try simp only [List.map_toArray, List.map_cons, List.map_nil]); first | done | rfl | (simp only [List.length_drop, List.length_take]; rfl)) ?_; (with_reducible refine (impl_ThingKey.calls t207 t208 t210 _ A9.out).mono ?_); rintro e w34 ⟨rfl, hb⟩; refine ⟨_, rfl, ?_⟩; have n0_ := Aside0.mk (below_step (by repeat (first | (with_reducible first | exact HB.out | apply below_alloc | apply pw_below_drewN | apply below_drew1) | exact HB.out)) hb); clear HB; have HB := n0_; clear n0_; (try clear hb); (try clear hb2); (try clear hk); (try clear hi)) | ((with_reducible refine gate_callee (f := 21) rfl ?_); refine goesL_ (some 38) rfl rfl Tryd.func21 (by kernel_rfl) rfl #[.string t205, .string t206] rfl (by (try simp only [List.map_toArray, List.map_cons, List.map_nil]); first | done | rfl | (simp only [List.length_drop, List.length_take]; rfl)) ?_; (with_reducible refine (spec_ThingKey.calls kj2 t205 t206 t211 _ A10.out).mono ?_); rintro e w' ⟨rfl, ⟨nd, rfl⟩⟩; refine ⟨_, rfl, ?_⟩) | (go_at_call 20; (with_reducible refine (impl_NameOk.calls t205 true _ A12.out).mono ?_); rintro e w35 ⟨rfl, hb⟩; have n0_ := Aside0.mk (below_step (by repeat (first | (with_reducible first | exact HB.out | apply below_alloc | apply pw_below_drewN | apply below_drew1) | exact HB.out)) hb); clear HB; have HB := n0_; clear n0_; (try clear hb); (try clear hb2); (try clear hk); (try clear hi)) | (go_at_call 20; (with_reducible refine (impl_NameOk.calls t206 t213 _ A14.out).mono ?_); rintro e w36 ⟨rfl, hb⟩; have n0_ := Aside0.mk (below_step (by repeat (first | (with_reducible first | exact HB.out | apply below_alloc | apply pw_below_drewN | apply below_drew1) | exact HB.out)) hb); clear HB; have HB := n0_; clear n0_; (try clear hb); (try clear hb2); (try clear hk); (try clear hi)))
                all_goals first | exact absurd (show t209.toList.isEmpty = !t213 by simpa using c15b0) ‹¬ _› | (go_ret; exact ⟨by first | rfl | (simp [errW_none, errW_some] <;> rfl) | (simp [*, errW_none, errW_some] <;> rfl), by repeat (first | (with_reducible first | exact HB.out | apply below_alloc | apply pw_below_drewN | apply below_drew1) | exact HB.out)⟩)
            · rw [if_neg c15] at H
              have c15b0 : ((t209.toList == ([] : List UInt8)) == (!t213)) = false := by simpa using c15
              (try (have c15s0a : ¬ (t209.toList = ([] : List UInt8)) := by simpa using c15b0))
              (try (have c15s0b : (t209.toList == ([] : List UInt8)) = false := by simpa using c15b0))
              (try (have c15s0c : (t209.toList == ([] : List UInt8)) = true := by simpa using c15b0))
              (try (have c15s0d : t209.toList.isEmpty = false := by simpa using c15b0))
              (try (have c15s0e : t209.toList.isEmpty = true := by simpa using c15b0))
              (try (have c15b1 : decide ((t209.toList == ([] : List UInt8)) = (!t213)) = false := by simpa using c15))
              (try (have c15b2 : ((t209.toList == ([] : List UInt8)) == (!t213)) = false := by simpa using c15))
              (try (have c15b3 : ¬ ((t209.toList == ([] : List UInt8)) = (!t213)) := by simpa using c15))
              clear c15
              exact absurd ((Option.some.inj H).trans HTru_.out) (by decide)
          · replace c13 := Bool.eq_false_iff.mpr c13
            subst c13; have H1 : (if ((t209.toList == ([] : List UInt8)) == (!false)) = true then (if t209.toList = t210.toList then (if t209.toList = ([] : List UInt8) then (some true) else (if t205.toList = t207.toList then (some (t206.toList == t208.toList)) else (some false))) else (some true)) else (some false)) = some r := by rw [if_neg (show ¬ (false = true) by decide)] at H; exact H
            clear H; have H := H1; clear H1; by_cases c37 : ((t209.toList == ([] : List UInt8)) == (!false)) = true
            · rw [if_pos c37] at H
              have c37b0 : ((t209.toList == ([] : List UInt8)) == (!false)) = true := c37
              (try (have c37s0a : ¬ (t209.toList = ([] : List UInt8)) := by simpa using c37b0))
              (try (have c37s0b : (t209.toList == ([] : List UInt8)) = false := by simpa using c37b0))
              (try (have c37s0c : (t209.toList == ([] : List UInt8)) = true := by simpa using c37b0))
              (try (have c37s0d : t209.toList.isEmpty = false := by simpa using c37b0))
              (try (have c37s0e : t209.toList.isEmpty = true := by simpa using c37b0))
              (try (have c37b1 : decide ((t209.toList == ([] : List UInt8)) = (!false)) = true := by simpa using c37))
              (try (have c37b2 : ((t209.toList == ([] : List UInt8)) == (!false)) = true := by simpa using c37))
              clear c37; by_cases c38 : t209.toList = t210.toList
              · rw [if_pos c38] at H
                have c38b0 : (t209.toList == t210.toList) = true := beq_iff_eq.mpr c38; have c38b1 : (t209.toList != t210.toList) = false := bne_eq_false_iff_eq.mpr c38; clear c38; by_cases c39 : t209.toList = ([] : List UInt8)
                · rw [if_pos c39] at H
                  have c39b0 : (t209.toList == ([] : List UInt8)) = true := beq_iff_eq.mpr c39
                  (try (have c39zc37 := c37b0; simp [c39b0] at c39zc37; revert c39zc37; intro c39zc37))
                  have c39b1 : (t209.toList != ([] : List UInt8)) = false := bne_eq_false_iff_eq.mpr c39; clear c39; obtain rfl := Option.some.inj H
                  go_wp2_with (first | ((with_reducible refine gate_callee (f := 25) rfl ?_); refine goesL_ (some 21) rfl rfl Tryd.func25 (by kernel_rfl) rfl #[.slice A0 l0.length c0] rfl (by (try simp only [List.map_toArray, List.map_cons, List.map_nil]); first | done | rfl | (simp only [List.length_drop, List.length_take]; rfl)) ?_; (with_reducible refine (spec_DrawThingKey.calls kj2 _ _ l0 t205 t206 _ ?side1 ?side2 A6.out).mono ?_); (case side1 => repeat (first | exact (Kd.C_below HR0.out HB.out) | (with_reducible refine Kd.C_alloc ?_ _) | (with_reducible refine Kd.C_drewN ?_ _) | (with_reducible refine Kd.C_drew ?_))); (case side2 => exact HC0.out); rintro e w40 ⟨rfl, hb⟩; refine ⟨_, rfl, ?_⟩; have n0_ := Aside0.mk (below_step (by repeat (first | (with_reducible first | exact HB.out | apply below_alloc | apply pw_below_drewN | apply below_drew1) | exact HB.out)) hb); clear HB; have HB := n0_; clear n0_; (try clear hb); (try clear hb2); (try clear hk); (try clear hi)) | ((with_reducible refine gate_callee (f := 25) rfl ?_); refine goesL_ (some 26) rfl rfl Tryd.func25 (by kernel_rfl) rfl #[.slice A1 l1.length c1] rfl (by (try simp only [List.map_toArray, List.map_cons, List.map_nil]); first | done | rfl | (simp only [List.length_drop, List.length_take]; rfl)) ?_; (with_reducible refine (spec_DrawThingKey.calls kj2 _ _ l1 t207 t208 _ ?side1 ?side2 A7.out).mono ?_); (case side1 => repeat (first | exact (Kd.C_below HR1.out HB.out) | (with_reducible refine Kd.C_alloc ?_ _) | (with_reducible refine Kd.C_drewN ?_ _) | (with_reducible refine Kd.C_drew ?_))); (case side2 => exact HC1.out); rintro e w41 ⟨rfl, hb⟩; refine ⟨_, rfl, ?_⟩; have n0_ := Aside0.mk (below_step (by repeat (first | (with_reducible first | exact HB.out | apply below_alloc | apply pw_below_drewN | apply below_drew1) | exact HB.out)) hb); clear HB; have HB := n0_; clear n0_; (try clear hb); (try clear hb2); (try clear hk); (try clear hi)) | ((with_reducible refine gate_callee (f := 22) rfl ?_); refine goesL_ (some 31) rfl rfl Tryd.func22 (by kernel_rfl) rfl #[.string t205, .string t206] rfl (by (try simp only [List.map_toArray, List.map_cons, List.map_nil]); first | done | rfl | (simp only [List.length_drop, List.length_take]; rfl)) ?_; (with_reducible refine (impl_ThingKey.calls t205 t206 t209 _ A8.out).mono ?_); rintro e w42 ⟨rfl, hb⟩; refine ⟨_, rfl, ?_⟩; have n0_ := Aside0.mk (below_step (by repeat (first | (with_reducible first | exact HB.out | apply below_alloc | apply pw_below_drewN | apply below_drew1) | exact HB.out)) hb); clear HB; have HB := n0_; clear n0_; (try clear hb); (try clear hb2); (try clear hk); (try clear hi)) | ((with_reducible refine gate_callee (f := 22) rfl ?_); refine goesL_ (some 34) rfl rfl Tryd.func22 (by kernel_rfl) rfl #[.string t207, .string t208] rfl (by (try simp only [List.map_toArray, List.map_cons, List.map_nil]); first | done | rfl | (simp only [List.length_drop, List.length_take]; rfl)) ?_; (with_reducible refine (impl_ThingKey.calls t207 t208 t210 _ A9.out).mono ?_); rintro e w43 ⟨rfl, hb⟩; refine ⟨_, rfl, ?_⟩; have n0_ := Aside0.mk (below_step (by repeat (first | (with_reducible first | exact HB.out | apply below_alloc | apply pw_below_drewN | apply below_drew1) | exact HB.out)) hb); clear HB; have HB := n0_; clear n0_; (try clear hb); (try clear hb2); (try clear hk); (try clear hi)) | ((with_reducible refine gate_callee (f := 21) rfl ?_); refine goesL_ (some 38) rfl rfl Tryd.func21 (by kernel_rfl) rfl #[.string t205, .string t206] rfl (by (try simp only [List.map_toArray, List.map_cons, List.map_nil]); first | done | rfl | (simp only [List.length_drop, List.length_take]; rfl)) ?_; (with_reducible refine (spec_ThingKey.calls kj2 t205 t206 t211 _ A10.out).mono ?_); rintro e w' ⟨rfl, ⟨nd, rfl⟩⟩; refine ⟨_, rfl, ?_⟩) | (go_at_call 20; (with_reducible refine (impl_NameOk.calls t205 false _ A12.out).mono ?_); rintro e w44 ⟨rfl, hb⟩; have n0_ := Aside0.mk (below_step (by repeat (first | (with_reducible first | exact HB.out | apply below_alloc | apply pw_below_drewN | apply below_drew1) | exact HB.out)) hb); clear HB; have HB := n0_; clear n0_; (try clear hb); (try clear hb2); (try clear hk); (try clear hi)))
                  all_goals (go_ret; exact ⟨by first | rfl | (simp [errW_none, errW_some] <;> rfl) | (simp [*, errW_none, errW_some] <;> rfl), by repeat (first | (with_reducible first | exact HB.out | apply below_alloc | apply pw_below_drewN | apply below_drew1) | exact HB.out)⟩)
                · rw [if_neg c39] at H
                  have c39b0 : (t209.toList == ([] : List UInt8)) = false := beq_eq_false_iff_ne.mpr c39
                  (try (have c39zc37 := c37b0; simp [c39b0] at c39zc37; revert c39zc37; intro c39zc37))
                  have c39b1 : (t209.toList != ([] : List UInt8)) = true := bne_iff_ne.mpr c39; by_cases c45 : t205.toList = t207.toList
                  · rw [if_pos c45] at H
                    have c45b0 : (t205.toList == t207.toList) = true := beq_iff_eq.mpr c45; have c45b1 : (t205.toList != t207.toList) = false := bne_eq_false_iff_eq.mpr c45; clear c45; obtain rfl := Option.some.inj H
                    go_wp2_with (first | ((with_reducible refine gate_callee (f := 25) rfl ?_); refine goesL_ (some 21) rfl rfl Tryd.func25 (by kernel_rfl) rfl #[.slice A0 l0.length c0] rfl (by (try simp only [List.map_toArray, List.map_cons, List.map_nil]); first | done | rfl | (simp only [List.length_drop, List.length_take]; rfl)) ?_; (with_reducible refine (spec_DrawThingKey.calls kj2 _ _ l0 t205 t206 _ ?side1 ?side2 A6.out).mono ?_); (case side1 => repeat (first | exact (Kd.C_below HR0.out HB.out) | (with_reducible refine Kd.C_alloc ?_ _) | (with_reducible refine Kd.C_drewN ?_ _) | (with_reducible refine Kd.C_drew ?_))); (case side2 => exact HC0.out); rintro e w46 ⟨rfl, hb⟩; refine ⟨_, rfl, ?_⟩; have n0_ := Aside0.mk (below_step (by repeat (first | (with_reducible first | exact HB.out | apply below_alloc | apply pw_below_drewN | apply below_drew1) | exact HB.out)) hb); clear HB; have HB := n0_; clear n0_; (try clear hb); (try clear hb2); (try clear hk); (try clear hi)) | ((with_reducible refine gate_callee (f := 25) rfl ?_); refine goesL_ (some 26) rfl rfl Tryd.func25 (by kernel_rfl) rfl #[.slice A1 l1.length c1] rfl (by (try simp only [List.map_toArray, List.map_cons, List.map_nil]); first | done | rfl | (simp only [List.length_drop, List.length_take]; rfl)) ?_; (with_reducible refine (spec_DrawThingKey.calls kj2 _ _ l1 t207 t208 _ ?side1 ?side2 A7.out).mono ?_); (case side1 => repeat (first | exact (Kd.C_below HR1.out HB.out) | (with_reducible refine Kd.C_alloc ?_ _) | (with_reducible refine Kd.C_drewN ?_ _) | (with_reducible refine Kd.C_drew ?_))); (case side2 => exact HC1.out); rintro e w47 ⟨rfl, hb⟩; refine ⟨_, rfl, ?_⟩; have n0_ := Aside0.mk (below_step (by repeat (first | (with_reducible first | exact HB.out | apply below_alloc | apply pw_below_drewN | apply below_drew1) | exact HB.out)) hb); clear HB; have HB := n0_; clear n0_; (try clear hb); (try clear hb2); (try clear hk); (try clear hi)) | ((with_reducible refine gate_callee (f := 22) rfl ?_); refine goesL_ (some 31) rfl rfl Tryd.func22 (by kernel_rfl) rfl #[.string t205, .string t206] rfl (by (try simp only [List.map_toArray, List.map_cons, List.map_nil]); first | done | rfl | (simp only [List.length_drop, List.length_take]; rfl)) ?_; (with_reducible refine (impl_ThingKey.calls t205 t206 t209 _ A8.out).mono ?_); rintro e w48 ⟨rfl, hb⟩; refine ⟨_, rfl, ?_⟩; have n0_ := Aside0.mk (below_step (by repeat (first | (with_reducible first | exact HB.out | apply below_alloc | apply pw_below_drewN | apply below_drew1) | exact HB.out)) hb); clear HB; have HB := n0_; clear n0_; (try clear hb); (try clear hb2); (try clear hk); (try clear hi)) | ((with_reducible refine gate_callee (f := 22) rfl ?_); refine goesL_ (some 34) rfl rfl Tryd.func22 (by kernel_rfl) rfl #[.string t207, .string t208] rfl (by (try simp only [List.map_toArray, List.map_cons, List.map_nil]); first | done | rfl | (simp only [List.length_drop, List.length_take]; rfl)) ?_; (with_reducible refine (impl_ThingKey.calls t207 t208 t210 _ A9.out).mono ?_); rintro e w49 ⟨rfl, hb⟩; refine ⟨_, rfl, ?_⟩; have n0_ := Aside0.mk (below_step (by repeat (first | (with_reducible first | exact HB.out | apply below_alloc | apply pw_below_drewN | apply below_drew1) | exact HB.out)) hb); clear HB; have HB := n0_; clear n0_; (try clear hb); (try clear hb2); (try clear hk); (try clear hi)) | ((with_reducible refine gate_callee (f := 21) rfl ?_); refine goesL_ (some 38) rfl rfl Tryd.func21 (by kernel_rfl) rfl #[.string t205, .string t206] rfl (by (try simp only [List.map_toArray, List.map_cons, List.map_nil]); first | done | rfl | (simp only [List.length_drop, List.length_take]; rfl)) ?_; (with_reducible refine (spec_ThingKey.calls kj2 t205 t206 t211 _ A10.out).mono ?_); rintro e w' ⟨rfl, ⟨nd, rfl⟩⟩; refine ⟨_, rfl, ?_⟩) | (go_at_call 20; (with_reducible refine (impl_NameOk.calls t205 false _ A12.out).mono ?_); rintro e w50 ⟨rfl, hb⟩; have n0_ := Aside0.mk (below_step (by repeat (first | (with_reducible first | exact HB.out | apply below_alloc | apply pw_below_drewN | apply below_drew1) | exact HB.out)) hb); clear HB; have HB := n0_; clear n0_; (try clear hb); (try clear hb2); (try clear hk); (try clear hi)))
                    all_goals first | exact absurd (show t209.toList = [] by simpa using c37b0) c39 | (go_ret; exact ⟨by first | rfl | (simp [errW_none, errW_some] <;> rfl) | (simp [*, errW_none, errW_some] <;> rfl), by repeat (first | (with_reducible first | exact HB.out | apply below_alloc | apply pw_below_drewN | apply below_drew1) | exact HB.out)⟩)
                  · rw [if_neg c45] at H
                    have c45b0 : (t205.toList == t207.toList) = false := beq_eq_false_iff_ne.mpr c45; have c45b1 : (t205.toList != t207.toList) = true := bne_iff_ne.mpr c45
                    exact absurd ((Option.some.inj H).trans HTru_.out) (by decide)
              · rw [if_neg c38] at H
                have c38b0 : (t209.toList == t210.toList) = false := beq_eq_false_iff_ne.mpr c38; have c38b1 : (t209.toList != t210.toList) = true := bne_iff_ne.mpr c38; obtain rfl := Option.some.inj H
                go_wp2_with (first | ((with_reducible refine gate_callee (f := 25) rfl ?_); refine goesL_ (some 21) rfl rfl Tryd.func25 (by kernel_rfl) rfl #[.slice A0 l0.length c0] rfl (by (try simp only [List.map_toArray, List.map_cons, List.map_nil]); first | done | rfl | (simp only [List.length_drop, List.length_take]; rfl)) ?_; (with_reducible refine (spec_DrawThingKey.calls kj2 _ _ l0 t205 t206 _ ?side1 ?side2 A6.out).mono ?_); (case side1 => repeat (first | exact (Kd.C_below HR0.out HB.out) | (with_reducible refine Kd.C_alloc ?_ _) | (with_reducible refine Kd.C_drewN ?_ _) | (with_reducible refine Kd.C_drew ?_))); (case side2 => exact HC0.out); rintro e w51 ⟨rfl, hb⟩; refine ⟨_, rfl, ?_⟩; have n0_ := Aside0.mk (below_step (by repeat (first | (with_reducible first | exact HB.out | apply below_alloc | apply pw_below_drewN | apply below_drew1) | exact HB.out)) hb); clear HB; have HB := n0_; clear n0_; (try clear hb); (try clear hb2); (try clear hk); (try clear hi)) | ((with_reducible refine gate_callee (f := 25) rfl ?_); refine goesL_ (some 26) rfl rfl Tryd.func25 (by kernel_rfl) rfl #[.slice A1 l1.length c1] rfl (by (try simp only [List.map_toArray, List.map_cons, List.map_nil]); first | done | rfl | (simp only [List.length_drop, List.length_take]; rfl)) ?_; (with_reducible refine (spec_DrawThingKey.calls kj2 _ _ l1 t207 t208 _ ?side1 ?side2 A7.out).mono ?_); (case side1 => repeat (first | exact (Kd.C_below HR1.out HB.out) | (with_reducible refine Kd.C_alloc ?_ _) | (with_reducible refine Kd.C_drewN ?_ _) | (with_reducible refine Kd.C_drew ?_))); (case side2 => exact HC1.out); rintro e w52 ⟨rfl, hb⟩; refine ⟨_, rfl, ?_⟩; have n0_ := Aside0.mk (below_step (by repeat (first | (with_reducible first | exact HB.out | apply below_alloc | apply pw_below_drewN | apply below_drew1) | exact HB.out)) hb); clear HB; have HB := n0_; clear n0_; (try clear hb); (try clear hb2); (try clear hk); (try clear hi)) | ((with_reducible refine gate_callee (f := 22) rfl ?_); refine goesL_ (some 31) rfl rfl Tryd.func22 (by kernel_rfl) rfl #[.string t205, .string t206] rfl (by (try simp only [List.map_toArray, List.map_cons, List.map_nil]); first | done | rfl | (simp only [List.length_drop, List.length_take]; rfl)) ?_; (with_reducible refine (impl_ThingKey.calls t205 t206 t209 _ A8.out).mono ?_); rintro e w53 ⟨rfl, hb⟩; refine ⟨_, rfl, ?_⟩; have n0_ := Aside0.mk (below_step (by repeat (first | (with_reducible first | exact HB.out | apply below_alloc | apply pw_below_drewN | apply below_drew1) | exact HB.out)) hb); clear HB; have HB := n0_; clear n0_; (try clear hb); (try clear hb2); (try clear hk); (try clear hi)) | ((with_reducible refine gate_callee (f := 22) rfl ?_); refine goesL_ (some 34) rfl rfl Tryd.func22 (by kernel_rfl) rfl #[.string t207, .string t208] rfl (by (try simp only [List.map_toArray, List.map_cons, List.map_nil]); first | done | rfl | (simp only [List.length_drop, List.length_take]; rfl)) ?_; (with_reducible refine (impl_ThingKey.calls t207 t208 t210 _ A9.out).mono ?_); rintro e w54 ⟨rfl, hb⟩; refine ⟨_, rfl, ?_⟩; have n0_ := Aside0.mk (below_step (by repeat (first | (with_reducible first | exact HB.out | apply below_alloc | apply pw_below_drewN | apply below_drew1) | exact HB.out)) hb); clear HB; have HB := n0_; clear n0_; (try clear hb); (try clear hb2); (try clear hk); (try clear hi)) | ((with_reducible refine gate_callee (f := 21) rfl ?_); refine goesL_ (some 38) rfl rfl Tryd.func21 (by kernel_rfl) rfl #[.string t205, .string t206] rfl (by (try simp only [List.map_toArray, List.map_cons, List.map_nil]); first | done | rfl | (simp only [List.length_drop, List.length_take]; rfl)) ?_; (with_reducible refine (spec_ThingKey.calls kj2 t205 t206 t211 _ A10.out).mono ?_); rintro e w' ⟨rfl, ⟨nd, rfl⟩⟩; refine ⟨_, rfl, ?_⟩) | (go_at_call 20; (with_reducible refine (impl_NameOk.calls t205 false _ A12.out).mono ?_); rintro e w55 ⟨rfl, hb⟩; have n0_ := Aside0.mk (below_step (by repeat (first | (with_reducible first | exact HB.out | apply below_alloc | apply pw_below_drewN | apply below_drew1) | exact HB.out)) hb); clear HB; have HB := n0_; clear n0_; (try clear hb); (try clear hb2); (try clear hk); (try clear hi)))
                all_goals (go_ret; exact ⟨by first | rfl | (simp [errW_none, errW_some] <;> rfl) | (simp [*, errW_none, errW_some] <;> rfl), by repeat (first | (with_reducible first | exact HB.out | apply below_alloc | apply pw_below_drewN | apply below_drew1) | exact HB.out)⟩)
            · rw [if_neg c37] at H
              have c37b0 : ((t209.toList == ([] : List UInt8)) == (!false)) = false := by simpa using c37
              (try (have c37s0a : ¬ (t209.toList = ([] : List UInt8)) := by simpa using c37b0))
              (try (have c37s0b : (t209.toList == ([] : List UInt8)) = false := by simpa using c37b0))
              (try (have c37s0c : (t209.toList == ([] : List UInt8)) = true := by simpa using c37b0))
              (try (have c37s0d : t209.toList.isEmpty = false := by simpa using c37b0))
              (try (have c37s0e : t209.toList.isEmpty = true := by simpa using c37b0))
              (try (have c37b1 : decide ((t209.toList == ([] : List UInt8)) = (!false)) = false := by simpa using c37))
              (try (have c37b2 : ((t209.toList == ([] : List UInt8)) == (!false)) = false := by simpa using c37))
              (try (have c37b3 : ¬ ((t209.toList == ([] : List UInt8)) = (!false)) := by simpa using c37))
              clear c37
              exact absurd ((Option.some.inj H).trans HTru_.out) (by decide)
        · rw [if_neg c11] at H
          have c11b0 : (t209.toList == t211.toList) = false := beq_eq_false_iff_ne.mpr c11; have c11b1 : (t209.toList != t211.toList) = true := bne_iff_ne.mpr c11
          exact absurd ((Option.some.inj H).trans HTru_.out) (by decide)
/-- THE ONE PURE STATEMENT of laws_FnThingKey. -/
def laws_FnThingKey.Pure : Prop := ∀ (l0 : List Int) (l1 : List Int), (l0.length ≤ 9223372036854775807 ∧ ∀ y_ ∈ l0, (Lit.int .u8 y_).wf = true) → (l1.length ≤ 9223372036854775807 ∧ ∀ y_ ∈ l1, (Lit.int .u8 y_).wf = true) → ∃ k, laws_FnThingKey.f k l0 l1 = some true
theorem laws_FnThingKey.walk (P : laws_FnThingKey.Pure) (A0 : Option Addr) (c0 : Nat) (l0 : List Int) (A1 : Option Addr) (c1 : Nat) (l1 : List Int) (w : World) (hr0 : Kd.C (Kd.int .u8) w A0 l0.length l0) (hc0 : l0.length ≤ c0) (hr1 : Kd.C (Kd.int .u8) w A1 l1.length l1) (hc1 : l1.length ≤ c1) (g0 : (l0.length ≤ 9223372036854775807 ∧ ∀ y_ ∈ l0, (Lit.int .u8 y_).wf = true)) (g1 : (l1.length ≤ 9223372036854775807 ∧ ∀ y_ ∈ l1, (Lit.int .u8 y_).wf = true)) :
    Calls Tryd.prog 7 #[.slice A0 l0.length c0, .slice A1 l1.length c1] w fun e w' => e = .returned (.bool true) ∧ Below w.heap.size w w' := by
  obtain ⟨k, h⟩ := P l0 l1 g0 g1; refine (laws_FnThingKey.calls k _ _ l0 _ _ l1 true w hr0 hc0 hr1 hc1 (Aside0.mk rfl) h).mono ?_; rintro e w' ⟨rfl, hd⟩
  exact ⟨rfl, hd⟩
end Go.Proofs.YtgkgkpoeiojmeaaDoor.P
