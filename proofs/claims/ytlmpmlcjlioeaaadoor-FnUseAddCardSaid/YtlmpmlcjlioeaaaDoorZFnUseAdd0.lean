/- Functions of the law FnUseAdd as_ plain Lean functions, and that the machine's calls do what they say. -/
import Derived.Test.YtlmpmlcjlioeaaaDoorZFnUseAddW0
import Derived.Deep.Slices
import Derived.ChangeArms
import Derived.Test.YtlmpmlcjlioeaaaDoorProg
import Derived.Below
import Derived.Deep.Draws
import Derived.Deep.AppendLies
import Derived.Maps.AppendAt
import Derived.OwnWalk
import Derived.Laws.BytesArg
import Derived.Laws.MakeOwn
import Derived.Laws.OwnMore
import Derived.Deep.OwnRows
import Derived.Tactics
import Derived.Lib.ConvBytes
import Derived.Laws.Slices
import Derived.WalkKit
import Derived.KernelRfl
import Derived.RowKit3
import Derived.Deep.LoopGhost
import Derived.Deep.QuietTactic
import Derived.BigQuiet
import Derived.WideLaws
import Derived.Deep.DeepCutAuto
import Derived.Deep.CutBlock
import Derived.Deep.RegionHeld3
import Derived.Laws.Rows
import Derived.Lib.AppendStr
import Derived.ArgAppend
import Derived.Laws.IdiomCopy
import Derived.OrdersHeld
import Derived.Laws.BitsLemmas
import Derived.RowKit
import Derived.Lib.Hide
import Derived.Shelf.Strings.Trim
import Derived.Shelf.Small.Utf8
import Derived.Shelf.Small.Strs
import Derived.Shelf.Strings.Search1
import Derived.Shelf.Strings.Runes
import Derived.Shelf.Strings.AsciiSet
import Derived.Shelf.Unicode.DecodeSlow
import Derived.Shelf.Strings.SlTrimAscii
/- What an argument reads as_ is of the printed kind: whole numbers, bools, strings, slices, structs. -/
namespace Go.Proofs.YtlmpmlcjlioeaaaDoor.Opens
open Go.RowKit Go.Proofs.YtlmpmlcjlioeaaaDoorW.PrintWords Go.ChangeShapes Go.WideShapes
/-- Whatever of type t can be read is of the kind d, and good. -/
structure Opens {α : Type} (P : Program) (d : Kd α) (t : TypeId) (G : α → Prop) : Prop where
 out : ∀ {H : Type} {enc : TypeId × Value → H} {w : World} {base : Nat} {spare : Nat → Bool} {held : Bool} {fuel : Nat} {cs : List Value} {x : DataW H × List MemPlace}, DataW.trod enc P w base spare held fuel t cs = some x → ∃ a, d.K w a cs ∧ G a
section
variable {P : Program} {t : TypeId}
theorem opens_int {k : IntKind} (ht : P.underlying t = some (.int k)) : Opens P (Kd.int k) t (fun n => (Lit.int k n).wf = true) := ⟨fun h => by
 obtain ⟨n, rfl, _, hw⟩ := DataW.trod_int ht h
 exact ⟨n, rfl, hw⟩⟩
theorem opens_slice {α : Type} {d : Kd α} {e : TypeId} {G : α → Prop} (ht : P.underlying t = some (.slice e)) (hc : P.cellsOf e = d.sz) (ho : Opens P d e G) :
 Opens P (Kd.slice e d) t (fun l => l.length ≤ 9223372036854775807 ∧ ∀ y ∈ l, G y) := ⟨by
 intro H enc w base spare held fuel cs x h; rcases Go.Deep.open_slice ht h with ⟨rfl, _⟩ | ⟨a, len, cap, m, n, D, Pl, rfl, hba, hl, hm, hmm, hxe, hx⟩
 · exact ⟨[], ⟨none, 0, rfl, Nat.le_refl _, rfl, by simp, fun hp => absurd hp (by simp)⟩, by simp, fun y hy => by cases hy⟩
 · clear hxe hba
   have hlm : len ≤ m := by rw [hmm]; split <;> omega
   have key : ∀ i, i < len → ∃ y : α, (∃ c, c.length = d.sz ∧ d.K w y c ∧ ∀ j u, c[j]? = some u → w.cell? (a.add (i * d.sz + j)) = some u) ∧ G y := by
    intro i hi; obtain ⟨cs', h1, h2⟩ := hx i (by omega); obtain ⟨y, hy, hg⟩ := ho.out h2; obtain ⟨_, h3, h4⟩ := World.cells?_some h1; rw [hc] at h3 h4; refine ⟨y, ⟨cs', h3, hy, fun j u hu => ?_⟩, hg⟩
    have hj : j < d.sz := by
     have := (List.getElem?_eq_some_iff.1 hu).1; omega
    have h5 := h4 j hj; rw [Go.Deep.add_add, hu] at h5
    exact h5
   obtain ⟨l, hlen, hall⟩ : ∃ l : List α, l.length = len ∧ ∀ i y, l[i]? = some y → (∃ c, c.length = d.sz ∧ d.K w y c ∧ ∀ j u, c[j]? = some u → w.cell? (a.add (i * d.sz + j)) = some u) ∧ G y := by
    clear hx hlm hmm h hl; induction len with
    | zero => exact ⟨[], rfl, fun i y hy => by simp at hy⟩
    | succ k ih =>
     obtain ⟨l, h1, h2⟩ := ih (fun i hi => key i (by omega)); obtain ⟨y, hy⟩ := key k (by omega); refine ⟨l ++ [y], by simp [h1], fun i z hz => ?_⟩; rcases Nat.lt_trichotomy i k with hik | hik | hik
     · rw [List.getElem?_append_left (by omega)] at hz
       exact h2 i z hz
     · subst hik
       rw [List.getElem?_append_right (by omega), h1] at hz; simp at hz
       subst hz
       exact hy
     · rw [List.getElem?_eq_none (by simp; omega)] at hz
       cases hz
   subst hlen; have hb : l.length ≤ 9223372036854775807 := Nat.le_trans hl (by unfold maxLen at hm; exact hm); refine ⟨l, ⟨some a, cap, rfl, hl, rfl, hb, fun _ => ⟨a, rfl, fun j p hj => (hall j p hj).1⟩⟩, hb, fun y hy => ?_⟩; obtain ⟨i, hi, rfl⟩ := List.getElem_of_mem hy
   exact (hall i _ (List.getElem?_eq_getElem hi)).2⟩
end
/-- Draws stand outermost. -/
theorem setCell_drewN (w : World) (n : Nat) (a : Addr) (v : Value) : (w.drewN n).setCell a v = (w.setCell a v).drewN n := rfl
/-- A slice that came in. -/
theorem arg_slice {α : Type} {P : Program} {d : Kd α} {t e : TypeId} {G : List α → Prop} (ho : Opens P (Kd.slice e d) t G) {H : Type} {enc : TypeId × Value → H} {w : World} {base : Nat} {spare : Nat → Bool} {held : Bool} {a : Option Addr} {len cap : Nat} {dd : DataW H} {ps : List MemPlace}
 (h : DataW.Trod enc P w base spare held t (.slice a len cap) dd ps) : ∃ l : List α, l.length = len ∧ l.length ≤ cap ∧ d.C w a l.length l ∧ G l := by
 obtain ⟨n, hn⟩ := h; obtain ⟨l, ⟨A, c, he, hl, hC⟩, hg⟩ := ho.out hn; simp [Value.cells] at he
 obtain ⟨rfl, rfl, rfl⟩ := he
 exact ⟨l, rfl, hl, hC, hg⟩
/-- Strings above: the other way round. -/
theorem bytesLess_not : ∀ a b : List UInt8, (!(Op.bytesLess a b || a == b)) = Op.bytesLess b a
 | [], [] => rfl
 | [], _ :: _ => rfl
 | _ :: _, [] => rfl
 | a :: x, b :: y => by
  have ih := bytesLess_not x y; simp only [Op.bytesLess, List.cons_beq_cons]; rcases Nat.lt_trichotomy a.toNat b.toNat with h | h | h
  · have h1 : (a < b) = True := by simp [UInt8.lt_iff_toNat_lt, h]
    have h2 : (b < a) = False := by simp [UInt8.lt_iff_toNat_lt]; omega
    have h3 : (b == a) = false := by rw [beq_eq_false_iff_ne]; rintro rfl; omega
    simp [h1, h2, h3]
  · obtain rfl := UInt8.toNat_inj.1 h
    simpa using ih
  · have h1 : (a < b) = False := by simp [UInt8.lt_iff_toNat_lt]; omega
    have h2 : (b < a) = True := by simp [UInt8.lt_iff_toNat_lt, h]
    have h3 : (a == b) = false := by rw [beq_eq_false_iff_ne]; rintro rfl; omega
    simp [h1, h2, h3]
@[go_sem] theorem string_gtr (t : TypeId) (a b : ByteArray) : binOp .gtr t (.string a) (.string b) = pure (.bool (Op.bytesLess b.toList a.toList)) := by rw [← bytesLess_not]; simp [binOp, Op.stringOp]
@[go_sem] theorem string_leq (t : TypeId) (a b : ByteArray) : binOp .leq t (.string a) (.string b) = pure (.bool !(Op.bytesLess b.toList a.toList)) := by rw [← bytesLess_not, Bool.not_not]; simp [binOp, Op.stringOp]
@[go_sem] theorem string_geq (t : TypeId) (a b : ByteArray) : binOp .geq t (.string a) (.string b) = pure (.bool !(Op.bytesLess a.toList b.toList)) := by simp [binOp, Op.stringOp]
end Go.Proofs.YtlmpmlcjlioeaaaDoor.Opens
namespace Go.Proofs.YtlmpmlcjlioeaaaDoor.P
open Go.RowKit Go.Proofs.YtlmpmlcjlioeaaaDoorW.PrintWords Go.Proofs.YtlmpmlcjlioeaaaDoorW.PrintLast Go.Proofs.YtlmpmlcjlioeaaaDoorW.PrintMore
attribute [local go_sem] max2_int min2_int max_two min_two max_three min_three max_four min_four
set_option linter.unusedVariables false
set_option linter.unusedSimpArgs false
def errW : Option Int → Value
 | none => .nilIface
 | some c => .iface 0 (.int .i64 c)
theorem errW_none : errW none = .nilIface := rfl
theorem errW_some (c : Int) : errW (some c) = .iface 0 (.int .i64 c) := rfl
theorem info5 : (Tryd.prog.info? 5).map (fun i => (i.zero, i.size, i.bytes)) = some (some (.int .u8 0), 1, 1) := by kernel_rfl
theorem info9 : (Tryd.prog.info? 9).map (fun i => (i.zero, i.size, i.bytes)) = some (some (.string ⟨#[]⟩), 1, 16) := by kernel_rfl
theorem info42 : (Tryd.prog.info? 42).map (fun i => (i.zero, i.size, i.bytes)) = some (some (.agg #[(.string ⟨#[]⟩), (.string ⟨#[]⟩), (.int .i64 0), (.bool false), (.int .i64 0)]), 5, 56) := by kernel_rfl
theorem info54 : (Tryd.prog.info? 54).map (fun i => (i.zero, i.size, i.bytes)) = some (some (.agg #[(.string ⟨#[]⟩), (.int .i64 0)]), 2, 24) := by kernel_rfl
structure SiS23 where
 f0 : ByteArray
 f1 : ByteArray
 f2 : Int
 f3 : Bool
 f4 : Int
def ziS28 : SiS23 := ⟨(⟨#[]⟩ : ByteArray), (⟨#[]⟩ : ByteArray), (0 : Int), false, (0 : Int)⟩
def k42 : Kd SiS23 := Kd.iso (Kd.pair Kd.string (Kd.pair Kd.string (Kd.pair (Kd.int .i64) (Kd.pair Kd.bool (Kd.int .i64))))) (fun x : SiS23 => (x.f0, x.f1, x.f2, x.f3, x.f4))
theorem k42_open {w : World} {x : SiS23} {cs : List Value} (h : k42.K w x cs) : cs = [.string x.f0, .string x.f1, .int .i64 x.f2, .bool x.f3, .int .i64 x.f4] := by
 obtain ⟨_, _, rfl, rfl, ⟨_, _, rfl, rfl, ⟨_, _, rfl, rfl, ⟨_, _, rfl, rfl, rfl⟩⟩⟩⟩ := h
 exact rfl
theorem k42_openM {w : World} {base : Nat} {ok : Nat → Prop} {x : SiS23} {cs : List Value} (h : k42.M w base ok x cs) : cs = [.string x.f0, .string x.f1, .int .i64 x.f2, .bool x.f3, .int .i64 x.f4] := by
 obtain ⟨_, _, rfl, rfl, ⟨_, _, rfl, rfl, ⟨_, _, rfl, rfl, ⟨_, _, rfl, rfl, rfl⟩⟩⟩⟩ := h
 exact rfl
theorem k42_mkM (w : World) (base : Nat) (ok : Nat → Prop) (x : SiS23)  : k42.M w base ok x [.string x.f0, .string x.f1, .int .i64 x.f2, .bool x.f3, .int .i64 x.f4] := ⟨[.string x.f0], [.string x.f1, .int .i64 x.f2, .bool x.f3, .int .i64 x.f4], rfl, rfl, ⟨[.string x.f1], [.int .i64 x.f2, .bool x.f3, .int .i64 x.f4], rfl, rfl, ⟨[.int .i64 x.f2], [.bool x.f3, .int .i64 x.f4], rfl, rfl, ⟨[.bool x.f3], [.int .i64 x.f4], rfl, rfl, rfl⟩⟩⟩⟩
def riS26 (xs : List SiS23) (i : Int) : SiS23 := xs.getD i.toNat ziS28
theorem at_T42 {w : World} {A : Option Addr} {n : Nat} {xs : List SiS23} (h : Kd.C k42 w A n xs) (i : Int) (h0 : 0 ≤ i) (h1 : i < n) : ∃ ad , A = some ad ∧ w.cell? (ad.add (i.toNat * 5)) = some (.string (riS26 xs i).f0) ∧ w.cell? ⟨(ad.add (i.toNat * 5)).block, (ad.add (i.toNat * 5)).off + 1, none⟩ = some (.string (riS26 xs i).f1) ∧ w.cell? ⟨(ad.add (i.toNat * 5)).block, (ad.add (i.toNat * 5)).off + 2, none⟩ = some (.int .i64 (riS26 xs i).f2) ∧ w.cell? ⟨(ad.add (i.toNat * 5)).block, (ad.add (i.toNat * 5)).off + 3, none⟩ = some (.bool (riS26 xs i).f3) ∧ w.cell? ⟨(ad.add (i.toNat * 5)).block, (ad.add (i.toNat * 5)).off + 4, none⟩ = some (.int .i64 (riS26 xs i).f4) := by
 obtain ⟨ad, c, e, _, hK, hc0⟩ := Kd.C_get h ziS28 i h0 h1; have hc : ∀ j u, c[j]? = some u → w.cell? (ad.add (i.toNat * 5 + j)) = some u := hc0; obtain rfl := k42_open hK
 exact ⟨ad, e, hc 0 _ rfl, by rw [← add_field _ _ 1 (by omega)]; exact hc 1 _ rfl, by rw [← add_field _ _ 2 (by omega)]; exact hc 2 _ rfl, by rw [← add_field _ _ 3 (by omega)]; exact hc 3 _ rfl, by rw [← add_field _ _ 4 (by omega)]; exact hc 4 _ rfl⟩
structure SiU25 where
 f0 : ByteArray
 f1 : Int
def ziU29 : SiU25 := ⟨(⟨#[]⟩ : ByteArray), (0 : Int)⟩
def k54 : Kd SiU25 := Kd.iso (Kd.pair Kd.string (Kd.int .i64)) (fun x : SiU25 => (x.f0, x.f1))
theorem k54_open {w : World} {x : SiU25} {cs : List Value} (h : k54.K w x cs) : cs = [.string x.f0, .int .i64 x.f1] := by
 obtain ⟨_, _, rfl, rfl, rfl⟩ := h
 exact rfl
theorem k54_openM {w : World} {base : Nat} {ok : Nat → Prop} {x : SiU25} {cs : List Value} (h : k54.M w base ok x cs) : cs = [.string x.f0, .int .i64 x.f1] := by
 obtain ⟨_, _, rfl, rfl, rfl⟩ := h
 exact rfl
theorem k54_mkM (w : World) (base : Nat) (ok : Nat → Prop) (x : SiU25)  : k54.M w base ok x [.string x.f0, .int .i64 x.f1] := ⟨[.string x.f0], [.int .i64 x.f1], rfl, rfl, rfl⟩
def riU27 (xs : List SiU25) (i : Int) : SiU25 := xs.getD i.toNat ziU29
theorem at_T54 {w : World} {A : Option Addr} {n : Nat} {xs : List SiU25} (h : Kd.C k54 w A n xs) (i : Int) (h0 : 0 ≤ i) (h1 : i < n) : ∃ ad , A = some ad ∧ w.cell? (ad.add (i.toNat * 2)) = some (.string (riU27 xs i).f0) ∧ w.cell? ⟨(ad.add (i.toNat * 2)).block, (ad.add (i.toNat * 2)).off + 1, none⟩ = some (.int .i64 (riU27 xs i).f1) := by
 obtain ⟨ad, c, e, _, hK, hc0⟩ := Kd.C_get h ziU29 i h0 h1; have hc : ∀ j u, c[j]? = some u → w.cell? (ad.add (i.toNat * 2 + j)) = some u := hc0; obtain rfl := k54_open hK
 exact ⟨ad, e, hc 0 _ rfl, by rw [← add_field _ _ 1 (by omega)]; exact hc 1 _ rfl⟩
structure SiT24 where
 f0 : ByteArray
 f1 : ByteArray
 f2 : Int
 f3 : Int
 f4 : Bool
 f5 : (List ByteArray)
 f6 : ByteArray
def k67 : Kd SiT24 := Kd.iso (Kd.pair Kd.string (Kd.pair Kd.string (Kd.pair (Kd.int .i64) (Kd.pair (Kd.int .i64) (Kd.pair Kd.bool (Kd.pair (Kd.slice 9 Kd.string) Kd.string)))))) (fun x : SiT24 => (x.f0, x.f1, x.f2, x.f3, x.f4, x.f5, x.f6))
structure SiP22 where
 f0 : Int
 f1 : ByteArray
 f2 : ByteArray
 f3 : ByteArray
def k150 : Kd SiP22 := Kd.iso (Kd.pair (Kd.int .i64) (Kd.pair Kd.string (Kd.pair Kd.string Kd.string))) (fun x : SiP22 => (x.f0, x.f1, x.f2, x.f3))
/-- Is it the space of this name? -/
def fsp.p (nm : ByteArray) (x : SiS23) : Bool := (x.f0.toList == nm.toList)
set_option maxHeartbeats 4000000 in
theorem fsp.closure (x : SiS23) (nm : ByteArray) (gn : Nat) (b : Bool) (w : World) (hX : w.heap[gn]? = some (.cells #[.string nm] 9 (0, 0))) (hb : fsp.p nm x = b) :
 Calls Tryd.prog 99 #[.agg #[.string x.f0, .string x.f1, .int .i64 x.f2, .bool x.f3, .int .i64 x.f4], .pointer (some ⟨gn, 0, none⟩)] w fun r w' => r = .returned (.bool b) ∧ Below w.heap.size w w' := by
 have hu := Tryd.underlying42; have HX := As0.mk hX; have HB := As0.mk (Below.refl w.heap.size w); clear hX; unfold fsp.p at hb; subst hb
 go_enter Tryd.func99, Tryd.ntmps99
 go_wp2_with ((with_reducible refine gate_dst (N := 2) rfl ?_); refine box_event ?hg (N := 2) ?hd (cs := #[.string x.f0, .string x.f1, .int .i64 x.f2, .bool x.f3, .int .i64 x.f4]) (t := 42) ?hr ?_; (case hd => rfl); (case hg => rfl); (case hr => first | (go_simp; done) | (go_simp; rfl)); intro gb hg w8 hbox hb; have n0_ := As0.mk (bsp HB.out hb); have n1_ := As0.mk hbox; have n2_ := As0.mk (blk_below HX.out hb); clear HB HX; have HB := n0_; have BK := n1_; have HX := n2_; clear n0_ n1_ n2_; clear hb hbox hg; have q0 : w8.cell? ⟨gb, 0, none⟩ = some (.string x.f0) := (bkC BK.out 0).trans rfl; have q1 : w8.cell? ⟨gb, 1, none⟩ = some (.string x.f1) := (bkC BK.out 1).trans rfl; have q2 : w8.cell? ⟨gb, 2, none⟩ = some (.int .i64 x.f2) := (bkC BK.out 2).trans rfl; have q3 : w8.cell? ⟨gb, 3, none⟩ = some (.bool x.f3) := (bkC BK.out 3).trans rfl; have q4 : w8.cell? ⟨gb, 4, none⟩ = some (.int .i64 x.f4) := (bkC BK.out 4).trans rfl; have u0 : w8.cell? ⟨gn, 0, none⟩ = some (.string nm) := (bkC HX.out 0).trans rfl)
 go_ret
 exact ⟨by first | rfl | (simp; done), by repeat (first | (with_reducible first | exact HB.out | apply pbN | apply bd1) | exact HB.out)⟩
/-- The place of the first element that answers yes, from place i on; -1 for none. -/
def fsp.idx {α : Type} (p : α → Bool) : List α → Int → Int
 | [], _ => -1
 | x :: r, i => if p x = true then i else fsp.idx p r (i + 1)
set_option maxHeartbeats 4000000 in
set_option maxRecDepth 100000 in
theorem fsp.index (A : Option Addr) (c : Nat) (l : List (SiS23)) (nm : ByteArray) (gn : Nat) (r : Int) (w : World) (hr : Kd.C k42 w A l.length l) (hX : w.heap[gn]? = some (.cells #[.string nm] 9 (0, 0))) (hR : fsp.idx (fsp.p nm) l 0 = r) :
 Calls Tryd.prog 98 #[.slice A l.length c, .func (.func 99) #[] #[.pointer (some ⟨gn, 0, none⟩)]] w fun e w' => e = .returned (.int .i64 r) ∧ Below w.heap.size w w' := by
 have hu := Tryd.underlying42; have HR := As0.mk hr; have HX := As0.mk hX; clear hX; have HB := As0.mk (Below.refl w.heap.size w); have HQ := As0.mk hR; clear hr hR
 go_enter Tryd.func98, Tryd.ntmps98
 go_wp2
 go_loopg [8] l.length (fun m v w' => ∃ i : Nat, v = .int .i64 (i : Int) ∧ As0 (i + m = l.length) ∧ As0 (fsp.idx (fsp.p nm) (l.drop i) (i : Int) = r) ∧ As0 (Below w.heap.size w w'))
 case atStart => exact ⟨0, (by first | rfl | (simp; done)), ⟨by simp⟩, ⟨HQ.out⟩, HB⟩
 case round =>
  clear HB HQ; obtain ⟨i, rfl, HM, HI, HB⟩ := hrel; have hbound : l.length ≤ 9223372036854775807 := HR.out.2.1
  cases gk with
  | zero =>
   have hm := HM.out; have t0 : decide ((i : Int) < (l.length : Int)) = false := decide_eq_false (by omega); have t1 : decide (i < l.length) = false := decide_eq_false (by omega); have HE := As0.mk (show (-1 : Int) = r by have h := HI.out; rw [List.drop_of_length_le (by omega)] at h; exact h); clear hm HI HM hbound
   go_wp2
   go_ret
   exact ⟨by rw [← HE.out]; first | done | rfl | (simp; done), HB.out⟩
  | succ k2 =>
   have hm := HM.out; have hi : i < l.length := by omega
   have t0 : decide ((i : Int) < (l.length : Int)) = true := decide_eq_true (by omega); have t1 : decide (i < l.length) = true := decide_eq_true hi; have hx : riS26 l (i : Int) = l[i] := by simp [riS26, List.getElem?_eq_getElem hi]
   have hd : l.drop i = riS26 l (i : Int) :: l.drop (i + 1) := by rw [hx]; exact List.drop_eq_getElem_cons hi
   have hI := HI.out; rw [hd, fsp.idx] at hI; obtain ⟨ad, e0, hx0, hx1, hx2, hx3, hx4⟩ := at_T42 HR.out (i : Int) (by omega) (by omega)
   cases e0
   replace hx0 := bx HB.out rfl hx0; replace hx1 := bx HB.out rfl hx1; replace hx2 := bx HB.out rfl hx2; replace hx3 := bx HB.out rfl hx3; replace hx4 := bx HB.out rfl hx4; simp only [Int.toNat_natCast] at hx0 hx1 hx2 hx3 hx4; have p0 : (0 ≤ (i : Int)) = True := eq_true (by omega); have q1 : (i < l.length) = True := eq_true hi; have q2 : ((i : Int) < (l.length : Int)) = True := eq_true (by omega); have w0_ : wrap64 ((i : Int) + 1) = ((i + 1 : Nat) : Int) := by unfold wrap64; omega
   have i0_ : ((i : Int)).toNat = i := rfl; clear hx hd HI
   cases hp : (fsp.p nm) (riS26 l (i : Int)) with
   | true =>
    have HP := As0.mk hp; have HE := As0.mk (show (i : Int) = r by rw [hp] at hI; simpa using hI); clear hp hI hm hi HM w0_
    go_wp2_with (go_at_call 99; (with_reducible refine (fsp.closure _ nm gn _ _ (blk_below HX.out HB.out) HP.out).mono ?_); rintro e w' ⟨rfl, hb⟩; have n0_ := As0.mk (bsp HB.out hb); clear HB hb; have HB := n0_; clear n0_)
    go_ret
    exact ⟨by rw [← HE.out]; first | done | rfl | (simp; done), by repeat (first | (with_reducible first | exact HB.out | apply pbN | apply bd1) | exact HB.out)⟩
   | false =>
    have HP := As0.mk hp; have HE := As0.mk (show fsp.idx (fsp.p nm) (l.drop (i + 1)) ((i : Int) + 1) = r by rw [hp] at hI; simpa using hI); have HM2 := As0.mk (show i + 1 + k2 = l.length by omega); have W0 := As0.mk w0_; clear hp hI hm hi HM w0_
    go_wp2_with (go_at_call 99; (with_reducible refine (fsp.closure _ nm gn _ _ (blk_below HX.out HB.out) HP.out).mono ?_); rintro e w' ⟨rfl, hb⟩; have n0_ := As0.mk (bsp HB.out hb); clear HB hb; have HB := n0_; clear n0_)
    go_roundg k2
    case measure => omega
    case rel => exact ⟨i + 1, (by first | rw [W0.out] | (simp; done)), HM2, ⟨HE.out⟩, ⟨by repeat (first | (with_reducible first | exact HB.out | apply pbN | apply bd1) | exact HB.out)⟩⟩
/-- slices.IndexFunc at findSpace's closure: where the space of this name is. -/
def impl_Space.f (l : List (SiS23)) (nm : ByteArray) : Option (Int) := some (fsp.idx (fsp.p nm) l 0)
theorem impl_Space.calls (A : Option Addr) (c : Nat) (l : List (SiS23)) (nm : ByteArray) (gn : Nat) (r : Int) (w : World) (hr : Kd.C k42 w A l.length l) (_ : l.length ≤ c)
 (hX : w.heap[gn]? = some (.cells #[.string nm] 9 (0, 0))) (h : impl_Space.f l nm = some r) :
 Calls Tryd.prog 98 #[.slice A l.length c, .func (.func 99) #[] #[.pointer (some ⟨gn, 0, none⟩)]] w fun e w' => e = .returned (.int .i64 r) ∧ Below w.heap.size w w' :=
 fsp.index A c l nm gn r w hr hX (Option.some.inj h)
def impl_findSpace.f (l0 : List (SiS23)) (a1 : ByteArray) : Option (Int) := (impl_Space.f l0 a1).bind fun t148 => (some t148)
set_option maxHeartbeats 8000000 in
set_option maxRecDepth 100000 in
theorem impl_findSpace.calls (A0 : Option Addr) (c0 : Nat) (l0 : List (SiS23)) (a1 : ByteArray) (r : Int) (w : World) (hr0 : Kd.C k42 w A0 l0.length l0) (hc0 : l0.length ≤ c0) (h : impl_findSpace.f l0 a1 = some r) :
 Calls Tryd.prog 73 #[.slice A0 l0.length c0, .string a1] w fun e w' => e = .returned (.int .i64 r) ∧ Below w.heap.size w w' := by
 have HR0 := As0.mk hr0; have HC0 := As0.mk hc0; clear hr0 hc0; have HB := As0.mk (Below.refl w.heap.size w); have H : ((impl_Space.f l0 a1).bind fun t148 => (some t148)) = some r := h; clear h; replace H := Option.bind_eq_some_iff.mp H; obtain ⟨t148, A30, H⟩ := H; replace H : (some t148) = some r := H; have A3 := As0.mk A30; clear A30; obtain rfl := Option.some.inj H
 go_enter Tryd.func73, Tryd.ntmps73
 go_wp2_with (first | ((with_reducible refine gate_dst (N := 3) rfl ?_); refine box_event ?hg (N := 3) ?hd (cs := #[.string a1]) (t := 9) ?hr ?_; (case hd => rfl); (case hg => rfl); (case hr => first | (go_simp; done) | (go_simp; rfl)); intro gb147 hg w4 hbox hb; have n0_ := As0.mk (bsp (by repeat (first | (with_reducible first | exact HB.out | apply bal | apply pbN | apply bd1) | exact HB.out)) hb); have n1_ := As0.mk (hbox); have n2_ := As0.mk ((by rw [hg]; exact (bsz (by repeat (first | (with_reducible first | exact HB.out | apply bal | apply pbN | apply bd1) | exact HB.out))) : w.heap.size ≤ gb147)); have n3_ := As0.mk ((by rw [hg]; exact (bsz (by repeat (first | (with_reducible first | exact HB.out | apply bal | apply pbN | apply bd1) | exact HB.out))) : w.heap.size ≤ gb147)); clear HB; have HB := n0_; have BK147 := n1_; have GW147 := n2_; have GE147 := n3_; clear n0_ n1_ n2_ n3_; clear hb hbox hg) | ((with_reducible refine gca (f := 98) rfl ?_); refine goesL_ (some 7) rfl rfl Tryd.func98 (by kernel_rfl) rfl #[.slice A0 l0.length c0, .func (.func 99) #[] #[.pointer (some ⟨gb147, 0, none⟩)]] rfl (by (try simp only [List.map_toArray, List.map_cons, List.map_nil]); first | done | rfl | (simp only [List.length_drop, List.length_take]; rfl)) ?_; (with_reducible refine (impl_Space.calls _ _ l0 a1 gb147 t148 _ ?side1 ?side2 ?side3 A3.out).mono ?_); (case side1 => repeat (first | exact (Kd.C_below HR0.out HB.out) | (with_reducible refine Kd.C_alloc ?_ _) | (with_reducible refine Kd.C_drewN ?_ _) | (with_reducible refine Kd.C_drew ?_))); (case side2 => exact HC0.out); (case side3 => exact (by (with_reducible repeat (first | refine bkN ?_ _ | refine bkD ?_ | refine bkA ?_ _)); exact BK147.out)); rintro e w5 ⟨rfl, hb⟩; refine ⟨_, rfl, ?_⟩; have n0_ := As0.mk (blk_below (g := gb147) (o := .cells #[.string a1] 9 (0, 0)) (by (with_reducible repeat (first | refine bkN ?_ _ | refine bkD ?_ | refine bkA ?_ _)); exact BK147.out) hb); have n1_ := As0.mk (bsp (by repeat (first | (with_reducible first | exact HB.out | apply bal | apply pbN | apply bd1 | refine bst ?_ GE147.out) | exact HB.out)) hb); clear BK147; clear HB; have BK147 := n0_; have HB := n1_; clear n0_ n1_; (try clear hb); (try clear hb2); (try clear hk); (try clear hi)))
 go_ret
 exact ⟨eW, by repeat (first | (with_reducible first | exact HB.out | apply bal | apply pbN | apply bd1 | refine bst ?_ GE147.out) | exact HB.out)⟩
end Go.Proofs.YtlmpmlcjlioeaaaDoor.P
/-
 DERIVED: THE SHELF's CONTRACTS AT THIS DUMP, IN PLAIN WORDS (tools/lay-plain.mjs out of 'TrydShelf.lean', which tools/lay-shelf.mjs wrote): THE SAME DECLARATIONS UNDER THE SAME NAMES: 'import', 'namespace', 'open', 'def', 'theorem' AND NOTHING ELSE: no command of the shelf's: FOR A HAND-IN. Each laying: the table of numbers ('.._ren') and one theorem, a field a fact of the dump's own or the kernel's comparison; each contract: ONE APPLICATION.
-/
namespace Go.Proofs
open Go.Shelf
def Tryd.lays160_ren : Go.Shelf.Ren := ⟨fun | 160 => 111 | 232 => 115 | 231 => 114 | 227 => 116 | 234 => 118 | 233 => 117 | 236 => 120 | 235 => 119 | 228 => 121 | 271 => 124 | 151 => 123 | 197 => 122 | 120 => 127 | 152 => 126 | 260 => 125 | 137 => 128 | 119 => 129 | 224 => 130 | 225 => 131 | 217 => 132 | 266 => 133 | n => n, fun | 9 => 9 | 4 => 4 | 3 => 3 | 5 => 5 | 117 => 116 | 116 => 115 | 0 => 0 | 124 => 119 | 21 => 21 | 105 => 121 | 46 => 126 | 119 => 125 | 139 => 129 | 138 => 128 | n => n, fun | 3 => 0 | 4 => 1 | n => n⟩
theorem Tryd.lays160 : Go.Proofs.Lays.n160 Tryd.prog Tryd.lays160_ren := {
 mixed := by kernel_rfl
 f119 := Tryd.func129.trans (congrArg some (by kernel_rfl))
 f120 := Tryd.func127.trans (congrArg some (by kernel_rfl))
 f137 := Tryd.func128.trans (congrArg some (by kernel_rfl))
 f151 := Tryd.func123.trans (congrArg some (by kernel_rfl))
 f152 := Tryd.func126.trans (congrArg some (by kernel_rfl))
 f160 := Tryd.func111.trans (congrArg some (by kernel_rfl))
 f197 := Tryd.func122.trans (congrArg some (by kernel_rfl))
 f217 := Tryd.func132.trans (congrArg some (by kernel_rfl))
 f224 := Tryd.func130.trans (congrArg some (by kernel_rfl))
 f225 := Tryd.func131.trans (congrArg some (by kernel_rfl))
 f227 := Tryd.func116.trans (congrArg some (by kernel_rfl))
 f228 := Tryd.func121.trans (congrArg some (by kernel_rfl))
 f231 := Tryd.func114.trans (congrArg some (by kernel_rfl))
 f232 := Tryd.func115.trans (congrArg some (by kernel_rfl))
 f233 := Tryd.func117.trans (congrArg some (by kernel_rfl))
 f234 := Tryd.func118.trans (congrArg some (by kernel_rfl))
 f235 := Tryd.func119.trans (congrArg some (by kernel_rfl))
 f236 := Tryd.func120.trans (congrArg some (by kernel_rfl))
 f260 := Tryd.func125.trans (congrArg some (by kernel_rfl))
 f266 := Tryd.func133.trans (congrArg some (by kernel_rfl))
 f271 := Tryd.func124.trans (congrArg some (by kernel_rfl))
 t0 := Tryd.underlying0
 a0 := Tryd.isAgg0
 z0 := Tryd.sizeOf0
 v0 := Tryd.zeroValue0
 t3 := Tryd.underlying3
 a3 := Tryd.isAgg3
 z3 := Tryd.sizeOf3
 v3 := Tryd.zeroValue3
 t4 := Tryd.underlying4
 a4 := Tryd.isAgg4
 z4 := Tryd.sizeOf4
 v4 := Tryd.zeroValue4
 t5 := Tryd.underlying5
 a5 := Tryd.isAgg5
 z5 := Tryd.sizeOf5
 v5 := Tryd.zeroValue5
 t9 := Tryd.underlying9
 a9 := Tryd.isAgg9
 z9 := Tryd.sizeOf9
 v9 := Tryd.zeroValue9
 t21 := Tryd.underlying21
 a21 := Tryd.isAgg21
 z21 := Tryd.sizeOf21
 v21 := Tryd.zeroValue21
 t46 := Tryd.underlying126
 a46 := Tryd.isAgg126
 z46 := Tryd.sizeOf126
 v46 := Tryd.zeroValue126
 t105 := Tryd.underlying121
 a105 := Tryd.isAgg121
 z105 := Tryd.sizeOf121
 v105 := Tryd.zeroValue121
 t116 := Tryd.underlying115
 a116 := Tryd.isAgg115
 z116 := Tryd.sizeOf115
 t117 := Tryd.underlying116
 a117 := Tryd.isAgg116
 z117 := Tryd.sizeOf116
 v117 := Tryd.zeroValue116
 t119 := Tryd.underlying125
 a119 := Tryd.isAgg125
 z119 := Tryd.sizeOf125
 t124 := Tryd.underlying119
 a124 := Tryd.isAgg119
 z124 := Tryd.sizeOf119
 v124 := Tryd.zeroValue119
 t138 := Tryd.underlying128
 a138 := Tryd.isAgg128
 z138 := Tryd.sizeOf128
 v138 := Tryd.zeroValue128
 t139 := Tryd.underlying129
 a139 := Tryd.isAgg129
 z139 := Tryd.sizeOf129
 v139 := Tryd.zeroValue129
 g3 := by kernel_rfl
 g4 := by kernel_rfl }
end Go.Proofs
namespace Go.Proofs.YtlmpmlcjlioeaaaDoor.P
open Go.RowKit Go.Proofs.YtlmpmlcjlioeaaaDoorW.PrintWords Go.Proofs.YtlmpmlcjlioeaaaDoorW.PrintLast Go.Proofs.YtlmpmlcjlioeaaaDoorW.PrintMore
attribute [local go_sem] max2_int min2_int max_two min_two max_three min_three max_four min_four
set_option linter.unusedVariables false
set_option linter.unusedSimpArgs false
/-- strings.Trim at a set of ASCII letters. -/
def strings_Trim.f (a0 : ByteArray) (a1 : ByteArray) : Option (ByteArray) := if a0.size ≤ 9223372036854775807 ∧ a1.size < 4294967281 ∧ a1.data.toList.all (fun b => decide (b.toNat < 128)) = true then some ⟨(Lib.trimS a0.data.toList a1.data.toList).toArray⟩ else none
theorem strings_Trim.calls (a0 : ByteArray) (a1 : ByteArray) (r : ByteArray) (w : World) (h : strings_Trim.f a0 a1 = some r) :
 Calls Tryd.prog 111 #[.string a0, .string a1] w fun e w' => e = .returned (.string r) ∧ Below w.heap.size w w' := by
 unfold strings_Trim.f at h; by_cases hc : a0.size ≤ 9223372036854775807 ∧ a1.size < 4294967281 ∧ a1.data.toList.all (fun b => decide (b.toNat < 128)) = true
 · rw [if_pos hc] at h
   obtain rfl := Option.some.inj h
   exact Any.strings_Trim_laid Tryd.lays160 (by kernel_rfl) a0 a1 w hc.1 hc.2.1 (ascii_of_all hc.2.2)
 · rw [if_neg hc] at h
   cases h
def impl_isName.f (a0 : ByteArray) : Option (Bool) := if (a0.size : Int) ≥ 1 then (if (a0.size : Int) ≤ 6 then ((strings_Trim.f a0 (⟨#[97, 98, 99, 100, 101, 102, 103, 104, 105, 106, 107, 108, 109, 110, 111, 112, 113, 114, 115, 116, 117, 118, 119, 120, 121, 122]⟩ : ByteArray)).bind fun t150 => (some (t150.toList == ([] : List UInt8)))) else (some false)) else (some false)
set_option maxHeartbeats 8000000 in
set_option maxRecDepth 100000 in
theorem impl_isName.calls (a0 : ByteArray) (r : Bool) (w : World) (h : impl_isName.f a0 = some r) :
 Calls Tryd.prog 105 #[.string a0] w fun e w' => e = .returned (.bool r) ∧ Below w.heap.size w w' := by
 have HB := As0.mk (Below.refl w.heap.size w); have H : (if (a0.size : Int) ≥ 1 then (if (a0.size : Int) ≤ 6 then ((strings_Trim.f a0 (⟨#[97, 98, 99, 100, 101, 102, 103, 104, 105, 106, 107, 108, 109, 110, 111, 112, 113, 114, 115, 116, 117, 118, 119, 120, 121, 122]⟩ : ByteArray)).bind fun t150 => (some (t150.toList == ([] : List UInt8)))) else (some false)) else (some false)) = some r := h; clear h; by_cases c2 : (a0.size : Int) ≥ 1
 · rw [if_pos c2] at H
   have c2b0 : decide (1 ≤ (a0.size : Int)) = true := decide_eq_true c2; have c2b1 : decide (1 ≤ a0.size) = true := decide_eq_true (by omega); clear c2; by_cases c3 : (a0.size : Int) ≤ 6
   · rw [if_pos c3] at H
     have c3b0 : decide ((a0.size : Int) ≤ 6) = true := decide_eq_true c3; have c3b1 : decide (a0.size ≤ 6) = true := decide_eq_true (by omega); clear c3; replace H := Option.bind_eq_some_iff.mp H; obtain ⟨t150, A40, H⟩ := H; replace H : (some (t150.toList == ([] : List UInt8))) = some r := H; have A4 := As0.mk A40; clear A40; obtain rfl := Option.some.inj H
     go_enter Tryd.func105, Tryd.ntmps105
     go_wp2_with (first | (go_at_call 111; (with_reducible refine (strings_Trim.calls a0 (⟨#[97, 98, 99, 100, 101, 102, 103, 104, 105, 106, 107, 108, 109, 110, 111, 112, 113, 114, 115, 116, 117, 118, 119, 120, 121, 122]⟩ : ByteArray) t150 _ A4.out).mono ?_); rintro e w5 ⟨rfl, hb⟩; have n0_ := As0.mk (bsp (by repeat (first | (with_reducible first | exact HB.out | apply bal | apply pbN | apply bd1) | exact HB.out)) hb); clear HB; have HB := n0_; clear n0_; (try clear hb); (try clear hb2); (try clear hk); (try clear hi)))
     go_ret
     exact ⟨eW, by repeat (first | (with_reducible first | exact HB.out | apply bal | apply pbN | apply bd1) | exact HB.out)⟩
   · rw [if_neg c3] at H
     have c3b0 : decide ((a0.size : Int) ≤ 6) = false := decide_eq_false c3; have c3b1 : decide (a0.size ≤ 6) = false := decide_eq_false (by omega); clear c3; obtain rfl := Option.some.inj H
     go_enter Tryd.func105, Tryd.ntmps105
     go_wp2
     go_ret
     exact ⟨eW, by repeat (first | (with_reducible first | exact HB.out | apply bal | apply pbN | apply bd1) | exact HB.out)⟩
 · rw [if_neg c2] at H
   have c2b0 : decide (1 ≤ (a0.size : Int)) = false := decide_eq_false c2; have c2b1 : decide (1 ≤ a0.size) = false := decide_eq_false (by omega); clear c2; obtain rfl := Option.some.inj H
   go_enter Tryd.func105, Tryd.ntmps105
   go_wp2
   go_ret
   exact ⟨eW, by repeat (first | (with_reducible first | exact HB.out | apply bal | apply pbN | apply bd1) | exact HB.out)⟩
def impl_isSpace.j0 : Nat → Bool → ByteArray → ByteArray → Int → Bool → Int → Option (Bool)
 | 0, _, _, _, _, _, _ => none
 | k + 1, x26, x152000, x152001, x152002, x152003, x152004 => if x26 = true then (some false) else (if x152000.toList = ([97, 108, 108] : List UInt8) then (if x152001.toList = ([] : List UInt8) then (some (!x152003)) else (some false)) else ((impl_isName.f x152001).bind fun t153 => (some t153)))
def impl_isSpace.f (k : Nat) (a0_0 : ByteArray) (a0_1 : ByteArray) (a0_2 : Int) (a0_3 : Bool) (a0_4 : Int) : Option (Bool) := (impl_isName.f a0_0).bind fun t152 => (if t152 = true then (if a0_2 < (-1) then (impl_isSpace.j0 k true a0_0 a0_1 a0_2 a0_3 a0_4) else (if a0_2 > 99999 then (impl_isSpace.j0 k true a0_0 a0_1 a0_2 a0_3 a0_4) else (if a0_4 < 0 then (impl_isSpace.j0 k true a0_0 a0_1 a0_2 a0_3 a0_4) else (impl_isSpace.j0 k (decide (a0_4 > 99999)) a0_0 a0_1 a0_2 a0_3 a0_4)))) else (impl_isSpace.j0 k true a0_0 a0_1 a0_2 a0_3 a0_4))
set_option maxHeartbeats 8000000 in
set_option maxRecDepth 100000 in
theorem impl_isSpace.calls (k : Nat) (a0_0 : ByteArray) (a0_1 : ByteArray) (a0_2 : Int) (a0_3 : Bool) (a0_4 : Int) (r : Bool) (w : World) (h : impl_isSpace.f k a0_0 a0_1 a0_2 a0_3 a0_4 = some r) :
 Calls Tryd.prog 92 #[.agg #[.string a0_0, .string a0_1, .int .i64 a0_2, .bool a0_3, .int .i64 a0_4]] w fun e w' => e = .returned (.bool r) ∧ Below w.heap.size w w' := by
 have hu42 := Tryd.underlying42; have HB := As0.mk (Below.refl w.heap.size w); have H : ((impl_isName.f a0_0).bind fun t152 => (if t152 = true then (if a0_2 < (-1) then (impl_isSpace.j0 k true a0_0 a0_1 a0_2 a0_3 a0_4) else (if a0_2 > 99999 then (impl_isSpace.j0 k true a0_0 a0_1 a0_2 a0_3 a0_4) else (if a0_4 < 0 then (impl_isSpace.j0 k true a0_0 a0_1 a0_2 a0_3 a0_4) else (impl_isSpace.j0 k (decide (a0_4 > 99999)) a0_0 a0_1 a0_2 a0_3 a0_4)))) else (impl_isSpace.j0 k true a0_0 a0_1 a0_2 a0_3 a0_4))) = some r := h; clear h; have HC2 := As0.mk H; clear H
 go_enter Tryd.func92, Tryd.ntmps92
 go_upto_region 1 with (first | ((with_reducible refine gate_dst (N := 1) rfl ?_); refine box_event ?hg (N := 1) ?hd (cs := #[.string a0_0, .string a0_1, .int .i64 a0_2, .bool a0_3, .int .i64 a0_4]) (t := 42) ?hr ?_; (case hd => rfl); (case hg => rfl); (case hr => first | (go_simp; done) | (go_simp; rfl)); intro gb151 hg w3 hbox hb; have n0_ := As0.mk (bsp (by repeat (first | (with_reducible first | exact HB.out | apply bal | apply pbN | apply bd1) | exact HB.out)) hb); have n1_ := As0.mk (hbox); have n2_ := As0.mk ((by rw [hg]; exact (bsz (by repeat (first | (with_reducible first | exact HB.out | apply bal | apply pbN | apply bd1) | exact HB.out))) : w.heap.size ≤ gb151)); have n3_ := As0.mk ((by rw [hg]; exact (bsz (by repeat (first | (with_reducible first | exact HB.out | apply bal | apply pbN | apply bd1) | exact HB.out))) : w.heap.size ≤ gb151)); clear HB; have HB := n0_; have BK151 := n1_; have GW151 := n2_; have GE151 := n3_; clear n0_ n1_ n2_ n3_; clear hb hbox hg))
 (try simp only [Act.put, sA, sZ, sS])
 go_cut [26] (fun v26 wc => ∃ (kq : Nat) (x26_1 : Bool), v26 = .bool x26_1 ∧ As0 (impl_isSpace.j0 kq x26_1 a0_0 a0_1 a0_2 a0_3 a0_4 = some r) ∧ As0 (kq ≤ k) ∧ As0 (wc.heap[gb151]? = some (.cells #[.string a0_0, .string a0_1, .int .i64 a0_2, .bool a0_3, .int .i64 a0_4] 42 (0, 0))) ∧ As0 (Below w.heap.size w wc))
 case first =>
  have H := HC2.out; clear HC2; replace H := Option.bind_eq_some_iff.mp H; obtain ⟨t152, A40, H⟩ := H; replace H : (if t152 = true then (if a0_2 < (-1) then (impl_isSpace.j0 k true a0_0 a0_1 a0_2 a0_3 a0_4) else (if a0_2 > 99999 then (impl_isSpace.j0 k true a0_0 a0_1 a0_2 a0_3 a0_4) else (if a0_4 < 0 then (impl_isSpace.j0 k true a0_0 a0_1 a0_2 a0_3 a0_4) else (impl_isSpace.j0 k (decide (a0_4 > 99999)) a0_0 a0_1 a0_2 a0_3 a0_4)))) else (impl_isSpace.j0 k true a0_0 a0_1 a0_2 a0_3 a0_4)) = some r := H; have A4 := As0.mk A40; clear A40; by_cases c5 : t152 = true
  · subst c5
    have H1 : (if a0_2 < (-1) then (impl_isSpace.j0 k true a0_0 a0_1 a0_2 a0_3 a0_4) else (if a0_2 > 99999 then (impl_isSpace.j0 k true a0_0 a0_1 a0_2 a0_3 a0_4) else (if a0_4 < 0 then (impl_isSpace.j0 k true a0_0 a0_1 a0_2 a0_3 a0_4) else (impl_isSpace.j0 k (decide (a0_4 > 99999)) a0_0 a0_1 a0_2 a0_3 a0_4)))) = some r := by rw [if_pos rfl] at H; exact H
    clear H; have H := H1; clear H1; by_cases c6 : a0_2 < (-1)
    · rw [if_pos c6] at H
      have c6b0 : decide (a0_2 < (-1)) = true := decide_eq_true c6; clear c6
      (first | rw [c6b0] | (simp only [i64_w, i32_w]; rw [c6b0]) | skip)
      have H' := As0.mk H; clear H; have hcz7_0 : w3.cell? ⟨gb151, 0, none⟩ = some (.string a0_0) := (bkC BK151.out 0).trans rfl; have hcz7_1 : w3.cell? ⟨gb151, 1, none⟩ = some (.string a0_1) := (bkC BK151.out 1).trans rfl; have hcz7_2 : w3.cell? ⟨gb151, 2, none⟩ = some (.int .i64 a0_2) := (bkC BK151.out 2).trans rfl; have hcz7_3 : w3.cell? ⟨gb151, 3, none⟩ = some (.bool a0_3) := (bkC BK151.out 3).trans rfl; have hcz7_4 : w3.cell? ⟨gb151, 4, none⟩ = some (.int .i64 a0_4) := (bkC BK151.out 4).trans rfl; have hfz7_0 := bkF BK151.out 0; have hfz7_1 := bkF BK151.out 1; have hfz7_2 := bkF BK151.out 2; have hfz7_3 := bkF BK151.out 3; have hfz7_4 := bkF BK151.out 4
      go_wp2_with (first | ((with_reducible refine gca (f := 105) rfl ?_); refine goesL_ (some 5) rfl rfl Tryd.func105 (by kernel_rfl) rfl #[.string a0_0] rfl (by (try simp only [List.map_toArray, List.map_cons, List.map_nil]); first | done | rfl | (simp only [List.length_drop, List.length_take]; rfl)) ?_; (with_reducible refine (impl_isName.calls a0_0 true _ A4.out).mono ?_); rintro e w8 ⟨rfl, hb⟩; refine ⟨_, rfl, ?_⟩; have n0_ := As0.mk (blk_below (g := gb151) (o := .cells #[.string a0_0, .string a0_1, .int .i64 a0_2, .bool a0_3, .int .i64 a0_4] 42 (0, 0)) (by (with_reducible repeat (first | refine bkN ?_ _ | refine bkD ?_ | refine bkA ?_ _)); exact BK151.out) hb); have n1_ := As0.mk (bsp (by repeat (first | (with_reducible first | exact HB.out | apply bal | apply pbN | apply bd1 | refine bst ?_ GE151.out) | exact HB.out)) hb); clear BK151; clear HB; have BK151 := n0_; have HB := n1_; clear n0_ n1_; (try clear hb); (try clear hb2); (try clear hk); (try clear hi); have hcz9_0 : w8.cell? ⟨gb151, 0, none⟩ = some (.string a0_0) := (bkC BK151.out 0).trans rfl; have hcz9_1 : w8.cell? ⟨gb151, 1, none⟩ = some (.string a0_1) := (bkC BK151.out 1).trans rfl; have hcz9_2 : w8.cell? ⟨gb151, 2, none⟩ = some (.int .i64 a0_2) := (bkC BK151.out 2).trans rfl; have hcz9_3 : w8.cell? ⟨gb151, 3, none⟩ = some (.bool a0_3) := (bkC BK151.out 3).trans rfl; have hcz9_4 : w8.cell? ⟨gb151, 4, none⟩ = some (.int .i64 a0_4) := (bkC BK151.out 4).trans rfl; have hfz9_0 := bkF BK151.out 0; have hfz9_1 := bkF BK151.out 1; have hfz9_2 := bkF BK151.out 2; have hfz9_3 := bkF BK151.out 3; have hfz9_4 := bkF BK151.out 4))
      go_meet
      case rel => exact ⟨_, (true), (by first | rfl | (simp; done) | (simp [*]; done)), H', ⟨by first | omega | exact Nat.le_refl _⟩, ⟨by (with_reducible repeat (first | refine bkN ?_ _ | refine bkD ?_ | refine bkA ?_ _)); exact BK151.out⟩, ⟨by repeat (first | (with_reducible first | exact HB.out | apply bal | apply pbN | apply bd1 | refine bst ?_ GE151.out) | exact HB.out)⟩⟩
    · rw [if_neg c6] at H
      have c6b0 : decide (a0_2 < (-1)) = false := decide_eq_false c6; clear c6
      (first | rw [c6b0] | (simp only [i64_w, i32_w]; rw [c6b0]) | skip)
      by_cases c10 : a0_2 > 99999
      · rw [if_pos c10] at H
        have c10b0 : decide (99999 < a0_2) = true := decide_eq_true c10; clear c10; have H' := As0.mk H; clear H; have hcz11_0 : w3.cell? ⟨gb151, 0, none⟩ = some (.string a0_0) := (bkC BK151.out 0).trans rfl; have hcz11_1 : w3.cell? ⟨gb151, 1, none⟩ = some (.string a0_1) := (bkC BK151.out 1).trans rfl; have hcz11_2 : w3.cell? ⟨gb151, 2, none⟩ = some (.int .i64 a0_2) := (bkC BK151.out 2).trans rfl; have hcz11_3 : w3.cell? ⟨gb151, 3, none⟩ = some (.bool a0_3) := (bkC BK151.out 3).trans rfl; have hcz11_4 : w3.cell? ⟨gb151, 4, none⟩ = some (.int .i64 a0_4) := (bkC BK151.out 4).trans rfl; have hfz11_0 := bkF BK151.out 0; have hfz11_1 := bkF BK151.out 1; have hfz11_2 := bkF BK151.out 2; have hfz11_3 := bkF BK151.out 3; have hfz11_4 := bkF BK151.out 4
        go_wp2_with (first | ((with_reducible refine gca (f := 105) rfl ?_); refine goesL_ (some 5) rfl rfl Tryd.func105 (by kernel_rfl) rfl #[.string a0_0] rfl (by (try simp only [List.map_toArray, List.map_cons, List.map_nil]); first | done | rfl | (simp only [List.length_drop, List.length_take]; rfl)) ?_; (with_reducible refine (impl_isName.calls a0_0 true _ A4.out).mono ?_); rintro e w12 ⟨rfl, hb⟩; refine ⟨_, rfl, ?_⟩; have n0_ := As0.mk (blk_below (g := gb151) (o := .cells #[.string a0_0, .string a0_1, .int .i64 a0_2, .bool a0_3, .int .i64 a0_4] 42 (0, 0)) (by (with_reducible repeat (first | refine bkN ?_ _ | refine bkD ?_ | refine bkA ?_ _)); exact BK151.out) hb); have n1_ := As0.mk (bsp (by repeat (first | (with_reducible first | exact HB.out | apply bal | apply pbN | apply bd1 | refine bst ?_ GE151.out) | exact HB.out)) hb); clear BK151; clear HB; have BK151 := n0_; have HB := n1_; clear n0_ n1_; (try clear hb); (try clear hb2); (try clear hk); (try clear hi); have hcz13_0 : w12.cell? ⟨gb151, 0, none⟩ = some (.string a0_0) := (bkC BK151.out 0).trans rfl; have hcz13_1 : w12.cell? ⟨gb151, 1, none⟩ = some (.string a0_1) := (bkC BK151.out 1).trans rfl; have hcz13_2 : w12.cell? ⟨gb151, 2, none⟩ = some (.int .i64 a0_2) := (bkC BK151.out 2).trans rfl; have hcz13_3 : w12.cell? ⟨gb151, 3, none⟩ = some (.bool a0_3) := (bkC BK151.out 3).trans rfl; have hcz13_4 : w12.cell? ⟨gb151, 4, none⟩ = some (.int .i64 a0_4) := (bkC BK151.out 4).trans rfl; have hfz13_0 := bkF BK151.out 0; have hfz13_1 := bkF BK151.out 1; have hfz13_2 := bkF BK151.out 2; have hfz13_3 := bkF BK151.out 3; have hfz13_4 := bkF BK151.out 4))
        go_meet
        case rel => exact ⟨_, (true), (by first | rfl | (simp; done) | (simp [*]; done)), H', ⟨by first | omega | exact Nat.le_refl _⟩, ⟨by (with_reducible repeat (first | refine bkN ?_ _ | refine bkD ?_ | refine bkA ?_ _)); exact BK151.out⟩, ⟨by repeat (first | (with_reducible first | exact HB.out | apply bal | apply pbN | apply bd1 | refine bst ?_ GE151.out) | exact HB.out)⟩⟩
      · rw [if_neg c10] at H
        have c10b0 : decide (99999 < a0_2) = false := decide_eq_false c10; clear c10; by_cases c14 : a0_4 < 0
        · rw [if_pos c14] at H
          have c14b0 : decide (a0_4 < 0) = true := decide_eq_true c14; clear c14; have H' := As0.mk H; clear H; have hcz15_0 : w3.cell? ⟨gb151, 0, none⟩ = some (.string a0_0) := (bkC BK151.out 0).trans rfl; have hcz15_1 : w3.cell? ⟨gb151, 1, none⟩ = some (.string a0_1) := (bkC BK151.out 1).trans rfl; have hcz15_2 : w3.cell? ⟨gb151, 2, none⟩ = some (.int .i64 a0_2) := (bkC BK151.out 2).trans rfl; have hcz15_3 : w3.cell? ⟨gb151, 3, none⟩ = some (.bool a0_3) := (bkC BK151.out 3).trans rfl; have hcz15_4 : w3.cell? ⟨gb151, 4, none⟩ = some (.int .i64 a0_4) := (bkC BK151.out 4).trans rfl; have hfz15_0 := bkF BK151.out 0; have hfz15_1 := bkF BK151.out 1; have hfz15_2 := bkF BK151.out 2; have hfz15_3 := bkF BK151.out 3; have hfz15_4 := bkF BK151.out 4
          go_wp2_with (first | ((with_reducible refine gca (f := 105) rfl ?_); refine goesL_ (some 5) rfl rfl Tryd.func105 (by kernel_rfl) rfl #[.string a0_0] rfl (by (try simp only [List.map_toArray, List.map_cons, List.map_nil]); first | done | rfl | (simp only [List.length_drop, List.length_take]; rfl)) ?_; (with_reducible refine (impl_isName.calls a0_0 true _ A4.out).mono ?_); rintro e w16 ⟨rfl, hb⟩; refine ⟨_, rfl, ?_⟩; have n0_ := As0.mk (blk_below (g := gb151) (o := .cells #[.string a0_0, .string a0_1, .int .i64 a0_2, .bool a0_3, .int .i64 a0_4] 42 (0, 0)) (by (with_reducible repeat (first | refine bkN ?_ _ | refine bkD ?_ | refine bkA ?_ _)); exact BK151.out) hb); have n1_ := As0.mk (bsp (by repeat (first | (with_reducible first | exact HB.out | apply bal | apply pbN | apply bd1 | refine bst ?_ GE151.out) | exact HB.out)) hb); clear BK151; clear HB; have BK151 := n0_; have HB := n1_; clear n0_ n1_; (try clear hb); (try clear hb2); (try clear hk); (try clear hi); have hcz17_0 : w16.cell? ⟨gb151, 0, none⟩ = some (.string a0_0) := (bkC BK151.out 0).trans rfl; have hcz17_1 : w16.cell? ⟨gb151, 1, none⟩ = some (.string a0_1) := (bkC BK151.out 1).trans rfl; have hcz17_2 : w16.cell? ⟨gb151, 2, none⟩ = some (.int .i64 a0_2) := (bkC BK151.out 2).trans rfl; have hcz17_3 : w16.cell? ⟨gb151, 3, none⟩ = some (.bool a0_3) := (bkC BK151.out 3).trans rfl; have hcz17_4 : w16.cell? ⟨gb151, 4, none⟩ = some (.int .i64 a0_4) := (bkC BK151.out 4).trans rfl; have hfz17_0 := bkF BK151.out 0; have hfz17_1 := bkF BK151.out 1; have hfz17_2 := bkF BK151.out 2; have hfz17_3 := bkF BK151.out 3; have hfz17_4 := bkF BK151.out 4))
          go_meet
          case rel => exact ⟨_, (true), (by first | rfl | (simp; done) | (simp [*]; done)), H', ⟨by first | omega | exact Nat.le_refl _⟩, ⟨by (with_reducible repeat (first | refine bkN ?_ _ | refine bkD ?_ | refine bkA ?_ _)); exact BK151.out⟩, ⟨by repeat (first | (with_reducible first | exact HB.out | apply bal | apply pbN | apply bd1 | refine bst ?_ GE151.out) | exact HB.out)⟩⟩
        · rw [if_neg c14] at H
          have c14b0 : decide (a0_4 < 0) = false := decide_eq_false c14; clear c14; have H' := As0.mk H; clear H; have hcz18_0 : w3.cell? ⟨gb151, 0, none⟩ = some (.string a0_0) := (bkC BK151.out 0).trans rfl; have hcz18_1 : w3.cell? ⟨gb151, 1, none⟩ = some (.string a0_1) := (bkC BK151.out 1).trans rfl; have hcz18_2 : w3.cell? ⟨gb151, 2, none⟩ = some (.int .i64 a0_2) := (bkC BK151.out 2).trans rfl; have hcz18_3 : w3.cell? ⟨gb151, 3, none⟩ = some (.bool a0_3) := (bkC BK151.out 3).trans rfl; have hcz18_4 : w3.cell? ⟨gb151, 4, none⟩ = some (.int .i64 a0_4) := (bkC BK151.out 4).trans rfl; have hfz18_0 := bkF BK151.out 0; have hfz18_1 := bkF BK151.out 1; have hfz18_2 := bkF BK151.out 2; have hfz18_3 := bkF BK151.out 3; have hfz18_4 := bkF BK151.out 4
          go_wp2_with (first | ((with_reducible refine gca (f := 105) rfl ?_); refine goesL_ (some 5) rfl rfl Tryd.func105 (by kernel_rfl) rfl #[.string a0_0] rfl (by (try simp only [List.map_toArray, List.map_cons, List.map_nil]); first | done | rfl | (simp only [List.length_drop, List.length_take]; rfl)) ?_; (with_reducible refine (impl_isName.calls a0_0 true _ A4.out).mono ?_); rintro e w19 ⟨rfl, hb⟩; refine ⟨_, rfl, ?_⟩; have n0_ := As0.mk (blk_below (g := gb151) (o := .cells #[.string a0_0, .string a0_1, .int .i64 a0_2, .bool a0_3, .int .i64 a0_4] 42 (0, 0)) (by (with_reducible repeat (first | refine bkN ?_ _ | refine bkD ?_ | refine bkA ?_ _)); exact BK151.out) hb); have n1_ := As0.mk (bsp (by repeat (first | (with_reducible first | exact HB.out | apply bal | apply pbN | apply bd1 | refine bst ?_ GE151.out) | exact HB.out)) hb); clear BK151; clear HB; have BK151 := n0_; have HB := n1_; clear n0_ n1_; (try clear hb); (try clear hb2); (try clear hk); (try clear hi); have hcz20_0 : w19.cell? ⟨gb151, 0, none⟩ = some (.string a0_0) := (bkC BK151.out 0).trans rfl; have hcz20_1 : w19.cell? ⟨gb151, 1, none⟩ = some (.string a0_1) := (bkC BK151.out 1).trans rfl; have hcz20_2 : w19.cell? ⟨gb151, 2, none⟩ = some (.int .i64 a0_2) := (bkC BK151.out 2).trans rfl; have hcz20_3 : w19.cell? ⟨gb151, 3, none⟩ = some (.bool a0_3) := (bkC BK151.out 3).trans rfl; have hcz20_4 : w19.cell? ⟨gb151, 4, none⟩ = some (.int .i64 a0_4) := (bkC BK151.out 4).trans rfl; have hfz20_0 := bkF BK151.out 0; have hfz20_1 := bkF BK151.out 1; have hfz20_2 := bkF BK151.out 2; have hfz20_3 := bkF BK151.out 3; have hfz20_4 := bkF BK151.out 4))
          go_meet
          case rel => exact ⟨_, (decide (a0_4 > 99999)), (by first | rfl | (simp; done) | (simp [*]; done)), H', ⟨by first | omega | exact Nat.le_refl _⟩, ⟨by (with_reducible repeat (first | refine bkN ?_ _ | refine bkD ?_ | refine bkA ?_ _)); exact BK151.out⟩, ⟨by repeat (first | (with_reducible first | exact HB.out | apply bal | apply pbN | apply bd1 | refine bst ?_ GE151.out) | exact HB.out)⟩⟩
  · replace c5 := Bool.eq_false_iff.mpr c5
    subst c5; have H1 : (impl_isSpace.j0 k true a0_0 a0_1 a0_2 a0_3 a0_4) = some r := by rw [if_neg (show ¬ (false = true) by decide)] at H; exact H
    clear H; have H := H1; clear H1; have H' := As0.mk H; clear H; have hcz21_0 : w3.cell? ⟨gb151, 0, none⟩ = some (.string a0_0) := (bkC BK151.out 0).trans rfl; have hcz21_1 : w3.cell? ⟨gb151, 1, none⟩ = some (.string a0_1) := (bkC BK151.out 1).trans rfl; have hcz21_2 : w3.cell? ⟨gb151, 2, none⟩ = some (.int .i64 a0_2) := (bkC BK151.out 2).trans rfl; have hcz21_3 : w3.cell? ⟨gb151, 3, none⟩ = some (.bool a0_3) := (bkC BK151.out 3).trans rfl; have hcz21_4 : w3.cell? ⟨gb151, 4, none⟩ = some (.int .i64 a0_4) := (bkC BK151.out 4).trans rfl; have hfz21_0 := bkF BK151.out 0; have hfz21_1 := bkF BK151.out 1; have hfz21_2 := bkF BK151.out 2; have hfz21_3 := bkF BK151.out 3; have hfz21_4 := bkF BK151.out 4
    go_wp2_with (first | ((with_reducible refine gca (f := 105) rfl ?_); refine goesL_ (some 5) rfl rfl Tryd.func105 (by kernel_rfl) rfl #[.string a0_0] rfl (by (try simp only [List.map_toArray, List.map_cons, List.map_nil]); first | done | rfl | (simp only [List.length_drop, List.length_take]; rfl)) ?_; (with_reducible refine (impl_isName.calls a0_0 false _ A4.out).mono ?_); rintro e w22 ⟨rfl, hb⟩; refine ⟨_, rfl, ?_⟩; have n0_ := As0.mk (blk_below (g := gb151) (o := .cells #[.string a0_0, .string a0_1, .int .i64 a0_2, .bool a0_3, .int .i64 a0_4] 42 (0, 0)) (by (with_reducible repeat (first | refine bkN ?_ _ | refine bkD ?_ | refine bkA ?_ _)); exact BK151.out) hb); have n1_ := As0.mk (bsp (by repeat (first | (with_reducible first | exact HB.out | apply bal | apply pbN | apply bd1 | refine bst ?_ GE151.out) | exact HB.out)) hb); clear BK151; clear HB; have BK151 := n0_; have HB := n1_; clear n0_ n1_; (try clear hb); (try clear hb2); (try clear hk); (try clear hi)))
    go_meet
    case rel => exact ⟨_, (true), (by first | rfl | (simp; done) | (simp [*]; done)), H', ⟨by first | omega | exact Nat.le_refl _⟩, ⟨by (with_reducible repeat (first | refine bkN ?_ _ | refine bkD ?_ | refine bkA ?_ _)); exact BK151.out⟩, ⟨by repeat (first | (with_reducible first | exact HB.out | apply bal | apply pbN | apply bd1 | refine bst ?_ GE151.out) | exact HB.out)⟩⟩
 case rest =>
  clear HC2
  try clear c1
  try clear p2
  try clear c5
  try clear c6
  try clear c6b0
  try clear c9
  try clear c10
  try clear c10b0
  try clear c14
  try clear c14b0
  try clear hcz11_0
  try clear hcz11_1
  try clear hcz11_2
  try clear hcz11_3
  try clear hcz11_4
  try clear hcz13_0
  try clear hcz13_1
  try clear hcz13_2
  try clear hcz13_3
  try clear hcz13_4
  try clear hcz15_0
  try clear hcz15_1
  try clear hcz15_2
  try clear hcz15_3
  try clear hcz15_4
  try clear hcz17_0
  try clear hcz17_1
  try clear hcz17_2
  try clear hcz17_3
  try clear hcz17_4
  try clear hcz18_0
  try clear hcz18_1
  try clear hcz18_2
  try clear hcz18_3
  try clear hcz18_4
  try clear hcz20_0
  try clear hcz20_1
  try clear hcz20_2
  try clear hcz20_3
  try clear hcz20_4
  try clear hcz21_0
  try clear hcz21_1
  try clear hcz21_2
  try clear hcz21_3
  try clear hcz21_4
  try clear hcz7_0
  try clear hcz7_1
  try clear hcz7_2
  try clear hcz7_3
  try clear hcz7_4
  try clear hcz9_0
  try clear hcz9_1
  try clear hcz9_2
  try clear hcz9_3
  try clear hcz9_4
  try clear hfz11_0
  try clear hfz11_1
  try clear hfz11_2
  try clear hfz11_3
  try clear hfz11_4
  try clear hfz13_0
  try clear hfz13_1
  try clear hfz13_2
  try clear hfz13_3
  try clear hfz13_4
  try clear hfz15_0
  try clear hfz15_1
  try clear hfz15_2
  try clear hfz15_3
  try clear hfz15_4
  try clear hfz17_0
  try clear hfz17_1
  try clear hfz17_2
  try clear hfz17_3
  try clear hfz17_4
  try clear hfz18_0
  try clear hfz18_1
  try clear hfz18_2
  try clear hfz18_3
  try clear hfz18_4
  try clear hfz20_0
  try clear hfz20_1
  try clear hfz20_2
  try clear hfz20_3
  try clear hfz20_4
  try clear hfz21_0
  try clear hfz21_1
  try clear hfz21_2
  try clear hfz21_3
  try clear hfz21_4
  try clear hfz7_0
  try clear hfz7_1
  try clear hfz7_2
  try clear hfz7_3
  try clear hfz7_4
  try clear hfz9_0
  try clear hfz9_1
  try clear hfz9_2
  try clear hfz9_3
  try clear hfz9_4
  obtain ⟨kq, x26_1, rfl, HA, HJ1, BK151, HB⟩ := hcut
  cases kq with
  | zero => exact absurd HA.out (by simp [impl_isSpace.j0])
  | succ kj1 =>
   have H := HA.out; clear HA; simp only [impl_isSpace.j0] at H; by_cases c23 : x26_1 = true
   · subst c23
     have H1 : (some false) = some r := by rw [if_pos rfl] at H; exact H
     clear H; have H := H1; clear H1; obtain rfl := Option.some.inj H
     go_wp2
     go_ret
     exact ⟨eW, by repeat (first | (with_reducible first | exact HB.out | apply bal | apply pbN | apply bd1 | refine bst ?_ GE151.out) | exact HB.out)⟩
   · replace c23 := Bool.eq_false_iff.mpr c23
     subst c23; have H1 : (if a0_0.toList = ([97, 108, 108] : List UInt8) then (if a0_1.toList = ([] : List UInt8) then (some (!a0_3)) else (some false)) else ((impl_isName.f a0_1).bind fun t153 => (some t153))) = some r := by rw [if_neg (show ¬ (false = true) by decide)] at H; exact H
     clear H; have H := H1; clear H1; by_cases c24 : a0_0.toList = ([97, 108, 108] : List UInt8)
     · rw [if_pos c24] at H
       have c24b0 : (a0_0.toList == ([97, 108, 108] : List UInt8)) = true := beq_iff_eq.mpr c24; have c24b1 : (a0_0.toList != ([97, 108, 108] : List UInt8)) = false := bne_eq_false_iff_eq.mpr c24; clear c24; by_cases c25 : a0_1.toList = ([] : List UInt8)
       · rw [if_pos c25] at H
         have c25b0 : (a0_1.toList == ([] : List UInt8)) = true := beq_iff_eq.mpr c25; have c25b1 : (a0_1.toList != ([] : List UInt8)) = false := bne_eq_false_iff_eq.mpr c25; clear c25; obtain rfl := Option.some.inj H; have hcz26_0 : wc.cell? ⟨gb151, 0, none⟩ = some (.string a0_0) := (bkC BK151.out 0).trans rfl; have hcz26_1 : wc.cell? ⟨gb151, 1, none⟩ = some (.string a0_1) := (bkC BK151.out 1).trans rfl; have hcz26_2 : wc.cell? ⟨gb151, 2, none⟩ = some (.int .i64 a0_2) := (bkC BK151.out 2).trans rfl; have hcz26_3 : wc.cell? ⟨gb151, 3, none⟩ = some (.bool a0_3) := (bkC BK151.out 3).trans rfl; have hcz26_4 : wc.cell? ⟨gb151, 4, none⟩ = some (.int .i64 a0_4) := (bkC BK151.out 4).trans rfl; have hfz26_0 := bkF BK151.out 0; have hfz26_1 := bkF BK151.out 1; have hfz26_2 := bkF BK151.out 2; have hfz26_3 := bkF BK151.out 3; have hfz26_4 := bkF BK151.out 4
         go_wp2
         go_ret
         exact ⟨eW, by repeat (first | (with_reducible first | exact HB.out | apply bal | apply pbN | apply bd1 | refine bst ?_ GE151.out) | exact HB.out)⟩
       · rw [if_neg c25] at H
         have c25b0 : (a0_1.toList == ([] : List UInt8)) = false := beq_eq_false_iff_ne.mpr c25; have c25b1 : (a0_1.toList != ([] : List UInt8)) = true := bne_iff_ne.mpr c25; obtain rfl := Option.some.inj H; have hcz27_0 : wc.cell? ⟨gb151, 0, none⟩ = some (.string a0_0) := (bkC BK151.out 0).trans rfl; have hcz27_1 : wc.cell? ⟨gb151, 1, none⟩ = some (.string a0_1) := (bkC BK151.out 1).trans rfl; have hcz27_2 : wc.cell? ⟨gb151, 2, none⟩ = some (.int .i64 a0_2) := (bkC BK151.out 2).trans rfl; have hcz27_3 : wc.cell? ⟨gb151, 3, none⟩ = some (.bool a0_3) := (bkC BK151.out 3).trans rfl; have hcz27_4 : wc.cell? ⟨gb151, 4, none⟩ = some (.int .i64 a0_4) := (bkC BK151.out 4).trans rfl; have hfz27_0 := bkF BK151.out 0; have hfz27_1 := bkF BK151.out 1; have hfz27_2 := bkF BK151.out 2; have hfz27_3 := bkF BK151.out 3; have hfz27_4 := bkF BK151.out 4
         go_wp2
         go_ret
         exact ⟨eW, by repeat (first | (with_reducible first | exact HB.out | apply bal | apply pbN | apply bd1 | refine bst ?_ GE151.out) | exact HB.out)⟩
     · rw [if_neg c24] at H
       have c24b0 : (a0_0.toList == ([97, 108, 108] : List UInt8)) = false := beq_eq_false_iff_ne.mpr c24; have c24b1 : (a0_0.toList != ([97, 108, 108] : List UInt8)) = true := bne_iff_ne.mpr c24; replace H := Option.bind_eq_some_iff.mp H; obtain ⟨t153, A280, H⟩ := H; replace H : (some t153) = some r := H; have A28 := As0.mk A280; clear A280; obtain rfl := Option.some.inj H; have hcz29_0 : wc.cell? ⟨gb151, 0, none⟩ = some (.string a0_0) := (bkC BK151.out 0).trans rfl; have hcz29_1 : wc.cell? ⟨gb151, 1, none⟩ = some (.string a0_1) := (bkC BK151.out 1).trans rfl; have hcz29_2 : wc.cell? ⟨gb151, 2, none⟩ = some (.int .i64 a0_2) := (bkC BK151.out 2).trans rfl; have hcz29_3 : wc.cell? ⟨gb151, 3, none⟩ = some (.bool a0_3) := (bkC BK151.out 3).trans rfl; have hcz29_4 : wc.cell? ⟨gb151, 4, none⟩ = some (.int .i64 a0_4) := (bkC BK151.out 4).trans rfl; have hfz29_0 := bkF BK151.out 0; have hfz29_1 := bkF BK151.out 1; have hfz29_2 := bkF BK151.out 2; have hfz29_3 := bkF BK151.out 3; have hfz29_4 := bkF BK151.out 4
       go_wp2_with (first | ((with_reducible refine gca (f := 105) rfl ?_); refine goesL_ (some 40) rfl rfl Tryd.func105 (by kernel_rfl) rfl #[.string a0_1] rfl (by (try simp only [List.map_toArray, List.map_cons, List.map_nil]); first | done | rfl | (simp only [List.length_drop, List.length_take]; rfl)) ?_; (with_reducible refine (impl_isName.calls a0_1 t153 _ A28.out).mono ?_); rintro e w30 ⟨rfl, hb⟩; refine ⟨_, rfl, ?_⟩; have n0_ := As0.mk (blk_below (g := gb151) (o := .cells #[.string a0_0, .string a0_1, .int .i64 a0_2, .bool a0_3, .int .i64 a0_4] 42 (0, 0)) (by (with_reducible repeat (first | refine bkN ?_ _ | refine bkD ?_ | refine bkA ?_ _)); exact BK151.out) hb); have n1_ := As0.mk (bsp (by repeat (first | (with_reducible first | exact HB.out | apply bal | apply pbN | apply bd1 | refine bst ?_ GE151.out) | exact HB.out)) hb); clear BK151; clear HB; have BK151 := n0_; have HB := n1_; clear n0_ n1_; (try clear hb); (try clear hb2); (try clear hk); (try clear hi)))
       go_ret
       exact ⟨eW, by repeat (first | (with_reducible first | exact HB.out | apply bal | apply pbN | apply bd1 | refine bst ?_ GE151.out) | exact HB.out)⟩
mutual
def impl_areSpaces.j0 : Nat → List (SiS23) → Bool → Option (Bool)
 | 0, _, _ => none
 | k + 1, x0, x16 => if x16 = true then (some false) else (impl_areSpaces.l0 k x0 x0 (x0.length : Int) 0)
def impl_areSpaces.l0 : Nat → List (SiS23) → List (SiS23) → Int → Int → Option (Bool)
 | 0, _, _, _, _ => none
 | k + 1, x0, x17, x18, x19 => if x19 < x18 then (if 0 ≤ x19 then (if x19 < (x17.length : Int) then ((impl_isSpace.f k ((riS26 x17 x19).f0) ((riS26 x17 x19).f1) ((riS26 x17 x19).f2) ((riS26 x17 x19).f3) ((riS26 x17 x19).f4)).bind fun t156 => (if t156 = true then (if x19 > 0 then (if 0 ≤ (wrap64 (x19 - 1)) then (if (wrap64 (x19 - 1)) < (x0.length : Int) then (if ((Op.bytesLess (((riS26 x0 (wrap64 (x19 - 1))).f0).toList) (((riS26 x17 x19).f0).toList)) = true) then (impl_areSpaces.l0 k x0 x17 x18 (wrap64 (x19 + 1))) else (some false)) else (none)) else (none)) else (impl_areSpaces.l0 k x0 x17 x18 (wrap64 (x19 + 1)))) else (some false))) else (none)) else (none)) else (impl_areSpaces.l1 k x0 x0 (x0.length : Int) 0)
def impl_areSpaces.l1 : Nat → List (SiS23) → List (SiS23) → Int → Int → Option (Bool)
 | 0, _, _, _, _ => none
 | k + 1, x0, x43, x44, x45 => if x45 < x44 then (if 0 ≤ x45 then (if x45 < (x43.length : Int) then (impl_areSpaces.l2 k x0 x43 x44 x45 (x0.length : Int) 0 ((riS26 x43 x45).f0) ((riS26 x43 x45).f1) ((riS26 x43 x45).f2) ((riS26 x43 x45).f3) ((riS26 x43 x45).f4)) else (none)) else (none)) else (some true)
def impl_areSpaces.l2 : Nat → List (SiS23) → List (SiS23) → Int → Int → Int → Int → ByteArray → ByteArray → Int → Bool → Int → Option (Bool)
 | 0, _, _, _, _, _, _, _, _, _, _, _ => none
 | k + 1, x0, x43, x44, x45, x51, x52, x161000, x161001, x161002, x161003, x161004 => if x52 < x51 then ((impl_findSpace.f x0 x161001).bind fun t161 => (if t161 ≥ 0 then (if 0 ≤ t161 then (if t161 < (x0.length : Int) then (impl_areSpaces.l2 k x0 x43 x44 x45 x51 (wrap64 (x52 + 1)) ((riS26 x0 t161).f0) ((riS26 x0 t161).f1) ((riS26 x0 t161).f2) ((riS26 x0 t161).f3) ((riS26 x0 t161).f4)) else (none)) else (none)) else (impl_areSpaces.l2 k x0 x43 x44 x45 x51 (wrap64 (x52 + 1)) x161000 x161001 x161002 x161003 x161004))) else (if x161000.toList = ([97, 108, 108] : List UInt8) then (impl_areSpaces.l1 k x0 x43 x44 (wrap64 (x45 + 1))) else (some false))
end
def impl_areSpaces.f (k : Nat) (l0 : List (SiS23)) : Option (Bool) := if (l0.length : Int) < 1 then (impl_areSpaces.j0 k l0 true) else (impl_areSpaces.j0 k l0 (decide ((l0.length : Int) > 7)))
def impl_areSpaces.T6 : Bool × List (List Nat × List Nat) := (true, [([], []), ([0], [0]), ([1], [1]), ([2, 1], [2]), ([3], [3]), ([4, 3], [3, 4]), ([5, 3, 3], [3, 5]), ([6], [6]), ([6], [6]), ([8, 6], [6, 8]), ([7, 9, 6], [6, 7, 9]), ([10, 6], [6, 10]), ([11, 6], [6, 11]), ([6], [6]), ([13, 6], [6, 13]), ([12, 14, 6], [6, 12, 14]), ([6, 15, 3], [3, 6, 15]), ([3, 16], [3, 16])])
def impl_areSpaces.B6 : List Nat := [0, 1, 3, 7, 15, 31, 63, 127, 127, 383, 1023, 2047, 4095, 127, 8319, 32767, 65535, 131071]
theorem impl_areSpaces.tab6 : rtab .any (opsOf Tryd.f58 6) = impl_areSpaces.T6 := by kernel_rfl
theorem impl_areSpaces.bits6 : waitsOk impl_areSpaces.T6.2 impl_areSpaces.B6 = true := by kernel_rfl
abbrev impl_areSpaces.calls.a0 : Array Bool := #[false, false, false, false, false, false, false, false, false, false, false, false, false, false, false, false, false, false]
abbrev impl_areSpaces.calls.a1 : Array Bool := #[true, false, false, false, false, false, false, false, false, false, false, false, false, false, false, false, false, false]
abbrev impl_areSpaces.calls.a2 : Array Bool := #[true, true, false, false, false, false, false, false, false, false, false, false, false, false, false, false, false, false]
abbrev impl_areSpaces.calls.a3 : Array Bool := #[true, true, true, false, false, false, false, false, false, false, false, false, false, false, false, false, false, false]
abbrev impl_areSpaces.calls.a4 : Array Bool := #[true, true, true, true, false, false, false, false, false, false, false, false, false, false, false, false, false, false]
abbrev impl_areSpaces.calls.a5 : Array Bool := #[true, true, true, true, true, false, false, false, false, false, false, false, false, false, false, false, false, false]
abbrev impl_areSpaces.calls.a6 : Array Bool := #[true, true, true, true, true, true, false, false, false, false, false, false, false, false, false, false, false, false]
abbrev impl_areSpaces.calls.a7 : Array Bool := #[true, true, true, true, true, true, true, false, false, false, false, false, false, false, false, false, false, false]
abbrev impl_areSpaces.calls.a8 : Array Bool := #[true, true, true, true, true, true, true, true, false, false, false, false, false, false, false, false, false, false]
abbrev impl_areSpaces.calls.a9 : Array Bool := #[true, true, true, true, true, true, true, true, true, false, false, false, false, false, false, false, false, false]
abbrev impl_areSpaces.calls.a10 : Array Bool := #[true, true, true, true, true, true, true, true, true, true, false, false, false, false, false, false, false, false]
abbrev impl_areSpaces.calls.a11 : Array Bool := #[true, true, true, true, true, true, true, true, true, true, true, false, false, false, false, false, false, false]
abbrev impl_areSpaces.calls.a12 : Array Bool := #[true, true, true, true, true, true, true, true, true, true, true, true, false, false, false, false, false, false]
abbrev impl_areSpaces.calls.a13 : Array Bool := #[true, true, true, true, true, true, true, true, true, true, true, true, true, true, false, false, false, false]
abbrev impl_areSpaces.calls.a14 : Array Bool := #[true, true, true, true, true, true, true, true, true, true, true, true, true, true, true, false, false, false]
abbrev impl_areSpaces.calls.a15 : Array Bool := #[true, true, true, true, true, true, true, true, true, true, true, true, true, true, true, true, false, false]
abbrev impl_areSpaces.calls.a16 : Array Bool := #[true, true, true, true, true, true, true, true, true, true, true, true, true, true, true, true, true, false]
abbrev impl_areSpaces.calls.a17 : Array Bool := #[true, true, true, true, true, true, true, true, true, true, true, true, true, true, true, true, true, true]
set_option maxHeartbeats 8000000 in
set_option maxRecDepth 100000 in
theorem impl_areSpaces.calls (k : Nat) (A0 : Option Addr) (c0 : Nat) (l0 : List (SiS23)) (r : Bool) (w : World) (hr0 : Kd.C k42 w A0 l0.length l0) (hc0 : l0.length ≤ c0) (h : impl_areSpaces.f k l0 = some r) :
 Calls Tryd.prog 58 #[.slice A0 l0.length c0] w fun e w' => e = .returned (.bool r) ∧ Below w.heap.size w w' := by
 have hu42 := Tryd.underlying42; have HR0 := As0.mk hr0; have HC0 := As0.mk hc0; clear hr0 hc0; have HB := As0.mk (Below.refl w.heap.size w); have H : (if (l0.length : Int) < 1 then (impl_areSpaces.j0 k l0 true) else (impl_areSpaces.j0 k l0 (decide ((l0.length : Int) > 7)))) = some r := h; clear h; have HC2 := As0.mk H; clear H
 go_enter Tryd.func58, Tryd.ntmps58
 go_upto_region 1 with (fail)
 go_cut [16] (fun v16 wc => ∃ (kq : Nat) (x16_1 : Bool), v16 = .bool x16_1 ∧ As0 (impl_areSpaces.j0 kq l0 x16_1 = some r) ∧ As0 (kq ≤ k) ∧ As0 (Below w.heap.size w wc))
 case first =>
  have H := HC2.out; clear HC2; by_cases c3 : (l0.length : Int) < 1
  · rw [if_pos c3] at H
    have c3b0 : decide ((l0.length : Int) < 1) = true := decide_eq_true c3; have c3b1 : decide (l0.length < 1) = true := decide_eq_true (by omega); clear c3
    (first | rw [c3b0] | (simp only [i64_w, i32_w]; rw [c3b0]) | skip)
    have H' := As0.mk H; clear H
    go_wp2
    go_meet
    case rel => exact ⟨_, (true), (by first | rfl | (simp; done) | (simp [*]; done)), H', ⟨by first | omega | exact Nat.le_refl _⟩, ⟨by repeat (first | (with_reducible first | exact HB.out | apply bal | apply pbN | apply bd1) | exact HB.out)⟩⟩
  · rw [if_neg c3] at H
    have c3b0 : decide ((l0.length : Int) < 1) = false := decide_eq_false c3; have c3b1 : decide (l0.length < 1) = false := decide_eq_false (by omega); clear c3
    (first | rw [c3b0] | (simp only [i64_w, i32_w]; rw [c3b0]) | skip)
    have H' := As0.mk H; clear H
    go_wp2
    go_meet
    case rel => exact ⟨_, (decide ((l0.length : Int) > 7)), (by first | rfl | (simp; done) | (simp [*]; done)), H', ⟨by first | omega | exact Nat.le_refl _⟩, ⟨by repeat (first | (with_reducible first | exact HB.out | apply bal | apply pbN | apply bd1) | exact HB.out)⟩⟩
 case rest =>
  clear HC2
  try clear p2
  try clear c3
  try clear c3b0
  try clear c3b1
  obtain ⟨kq, x16_1, rfl, HA, HJ1, HB⟩ := hcut
  cases kq with
  | zero => exact absurd HA.out (by simp [impl_areSpaces.j0])
  | succ kj1 =>
   have H := HA.out; clear HA; simp only [impl_areSpaces.j0] at H; by_cases c4 : x16_1 = true
   · subst c4
     have H1 : (some false) = some r := by rw [if_pos rfl] at H; exact H
     clear H; have H := H1; clear H1; obtain rfl := Option.some.inj H
     go_wp2
     go_ret
     exact ⟨eW, by repeat (first | (with_reducible first | exact HB.out | apply bal | apply pbN | apply bd1) | exact HB.out)⟩
   · replace c4 := Bool.eq_false_iff.mpr c4
     subst c4; have H1 : (impl_areSpaces.l0 kj1 l0 l0 (l0.length : Int) 0) = some r := by rw [if_neg (show ¬ (false = true) by decide)] at H; exact H
     clear H; have H := H1; clear H1; have H' := As0.mk H; clear H
     go_wp2
     go_loopg [19] kj1 (fun kq v19 w' => ∃ (x19_2 : Int), v19 = .int .i64 x19_2 ∧ As0 (impl_areSpaces.l0 kq l0 l0 (l0.length : Int) x19_2 = some r) ∧ As0 (kq ≤ kj1) ∧ As0 (Below w.heap.size w w'))
     case atStart => exact ⟨(0), (by first | rfl | (simp; done) | (simp [*]; done)), H', ⟨Nat.le_refl _⟩, ⟨by repeat (first | (with_reducible first | exact HB.out | apply bal | apply pbN | apply bd1) | exact HB.out)⟩⟩
     case round =>
      clear H'
      try clear p2
      try clear c3
      try clear c3b0
      try clear c3b1
      try clear c4
      try clear p2
      obtain ⟨x19_2, rfl, HA, HK2, HB⟩ := hrel
      cases gk with
      | zero => exact absurd HA.out (by simp [impl_areSpaces.l0])
      | succ k2 =>
       have H := HA.out; clear HA; simp only [impl_areSpaces.l0] at H; by_cases c5 : x19_2 < (l0.length : Int)
       · rw [if_pos c5] at H
         have c5b0 : decide (x19_2 < (l0.length : Int)) = true := decide_eq_true c5; clear c5; by_cases c6 : 0 ≤ x19_2
         · rw [if_pos c6] at H
           have c6b0 : decide (0 ≤ x19_2) = true := decide_eq_true c6; clear c6; by_cases c7 : x19_2 < (l0.length : Int)
           · rw [if_pos c7] at H
             have c7b0 : decide (x19_2 < (l0.length : Int)) = true := decide_eq_true c7; clear c7; replace H := Option.bind_eq_some_iff.mp H; obtain ⟨t156, A80, H⟩ := H; replace H : (if t156 = true then (if x19_2 > 0 then (if 0 ≤ (wrap64 (x19_2 - 1)) then (if (wrap64 (x19_2 - 1)) < (l0.length : Int) then (if ((Op.bytesLess (((riS26 l0 (wrap64 (x19_2 - 1))).f0).toList) (((riS26 l0 x19_2).f0).toList)) = true) then (impl_areSpaces.l0 k2 l0 l0 (l0.length : Int) (wrap64 (x19_2 + 1))) else (some false)) else (none)) else (none)) else (impl_areSpaces.l0 k2 l0 l0 (l0.length : Int) (wrap64 (x19_2 + 1)))) else (some false)) = some r := H; have A8 := As0.mk A80; clear A80; by_cases c9 : t156 = true
             · subst c9
               have H1 : (if x19_2 > 0 then (if 0 ≤ (wrap64 (x19_2 - 1)) then (if (wrap64 (x19_2 - 1)) < (l0.length : Int) then (if ((Op.bytesLess (((riS26 l0 (wrap64 (x19_2 - 1))).f0).toList) (((riS26 l0 x19_2).f0).toList)) = true) then (impl_areSpaces.l0 k2 l0 l0 (l0.length : Int) (wrap64 (x19_2 + 1))) else (some false)) else (none)) else (none)) else (impl_areSpaces.l0 k2 l0 l0 (l0.length : Int) (wrap64 (x19_2 + 1)))) = some r := by rw [if_pos rfl] at H; exact H
               clear H; have H := H1; clear H1; by_cases c10 : x19_2 > 0
               · rw [if_pos c10] at H
                 have c10b0 : decide (0 < x19_2) = true := decide_eq_true c10; clear c10; obtain ⟨ji11, hji11⟩ : ∃ j_ : Int, (wrap64 (x19_2 - 1)) = j_ := ⟨_, rfl⟩; replace H : (if 0 ≤ (ji11) then (if (ji11) < (l0.length : Int) then (if ((Op.bytesLess (((riS26 l0 (ji11)).f0).toList) (((riS26 l0 x19_2).f0).toList)) = true) then (impl_areSpaces.l0 k2 l0 l0 (l0.length : Int) (wrap64 (x19_2 + 1))) else (some false)) else (none)) else (none)) = some r := by first | (rw [hji11] at H; exact H) | (simp only [hji11] at H ⊢; exact H)
                 (try rw [hji11] at A8)
                 have hji11w : (IntKind.i64.wrap (x19_2 - 1)) = ji11 := (i64_w _).trans hji11; by_cases c12 : 0 ≤ (ji11)
                 · rw [if_pos c12] at H
                   have c12b0 : decide (0 ≤ (ji11)) = true := decide_eq_true c12; clear c12; by_cases c13 : (ji11) < (l0.length : Int)
                   · rw [if_pos c13] at H
                     have c13b0 : decide ((ji11) < (l0.length : Int)) = true := decide_eq_true c13; clear c13; by_cases c14 : ((Op.bytesLess (((riS26 l0 (ji11)).f0).toList) (((riS26 l0 x19_2).f0).toList)) = true)
                     · rw [if_pos c14] at H
                       have c14b0 : (Op.bytesLess (((riS26 l0 (ji11)).f0).toList) (((riS26 l0 x19_2).f0).toList)) = true := c14; clear c14; have H' := As0.mk H; clear H; have p154 : 0 ≤ (x19_2 : Int) := odt; have q154 : x19_2 < (l0.length : Int) := odt; obtain ⟨ad154, e154, hx154_0, hx154_1, hx154_2, hx154_3, hx154_4⟩ := at_T42 HR0.out x19_2 p154 q154
                       cases e154
                       replace hx154_0 := bx HB.out rfl hx154_0; replace hx154_1 := bx HB.out rfl hx154_1; replace hx154_2 := bx HB.out rfl hx154_2; replace hx154_3 := bx HB.out rfl hx154_3; replace hx154_4 := bx HB.out rfl hx154_4; replace p154 := eq_true p154; replace q154 := eq_true q154
                       try go_wp2_with (first | ((with_reducible refine gate_dst (N := 4) rfl ?_); (try (refine gate_guard (by rfl) ?_; dsimp only)); refine box_event ?hg (N := 4) ?hd (cs := #[.string (⟨#[]⟩ : ByteArray), .string (⟨#[]⟩ : ByteArray), .int .i64 0, .bool false, .int .i64 0]) (t := 42) ?hr ?_; (case hd => rfl); (case hg => rfl); (case hr => first | (go_simp; done) | (go_simp; rfl)); intro gb155 hg w15 hbox hb; have n0_ := As0.mk (bsp (by repeat (first | (with_reducible first | exact HB.out | apply bal | apply pbN | apply bd1) | exact HB.out)) hb); have n1_ := As0.mk (hbox); have n2_ := As0.mk ((by rw [hg]; exact (bsz (by repeat (first | (with_reducible first | exact HB.out | apply bal | apply pbN | apply bd1) | exact HB.out))) : w.heap.size ≤ gb155)); have n3_ := As0.mk ((by rw [hg]; exact (bsz (by repeat (first | (with_reducible first | exact HB.out | apply bal | apply pbN | apply bd1) | exact HB.out))) : w.heap.size ≤ gb155)); clear HB; have HB := n0_; have BK155 := n1_; have GW155 := n2_; have GE155 := n3_; clear n0_ n1_ n2_ n3_; clear hb hbox hg; have hcz16_0 : w15.cell? ⟨gb155, 0, none⟩ = some (.string (⟨#[]⟩ : ByteArray)) := (bkC BK155.out 0).trans rfl; have hcz16_1 : w15.cell? ⟨gb155, 1, none⟩ = some (.string (⟨#[]⟩ : ByteArray)) := (bkC BK155.out 1).trans rfl; have hcz16_2 : w15.cell? ⟨gb155, 2, none⟩ = some (.int .i64 0) := (bkC BK155.out 2).trans rfl; have hcz16_3 : w15.cell? ⟨gb155, 3, none⟩ = some (.bool false) := (bkC BK155.out 3).trans rfl; have hcz16_4 : w15.cell? ⟨gb155, 4, none⟩ = some (.int .i64 0) := (bkC BK155.out 4).trans rfl; have hfz16_0 := bkF BK155.out 0; have hfz16_1 := bkF BK155.out 1; have hfz16_2 := bkF BK155.out 2; have hfz16_3 := bkF BK155.out 3; have hfz16_4 := bkF BK155.out 4))
                       have n0_ : As0 ((((((w15.setCell ⟨gb155, 0, none⟩ (.string ((riS26 l0 x19_2).f0))).setCell ⟨gb155, 1, none⟩ (.string ((riS26 l0 x19_2).f1))).setCell ⟨gb155, 2, none⟩ (.int .i64 ((riS26 l0 x19_2).f2))).setCell ⟨gb155, 3, none⟩ (.bool ((riS26 l0 x19_2).f3))).setCell ⟨gb155, 4, none⟩ (.int .i64 ((riS26 l0 x19_2).f4))).heap[gb155]? = some (.cells #[.string ((riS26 l0 x19_2).f0), .string ((riS26 l0 x19_2).f1), .int .i64 ((riS26 l0 x19_2).f2), .bool ((riS26 l0 x19_2).f3), .int .i64 ((riS26 l0 x19_2).f4)] 42 (0, 0))) := ⟨by (with_reducible repeat (first | refine bkN ?_ _ | refine bkD ?_ | refine bkA ?_ _)); refine blk_put (cs := #[.string ((riS26 l0 x19_2).f0), .string ((riS26 l0 x19_2).f1), .int .i64 ((riS26 l0 x19_2).f2), .bool ((riS26 l0 x19_2).f3), .int .i64 0]) ?_ 4 _ rfl; (with_reducible repeat (first | refine bkN ?_ _ | refine bkD ?_ | refine bkA ?_ _)); refine blk_put (cs := #[.string ((riS26 l0 x19_2).f0), .string ((riS26 l0 x19_2).f1), .int .i64 ((riS26 l0 x19_2).f2), .bool false, .int .i64 0]) ?_ 3 _ rfl; (with_reducible repeat (first | refine bkN ?_ _ | refine bkD ?_ | refine bkA ?_ _)); refine blk_put (cs := #[.string ((riS26 l0 x19_2).f0), .string ((riS26 l0 x19_2).f1), .int .i64 0, .bool false, .int .i64 0]) ?_ 2 _ rfl; (with_reducible repeat (first | refine bkN ?_ _ | refine bkD ?_ | refine bkA ?_ _)); refine blk_put (cs := #[.string ((riS26 l0 x19_2).f0), .string (⟨#[]⟩ : ByteArray), .int .i64 0, .bool false, .int .i64 0]) ?_ 1 _ rfl; (with_reducible repeat (first | refine bkN ?_ _ | refine bkD ?_ | refine bkA ?_ _)); refine blk_put (cs := #[.string (⟨#[]⟩ : ByteArray), .string (⟨#[]⟩ : ByteArray), .int .i64 0, .bool false, .int .i64 0]) ?_ 0 _ rfl; (with_reducible repeat (first | refine bkN ?_ _ | refine bkD ?_ | refine bkA ?_ _)); exact BK155.out⟩; have n1_ : As0 (Below w.heap.size w (((((w15.setCell ⟨gb155, 0, none⟩ (.string ((riS26 l0 x19_2).f0))).setCell ⟨gb155, 1, none⟩ (.string ((riS26 l0 x19_2).f1))).setCell ⟨gb155, 2, none⟩ (.int .i64 ((riS26 l0 x19_2).f2))).setCell ⟨gb155, 3, none⟩ (.bool ((riS26 l0 x19_2).f3))).setCell ⟨gb155, 4, none⟩ (.int .i64 ((riS26 l0 x19_2).f4)))) := ⟨by repeat (first | (with_reducible first | exact HB.out | apply bal | apply pbN | apply bd1 | refine bst ?_ GE155.out) | exact HB.out)⟩
                       (try clear BK155)
                       (try clear HB)
                       (try rw [Opens.setCell_drewN])
                       generalize (((((w15.setCell ⟨gb155, 0, none⟩ (.string ((riS26 l0 x19_2).f0))).setCell ⟨gb155, 1, none⟩ (.string ((riS26 l0 x19_2).f1))).setCell ⟨gb155, 2, none⟩ (.int .i64 ((riS26 l0 x19_2).f2))).setCell ⟨gb155, 3, none⟩ (.bool ((riS26 l0 x19_2).f3))).setCell ⟨gb155, 4, none⟩ (.int .i64 ((riS26 l0 x19_2).f4))) = w17 at n0_ n1_ ⊢
                       have BK155 := n0_; have HB := n1_; clear n0_ n1_; have n0_ := As0.mk (bkD BK155.out); have n1_ := As0.mk (bd1 HB.out); clear BK155; clear HB; have BK155 := n0_; have HB := n1_; clear n0_ n1_; have p157 : 0 ≤ ((ji11) : Int) := odt; have q157 : (ji11) < (l0.length : Int) := odt; obtain ⟨ad157, e157, hx157_0, hx157_1, hx157_2, hx157_3, hx157_4⟩ := at_T42 HR0.out (ji11) p157 q157; have hw157_4 := hx157_4; have hw157_3 := hx157_3; have hw157_2 := hx157_2; have hw157_1 := hx157_1; have hw157_0 := hx157_0; obtain rfl : ad154 = ad157 := (by injection e157); replace hx157_0 := bx HB.out rfl hx157_0; replace hx157_1 := bx HB.out rfl hx157_1; replace hx157_2 := bx HB.out rfl hx157_2; replace hx157_3 := bx HB.out rfl hx157_3; replace hx157_4 := bx HB.out rfl hx157_4; replace p157 := eq_true p157; replace q157 := eq_true q157; refine start_ (n := 18) (S := fun w' => w'.cell? ⟨gb155, 0, none⟩ = some (.string ((riS26 l0 x19_2).f0)) ∧ w'.cell? ⟨gb155, 1, none⟩ = some (.string ((riS26 l0 x19_2).f1)) ∧ w'.cell? ⟨gb155, 2, none⟩ = some (.int .i64 ((riS26 l0 x19_2).f2)) ∧ w'.cell? ⟨gb155, 3, none⟩ = some (.bool ((riS26 l0 x19_2).f3)) ∧ w'.cell? ⟨gb155, 4, none⟩ = some (.int .i64 ((riS26 l0 x19_2).f4)) ∧ w'.cell? (ad154.add (((ji11)).toNat * 5)) = some (.string ((riS26 l0 (ji11)).f0)) ∧ w'.cell? ⟨(ad154.add (((ji11)).toNat * 5)).block, (ad154.add (((ji11)).toNat * 5)).off + 1, none⟩ = some (.string ((riS26 l0 (ji11)).f1)) ∧ w'.cell? ⟨(ad154.add (((ji11)).toNat * 5)).block, (ad154.add (((ji11)).toNat * 5)).off + 2, none⟩ = some (.int .i64 ((riS26 l0 (ji11)).f2)) ∧ w'.cell? ⟨(ad154.add (((ji11)).toNat * 5)).block, (ad154.add (((ji11)).toNat * 5)).off + 3, none⟩ = some (.bool ((riS26 l0 (ji11)).f3)) ∧ w'.cell? ⟨(ad154.add (((ji11)).toNat * 5)).block, (ad154.add (((ji11)).toNat * 5)).off + 4, none⟩ = some (.int .i64 ((riS26 l0 (ji11)).f4))) (ds := []) impl_areSpaces.calls.a0 (by kernel_rfl) rfl rfl ⟨(bkC BK155.out 0).trans rfl, (bkC BK155.out 1).trans rfl, (bkC BK155.out 2).trans rfl, (bkC BK155.out 3).trans rfl, (bkC BK155.out 4).trans rfl, ((HB.out.cell (World.block_lt_of_cell? w _ hw157_0)).trans hw157_0), ((HB.out.cell (World.block_lt_of_cell? w _ hw157_1)).trans hw157_1), ((HB.out.cell (World.block_lt_of_cell? w _ hw157_2)).trans hw157_2), ((HB.out.cell (World.block_lt_of_cell? w _ hw157_3)).trans hw157_3), ((HB.out.cell (World.block_lt_of_cell? w _ hw157_4)).trans hw157_4)⟩ (fun hHeld => ?_); refine with_tabW impl_areSpaces.tab6 impl_areSpaces.bits6 (fun HT_ HW_ => ?_); generalize w17.drew = w18 at BK155 HB hx157_0 hx157_1 hx157_2 hx157_3 hx157_4 hHeld ⊢
                       refine tk 0 (some 24) impl_areSpaces.calls.a1 rfl rfl HT_.out HW_.out hHeld (by rintro w' ⟨s0, s1, s2, s3, s4, s5, s6, s7, s8, s9⟩; go_simp; with_reducible rfl) ?_; refine one_ (i := 1) (N := some 25) impl_areSpaces.calls.a2 rfl rfl (one_of HT_.out (by kernel_rfl)) (by decide) (fun K hK => ?_); refine goes_ Tryd.func92 (by kernel_rfl) rfl #[.agg #[.string ((riS26 l0 x19_2).f0), .string ((riS26 l0 x19_2).f1), .int .i64 ((riS26 l0 x19_2).f2), .bool ((riS26 l0 x19_2).f3), .int .i64 ((riS26 l0 x19_2).f4)]] (by rfl) rfl rfl (by (try simp only [List.map_toArray, List.map_cons, List.map_nil]); first | done | rfl | (simp only [List.length_drop, List.length_take]; rfl)) ?_; with_reducible refine (impl_isSpace.calls k2 ((riS26 l0 x19_2).f0) ((riS26 l0 x19_2).f1) ((riS26 l0 x19_2).f2) ((riS26 l0 x19_2).f3) ((riS26 l0 x19_2).f4) true _ A8.out).mono ?_
                       rintro e w19 ⟨rfl, hb⟩; refine ⟨_, rfl, ?_⟩; have n0_ := As0.mk (blk_below (g := gb155) (o := .cells #[.string ((riS26 l0 x19_2).f0), .string ((riS26 l0 x19_2).f1), .int .i64 ((riS26 l0 x19_2).f2), .bool ((riS26 l0 x19_2).f3), .int .i64 ((riS26 l0 x19_2).f4)] 42 (0, 0)) (by (with_reducible repeat (first | refine bkN ?_ _ | refine bkD ?_ | refine bkA ?_ _)); exact BK155.out) hb); have n1_ := As0.mk (bsp (by repeat (first | (with_reducible first | exact HB.out | apply bal | apply pbN | apply bd1 | refine bst ?_ GE155.out) | exact HB.out)) hb); clear BK155; clear HB; have BK155 := n0_; have HB := n1_; clear n0_ n1_
                       (try clear hb)
                       (try clear hb2)
                       (try clear hk)
                       (try clear hi)
                       refine hK.out _ _ ⟨(bkC BK155.out 0).trans rfl, (bkC BK155.out 1).trans rfl, (bkC BK155.out 2).trans rfl, (bkC BK155.out 3).trans rfl, (bkC BK155.out 4).trans rfl, ((HB.out.cell (World.block_lt_of_cell? w _ hw157_0)).trans hw157_0), ((HB.out.cell (World.block_lt_of_cell? w _ hw157_1)).trans hw157_1), ((HB.out.cell (World.block_lt_of_cell? w _ hw157_2)).trans hw157_2), ((HB.out.cell (World.block_lt_of_cell? w _ hw157_3)).trans hw157_3), ((HB.out.cell (World.block_lt_of_cell? w _ hw157_4)).trans hw157_4)⟩ (fun hHeld => ?_); clear hK K; refine norm_ (a' := ?_) ?_ ?_; rotate_left
                       · show Act.put _ (some 25) _ = _
                         simp only [Act.put, sA, sZ, sS, i64_w, i32_w]; rfl
                       refine pu 2 (some 26) impl_areSpaces.calls.a3 rfl rfl HT_.out ?_; refine pu 3 (some 27) impl_areSpaces.calls.a4 rfl rfl HT_.out ?_; refine pu 4 (some 28) impl_areSpaces.calls.a5 rfl rfl HT_.out ?_; refine pu 5 (some 29) impl_areSpaces.calls.a6 rfl rfl HT_.out ?_; refine pu 6 (some 30) impl_areSpaces.calls.a7 rfl rfl HT_.out ?_; refine pu 7 (some 31) impl_areSpaces.calls.a8 rfl rfl HT_.out ?_; refine pu 8 (some 32) impl_areSpaces.calls.a9 rfl rfl HT_.out ?_; refine pu 9 (some 33) impl_areSpaces.calls.a10 rfl rfl HT_.out ?_; refine pu 10 (some 34) impl_areSpaces.calls.a11 rfl rfl HT_.out ?_; refine pu 11 (some 35) impl_areSpaces.calls.a12 rfl rfl HT_.out ?_; refine pu 13 (some 37) #[true, true, true, true, true, true, true, true, true, true, true, true, false, true, false, false, false, false] rfl rfl HT_.out ?_; refine tk 12 (some 36) impl_areSpaces.calls.a13 rfl rfl HT_.out HW_.out hHeld (by rintro w' ⟨s0, s1, s2, s3, s4, s5, s6, s7, s8, s9⟩; go_simp; with_reducible rfl) ?_; refine tk 14 (some 38) impl_areSpaces.calls.a14 rfl rfl HT_.out HW_.out hHeld (by rintro w' ⟨s0, s1, s2, s3, s4, s5, s6, s7, s8, s9⟩; go_simp; with_reducible rfl) ?_; refine pu 15 (some 39) impl_areSpaces.calls.a15 rfl rfl HT_.out ?_; refine pu 16 (some 40) impl_areSpaces.calls.a16 rfl rfl HT_.out ?_; refine pu 17 (some 41) impl_areSpaces.calls.a17 rfl rfl HT_.out ?_; refine done_ (done_of HT_.out (by kernel_rfl)) ?_
                       try go_wp2
                       go_roundg k2
                       case measure => have := HJ1.out; have := HK2.out; omega
                       case rel => exact ⟨(wrap64 (x19_2 + 1)), (by first | rfl | (simp; done) | (simp [*]; done)), H', ⟨by have := HJ1.out; have := HK2.out; omega⟩, ⟨by repeat (first | (with_reducible first | exact HB.out | apply bal | apply pbN | apply bd1 | refine bst ?_ GE155.out) | exact HB.out)⟩⟩
                     · rw [if_neg c14] at H
                       have c14b0 : (Op.bytesLess (((riS26 l0 (ji11)).f0).toList) (((riS26 l0 x19_2).f0).toList)) = false := by simpa using c14
                       clear c14; obtain rfl := Option.some.inj H; have p154 : 0 ≤ (x19_2 : Int) := odt; have q154 : x19_2 < (l0.length : Int) := odt; obtain ⟨ad154, e154, hx154_0, hx154_1, hx154_2, hx154_3, hx154_4⟩ := at_T42 HR0.out x19_2 p154 q154
                       cases e154
                       replace hx154_0 := bx HB.out rfl hx154_0; replace hx154_1 := bx HB.out rfl hx154_1; replace hx154_2 := bx HB.out rfl hx154_2; replace hx154_3 := bx HB.out rfl hx154_3; replace hx154_4 := bx HB.out rfl hx154_4; replace p154 := eq_true p154; replace q154 := eq_true q154
                       try go_wp2_with (first | ((with_reducible refine gate_dst (N := 4) rfl ?_); (try (refine gate_guard (by rfl) ?_; dsimp only)); refine box_event ?hg (N := 4) ?hd (cs := #[.string (⟨#[]⟩ : ByteArray), .string (⟨#[]⟩ : ByteArray), .int .i64 0, .bool false, .int .i64 0]) (t := 42) ?hr ?_; (case hd => rfl); (case hg => rfl); (case hr => first | (go_simp; done) | (go_simp; rfl)); intro gb155 hg w20 hbox hb; have n0_ := As0.mk (bsp (by repeat (first | (with_reducible first | exact HB.out | apply bal | apply pbN | apply bd1) | exact HB.out)) hb); have n1_ := As0.mk (hbox); have n2_ := As0.mk ((by rw [hg]; exact (bsz (by repeat (first | (with_reducible first | exact HB.out | apply bal | apply pbN | apply bd1) | exact HB.out))) : w.heap.size ≤ gb155)); have n3_ := As0.mk ((by rw [hg]; exact (bsz (by repeat (first | (with_reducible first | exact HB.out | apply bal | apply pbN | apply bd1) | exact HB.out))) : w.heap.size ≤ gb155)); clear HB; have HB := n0_; have BK155 := n1_; have GW155 := n2_; have GE155 := n3_; clear n0_ n1_ n2_ n3_; clear hb hbox hg; have hcz21_0 : w20.cell? ⟨gb155, 0, none⟩ = some (.string (⟨#[]⟩ : ByteArray)) := (bkC BK155.out 0).trans rfl; have hcz21_1 : w20.cell? ⟨gb155, 1, none⟩ = some (.string (⟨#[]⟩ : ByteArray)) := (bkC BK155.out 1).trans rfl; have hcz21_2 : w20.cell? ⟨gb155, 2, none⟩ = some (.int .i64 0) := (bkC BK155.out 2).trans rfl; have hcz21_3 : w20.cell? ⟨gb155, 3, none⟩ = some (.bool false) := (bkC BK155.out 3).trans rfl; have hcz21_4 : w20.cell? ⟨gb155, 4, none⟩ = some (.int .i64 0) := (bkC BK155.out 4).trans rfl; have hfz21_0 := bkF BK155.out 0; have hfz21_1 := bkF BK155.out 1; have hfz21_2 := bkF BK155.out 2; have hfz21_3 := bkF BK155.out 3; have hfz21_4 := bkF BK155.out 4))
                       have n0_ : As0 ((((((w20.setCell ⟨gb155, 0, none⟩ (.string ((riS26 l0 x19_2).f0))).setCell ⟨gb155, 1, none⟩ (.string ((riS26 l0 x19_2).f1))).setCell ⟨gb155, 2, none⟩ (.int .i64 ((riS26 l0 x19_2).f2))).setCell ⟨gb155, 3, none⟩ (.bool ((riS26 l0 x19_2).f3))).setCell ⟨gb155, 4, none⟩ (.int .i64 ((riS26 l0 x19_2).f4))).heap[gb155]? = some (.cells #[.string ((riS26 l0 x19_2).f0), .string ((riS26 l0 x19_2).f1), .int .i64 ((riS26 l0 x19_2).f2), .bool ((riS26 l0 x19_2).f3), .int .i64 ((riS26 l0 x19_2).f4)] 42 (0, 0))) := ⟨by (with_reducible repeat (first | refine bkN ?_ _ | refine bkD ?_ | refine bkA ?_ _)); refine blk_put (cs := #[.string ((riS26 l0 x19_2).f0), .string ((riS26 l0 x19_2).f1), .int .i64 ((riS26 l0 x19_2).f2), .bool ((riS26 l0 x19_2).f3), .int .i64 0]) ?_ 4 _ rfl; (with_reducible repeat (first | refine bkN ?_ _ | refine bkD ?_ | refine bkA ?_ _)); refine blk_put (cs := #[.string ((riS26 l0 x19_2).f0), .string ((riS26 l0 x19_2).f1), .int .i64 ((riS26 l0 x19_2).f2), .bool false, .int .i64 0]) ?_ 3 _ rfl; (with_reducible repeat (first | refine bkN ?_ _ | refine bkD ?_ | refine bkA ?_ _)); refine blk_put (cs := #[.string ((riS26 l0 x19_2).f0), .string ((riS26 l0 x19_2).f1), .int .i64 0, .bool false, .int .i64 0]) ?_ 2 _ rfl; (with_reducible repeat (first | refine bkN ?_ _ | refine bkD ?_ | refine bkA ?_ _)); refine blk_put (cs := #[.string ((riS26 l0 x19_2).f0), .string (⟨#[]⟩ : ByteArray), .int .i64 0, .bool false, .int .i64 0]) ?_ 1 _ rfl; (with_reducible repeat (first | refine bkN ?_ _ | refine bkD ?_ | refine bkA ?_ _)); refine blk_put (cs := #[.string (⟨#[]⟩ : ByteArray), .string (⟨#[]⟩ : ByteArray), .int .i64 0, .bool false, .int .i64 0]) ?_ 0 _ rfl; (with_reducible repeat (first | refine bkN ?_ _ | refine bkD ?_ | refine bkA ?_ _)); exact BK155.out⟩; have n1_ : As0 (Below w.heap.size w (((((w20.setCell ⟨gb155, 0, none⟩ (.string ((riS26 l0 x19_2).f0))).setCell ⟨gb155, 1, none⟩ (.string ((riS26 l0 x19_2).f1))).setCell ⟨gb155, 2, none⟩ (.int .i64 ((riS26 l0 x19_2).f2))).setCell ⟨gb155, 3, none⟩ (.bool ((riS26 l0 x19_2).f3))).setCell ⟨gb155, 4, none⟩ (.int .i64 ((riS26 l0 x19_2).f4)))) := ⟨by repeat (first | (with_reducible first | exact HB.out | apply bal | apply pbN | apply bd1 | refine bst ?_ GE155.out) | exact HB.out)⟩
                       (try clear BK155)
                       (try clear HB)
                       (try rw [Opens.setCell_drewN])
                       generalize (((((w20.setCell ⟨gb155, 0, none⟩ (.string ((riS26 l0 x19_2).f0))).setCell ⟨gb155, 1, none⟩ (.string ((riS26 l0 x19_2).f1))).setCell ⟨gb155, 2, none⟩ (.int .i64 ((riS26 l0 x19_2).f2))).setCell ⟨gb155, 3, none⟩ (.bool ((riS26 l0 x19_2).f3))).setCell ⟨gb155, 4, none⟩ (.int .i64 ((riS26 l0 x19_2).f4))) = w22 at n0_ n1_ ⊢
                       have BK155 := n0_; have HB := n1_; clear n0_ n1_; have n0_ := As0.mk (bkD BK155.out); have n1_ := As0.mk (bd1 HB.out); clear BK155; clear HB; have BK155 := n0_; have HB := n1_; clear n0_ n1_; have p157 : 0 ≤ ((ji11) : Int) := odt; have q157 : (ji11) < (l0.length : Int) := odt; obtain ⟨ad157, e157, hx157_0, hx157_1, hx157_2, hx157_3, hx157_4⟩ := at_T42 HR0.out (ji11) p157 q157; have hw157_4 := hx157_4; have hw157_3 := hx157_3; have hw157_2 := hx157_2; have hw157_1 := hx157_1; have hw157_0 := hx157_0; obtain rfl : ad154 = ad157 := (by injection e157); replace hx157_0 := bx HB.out rfl hx157_0; replace hx157_1 := bx HB.out rfl hx157_1; replace hx157_2 := bx HB.out rfl hx157_2; replace hx157_3 := bx HB.out rfl hx157_3; replace hx157_4 := bx HB.out rfl hx157_4; replace p157 := eq_true p157; replace q157 := eq_true q157; refine start_ (n := 18) (S := fun w' => w'.cell? ⟨gb155, 0, none⟩ = some (.string ((riS26 l0 x19_2).f0)) ∧ w'.cell? ⟨gb155, 1, none⟩ = some (.string ((riS26 l0 x19_2).f1)) ∧ w'.cell? ⟨gb155, 2, none⟩ = some (.int .i64 ((riS26 l0 x19_2).f2)) ∧ w'.cell? ⟨gb155, 3, none⟩ = some (.bool ((riS26 l0 x19_2).f3)) ∧ w'.cell? ⟨gb155, 4, none⟩ = some (.int .i64 ((riS26 l0 x19_2).f4)) ∧ w'.cell? (ad154.add (((ji11)).toNat * 5)) = some (.string ((riS26 l0 (ji11)).f0)) ∧ w'.cell? ⟨(ad154.add (((ji11)).toNat * 5)).block, (ad154.add (((ji11)).toNat * 5)).off + 1, none⟩ = some (.string ((riS26 l0 (ji11)).f1)) ∧ w'.cell? ⟨(ad154.add (((ji11)).toNat * 5)).block, (ad154.add (((ji11)).toNat * 5)).off + 2, none⟩ = some (.int .i64 ((riS26 l0 (ji11)).f2)) ∧ w'.cell? ⟨(ad154.add (((ji11)).toNat * 5)).block, (ad154.add (((ji11)).toNat * 5)).off + 3, none⟩ = some (.bool ((riS26 l0 (ji11)).f3)) ∧ w'.cell? ⟨(ad154.add (((ji11)).toNat * 5)).block, (ad154.add (((ji11)).toNat * 5)).off + 4, none⟩ = some (.int .i64 ((riS26 l0 (ji11)).f4))) (ds := []) impl_areSpaces.calls.a0 (by kernel_rfl) rfl rfl ⟨(bkC BK155.out 0).trans rfl, (bkC BK155.out 1).trans rfl, (bkC BK155.out 2).trans rfl, (bkC BK155.out 3).trans rfl, (bkC BK155.out 4).trans rfl, ((HB.out.cell (World.block_lt_of_cell? w _ hw157_0)).trans hw157_0), ((HB.out.cell (World.block_lt_of_cell? w _ hw157_1)).trans hw157_1), ((HB.out.cell (World.block_lt_of_cell? w _ hw157_2)).trans hw157_2), ((HB.out.cell (World.block_lt_of_cell? w _ hw157_3)).trans hw157_3), ((HB.out.cell (World.block_lt_of_cell? w _ hw157_4)).trans hw157_4)⟩ (fun hHeld => ?_); refine with_tabW impl_areSpaces.tab6 impl_areSpaces.bits6 (fun HT_ HW_ => ?_); generalize w22.drew = w23 at BK155 HB hx157_0 hx157_1 hx157_2 hx157_3 hx157_4 hHeld ⊢
                       refine tk 0 (some 24) impl_areSpaces.calls.a1 rfl rfl HT_.out HW_.out hHeld (by rintro w' ⟨s0, s1, s2, s3, s4, s5, s6, s7, s8, s9⟩; go_simp; with_reducible rfl) ?_; refine one_ (i := 1) (N := some 25) impl_areSpaces.calls.a2 rfl rfl (one_of HT_.out (by kernel_rfl)) (by decide) (fun K hK => ?_); refine goes_ Tryd.func92 (by kernel_rfl) rfl #[.agg #[.string ((riS26 l0 x19_2).f0), .string ((riS26 l0 x19_2).f1), .int .i64 ((riS26 l0 x19_2).f2), .bool ((riS26 l0 x19_2).f3), .int .i64 ((riS26 l0 x19_2).f4)]] (by rfl) rfl rfl (by (try simp only [List.map_toArray, List.map_cons, List.map_nil]); first | done | rfl | (simp only [List.length_drop, List.length_take]; rfl)) ?_; with_reducible refine (impl_isSpace.calls k2 ((riS26 l0 x19_2).f0) ((riS26 l0 x19_2).f1) ((riS26 l0 x19_2).f2) ((riS26 l0 x19_2).f3) ((riS26 l0 x19_2).f4) true _ A8.out).mono ?_
                       rintro e w24 ⟨rfl, hb⟩; refine ⟨_, rfl, ?_⟩; have n0_ := As0.mk (blk_below (g := gb155) (o := .cells #[.string ((riS26 l0 x19_2).f0), .string ((riS26 l0 x19_2).f1), .int .i64 ((riS26 l0 x19_2).f2), .bool ((riS26 l0 x19_2).f3), .int .i64 ((riS26 l0 x19_2).f4)] 42 (0, 0)) (by (with_reducible repeat (first | refine bkN ?_ _ | refine bkD ?_ | refine bkA ?_ _)); exact BK155.out) hb); have n1_ := As0.mk (bsp (by repeat (first | (with_reducible first | exact HB.out | apply bal | apply pbN | apply bd1 | refine bst ?_ GE155.out) | exact HB.out)) hb); clear BK155; clear HB; have BK155 := n0_; have HB := n1_; clear n0_ n1_
                       (try clear hb)
                       (try clear hb2)
                       (try clear hk)
                       (try clear hi)
                       refine hK.out _ _ ⟨(bkC BK155.out 0).trans rfl, (bkC BK155.out 1).trans rfl, (bkC BK155.out 2).trans rfl, (bkC BK155.out 3).trans rfl, (bkC BK155.out 4).trans rfl, ((HB.out.cell (World.block_lt_of_cell? w _ hw157_0)).trans hw157_0), ((HB.out.cell (World.block_lt_of_cell? w _ hw157_1)).trans hw157_1), ((HB.out.cell (World.block_lt_of_cell? w _ hw157_2)).trans hw157_2), ((HB.out.cell (World.block_lt_of_cell? w _ hw157_3)).trans hw157_3), ((HB.out.cell (World.block_lt_of_cell? w _ hw157_4)).trans hw157_4)⟩ (fun hHeld => ?_); clear hK K; refine norm_ (a' := ?_) ?_ ?_; rotate_left
                       · show Act.put _ (some 25) _ = _
                         simp only [Act.put, sA, sZ, sS, i64_w, i32_w]; rfl
                       refine pu 2 (some 26) impl_areSpaces.calls.a3 rfl rfl HT_.out ?_; refine pu 3 (some 27) impl_areSpaces.calls.a4 rfl rfl HT_.out ?_; refine pu 4 (some 28) impl_areSpaces.calls.a5 rfl rfl HT_.out ?_; refine pu 5 (some 29) impl_areSpaces.calls.a6 rfl rfl HT_.out ?_; refine pu 6 (some 30) impl_areSpaces.calls.a7 rfl rfl HT_.out ?_; refine pu 7 (some 31) impl_areSpaces.calls.a8 rfl rfl HT_.out ?_; refine pu 8 (some 32) impl_areSpaces.calls.a9 rfl rfl HT_.out ?_; refine pu 9 (some 33) impl_areSpaces.calls.a10 rfl rfl HT_.out ?_; refine pu 10 (some 34) impl_areSpaces.calls.a11 rfl rfl HT_.out ?_; refine pu 11 (some 35) impl_areSpaces.calls.a12 rfl rfl HT_.out ?_; refine pu 13 (some 37) #[true, true, true, true, true, true, true, true, true, true, true, true, false, true, false, false, false, false] rfl rfl HT_.out ?_; refine tk 12 (some 36) impl_areSpaces.calls.a13 rfl rfl HT_.out HW_.out hHeld (by rintro w' ⟨s0, s1, s2, s3, s4, s5, s6, s7, s8, s9⟩; go_simp; with_reducible rfl) ?_; refine tk 14 (some 38) impl_areSpaces.calls.a14 rfl rfl HT_.out HW_.out hHeld (by rintro w' ⟨s0, s1, s2, s3, s4, s5, s6, s7, s8, s9⟩; go_simp; with_reducible rfl) ?_; refine pu 15 (some 39) impl_areSpaces.calls.a15 rfl rfl HT_.out ?_; refine pu 16 (some 40) impl_areSpaces.calls.a16 rfl rfl HT_.out ?_; refine pu 17 (some 41) impl_areSpaces.calls.a17 rfl rfl HT_.out ?_; refine done_ (done_of HT_.out (by kernel_rfl)) ?_
                       try go_wp2
                       go_ret
                       exact ⟨by first | rfl | (simp [errW_none, errW_some] <;> rfl) | (simp only [← hji11]; first | rfl | (simp [errW_none, errW_some] <;> rfl)) | (simp [*, errW_none, errW_some] <;> rfl), by repeat (first | (with_reducible first | exact HB.out | apply bal | apply pbN | apply bd1 | refine bst ?_ GE155.out) | exact HB.out)⟩
                   · rw [if_neg c13] at H
                     exact absurd H (by simp)
                 · rw [if_neg c12] at H
                   exact absurd H (by simp)
               · rw [if_neg c10] at H
                 have c10b0 : decide (0 < x19_2) = false := decide_eq_false c10; clear c10; have H' := As0.mk H; clear H; have p154 : 0 ≤ (x19_2 : Int) := odt; have q154 : x19_2 < (l0.length : Int) := odt; obtain ⟨ad154, e154, hx154_0, hx154_1, hx154_2, hx154_3, hx154_4⟩ := at_T42 HR0.out x19_2 p154 q154
                 cases e154
                 replace hx154_0 := bx HB.out rfl hx154_0; replace hx154_1 := bx HB.out rfl hx154_1; replace hx154_2 := bx HB.out rfl hx154_2; replace hx154_3 := bx HB.out rfl hx154_3; replace hx154_4 := bx HB.out rfl hx154_4; replace p154 := eq_true p154; replace q154 := eq_true q154
                 try go_wp2_with (first | ((with_reducible refine gate_dst (N := 4) rfl ?_); (try (refine gate_guard (by rfl) ?_; dsimp only)); refine box_event ?hg (N := 4) ?hd (cs := #[.string (⟨#[]⟩ : ByteArray), .string (⟨#[]⟩ : ByteArray), .int .i64 0, .bool false, .int .i64 0]) (t := 42) ?hr ?_; (case hd => rfl); (case hg => rfl); (case hr => first | (go_simp; done) | (go_simp; rfl)); intro gb155 hg w25 hbox hb; have n0_ := As0.mk (bsp (by repeat (first | (with_reducible first | exact HB.out | apply bal | apply pbN | apply bd1) | exact HB.out)) hb); have n1_ := As0.mk (hbox); have n2_ := As0.mk ((by rw [hg]; exact (bsz (by repeat (first | (with_reducible first | exact HB.out | apply bal | apply pbN | apply bd1) | exact HB.out))) : w.heap.size ≤ gb155)); have n3_ := As0.mk ((by rw [hg]; exact (bsz (by repeat (first | (with_reducible first | exact HB.out | apply bal | apply pbN | apply bd1) | exact HB.out))) : w.heap.size ≤ gb155)); clear HB; have HB := n0_; have BK155 := n1_; have GW155 := n2_; have GE155 := n3_; clear n0_ n1_ n2_ n3_; clear hb hbox hg; have hcz26_0 : w25.cell? ⟨gb155, 0, none⟩ = some (.string (⟨#[]⟩ : ByteArray)) := (bkC BK155.out 0).trans rfl; have hcz26_1 : w25.cell? ⟨gb155, 1, none⟩ = some (.string (⟨#[]⟩ : ByteArray)) := (bkC BK155.out 1).trans rfl; have hcz26_2 : w25.cell? ⟨gb155, 2, none⟩ = some (.int .i64 0) := (bkC BK155.out 2).trans rfl; have hcz26_3 : w25.cell? ⟨gb155, 3, none⟩ = some (.bool false) := (bkC BK155.out 3).trans rfl; have hcz26_4 : w25.cell? ⟨gb155, 4, none⟩ = some (.int .i64 0) := (bkC BK155.out 4).trans rfl; have hfz26_0 := bkF BK155.out 0; have hfz26_1 := bkF BK155.out 1; have hfz26_2 := bkF BK155.out 2; have hfz26_3 := bkF BK155.out 3; have hfz26_4 := bkF BK155.out 4))
                 have n0_ : As0 ((((((w25.setCell ⟨gb155, 0, none⟩ (.string ((riS26 l0 x19_2).f0))).setCell ⟨gb155, 1, none⟩ (.string ((riS26 l0 x19_2).f1))).setCell ⟨gb155, 2, none⟩ (.int .i64 ((riS26 l0 x19_2).f2))).setCell ⟨gb155, 3, none⟩ (.bool ((riS26 l0 x19_2).f3))).setCell ⟨gb155, 4, none⟩ (.int .i64 ((riS26 l0 x19_2).f4))).heap[gb155]? = some (.cells #[.string ((riS26 l0 x19_2).f0), .string ((riS26 l0 x19_2).f1), .int .i64 ((riS26 l0 x19_2).f2), .bool ((riS26 l0 x19_2).f3), .int .i64 ((riS26 l0 x19_2).f4)] 42 (0, 0))) := ⟨by (with_reducible repeat (first | refine bkN ?_ _ | refine bkD ?_ | refine bkA ?_ _)); refine blk_put (cs := #[.string ((riS26 l0 x19_2).f0), .string ((riS26 l0 x19_2).f1), .int .i64 ((riS26 l0 x19_2).f2), .bool ((riS26 l0 x19_2).f3), .int .i64 0]) ?_ 4 _ rfl; (with_reducible repeat (first | refine bkN ?_ _ | refine bkD ?_ | refine bkA ?_ _)); refine blk_put (cs := #[.string ((riS26 l0 x19_2).f0), .string ((riS26 l0 x19_2).f1), .int .i64 ((riS26 l0 x19_2).f2), .bool false, .int .i64 0]) ?_ 3 _ rfl; (with_reducible repeat (first | refine bkN ?_ _ | refine bkD ?_ | refine bkA ?_ _)); refine blk_put (cs := #[.string ((riS26 l0 x19_2).f0), .string ((riS26 l0 x19_2).f1), .int .i64 0, .bool false, .int .i64 0]) ?_ 2 _ rfl; (with_reducible repeat (first | refine bkN ?_ _ | refine bkD ?_ | refine bkA ?_ _)); refine blk_put (cs := #[.string ((riS26 l0 x19_2).f0), .string (⟨#[]⟩ : ByteArray), .int .i64 0, .bool false, .int .i64 0]) ?_ 1 _ rfl; (with_reducible repeat (first | refine bkN ?_ _ | refine bkD ?_ | refine bkA ?_ _)); refine blk_put (cs := #[.string (⟨#[]⟩ : ByteArray), .string (⟨#[]⟩ : ByteArray), .int .i64 0, .bool false, .int .i64 0]) ?_ 0 _ rfl; (with_reducible repeat (first | refine bkN ?_ _ | refine bkD ?_ | refine bkA ?_ _)); exact BK155.out⟩; have n1_ : As0 (Below w.heap.size w (((((w25.setCell ⟨gb155, 0, none⟩ (.string ((riS26 l0 x19_2).f0))).setCell ⟨gb155, 1, none⟩ (.string ((riS26 l0 x19_2).f1))).setCell ⟨gb155, 2, none⟩ (.int .i64 ((riS26 l0 x19_2).f2))).setCell ⟨gb155, 3, none⟩ (.bool ((riS26 l0 x19_2).f3))).setCell ⟨gb155, 4, none⟩ (.int .i64 ((riS26 l0 x19_2).f4)))) := ⟨by repeat (first | (with_reducible first | exact HB.out | apply bal | apply pbN | apply bd1 | refine bst ?_ GE155.out) | exact HB.out)⟩
                 (try clear BK155)
                 (try clear HB)
                 (try rw [Opens.setCell_drewN])
                 generalize (((((w25.setCell ⟨gb155, 0, none⟩ (.string ((riS26 l0 x19_2).f0))).setCell ⟨gb155, 1, none⟩ (.string ((riS26 l0 x19_2).f1))).setCell ⟨gb155, 2, none⟩ (.int .i64 ((riS26 l0 x19_2).f2))).setCell ⟨gb155, 3, none⟩ (.bool ((riS26 l0 x19_2).f3))).setCell ⟨gb155, 4, none⟩ (.int .i64 ((riS26 l0 x19_2).f4))) = w27 at n0_ n1_ ⊢
                 have BK155 := n0_; have HB := n1_; clear n0_ n1_; have n0_ := As0.mk (bkD BK155.out); have n1_ := As0.mk (bd1 HB.out); clear BK155; clear HB; have BK155 := n0_; have HB := n1_; clear n0_ n1_; refine start_ (n := 18) (S := fun w' => w'.cell? ⟨gb155, 0, none⟩ = some (.string ((riS26 l0 x19_2).f0)) ∧ w'.cell? ⟨gb155, 1, none⟩ = some (.string ((riS26 l0 x19_2).f1)) ∧ w'.cell? ⟨gb155, 2, none⟩ = some (.int .i64 ((riS26 l0 x19_2).f2)) ∧ w'.cell? ⟨gb155, 3, none⟩ = some (.bool ((riS26 l0 x19_2).f3)) ∧ w'.cell? ⟨gb155, 4, none⟩ = some (.int .i64 ((riS26 l0 x19_2).f4))) (ds := []) impl_areSpaces.calls.a0 (by kernel_rfl) rfl rfl ⟨(bkC BK155.out 0).trans rfl, (bkC BK155.out 1).trans rfl, (bkC BK155.out 2).trans rfl, (bkC BK155.out 3).trans rfl, (bkC BK155.out 4).trans rfl⟩ (fun hHeld => ?_); refine with_tabW impl_areSpaces.tab6 impl_areSpaces.bits6 (fun HT_ HW_ => ?_); generalize w27.drew = w28 at BK155 HB hHeld ⊢
                 refine tk 0 (some 24) impl_areSpaces.calls.a1 rfl rfl HT_.out HW_.out hHeld (by rintro w' ⟨s0, s1, s2, s3, s4⟩; go_simp; with_reducible rfl) ?_; refine one_ (i := 1) (N := some 25) impl_areSpaces.calls.a2 rfl rfl (one_of HT_.out (by kernel_rfl)) (by decide) (fun K hK => ?_); refine goes_ Tryd.func92 (by kernel_rfl) rfl #[.agg #[.string ((riS26 l0 x19_2).f0), .string ((riS26 l0 x19_2).f1), .int .i64 ((riS26 l0 x19_2).f2), .bool ((riS26 l0 x19_2).f3), .int .i64 ((riS26 l0 x19_2).f4)]] (by rfl) rfl rfl (by (try simp only [List.map_toArray, List.map_cons, List.map_nil]); first | done | rfl | (simp only [List.length_drop, List.length_take]; rfl)) ?_; with_reducible refine (impl_isSpace.calls k2 ((riS26 l0 x19_2).f0) ((riS26 l0 x19_2).f1) ((riS26 l0 x19_2).f2) ((riS26 l0 x19_2).f3) ((riS26 l0 x19_2).f4) true _ A8.out).mono ?_
                 rintro e w29 ⟨rfl, hb⟩; refine ⟨_, rfl, ?_⟩; have n0_ := As0.mk (blk_below (g := gb155) (o := .cells #[.string ((riS26 l0 x19_2).f0), .string ((riS26 l0 x19_2).f1), .int .i64 ((riS26 l0 x19_2).f2), .bool ((riS26 l0 x19_2).f3), .int .i64 ((riS26 l0 x19_2).f4)] 42 (0, 0)) (by (with_reducible repeat (first | refine bkN ?_ _ | refine bkD ?_ | refine bkA ?_ _)); exact BK155.out) hb); have n1_ := As0.mk (bsp (by repeat (first | (with_reducible first | exact HB.out | apply bal | apply pbN | apply bd1 | refine bst ?_ GE155.out) | exact HB.out)) hb); clear BK155; clear HB; have BK155 := n0_; have HB := n1_; clear n0_ n1_
                 (try clear hb)
                 (try clear hb2)
                 (try clear hk)
                 (try clear hi)
                 refine hK.out _ _ ⟨(bkC BK155.out 0).trans rfl, (bkC BK155.out 1).trans rfl, (bkC BK155.out 2).trans rfl, (bkC BK155.out 3).trans rfl, (bkC BK155.out 4).trans rfl⟩ (fun hHeld => ?_); clear hK K; refine norm_ (a' := ?_) ?_ ?_; rotate_left
                 · show Act.put _ (some 25) _ = _
                   simp only [Act.put, sA, sZ, sS, i64_w, i32_w]; rfl
                 refine pu 2 (some 26) impl_areSpaces.calls.a3 rfl rfl HT_.out ?_; refine pu 3 (some 27) impl_areSpaces.calls.a4 rfl rfl HT_.out ?_; refine pu 4 (some 28) impl_areSpaces.calls.a5 rfl rfl HT_.out ?_; refine pu 5 (some 29) impl_areSpaces.calls.a6 rfl rfl HT_.out ?_; refine pu 6 (some 30) impl_areSpaces.calls.a7 rfl rfl HT_.out ?_; refine pn 7 (some 31) impl_areSpaces.calls.a8 rfl rfl HT_.out ?_; refine pn 8 (some 32) impl_areSpaces.calls.a9 rfl rfl HT_.out ?_; refine pn 9 (some 33) impl_areSpaces.calls.a10 rfl rfl HT_.out ?_; refine pn 10 (some 34) impl_areSpaces.calls.a11 rfl rfl HT_.out ?_; refine pn 11 (some 35) impl_areSpaces.calls.a12 rfl rfl HT_.out ?_; refine pn 12 (some 36) #[true, true, true, true, true, true, true, true, true, true, true, true, true, false, false, false, false, false] rfl rfl HT_.out ?_; refine pn 13 (some 37) impl_areSpaces.calls.a13 rfl rfl HT_.out ?_; refine pn 14 (some 38) impl_areSpaces.calls.a14 rfl rfl HT_.out ?_; refine pn 15 (some 39) impl_areSpaces.calls.a15 rfl rfl HT_.out ?_; refine pu 16 (some 40) impl_areSpaces.calls.a16 rfl rfl HT_.out ?_; refine pu 17 (some 41) impl_areSpaces.calls.a17 rfl rfl HT_.out ?_; refine done_ (done_of HT_.out (by kernel_rfl)) ?_
                 try go_wp2
                 go_roundg k2
                 case measure => have := HJ1.out; have := HK2.out; omega
                 case rel => exact ⟨(wrap64 (x19_2 + 1)), (by first | rfl | (simp; done) | (simp [*]; done)), H', ⟨by have := HJ1.out; have := HK2.out; omega⟩, ⟨by repeat (first | (with_reducible first | exact HB.out | apply bal | apply pbN | apply bd1 | refine bst ?_ GE155.out) | exact HB.out)⟩⟩
             · replace c9 := Bool.eq_false_iff.mpr c9
               subst c9; have H1 : (some false) = some r := by rw [if_neg (show ¬ (false = true) by decide)] at H; exact H
               clear H; have H := H1; clear H1; obtain rfl := Option.some.inj H; have p154 : 0 ≤ (x19_2 : Int) := odt; have q154 : x19_2 < (l0.length : Int) := odt; obtain ⟨ad154, e154, hx154_0, hx154_1, hx154_2, hx154_3, hx154_4⟩ := at_T42 HR0.out x19_2 p154 q154
               cases e154
               replace hx154_0 := bx HB.out rfl hx154_0; replace hx154_1 := bx HB.out rfl hx154_1; replace hx154_2 := bx HB.out rfl hx154_2; replace hx154_3 := bx HB.out rfl hx154_3; replace hx154_4 := bx HB.out rfl hx154_4; replace p154 := eq_true p154; replace q154 := eq_true q154
               try go_wp2_with (first | ((with_reducible refine gate_dst (N := 4) rfl ?_); (try (refine gate_guard (by rfl) ?_; dsimp only)); refine box_event ?hg (N := 4) ?hd (cs := #[.string (⟨#[]⟩ : ByteArray), .string (⟨#[]⟩ : ByteArray), .int .i64 0, .bool false, .int .i64 0]) (t := 42) ?hr ?_; (case hd => rfl); (case hg => rfl); (case hr => first | (go_simp; done) | (go_simp; rfl)); intro gb155 hg w30 hbox hb; have n0_ := As0.mk (bsp (by repeat (first | (with_reducible first | exact HB.out | apply bal | apply pbN | apply bd1) | exact HB.out)) hb); have n1_ := As0.mk (hbox); have n2_ := As0.mk ((by rw [hg]; exact (bsz (by repeat (first | (with_reducible first | exact HB.out | apply bal | apply pbN | apply bd1) | exact HB.out))) : w.heap.size ≤ gb155)); have n3_ := As0.mk ((by rw [hg]; exact (bsz (by repeat (first | (with_reducible first | exact HB.out | apply bal | apply pbN | apply bd1) | exact HB.out))) : w.heap.size ≤ gb155)); clear HB; have HB := n0_; have BK155 := n1_; have GW155 := n2_; have GE155 := n3_; clear n0_ n1_ n2_ n3_; clear hb hbox hg; have hcz31_0 : w30.cell? ⟨gb155, 0, none⟩ = some (.string (⟨#[]⟩ : ByteArray)) := (bkC BK155.out 0).trans rfl; have hcz31_1 : w30.cell? ⟨gb155, 1, none⟩ = some (.string (⟨#[]⟩ : ByteArray)) := (bkC BK155.out 1).trans rfl; have hcz31_2 : w30.cell? ⟨gb155, 2, none⟩ = some (.int .i64 0) := (bkC BK155.out 2).trans rfl; have hcz31_3 : w30.cell? ⟨gb155, 3, none⟩ = some (.bool false) := (bkC BK155.out 3).trans rfl; have hcz31_4 : w30.cell? ⟨gb155, 4, none⟩ = some (.int .i64 0) := (bkC BK155.out 4).trans rfl; have hfz31_0 := bkF BK155.out 0; have hfz31_1 := bkF BK155.out 1; have hfz31_2 := bkF BK155.out 2; have hfz31_3 := bkF BK155.out 3; have hfz31_4 := bkF BK155.out 4))
               have n0_ : As0 ((((((w30.setCell ⟨gb155, 0, none⟩ (.string ((riS26 l0 x19_2).f0))).setCell ⟨gb155, 1, none⟩ (.string ((riS26 l0 x19_2).f1))).setCell ⟨gb155, 2, none⟩ (.int .i64 ((riS26 l0 x19_2).f2))).setCell ⟨gb155, 3, none⟩ (.bool ((riS26 l0 x19_2).f3))).setCell ⟨gb155, 4, none⟩ (.int .i64 ((riS26 l0 x19_2).f4))).heap[gb155]? = some (.cells #[.string ((riS26 l0 x19_2).f0), .string ((riS26 l0 x19_2).f1), .int .i64 ((riS26 l0 x19_2).f2), .bool ((riS26 l0 x19_2).f3), .int .i64 ((riS26 l0 x19_2).f4)] 42 (0, 0))) := ⟨by (with_reducible repeat (first | refine bkN ?_ _ | refine bkD ?_ | refine bkA ?_ _)); refine blk_put (cs := #[.string ((riS26 l0 x19_2).f0), .string ((riS26 l0 x19_2).f1), .int .i64 ((riS26 l0 x19_2).f2), .bool ((riS26 l0 x19_2).f3), .int .i64 0]) ?_ 4 _ rfl; (with_reducible repeat (first | refine bkN ?_ _ | refine bkD ?_ | refine bkA ?_ _)); refine blk_put (cs := #[.string ((riS26 l0 x19_2).f0), .string ((riS26 l0 x19_2).f1), .int .i64 ((riS26 l0 x19_2).f2), .bool false, .int .i64 0]) ?_ 3 _ rfl; (with_reducible repeat (first | refine bkN ?_ _ | refine bkD ?_ | refine bkA ?_ _)); refine blk_put (cs := #[.string ((riS26 l0 x19_2).f0), .string ((riS26 l0 x19_2).f1), .int .i64 0, .bool false, .int .i64 0]) ?_ 2 _ rfl; (with_reducible repeat (first | refine bkN ?_ _ | refine bkD ?_ | refine bkA ?_ _)); refine blk_put (cs := #[.string ((riS26 l0 x19_2).f0), .string (⟨#[]⟩ : ByteArray), .int .i64 0, .bool false, .int .i64 0]) ?_ 1 _ rfl; (with_reducible repeat (first | refine bkN ?_ _ | refine bkD ?_ | refine bkA ?_ _)); refine blk_put (cs := #[.string (⟨#[]⟩ : ByteArray), .string (⟨#[]⟩ : ByteArray), .int .i64 0, .bool false, .int .i64 0]) ?_ 0 _ rfl; (with_reducible repeat (first | refine bkN ?_ _ | refine bkD ?_ | refine bkA ?_ _)); exact BK155.out⟩; have n1_ : As0 (Below w.heap.size w (((((w30.setCell ⟨gb155, 0, none⟩ (.string ((riS26 l0 x19_2).f0))).setCell ⟨gb155, 1, none⟩ (.string ((riS26 l0 x19_2).f1))).setCell ⟨gb155, 2, none⟩ (.int .i64 ((riS26 l0 x19_2).f2))).setCell ⟨gb155, 3, none⟩ (.bool ((riS26 l0 x19_2).f3))).setCell ⟨gb155, 4, none⟩ (.int .i64 ((riS26 l0 x19_2).f4)))) := ⟨by repeat (first | (with_reducible first | exact HB.out | apply bal | apply pbN | apply bd1 | refine bst ?_ GE155.out) | exact HB.out)⟩
               (try clear BK155)
               (try clear HB)
               (try rw [Opens.setCell_drewN])
               generalize (((((w30.setCell ⟨gb155, 0, none⟩ (.string ((riS26 l0 x19_2).f0))).setCell ⟨gb155, 1, none⟩ (.string ((riS26 l0 x19_2).f1))).setCell ⟨gb155, 2, none⟩ (.int .i64 ((riS26 l0 x19_2).f2))).setCell ⟨gb155, 3, none⟩ (.bool ((riS26 l0 x19_2).f3))).setCell ⟨gb155, 4, none⟩ (.int .i64 ((riS26 l0 x19_2).f4))) = w32 at n0_ n1_ ⊢
               have BK155 := n0_; have HB := n1_; clear n0_ n1_; have n0_ := As0.mk (bkD BK155.out); have n1_ := As0.mk (bd1 HB.out); clear BK155; clear HB; have BK155 := n0_; have HB := n1_; clear n0_ n1_; refine start_ (n := 18) (S := fun w' => w'.cell? ⟨gb155, 0, none⟩ = some (.string ((riS26 l0 x19_2).f0)) ∧ w'.cell? ⟨gb155, 1, none⟩ = some (.string ((riS26 l0 x19_2).f1)) ∧ w'.cell? ⟨gb155, 2, none⟩ = some (.int .i64 ((riS26 l0 x19_2).f2)) ∧ w'.cell? ⟨gb155, 3, none⟩ = some (.bool ((riS26 l0 x19_2).f3)) ∧ w'.cell? ⟨gb155, 4, none⟩ = some (.int .i64 ((riS26 l0 x19_2).f4))) (ds := []) impl_areSpaces.calls.a0 (by kernel_rfl) rfl rfl ⟨(bkC BK155.out 0).trans rfl, (bkC BK155.out 1).trans rfl, (bkC BK155.out 2).trans rfl, (bkC BK155.out 3).trans rfl, (bkC BK155.out 4).trans rfl⟩ (fun hHeld => ?_); refine with_tabW impl_areSpaces.tab6 impl_areSpaces.bits6 (fun HT_ HW_ => ?_); generalize w32.drew = w33 at BK155 HB hHeld ⊢
               refine tk 0 (some 24) impl_areSpaces.calls.a1 rfl rfl HT_.out HW_.out hHeld (by rintro w' ⟨s0, s1, s2, s3, s4⟩; go_simp; with_reducible rfl) ?_; refine one_ (i := 1) (N := some 25) impl_areSpaces.calls.a2 rfl rfl (one_of HT_.out (by kernel_rfl)) (by decide) (fun K hK => ?_); refine goes_ Tryd.func92 (by kernel_rfl) rfl #[.agg #[.string ((riS26 l0 x19_2).f0), .string ((riS26 l0 x19_2).f1), .int .i64 ((riS26 l0 x19_2).f2), .bool ((riS26 l0 x19_2).f3), .int .i64 ((riS26 l0 x19_2).f4)]] (by rfl) rfl rfl (by (try simp only [List.map_toArray, List.map_cons, List.map_nil]); first | done | rfl | (simp only [List.length_drop, List.length_take]; rfl)) ?_; with_reducible refine (impl_isSpace.calls k2 ((riS26 l0 x19_2).f0) ((riS26 l0 x19_2).f1) ((riS26 l0 x19_2).f2) ((riS26 l0 x19_2).f3) ((riS26 l0 x19_2).f4) false _ A8.out).mono ?_
               rintro e w34 ⟨rfl, hb⟩; refine ⟨_, rfl, ?_⟩; have n0_ := As0.mk (blk_below (g := gb155) (o := .cells #[.string ((riS26 l0 x19_2).f0), .string ((riS26 l0 x19_2).f1), .int .i64 ((riS26 l0 x19_2).f2), .bool ((riS26 l0 x19_2).f3), .int .i64 ((riS26 l0 x19_2).f4)] 42 (0, 0)) (by (with_reducible repeat (first | refine bkN ?_ _ | refine bkD ?_ | refine bkA ?_ _)); exact BK155.out) hb); have n1_ := As0.mk (bsp (by repeat (first | (with_reducible first | exact HB.out | apply bal | apply pbN | apply bd1 | refine bst ?_ GE155.out) | exact HB.out)) hb); clear BK155; clear HB; have BK155 := n0_; have HB := n1_; clear n0_ n1_
               (try clear hb)
               (try clear hb2)
               (try clear hk)
               (try clear hi)
               refine hK.out _ _ ⟨(bkC BK155.out 0).trans rfl, (bkC BK155.out 1).trans rfl, (bkC BK155.out 2).trans rfl, (bkC BK155.out 3).trans rfl, (bkC BK155.out 4).trans rfl⟩ (fun hHeld => ?_); clear hK K; refine norm_ (a' := ?_) ?_ ?_; rotate_left
               · show Act.put _ (some 25) _ = _
                 simp only [Act.put, sA, sZ, sS, i64_w, i32_w]; rfl
               refine pu 2 (some 26) impl_areSpaces.calls.a3 rfl rfl HT_.out ?_; refine pu 3 (some 27) impl_areSpaces.calls.a4 rfl rfl HT_.out ?_; refine pn 4 (some 28) impl_areSpaces.calls.a5 rfl rfl HT_.out ?_; refine pn 5 (some 29) impl_areSpaces.calls.a6 rfl rfl HT_.out ?_; refine pn 6 (some 30) impl_areSpaces.calls.a7 rfl rfl HT_.out ?_; refine pn 7 (some 31) impl_areSpaces.calls.a8 rfl rfl HT_.out ?_; refine pn 8 (some 32) impl_areSpaces.calls.a9 rfl rfl HT_.out ?_; refine pn 9 (some 33) impl_areSpaces.calls.a10 rfl rfl HT_.out ?_; refine pn 10 (some 34) impl_areSpaces.calls.a11 rfl rfl HT_.out ?_; refine pn 11 (some 35) impl_areSpaces.calls.a12 rfl rfl HT_.out ?_; refine pn 12 (some 36) #[true, true, true, true, true, true, true, true, true, true, true, true, true, false, false, false, false, false] rfl rfl HT_.out ?_; refine pn 13 (some 37) impl_areSpaces.calls.a13 rfl rfl HT_.out ?_; refine pn 14 (some 38) impl_areSpaces.calls.a14 rfl rfl HT_.out ?_; refine pn 15 (some 39) impl_areSpaces.calls.a15 rfl rfl HT_.out ?_; refine pn 16 (some 40) impl_areSpaces.calls.a16 rfl rfl HT_.out ?_; refine pu 17 (some 41) impl_areSpaces.calls.a17 rfl rfl HT_.out ?_; refine done_ (done_of HT_.out (by kernel_rfl)) ?_
               try go_wp2
               go_ret
               exact ⟨eW, by repeat (first | (with_reducible first | exact HB.out | apply bal | apply pbN | apply bd1 | refine bst ?_ GE155.out) | exact HB.out)⟩
           · rw [if_neg c7] at H
             exact absurd H (by simp)
         · rw [if_neg c6] at H
           exact absurd H (by simp)
       · rw [if_neg c5] at H
         have c5b0 : decide (x19_2 < (l0.length : Int)) = false := decide_eq_false c5; clear c5; have H' := As0.mk H; clear H
         go_wp2
         go_loopg [45] k2 (fun kq v45 w' => ∃ (x45_3 : Int), v45 = .int .i64 x45_3 ∧ As0 (impl_areSpaces.l1 kq l0 l0 (l0.length : Int) x45_3 = some r) ∧ As0 (kq ≤ k2) ∧ As0 (Below w.heap.size w w'))
         case atStart => exact ⟨(0), (by first | rfl | (simp; done) | (simp [*]; done)), H', ⟨Nat.le_refl _⟩, ⟨by repeat (first | (with_reducible first | exact HB.out | apply bal | apply pbN | apply bd1) | exact HB.out)⟩⟩
         case round =>
          clear H'
          try clear c1
          try clear p1
          try clear q1
          try clear hx1
          try clear p2
          try clear c5
          try clear c5b0
          try clear c6
          try clear p6
          try clear c7
          try clear c9
          try clear c10
          try clear c10b0
          try clear c12
          try clear c13
          try clear c14
          try clear c14b0
          try clear p15
          try clear q15
          try clear hx15
          try clear hcz21_0
          try clear hcz21_1
          try clear hcz21_2
          try clear hcz21_3
          try clear hcz21_4
          try clear hcz26_0
          try clear hcz26_1
          try clear hcz26_2
          try clear hcz26_3
          try clear hcz26_4
          try clear hcz31_0
          try clear hcz31_1
          try clear hcz31_2
          try clear hcz31_3
          try clear hcz31_4
          try clear hfz21_0
          try clear hfz21_1
          try clear hfz21_2
          try clear hfz21_3
          try clear hfz21_4
          try clear hfz26_0
          try clear hfz26_1
          try clear hfz26_2
          try clear hfz26_3
          try clear hfz26_4
          try clear hfz31_0
          try clear hfz31_1
          try clear hfz31_2
          try clear hfz31_3
          try clear hfz31_4
          try clear hx154_0
          try clear hx154_1
          try clear hx154_2
          try clear hx154_3
          try clear hx154_4
          try clear hx157_0
          try clear hx157_1
          try clear hx157_2
          try clear hx157_3
          try clear hx157_4
          try clear p154
          try clear p157
          try clear q154
          try clear q157
          obtain ⟨x45_3, rfl, HA, HK3, HB⟩ := hrel
          cases gk with
          | zero => exact absurd HA.out (by simp [impl_areSpaces.l1])
          | succ k3 =>
           have H := HA.out; clear HA; simp only [impl_areSpaces.l1] at H; by_cases c35 : x45_3 < (l0.length : Int)
           · rw [if_pos c35] at H
             have c35b0 : decide (x45_3 < (l0.length : Int)) = true := decide_eq_true c35; clear c35; by_cases c36 : 0 ≤ x45_3
             · rw [if_pos c36] at H
               have c36b0 : decide (0 ≤ x45_3) = true := decide_eq_true c36; clear c36; by_cases c37 : x45_3 < (l0.length : Int)
               · rw [if_pos c37] at H
                 have c37b0 : decide (x45_3 < (l0.length : Int)) = true := decide_eq_true c37; clear c37; have H' := As0.mk H; clear H; have p158 : 0 ≤ (x45_3 : Int) := odt; have q158 : x45_3 < (l0.length : Int) := odt; obtain ⟨ad158, e158, hx158_0, hx158_1, hx158_2, hx158_3, hx158_4⟩ := at_T42 HR0.out x45_3 p158 q158
                 cases e158
                 replace hx158_0 := bx HB.out rfl hx158_0; replace hx158_1 := bx HB.out rfl hx158_1; replace hx158_2 := bx HB.out rfl hx158_2; replace hx158_3 := bx HB.out rfl hx158_3; replace hx158_4 := bx HB.out rfl hx158_4; replace p158 := eq_true p158; replace q158 := eq_true q158
                 go_wp2_with (first | ((with_reducible refine gate_dst (N := 6) rfl ?_); (try (refine gate_guard (by rfl) ?_; dsimp only)); refine box_event ?hg (N := 6) ?hd (cs := #[.string (⟨#[]⟩ : ByteArray), .string (⟨#[]⟩ : ByteArray), .int .i64 0, .bool false, .int .i64 0]) (t := 42) ?hr ?_; (case hd => rfl); (case hg => rfl); (case hr => first | (go_simp; done) | (go_simp; rfl)); intro gb159 hg w38 hbox hb; have n0_ := As0.mk (bsp (by repeat (first | (with_reducible first | exact HB.out | apply bal | apply pbN | apply bd1) | exact HB.out)) hb); have n1_ := As0.mk (hbox); have n2_ := As0.mk ((by rw [hg]; exact (bsz (by repeat (first | (with_reducible first | exact HB.out | apply bal | apply pbN | apply bd1) | exact HB.out))) : w.heap.size ≤ gb159)); have n3_ := As0.mk ((by rw [hg]; exact (bsz (by repeat (first | (with_reducible first | exact HB.out | apply bal | apply pbN | apply bd1) | exact HB.out))) : w.heap.size ≤ gb159)); clear HB; have HB := n0_; have BK159 := n1_; have GW159 := n2_; have GE159 := n3_; clear n0_ n1_ n2_ n3_; clear hb hbox hg; have hcz39_0 : w38.cell? ⟨gb159, 0, none⟩ = some (.string (⟨#[]⟩ : ByteArray)) := (bkC BK159.out 0).trans rfl; have hcz39_1 : w38.cell? ⟨gb159, 1, none⟩ = some (.string (⟨#[]⟩ : ByteArray)) := (bkC BK159.out 1).trans rfl; have hcz39_2 : w38.cell? ⟨gb159, 2, none⟩ = some (.int .i64 0) := (bkC BK159.out 2).trans rfl; have hcz39_3 : w38.cell? ⟨gb159, 3, none⟩ = some (.bool false) := (bkC BK159.out 3).trans rfl; have hcz39_4 : w38.cell? ⟨gb159, 4, none⟩ = some (.int .i64 0) := (bkC BK159.out 4).trans rfl; have hfz39_0 := bkF BK159.out 0; have hfz39_1 := bkF BK159.out 1; have hfz39_2 := bkF BK159.out 2; have hfz39_3 := bkF BK159.out 3; have hfz39_4 := bkF BK159.out 4) | ((with_reducible refine gate_dst (N := 7) rfl ?_); (try (refine gate_guard (by rfl) ?_; dsimp only)); refine box_event ?hg (N := 7) ?hd (cs := #[.string (⟨#[]⟩ : ByteArray), .string (⟨#[]⟩ : ByteArray), .int .i64 0, .bool false, .int .i64 0]) (t := 42) ?hr ?_; (case hd => rfl); (case hg => rfl); (case hr => first | (go_simp; done) | (go_simp; rfl)); intro gb160 hg w40 hbox hb; have n0_ := As0.mk (blk_below (g := gb159) (o := .cells #[.string ((riS26 l0 x45_3).f0), .string ((riS26 l0 x45_3).f1), .int .i64 ((riS26 l0 x45_3).f2), .bool ((riS26 l0 x45_3).f3), .int .i64 ((riS26 l0 x45_3).f4)] 42 (0, 0)) (by (with_reducible repeat (first | refine bkN ?_ _ | refine bkD ?_ | refine bkA ?_ _)); refine blk_put (cs := #[.string ((riS26 l0 x45_3).f0), .string ((riS26 l0 x45_3).f1), .int .i64 ((riS26 l0 x45_3).f2), .bool ((riS26 l0 x45_3).f3), .int .i64 0]) ?_ 4 _ rfl; (with_reducible repeat (first | refine bkN ?_ _ | refine bkD ?_ | refine bkA ?_ _)); refine blk_put (cs := #[.string ((riS26 l0 x45_3).f0), .string ((riS26 l0 x45_3).f1), .int .i64 ((riS26 l0 x45_3).f2), .bool false, .int .i64 0]) ?_ 3 _ rfl; (with_reducible repeat (first | refine bkN ?_ _ | refine bkD ?_ | refine bkA ?_ _)); refine blk_put (cs := #[.string ((riS26 l0 x45_3).f0), .string ((riS26 l0 x45_3).f1), .int .i64 0, .bool false, .int .i64 0]) ?_ 2 _ rfl; (with_reducible repeat (first | refine bkN ?_ _ | refine bkD ?_ | refine bkA ?_ _)); refine blk_put (cs := #[.string ((riS26 l0 x45_3).f0), .string (⟨#[]⟩ : ByteArray), .int .i64 0, .bool false, .int .i64 0]) ?_ 1 _ rfl; (with_reducible repeat (first | refine bkN ?_ _ | refine bkD ?_ | refine bkA ?_ _)); refine blk_put (cs := #[.string (⟨#[]⟩ : ByteArray), .string (⟨#[]⟩ : ByteArray), .int .i64 0, .bool false, .int .i64 0]) ?_ 0 _ rfl; (with_reducible repeat (first | refine bkN ?_ _ | refine bkD ?_ | refine bkA ?_ _)); exact BK159.out) hb); have n1_ := As0.mk (bsp (by repeat (first | (with_reducible first | exact HB.out | apply bal | apply pbN | apply bd1 | refine bst ?_ GE159.out) | exact HB.out)) hb); have n2_ := As0.mk (hbox); have n3_ := As0.mk ((by rw [hg]; exact (bsz (by repeat (first | (with_reducible first | exact HB.out | apply bal | apply pbN | apply bd1 | refine bst ?_ GE159.out) | exact HB.out))) : w.heap.size ≤ gb160)); have n4_ := As0.mk ((by rw [hg]; exact (bsz (by repeat (first | (with_reducible first | exact HB.out | apply bal | apply pbN | apply bd1 | refine bst ?_ GE159.out) | exact HB.out))) : w.heap.size ≤ gb160)); have n5_ := As0.mk ((by rw [hg]; exact Nat.ne_of_lt (blk_lt (g := gb159) (o := .cells #[.string ((riS26 l0 x45_3).f0), .string ((riS26 l0 x45_3).f1), .int .i64 ((riS26 l0 x45_3).f2), .bool ((riS26 l0 x45_3).f3), .int .i64 ((riS26 l0 x45_3).f4)] 42 (0, 0)) (by (with_reducible repeat (first | refine bkN ?_ _ | refine bkD ?_ | refine bkA ?_ _)); refine blk_put (cs := #[.string ((riS26 l0 x45_3).f0), .string ((riS26 l0 x45_3).f1), .int .i64 ((riS26 l0 x45_3).f2), .bool ((riS26 l0 x45_3).f3), .int .i64 0]) ?_ 4 _ rfl; (with_reducible repeat (first | refine bkN ?_ _ | refine bkD ?_ | refine bkA ?_ _)); refine blk_put (cs := #[.string ((riS26 l0 x45_3).f0), .string ((riS26 l0 x45_3).f1), .int .i64 ((riS26 l0 x45_3).f2), .bool false, .int .i64 0]) ?_ 3 _ rfl; (with_reducible repeat (first | refine bkN ?_ _ | refine bkD ?_ | refine bkA ?_ _)); refine blk_put (cs := #[.string ((riS26 l0 x45_3).f0), .string ((riS26 l0 x45_3).f1), .int .i64 0, .bool false, .int .i64 0]) ?_ 2 _ rfl; (with_reducible repeat (first | refine bkN ?_ _ | refine bkD ?_ | refine bkA ?_ _)); refine blk_put (cs := #[.string ((riS26 l0 x45_3).f0), .string (⟨#[]⟩ : ByteArray), .int .i64 0, .bool false, .int .i64 0]) ?_ 1 _ rfl; (with_reducible repeat (first | refine bkN ?_ _ | refine bkD ?_ | refine bkA ?_ _)); refine blk_put (cs := #[.string (⟨#[]⟩ : ByteArray), .string (⟨#[]⟩ : ByteArray), .int .i64 0, .bool false, .int .i64 0]) ?_ 0 _ rfl; (with_reducible repeat (first | refine bkN ?_ _ | refine bkD ?_ | refine bkA ?_ _)); exact BK159.out)) : gb159 ≠ gb160)); have n6_ := As0.mk ((by rw [hg]; exact Nat.ne_of_gt (blk_lt (g := gb159) (o := .cells #[.string ((riS26 l0 x45_3).f0), .string ((riS26 l0 x45_3).f1), .int .i64 ((riS26 l0 x45_3).f2), .bool ((riS26 l0 x45_3).f3), .int .i64 ((riS26 l0 x45_3).f4)] 42 (0, 0)) (by (with_reducible repeat (first | refine bkN ?_ _ | refine bkD ?_ | refine bkA ?_ _)); refine blk_put (cs := #[.string ((riS26 l0 x45_3).f0), .string ((riS26 l0 x45_3).f1), .int .i64 ((riS26 l0 x45_3).f2), .bool ((riS26 l0 x45_3).f3), .int .i64 0]) ?_ 4 _ rfl; (with_reducible repeat (first | refine bkN ?_ _ | refine bkD ?_ | refine bkA ?_ _)); refine blk_put (cs := #[.string ((riS26 l0 x45_3).f0), .string ((riS26 l0 x45_3).f1), .int .i64 ((riS26 l0 x45_3).f2), .bool false, .int .i64 0]) ?_ 3 _ rfl; (with_reducible repeat (first | refine bkN ?_ _ | refine bkD ?_ | refine bkA ?_ _)); refine blk_put (cs := #[.string ((riS26 l0 x45_3).f0), .string ((riS26 l0 x45_3).f1), .int .i64 0, .bool false, .int .i64 0]) ?_ 2 _ rfl; (with_reducible repeat (first | refine bkN ?_ _ | refine bkD ?_ | refine bkA ?_ _)); refine blk_put (cs := #[.string ((riS26 l0 x45_3).f0), .string (⟨#[]⟩ : ByteArray), .int .i64 0, .bool false, .int .i64 0]) ?_ 1 _ rfl; (with_reducible repeat (first | refine bkN ?_ _ | refine bkD ?_ | refine bkA ?_ _)); refine blk_put (cs := #[.string (⟨#[]⟩ : ByteArray), .string (⟨#[]⟩ : ByteArray), .int .i64 0, .bool false, .int .i64 0]) ?_ 0 _ rfl; (with_reducible repeat (first | refine bkN ?_ _ | refine bkD ?_ | refine bkA ?_ _)); exact BK159.out)) : gb160 ≠ gb159)); clear BK159; clear HB; have BK159 := n0_; have HB := n1_; have BK160 := n2_; have GW160 := n3_; have GE160 := n4_; have NB159_160 := n5_; have NB160_159 := n6_; clear n0_ n1_ n2_ n3_ n4_ n5_ n6_; clear hb hbox hg; have hnb41 := NB160_159.out; have hnc41 := NB159_160.out; have hcz42_0 : w40.cell? ⟨gb160, 0, none⟩ = some (.string (⟨#[]⟩ : ByteArray)) := (bkC BK160.out 0).trans rfl; have hcz42_1 : w40.cell? ⟨gb160, 1, none⟩ = some (.string (⟨#[]⟩ : ByteArray)) := (bkC BK160.out 1).trans rfl; have hcz42_2 : w40.cell? ⟨gb160, 2, none⟩ = some (.int .i64 0) := (bkC BK160.out 2).trans rfl; have hcz42_3 : w40.cell? ⟨gb160, 3, none⟩ = some (.bool false) := (bkC BK160.out 3).trans rfl; have hcz42_4 : w40.cell? ⟨gb160, 4, none⟩ = some (.int .i64 0) := (bkC BK160.out 4).trans rfl; have hfz42_0 := bkF BK160.out 0; have hfz42_1 := bkF BK160.out 1; have hfz42_2 := bkF BK160.out 2; have hfz42_3 := bkF BK160.out 3; have hfz42_4 := bkF BK160.out 4))
                 go_loopg [52] k3 (fun kq v52 w' => ∃ (x52_4 : Int) (x161000_4 : ByteArray) (x161001_4 : ByteArray) (x161002_4 : Int) (x161003_4 : Bool) (x161004_4 : Int), v52 = .int .i64 x52_4 ∧ As0 (impl_areSpaces.l2 kq l0 l0 (l0.length : Int) x45_3 (l0.length : Int) x52_4 x161000_4 x161001_4 x161002_4 x161003_4 x161004_4 = some r) ∧ As0 (kq ≤ k3) ∧ As0 (w'.heap[gb159]? = some (.cells #[.string ((riS26 l0 x45_3).f0), .string ((riS26 l0 x45_3).f1), .int .i64 ((riS26 l0 x45_3).f2), .bool ((riS26 l0 x45_3).f3), .int .i64 ((riS26 l0 x45_3).f4)] 42 (0, 0))) ∧ As0 (w'.heap[gb160]? = some (.cells #[.string x161000_4, .string x161001_4, .int .i64 x161002_4, .bool x161003_4, .int .i64 x161004_4] 42 (0, 0))) ∧ As0 (Below w.heap.size w w'))
                 case atStart => exact ⟨(0), ((riS26 l0 x45_3).f0), ((riS26 l0 x45_3).f1), ((riS26 l0 x45_3).f2), ((riS26 l0 x45_3).f3), ((riS26 l0 x45_3).f4), (by first | rfl | (simp; done) | (simp [*]; done)), H', ⟨Nat.le_refl _⟩, ⟨by (with_reducible repeat (first | refine bkN ?_ _ | refine bkD ?_ | refine bkA ?_ _)); refine blk_far ?_ NB159_160.out _; (with_reducible repeat (first | refine bkN ?_ _ | refine bkD ?_ | refine bkA ?_ _)); refine blk_far ?_ NB159_160.out _; (with_reducible repeat (first | refine bkN ?_ _ | refine bkD ?_ | refine bkA ?_ _)); refine blk_far ?_ NB159_160.out _; (with_reducible repeat (first | refine bkN ?_ _ | refine bkD ?_ | refine bkA ?_ _)); refine blk_far ?_ NB159_160.out _; (with_reducible repeat (first | refine bkN ?_ _ | refine bkD ?_ | refine bkA ?_ _)); refine blk_far ?_ NB159_160.out _; (with_reducible repeat (first | refine bkN ?_ _ | refine bkD ?_ | refine bkA ?_ _)); exact BK159.out⟩, ⟨by (with_reducible repeat (first | refine bkN ?_ _ | refine bkD ?_ | refine bkA ?_ _)); refine blk_put (cs := #[.string ((riS26 l0 x45_3).f0), .string ((riS26 l0 x45_3).f1), .int .i64 ((riS26 l0 x45_3).f2), .bool ((riS26 l0 x45_3).f3), .int .i64 0]) ?_ 4 _ rfl; (with_reducible repeat (first | refine bkN ?_ _ | refine bkD ?_ | refine bkA ?_ _)); refine blk_put (cs := #[.string ((riS26 l0 x45_3).f0), .string ((riS26 l0 x45_3).f1), .int .i64 ((riS26 l0 x45_3).f2), .bool false, .int .i64 0]) ?_ 3 _ rfl; (with_reducible repeat (first | refine bkN ?_ _ | refine bkD ?_ | refine bkA ?_ _)); refine blk_put (cs := #[.string ((riS26 l0 x45_3).f0), .string ((riS26 l0 x45_3).f1), .int .i64 0, .bool false, .int .i64 0]) ?_ 2 _ rfl; (with_reducible repeat (first | refine bkN ?_ _ | refine bkD ?_ | refine bkA ?_ _)); refine blk_put (cs := #[.string ((riS26 l0 x45_3).f0), .string (⟨#[]⟩ : ByteArray), .int .i64 0, .bool false, .int .i64 0]) ?_ 1 _ rfl; (with_reducible repeat (first | refine bkN ?_ _ | refine bkD ?_ | refine bkA ?_ _)); refine blk_put (cs := #[.string (⟨#[]⟩ : ByteArray), .string (⟨#[]⟩ : ByteArray), .int .i64 0, .bool false, .int .i64 0]) ?_ 0 _ rfl; (with_reducible repeat (first | refine bkN ?_ _ | refine bkD ?_ | refine bkA ?_ _)); exact BK160.out⟩, ⟨by repeat (first | (with_reducible first | exact HB.out | apply bal | apply pbN | apply bd1 | refine bst ?_ GE159.out | refine bst ?_ GE160.out) | exact HB.out)⟩⟩
                 case round =>
                  clear H'
                  try clear c1
                  try clear p1
                  try clear q1
                  try clear hx1
                  try clear p2
                  try clear c3
                  try clear c4
                  try clear c5
                  try clear c5b0
                  try clear c6
                  try clear p6
                  try clear c7
                  try clear c9
                  try clear c10
                  try clear c10b0
                  try clear c12
                  try clear c13
                  try clear c14
                  try clear c14b0
                  try clear p15
                  try clear q15
                  try clear hx15
                  try clear c35
                  try clear c35b0
                  try clear c36
                  try clear c36b0
                  try clear c37
                  try clear c37b0
                  try clear c41
                  try clear hcz21_0
                  try clear hcz21_1
                  try clear hcz21_2
                  try clear hcz21_3
                  try clear hcz21_4
                  try clear hcz26_0
                  try clear hcz26_1
                  try clear hcz26_2
                  try clear hcz26_3
                  try clear hcz26_4
                  try clear hcz31_0
                  try clear hcz31_1
                  try clear hcz31_2
                  try clear hcz31_3
                  try clear hcz31_4
                  try clear hcz39_0
                  try clear hcz39_1
                  try clear hcz39_2
                  try clear hcz39_3
                  try clear hcz39_4
                  try clear hcz42_0
                  try clear hcz42_1
                  try clear hcz42_2
                  try clear hcz42_3
                  try clear hcz42_4
                  try clear hfz21_0
                  try clear hfz21_1
                  try clear hfz21_2
                  try clear hfz21_3
                  try clear hfz21_4
                  try clear hfz26_0
                  try clear hfz26_1
                  try clear hfz26_2
                  try clear hfz26_3
                  try clear hfz26_4
                  try clear hfz31_0
                  try clear hfz31_1
                  try clear hfz31_2
                  try clear hfz31_3
                  try clear hfz31_4
                  try clear hfz39_0
                  try clear hfz39_1
                  try clear hfz39_2
                  try clear hfz39_3
                  try clear hfz39_4
                  try clear hfz42_0
                  try clear hfz42_1
                  try clear hfz42_2
                  try clear hfz42_3
                  try clear hfz42_4
                  try clear hx154_0
                  try clear hx154_1
                  try clear hx154_2
                  try clear hx154_3
                  try clear hx154_4
                  try clear hx157_0
                  try clear hx157_1
                  try clear hx157_2
                  try clear hx157_3
                  try clear hx157_4
                  try clear hx158_0
                  try clear hx158_1
                  try clear hx158_2
                  try clear hx158_3
                  try clear hx158_4
                  try clear p1
                  try clear p15
                  try clear p154
                  try clear p157
                  try clear p158
                  try clear p2
                  try clear p6
                  try clear q1
                  try clear q15
                  try clear q154
                  try clear q157
                  try clear q158
                  obtain ⟨x52_4, x161000_4, x161001_4, x161002_4, x161003_4, x161004_4, rfl, HA, HK4, BK159, BK160, HB⟩ := hrel
                  cases gk with
                  | zero => exact absurd HA.out (by simp [impl_areSpaces.l2])
                  | succ k4 =>
                   have H := HA.out; clear HA; simp only [impl_areSpaces.l2] at H; by_cases c43 : x52_4 < (l0.length : Int)
                   · rw [if_pos c43] at H
                     have c43b0 : decide (x52_4 < (l0.length : Int)) = true := decide_eq_true c43; clear c43; replace H := Option.bind_eq_some_iff.mp H; obtain ⟨t161, A440, H⟩ := H; replace H : (if t161 ≥ 0 then (if 0 ≤ t161 then (if t161 < (l0.length : Int) then (impl_areSpaces.l2 k4 l0 l0 (l0.length : Int) x45_3 (l0.length : Int) (wrap64 (x52_4 + 1)) ((riS26 l0 t161).f0) ((riS26 l0 t161).f1) ((riS26 l0 t161).f2) ((riS26 l0 t161).f3) ((riS26 l0 t161).f4)) else (none)) else (none)) else (impl_areSpaces.l2 k4 l0 l0 (l0.length : Int) x45_3 (l0.length : Int) (wrap64 (x52_4 + 1)) x161000_4 x161001_4 x161002_4 x161003_4 x161004_4)) = some r := H; have A44 := As0.mk A440; clear A440; by_cases c45 : t161 ≥ 0
                     · rw [if_pos c45] at H
                       have c45b0 : decide (0 ≤ t161) = true := decide_eq_true c45; clear c45; by_cases c46 : 0 ≤ t161
                       · rw [if_pos c46] at H
                         have c46b0 : decide (0 ≤ t161) = true := decide_eq_true c46; clear c46; by_cases c47 : t161 < (l0.length : Int)
                         · rw [if_pos c47] at H
                           have c47b0 : decide (t161 < (l0.length : Int)) = true := decide_eq_true c47; clear c47; have H' := As0.mk H; clear H; have hnb48 := NB160_159.out; have hnc48 := NB159_160.out; have hcz49_0 : wr.cell? ⟨gb160, 0, none⟩ = some (.string x161000_4) := (bkC BK160.out 0).trans rfl; have hcz49_1 : wr.cell? ⟨gb160, 1, none⟩ = some (.string x161001_4) := (bkC BK160.out 1).trans rfl; have hcz49_2 : wr.cell? ⟨gb160, 2, none⟩ = some (.int .i64 x161002_4) := (bkC BK160.out 2).trans rfl; have hcz49_3 : wr.cell? ⟨gb160, 3, none⟩ = some (.bool x161003_4) := (bkC BK160.out 3).trans rfl; have hcz49_4 : wr.cell? ⟨gb160, 4, none⟩ = some (.int .i64 x161004_4) := (bkC BK160.out 4).trans rfl; have hfz49_0 := bkF BK160.out 0; have hfz49_1 := bkF BK160.out 1; have hfz49_2 := bkF BK160.out 2; have hfz49_3 := bkF BK160.out 3; have hfz49_4 := bkF BK160.out 4
                           go_wp2_with (first | ((with_reducible refine gca (f := 73) rfl ?_); refine goesL_ (some 57) rfl rfl Tryd.func73 (by kernel_rfl) rfl #[.slice (some ad158) l0.length c0, .string x161001_4] rfl (by (try simp only [List.map_toArray, List.map_cons, List.map_nil]); first | done | rfl | (simp only [List.length_drop, List.length_take]; rfl)) ?_; (with_reducible refine (impl_findSpace.calls _ _ l0 x161001_4 t161 _ ?side1 ?side2 A44.out).mono ?_); (case side1 => repeat (first | exact (Kd.C_below HR0.out HB.out) | (with_reducible refine Kd.C_alloc ?_ _) | (with_reducible refine Kd.C_drewN ?_ _) | (with_reducible refine Kd.C_drew ?_))); (case side2 => exact HC0.out); rintro e w50 ⟨rfl, hb⟩; refine ⟨_, rfl, ?_⟩; have n0_ := As0.mk (blk_below (g := gb159) (o := .cells #[.string ((riS26 l0 x45_3).f0), .string ((riS26 l0 x45_3).f1), .int .i64 ((riS26 l0 x45_3).f2), .bool ((riS26 l0 x45_3).f3), .int .i64 ((riS26 l0 x45_3).f4)] 42 (0, 0)) (by (with_reducible repeat (first | refine bkN ?_ _ | refine bkD ?_ | refine bkA ?_ _)); exact BK159.out) hb); have n1_ := As0.mk (blk_below (g := gb160) (o := .cells #[.string x161000_4, .string x161001_4, .int .i64 x161002_4, .bool x161003_4, .int .i64 x161004_4] 42 (0, 0)) (by (with_reducible repeat (first | refine bkN ?_ _ | refine bkD ?_ | refine bkA ?_ _)); exact BK160.out) hb); have n2_ := As0.mk (bsp (by repeat (first | (with_reducible first | exact HB.out | apply bal | apply pbN | apply bd1 | refine bst ?_ GE159.out | refine bst ?_ GE160.out) | exact HB.out)) hb); clear BK159; clear BK160; clear HB; have BK159 := n0_; have BK160 := n1_; have HB := n2_; clear n0_ n1_ n2_; (try clear hb); (try clear hb2); (try clear hk); (try clear hi); have p162 : 0 ≤ (t161 : Int) := odt; have q162 : t161 < (l0.length : Int) := odt; obtain ⟨ad162, e162, hx162_0, hx162_1, hx162_2, hx162_3, hx162_4⟩ := at_T42 HR0.out t161 p162 q162; obtain rfl : ad158 = ad162 := (by injection e162); replace hx162_0 := bx HB.out rfl hx162_0; replace hx162_1 := bx HB.out rfl hx162_1; replace hx162_2 := bx HB.out rfl hx162_2; replace hx162_3 := bx HB.out rfl hx162_3; replace hx162_4 := bx HB.out rfl hx162_4; replace p162 := eq_true p162; replace q162 := eq_true q162; have hcz51_0 : w50.cell? ⟨gb160, 0, none⟩ = some (.string x161000_4) := (bkC BK160.out 0).trans rfl; have hcz51_1 : w50.cell? ⟨gb160, 1, none⟩ = some (.string x161001_4) := (bkC BK160.out 1).trans rfl; have hcz51_2 : w50.cell? ⟨gb160, 2, none⟩ = some (.int .i64 x161002_4) := (bkC BK160.out 2).trans rfl; have hcz51_3 : w50.cell? ⟨gb160, 3, none⟩ = some (.bool x161003_4) := (bkC BK160.out 3).trans rfl; have hcz51_4 : w50.cell? ⟨gb160, 4, none⟩ = some (.int .i64 x161004_4) := (bkC BK160.out 4).trans rfl; have hfz51_0 := bkF BK160.out 0; have hfz51_1 := bkF BK160.out 1; have hfz51_2 := bkF BK160.out 2; have hfz51_3 := bkF BK160.out 3; have hfz51_4 := bkF BK160.out 4))
                           go_roundg k4
                           case measure => have := HJ1.out; have := HK2.out; have := HK3.out; have := HK4.out; omega
                           case rel => exact ⟨(wrap64 (x52_4 + 1)), ((riS26 l0 t161).f0), ((riS26 l0 t161).f1), ((riS26 l0 t161).f2), ((riS26 l0 t161).f3), ((riS26 l0 t161).f4), (by first | rfl | (simp; done) | (simp [*]; done)), H', ⟨by have := HJ1.out; have := HK2.out; have := HK3.out; have := HK4.out; omega⟩, ⟨by (with_reducible repeat (first | refine bkN ?_ _ | refine bkD ?_ | refine bkA ?_ _)); refine blk_far ?_ NB159_160.out _; (with_reducible repeat (first | refine bkN ?_ _ | refine bkD ?_ | refine bkA ?_ _)); refine blk_far ?_ NB159_160.out _; (with_reducible repeat (first | refine bkN ?_ _ | refine bkD ?_ | refine bkA ?_ _)); refine blk_far ?_ NB159_160.out _; (with_reducible repeat (first | refine bkN ?_ _ | refine bkD ?_ | refine bkA ?_ _)); refine blk_far ?_ NB159_160.out _; (with_reducible repeat (first | refine bkN ?_ _ | refine bkD ?_ | refine bkA ?_ _)); refine blk_far ?_ NB159_160.out _; (with_reducible repeat (first | refine bkN ?_ _ | refine bkD ?_ | refine bkA ?_ _)); exact BK159.out⟩, ⟨by (with_reducible repeat (first | refine bkN ?_ _ | refine bkD ?_ | refine bkA ?_ _)); refine blk_put (cs := #[.string ((riS26 l0 t161).f0), .string ((riS26 l0 t161).f1), .int .i64 ((riS26 l0 t161).f2), .bool ((riS26 l0 t161).f3), .int .i64 x161004_4]) ?_ 4 _ rfl; (with_reducible repeat (first | refine bkN ?_ _ | refine bkD ?_ | refine bkA ?_ _)); refine blk_put (cs := #[.string ((riS26 l0 t161).f0), .string ((riS26 l0 t161).f1), .int .i64 ((riS26 l0 t161).f2), .bool x161003_4, .int .i64 x161004_4]) ?_ 3 _ rfl; (with_reducible repeat (first | refine bkN ?_ _ | refine bkD ?_ | refine bkA ?_ _)); refine blk_put (cs := #[.string ((riS26 l0 t161).f0), .string ((riS26 l0 t161).f1), .int .i64 x161002_4, .bool x161003_4, .int .i64 x161004_4]) ?_ 2 _ rfl; (with_reducible repeat (first | refine bkN ?_ _ | refine bkD ?_ | refine bkA ?_ _)); refine blk_put (cs := #[.string ((riS26 l0 t161).f0), .string x161001_4, .int .i64 x161002_4, .bool x161003_4, .int .i64 x161004_4]) ?_ 1 _ rfl; (with_reducible repeat (first | refine bkN ?_ _ | refine bkD ?_ | refine bkA ?_ _)); refine blk_put (cs := #[.string x161000_4, .string x161001_4, .int .i64 x161002_4, .bool x161003_4, .int .i64 x161004_4]) ?_ 0 _ rfl; (with_reducible repeat (first | refine bkN ?_ _ | refine bkD ?_ | refine bkA ?_ _)); exact BK160.out⟩, ⟨by repeat (first | (with_reducible first | exact HB.out | apply bal | apply pbN | apply bd1 | refine bst ?_ GE159.out | refine bst ?_ GE160.out) | exact HB.out)⟩⟩
                         · rw [if_neg c47] at H
                           exact absurd H (by simp)
                       · rw [if_neg c46] at H
                         exact absurd H (by simp)
                     · rw [if_neg c45] at H
                       have c45b0 : decide (0 ≤ t161) = false := decide_eq_false c45; clear c45; have H' := As0.mk H; clear H; have hnb52 := NB160_159.out; have hnc52 := NB159_160.out; have hcz53_0 : wr.cell? ⟨gb160, 0, none⟩ = some (.string x161000_4) := (bkC BK160.out 0).trans rfl; have hcz53_1 : wr.cell? ⟨gb160, 1, none⟩ = some (.string x161001_4) := (bkC BK160.out 1).trans rfl; have hcz53_2 : wr.cell? ⟨gb160, 2, none⟩ = some (.int .i64 x161002_4) := (bkC BK160.out 2).trans rfl; have hcz53_3 : wr.cell? ⟨gb160, 3, none⟩ = some (.bool x161003_4) := (bkC BK160.out 3).trans rfl; have hcz53_4 : wr.cell? ⟨gb160, 4, none⟩ = some (.int .i64 x161004_4) := (bkC BK160.out 4).trans rfl; have hfz53_0 := bkF BK160.out 0; have hfz53_1 := bkF BK160.out 1; have hfz53_2 := bkF BK160.out 2; have hfz53_3 := bkF BK160.out 3; have hfz53_4 := bkF BK160.out 4
                       go_wp2_with (first | ((with_reducible refine gca (f := 73) rfl ?_); refine goesL_ (some 57) rfl rfl Tryd.func73 (by kernel_rfl) rfl #[.slice (some ad158) l0.length c0, .string x161001_4] rfl (by (try simp only [List.map_toArray, List.map_cons, List.map_nil]); first | done | rfl | (simp only [List.length_drop, List.length_take]; rfl)) ?_; (with_reducible refine (impl_findSpace.calls _ _ l0 x161001_4 t161 _ ?side1 ?side2 A44.out).mono ?_); (case side1 => repeat (first | exact (Kd.C_below HR0.out HB.out) | (with_reducible refine Kd.C_alloc ?_ _) | (with_reducible refine Kd.C_drewN ?_ _) | (with_reducible refine Kd.C_drew ?_))); (case side2 => exact HC0.out); rintro e w54 ⟨rfl, hb⟩; refine ⟨_, rfl, ?_⟩; have n0_ := As0.mk (blk_below (g := gb159) (o := .cells #[.string ((riS26 l0 x45_3).f0), .string ((riS26 l0 x45_3).f1), .int .i64 ((riS26 l0 x45_3).f2), .bool ((riS26 l0 x45_3).f3), .int .i64 ((riS26 l0 x45_3).f4)] 42 (0, 0)) (by (with_reducible repeat (first | refine bkN ?_ _ | refine bkD ?_ | refine bkA ?_ _)); exact BK159.out) hb); have n1_ := As0.mk (blk_below (g := gb160) (o := .cells #[.string x161000_4, .string x161001_4, .int .i64 x161002_4, .bool x161003_4, .int .i64 x161004_4] 42 (0, 0)) (by (with_reducible repeat (first | refine bkN ?_ _ | refine bkD ?_ | refine bkA ?_ _)); exact BK160.out) hb); have n2_ := As0.mk (bsp (by repeat (first | (with_reducible first | exact HB.out | apply bal | apply pbN | apply bd1 | refine bst ?_ GE159.out | refine bst ?_ GE160.out) | exact HB.out)) hb); clear BK159; clear BK160; clear HB; have BK159 := n0_; have BK160 := n1_; have HB := n2_; clear n0_ n1_ n2_; (try clear hb); (try clear hb2); (try clear hk); (try clear hi)))
                       go_roundg k4
                       case measure => have := HJ1.out; have := HK2.out; have := HK3.out; have := HK4.out; omega
                       case rel => exact ⟨(wrap64 (x52_4 + 1)), (x161000_4), (x161001_4), (x161002_4), (x161003_4), (x161004_4), (by first | rfl | (simp; done) | (simp [*]; done)), H', ⟨by have := HJ1.out; have := HK2.out; have := HK3.out; have := HK4.out; omega⟩, ⟨by (with_reducible repeat (first | refine bkN ?_ _ | refine bkD ?_ | refine bkA ?_ _)); exact BK159.out⟩, ⟨by (with_reducible repeat (first | refine bkN ?_ _ | refine bkD ?_ | refine bkA ?_ _)); exact BK160.out⟩, ⟨by repeat (first | (with_reducible first | exact HB.out | apply bal | apply pbN | apply bd1 | refine bst ?_ GE159.out | refine bst ?_ GE160.out) | exact HB.out)⟩⟩
                   · rw [if_neg c43] at H
                     have c43b0 : decide (x52_4 < (l0.length : Int)) = false := decide_eq_false c43; clear c43; by_cases c55 : x161000_4.toList = ([97, 108, 108] : List UInt8)
                     · rw [if_pos c55] at H
                       have c55b0 : (x161000_4.toList == ([97, 108, 108] : List UInt8)) = true := beq_iff_eq.mpr c55; have c55b1 : (x161000_4.toList != ([97, 108, 108] : List UInt8)) = false := bne_eq_false_iff_eq.mpr c55; clear c55; have H' := As0.mk H; clear H; have hnb56 := NB160_159.out; have hnc56 := NB159_160.out; have hcz57_0 : wr.cell? ⟨gb160, 0, none⟩ = some (.string x161000_4) := (bkC BK160.out 0).trans rfl; have hcz57_1 : wr.cell? ⟨gb160, 1, none⟩ = some (.string x161001_4) := (bkC BK160.out 1).trans rfl; have hcz57_2 : wr.cell? ⟨gb160, 2, none⟩ = some (.int .i64 x161002_4) := (bkC BK160.out 2).trans rfl; have hcz57_3 : wr.cell? ⟨gb160, 3, none⟩ = some (.bool x161003_4) := (bkC BK160.out 3).trans rfl; have hcz57_4 : wr.cell? ⟨gb160, 4, none⟩ = some (.int .i64 x161004_4) := (bkC BK160.out 4).trans rfl; have hfz57_0 := bkF BK160.out 0; have hfz57_1 := bkF BK160.out 1; have hfz57_2 := bkF BK160.out 2; have hfz57_3 := bkF BK160.out 3; have hfz57_4 := bkF BK160.out 4
                       go_wp2
                       go_roundg k4
                       case measure => have := HJ1.out; have := HK2.out; have := HK3.out; have := HK4.out; omega
                       case rel => exact ⟨(wrap64 (x45_3 + 1)), (by first | rfl | (simp; done) | (simp [*]; done)), H', ⟨by have := HJ1.out; have := HK2.out; have := HK3.out; have := HK4.out; omega⟩, ⟨by repeat (first | (with_reducible first | exact HB.out | apply bal | apply pbN | apply bd1 | refine bst ?_ GE159.out | refine bst ?_ GE160.out) | exact HB.out)⟩⟩
                     · rw [if_neg c55] at H
                       have c55b0 : (x161000_4.toList == ([97, 108, 108] : List UInt8)) = false := beq_eq_false_iff_ne.mpr c55; have c55b1 : (x161000_4.toList != ([97, 108, 108] : List UInt8)) = true := bne_iff_ne.mpr c55; obtain rfl := Option.some.inj H; have hnb58 := NB160_159.out; have hnc58 := NB159_160.out; have hcz59_0 : wr.cell? ⟨gb160, 0, none⟩ = some (.string x161000_4) := (bkC BK160.out 0).trans rfl; have hcz59_1 : wr.cell? ⟨gb160, 1, none⟩ = some (.string x161001_4) := (bkC BK160.out 1).trans rfl; have hcz59_2 : wr.cell? ⟨gb160, 2, none⟩ = some (.int .i64 x161002_4) := (bkC BK160.out 2).trans rfl; have hcz59_3 : wr.cell? ⟨gb160, 3, none⟩ = some (.bool x161003_4) := (bkC BK160.out 3).trans rfl; have hcz59_4 : wr.cell? ⟨gb160, 4, none⟩ = some (.int .i64 x161004_4) := (bkC BK160.out 4).trans rfl; have hfz59_0 := bkF BK160.out 0; have hfz59_1 := bkF BK160.out 1; have hfz59_2 := bkF BK160.out 2; have hfz59_3 := bkF BK160.out 3; have hfz59_4 := bkF BK160.out 4
                       go_wp2
                       go_ret
                       exact ⟨eW, by repeat (first | (with_reducible first | exact HB.out | apply bal | apply pbN | apply bd1 | refine bst ?_ GE159.out | refine bst ?_ GE160.out) | exact HB.out)⟩
               · rw [if_neg c37] at H
                 exact absurd H (by simp)
             · rw [if_neg c36] at H
               exact absurd H (by simp)
           · rw [if_neg c35] at H
             have c35b0 : decide (x45_3 < (l0.length : Int)) = false := decide_eq_false c35; clear c35; obtain rfl := Option.some.inj H
             go_wp2
             go_ret
             exact ⟨eW, by repeat (first | (with_reducible first | exact HB.out | apply bal | apply pbN | apply bd1) | exact HB.out)⟩
def impl_spaceUp.l0 : Nat → List (SiS23) → List ByteArray → Int → Option (List ByteArray)
 | 0, _, _, _ => none
 | k + 1, x0, x5, x6 => if x6 ≥ 0 then (if 0 ≤ x6 then (if x6 < (x0.length : Int) then (if x5.length < 8796093022208 then ((impl_findSpace.f x0 ((riS26 x0 x6).f1)).bind fun t199 => (impl_spaceUp.l0 k x0 (x5 ++ [(riS26 x0 x6).f0]) t199)) else (none)) else (none)) else (none)) else (some x5)
def impl_spaceUp.f (k : Nat) (l0 : List (SiS23)) (a1 : ByteArray) : Option (List ByteArray) := (impl_findSpace.f l0 a1).bind fun t193 => (impl_spaceUp.l0 k l0 (([] : List ByteArray)) t193)
set_option maxHeartbeats 8000000 in
set_option maxRecDepth 100000 in
theorem impl_spaceUp.calls (k : Nat) (A0 : Option Addr) (c0 : Nat) (l0 : List (SiS23)) (a1 : ByteArray) (r : List ByteArray) (w : World) (hr0 : Kd.C k42 w A0 l0.length l0) (hc0 : l0.length ≤ c0) (h : impl_spaceUp.f k l0 a1 = some r) :
 Calls Tryd.prog 64 #[.slice A0 l0.length c0, .string a1] w fun e w' => ∃ v0_ : Value, e = .returned (v0_) ∧ Kd.R Kd.string 9 w' w.heap.size (fun _ => True) v0_ r ∧ Below w.heap.size w w' := by
 have HR0 := As0.mk hr0; have HC0 := As0.mk hc0; clear hr0 hc0; have HB := As0.mk (Below.refl w.heap.size w); have H : ((impl_findSpace.f l0 a1).bind fun t193 => (impl_spaceUp.l0 k l0 (([] : List ByteArray)) t193)) = some r := h; clear h; obtain ⟨y190, hy190⟩ : ∃ y_ : List ByteArray, y_ = (([] : List ByteArray)) := ⟨_, rfl⟩; replace H : ((impl_findSpace.f l0 a1).bind fun t193 => (impl_spaceUp.l0 k l0 y190 t193)) = some r := by first | (rw [hy190]; with_reducible exact H) | (have H2_ := (Option.bind_some _ _).symm.trans H; rw [hy190]; with_reducible exact H2_) | (have H2_ := (Option.bind_some _ _).symm.trans H; with_reducible exact H2_) | with_reducible exact H | (rw [hy190]; exact H) | exact H
 have Ny190 := As0.mk hy190; clear hy190; replace H := Option.bind_eq_some_iff.mp H; obtain ⟨t193, A30, H⟩ := H; replace H : (impl_spaceUp.l0 k l0 y190 t193) = some r := H; have A3 := As0.mk A30; clear A30; have H' := As0.mk H; clear H
 go_enter Tryd.func64, Tryd.ntmps64
 go_wp2_with (first | ((with_reducible refine gate_dst (N := 7) rfl ?_); refine Kd.R_lit Kd.string _ 9 ?hg (N := 7) ?hd (xs := ([] : List ByteArray)) (inner := []) (ok := fun _ => True) (okp := fun _ => True) ?hr ?hp (fun _ hk => hk) trivial (Below.refl _ _) (Nat.le_refl _) (by simp) ?_; (case hd => rfl); (case hg => rfl); (case hr => first | (go_simp; done) | (go_simp; rfl)); (case hp => exact (Reps.none _ _)); intro v191 w4 ho5 hb hg_ hnew_; clear hg_ hnew_; (first | rw [← Ny190.out] at ho5 | (simp only [Int.reduceToNat] at ho5; rw [← Ny190.out] at ho5)); have n0_ := As0.mk (Kd.R_lower ho5 (bsz (by repeat (first | (with_reducible first | exact HB.out | apply bal | apply pbN | apply bd1) | exact HB.out)))); have n1_ := As0.mk (bsp (by repeat (first | (with_reducible first | exact HB.out | apply bal | apply pbN | apply bd1) | exact HB.out)) hb); clear HB; have HO192 := n0_; have HB := n1_; clear n0_ n1_; clear hb ho5) | ((with_reducible refine gca (f := 73) rfl ?_); refine goesL_ (some 10) rfl rfl Tryd.func73 (by kernel_rfl) rfl #[.slice A0 l0.length c0, .string a1] rfl (by (try simp only [List.map_toArray, List.map_cons, List.map_nil]); first | done | rfl | (simp only [List.length_drop, List.length_take]; rfl)) ?_; (with_reducible refine (impl_findSpace.calls _ _ l0 a1 t193 _ ?side1 ?side2 A3.out).mono ?_); (case side1 => repeat (first | exact (Kd.C_below HR0.out HB.out) | (with_reducible refine Kd.C_alloc ?_ _) | (with_reducible refine Kd.C_drewN ?_ _) | (with_reducible refine Kd.C_drew ?_))); (case side2 => exact HC0.out); rintro e w6 ⟨rfl, hb⟩; refine ⟨_, rfl, ?_⟩; have n0_ := As0.mk (Kd.R_below (by (with_reducible repeat (first | apply Kd.Ral | apply Kd.RdN | apply Kd.R_drew)); exact HO192.out) hb); have n1_ := As0.mk (bsp (by repeat (first | (with_reducible first | exact HB.out | apply bal | apply pbN | apply bd1) | exact HB.out)) hb); clear HO192; clear HB; have HO192 := n0_; have HB := n1_; clear n0_ n1_; (try clear hb); (try clear hb2); (try clear hk); (try clear hi)))
 go_loopg [5, 6] k (fun kq v5 v6 w' => ∃ (x5_1 : List ByteArray) (x6_1 : Int), v6 = .int .i64 x6_1 ∧ As0 (impl_spaceUp.l0 kq l0 x5_1 x6_1 = some r) ∧ As0 (kq ≤ k) ∧ As0 (Kd.R Kd.string 9 w' w.heap.size (fun _ => True) v5 x5_1) ∧ As0 (Below w.heap.size w w'))
 case atStart => exact ⟨(y190), (t193), (by first | rfl | (simp; done) | (simp [*]; done)), H', ⟨Nat.le_refl _⟩, ⟨by (with_reducible repeat (first | apply Kd.Ral | apply Kd.RdN | apply Kd.R_drew)); exact HO192.out⟩, ⟨by repeat (first | (with_reducible first | exact HB.out | apply bal | apply pbN | apply bd1) | exact HB.out)⟩⟩
 case round =>
  clear H'
  try clear p2
  try clear c6
  obtain ⟨x5_1, x6_1, rfl, HA, HK1, HO_5, HB⟩ := hrel
  cases gk with
  | zero => exact absurd HA.out (by simp [impl_spaceUp.l0])
  | succ k1 =>
   have H := HA.out; clear HA; simp only [impl_spaceUp.l0] at H; by_cases c7 : x6_1 ≥ 0
   · rw [if_pos c7] at H
     have c7b0 : decide (0 ≤ x6_1) = true := decide_eq_true c7; clear c7; by_cases c8 : 0 ≤ x6_1
     · rw [if_pos c8] at H
       have c8b0 : decide (0 ≤ x6_1) = true := decide_eq_true c8; clear c8; by_cases c9 : x6_1 < (l0.length : Int)
       · rw [if_pos c9] at H
         have c9b0 : decide (x6_1 < (l0.length : Int)) = true := decide_eq_true c9; clear c9; by_cases c10 : x5_1.length < 8796093022208
         · rw [if_pos c10] at H
           have LMc10 := As0.mk c10; clear c10; obtain ⟨y195, hy195⟩ : ∃ y_ : List ByteArray, y_ = (x5_1 ++ [(riS26 l0 x6_1).f0]) := ⟨_, rfl⟩; replace H : ((impl_findSpace.f l0 ((riS26 l0 x6_1).f1)).bind fun t199 => (impl_spaceUp.l0 k1 l0 y195 t199)) = some r := by first | (rw [hy195]; with_reducible exact H) | (have H2_ := (Option.bind_some _ _).symm.trans H; rw [hy195]; with_reducible exact H2_) | (have H2_ := (Option.bind_some _ _).symm.trans H; with_reducible exact H2_) | with_reducible exact H | (rw [hy195]; exact H) | exact H
           have Ny195 := As0.mk hy195; clear hy195; replace H := Option.bind_eq_some_iff.mp H; obtain ⟨t199, A110, H⟩ := H; replace H : (impl_spaceUp.l0 k1 l0 y195 t199) = some r := H; have A11 := As0.mk A110; clear A110; have H' := As0.mk H; clear H; have p194 : 0 ≤ (x6_1 : Int) := odt; have q194 : x6_1 < (l0.length : Int) := odt; obtain ⟨ad194, e194, hx194_0, hx194_1, hx194_2, hx194_3, hx194_4⟩ := at_T42 HR0.out x6_1 p194 q194
           cases e194
           replace hx194_0 := bx HB.out rfl hx194_0; replace hx194_1 := bx HB.out rfl hx194_1; replace hx194_2 := bx HB.out rfl hx194_2; replace hx194_3 := bx HB.out rfl hx194_3; replace hx194_4 := bx HB.out rfl hx194_4; replace p194 := eq_true p194; replace q194 := eq_true q194
           go_wp2_with (first | ((with_reducible refine gbi (b := .append) (xs := #[.tmp 20, .tmp 26]) rfl ?_); at_builtin; refine Kd.R_append Kd.string (w0 := w) w.heap.size rfl (.tmp 20) (.tmp 26) 33 9 (.string ⟨#[]⟩) 16 rfl Tryd.underlying33 info9 rfl (by decide) (by omega) u5 x5_1 ((riS26 l0 x6_1).f0) [.string ((riS26 l0 x6_1).f0)] (fun _ => True) (fun _ => False) rfl rfl ?aP (fun _ hk => hk.elim) ?aF ?aO ?aB ?aS ?aL ?_; (case aP => exact rfl); (case aB => exact (by repeat (first | (with_reducible first | exact HB.out | apply bal | apply pbN | apply bd1) | exact HB.out))); (case aF => exact (fun _ _ => trivial)); (case aO => exact (by (with_reducible repeat (first | apply Kd.Ral | apply Kd.RdN | apply Kd.R_drew)); exact HO_5.out)); (case aS => exact (bsz (by repeat (first | (with_reducible first | exact HB.out | apply bal | apply pbN | apply bd1) | exact HB.out)))); (case aL => have := LMc10.out; omega); intro v196 w12 ho hb hg hat; rw [← Ny195.out] at ho; have n0_ := As0.mk (hb); have n1_ := As0.mk (ho); clear HB; clear HO_5; have HB := n0_; have HO197 := n1_; clear n0_ n1_; clear ho hb hg hat; have p198 : 0 ≤ (x6_1 : Int) := odt; have q198 : x6_1 < (l0.length : Int) := odt; obtain ⟨ad198, e198, hx198_0, hx198_1, hx198_2, hx198_3, hx198_4⟩ := at_T42 HR0.out x6_1 p198 q198; obtain rfl : ad194 = ad198 := (by injection e198); replace hx198_0 := bx HB.out rfl hx198_0; replace hx198_1 := bx HB.out rfl hx198_1; replace hx198_2 := bx HB.out rfl hx198_2; replace hx198_3 := bx HB.out rfl hx198_3; replace hx198_4 := bx HB.out rfl hx198_4; replace p198 := eq_true p198; replace q198 := eq_true q198) | ((with_reducible refine gca (f := 73) rfl ?_); refine goesL_ (some 19) rfl rfl Tryd.func73 (by kernel_rfl) rfl #[.slice (some ad194) l0.length c0, .string ((riS26 l0 x6_1).f1)] rfl (by (try simp only [List.map_toArray, List.map_cons, List.map_nil]); first | done | rfl | (simp only [List.length_drop, List.length_take]; rfl)) ?_; (with_reducible refine (impl_findSpace.calls _ _ l0 ((riS26 l0 x6_1).f1) t199 _ ?side1 ?side2 A11.out).mono ?_); (case side1 => repeat (first | exact (Kd.C_below HR0.out HB.out) | (with_reducible refine Kd.C_alloc ?_ _) | (with_reducible refine Kd.C_drewN ?_ _) | (with_reducible refine Kd.C_drew ?_))); (case side2 => exact HC0.out); rintro e w13 ⟨rfl, hb⟩; refine ⟨_, rfl, ?_⟩; have n0_ := As0.mk (Kd.R_below (by (with_reducible repeat (first | apply Kd.Ral | apply Kd.RdN | apply Kd.R_drew)); exact HO197.out) hb); have n1_ := As0.mk (bsp (by repeat (first | (with_reducible first | exact HB.out | apply bal | apply pbN | apply bd1) | exact HB.out)) hb); clear HO197; clear HB; have HO197 := n0_; have HB := n1_; clear n0_ n1_; (try clear hb); (try clear hb2); (try clear hk); (try clear hi)))
           go_roundg k1
           case measure => have := HK1.out; omega
           case rel => exact ⟨(y195), (t199), (by first | rfl | (simp; done) | (simp [*]; done)), H', ⟨by have := HK1.out; omega⟩, ⟨by (with_reducible repeat (first | apply Kd.Ral | apply Kd.RdN | apply Kd.R_drew)); exact HO197.out⟩, ⟨by repeat (first | (with_reducible first | exact HB.out | apply bal | apply pbN | apply bd1) | exact HB.out)⟩⟩
         · rw [if_neg c10] at H
           exact absurd H (by simp)
       · rw [if_neg c9] at H
         exact absurd H (by simp)
     · rw [if_neg c8] at H
       exact absurd H (by simp)
   · rw [if_neg c7] at H
     have c7b0 : decide (0 ≤ x6_1) = false := decide_eq_false c7; clear c7; obtain rfl := Option.some.inj H
     go_wp2
     go_ret
     exact ⟨_, by first | rfl | (simp [errW_none, errW_some] <;> rfl) | (simp [*, errW_none, errW_some] <;> rfl), by (with_reducible repeat (first | apply Kd.Ral | apply Kd.RdN | apply Kd.R_drew)); exact HO_5.out, by repeat (first | (with_reducible first | exact HB.out | apply bal | apply pbN | apply bd1) | exact HB.out)⟩
def slices_Index_string_string.l0 : Nat → List ByteArray → ByteArray → Int → Int → Option (Int)
 | 0, _, _, _, _ => none
 | k + 1, x0, x1, x7, x8 => if x8 < x7 then (if 0 ≤ x8 then (if x8 < (x0.length : Int) then (if x1.toList = (rdOf ByteArray.empty x0 x8).toList then (some x8) else (slices_Index_string_string.l0 k x0 x1 x7 (wrap64 (x8 + 1)))) else (none)) else (none)) else (some (-1))
def slices_Index_string_string.f (k : Nat) (l0 : List ByteArray) (a1 : ByteArray) : Option (Int) := slices_Index_string_string.l0 k l0 a1 (l0.length : Int) 0
set_option maxHeartbeats 8000000 in
set_option maxRecDepth 100000 in
theorem slices_Index_string_string.calls (k : Nat) (A0 : Option Addr) (c0 : Nat) (l0 : List ByteArray) (a1 : ByteArray) (r : Int) (w : World) (hr0 : Kd.C Kd.string w A0 l0.length l0) (hc0 : l0.length ≤ c0) (h : slices_Index_string_string.f k l0 a1 = some r) :
 Calls Tryd.prog 95 #[.slice A0 l0.length c0, .string a1] w fun e w' => e = .returned (.int .i64 r) ∧ Drawn0 w w' := by
 have HR0 := As0.mk hr0; have HC0 := As0.mk hc0; clear hr0 hc0; have H : (slices_Index_string_string.l0 k l0 a1 (l0.length : Int) 0) = some r := h; clear h; have H' := As0.mk H; clear H
 go_enter Tryd.func95, Tryd.ntmps95
 go_wp2
 go_loopg [8] k (fun kq v8 w' => ∃ (x8_1 : Int), v8 = .int .i64 x8_1 ∧ As0 (slices_Index_string_string.l0 kq l0 a1 (l0.length : Int) x8_1 = some r) ∧ As0 (kq ≤ k) ∧ Drawn0 w w')
 case atStart => exact ⟨(0), (by first | rfl | (simp; done) | (simp [*]; done)), H', ⟨Nat.le_refl _⟩, by repeat (first | exact Drawn0.refl _ | apply Drawn0.step)⟩
 case round =>
  clear H'
  try clear p2
  obtain ⟨x8_1, rfl, HA, HK1, ⟨m1, rfl⟩⟩ := hrel
  cases gk with
  | zero => exact absurd HA.out (by simp [slices_Index_string_string.l0])
  | succ k1 =>
   have H := HA.out; clear HA; simp only [slices_Index_string_string.l0] at H; by_cases c3 : x8_1 < (l0.length : Int)
   · rw [if_pos c3] at H
     have c3b0 : decide (x8_1 < (l0.length : Int)) = true := decide_eq_true c3; clear c3; by_cases c4 : 0 ≤ x8_1
     · rw [if_pos c4] at H
       have c4b0 : decide (0 ≤ x8_1) = true := decide_eq_true c4; clear c4; by_cases c5 : x8_1 < (l0.length : Int)
       · rw [if_pos c5] at H
         have c5b0 : decide (x8_1 < (l0.length : Int)) = true := decide_eq_true c5; clear c5; by_cases c6 : a1.toList = (rdOf ByteArray.empty l0 x8_1).toList
         · rw [if_pos c6] at H
           have c6b0 : (a1.toList == (rdOf ByteArray.empty l0 x8_1).toList) = true := beq_iff_eq.mpr c6; have c6b1 : (a1.toList != (rdOf ByteArray.empty l0 x8_1).toList) = false := bne_eq_false_iff_eq.mpr c6; clear c6; obtain rfl := Option.some.inj H; have p221 : 0 ≤ (x8_1 : Int) := odt; have q221 : x8_1 < (l0.length : Int) := odt; obtain ⟨ad221, e221, hx221_0⟩ := Kd.at_string HR0.out x8_1 p221 q221
           cases e221
           replace p221 := eq_true p221; replace q221 := eq_true q221
           go_wp2
           go_ret
           exact ⟨by first | rfl | (simp; done) | (simp [*]; done), by repeat (first | exact Drawn0.refl _ | apply Drawn0.step)⟩
         · rw [if_neg c6] at H
           have c6b0 : (a1.toList == (rdOf ByteArray.empty l0 x8_1).toList) = false := beq_eq_false_iff_ne.mpr c6; have c6b1 : (a1.toList != (rdOf ByteArray.empty l0 x8_1).toList) = true := bne_iff_ne.mpr c6; have H' := As0.mk H; clear H; have p221 : 0 ≤ (x8_1 : Int) := odt; have q221 : x8_1 < (l0.length : Int) := odt; obtain ⟨ad221, e221, hx221_0⟩ := Kd.at_string HR0.out x8_1 p221 q221
           cases e221
           replace p221 := eq_true p221; replace q221 := eq_true q221
           go_wp2
           go_roundg k1
           case measure => have := HK1.out; omega
           case rel => exact ⟨(wrap64 (x8_1 + 1)), (by first | rfl | (simp; done) | (simp [*]; done)), H', ⟨by have := HK1.out; omega⟩, by repeat (first | exact Drawn0.refl _ | apply Drawn0.step)⟩
       · rw [if_neg c5] at H
         exact absurd H (by simp)
     · rw [if_neg c4] at H
       exact absurd H (by simp)
   · rw [if_neg c3] at H
     have c3b0 : decide (x8_1 < (l0.length : Int)) = false := decide_eq_false c3; clear c3; obtain rfl := Option.some.inj H
     go_wp2
     go_ret
     exact ⟨by first | rfl | (simp; done) | (simp [*]; done), by repeat (first | exact Drawn0.refl _ | apply Drawn0.step)⟩
def slices_Contains_string_string.f (k : Nat) (l0 : List ByteArray) (a1 : ByteArray) : Option (Bool) := (slices_Index_string_string.f k l0 a1).bind fun t222 => (some (decide (t222 ≥ 0)))
set_option maxHeartbeats 8000000 in
set_option maxRecDepth 100000 in
theorem slices_Contains_string_string.calls (k : Nat) (A0 : Option Addr) (c0 : Nat) (l0 : List ByteArray) (a1 : ByteArray) (r : Bool) (w : World) (hr0 : Kd.C Kd.string w A0 l0.length l0) (hc0 : l0.length ≤ c0) (h : slices_Contains_string_string.f k l0 a1 = some r) :
 Calls Tryd.prog 63 #[.slice A0 l0.length c0, .string a1] w fun e w' => e = .returned (.bool r) ∧ Drawn0 w w' := by
 have HR0 := As0.mk hr0; have HC0 := As0.mk hc0; clear hr0 hc0; have H : ((slices_Index_string_string.f k l0 a1).bind fun t222 => (some (decide (t222 ≥ 0)))) = some r := h; clear h; replace H := Option.bind_eq_some_iff.mp H; obtain ⟨t222, A30, H⟩ := H; replace H : (some (decide (t222 ≥ 0))) = some r := H; have A3 := As0.mk A30; clear A30; obtain rfl := Option.some.inj H
 go_enter Tryd.func63, Tryd.ntmps63
 go_wp2_with (first | ((with_reducible refine gca (f := 95) rfl ?_); refine goesL_ (some 7) rfl rfl Tryd.func95 (by kernel_rfl) rfl #[.slice A0 l0.length c0, .string a1] rfl (by (try simp only [List.map_toArray, List.map_cons, List.map_nil]); first | done | rfl | (simp only [List.length_drop, List.length_take]; rfl)) ?_; (with_reducible refine (slices_Index_string_string.calls k _ _ l0 a1 t222 _ ?side1 ?side2 A3.out).mono ?_); (case side1 => repeat (first | exact HR0.out | (with_reducible refine Kd.C_alloc ?_ _) | (with_reducible refine Kd.C_drewN ?_ _) | (with_reducible refine Kd.C_drew ?_))); (case side2 => exact HC0.out); rintro e w' ⟨rfl, ⟨nd, rfl⟩⟩; refine ⟨_, rfl, ?_⟩))
 go_ret
 exact ⟨by first | rfl | (simp; done) | (simp [*]; done), by repeat (first | exact Drawn0.refl _ | apply Drawn0.step)⟩
def impl_SpaceIn.f (k : Nat) (l0 : List (SiS23)) (a1 : ByteArray) (a2 : ByteArray) : Option (Bool) := (impl_areSpaces.f k l0).bind fun t223 => (if t223 = true then ((impl_spaceUp.f k l0 a1).bind fun t224 => ((slices_Contains_string_string.f k t224 a2).bind fun t227 => (some t227))) else (some false))
set_option maxHeartbeats 8000000 in
set_option maxRecDepth 100000 in
theorem impl_SpaceIn.calls (k : Nat) (A0 : Option Addr) (c0 : Nat) (l0 : List (SiS23)) (a1 : ByteArray) (a2 : ByteArray) (r : Bool) (w : World) (hr0 : Kd.C k42 w A0 l0.length l0) (hc0 : l0.length ≤ c0) (h : impl_SpaceIn.f k l0 a1 a2 = some r) :
 Calls Tryd.prog 23 #[.slice A0 l0.length c0, .string a1, .string a2] w fun e w' => e = .returned (.bool r) ∧ Below w.heap.size w w' := by
 have HR0 := As0.mk hr0; have HC0 := As0.mk hc0; clear hr0 hc0; have HB := As0.mk (Below.refl w.heap.size w); have H : ((impl_areSpaces.f k l0).bind fun t223 => (if t223 = true then ((impl_spaceUp.f k l0 a1).bind fun t224 => ((slices_Contains_string_string.f k t224 a2).bind fun t227 => (some t227))) else (some false))) = some r := h; clear h; replace H := Option.bind_eq_some_iff.mp H; obtain ⟨t223, A40, H⟩ := H; replace H : (if t223 = true then ((impl_spaceUp.f k l0 a1).bind fun t224 => ((slices_Contains_string_string.f k t224 a2).bind fun t227 => (some t227))) else (some false)) = some r := H; have A4 := As0.mk A40; clear A40; by_cases c5 : t223 = true
 · subst c5
   have H1 : ((impl_spaceUp.f k l0 a1).bind fun t224 => ((slices_Contains_string_string.f k t224 a2).bind fun t227 => (some t227))) = some r := by rw [if_pos rfl] at H; exact H
   clear H; have H := H1; clear H1; replace H := Option.bind_eq_some_iff.mp H; obtain ⟨t224, A60, H⟩ := H; replace H : ((slices_Contains_string_string.f k t224 a2).bind fun t227 => (some t227)) = some r := H; have A6 := As0.mk A60; clear A60; replace H := Option.bind_eq_some_iff.mp H; obtain ⟨t227, A70, H⟩ := H; replace H : (some t227) = some r := H; have A7 := As0.mk A70; clear A70; obtain rfl := Option.some.inj H
   go_enter Tryd.func23, Tryd.ntmps23
   go_wp2_with (first | ((with_reducible refine gca (f := 58) rfl ?_); refine goesL_ (some 8) rfl rfl Tryd.func58 (by kernel_rfl) rfl #[.slice A0 l0.length c0] rfl (by (try simp only [List.map_toArray, List.map_cons, List.map_nil]); first | done | rfl | (simp only [List.length_drop, List.length_take]; rfl)) ?_; (with_reducible refine (impl_areSpaces.calls k _ _ l0 true _ ?side1 ?side2 A4.out).mono ?_); (case side1 => repeat (first | exact HR0.out | (with_reducible refine Kd.C_alloc ?_ _) | (with_reducible refine Kd.C_drewN ?_ _) | (with_reducible refine Kd.C_drew ?_))); (case side2 => exact HC0.out); rintro e w8 ⟨rfl, hb⟩; refine ⟨_, rfl, ?_⟩; have n0_ := As0.mk (bsp (by repeat (first | (with_reducible first | exact HB.out | apply bal | apply pbN | apply bd1) | exact HB.out)) hb); clear HB; have HB := n0_; clear n0_; (try clear hb); (try clear hb2); (try clear hk); (try clear hi)) | (go_at_call 64; (with_reducible refine (impl_spaceUp.calls k _ _ l0 a1 t224 _ ?side1 ?side2 A6.out).mono ?_); (case side1 => repeat (first | exact (Kd.C_below HR0.out HB.out) | (with_reducible refine Kd.C_alloc ?_ _) | (with_reducible refine Kd.C_drewN ?_ _) | (with_reducible refine Kd.C_drew ?_))); (case side2 => exact HC0.out); rintro e w9 ⟨v225, rfl, ho0, hb⟩; have n0_ := As0.mk (Kd.R_lower ho0 (bsz (by repeat (first | (with_reducible first | exact HB.out | apply bal | apply pbN | apply bd1) | exact HB.out)))); have n1_ := As0.mk (bsp (by repeat (first | (with_reducible first | exact HB.out | apply bal | apply pbN | apply bd1) | exact HB.out)) hb); clear HB; have HO226 := n0_; have HB := n1_; clear n0_ n1_; (try clear hb); (try clear hb2); (try clear hk); (try clear hi); (try clear ho0); obtain ⟨Ao10, co10, eo10⟩ := Kd.R_slice HO226.out; subst eo10) | (go_at_call 63; (with_reducible refine (slices_Contains_string_string.calls k _ _ t224 a2 t227 _ ?side1 ?side2 A7.out).mono ?_); (case side1 => repeat (first | exact (Kd.R_reads' HO226.out).2.2 | (with_reducible refine Kd.C_alloc ?_ _) | (with_reducible refine Kd.C_drewN ?_ _) | (with_reducible refine Kd.C_drew ?_))); (case side2 => exact (Kd.R_reads' HO226.out).2.1); rintro e w' ⟨rfl, ⟨nd, rfl⟩⟩))
   go_ret
   exact ⟨eW, by repeat (first | (with_reducible first | exact HB.out | apply bal | apply pbN | apply bd1) | exact HB.out)⟩
 · replace c5 := Bool.eq_false_iff.mpr c5
   subst c5; have H1 : (some false) = some r := by rw [if_neg (show ¬ (false = true) by decide)] at H; exact H
   clear H; have H := H1; clear H1; obtain rfl := Option.some.inj H
   go_enter Tryd.func23, Tryd.ntmps23
   go_wp2_with (first | ((with_reducible refine gca (f := 58) rfl ?_); refine goesL_ (some 8) rfl rfl Tryd.func58 (by kernel_rfl) rfl #[.slice A0 l0.length c0] rfl (by (try simp only [List.map_toArray, List.map_cons, List.map_nil]); first | done | rfl | (simp only [List.length_drop, List.length_take]; rfl)) ?_; (with_reducible refine (impl_areSpaces.calls k _ _ l0 false _ ?side1 ?side2 A4.out).mono ?_); (case side1 => repeat (first | exact HR0.out | (with_reducible refine Kd.C_alloc ?_ _) | (with_reducible refine Kd.C_drewN ?_ _) | (with_reducible refine Kd.C_drew ?_))); (case side2 => exact HC0.out); rintro e w11 ⟨rfl, hb⟩; refine ⟨_, rfl, ?_⟩; have n0_ := As0.mk (bsp (by repeat (first | (with_reducible first | exact HB.out | apply bal | apply pbN | apply bd1) | exact HB.out)) hb); clear HB; have HB := n0_; clear n0_; (try clear hb); (try clear hb2); (try clear hk); (try clear hi)))
   go_ret
   exact ⟨eW, by repeat (first | (with_reducible first | exact HB.out | apply bal | apply pbN | apply bd1) | exact HB.out)⟩
end Go.Proofs.YtlmpmlcjlioeaaaDoor.P
