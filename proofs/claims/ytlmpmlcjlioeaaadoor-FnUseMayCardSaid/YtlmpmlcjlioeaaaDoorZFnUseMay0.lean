/- Functions of the law FnUseMay as_ plain Lean functions, and that the machine's calls do what they say. -/
import Derived.Test.YtlmpmlcjlioeaaaDoorZFnUseMayW0
import Derived.Deep.Slices
import Derived.ChangeArms
import Derived.Test.YtlmpmlcjlioeaaaDoorProg
import Derived.Below
import Derived.Deep.Draws
import Derived.Deep.AppendLies
import Derived.Maps.AppendAt
import Derived.OwnWalk
import Derived.Laws.BytesArg
import Derived.Laws.MakeOwn
import Derived.Laws.OwnMore
import Derived.Deep.OwnRows
import Derived.Tactics
import Derived.Lib.ConvBytes
import Derived.Laws.Slices
import Derived.WalkKit
import Derived.KernelRfl
import Derived.RowKit3
import Derived.Deep.LoopGhost
import Derived.Deep.QuietTactic
import Derived.BigQuiet
import Derived.WideLaws
import Derived.Deep.DeepCutAuto
import Derived.Deep.CutBlock
import Derived.Deep.RegionHeld3
import Derived.Laws.Rows
import Derived.Lib.AppendStr
import Derived.ArgAppend
import Derived.Laws.IdiomCopy
import Derived.OrdersHeld
import Derived.Laws.BitsLemmas
import Derived.RowKit
import Derived.Lib.Hide
import Derived.Shelf.Strings.Trim
import Derived.Shelf.Small.Utf8
import Derived.Shelf.Small.Strs
import Derived.Shelf.Strings.Search1
import Derived.Shelf.Strings.Runes
import Derived.Shelf.Strings.AsciiSet
import Derived.Shelf.Unicode.DecodeSlow
import Derived.Shelf.Strings.SlTrimAscii
/- What an argument reads as_ is of the printed kind: whole numbers, bools, strings, slices, structs. -/
namespace Go.Proofs.YtlmpmlcjlioeaaaDoor.Opens
open Go.RowKit Go.Proofs.YtlmpmlcjlioeaaaDoorW.PrintWords Go.ChangeShapes Go.WideShapes
/-- Whatever of type t can be read is of the kind d, and good. -/
structure Opens {α : Type} (P : Program) (d : Kd α) (t : TypeId) (G : α → Prop) : Prop where
 out : ∀ {H : Type} {enc : TypeId × Value → H} {w : World} {base : Nat} {spare : Nat → Bool} {held : Bool} {fuel : Nat} {cs : List Value} {x : DataW H × List MemPlace}, DataW.trod enc P w base spare held fuel t cs = some x → ∃ a, d.K w a cs ∧ G a
section
variable {P : Program} {t : TypeId}
theorem opens_int {k : IntKind} (ht : P.underlying t = some (.int k)) : Opens P (Kd.int k) t (fun n => (Lit.int k n).wf = true) := ⟨fun h => by
 obtain ⟨n, rfl, _, hw⟩ := DataW.trod_int ht h
 exact ⟨n, rfl, hw⟩⟩
theorem opens_slice {α : Type} {d : Kd α} {e : TypeId} {G : α → Prop} (ht : P.underlying t = some (.slice e)) (hc : P.cellsOf e = d.sz) (ho : Opens P d e G) :
 Opens P (Kd.slice e d) t (fun l => l.length ≤ 9223372036854775807 ∧ ∀ y ∈ l, G y) := ⟨by
 intro H enc w base spare held fuel cs x h; rcases Go.Deep.open_slice ht h with ⟨rfl, _⟩ | ⟨a, len, cap, m, n, D, Pl, rfl, hba, hl, hm, hmm, hxe, hx⟩
 · exact ⟨[], ⟨none, 0, rfl, Nat.le_refl _, rfl, by simp, fun hp => absurd hp (by simp)⟩, by simp, fun y hy => by cases hy⟩
 · clear hxe hba
   have hlm : len ≤ m := by rw [hmm]; split <;> omega
   have key : ∀ i, i < len → ∃ y : α, (∃ c, c.length = d.sz ∧ d.K w y c ∧ ∀ j u, c[j]? = some u → w.cell? (a.add (i * d.sz + j)) = some u) ∧ G y := by
    intro i hi; obtain ⟨cs', h1, h2⟩ := hx i (by omega); obtain ⟨y, hy, hg⟩ := ho.out h2; obtain ⟨_, h3, h4⟩ := World.cells?_some h1; rw [hc] at h3 h4; refine ⟨y, ⟨cs', h3, hy, fun j u hu => ?_⟩, hg⟩
    have hj : j < d.sz := by
     have := (List.getElem?_eq_some_iff.1 hu).1; omega
    have h5 := h4 j hj; rw [Go.Deep.add_add, hu] at h5
    exact h5
   obtain ⟨l, hlen, hall⟩ : ∃ l : List α, l.length = len ∧ ∀ i y, l[i]? = some y → (∃ c, c.length = d.sz ∧ d.K w y c ∧ ∀ j u, c[j]? = some u → w.cell? (a.add (i * d.sz + j)) = some u) ∧ G y := by
    clear hx hlm hmm h hl; induction len with
    | zero => exact ⟨[], rfl, fun i y hy => by simp at hy⟩
    | succ k ih =>
     obtain ⟨l, h1, h2⟩ := ih (fun i hi => key i (by omega)); obtain ⟨y, hy⟩ := key k (by omega); refine ⟨l ++ [y], by simp [h1], fun i z hz => ?_⟩; rcases Nat.lt_trichotomy i k with hik | hik | hik
     · rw [List.getElem?_append_left (by omega)] at hz
       exact h2 i z hz
     · subst hik
       rw [List.getElem?_append_right (by omega), h1] at hz; simp at hz
       subst hz
       exact hy
     · rw [List.getElem?_eq_none (by simp; omega)] at hz
       cases hz
   subst hlen; have hb : l.length ≤ 9223372036854775807 := Nat.le_trans hl (by unfold maxLen at hm; exact hm); refine ⟨l, ⟨some a, cap, rfl, hl, rfl, hb, fun _ => ⟨a, rfl, fun j p hj => (hall j p hj).1⟩⟩, hb, fun y hy => ?_⟩; obtain ⟨i, hi, rfl⟩ := List.getElem_of_mem hy
   exact (hall i _ (List.getElem?_eq_getElem hi)).2⟩
end
/-- A slice that came in. -/
theorem arg_slice {α : Type} {P : Program} {d : Kd α} {t e : TypeId} {G : List α → Prop} (ho : Opens P (Kd.slice e d) t G) {H : Type} {enc : TypeId × Value → H} {w : World} {base : Nat} {spare : Nat → Bool} {held : Bool} {a : Option Addr} {len cap : Nat} {dd : DataW H} {ps : List MemPlace}
 (h : DataW.Trod enc P w base spare held t (.slice a len cap) dd ps) : ∃ l : List α, l.length = len ∧ l.length ≤ cap ∧ d.C w a l.length l ∧ G l := by
 obtain ⟨n, hn⟩ := h; obtain ⟨l, ⟨A, c, he, hl, hC⟩, hg⟩ := ho.out hn; simp [Value.cells] at he
 obtain ⟨rfl, rfl, rfl⟩ := he
 exact ⟨l, rfl, hl, hC, hg⟩
/-- Strings above: the other way round. -/
theorem bytesLess_not : ∀ a b : List UInt8, (!(Op.bytesLess a b || a == b)) = Op.bytesLess b a
 | [], [] => rfl
 | [], _ :: _ => rfl
 | _ :: _, [] => rfl
 | a :: x, b :: y => by
  have ih := bytesLess_not x y; simp only [Op.bytesLess, List.cons_beq_cons]; rcases Nat.lt_trichotomy a.toNat b.toNat with h | h | h
  · have h1 : (a < b) = True := by simp [UInt8.lt_iff_toNat_lt, h]
    have h2 : (b < a) = False := by simp [UInt8.lt_iff_toNat_lt]; omega
    have h3 : (b == a) = false := by rw [beq_eq_false_iff_ne]; rintro rfl; omega
    simp [h1, h2, h3]
  · obtain rfl := UInt8.toNat_inj.1 h
    simpa using ih
  · have h1 : (a < b) = False := by simp [UInt8.lt_iff_toNat_lt]; omega
    have h2 : (b < a) = True := by simp [UInt8.lt_iff_toNat_lt, h]
    have h3 : (a == b) = false := by rw [beq_eq_false_iff_ne]; rintro rfl; omega
    simp [h1, h2, h3]
@[go_sem] theorem string_gtr (t : TypeId) (a b : ByteArray) : binOp .gtr t (.string a) (.string b) = pure (.bool (Op.bytesLess b.toList a.toList)) := by rw [← bytesLess_not]; simp [binOp, Op.stringOp]
@[go_sem] theorem string_leq (t : TypeId) (a b : ByteArray) : binOp .leq t (.string a) (.string b) = pure (.bool !(Op.bytesLess b.toList a.toList)) := by rw [← bytesLess_not, Bool.not_not]; simp [binOp, Op.stringOp]
@[go_sem] theorem string_geq (t : TypeId) (a b : ByteArray) : binOp .geq t (.string a) (.string b) = pure (.bool !(Op.bytesLess a.toList b.toList)) := by simp [binOp, Op.stringOp]
end Go.Proofs.YtlmpmlcjlioeaaaDoor.Opens
namespace Go.Proofs.YtlmpmlcjlioeaaaDoor.P
open Go.RowKit Go.Proofs.YtlmpmlcjlioeaaaDoorW.PrintWords Go.Proofs.YtlmpmlcjlioeaaaDoorW.PrintLast Go.Proofs.YtlmpmlcjlioeaaaDoorW.PrintMore
attribute [local go_sem] max2_int min2_int max_two min_two max_three min_three max_four min_four
set_option linter.unusedVariables false
set_option linter.unusedSimpArgs false
def errW : Option Int → Value
 | none => .nilIface
 | some c => .iface 0 (.int .i64 c)
theorem errW_none : errW none = .nilIface := rfl
theorem errW_some (c : Int) : errW (some c) = .iface 0 (.int .i64 c) := rfl
theorem info5 : (Tryd.prog.info? 5).map (fun i => (i.zero, i.size, i.bytes)) = some (some (.int .u8 0), 1, 1) := by kernel_rfl
theorem info9 : (Tryd.prog.info? 9).map (fun i => (i.zero, i.size, i.bytes)) = some (some (.string ⟨#[]⟩), 1, 16) := by kernel_rfl
theorem info42 : (Tryd.prog.info? 42).map (fun i => (i.zero, i.size, i.bytes)) = some (some (.agg #[(.string ⟨#[]⟩), (.string ⟨#[]⟩), (.int .i64 0), (.bool false), (.int .i64 0)]), 5, 56) := by kernel_rfl
theorem info54 : (Tryd.prog.info? 54).map (fun i => (i.zero, i.size, i.bytes)) = some (some (.agg #[(.string ⟨#[]⟩), (.int .i64 0)]), 2, 24) := by kernel_rfl
structure SiS23 where
 f0 : ByteArray
 f1 : ByteArray
 f2 : Int
 f3 : Bool
 f4 : Int
def ziS28 : SiS23 := ⟨(⟨#[]⟩ : ByteArray), (⟨#[]⟩ : ByteArray), (0 : Int), false, (0 : Int)⟩
def k42 : Kd SiS23 := Kd.iso (Kd.pair Kd.string (Kd.pair Kd.string (Kd.pair (Kd.int .i64) (Kd.pair Kd.bool (Kd.int .i64))))) (fun x : SiS23 => (x.f0, x.f1, x.f2, x.f3, x.f4))
theorem k42_open {w : World} {x : SiS23} {cs : List Value} (h : k42.K w x cs) : cs = [.string x.f0, .string x.f1, .int .i64 x.f2, .bool x.f3, .int .i64 x.f4] := by
 obtain ⟨_, _, rfl, rfl, ⟨_, _, rfl, rfl, ⟨_, _, rfl, rfl, ⟨_, _, rfl, rfl, rfl⟩⟩⟩⟩ := h
 exact rfl
theorem k42_openM {w : World} {base : Nat} {ok : Nat → Prop} {x : SiS23} {cs : List Value} (h : k42.M w base ok x cs) : cs = [.string x.f0, .string x.f1, .int .i64 x.f2, .bool x.f3, .int .i64 x.f4] := by
 obtain ⟨_, _, rfl, rfl, ⟨_, _, rfl, rfl, ⟨_, _, rfl, rfl, ⟨_, _, rfl, rfl, rfl⟩⟩⟩⟩ := h
 exact rfl
theorem k42_mkM (w : World) (base : Nat) (ok : Nat → Prop) (x : SiS23)  : k42.M w base ok x [.string x.f0, .string x.f1, .int .i64 x.f2, .bool x.f3, .int .i64 x.f4] := ⟨[.string x.f0], [.string x.f1, .int .i64 x.f2, .bool x.f3, .int .i64 x.f4], rfl, rfl, ⟨[.string x.f1], [.int .i64 x.f2, .bool x.f3, .int .i64 x.f4], rfl, rfl, ⟨[.int .i64 x.f2], [.bool x.f3, .int .i64 x.f4], rfl, rfl, ⟨[.bool x.f3], [.int .i64 x.f4], rfl, rfl, rfl⟩⟩⟩⟩
def riS26 (xs : List SiS23) (i : Int) : SiS23 := xs.getD i.toNat ziS28
theorem at_T42 {w : World} {A : Option Addr} {n : Nat} {xs : List SiS23} (h : Kd.C k42 w A n xs) (i : Int) (h0 : 0 ≤ i) (h1 : i < n) : ∃ ad , A = some ad ∧ w.cell? (ad.add (i.toNat * 5)) = some (.string (riS26 xs i).f0) ∧ w.cell? ⟨(ad.add (i.toNat * 5)).block, (ad.add (i.toNat * 5)).off + 1, none⟩ = some (.string (riS26 xs i).f1) ∧ w.cell? ⟨(ad.add (i.toNat * 5)).block, (ad.add (i.toNat * 5)).off + 2, none⟩ = some (.int .i64 (riS26 xs i).f2) ∧ w.cell? ⟨(ad.add (i.toNat * 5)).block, (ad.add (i.toNat * 5)).off + 3, none⟩ = some (.bool (riS26 xs i).f3) ∧ w.cell? ⟨(ad.add (i.toNat * 5)).block, (ad.add (i.toNat * 5)).off + 4, none⟩ = some (.int .i64 (riS26 xs i).f4) := by
 obtain ⟨ad, c, e, _, hK, hc0⟩ := Kd.C_get h ziS28 i h0 h1; have hc : ∀ j u, c[j]? = some u → w.cell? (ad.add (i.toNat * 5 + j)) = some u := hc0; obtain rfl := k42_open hK
 exact ⟨ad, e, hc 0 _ rfl, by rw [← add_field _ _ 1 (by omega)]; exact hc 1 _ rfl, by rw [← add_field _ _ 2 (by omega)]; exact hc 2 _ rfl, by rw [← add_field _ _ 3 (by omega)]; exact hc 3 _ rfl, by rw [← add_field _ _ 4 (by omega)]; exact hc 4 _ rfl⟩
structure SiU25 where
 f0 : ByteArray
 f1 : Int
def ziU29 : SiU25 := ⟨(⟨#[]⟩ : ByteArray), (0 : Int)⟩
def k54 : Kd SiU25 := Kd.iso (Kd.pair Kd.string (Kd.int .i64)) (fun x : SiU25 => (x.f0, x.f1))
theorem k54_open {w : World} {x : SiU25} {cs : List Value} (h : k54.K w x cs) : cs = [.string x.f0, .int .i64 x.f1] := by
 obtain ⟨_, _, rfl, rfl, rfl⟩ := h
 exact rfl
theorem k54_openM {w : World} {base : Nat} {ok : Nat → Prop} {x : SiU25} {cs : List Value} (h : k54.M w base ok x cs) : cs = [.string x.f0, .int .i64 x.f1] := by
 obtain ⟨_, _, rfl, rfl, rfl⟩ := h
 exact rfl
theorem k54_mkM (w : World) (base : Nat) (ok : Nat → Prop) (x : SiU25)  : k54.M w base ok x [.string x.f0, .int .i64 x.f1] := ⟨[.string x.f0], [.int .i64 x.f1], rfl, rfl, rfl⟩
def riU27 (xs : List SiU25) (i : Int) : SiU25 := xs.getD i.toNat ziU29
theorem at_T54 {w : World} {A : Option Addr} {n : Nat} {xs : List SiU25} (h : Kd.C k54 w A n xs) (i : Int) (h0 : 0 ≤ i) (h1 : i < n) : ∃ ad , A = some ad ∧ w.cell? (ad.add (i.toNat * 2)) = some (.string (riU27 xs i).f0) ∧ w.cell? ⟨(ad.add (i.toNat * 2)).block, (ad.add (i.toNat * 2)).off + 1, none⟩ = some (.int .i64 (riU27 xs i).f1) := by
 obtain ⟨ad, c, e, _, hK, hc0⟩ := Kd.C_get h ziU29 i h0 h1; have hc : ∀ j u, c[j]? = some u → w.cell? (ad.add (i.toNat * 2 + j)) = some u := hc0; obtain rfl := k54_open hK
 exact ⟨ad, e, hc 0 _ rfl, by rw [← add_field _ _ 1 (by omega)]; exact hc 1 _ rfl⟩
structure SiT24 where
 f0 : ByteArray
 f1 : ByteArray
 f2 : Int
 f3 : Int
 f4 : Bool
 f5 : (List ByteArray)
 f6 : ByteArray
def k67 : Kd SiT24 := Kd.iso (Kd.pair Kd.string (Kd.pair Kd.string (Kd.pair (Kd.int .i64) (Kd.pair (Kd.int .i64) (Kd.pair Kd.bool (Kd.pair (Kd.slice 9 Kd.string) Kd.string)))))) (fun x : SiT24 => (x.f0, x.f1, x.f2, x.f3, x.f4, x.f5, x.f6))
structure SiP22 where
 f0 : Int
 f1 : ByteArray
 f2 : ByteArray
 f3 : ByteArray
def k150 : Kd SiP22 := Kd.iso (Kd.pair (Kd.int .i64) (Kd.pair Kd.string (Kd.pair Kd.string Kd.string))) (fun x : SiP22 => (x.f0, x.f1, x.f2, x.f3))
def spec_l1In.f (a0 : Int) (a1 : Int) (a2 : Int) : Option (Bool) := if a0 ≥ a1 then (some (decide (a0 ≤ a2))) else (some false)
set_option maxHeartbeats 8000000 in
set_option maxRecDepth 100000 in
theorem spec_l1In.calls (a0 : Int) (a1 : Int) (a2 : Int) (r : Bool) (w : World) (h : spec_l1In.f a0 a1 a2 = some r) :
 Calls Tryd.prog 55 #[.int .i64 a0, .int .i64 a1, .int .i64 a2] w fun e w' => e = .returned (.bool r) ∧ Drawn0 w w' := by
 have H : (if a0 ≥ a1 then (some (decide (a0 ≤ a2))) else (some false)) = some r := h; clear h; by_cases c4 : a0 ≥ a1
 · rw [if_pos c4] at H
   have c4b0 : decide (a1 ≤ a0) = true := decide_eq_true c4; clear c4; obtain rfl := Option.some.inj H
   go_enter Tryd.func55, Tryd.ntmps55
   go_wp2
   go_ret
   exact ⟨by first | rfl | (simp; done) | (simp [*]; done), by repeat (first | exact Drawn0.refl _ | apply Drawn0.step)⟩
 · rw [if_neg c4] at H
   have c4b0 : decide (a1 ≤ a0) = false := decide_eq_false c4; clear c4; obtain rfl := Option.some.inj H
   go_enter Tryd.func55, Tryd.ntmps55
   go_wp2
   go_ret
   exact ⟨by first | rfl | (simp; done) | (simp [*]; done), by repeat (first | exact Drawn0.refl _ | apply Drawn0.step)⟩
def spec_NameOk.l0 : Nat → ByteArray → Int → Option (Bool)
 | 0, _, _ => none
 | k + 1, x0, x3 => if x3 < (x0.size : Int) then (if 0 ≤ x3 then (if (bt x0 x3) < 97 then (some false) else (if (bt x0 x3) > 122 then (some false) else (spec_NameOk.l0 k x0 (wrap64 (x3 + 1))))) else (none)) else ((spec_l1In.f (x0.size : Int) 1 6).bind fun t104 => (some t104))
def spec_NameOk.f (k : Nat) (a0 : ByteArray) : Option (Bool) := spec_NameOk.l0 k a0 0
set_option maxHeartbeats 8000000 in
set_option maxRecDepth 100000 in
theorem spec_NameOk.calls (k : Nat) (a0 : ByteArray) (r : Bool) (w : World) (h : spec_NameOk.f k a0 = some r) :
 Calls Tryd.prog 91 #[.string a0] w fun e w' => e = .returned (.bool r) ∧ Drawn0 w w' := by
 have H : (spec_NameOk.l0 k a0 0) = some r := h; clear h; have H' := As0.mk H; clear H
 go_enter Tryd.func91, Tryd.ntmps91
 go_wp2
 go_loopg [3] k (fun kq v3 w' => ∃ (x3_1 : Int), v3 = .int .i64 x3_1 ∧ As0 (spec_NameOk.l0 kq a0 x3_1 = some r) ∧ As0 (kq ≤ k) ∧ Drawn0 w w')
 case atStart => exact ⟨(0), (by first | rfl | (simp; done) | (simp [*]; done)), H', ⟨Nat.le_refl _⟩, by repeat (first | exact Drawn0.refl _ | apply Drawn0.step)⟩
 case round =>
  clear H'; obtain ⟨x3_1, rfl, HA, HK1, ⟨m1, rfl⟩⟩ := hrel
  cases gk with
  | zero => exact absurd HA.out (by simp [spec_NameOk.l0])
  | succ k1 =>
   have H := HA.out; clear HA; simp only [spec_NameOk.l0] at H; by_cases c2 : x3_1 < (a0.size : Int)
   · rw [if_pos c2] at H
     have c2b0 : decide (x3_1 < (a0.size : Int)) = true := decide_eq_true c2; clear c2; by_cases c3 : 0 ≤ x3_1
     · rw [if_pos c3] at H
       have c3b0 : decide (0 ≤ x3_1) = true := decide_eq_true c3; clear c3; by_cases c5 : (bt a0 x3_1) < 97
       · rw [if_pos c5] at H
         have c5b0 : decide ((bt a0 x3_1) < 97) = true := decide_eq_true c5; clear c5; obtain rfl := Option.some.inj H; have p4 : 0 ≤ (x3_1 : Int) := odt; have q4 : x3_1 < (a0.size : Int) := odt; have hx4 := bt_at a0 x3_1; replace p4 := eq_true p4; replace q4 := eq_true q4
         go_wp2
         go_ret
         exact ⟨by first | rfl | (simp; done) | (simp [*]; done), by repeat (first | exact Drawn0.refl _ | apply Drawn0.step)⟩
       · rw [if_neg c5] at H
         have c5b0 : decide ((bt a0 x3_1) < 97) = false := decide_eq_false c5; clear c5; by_cases c7 : (bt a0 x3_1) > 122
         · rw [if_pos c7] at H
           have c7b0 : decide (122 < (bt a0 x3_1)) = true := decide_eq_true c7; clear c7; obtain rfl := Option.some.inj H; have p4 : 0 ≤ (x3_1 : Int) := odt; have q4 : x3_1 < (a0.size : Int) := odt; have hx4 := bt_at a0 x3_1; replace p4 := eq_true p4; replace q4 := eq_true q4; have p6 : 0 ≤ (x3_1 : Int) := odt; have q6 : x3_1 < (a0.size : Int) := odt; have hx6 := bt_at a0 x3_1; replace p6 := eq_true p6; replace q6 := eq_true q6
           go_wp2
           go_ret
           exact ⟨by first | rfl | (simp; done) | (simp [*]; done), by repeat (first | exact Drawn0.refl _ | apply Drawn0.step)⟩
         · rw [if_neg c7] at H
           have c7b0 : decide (122 < (bt a0 x3_1)) = false := decide_eq_false c7; clear c7; have H' := As0.mk H; clear H; have p4 : 0 ≤ (x3_1 : Int) := odt; have q4 : x3_1 < (a0.size : Int) := odt; have hx4 := bt_at a0 x3_1; replace p4 := eq_true p4; replace q4 := eq_true q4; have p6 : 0 ≤ (x3_1 : Int) := odt; have q6 : x3_1 < (a0.size : Int) := odt; have hx6 := bt_at a0 x3_1; replace p6 := eq_true p6; replace q6 := eq_true q6
           go_wp2
           go_roundg k1
           case measure => have := HK1.out; omega
           case rel => exact ⟨(wrap64 (x3_1 + 1)), (by first | rfl | (simp; done) | (simp [*]; done)), H', ⟨by have := HK1.out; omega⟩, by repeat (first | exact Drawn0.refl _ | apply Drawn0.step)⟩
     · rw [if_neg c3] at H
       exact absurd H (by simp)
   · rw [if_neg c2] at H
     have c2b0 : decide (x3_1 < (a0.size : Int)) = false := decide_eq_false c2; clear c2; replace H := Option.bind_eq_some_iff.mp H; obtain ⟨t104, A80, H⟩ := H; replace H : (some t104) = some r := H; have A8 := As0.mk A80; clear A80; obtain rfl := Option.some.inj H
     go_wp2_with (first | ((with_reducible refine gca (f := 55) rfl ?_); refine goesL_ (some 22) rfl rfl Tryd.func55 (by kernel_rfl) rfl #[.int .i64 (a0.size : Int), .int .i64 1, .int .i64 6] rfl (by (try simp only [List.map_toArray, List.map_cons, List.map_nil]); first | done | rfl | (simp only [List.length_drop, List.length_take]; rfl)) ?_; (with_reducible refine (spec_l1In.calls (a0.size : Int) 1 6 t104 _ A8.out).mono ?_); rintro e w' ⟨rfl, ⟨nd, rfl⟩⟩; refine ⟨_, rfl, ?_⟩))
     go_ret
     exact ⟨by first | rfl | (simp; done) | (simp [*]; done), by repeat (first | exact Drawn0.refl _ | apply Drawn0.step)⟩
def spec_l8Ok.f (k : Nat) (a0_0 : ByteArray) (a0_1 : ByteArray) (a0_2 : Int) (a0_3 : Bool) (a0_4 : Int) : Option (Bool) := (spec_NameOk.f k a0_0).bind fun t106 => (if t106 = true then (if a0_1.toList = ([] : List UInt8) then (if ((a0_1.toList == ([] : List UInt8)) == (a0_0.toList == ([97, 108, 108] : List UInt8))) = true then ((spec_l1In.f a0_2 (-1) 99999).bind fun t107 => (if t107 = true then ((spec_l1In.f a0_4 0 99999).bind fun t108 => (if t108 = true then (some (!a0_3)) else (some false))) else (some false))) else (some false)) else ((spec_NameOk.f k a0_1).bind fun t109 => (if t109 = true then (if ((a0_1.toList == ([] : List UInt8)) == (a0_0.toList == ([97, 108, 108] : List UInt8))) = true then ((spec_l1In.f a0_2 (-1) 99999).bind fun t110 => (if t110 = true then ((spec_l1In.f a0_4 0 99999).bind fun t111 => (if t111 = true then (some true) else (some false))) else (some false))) else (some false)) else (some false)))) else (some false))
set_option maxHeartbeats 8000000 in
set_option maxRecDepth 100000 in
theorem spec_l8Ok.calls (k : Nat) (a0_0 : ByteArray) (a0_1 : ByteArray) (a0_2 : Int) (a0_3 : Bool) (a0_4 : Int) (r : Bool) (w : World) (h : spec_l8Ok.f k a0_0 a0_1 a0_2 a0_3 a0_4 = some r) :
 Calls Tryd.prog 53 #[.agg #[.string a0_0, .string a0_1, .int .i64 a0_2, .bool a0_3, .int .i64 a0_4]] w fun e w' => e = .returned (.bool r) ∧ Below w.heap.size w w' := by
 have hu42 := Tryd.underlying42; have HB := As0.mk (Below.refl w.heap.size w); have H : ((spec_NameOk.f k a0_0).bind fun t106 => (if t106 = true then (if a0_1.toList = ([] : List UInt8) then (if ((a0_1.toList == ([] : List UInt8)) == (a0_0.toList == ([97, 108, 108] : List UInt8))) = true then ((spec_l1In.f a0_2 (-1) 99999).bind fun t107 => (if t107 = true then ((spec_l1In.f a0_4 0 99999).bind fun t108 => (if t108 = true then (some (!a0_3)) else (some false))) else (some false))) else (some false)) else ((spec_NameOk.f k a0_1).bind fun t109 => (if t109 = true then (if ((a0_1.toList == ([] : List UInt8)) == (a0_0.toList == ([97, 108, 108] : List UInt8))) = true then ((spec_l1In.f a0_2 (-1) 99999).bind fun t110 => (if t110 = true then ((spec_l1In.f a0_4 0 99999).bind fun t111 => (if t111 = true then (some true) else (some false))) else (some false))) else (some false)) else (some false)))) else (some false))) = some r := h; clear h; replace H := Option.bind_eq_some_iff.mp H; obtain ⟨t106, A20, H⟩ := H; replace H : (if t106 = true then (if a0_1.toList = ([] : List UInt8) then (if ((a0_1.toList == ([] : List UInt8)) == (a0_0.toList == ([97, 108, 108] : List UInt8))) = true then ((spec_l1In.f a0_2 (-1) 99999).bind fun t107 => (if t107 = true then ((spec_l1In.f a0_4 0 99999).bind fun t108 => (if t108 = true then (some (!a0_3)) else (some false))) else (some false))) else (some false)) else ((spec_NameOk.f k a0_1).bind fun t109 => (if t109 = true then (if ((a0_1.toList == ([] : List UInt8)) == (a0_0.toList == ([97, 108, 108] : List UInt8))) = true then ((spec_l1In.f a0_2 (-1) 99999).bind fun t110 => (if t110 = true then ((spec_l1In.f a0_4 0 99999).bind fun t111 => (if t111 = true then (some true) else (some false))) else (some false))) else (some false)) else (some false)))) else (some false)) = some r := H; have A2 := As0.mk A20; clear A20; by_cases c3 : t106 = true
 · subst c3
   have H1 : (if a0_1.toList = ([] : List UInt8) then (if ((a0_1.toList == ([] : List UInt8)) == (a0_0.toList == ([97, 108, 108] : List UInt8))) = true then ((spec_l1In.f a0_2 (-1) 99999).bind fun t107 => (if t107 = true then ((spec_l1In.f a0_4 0 99999).bind fun t108 => (if t108 = true then (some (!a0_3)) else (some false))) else (some false))) else (some false)) else ((spec_NameOk.f k a0_1).bind fun t109 => (if t109 = true then (if ((a0_1.toList == ([] : List UInt8)) == (a0_0.toList == ([97, 108, 108] : List UInt8))) = true then ((spec_l1In.f a0_2 (-1) 99999).bind fun t110 => (if t110 = true then ((spec_l1In.f a0_4 0 99999).bind fun t111 => (if t111 = true then (some true) else (some false))) else (some false))) else (some false)) else (some false)))) = some r := by rw [if_pos rfl] at H; exact H
   clear H; have H := H1; clear H1; by_cases c4 : a0_1.toList = ([] : List UInt8)
   · rw [if_pos c4] at H
     have c4b0 : (a0_1.toList == ([] : List UInt8)) = true := beq_iff_eq.mpr c4; have c4b1 : (a0_1.toList != ([] : List UInt8)) = false := bne_eq_false_iff_eq.mpr c4; clear c4; by_cases c5 : ((a0_1.toList == ([] : List UInt8)) == (a0_0.toList == ([97, 108, 108] : List UInt8))) = true
     · rw [if_pos c5] at H
       have c5b0 : ((a0_1.toList == ([] : List UInt8)) == (a0_0.toList == ([97, 108, 108] : List UInt8))) = true := c5
       (try (have c5s0a : ¬ (a0_1.toList = ([] : List UInt8)) := by simpa using c5b0))
       (try (have c5s0b : (a0_1.toList == ([] : List UInt8)) = false := by simpa using c5b0))
       (try (have c5s0c : (a0_1.toList == ([] : List UInt8)) = true := by simpa using c5b0))
       (try (have c5s0d : a0_1.toList.isEmpty = false := by simpa using c5b0))
       (try (have c5s0e : a0_1.toList.isEmpty = true := by simpa using c5b0))
       (try (have c5wc4t : (a0_0.toList == ([97, 108, 108] : List UInt8)) = true := by have h_ := c5b0; (first | rw [c4b0] at h_ | rw [c4b1] at h_); simpa using h_))
       (try (have c5wc4f : (a0_0.toList == ([97, 108, 108] : List UInt8)) = false := by have h_ := c5b0; (first | rw [c4b0] at h_ | rw [c4b1] at h_); simpa using h_))
       (try (have c5b1 : decide ((a0_1.toList == ([] : List UInt8)) = (a0_0.toList == ([97, 108, 108] : List UInt8))) = true := by simpa using c5))
       (try (have c5b2 : ((a0_1.toList == ([] : List UInt8)) == (a0_0.toList == ([97, 108, 108] : List UInt8))) = true := by simpa using c5))
       clear c5; replace H := Option.bind_eq_some_iff.mp H; obtain ⟨t107, A60, H⟩ := H; replace H : (if t107 = true then ((spec_l1In.f a0_4 0 99999).bind fun t108 => (if t108 = true then (some (!a0_3)) else (some false))) else (some false)) = some r := H; have A6 := As0.mk A60; clear A60; by_cases c7 : t107 = true
       · subst c7
         have H1 : ((spec_l1In.f a0_4 0 99999).bind fun t108 => (if t108 = true then (some (!a0_3)) else (some false))) = some r := by rw [if_pos rfl] at H; exact H
         clear H; have H := H1; clear H1; replace H := Option.bind_eq_some_iff.mp H; obtain ⟨t108, A80, H⟩ := H; replace H : (if t108 = true then (some (!a0_3)) else (some false)) = some r := H; have A8 := As0.mk A80; clear A80; by_cases c9 : t108 = true
         · subst c9
           have H1 : (some (!a0_3)) = some r := by rw [if_pos rfl] at H; exact H
           clear H; have H := H1; clear H1; obtain rfl := Option.some.inj H
           go_enter Tryd.func53, Tryd.ntmps53
           go_wp2_with (first | ((with_reducible refine gate_dst (N := 1) rfl ?_); refine box_event ?hg (N := 1) ?hd (cs := #[.string a0_0, .string a0_1, .int .i64 a0_2, .bool a0_3, .int .i64 a0_4]) (t := 42) ?hr ?_; (case hd => rfl); (case hg => rfl); (case hr => first | (go_simp; done) | (go_simp; rfl)); intro gb105 hg w10 hbox hb; have n0_ := As0.mk (bsp HB.out hb); have n1_ := As0.mk (hbox); have n2_ := As0.mk ((by rw [hg]; exact (bsz HB.out) : w.heap.size ≤ gb105)); have n3_ := As0.mk ((by rw [hg]; exact (bsz HB.out) : w.heap.size ≤ gb105)); clear HB; have HB := n0_; have BK105 := n1_; have GW105 := n2_; have GE105 := n3_; clear n0_ n1_ n2_ n3_; clear hb hbox hg; have hcz11_0 : w10.cell? ⟨gb105, 0, none⟩ = some (.string a0_0) := (bkC BK105.out 0).trans rfl; have hcz11_1 : w10.cell? ⟨gb105, 1, none⟩ = some (.string a0_1) := (bkC BK105.out 1).trans rfl; have hcz11_2 : w10.cell? ⟨gb105, 2, none⟩ = some (.int .i64 a0_2) := (bkC BK105.out 2).trans rfl; have hcz11_3 : w10.cell? ⟨gb105, 3, none⟩ = some (.bool a0_3) := (bkC BK105.out 3).trans rfl; have hcz11_4 : w10.cell? ⟨gb105, 4, none⟩ = some (.int .i64 a0_4) := (bkC BK105.out 4).trans rfl; have hfz11_0 := bkF BK105.out 0; have hfz11_1 := bkF BK105.out 1; have hfz11_2 := bkF BK105.out 2; have hfz11_3 := bkF BK105.out 3; have hfz11_4 := bkF BK105.out 4) | ((with_reducible refine gca (f := 91) rfl ?_); refine goesL_ (some 5) rfl rfl Tryd.func91 (by kernel_rfl) rfl #[.string a0_0] rfl (by (try simp only [List.map_toArray, List.map_cons, List.map_nil]); first | done | rfl | (simp only [List.length_drop, List.length_take]; rfl)) ?_; (with_reducible refine (spec_NameOk.calls k a0_0 true _ A2.out).mono ?_); rintro e w' ⟨rfl, ⟨nd, rfl⟩⟩; refine ⟨_, rfl, ?_⟩) | (go_at_call 55; (with_reducible refine (spec_l1In.calls a0_2 (-1) 99999 true _ A6.out).mono ?_); rintro e w' ⟨rfl, ⟨nd, rfl⟩⟩) | (go_at_call 55; (with_reducible refine (spec_l1In.calls a0_4 0 99999 true _ A8.out).mono ?_); rintro e w' ⟨rfl, ⟨nd, rfl⟩⟩))
           go_ret
           exact ⟨eW, by repeat (first | (with_reducible first | exact HB.out | apply bal | apply pbN | apply bd1 | refine bst ?_ GE105.out) | exact HB.out)⟩
         · replace c9 := Bool.eq_false_iff.mpr c9
           subst c9; have H1 : (some false) = some r := by rw [if_neg (show ¬ (false = true) by decide)] at H; exact H
           clear H; have H := H1; clear H1; obtain rfl := Option.some.inj H
           go_enter Tryd.func53, Tryd.ntmps53
           go_wp2_with (first | ((with_reducible refine gate_dst (N := 1) rfl ?_); refine box_event ?hg (N := 1) ?hd (cs := #[.string a0_0, .string a0_1, .int .i64 a0_2, .bool a0_3, .int .i64 a0_4]) (t := 42) ?hr ?_; (case hd => rfl); (case hg => rfl); (case hr => first | (go_simp; done) | (go_simp; rfl)); intro gb105 hg w12 hbox hb; have n0_ := As0.mk (bsp HB.out hb); have n1_ := As0.mk (hbox); have n2_ := As0.mk ((by rw [hg]; exact (bsz HB.out) : w.heap.size ≤ gb105)); have n3_ := As0.mk ((by rw [hg]; exact (bsz HB.out) : w.heap.size ≤ gb105)); clear HB; have HB := n0_; have BK105 := n1_; have GW105 := n2_; have GE105 := n3_; clear n0_ n1_ n2_ n3_; clear hb hbox hg; have hcz13_0 : w12.cell? ⟨gb105, 0, none⟩ = some (.string a0_0) := (bkC BK105.out 0).trans rfl; have hcz13_1 : w12.cell? ⟨gb105, 1, none⟩ = some (.string a0_1) := (bkC BK105.out 1).trans rfl; have hcz13_2 : w12.cell? ⟨gb105, 2, none⟩ = some (.int .i64 a0_2) := (bkC BK105.out 2).trans rfl; have hcz13_3 : w12.cell? ⟨gb105, 3, none⟩ = some (.bool a0_3) := (bkC BK105.out 3).trans rfl; have hcz13_4 : w12.cell? ⟨gb105, 4, none⟩ = some (.int .i64 a0_4) := (bkC BK105.out 4).trans rfl; have hfz13_0 := bkF BK105.out 0; have hfz13_1 := bkF BK105.out 1; have hfz13_2 := bkF BK105.out 2; have hfz13_3 := bkF BK105.out 3; have hfz13_4 := bkF BK105.out 4) | ((with_reducible refine gca (f := 91) rfl ?_); refine goesL_ (some 5) rfl rfl Tryd.func91 (by kernel_rfl) rfl #[.string a0_0] rfl (by (try simp only [List.map_toArray, List.map_cons, List.map_nil]); first | done | rfl | (simp only [List.length_drop, List.length_take]; rfl)) ?_; (with_reducible refine (spec_NameOk.calls k a0_0 true _ A2.out).mono ?_); rintro e w' ⟨rfl, ⟨nd, rfl⟩⟩; refine ⟨_, rfl, ?_⟩) | (go_at_call 55; (with_reducible refine (spec_l1In.calls a0_2 (-1) 99999 true _ A6.out).mono ?_); rintro e w' ⟨rfl, ⟨nd, rfl⟩⟩) | (go_at_call 55; (with_reducible refine (spec_l1In.calls a0_4 0 99999 false _ A8.out).mono ?_); rintro e w' ⟨rfl, ⟨nd, rfl⟩⟩))
           go_ret
           exact ⟨eW, by repeat (first | (with_reducible first | exact HB.out | apply bal | apply pbN | apply bd1 | refine bst ?_ GE105.out) | exact HB.out)⟩
       · replace c7 := Bool.eq_false_iff.mpr c7
         subst c7; have H1 : (some false) = some r := by rw [if_neg (show ¬ (false = true) by decide)] at H; exact H
         clear H; have H := H1; clear H1; obtain rfl := Option.some.inj H
         go_enter Tryd.func53, Tryd.ntmps53
         go_wp2_with (first | ((with_reducible refine gate_dst (N := 1) rfl ?_); refine box_event ?hg (N := 1) ?hd (cs := #[.string a0_0, .string a0_1, .int .i64 a0_2, .bool a0_3, .int .i64 a0_4]) (t := 42) ?hr ?_; (case hd => rfl); (case hg => rfl); (case hr => first | (go_simp; done) | (go_simp; rfl)); intro gb105 hg w14 hbox hb; have n0_ := As0.mk (bsp HB.out hb); have n1_ := As0.mk (hbox); have n2_ := As0.mk ((by rw [hg]; exact (bsz HB.out) : w.heap.size ≤ gb105)); have n3_ := As0.mk ((by rw [hg]; exact (bsz HB.out) : w.heap.size ≤ gb105)); clear HB; have HB := n0_; have BK105 := n1_; have GW105 := n2_; have GE105 := n3_; clear n0_ n1_ n2_ n3_; clear hb hbox hg; have hcz15_0 : w14.cell? ⟨gb105, 0, none⟩ = some (.string a0_0) := (bkC BK105.out 0).trans rfl; have hcz15_1 : w14.cell? ⟨gb105, 1, none⟩ = some (.string a0_1) := (bkC BK105.out 1).trans rfl; have hcz15_2 : w14.cell? ⟨gb105, 2, none⟩ = some (.int .i64 a0_2) := (bkC BK105.out 2).trans rfl; have hcz15_3 : w14.cell? ⟨gb105, 3, none⟩ = some (.bool a0_3) := (bkC BK105.out 3).trans rfl; have hcz15_4 : w14.cell? ⟨gb105, 4, none⟩ = some (.int .i64 a0_4) := (bkC BK105.out 4).trans rfl; have hfz15_0 := bkF BK105.out 0; have hfz15_1 := bkF BK105.out 1; have hfz15_2 := bkF BK105.out 2; have hfz15_3 := bkF BK105.out 3; have hfz15_4 := bkF BK105.out 4) | ((with_reducible refine gca (f := 91) rfl ?_); refine goesL_ (some 5) rfl rfl Tryd.func91 (by kernel_rfl) rfl #[.string a0_0] rfl (by (try simp only [List.map_toArray, List.map_cons, List.map_nil]); first | done | rfl | (simp only [List.length_drop, List.length_take]; rfl)) ?_; (with_reducible refine (spec_NameOk.calls k a0_0 true _ A2.out).mono ?_); rintro e w' ⟨rfl, ⟨nd, rfl⟩⟩; refine ⟨_, rfl, ?_⟩) | (go_at_call 55; (with_reducible refine (spec_l1In.calls a0_2 (-1) 99999 false _ A6.out).mono ?_); rintro e w' ⟨rfl, ⟨nd, rfl⟩⟩))
         go_ret
         exact ⟨eW, by repeat (first | (with_reducible first | exact HB.out | apply bal | apply pbN | apply bd1 | refine bst ?_ GE105.out) | exact HB.out)⟩
     · rw [if_neg c5] at H
       have c5b0 : ((a0_1.toList == ([] : List UInt8)) == (a0_0.toList == ([97, 108, 108] : List UInt8))) = false := by simpa using c5
       (try (have c5s0a : ¬ (a0_1.toList = ([] : List UInt8)) := by simpa using c5b0))
       (try (have c5s0b : (a0_1.toList == ([] : List UInt8)) = false := by simpa using c5b0))
       (try (have c5s0c : (a0_1.toList == ([] : List UInt8)) = true := by simpa using c5b0))
       (try (have c5s0d : a0_1.toList.isEmpty = false := by simpa using c5b0))
       (try (have c5s0e : a0_1.toList.isEmpty = true := by simpa using c5b0))
       (try (have c5wc4t : (a0_0.toList == ([97, 108, 108] : List UInt8)) = true := by have h_ := c5b0; (first | rw [c4b0] at h_ | rw [c4b1] at h_); simpa using h_))
       (try (have c5wc4f : (a0_0.toList == ([97, 108, 108] : List UInt8)) = false := by have h_ := c5b0; (first | rw [c4b0] at h_ | rw [c4b1] at h_); simpa using h_))
       (try (have c5b1 : decide ((a0_1.toList == ([] : List UInt8)) = (a0_0.toList == ([97, 108, 108] : List UInt8))) = false := by simpa using c5))
       (try (have c5b2 : ((a0_1.toList == ([] : List UInt8)) == (a0_0.toList == ([97, 108, 108] : List UInt8))) = false := by simpa using c5))
       (try (have c5b3 : ¬ ((a0_1.toList == ([] : List UInt8)) = (a0_0.toList == ([97, 108, 108] : List UInt8))) := by simpa using c5))
       clear c5; obtain rfl := Option.some.inj H
       go_enter Tryd.func53, Tryd.ntmps53
       go_wp2_with (first | ((with_reducible refine gate_dst (N := 1) rfl ?_); refine box_event ?hg (N := 1) ?hd (cs := #[.string a0_0, .string a0_1, .int .i64 a0_2, .bool a0_3, .int .i64 a0_4]) (t := 42) ?hr ?_; (case hd => rfl); (case hg => rfl); (case hr => first | (go_simp; done) | (go_simp; rfl)); intro gb105 hg w16 hbox hb; have n0_ := As0.mk (bsp HB.out hb); have n1_ := As0.mk (hbox); have n2_ := As0.mk ((by rw [hg]; exact (bsz HB.out) : w.heap.size ≤ gb105)); have n3_ := As0.mk ((by rw [hg]; exact (bsz HB.out) : w.heap.size ≤ gb105)); clear HB; have HB := n0_; have BK105 := n1_; have GW105 := n2_; have GE105 := n3_; clear n0_ n1_ n2_ n3_; clear hb hbox hg; have hcz17_0 : w16.cell? ⟨gb105, 0, none⟩ = some (.string a0_0) := (bkC BK105.out 0).trans rfl; have hcz17_1 : w16.cell? ⟨gb105, 1, none⟩ = some (.string a0_1) := (bkC BK105.out 1).trans rfl; have hcz17_2 : w16.cell? ⟨gb105, 2, none⟩ = some (.int .i64 a0_2) := (bkC BK105.out 2).trans rfl; have hcz17_3 : w16.cell? ⟨gb105, 3, none⟩ = some (.bool a0_3) := (bkC BK105.out 3).trans rfl; have hcz17_4 : w16.cell? ⟨gb105, 4, none⟩ = some (.int .i64 a0_4) := (bkC BK105.out 4).trans rfl; have hfz17_0 := bkF BK105.out 0; have hfz17_1 := bkF BK105.out 1; have hfz17_2 := bkF BK105.out 2; have hfz17_3 := bkF BK105.out 3; have hfz17_4 := bkF BK105.out 4) | ((with_reducible refine gca (f := 91) rfl ?_); refine goesL_ (some 5) rfl rfl Tryd.func91 (by kernel_rfl) rfl #[.string a0_0] rfl (by (try simp only [List.map_toArray, List.map_cons, List.map_nil]); first | done | rfl | (simp only [List.length_drop, List.length_take]; rfl)) ?_; (with_reducible refine (spec_NameOk.calls k a0_0 true _ A2.out).mono ?_); rintro e w' ⟨rfl, ⟨nd, rfl⟩⟩; refine ⟨_, rfl, ?_⟩))
       go_ret
       exact ⟨eW, by repeat (first | (with_reducible first | exact HB.out | apply bal | apply pbN | apply bd1 | refine bst ?_ GE105.out) | exact HB.out)⟩
   · rw [if_neg c4] at H
     have c4b0 : (a0_1.toList == ([] : List UInt8)) = false := beq_eq_false_iff_ne.mpr c4; have c4b1 : (a0_1.toList != ([] : List UInt8)) = true := bne_iff_ne.mpr c4; replace H := Option.bind_eq_some_iff.mp H; obtain ⟨t109, A180, H⟩ := H; replace H : (if t109 = true then (if ((a0_1.toList == ([] : List UInt8)) == (a0_0.toList == ([97, 108, 108] : List UInt8))) = true then ((spec_l1In.f a0_2 (-1) 99999).bind fun t110 => (if t110 = true then ((spec_l1In.f a0_4 0 99999).bind fun t111 => (if t111 = true then (some true) else (some false))) else (some false))) else (some false)) else (some false)) = some r := H; have A18 := As0.mk A180; clear A180; by_cases c19 : t109 = true
     · subst c19
       have H1 : (if ((a0_1.toList == ([] : List UInt8)) == (a0_0.toList == ([97, 108, 108] : List UInt8))) = true then ((spec_l1In.f a0_2 (-1) 99999).bind fun t110 => (if t110 = true then ((spec_l1In.f a0_4 0 99999).bind fun t111 => (if t111 = true then (some true) else (some false))) else (some false))) else (some false)) = some r := by rw [if_pos rfl] at H; exact H
       clear H; have H := H1; clear H1; by_cases c20 : ((a0_1.toList == ([] : List UInt8)) == (a0_0.toList == ([97, 108, 108] : List UInt8))) = true
       · rw [if_pos c20] at H
         have c20b0 : ((a0_1.toList == ([] : List UInt8)) == (a0_0.toList == ([97, 108, 108] : List UInt8))) = true := c20
         (try (have c20s0a : ¬ (a0_1.toList = ([] : List UInt8)) := by simpa using c20b0))
         (try (have c20s0b : (a0_1.toList == ([] : List UInt8)) = false := by simpa using c20b0))
         (try (have c20s0c : (a0_1.toList == ([] : List UInt8)) = true := by simpa using c20b0))
         (try (have c20s0d : a0_1.toList.isEmpty = false := by simpa using c20b0))
         (try (have c20s0e : a0_1.toList.isEmpty = true := by simpa using c20b0))
         (try (have c20wc4t : (a0_0.toList == ([97, 108, 108] : List UInt8)) = true := by have h_ := c20b0; (first | rw [c4b0] at h_ | rw [c4b1] at h_); simpa using h_))
         (try (have c20wc4f : (a0_0.toList == ([97, 108, 108] : List UInt8)) = false := by have h_ := c20b0; (first | rw [c4b0] at h_ | rw [c4b1] at h_); simpa using h_))
         (try (have c20b1 : decide ((a0_1.toList == ([] : List UInt8)) = (a0_0.toList == ([97, 108, 108] : List UInt8))) = true := by simpa using c20))
         (try (have c20b2 : ((a0_1.toList == ([] : List UInt8)) == (a0_0.toList == ([97, 108, 108] : List UInt8))) = true := by simpa using c20))
         clear c20; replace H := Option.bind_eq_some_iff.mp H; obtain ⟨t110, A210, H⟩ := H; replace H : (if t110 = true then ((spec_l1In.f a0_4 0 99999).bind fun t111 => (if t111 = true then (some true) else (some false))) else (some false)) = some r := H; have A21 := As0.mk A210; clear A210; by_cases c22 : t110 = true
         · subst c22
           have H1 : ((spec_l1In.f a0_4 0 99999).bind fun t111 => (if t111 = true then (some true) else (some false))) = some r := by rw [if_pos rfl] at H; exact H
           clear H; have H := H1; clear H1; replace H := Option.bind_eq_some_iff.mp H; obtain ⟨t111, A230, H⟩ := H; replace H : (if t111 = true then (some true) else (some false)) = some r := H; have A23 := As0.mk A230; clear A230; by_cases c24 : t111 = true
           · subst c24
             have H1 : (some true) = some r := by rw [if_pos rfl] at H; exact H
             clear H; have H := H1; clear H1; obtain rfl := Option.some.inj H
             go_enter Tryd.func53, Tryd.ntmps53
             go_wp2_with (first | ((with_reducible refine gate_dst (N := 1) rfl ?_); refine box_event ?hg (N := 1) ?hd (cs := #[.string a0_0, .string a0_1, .int .i64 a0_2, .bool a0_3, .int .i64 a0_4]) (t := 42) ?hr ?_; (case hd => rfl); (case hg => rfl); (case hr => first | (go_simp; done) | (go_simp; rfl)); intro gb105 hg w25 hbox hb; have n0_ := As0.mk (bsp HB.out hb); have n1_ := As0.mk (hbox); have n2_ := As0.mk ((by rw [hg]; exact (bsz HB.out) : w.heap.size ≤ gb105)); have n3_ := As0.mk ((by rw [hg]; exact (bsz HB.out) : w.heap.size ≤ gb105)); clear HB; have HB := n0_; have BK105 := n1_; have GW105 := n2_; have GE105 := n3_; clear n0_ n1_ n2_ n3_; clear hb hbox hg; have hcz26_0 : w25.cell? ⟨gb105, 0, none⟩ = some (.string a0_0) := (bkC BK105.out 0).trans rfl; have hcz26_1 : w25.cell? ⟨gb105, 1, none⟩ = some (.string a0_1) := (bkC BK105.out 1).trans rfl; have hcz26_2 : w25.cell? ⟨gb105, 2, none⟩ = some (.int .i64 a0_2) := (bkC BK105.out 2).trans rfl; have hcz26_3 : w25.cell? ⟨gb105, 3, none⟩ = some (.bool a0_3) := (bkC BK105.out 3).trans rfl; have hcz26_4 : w25.cell? ⟨gb105, 4, none⟩ = some (.int .i64 a0_4) := (bkC BK105.out 4).trans rfl; have hfz26_0 := bkF BK105.out 0; have hfz26_1 := bkF BK105.out 1; have hfz26_2 := bkF BK105.out 2; have hfz26_3 := bkF BK105.out 3; have hfz26_4 := bkF BK105.out 4) | ((with_reducible refine gca (f := 91) rfl ?_); refine goesL_ (some 5) rfl rfl Tryd.func91 (by kernel_rfl) rfl #[.string a0_0] rfl (by (try simp only [List.map_toArray, List.map_cons, List.map_nil]); first | done | rfl | (simp only [List.length_drop, List.length_take]; rfl)) ?_; (with_reducible refine (spec_NameOk.calls k a0_0 true _ A2.out).mono ?_); rintro e w' ⟨rfl, ⟨nd, rfl⟩⟩; refine ⟨_, rfl, ?_⟩) | (go_at_call 91; (with_reducible refine (spec_NameOk.calls k a0_1 true _ A18.out).mono ?_); rintro e w' ⟨rfl, ⟨nd, rfl⟩⟩) | (go_at_call 55; (with_reducible refine (spec_l1In.calls a0_2 (-1) 99999 true _ A21.out).mono ?_); rintro e w' ⟨rfl, ⟨nd, rfl⟩⟩) | (go_at_call 55; (with_reducible refine (spec_l1In.calls a0_4 0 99999 true _ A23.out).mono ?_); rintro e w' ⟨rfl, ⟨nd, rfl⟩⟩))
             go_ret
             exact ⟨eW, by repeat (first | (with_reducible first | exact HB.out | apply bal | apply pbN | apply bd1 | refine bst ?_ GE105.out) | exact HB.out)⟩
           · replace c24 := Bool.eq_false_iff.mpr c24
             subst c24; have H1 : (some false) = some r := by rw [if_neg (show ¬ (false = true) by decide)] at H; exact H
             clear H; have H := H1; clear H1; obtain rfl := Option.some.inj H
             go_enter Tryd.func53, Tryd.ntmps53
             go_wp2_with (first | ((with_reducible refine gate_dst (N := 1) rfl ?_); refine box_event ?hg (N := 1) ?hd (cs := #[.string a0_0, .string a0_1, .int .i64 a0_2, .bool a0_3, .int .i64 a0_4]) (t := 42) ?hr ?_; (case hd => rfl); (case hg => rfl); (case hr => first | (go_simp; done) | (go_simp; rfl)); intro gb105 hg w27 hbox hb; have n0_ := As0.mk (bsp HB.out hb); have n1_ := As0.mk (hbox); have n2_ := As0.mk ((by rw [hg]; exact (bsz HB.out) : w.heap.size ≤ gb105)); have n3_ := As0.mk ((by rw [hg]; exact (bsz HB.out) : w.heap.size ≤ gb105)); clear HB; have HB := n0_; have BK105 := n1_; have GW105 := n2_; have GE105 := n3_; clear n0_ n1_ n2_ n3_; clear hb hbox hg; have hcz28_0 : w27.cell? ⟨gb105, 0, none⟩ = some (.string a0_0) := (bkC BK105.out 0).trans rfl; have hcz28_1 : w27.cell? ⟨gb105, 1, none⟩ = some (.string a0_1) := (bkC BK105.out 1).trans rfl; have hcz28_2 : w27.cell? ⟨gb105, 2, none⟩ = some (.int .i64 a0_2) := (bkC BK105.out 2).trans rfl; have hcz28_3 : w27.cell? ⟨gb105, 3, none⟩ = some (.bool a0_3) := (bkC BK105.out 3).trans rfl; have hcz28_4 : w27.cell? ⟨gb105, 4, none⟩ = some (.int .i64 a0_4) := (bkC BK105.out 4).trans rfl; have hfz28_0 := bkF BK105.out 0; have hfz28_1 := bkF BK105.out 1; have hfz28_2 := bkF BK105.out 2; have hfz28_3 := bkF BK105.out 3; have hfz28_4 := bkF BK105.out 4) | ((with_reducible refine gca (f := 91) rfl ?_); refine goesL_ (some 5) rfl rfl Tryd.func91 (by kernel_rfl) rfl #[.string a0_0] rfl (by (try simp only [List.map_toArray, List.map_cons, List.map_nil]); first | done | rfl | (simp only [List.length_drop, List.length_take]; rfl)) ?_; (with_reducible refine (spec_NameOk.calls k a0_0 true _ A2.out).mono ?_); rintro e w' ⟨rfl, ⟨nd, rfl⟩⟩; refine ⟨_, rfl, ?_⟩) | (go_at_call 91; (with_reducible refine (spec_NameOk.calls k a0_1 true _ A18.out).mono ?_); rintro e w' ⟨rfl, ⟨nd, rfl⟩⟩) | (go_at_call 55; (with_reducible refine (spec_l1In.calls a0_2 (-1) 99999 true _ A21.out).mono ?_); rintro e w' ⟨rfl, ⟨nd, rfl⟩⟩) | (go_at_call 55; (with_reducible refine (spec_l1In.calls a0_4 0 99999 false _ A23.out).mono ?_); rintro e w' ⟨rfl, ⟨nd, rfl⟩⟩))
             go_ret
             exact ⟨eW, by repeat (first | (with_reducible first | exact HB.out | apply bal | apply pbN | apply bd1 | refine bst ?_ GE105.out) | exact HB.out)⟩
         · replace c22 := Bool.eq_false_iff.mpr c22
           subst c22; have H1 : (some false) = some r := by rw [if_neg (show ¬ (false = true) by decide)] at H; exact H
           clear H; have H := H1; clear H1; obtain rfl := Option.some.inj H
           go_enter Tryd.func53, Tryd.ntmps53
           go_wp2_with (first | ((with_reducible refine gate_dst (N := 1) rfl ?_); refine box_event ?hg (N := 1) ?hd (cs := #[.string a0_0, .string a0_1, .int .i64 a0_2, .bool a0_3, .int .i64 a0_4]) (t := 42) ?hr ?_; (case hd => rfl); (case hg => rfl); (case hr => first | (go_simp; done) | (go_simp; rfl)); intro gb105 hg w29 hbox hb; have n0_ := As0.mk (bsp HB.out hb); have n1_ := As0.mk (hbox); have n2_ := As0.mk ((by rw [hg]; exact (bsz HB.out) : w.heap.size ≤ gb105)); have n3_ := As0.mk ((by rw [hg]; exact (bsz HB.out) : w.heap.size ≤ gb105)); clear HB; have HB := n0_; have BK105 := n1_; have GW105 := n2_; have GE105 := n3_; clear n0_ n1_ n2_ n3_; clear hb hbox hg; have hcz30_0 : w29.cell? ⟨gb105, 0, none⟩ = some (.string a0_0) := (bkC BK105.out 0).trans rfl; have hcz30_1 : w29.cell? ⟨gb105, 1, none⟩ = some (.string a0_1) := (bkC BK105.out 1).trans rfl; have hcz30_2 : w29.cell? ⟨gb105, 2, none⟩ = some (.int .i64 a0_2) := (bkC BK105.out 2).trans rfl; have hcz30_3 : w29.cell? ⟨gb105, 3, none⟩ = some (.bool a0_3) := (bkC BK105.out 3).trans rfl; have hcz30_4 : w29.cell? ⟨gb105, 4, none⟩ = some (.int .i64 a0_4) := (bkC BK105.out 4).trans rfl; have hfz30_0 := bkF BK105.out 0; have hfz30_1 := bkF BK105.out 1; have hfz30_2 := bkF BK105.out 2; have hfz30_3 := bkF BK105.out 3; have hfz30_4 := bkF BK105.out 4) | ((with_reducible refine gca (f := 91) rfl ?_); refine goesL_ (some 5) rfl rfl Tryd.func91 (by kernel_rfl) rfl #[.string a0_0] rfl (by (try simp only [List.map_toArray, List.map_cons, List.map_nil]); first | done | rfl | (simp only [List.length_drop, List.length_take]; rfl)) ?_; (with_reducible refine (spec_NameOk.calls k a0_0 true _ A2.out).mono ?_); rintro e w' ⟨rfl, ⟨nd, rfl⟩⟩; refine ⟨_, rfl, ?_⟩) | (go_at_call 91; (with_reducible refine (spec_NameOk.calls k a0_1 true _ A18.out).mono ?_); rintro e w' ⟨rfl, ⟨nd, rfl⟩⟩) | (go_at_call 55; (with_reducible refine (spec_l1In.calls a0_2 (-1) 99999 false _ A21.out).mono ?_); rintro e w' ⟨rfl, ⟨nd, rfl⟩⟩))
           go_ret
           exact ⟨eW, by repeat (first | (with_reducible first | exact HB.out | apply bal | apply pbN | apply bd1 | refine bst ?_ GE105.out) | exact HB.out)⟩
       · rw [if_neg c20] at H
         have c20b0 : ((a0_1.toList == ([] : List UInt8)) == (a0_0.toList == ([97, 108, 108] : List UInt8))) = false := by simpa using c20
         (try (have c20s0a : ¬ (a0_1.toList = ([] : List UInt8)) := by simpa using c20b0))
         (try (have c20s0b : (a0_1.toList == ([] : List UInt8)) = false := by simpa using c20b0))
         (try (have c20s0c : (a0_1.toList == ([] : List UInt8)) = true := by simpa using c20b0))
         (try (have c20s0d : a0_1.toList.isEmpty = false := by simpa using c20b0))
         (try (have c20s0e : a0_1.toList.isEmpty = true := by simpa using c20b0))
         (try (have c20wc4t : (a0_0.toList == ([97, 108, 108] : List UInt8)) = true := by have h_ := c20b0; (first | rw [c4b0] at h_ | rw [c4b1] at h_); simpa using h_))
         (try (have c20wc4f : (a0_0.toList == ([97, 108, 108] : List UInt8)) = false := by have h_ := c20b0; (first | rw [c4b0] at h_ | rw [c4b1] at h_); simpa using h_))
         (try (have c20b1 : decide ((a0_1.toList == ([] : List UInt8)) = (a0_0.toList == ([97, 108, 108] : List UInt8))) = false := by simpa using c20))
         (try (have c20b2 : ((a0_1.toList == ([] : List UInt8)) == (a0_0.toList == ([97, 108, 108] : List UInt8))) = false := by simpa using c20))
         (try (have c20b3 : ¬ ((a0_1.toList == ([] : List UInt8)) = (a0_0.toList == ([97, 108, 108] : List UInt8))) := by simpa using c20))
         clear c20; obtain rfl := Option.some.inj H
         go_enter Tryd.func53, Tryd.ntmps53
         go_wp2_with (first | ((with_reducible refine gate_dst (N := 1) rfl ?_); refine box_event ?hg (N := 1) ?hd (cs := #[.string a0_0, .string a0_1, .int .i64 a0_2, .bool a0_3, .int .i64 a0_4]) (t := 42) ?hr ?_; (case hd => rfl); (case hg => rfl); (case hr => first | (go_simp; done) | (go_simp; rfl)); intro gb105 hg w31 hbox hb; have n0_ := As0.mk (bsp HB.out hb); have n1_ := As0.mk (hbox); have n2_ := As0.mk ((by rw [hg]; exact (bsz HB.out) : w.heap.size ≤ gb105)); have n3_ := As0.mk ((by rw [hg]; exact (bsz HB.out) : w.heap.size ≤ gb105)); clear HB; have HB := n0_; have BK105 := n1_; have GW105 := n2_; have GE105 := n3_; clear n0_ n1_ n2_ n3_; clear hb hbox hg; have hcz32_0 : w31.cell? ⟨gb105, 0, none⟩ = some (.string a0_0) := (bkC BK105.out 0).trans rfl; have hcz32_1 : w31.cell? ⟨gb105, 1, none⟩ = some (.string a0_1) := (bkC BK105.out 1).trans rfl; have hcz32_2 : w31.cell? ⟨gb105, 2, none⟩ = some (.int .i64 a0_2) := (bkC BK105.out 2).trans rfl; have hcz32_3 : w31.cell? ⟨gb105, 3, none⟩ = some (.bool a0_3) := (bkC BK105.out 3).trans rfl; have hcz32_4 : w31.cell? ⟨gb105, 4, none⟩ = some (.int .i64 a0_4) := (bkC BK105.out 4).trans rfl; have hfz32_0 := bkF BK105.out 0; have hfz32_1 := bkF BK105.out 1; have hfz32_2 := bkF BK105.out 2; have hfz32_3 := bkF BK105.out 3; have hfz32_4 := bkF BK105.out 4) | ((with_reducible refine gca (f := 91) rfl ?_); refine goesL_ (some 5) rfl rfl Tryd.func91 (by kernel_rfl) rfl #[.string a0_0] rfl (by (try simp only [List.map_toArray, List.map_cons, List.map_nil]); first | done | rfl | (simp only [List.length_drop, List.length_take]; rfl)) ?_; (with_reducible refine (spec_NameOk.calls k a0_0 true _ A2.out).mono ?_); rintro e w' ⟨rfl, ⟨nd, rfl⟩⟩; refine ⟨_, rfl, ?_⟩) | (go_at_call 91; (with_reducible refine (spec_NameOk.calls k a0_1 true _ A18.out).mono ?_); rintro e w' ⟨rfl, ⟨nd, rfl⟩⟩))
         go_ret
         exact ⟨eW, by repeat (first | (with_reducible first | exact HB.out | apply bal | apply pbN | apply bd1 | refine bst ?_ GE105.out) | exact HB.out)⟩
     · replace c19 := Bool.eq_false_iff.mpr c19
       subst c19; have H1 : (some false) = some r := by rw [if_neg (show ¬ (false = true) by decide)] at H; exact H
       clear H; have H := H1; clear H1; obtain rfl := Option.some.inj H
       go_enter Tryd.func53, Tryd.ntmps53
       go_wp2_with (first | ((with_reducible refine gate_dst (N := 1) rfl ?_); refine box_event ?hg (N := 1) ?hd (cs := #[.string a0_0, .string a0_1, .int .i64 a0_2, .bool a0_3, .int .i64 a0_4]) (t := 42) ?hr ?_; (case hd => rfl); (case hg => rfl); (case hr => first | (go_simp; done) | (go_simp; rfl)); intro gb105 hg w33 hbox hb; have n0_ := As0.mk (bsp HB.out hb); have n1_ := As0.mk (hbox); have n2_ := As0.mk ((by rw [hg]; exact (bsz HB.out) : w.heap.size ≤ gb105)); have n3_ := As0.mk ((by rw [hg]; exact (bsz HB.out) : w.heap.size ≤ gb105)); clear HB; have HB := n0_; have BK105 := n1_; have GW105 := n2_; have GE105 := n3_; clear n0_ n1_ n2_ n3_; clear hb hbox hg; have hcz34_0 : w33.cell? ⟨gb105, 0, none⟩ = some (.string a0_0) := (bkC BK105.out 0).trans rfl; have hcz34_1 : w33.cell? ⟨gb105, 1, none⟩ = some (.string a0_1) := (bkC BK105.out 1).trans rfl; have hcz34_2 : w33.cell? ⟨gb105, 2, none⟩ = some (.int .i64 a0_2) := (bkC BK105.out 2).trans rfl; have hcz34_3 : w33.cell? ⟨gb105, 3, none⟩ = some (.bool a0_3) := (bkC BK105.out 3).trans rfl; have hcz34_4 : w33.cell? ⟨gb105, 4, none⟩ = some (.int .i64 a0_4) := (bkC BK105.out 4).trans rfl; have hfz34_0 := bkF BK105.out 0; have hfz34_1 := bkF BK105.out 1; have hfz34_2 := bkF BK105.out 2; have hfz34_3 := bkF BK105.out 3; have hfz34_4 := bkF BK105.out 4) | ((with_reducible refine gca (f := 91) rfl ?_); refine goesL_ (some 5) rfl rfl Tryd.func91 (by kernel_rfl) rfl #[.string a0_0] rfl (by (try simp only [List.map_toArray, List.map_cons, List.map_nil]); first | done | rfl | (simp only [List.length_drop, List.length_take]; rfl)) ?_; (with_reducible refine (spec_NameOk.calls k a0_0 true _ A2.out).mono ?_); rintro e w' ⟨rfl, ⟨nd, rfl⟩⟩; refine ⟨_, rfl, ?_⟩) | (go_at_call 91; (with_reducible refine (spec_NameOk.calls k a0_1 false _ A18.out).mono ?_); rintro e w' ⟨rfl, ⟨nd, rfl⟩⟩))
       go_ret
       exact ⟨eW, by repeat (first | (with_reducible first | exact HB.out | apply bal | apply pbN | apply bd1 | refine bst ?_ GE105.out) | exact HB.out)⟩
 · replace c3 := Bool.eq_false_iff.mpr c3
   subst c3; have H1 : (some false) = some r := by rw [if_neg (show ¬ (false = true) by decide)] at H; exact H
   clear H; have H := H1; clear H1; obtain rfl := Option.some.inj H
   go_enter Tryd.func53, Tryd.ntmps53
   go_wp2_with (first | ((with_reducible refine gate_dst (N := 1) rfl ?_); refine box_event ?hg (N := 1) ?hd (cs := #[.string a0_0, .string a0_1, .int .i64 a0_2, .bool a0_3, .int .i64 a0_4]) (t := 42) ?hr ?_; (case hd => rfl); (case hg => rfl); (case hr => first | (go_simp; done) | (go_simp; rfl)); intro gb105 hg w35 hbox hb; have n0_ := As0.mk (bsp HB.out hb); have n1_ := As0.mk (hbox); have n2_ := As0.mk ((by rw [hg]; exact (bsz HB.out) : w.heap.size ≤ gb105)); have n3_ := As0.mk ((by rw [hg]; exact (bsz HB.out) : w.heap.size ≤ gb105)); clear HB; have HB := n0_; have BK105 := n1_; have GW105 := n2_; have GE105 := n3_; clear n0_ n1_ n2_ n3_; clear hb hbox hg; have hcz36_0 : w35.cell? ⟨gb105, 0, none⟩ = some (.string a0_0) := (bkC BK105.out 0).trans rfl; have hcz36_1 : w35.cell? ⟨gb105, 1, none⟩ = some (.string a0_1) := (bkC BK105.out 1).trans rfl; have hcz36_2 : w35.cell? ⟨gb105, 2, none⟩ = some (.int .i64 a0_2) := (bkC BK105.out 2).trans rfl; have hcz36_3 : w35.cell? ⟨gb105, 3, none⟩ = some (.bool a0_3) := (bkC BK105.out 3).trans rfl; have hcz36_4 : w35.cell? ⟨gb105, 4, none⟩ = some (.int .i64 a0_4) := (bkC BK105.out 4).trans rfl; have hfz36_0 := bkF BK105.out 0; have hfz36_1 := bkF BK105.out 1; have hfz36_2 := bkF BK105.out 2; have hfz36_3 := bkF BK105.out 3; have hfz36_4 := bkF BK105.out 4) | ((with_reducible refine gca (f := 91) rfl ?_); refine goesL_ (some 5) rfl rfl Tryd.func91 (by kernel_rfl) rfl #[.string a0_0] rfl (by (try simp only [List.map_toArray, List.map_cons, List.map_nil]); first | done | rfl | (simp only [List.length_drop, List.length_take]; rfl)) ?_; (with_reducible refine (spec_NameOk.calls k a0_0 false _ A2.out).mono ?_); rintro e w' ⟨rfl, ⟨nd, rfl⟩⟩; refine ⟨_, rfl, ?_⟩))
   go_ret
   exact ⟨eW, by repeat (first | (with_reducible first | exact HB.out | apply bal | apply pbN | apply bd1 | refine bst ?_ GE105.out) | exact HB.out)⟩
def spec_l8At.l0 : Nat → List (SiS23) → ByteArray → Int → Option (Int)
 | 0, _, _, _ => none
 | k + 1, x0, x1, x5 => if x5 < (x0.length : Int) then (if 0 ≤ x5 then (if ((riS26 x0 x5).f0).toList = x1.toList then (some x5) else (spec_l8At.l0 k x0 x1 (wrap64 (x5 + 1)))) else (none)) else (some (-1))
def spec_l8At.f (k : Nat) (l0 : List (SiS23)) (a1 : ByteArray) : Option (Int) := spec_l8At.l0 k l0 a1 0
set_option maxHeartbeats 8000000 in
set_option maxRecDepth 100000 in
theorem spec_l8At.calls (k : Nat) (A0 : Option Addr) (c0 : Nat) (l0 : List (SiS23)) (a1 : ByteArray) (r : Int) (w : World) (hr0 : Kd.C k42 w A0 l0.length l0) (hc0 : l0.length ≤ c0) (h : spec_l8At.f k l0 a1 = some r) :
 Calls Tryd.prog 56 #[.slice A0 l0.length c0, .string a1] w fun e w' => e = .returned (.int .i64 r) ∧ Drawn0 w w' := by
 have HR0 := As0.mk hr0; have HC0 := As0.mk hc0; clear hr0 hc0; have H : (spec_l8At.l0 k l0 a1 0) = some r := h; clear h; have H' := As0.mk H; clear H
 go_enter Tryd.func56, Tryd.ntmps56
 go_wp2
 go_loopg [5] k (fun kq v5 w' => ∃ (x5_1 : Int), v5 = .int .i64 x5_1 ∧ As0 (spec_l8At.l0 kq l0 a1 x5_1 = some r) ∧ As0 (kq ≤ k) ∧ Drawn0 w w')
 case atStart => exact ⟨(0), (by first | rfl | (simp; done) | (simp [*]; done)), H', ⟨Nat.le_refl _⟩, by repeat (first | exact Drawn0.refl _ | apply Drawn0.step)⟩
 case round =>
  clear H'
  try clear p2
  obtain ⟨x5_1, rfl, HA, HK1, ⟨m1, rfl⟩⟩ := hrel
  cases gk with
  | zero => exact absurd HA.out (by simp [spec_l8At.l0])
  | succ k1 =>
   have H := HA.out; clear HA; simp only [spec_l8At.l0] at H; by_cases c3 : x5_1 < (l0.length : Int)
   · rw [if_pos c3] at H
     have c3b0 : decide (x5_1 < (l0.length : Int)) = true := decide_eq_true c3; clear c3; by_cases c4 : 0 ≤ x5_1
     · rw [if_pos c4] at H
       have c4b0 : decide (0 ≤ x5_1) = true := decide_eq_true c4; clear c4; by_cases c5 : ((riS26 l0 x5_1).f0).toList = a1.toList
       · rw [if_pos c5] at H
         have c5b0 : (((riS26 l0 x5_1).f0).toList == a1.toList) = true := beq_iff_eq.mpr c5; have c5b1 : (((riS26 l0 x5_1).f0).toList != a1.toList) = false := bne_eq_false_iff_eq.mpr c5; clear c5; obtain rfl := Option.some.inj H; have p112 : 0 ≤ (x5_1 : Int) := odt; have q112 : x5_1 < (l0.length : Int) := odt; obtain ⟨ad112, e112, hx112_0, hx112_1, hx112_2, hx112_3, hx112_4⟩ := at_T42 HR0.out x5_1 p112 q112
         cases e112
         replace p112 := eq_true p112; replace q112 := eq_true q112
         go_wp2
         go_ret
         exact ⟨by first | rfl | (simp; done) | (simp [*]; done), by repeat (first | exact Drawn0.refl _ | apply Drawn0.step)⟩
       · rw [if_neg c5] at H
         have c5b0 : (((riS26 l0 x5_1).f0).toList == a1.toList) = false := beq_eq_false_iff_ne.mpr c5; have c5b1 : (((riS26 l0 x5_1).f0).toList != a1.toList) = true := bne_iff_ne.mpr c5; have H' := As0.mk H; clear H; have p112 : 0 ≤ (x5_1 : Int) := odt; have q112 : x5_1 < (l0.length : Int) := odt; obtain ⟨ad112, e112, hx112_0, hx112_1, hx112_2, hx112_3, hx112_4⟩ := at_T42 HR0.out x5_1 p112 q112
         cases e112
         replace p112 := eq_true p112; replace q112 := eq_true q112
         go_wp2
         go_roundg k1
         case measure => have := HK1.out; omega
         case rel => exact ⟨(wrap64 (x5_1 + 1)), (by first | rfl | (simp; done) | (simp [*]; done)), H', ⟨by have := HK1.out; omega⟩, by repeat (first | exact Drawn0.refl _ | apply Drawn0.step)⟩
     · rw [if_neg c4] at H
       exact absurd H (by simp)
   · rw [if_neg c3] at H
     have c3b0 : decide (x5_1 < (l0.length : Int)) = false := decide_eq_false c3; clear c3; obtain rfl := Option.some.inj H
     go_wp2
     go_ret
     exact ⟨by first | rfl | (simp; done) | (simp [*]; done), by repeat (first | exact Drawn0.refl _ | apply Drawn0.step)⟩
def spec_l8Up.l0 : Nat → List (SiS23) → List ByteArray → Int → Option (List ByteArray)
 | 0, _, _, _ => none
 | k + 1, x0, x5, x6 => if x6 ≥ 0 then (if (x5.length : Int) ≤ 7 then (if 0 ≤ x6 then (if x6 < (x0.length : Int) then (if x5.length < 8796093022208 then ((spec_l8At.f k x0 ((riS26 x0 x6).f1)).bind fun t122 => (spec_l8Up.l0 k x0 (x5 ++ [(riS26 x0 x6).f0]) t122)) else (none)) else (none)) else (none)) else (some x5)) else (some x5)
def spec_l8Up.f (k : Nat) (l0 : List (SiS23)) (a1 : ByteArray) : Option (List ByteArray) := (spec_l8At.f k l0 a1).bind fun t116 => (spec_l8Up.l0 k l0 (([] : List ByteArray)) t116)
set_option maxHeartbeats 8000000 in
set_option maxRecDepth 100000 in
theorem spec_l8Up.calls (k : Nat) (A0 : Option Addr) (c0 : Nat) (l0 : List (SiS23)) (a1 : ByteArray) (r : List ByteArray) (w : World) (hr0 : Kd.C k42 w A0 l0.length l0) (hc0 : l0.length ≤ c0) (h : spec_l8Up.f k l0 a1 = some r) :
 Calls Tryd.prog 54 #[.slice A0 l0.length c0, .string a1] w fun e w' => ∃ v0_ : Value, e = .returned (v0_) ∧ Kd.R Kd.string 9 w' w.heap.size (fun _ => True) v0_ r ∧ Below w.heap.size w w' := by
 have HR0 := As0.mk hr0; have HC0 := As0.mk hc0; clear hr0 hc0; have HB := As0.mk (Below.refl w.heap.size w); have H : ((spec_l8At.f k l0 a1).bind fun t116 => (spec_l8Up.l0 k l0 (([] : List ByteArray)) t116)) = some r := h; clear h; obtain ⟨y113, hy113⟩ : ∃ y_ : List ByteArray, y_ = (([] : List ByteArray)) := ⟨_, rfl⟩; replace H : ((spec_l8At.f k l0 a1).bind fun t116 => (spec_l8Up.l0 k l0 y113 t116)) = some r := by first | (rw [hy113]; with_reducible exact H) | (have H2_ := (Option.bind_some _ _).symm.trans H; rw [hy113]; with_reducible exact H2_) | (have H2_ := (Option.bind_some _ _).symm.trans H; with_reducible exact H2_) | with_reducible exact H | (rw [hy113]; exact H) | exact H
 have Ny113 := As0.mk hy113; clear hy113; replace H := Option.bind_eq_some_iff.mp H; obtain ⟨t116, A30, H⟩ := H; replace H : (spec_l8Up.l0 k l0 y113 t116) = some r := H; have A3 := As0.mk A30; clear A30; have H' := As0.mk H; clear H
 go_enter Tryd.func54, Tryd.ntmps54
 go_wp2_with (first | ((with_reducible refine gate_dst (N := 7) rfl ?_); (try (refine gate_guard (by rfl) ?_; dsimp only)); refine Kd.R_lit Kd.string _ 9 ?hg (N := 7) ?hd (xs := ([] : List ByteArray)) (inner := []) (ok := fun _ => True) (okp := fun _ => True) ?hr ?hp (fun _ hk => hk) trivial (Below.refl _ _) (Nat.le_refl _) (by simp) ?_; (case hd => rfl); (case hg => rfl); (case hr => first | (go_simp; done) | (go_simp; rfl)); (case hp => exact (Reps.none _ _)); intro v114 w4 ho5 hb hg_ hnew_; clear hg_ hnew_; (first | rw [← Ny113.out] at ho5 | (simp only [Int.reduceToNat] at ho5; rw [← Ny113.out] at ho5)); have n0_ := As0.mk (Kd.R_lower ho5 (bsz (by repeat (first | (with_reducible first | exact HB.out | apply bal | apply pbN | apply bd1) | exact HB.out)))); have n1_ := As0.mk (bsp (by repeat (first | (with_reducible first | exact HB.out | apply bal | apply pbN | apply bd1) | exact HB.out)) hb); clear HB; have HO115 := n0_; have HB := n1_; clear n0_ n1_; clear hb ho5) | ((with_reducible refine gca (f := 56) rfl ?_); refine goesL_ (some 10) rfl rfl Tryd.func56 (by kernel_rfl) rfl #[.slice A0 l0.length c0, .string a1] rfl (by (try simp only [List.map_toArray, List.map_cons, List.map_nil]); first | done | rfl | (simp only [List.length_drop, List.length_take]; rfl)) ?_; (with_reducible refine (spec_l8At.calls k _ _ l0 a1 t116 _ ?side1 ?side2 A3.out).mono ?_); (case side1 => repeat (first | exact (Kd.C_below HR0.out HB.out) | (with_reducible first | refine Kd.C_alloc ?_ _ | refine Kd.C_drewN ?_ _ | refine Kd.C_drew ?_))); (case side2 => exact HC0.out); rintro e w' ⟨rfl, ⟨nd, rfl⟩⟩; refine ⟨_, rfl, ?_⟩))
 go_loopg [5, 6] k (fun kq v5 v6 w' => ∃ (x5_1 : List ByteArray) (x6_1 : Int), v6 = .int .i64 x6_1 ∧ As0 (spec_l8Up.l0 kq l0 x5_1 x6_1 = some r) ∧ As0 (kq ≤ k) ∧ As0 (Kd.R Kd.string 9 w' w.heap.size (fun _ => True) v5 x5_1) ∧ As0 (Below w.heap.size w w'))
 case atStart => exact ⟨(y113), (t116), (by first | rfl | (simp; done) | (simp [*]; done)), H', ⟨Nat.le_refl _⟩, ⟨by (with_reducible repeat (first | apply Kd.Ral | apply Kd.RdN | apply Kd.R_drew)); exact HO115.out⟩, ⟨by repeat (first | (with_reducible first | exact HB.out | apply bal | apply pbN | apply bd1) | exact HB.out)⟩⟩
 case round =>
  clear H'
  try clear p2
  try clear c5
  obtain ⟨x5_1, x6_1, rfl, HA, HK1, HO_5, HB⟩ := hrel
  cases gk with
  | zero => exact absurd HA.out (by simp [spec_l8Up.l0])
  | succ k1 =>
   have H := HA.out; clear HA; simp only [spec_l8Up.l0] at H; by_cases c6 : x6_1 ≥ 0
   · rw [if_pos c6] at H
     have c6b0 : decide (0 ≤ x6_1) = true := decide_eq_true c6; clear c6; by_cases c7 : (x5_1.length : Int) ≤ 7
     · rw [if_pos c7] at H
       have c7b0 : decide ((x5_1.length : Int) ≤ 7) = true := decide_eq_true c7; have c7b1 : decide (x5_1.length ≤ 7) = true := decide_eq_true (by omega); clear c7; by_cases c8 : 0 ≤ x6_1
       · rw [if_pos c8] at H
         have c8b0 : decide (0 ≤ x6_1) = true := decide_eq_true c8; clear c8; by_cases c9 : x6_1 < (l0.length : Int)
         · rw [if_pos c9] at H
           have c9b0 : decide (x6_1 < (l0.length : Int)) = true := decide_eq_true c9; clear c9; by_cases c10 : x5_1.length < 8796093022208
           · rw [if_pos c10] at H
             have LMc10 := As0.mk c10; clear c10; obtain ⟨y118, hy118⟩ : ∃ y_ : List ByteArray, y_ = (x5_1 ++ [(riS26 l0 x6_1).f0]) := ⟨_, rfl⟩; replace H : ((spec_l8At.f k1 l0 ((riS26 l0 x6_1).f1)).bind fun t122 => (spec_l8Up.l0 k1 l0 y118 t122)) = some r := by first | (rw [hy118]; with_reducible exact H) | (have H2_ := (Option.bind_some _ _).symm.trans H; rw [hy118]; with_reducible exact H2_) | (have H2_ := (Option.bind_some _ _).symm.trans H; with_reducible exact H2_) | with_reducible exact H | (rw [hy118]; exact H) | exact H
             have Ny118 := As0.mk hy118; clear hy118; replace H := Option.bind_eq_some_iff.mp H; obtain ⟨t122, A110, H⟩ := H; replace H : (spec_l8Up.l0 k1 l0 y118 t122) = some r := H; have A11 := As0.mk A110; clear A110; have H' := As0.mk H; clear H; obtain ⟨Ao12, co12, eo12⟩ := Kd.R_slice HO_5.out; subst eo12; have p117 : 0 ≤ (x6_1 : Int) := odt; have q117 : x6_1 < (l0.length : Int) := odt; obtain ⟨ad117, e117, hx117_0, hx117_1, hx117_2, hx117_3, hx117_4⟩ := at_T42 HR0.out x6_1 p117 q117
             cases e117
             replace hx117_0 := bx HB.out rfl hx117_0; replace hx117_1 := bx HB.out rfl hx117_1; replace hx117_2 := bx HB.out rfl hx117_2; replace hx117_3 := bx HB.out rfl hx117_3; replace hx117_4 := bx HB.out rfl hx117_4; replace p117 := eq_true p117; replace q117 := eq_true q117
             go_wp2_with (first | ((with_reducible refine gbi (b := .append) (xs := #[.tmp 25, .tmp 31]) rfl ?_); (try (refine gate_guard (by rfl) ?_; dsimp only)); at_builtin; refine Kd.R_append Kd.string (w0 := w) w.heap.size rfl (.tmp 25) (.tmp 31) 33 9 (.string ⟨#[]⟩) 16 rfl Tryd.underlying33 info9 rfl (by decide) (by omega) (.slice Ao12 x5_1.length co12) x5_1 ((riS26 l0 x6_1).f0) [.string ((riS26 l0 x6_1).f0)] (fun _ => True) (fun _ => False) rfl rfl ?aP (fun _ hk => hk.elim) ?aF ?aO ?aB ?aS ?aL ?_; (case aP => exact rfl); (case aB => exact (by repeat (first | (with_reducible first | exact HB.out | apply bal | apply pbN | apply bd1) | exact HB.out))); (case aF => exact (fun _ _ => trivial)); (case aO => exact (by (with_reducible repeat (first | apply Kd.Ral | apply Kd.RdN | apply Kd.R_drew)); exact HO_5.out)); (case aS => exact (bsz (by repeat (first | (with_reducible first | exact HB.out | apply bal | apply pbN | apply bd1) | exact HB.out)))); (case aL => have := LMc10.out; omega); intro v119 w13 ho hb hg hat; rw [← Ny118.out] at ho; have n0_ := As0.mk (hb); have n1_ := As0.mk (ho); clear HB; clear HO_5; have HB := n0_; have HO120 := n1_; clear n0_ n1_; clear ho hb hg hat; have p121 : 0 ≤ (x6_1 : Int) := odt; have q121 : x6_1 < (l0.length : Int) := odt; obtain ⟨ad121, e121, hx121_0, hx121_1, hx121_2, hx121_3, hx121_4⟩ := at_T42 HR0.out x6_1 p121 q121; obtain rfl : ad117 = ad121 := (by injection e121); replace hx121_0 := bx HB.out rfl hx121_0; replace hx121_1 := bx HB.out rfl hx121_1; replace hx121_2 := bx HB.out rfl hx121_2; replace hx121_3 := bx HB.out rfl hx121_3; replace hx121_4 := bx HB.out rfl hx121_4; replace p121 := eq_true p121; replace q121 := eq_true q121) | ((with_reducible refine gca (f := 56) rfl ?_); refine goesL_ (some 24) rfl rfl Tryd.func56 (by kernel_rfl) rfl #[.slice (some ad117) l0.length c0, .string ((riS26 l0 x6_1).f1)] rfl (by (try simp only [List.map_toArray, List.map_cons, List.map_nil]); first | done | rfl | (simp only [List.length_drop, List.length_take]; rfl)) ?_; (with_reducible refine (spec_l8At.calls k1 _ _ l0 ((riS26 l0 x6_1).f1) t122 _ ?side1 ?side2 A11.out).mono ?_); (case side1 => repeat (first | exact (Kd.C_below HR0.out HB.out) | (with_reducible first | refine Kd.C_alloc ?_ _ | refine Kd.C_drewN ?_ _ | refine Kd.C_drew ?_))); (case side2 => exact HC0.out); rintro e w' ⟨rfl, ⟨nd, rfl⟩⟩; refine ⟨_, rfl, ?_⟩))
             go_roundg k1
             case measure => have := HK1.out; omega
             case rel => exact ⟨(y118), (t122), (by first | rfl | (simp; done) | (simp [*]; done)), H', ⟨by have := HK1.out; omega⟩, ⟨by (with_reducible repeat (first | apply Kd.Ral | apply Kd.RdN | apply Kd.R_drew)); exact HO120.out⟩, ⟨by repeat (first | (with_reducible first | exact HB.out | apply bal | apply pbN | apply bd1) | exact HB.out)⟩⟩
           · rw [if_neg c10] at H
             exact absurd H (by simp)
         · rw [if_neg c9] at H
           exact absurd H (by simp)
       · rw [if_neg c8] at H
         exact absurd H (by simp)
     · rw [if_neg c7] at H
       have c7b0 : decide ((x5_1.length : Int) ≤ 7) = false := decide_eq_false c7; have c7b1 : decide (x5_1.length ≤ 7) = false := decide_eq_false (by omega); clear c7; obtain rfl := Option.some.inj H; obtain ⟨Ao14, co14, eo14⟩ := Kd.R_slice HO_5.out; subst eo14
       go_wp2
       go_ret
       exact ⟨_, by first | rfl | (simp [errW_none, errW_some] <;> rfl) | (simp [*, errW_none, errW_some] <;> rfl), by (with_reducible repeat (first | apply Kd.Ral | apply Kd.RdN | apply Kd.R_drew)); exact HO_5.out, by repeat (first | (with_reducible first | exact HB.out | apply bal | apply pbN | apply bd1) | exact HB.out)⟩
   · rw [if_neg c6] at H
     have c6b0 : decide (0 ≤ x6_1) = false := decide_eq_false c6; clear c6; obtain rfl := Option.some.inj H
     go_wp2
     go_ret
     exact ⟨_, by first | rfl | (simp [errW_none, errW_some] <;> rfl) | (simp [*, errW_none, errW_some] <;> rfl), by (with_reducible repeat (first | apply Kd.Ral | apply Kd.RdN | apply Kd.R_drew)); exact HO_5.out, by repeat (first | (with_reducible first | exact HB.out | apply bal | apply pbN | apply bd1) | exact HB.out)⟩
mutual
def spec_SpacesOk.l0 : Nat → List (SiS23) → Int → Option (Bool)
 | 0, _, _ => none
 | k + 1, x0, x3 => if x3 < (x0.length : Int) then (if 0 ≤ x3 then ((spec_l8Ok.f k ((riS26 x0 x3).f0) ((riS26 x0 x3).f1) ((riS26 x0 x3).f2) ((riS26 x0 x3).f3) ((riS26 x0 x3).f4)).bind fun t124 => (if t124 = true then (if x3 > 0 then (if 0 ≤ (wrap64 (x3 - 1)) then (if (wrap64 (x3 - 1)) < (x0.length : Int) then (if ((Op.bytesLess (((riS26 x0 (wrap64 (x3 - 1))).f0).toList) (((riS26 x0 x3).f0).toList)) = true) then (spec_SpacesOk.l0 k x0 (wrap64 (x3 + 1))) else (some false)) else (none)) else (none)) else (spec_SpacesOk.l0 k x0 (wrap64 (x3 + 1)))) else (some false))) else (none)) else (spec_SpacesOk.l1 k x0 0)
def spec_SpacesOk.l1 : Nat → List (SiS23) → Int → Option (Bool)
 | 0, _, _ => none
 | k + 1, x0, x4 => if x4 < (x0.length : Int) then (if 0 ≤ x4 then ((spec_l8Up.f k x0 ((riS26 x0 x4).f0)).bind fun t128 => (if (t128.length : Int) > (x0.length : Int) then (some false) else (if 0 ≤ (wrap64 ((t128.length : Int) - 1)) then (if (wrap64 ((t128.length : Int) - 1)) < (t128.length : Int) then (if (rdOf ByteArray.empty t128 (wrap64 ((t128.length : Int) - 1))).toList = ([97, 108, 108] : List UInt8) then (spec_SpacesOk.l1 k x0 (wrap64 (x4 + 1))) else (some false)) else (none)) else (none)))) else (none)) else ((spec_l1In.f (x0.length : Int) 1 7).bind fun t132 => (if t132 = true then ((spec_l8At.f k x0 (⟨#[97, 108, 108]⟩ : ByteArray)).bind fun t133 => (some (decide (t133 ≥ 0)))) else (some false)))
end
def spec_SpacesOk.f (k : Nat) (l0 : List (SiS23)) : Option (Bool) := spec_SpacesOk.l0 k l0 0
def spec_SpacesOk.T4 : Bool × List (List Nat × List Nat) := (true, [([], []), ([], []), ([0, 1], [0, 1]), ([2], [2]), ([3], [3]), ([4], [4]), ([5, 4], [5]), ([6], [6]), ([7, 6], [6, 7]), ([8, 6, 6], [6, 8]), ([9], [9]), ([9], [9]), ([11, 9], [9, 11]), ([10, 12, 9], [9, 10, 12]), ([13, 9], [9, 13]), ([14, 9], [9, 14]), ([9], [9]), ([9], [9]), ([16, 17, 9], [9, 16, 17]), ([18, 9], [9, 18]), ([19, 9], [9, 19]), ([15, 20, 9], [9, 15, 20]), ([9, 21, 6], [6, 9, 21]), ([6, 22], [6, 22])])
def spec_SpacesOk.B4 : List Nat := [0, 0, 3, 7, 15, 31, 63, 127, 255, 511, 1023, 1023, 3071, 8191, 16383, 32767, 1023, 1023, 197631, 459775, 984063, 2097151, 4194303, 8388607]
theorem spec_SpacesOk.tab4 : rtab .any (opsOf Tryd.f16 4) = spec_SpacesOk.T4 := by kernel_rfl
theorem spec_SpacesOk.bits4 : waitsOk spec_SpacesOk.T4.2 spec_SpacesOk.B4 = true := by kernel_rfl
abbrev spec_SpacesOk.calls.a0 : Array Bool := #[false, false, false, false, false, false, false, false, false, false, false, false, false, false, false, false, false, false, false, false, false, false, false, false]
abbrev spec_SpacesOk.calls.a1 : Array Bool := #[true, false, false, false, false, false, false, false, false, false, false, false, false, false, false, false, false, false, false, false, false, false, false, false]
abbrev spec_SpacesOk.calls.a2 : Array Bool := #[true, true, false, false, false, false, false, false, false, false, false, false, false, false, false, false, false, false, false, false, false, false, false, false]
abbrev spec_SpacesOk.calls.a3 : Array Bool := #[true, true, true, false, false, false, false, false, false, false, false, false, false, false, false, false, false, false, false, false, false, false, false, false]
abbrev spec_SpacesOk.calls.a4 : Array Bool := #[true, true, true, true, false, false, false, false, false, false, false, false, false, false, false, false, false, false, false, false, false, false, false, false]
abbrev spec_SpacesOk.calls.a5 : Array Bool := #[true, true, true, true, true, false, false, false, false, false, false, false, false, false, false, false, false, false, false, false, false, false, false, false]
abbrev spec_SpacesOk.calls.a6 : Array Bool := #[true, true, true, true, true, true, false, false, false, false, false, false, false, false, false, false, false, false, false, false, false, false, false, false]
abbrev spec_SpacesOk.calls.a7 : Array Bool := #[true, true, true, true, true, true, true, false, false, false, false, false, false, false, false, false, false, false, false, false, false, false, false, false]
abbrev spec_SpacesOk.calls.a8 : Array Bool := #[true, true, true, true, true, true, true, true, false, false, false, false, false, false, false, false, false, false, false, false, false, false, false, false]
abbrev spec_SpacesOk.calls.a9 : Array Bool := #[true, true, true, true, true, true, true, true, true, false, false, false, false, false, false, false, false, false, false, false, false, false, false, false]
abbrev spec_SpacesOk.calls.a10 : Array Bool := #[true, true, true, true, true, true, true, true, true, true, false, false, false, false, false, false, false, false, false, false, false, false, false, false]
abbrev spec_SpacesOk.calls.a11 : Array Bool := #[true, true, true, true, true, true, true, true, true, true, true, false, false, false, false, false, false, false, false, false, false, false, false, false]
abbrev spec_SpacesOk.calls.a12 : Array Bool := #[true, true, true, true, true, true, true, true, true, true, true, true, false, false, false, false, false, false, false, false, false, false, false, false]
abbrev spec_SpacesOk.calls.a13 : Array Bool := #[true, true, true, true, true, true, true, true, true, true, true, true, true, false, false, false, false, false, false, false, false, false, false, false]
abbrev spec_SpacesOk.calls.a14 : Array Bool := #[true, true, true, true, true, true, true, true, true, true, true, true, true, true, false, false, false, false, false, false, false, false, false, false]
abbrev spec_SpacesOk.calls.a15 : Array Bool := #[true, true, true, true, true, true, true, true, true, true, true, true, true, true, true, false, false, false, false, false, false, false, false, false]
abbrev spec_SpacesOk.calls.a16 : Array Bool := #[true, true, true, true, true, true, true, true, true, true, true, true, true, true, true, true, true, true, true, true, false, false, false, false]
abbrev spec_SpacesOk.calls.a17 : Array Bool := #[true, true, true, true, true, true, true, true, true, true, true, true, true, true, true, true, true, true, true, true, true, false, false, false]
abbrev spec_SpacesOk.calls.a18 : Array Bool := #[true, true, true, true, true, true, true, true, true, true, true, true, true, true, true, true, true, true, true, true, true, true, false, false]
abbrev spec_SpacesOk.calls.a19 : Array Bool := #[true, true, true, true, true, true, true, true, true, true, true, true, true, true, true, true, true, true, true, true, true, true, true, false]
abbrev spec_SpacesOk.calls.a20 : Array Bool := #[true, true, true, true, true, true, true, true, true, true, true, true, true, true, true, true, true, true, true, true, true, true, true, true]
abbrev spec_SpacesOk.calls.a21 : Array Bool := #[true, true, true, true, true, true, true, true, true, true, true, true, true, true, true, false, true, false, false, false, false, false, false, false]
abbrev spec_SpacesOk.calls.a22 : Array Bool := #[true, true, true, true, true, true, true, true, true, true, true, true, true, true, true, false, true, true, false, false, false, false, false, false]
abbrev spec_SpacesOk.calls.a23 : Array Bool := #[true, true, true, true, true, true, true, true, true, true, true, true, true, true, true, false, true, true, true, false, false, false, false, false]
abbrev spec_SpacesOk.calls.a24 : Array Bool := #[true, true, true, true, true, true, true, true, true, true, true, true, true, true, true, false, true, true, true, true, false, false, false, false]
abbrev spec_SpacesOk.calls.a25 : Array Bool := #[true, true, true, true, true, true, true, true, true, true, true, true, true, true, true, true, false, false, false, false, false, false, false, false]
abbrev spec_SpacesOk.calls.a26 : Array Bool := #[true, true, true, true, true, true, true, true, true, true, true, true, true, true, true, true, true, false, false, false, false, false, false, false]
abbrev spec_SpacesOk.calls.a27 : Array Bool := #[true, true, true, true, true, true, true, true, true, true, true, true, true, true, true, true, true, true, false, false, false, false, false, false]
abbrev spec_SpacesOk.calls.a28 : Array Bool := #[true, true, true, true, true, true, true, true, true, true, true, true, true, true, true, true, true, true, true, false, false, false, false, false]
set_option maxHeartbeats 8000000 in
set_option maxRecDepth 100000 in
theorem spec_SpacesOk.calls (k : Nat) (A0 : Option Addr) (c0 : Nat) (l0 : List (SiS23)) (r : Bool) (w : World) (hr0 : Kd.C k42 w A0 l0.length l0) (hc0 : l0.length ≤ c0) (h : spec_SpacesOk.f k l0 = some r) :
 Calls Tryd.prog 16 #[.slice A0 l0.length c0] w fun e w' => e = .returned (.bool r) ∧ Below w.heap.size w w' := by
 have hu42 := Tryd.underlying42; have HR0 := As0.mk hr0; have HC0 := As0.mk hc0; clear hr0 hc0; have HB := As0.mk (Below.refl w.heap.size w); have H : (spec_SpacesOk.l0 k l0 0) = some r := h; clear h; have H' := As0.mk H; clear H
 go_enter Tryd.func16, Tryd.ntmps16
 go_wp2
 go_loopg [3] k (fun kq v3 w' => ∃ (x3_1 : Int), v3 = .int .i64 x3_1 ∧ As0 (spec_SpacesOk.l0 kq l0 x3_1 = some r) ∧ As0 (kq ≤ k) ∧ As0 (Below w.heap.size w w'))
 case atStart => exact ⟨(0), (by first | rfl | (simp; done) | (simp [*]; done)), H', ⟨Nat.le_refl _⟩, ⟨HB.out⟩⟩
 case round =>
  clear H'
  try clear c1
  obtain ⟨x3_1, rfl, HA, HK1, HB⟩ := hrel
  cases gk with
  | zero => exact absurd HA.out (by simp [spec_SpacesOk.l0])
  | succ k1 =>
   have H := HA.out; clear HA; simp only [spec_SpacesOk.l0] at H; by_cases c2 : x3_1 < (l0.length : Int)
   · rw [if_pos c2] at H
     have c2b0 : decide (x3_1 < (l0.length : Int)) = true := decide_eq_true c2; clear c2; by_cases c3 : 0 ≤ x3_1
     · rw [if_pos c3] at H
       have c3b0 : decide (0 ≤ x3_1) = true := decide_eq_true c3; clear c3; replace H := Option.bind_eq_some_iff.mp H; obtain ⟨t124, A40, H⟩ := H; replace H : (if t124 = true then (if x3_1 > 0 then (if 0 ≤ (wrap64 (x3_1 - 1)) then (if (wrap64 (x3_1 - 1)) < (l0.length : Int) then (if ((Op.bytesLess (((riS26 l0 (wrap64 (x3_1 - 1))).f0).toList) (((riS26 l0 x3_1).f0).toList)) = true) then (spec_SpacesOk.l0 k1 l0 (wrap64 (x3_1 + 1))) else (some false)) else (none)) else (none)) else (spec_SpacesOk.l0 k1 l0 (wrap64 (x3_1 + 1)))) else (some false)) = some r := H; have A4 := As0.mk A40; clear A40; by_cases c5 : t124 = true
       · subst c5
         have H1 : (if x3_1 > 0 then (if 0 ≤ (wrap64 (x3_1 - 1)) then (if (wrap64 (x3_1 - 1)) < (l0.length : Int) then (if ((Op.bytesLess (((riS26 l0 (wrap64 (x3_1 - 1))).f0).toList) (((riS26 l0 x3_1).f0).toList)) = true) then (spec_SpacesOk.l0 k1 l0 (wrap64 (x3_1 + 1))) else (some false)) else (none)) else (none)) else (spec_SpacesOk.l0 k1 l0 (wrap64 (x3_1 + 1)))) = some r := by rw [if_pos rfl] at H; exact H
         clear H; have H := H1; clear H1; by_cases c6 : x3_1 > 0
         · rw [if_pos c6] at H
           have c6b0 : decide (0 < x3_1) = true := decide_eq_true c6; clear c6; obtain ⟨ji7, hji7⟩ : ∃ j_ : Int, (wrap64 (x3_1 - 1)) = j_ := ⟨_, rfl⟩; replace H : (if 0 ≤ (ji7) then (if (ji7) < (l0.length : Int) then (if ((Op.bytesLess (((riS26 l0 (ji7)).f0).toList) (((riS26 l0 x3_1).f0).toList)) = true) then (spec_SpacesOk.l0 k1 l0 (wrap64 (x3_1 + 1))) else (some false)) else (none)) else (none)) = some r := by first | (rw [hji7] at H; exact H) | (simp only [hji7] at H ⊢; exact H)
           (try rw [hji7] at A4)
           have hji7w : (IntKind.i64.wrap (x3_1 - 1)) = ji7 := (i64_w _).trans hji7; by_cases c8 : 0 ≤ (ji7)
           · rw [if_pos c8] at H
             have c8b0 : decide (0 ≤ (ji7)) = true := decide_eq_true c8; clear c8; by_cases c9 : (ji7) < (l0.length : Int)
             · rw [if_pos c9] at H
               have c9b0 : decide ((ji7) < (l0.length : Int)) = true := decide_eq_true c9; clear c9; by_cases c10 : ((Op.bytesLess (((riS26 l0 (ji7)).f0).toList) (((riS26 l0 x3_1).f0).toList)) = true)
               · rw [if_pos c10] at H
                 have c10b0 : (Op.bytesLess (((riS26 l0 (ji7)).f0).toList) (((riS26 l0 x3_1).f0).toList)) = true := c10; clear c10; have H' := As0.mk H; clear H
                 try go_wp2
                 have n0_ := As0.mk (bd1 HB.out); clear HB; have HB := n0_; clear n0_; have p123 : 0 ≤ (x3_1 : Int) := odt; have q123 : x3_1 < (l0.length : Int) := odt; obtain ⟨ad123, e123, hx123_0, hx123_1, hx123_2, hx123_3, hx123_4⟩ := at_T42 HR0.out x3_1 p123 q123; have hw123_4 := hx123_4; have hw123_3 := hx123_3; have hw123_2 := hx123_2; have hw123_1 := hx123_1; have hw123_0 := hx123_0
                 cases e123
                 replace hx123_0 := bx HB.out rfl hx123_0; replace hx123_1 := bx HB.out rfl hx123_1; replace hx123_2 := bx HB.out rfl hx123_2; replace hx123_3 := bx HB.out rfl hx123_3; replace hx123_4 := bx HB.out rfl hx123_4; replace p123 := eq_true p123; replace q123 := eq_true q123; have p125 : 0 ≤ ((ji7) : Int) := odt; have q125 : (ji7) < (l0.length : Int) := odt; obtain ⟨ad125, e125, hx125_0, hx125_1, hx125_2, hx125_3, hx125_4⟩ := at_T42 HR0.out (ji7) p125 q125; have hw125_4 := hx125_4; have hw125_3 := hx125_3; have hw125_2 := hx125_2; have hw125_1 := hx125_1; have hw125_0 := hx125_0; obtain rfl : ad123 = ad125 := (by injection e125); replace hx125_0 := bx HB.out rfl hx125_0; replace hx125_1 := bx HB.out rfl hx125_1; replace hx125_2 := bx HB.out rfl hx125_2; replace hx125_3 := bx HB.out rfl hx125_3; replace hx125_4 := bx HB.out rfl hx125_4; replace p125 := eq_true p125; replace q125 := eq_true q125; have p126 : 0 ≤ (x3_1 : Int) := odt; have q126 : x3_1 < (l0.length : Int) := odt; obtain ⟨ad126, e126, hx126_0, hx126_1, hx126_2, hx126_3, hx126_4⟩ := at_T42 HR0.out x3_1 p126 q126; have hw126_4 := hx126_4; have hw126_3 := hx126_3; have hw126_2 := hx126_2; have hw126_1 := hx126_1; have hw126_0 := hx126_0; obtain rfl : ad123 = ad126 := (by injection e126); replace hx126_0 := bx HB.out rfl hx126_0; replace hx126_1 := bx HB.out rfl hx126_1; replace hx126_2 := bx HB.out rfl hx126_2; replace hx126_3 := bx HB.out rfl hx126_3; replace hx126_4 := bx HB.out rfl hx126_4; replace p126 := eq_true p126; replace q126 := eq_true q126; refine start_ (n := 24) (S := fun w' => w'.cell? (ad123.add ((x3_1).toNat * 5)) = some (.string ((riS26 l0 x3_1).f0)) ∧ w'.cell? ⟨(ad123.add ((x3_1).toNat * 5)).block, (ad123.add ((x3_1).toNat * 5)).off + 1, none⟩ = some (.string ((riS26 l0 x3_1).f1)) ∧ w'.cell? ⟨(ad123.add ((x3_1).toNat * 5)).block, (ad123.add ((x3_1).toNat * 5)).off + 2, none⟩ = some (.int .i64 ((riS26 l0 x3_1).f2)) ∧ w'.cell? ⟨(ad123.add ((x3_1).toNat * 5)).block, (ad123.add ((x3_1).toNat * 5)).off + 3, none⟩ = some (.bool ((riS26 l0 x3_1).f3)) ∧ w'.cell? ⟨(ad123.add ((x3_1).toNat * 5)).block, (ad123.add ((x3_1).toNat * 5)).off + 4, none⟩ = some (.int .i64 ((riS26 l0 x3_1).f4)) ∧ w'.cell? (ad123.add (((ji7)).toNat * 5)) = some (.string ((riS26 l0 (ji7)).f0)) ∧ w'.cell? ⟨(ad123.add (((ji7)).toNat * 5)).block, (ad123.add (((ji7)).toNat * 5)).off + 1, none⟩ = some (.string ((riS26 l0 (ji7)).f1)) ∧ w'.cell? ⟨(ad123.add (((ji7)).toNat * 5)).block, (ad123.add (((ji7)).toNat * 5)).off + 2, none⟩ = some (.int .i64 ((riS26 l0 (ji7)).f2)) ∧ w'.cell? ⟨(ad123.add (((ji7)).toNat * 5)).block, (ad123.add (((ji7)).toNat * 5)).off + 3, none⟩ = some (.bool ((riS26 l0 (ji7)).f3)) ∧ w'.cell? ⟨(ad123.add (((ji7)).toNat * 5)).block, (ad123.add (((ji7)).toNat * 5)).off + 4, none⟩ = some (.int .i64 ((riS26 l0 (ji7)).f4)) ∧ w'.cell? (ad123.add ((x3_1).toNat * 5)) = some (.string ((riS26 l0 x3_1).f0)) ∧ w'.cell? ⟨(ad123.add ((x3_1).toNat * 5)).block, (ad123.add ((x3_1).toNat * 5)).off + 1, none⟩ = some (.string ((riS26 l0 x3_1).f1)) ∧ w'.cell? ⟨(ad123.add ((x3_1).toNat * 5)).block, (ad123.add ((x3_1).toNat * 5)).off + 2, none⟩ = some (.int .i64 ((riS26 l0 x3_1).f2)) ∧ w'.cell? ⟨(ad123.add ((x3_1).toNat * 5)).block, (ad123.add ((x3_1).toNat * 5)).off + 3, none⟩ = some (.bool ((riS26 l0 x3_1).f3)) ∧ w'.cell? ⟨(ad123.add ((x3_1).toNat * 5)).block, (ad123.add ((x3_1).toNat * 5)).off + 4, none⟩ = some (.int .i64 ((riS26 l0 x3_1).f4))) (ds := []) spec_SpacesOk.calls.a0 (by kernel_rfl) rfl rfl ⟨((HB.out.cell (World.block_lt_of_cell? w _ hw123_0)).trans hw123_0), ((HB.out.cell (World.block_lt_of_cell? w _ hw123_1)).trans hw123_1), ((HB.out.cell (World.block_lt_of_cell? w _ hw123_2)).trans hw123_2), ((HB.out.cell (World.block_lt_of_cell? w _ hw123_3)).trans hw123_3), ((HB.out.cell (World.block_lt_of_cell? w _ hw123_4)).trans hw123_4), ((HB.out.cell (World.block_lt_of_cell? w _ hw125_0)).trans hw125_0), ((HB.out.cell (World.block_lt_of_cell? w _ hw125_1)).trans hw125_1), ((HB.out.cell (World.block_lt_of_cell? w _ hw125_2)).trans hw125_2), ((HB.out.cell (World.block_lt_of_cell? w _ hw125_3)).trans hw125_3), ((HB.out.cell (World.block_lt_of_cell? w _ hw125_4)).trans hw125_4), ((HB.out.cell (World.block_lt_of_cell? w _ hw126_0)).trans hw126_0), ((HB.out.cell (World.block_lt_of_cell? w _ hw126_1)).trans hw126_1), ((HB.out.cell (World.block_lt_of_cell? w _ hw126_2)).trans hw126_2), ((HB.out.cell (World.block_lt_of_cell? w _ hw126_3)).trans hw126_3), ((HB.out.cell (World.block_lt_of_cell? w _ hw126_4)).trans hw126_4)⟩ (fun hHeld => ?_); refine with_tabW spec_SpacesOk.tab4 spec_SpacesOk.bits4 (fun HT_ HW_ => ?_); generalize wr.drew = w11 at HB hx123_0 hx123_1 hx123_2 hx123_3 hx123_4 hx125_0 hx125_1 hx125_2 hx125_3 hx125_4 hx126_0 hx126_1 hx126_2 hx126_3 hx126_4 hHeld ⊢
                 refine pu 0 (some 12) spec_SpacesOk.calls.a1 rfl rfl HT_.out ?_; refine pu 1 (some 13) spec_SpacesOk.calls.a2 rfl rfl HT_.out ?_; refine pu 2 (some 14) spec_SpacesOk.calls.a3 rfl rfl HT_.out ?_; refine tk 3 (some 15) spec_SpacesOk.calls.a4 rfl rfl HT_.out HW_.out hHeld (by rintro w' ⟨s0, s1, s2, s3, s4, s5, s6, s7, s8, s9, s10, s11, s12, s13, s14⟩; go_simp; with_reducible rfl) ?_; refine one_ (i := 4) (N := some 16) spec_SpacesOk.calls.a5 rfl rfl (one_of HT_.out (by kernel_rfl)) (by decide) (fun K hK => ?_); refine goes_ Tryd.func53 (by kernel_rfl) rfl #[.agg #[.string ((riS26 l0 x3_1).f0), .string ((riS26 l0 x3_1).f1), .int .i64 ((riS26 l0 x3_1).f2), .bool ((riS26 l0 x3_1).f3), .int .i64 ((riS26 l0 x3_1).f4)]] (by rfl) rfl rfl (by (try simp only [List.map_toArray, List.map_cons, List.map_nil]); first | done | rfl | (simp only [List.length_drop, List.length_take]; rfl)) ?_; with_reducible refine (spec_l8Ok.calls k1 ((riS26 l0 x3_1).f0) ((riS26 l0 x3_1).f1) ((riS26 l0 x3_1).f2) ((riS26 l0 x3_1).f3) ((riS26 l0 x3_1).f4) true _ A4.out).mono ?_
                 rintro e w12 ⟨rfl, hb⟩; refine ⟨_, rfl, ?_⟩; have n0_ := As0.mk (bsp HB.out hb); clear HB; have HB := n0_; clear n0_
                 (try clear hb)
                 (try clear hb2)
                 (try clear hk)
                 (try clear hi)
                 refine hK.out _ _ ⟨((HB.out.cell (World.block_lt_of_cell? w _ hw123_0)).trans hw123_0), ((HB.out.cell (World.block_lt_of_cell? w _ hw123_1)).trans hw123_1), ((HB.out.cell (World.block_lt_of_cell? w _ hw123_2)).trans hw123_2), ((HB.out.cell (World.block_lt_of_cell? w _ hw123_3)).trans hw123_3), ((HB.out.cell (World.block_lt_of_cell? w _ hw123_4)).trans hw123_4), ((HB.out.cell (World.block_lt_of_cell? w _ hw125_0)).trans hw125_0), ((HB.out.cell (World.block_lt_of_cell? w _ hw125_1)).trans hw125_1), ((HB.out.cell (World.block_lt_of_cell? w _ hw125_2)).trans hw125_2), ((HB.out.cell (World.block_lt_of_cell? w _ hw125_3)).trans hw125_3), ((HB.out.cell (World.block_lt_of_cell? w _ hw125_4)).trans hw125_4), ((HB.out.cell (World.block_lt_of_cell? w _ hw126_0)).trans hw126_0), ((HB.out.cell (World.block_lt_of_cell? w _ hw126_1)).trans hw126_1), ((HB.out.cell (World.block_lt_of_cell? w _ hw126_2)).trans hw126_2), ((HB.out.cell (World.block_lt_of_cell? w _ hw126_3)).trans hw126_3), ((HB.out.cell (World.block_lt_of_cell? w _ hw126_4)).trans hw126_4)⟩ (fun hHeld => ?_); clear hK K; refine norm_ (a' := ?_) ?_ ?_; rotate_left
                 · show Act.put _ (some 16) _ = _
                   simp only [Act.put, sA, sZ, sS, i64_w, i32_w]; rfl
                 refine pu 5 (some 17) spec_SpacesOk.calls.a6 rfl rfl HT_.out ?_; refine pu 6 (some 18) spec_SpacesOk.calls.a7 rfl rfl HT_.out ?_; refine pu 7 (some 19) spec_SpacesOk.calls.a8 rfl rfl HT_.out ?_; refine pu 8 (some 20) spec_SpacesOk.calls.a9 rfl rfl HT_.out ?_; refine pu 9 (some 21) spec_SpacesOk.calls.a10 rfl rfl HT_.out ?_; refine pu 10 (some 22) spec_SpacesOk.calls.a11 rfl rfl HT_.out ?_; refine pu 11 (some 23) spec_SpacesOk.calls.a12 rfl rfl HT_.out ?_; refine pu 12 (some 24) spec_SpacesOk.calls.a13 rfl rfl HT_.out ?_; refine pu 13 (some 25) spec_SpacesOk.calls.a14 rfl rfl HT_.out ?_; refine pu 14 (some 26) spec_SpacesOk.calls.a15 rfl rfl HT_.out ?_; refine pu 16 (some 28) spec_SpacesOk.calls.a21 rfl rfl HT_.out ?_; refine pu 17 (some 29) spec_SpacesOk.calls.a22 rfl rfl HT_.out ?_; refine pu 18 (some 30) spec_SpacesOk.calls.a23 rfl rfl HT_.out ?_; refine pu 19 (some 31) spec_SpacesOk.calls.a24 rfl rfl HT_.out ?_; refine tk 15 (some 27) spec_SpacesOk.calls.a16 rfl rfl HT_.out HW_.out hHeld (by rintro w' ⟨s0, s1, s2, s3, s4, s5, s6, s7, s8, s9, s10, s11, s12, s13, s14⟩; go_simp; with_reducible rfl) ?_; refine tk 20 (some 32) spec_SpacesOk.calls.a17 rfl rfl HT_.out HW_.out hHeld (by rintro w' ⟨s0, s1, s2, s3, s4, s5, s6, s7, s8, s9, s10, s11, s12, s13, s14⟩; go_simp; with_reducible rfl) ?_; refine pu 21 (some 33) spec_SpacesOk.calls.a18 rfl rfl HT_.out ?_; refine pu 22 (some 34) spec_SpacesOk.calls.a19 rfl rfl HT_.out ?_; refine pu 23 (some 35) spec_SpacesOk.calls.a20 rfl rfl HT_.out ?_; refine done_ (done_of HT_.out (by kernel_rfl)) ?_
                 try go_wp2
                 go_roundg k1
                 case measure => have := HK1.out; omega
                 case rel => exact ⟨(wrap64 (x3_1 + 1)), (by first | rfl | (simp; done) | (simp [*]; done)), H', ⟨by have := HK1.out; omega⟩, ⟨HB.out⟩⟩
               · rw [if_neg c10] at H
                 have c10b0 : (Op.bytesLess (((riS26 l0 (ji7)).f0).toList) (((riS26 l0 x3_1).f0).toList)) = false := by simpa using c10
                 clear c10; obtain rfl := Option.some.inj H
                 try go_wp2
                 have n0_ := As0.mk (bd1 HB.out); clear HB; have HB := n0_; clear n0_; have p123 : 0 ≤ (x3_1 : Int) := odt; have q123 : x3_1 < (l0.length : Int) := odt; obtain ⟨ad123, e123, hx123_0, hx123_1, hx123_2, hx123_3, hx123_4⟩ := at_T42 HR0.out x3_1 p123 q123; have hw123_4 := hx123_4; have hw123_3 := hx123_3; have hw123_2 := hx123_2; have hw123_1 := hx123_1; have hw123_0 := hx123_0
                 cases e123
                 replace hx123_0 := bx HB.out rfl hx123_0; replace hx123_1 := bx HB.out rfl hx123_1; replace hx123_2 := bx HB.out rfl hx123_2; replace hx123_3 := bx HB.out rfl hx123_3; replace hx123_4 := bx HB.out rfl hx123_4; replace p123 := eq_true p123; replace q123 := eq_true q123; have p125 : 0 ≤ ((ji7) : Int) := odt; have q125 : (ji7) < (l0.length : Int) := odt; obtain ⟨ad125, e125, hx125_0, hx125_1, hx125_2, hx125_3, hx125_4⟩ := at_T42 HR0.out (ji7) p125 q125; have hw125_4 := hx125_4; have hw125_3 := hx125_3; have hw125_2 := hx125_2; have hw125_1 := hx125_1; have hw125_0 := hx125_0; obtain rfl : ad123 = ad125 := (by injection e125); replace hx125_0 := bx HB.out rfl hx125_0; replace hx125_1 := bx HB.out rfl hx125_1; replace hx125_2 := bx HB.out rfl hx125_2; replace hx125_3 := bx HB.out rfl hx125_3; replace hx125_4 := bx HB.out rfl hx125_4; replace p125 := eq_true p125; replace q125 := eq_true q125; have p126 : 0 ≤ (x3_1 : Int) := odt; have q126 : x3_1 < (l0.length : Int) := odt; obtain ⟨ad126, e126, hx126_0, hx126_1, hx126_2, hx126_3, hx126_4⟩ := at_T42 HR0.out x3_1 p126 q126; have hw126_4 := hx126_4; have hw126_3 := hx126_3; have hw126_2 := hx126_2; have hw126_1 := hx126_1; have hw126_0 := hx126_0; obtain rfl : ad123 = ad126 := (by injection e126); replace hx126_0 := bx HB.out rfl hx126_0; replace hx126_1 := bx HB.out rfl hx126_1; replace hx126_2 := bx HB.out rfl hx126_2; replace hx126_3 := bx HB.out rfl hx126_3; replace hx126_4 := bx HB.out rfl hx126_4; replace p126 := eq_true p126; replace q126 := eq_true q126; refine start_ (n := 24) (S := fun w' => w'.cell? (ad123.add ((x3_1).toNat * 5)) = some (.string ((riS26 l0 x3_1).f0)) ∧ w'.cell? ⟨(ad123.add ((x3_1).toNat * 5)).block, (ad123.add ((x3_1).toNat * 5)).off + 1, none⟩ = some (.string ((riS26 l0 x3_1).f1)) ∧ w'.cell? ⟨(ad123.add ((x3_1).toNat * 5)).block, (ad123.add ((x3_1).toNat * 5)).off + 2, none⟩ = some (.int .i64 ((riS26 l0 x3_1).f2)) ∧ w'.cell? ⟨(ad123.add ((x3_1).toNat * 5)).block, (ad123.add ((x3_1).toNat * 5)).off + 3, none⟩ = some (.bool ((riS26 l0 x3_1).f3)) ∧ w'.cell? ⟨(ad123.add ((x3_1).toNat * 5)).block, (ad123.add ((x3_1).toNat * 5)).off + 4, none⟩ = some (.int .i64 ((riS26 l0 x3_1).f4)) ∧ w'.cell? (ad123.add (((ji7)).toNat * 5)) = some (.string ((riS26 l0 (ji7)).f0)) ∧ w'.cell? ⟨(ad123.add (((ji7)).toNat * 5)).block, (ad123.add (((ji7)).toNat * 5)).off + 1, none⟩ = some (.string ((riS26 l0 (ji7)).f1)) ∧ w'.cell? ⟨(ad123.add (((ji7)).toNat * 5)).block, (ad123.add (((ji7)).toNat * 5)).off + 2, none⟩ = some (.int .i64 ((riS26 l0 (ji7)).f2)) ∧ w'.cell? ⟨(ad123.add (((ji7)).toNat * 5)).block, (ad123.add (((ji7)).toNat * 5)).off + 3, none⟩ = some (.bool ((riS26 l0 (ji7)).f3)) ∧ w'.cell? ⟨(ad123.add (((ji7)).toNat * 5)).block, (ad123.add (((ji7)).toNat * 5)).off + 4, none⟩ = some (.int .i64 ((riS26 l0 (ji7)).f4)) ∧ w'.cell? (ad123.add ((x3_1).toNat * 5)) = some (.string ((riS26 l0 x3_1).f0)) ∧ w'.cell? ⟨(ad123.add ((x3_1).toNat * 5)).block, (ad123.add ((x3_1).toNat * 5)).off + 1, none⟩ = some (.string ((riS26 l0 x3_1).f1)) ∧ w'.cell? ⟨(ad123.add ((x3_1).toNat * 5)).block, (ad123.add ((x3_1).toNat * 5)).off + 2, none⟩ = some (.int .i64 ((riS26 l0 x3_1).f2)) ∧ w'.cell? ⟨(ad123.add ((x3_1).toNat * 5)).block, (ad123.add ((x3_1).toNat * 5)).off + 3, none⟩ = some (.bool ((riS26 l0 x3_1).f3)) ∧ w'.cell? ⟨(ad123.add ((x3_1).toNat * 5)).block, (ad123.add ((x3_1).toNat * 5)).off + 4, none⟩ = some (.int .i64 ((riS26 l0 x3_1).f4))) (ds := []) spec_SpacesOk.calls.a0 (by kernel_rfl) rfl rfl ⟨((HB.out.cell (World.block_lt_of_cell? w _ hw123_0)).trans hw123_0), ((HB.out.cell (World.block_lt_of_cell? w _ hw123_1)).trans hw123_1), ((HB.out.cell (World.block_lt_of_cell? w _ hw123_2)).trans hw123_2), ((HB.out.cell (World.block_lt_of_cell? w _ hw123_3)).trans hw123_3), ((HB.out.cell (World.block_lt_of_cell? w _ hw123_4)).trans hw123_4), ((HB.out.cell (World.block_lt_of_cell? w _ hw125_0)).trans hw125_0), ((HB.out.cell (World.block_lt_of_cell? w _ hw125_1)).trans hw125_1), ((HB.out.cell (World.block_lt_of_cell? w _ hw125_2)).trans hw125_2), ((HB.out.cell (World.block_lt_of_cell? w _ hw125_3)).trans hw125_3), ((HB.out.cell (World.block_lt_of_cell? w _ hw125_4)).trans hw125_4), ((HB.out.cell (World.block_lt_of_cell? w _ hw126_0)).trans hw126_0), ((HB.out.cell (World.block_lt_of_cell? w _ hw126_1)).trans hw126_1), ((HB.out.cell (World.block_lt_of_cell? w _ hw126_2)).trans hw126_2), ((HB.out.cell (World.block_lt_of_cell? w _ hw126_3)).trans hw126_3), ((HB.out.cell (World.block_lt_of_cell? w _ hw126_4)).trans hw126_4)⟩ (fun hHeld => ?_); refine with_tabW spec_SpacesOk.tab4 spec_SpacesOk.bits4 (fun HT_ HW_ => ?_); generalize wr.drew = w13 at HB hx123_0 hx123_1 hx123_2 hx123_3 hx123_4 hx125_0 hx125_1 hx125_2 hx125_3 hx125_4 hx126_0 hx126_1 hx126_2 hx126_3 hx126_4 hHeld ⊢
                 refine pu 0 (some 12) spec_SpacesOk.calls.a1 rfl rfl HT_.out ?_; refine pu 1 (some 13) spec_SpacesOk.calls.a2 rfl rfl HT_.out ?_; refine pu 2 (some 14) spec_SpacesOk.calls.a3 rfl rfl HT_.out ?_; refine tk 3 (some 15) spec_SpacesOk.calls.a4 rfl rfl HT_.out HW_.out hHeld (by rintro w' ⟨s0, s1, s2, s3, s4, s5, s6, s7, s8, s9, s10, s11, s12, s13, s14⟩; go_simp; with_reducible rfl) ?_; refine one_ (i := 4) (N := some 16) spec_SpacesOk.calls.a5 rfl rfl (one_of HT_.out (by kernel_rfl)) (by decide) (fun K hK => ?_); refine goes_ Tryd.func53 (by kernel_rfl) rfl #[.agg #[.string ((riS26 l0 x3_1).f0), .string ((riS26 l0 x3_1).f1), .int .i64 ((riS26 l0 x3_1).f2), .bool ((riS26 l0 x3_1).f3), .int .i64 ((riS26 l0 x3_1).f4)]] (by rfl) rfl rfl (by (try simp only [List.map_toArray, List.map_cons, List.map_nil]); first | done | rfl | (simp only [List.length_drop, List.length_take]; rfl)) ?_; with_reducible refine (spec_l8Ok.calls k1 ((riS26 l0 x3_1).f0) ((riS26 l0 x3_1).f1) ((riS26 l0 x3_1).f2) ((riS26 l0 x3_1).f3) ((riS26 l0 x3_1).f4) true _ A4.out).mono ?_
                 rintro e w14 ⟨rfl, hb⟩; refine ⟨_, rfl, ?_⟩; have n0_ := As0.mk (bsp HB.out hb); clear HB; have HB := n0_; clear n0_
                 (try clear hb)
                 (try clear hb2)
                 (try clear hk)
                 (try clear hi)
                 refine hK.out _ _ ⟨((HB.out.cell (World.block_lt_of_cell? w _ hw123_0)).trans hw123_0), ((HB.out.cell (World.block_lt_of_cell? w _ hw123_1)).trans hw123_1), ((HB.out.cell (World.block_lt_of_cell? w _ hw123_2)).trans hw123_2), ((HB.out.cell (World.block_lt_of_cell? w _ hw123_3)).trans hw123_3), ((HB.out.cell (World.block_lt_of_cell? w _ hw123_4)).trans hw123_4), ((HB.out.cell (World.block_lt_of_cell? w _ hw125_0)).trans hw125_0), ((HB.out.cell (World.block_lt_of_cell? w _ hw125_1)).trans hw125_1), ((HB.out.cell (World.block_lt_of_cell? w _ hw125_2)).trans hw125_2), ((HB.out.cell (World.block_lt_of_cell? w _ hw125_3)).trans hw125_3), ((HB.out.cell (World.block_lt_of_cell? w _ hw125_4)).trans hw125_4), ((HB.out.cell (World.block_lt_of_cell? w _ hw126_0)).trans hw126_0), ((HB.out.cell (World.block_lt_of_cell? w _ hw126_1)).trans hw126_1), ((HB.out.cell (World.block_lt_of_cell? w _ hw126_2)).trans hw126_2), ((HB.out.cell (World.block_lt_of_cell? w _ hw126_3)).trans hw126_3), ((HB.out.cell (World.block_lt_of_cell? w _ hw126_4)).trans hw126_4)⟩ (fun hHeld => ?_); clear hK K; refine norm_ (a' := ?_) ?_ ?_; rotate_left
                 · show Act.put _ (some 16) _ = _
                   simp only [Act.put, sA, sZ, sS, i64_w, i32_w]; rfl
                 refine pu 5 (some 17) spec_SpacesOk.calls.a6 rfl rfl HT_.out ?_; refine pu 6 (some 18) spec_SpacesOk.calls.a7 rfl rfl HT_.out ?_; refine pu 7 (some 19) spec_SpacesOk.calls.a8 rfl rfl HT_.out ?_; refine pu 8 (some 20) spec_SpacesOk.calls.a9 rfl rfl HT_.out ?_; refine pu 9 (some 21) spec_SpacesOk.calls.a10 rfl rfl HT_.out ?_; refine pu 10 (some 22) spec_SpacesOk.calls.a11 rfl rfl HT_.out ?_; refine pu 11 (some 23) spec_SpacesOk.calls.a12 rfl rfl HT_.out ?_; refine pu 12 (some 24) spec_SpacesOk.calls.a13 rfl rfl HT_.out ?_; refine pu 13 (some 25) spec_SpacesOk.calls.a14 rfl rfl HT_.out ?_; refine pu 14 (some 26) spec_SpacesOk.calls.a15 rfl rfl HT_.out ?_; refine pu 16 (some 28) spec_SpacesOk.calls.a21 rfl rfl HT_.out ?_; refine pu 17 (some 29) spec_SpacesOk.calls.a22 rfl rfl HT_.out ?_; refine pu 18 (some 30) spec_SpacesOk.calls.a23 rfl rfl HT_.out ?_; refine pu 19 (some 31) spec_SpacesOk.calls.a24 rfl rfl HT_.out ?_; refine tk 15 (some 27) spec_SpacesOk.calls.a16 rfl rfl HT_.out HW_.out hHeld (by rintro w' ⟨s0, s1, s2, s3, s4, s5, s6, s7, s8, s9, s10, s11, s12, s13, s14⟩; go_simp; with_reducible rfl) ?_; refine tk 20 (some 32) spec_SpacesOk.calls.a17 rfl rfl HT_.out HW_.out hHeld (by rintro w' ⟨s0, s1, s2, s3, s4, s5, s6, s7, s8, s9, s10, s11, s12, s13, s14⟩; go_simp; with_reducible rfl) ?_; refine pu 21 (some 33) spec_SpacesOk.calls.a18 rfl rfl HT_.out ?_; refine pu 22 (some 34) spec_SpacesOk.calls.a19 rfl rfl HT_.out ?_; refine pu 23 (some 35) spec_SpacesOk.calls.a20 rfl rfl HT_.out ?_; refine done_ (done_of HT_.out (by kernel_rfl)) ?_
                 try go_wp2
                 go_ret
                 exact ⟨by first | rfl | (simp [errW_none, errW_some] <;> rfl) | (simp only [← hji7]; first | rfl | (simp [errW_none, errW_some] <;> rfl)) | (simp [*, errW_none, errW_some] <;> rfl), HB.out⟩
             · rw [if_neg c9] at H
               exact absurd H (by simp)
           · rw [if_neg c8] at H
             exact absurd H (by simp)
         · rw [if_neg c6] at H
           have c6b0 : decide (0 < x3_1) = false := decide_eq_false c6; clear c6; have H' := As0.mk H; clear H
           try go_wp2
           have n0_ := As0.mk (bd1 HB.out); clear HB; have HB := n0_; clear n0_; have p123 : 0 ≤ (x3_1 : Int) := odt; have q123 : x3_1 < (l0.length : Int) := odt; obtain ⟨ad123, e123, hx123_0, hx123_1, hx123_2, hx123_3, hx123_4⟩ := at_T42 HR0.out x3_1 p123 q123; have hw123_4 := hx123_4; have hw123_3 := hx123_3; have hw123_2 := hx123_2; have hw123_1 := hx123_1; have hw123_0 := hx123_0
           cases e123
           replace hx123_0 := bx HB.out rfl hx123_0; replace hx123_1 := bx HB.out rfl hx123_1; replace hx123_2 := bx HB.out rfl hx123_2; replace hx123_3 := bx HB.out rfl hx123_3; replace hx123_4 := bx HB.out rfl hx123_4; replace p123 := eq_true p123; replace q123 := eq_true q123; refine start_ (n := 24) (S := fun w' => w'.cell? (ad123.add ((x3_1).toNat * 5)) = some (.string ((riS26 l0 x3_1).f0)) ∧ w'.cell? ⟨(ad123.add ((x3_1).toNat * 5)).block, (ad123.add ((x3_1).toNat * 5)).off + 1, none⟩ = some (.string ((riS26 l0 x3_1).f1)) ∧ w'.cell? ⟨(ad123.add ((x3_1).toNat * 5)).block, (ad123.add ((x3_1).toNat * 5)).off + 2, none⟩ = some (.int .i64 ((riS26 l0 x3_1).f2)) ∧ w'.cell? ⟨(ad123.add ((x3_1).toNat * 5)).block, (ad123.add ((x3_1).toNat * 5)).off + 3, none⟩ = some (.bool ((riS26 l0 x3_1).f3)) ∧ w'.cell? ⟨(ad123.add ((x3_1).toNat * 5)).block, (ad123.add ((x3_1).toNat * 5)).off + 4, none⟩ = some (.int .i64 ((riS26 l0 x3_1).f4))) (ds := []) spec_SpacesOk.calls.a0 (by kernel_rfl) rfl rfl ⟨((HB.out.cell (World.block_lt_of_cell? w _ hw123_0)).trans hw123_0), ((HB.out.cell (World.block_lt_of_cell? w _ hw123_1)).trans hw123_1), ((HB.out.cell (World.block_lt_of_cell? w _ hw123_2)).trans hw123_2), ((HB.out.cell (World.block_lt_of_cell? w _ hw123_3)).trans hw123_3), ((HB.out.cell (World.block_lt_of_cell? w _ hw123_4)).trans hw123_4)⟩ (fun hHeld => ?_); refine with_tabW spec_SpacesOk.tab4 spec_SpacesOk.bits4 (fun HT_ HW_ => ?_); generalize wr.drew = w15 at HB hx123_0 hx123_1 hx123_2 hx123_3 hx123_4 hHeld ⊢
           refine pu 0 (some 12) spec_SpacesOk.calls.a1 rfl rfl HT_.out ?_; refine pu 1 (some 13) spec_SpacesOk.calls.a2 rfl rfl HT_.out ?_; refine pu 2 (some 14) spec_SpacesOk.calls.a3 rfl rfl HT_.out ?_; refine tk 3 (some 15) spec_SpacesOk.calls.a4 rfl rfl HT_.out HW_.out hHeld (by rintro w' ⟨s0, s1, s2, s3, s4⟩; go_simp; with_reducible rfl) ?_; refine one_ (i := 4) (N := some 16) spec_SpacesOk.calls.a5 rfl rfl (one_of HT_.out (by kernel_rfl)) (by decide) (fun K hK => ?_); refine goes_ Tryd.func53 (by kernel_rfl) rfl #[.agg #[.string ((riS26 l0 x3_1).f0), .string ((riS26 l0 x3_1).f1), .int .i64 ((riS26 l0 x3_1).f2), .bool ((riS26 l0 x3_1).f3), .int .i64 ((riS26 l0 x3_1).f4)]] (by rfl) rfl rfl (by (try simp only [List.map_toArray, List.map_cons, List.map_nil]); first | done | rfl | (simp only [List.length_drop, List.length_take]; rfl)) ?_; with_reducible refine (spec_l8Ok.calls k1 ((riS26 l0 x3_1).f0) ((riS26 l0 x3_1).f1) ((riS26 l0 x3_1).f2) ((riS26 l0 x3_1).f3) ((riS26 l0 x3_1).f4) true _ A4.out).mono ?_
           rintro e w16 ⟨rfl, hb⟩; refine ⟨_, rfl, ?_⟩; have n0_ := As0.mk (bsp HB.out hb); clear HB; have HB := n0_; clear n0_
           (try clear hb)
           (try clear hb2)
           (try clear hk)
           (try clear hi)
           refine hK.out _ _ ⟨((HB.out.cell (World.block_lt_of_cell? w _ hw123_0)).trans hw123_0), ((HB.out.cell (World.block_lt_of_cell? w _ hw123_1)).trans hw123_1), ((HB.out.cell (World.block_lt_of_cell? w _ hw123_2)).trans hw123_2), ((HB.out.cell (World.block_lt_of_cell? w _ hw123_3)).trans hw123_3), ((HB.out.cell (World.block_lt_of_cell? w _ hw123_4)).trans hw123_4)⟩ (fun hHeld => ?_); clear hK K; refine norm_ (a' := ?_) ?_ ?_; rotate_left
           · show Act.put _ (some 16) _ = _
             simp only [Act.put, sA, sZ, sS, i64_w, i32_w]; rfl
           refine pu 5 (some 17) spec_SpacesOk.calls.a6 rfl rfl HT_.out ?_; refine pu 6 (some 18) spec_SpacesOk.calls.a7 rfl rfl HT_.out ?_; refine pu 7 (some 19) spec_SpacesOk.calls.a8 rfl rfl HT_.out ?_; refine pu 8 (some 20) spec_SpacesOk.calls.a9 rfl rfl HT_.out ?_; refine pu 9 (some 21) spec_SpacesOk.calls.a10 rfl rfl HT_.out ?_; refine pn 10 (some 22) spec_SpacesOk.calls.a11 rfl rfl HT_.out ?_; refine pn 11 (some 23) spec_SpacesOk.calls.a12 rfl rfl HT_.out ?_; refine pn 12 (some 24) spec_SpacesOk.calls.a13 rfl rfl HT_.out ?_; refine pn 13 (some 25) spec_SpacesOk.calls.a14 rfl rfl HT_.out ?_; refine pn 14 (some 26) spec_SpacesOk.calls.a15 rfl rfl HT_.out ?_; refine pn 15 (some 27) spec_SpacesOk.calls.a25 rfl rfl HT_.out ?_; refine pn 16 (some 28) spec_SpacesOk.calls.a26 rfl rfl HT_.out ?_; refine pn 17 (some 29) spec_SpacesOk.calls.a27 rfl rfl HT_.out ?_; refine pn 18 (some 30) spec_SpacesOk.calls.a28 rfl rfl HT_.out ?_; refine pn 19 (some 31) spec_SpacesOk.calls.a16 rfl rfl HT_.out ?_; refine pn 20 (some 32) spec_SpacesOk.calls.a17 rfl rfl HT_.out ?_; refine pn 21 (some 33) spec_SpacesOk.calls.a18 rfl rfl HT_.out ?_; refine pu 22 (some 34) spec_SpacesOk.calls.a19 rfl rfl HT_.out ?_; refine pu 23 (some 35) spec_SpacesOk.calls.a20 rfl rfl HT_.out ?_; refine done_ (done_of HT_.out (by kernel_rfl)) ?_
           try go_wp2
           go_roundg k1
           case measure => have := HK1.out; omega
           case rel => exact ⟨(wrap64 (x3_1 + 1)), (by first | rfl | (simp; done) | (simp [*]; done)), H', ⟨by have := HK1.out; omega⟩, ⟨HB.out⟩⟩
       · replace c5 := Bool.eq_false_iff.mpr c5
         subst c5; have H1 : (some false) = some r := by rw [if_neg (show ¬ (false = true) by decide)] at H; exact H
         clear H; have H := H1; clear H1; obtain rfl := Option.some.inj H
         try go_wp2
         have n0_ := As0.mk (bd1 HB.out); clear HB; have HB := n0_; clear n0_; have p123 : 0 ≤ (x3_1 : Int) := odt; have q123 : x3_1 < (l0.length : Int) := odt; obtain ⟨ad123, e123, hx123_0, hx123_1, hx123_2, hx123_3, hx123_4⟩ := at_T42 HR0.out x3_1 p123 q123; have hw123_4 := hx123_4; have hw123_3 := hx123_3; have hw123_2 := hx123_2; have hw123_1 := hx123_1; have hw123_0 := hx123_0
         cases e123
         replace hx123_0 := bx HB.out rfl hx123_0; replace hx123_1 := bx HB.out rfl hx123_1; replace hx123_2 := bx HB.out rfl hx123_2; replace hx123_3 := bx HB.out rfl hx123_3; replace hx123_4 := bx HB.out rfl hx123_4; replace p123 := eq_true p123; replace q123 := eq_true q123; refine start_ (n := 24) (S := fun w' => w'.cell? (ad123.add ((x3_1).toNat * 5)) = some (.string ((riS26 l0 x3_1).f0)) ∧ w'.cell? ⟨(ad123.add ((x3_1).toNat * 5)).block, (ad123.add ((x3_1).toNat * 5)).off + 1, none⟩ = some (.string ((riS26 l0 x3_1).f1)) ∧ w'.cell? ⟨(ad123.add ((x3_1).toNat * 5)).block, (ad123.add ((x3_1).toNat * 5)).off + 2, none⟩ = some (.int .i64 ((riS26 l0 x3_1).f2)) ∧ w'.cell? ⟨(ad123.add ((x3_1).toNat * 5)).block, (ad123.add ((x3_1).toNat * 5)).off + 3, none⟩ = some (.bool ((riS26 l0 x3_1).f3)) ∧ w'.cell? ⟨(ad123.add ((x3_1).toNat * 5)).block, (ad123.add ((x3_1).toNat * 5)).off + 4, none⟩ = some (.int .i64 ((riS26 l0 x3_1).f4))) (ds := []) spec_SpacesOk.calls.a0 (by kernel_rfl) rfl rfl ⟨((HB.out.cell (World.block_lt_of_cell? w _ hw123_0)).trans hw123_0), ((HB.out.cell (World.block_lt_of_cell? w _ hw123_1)).trans hw123_1), ((HB.out.cell (World.block_lt_of_cell? w _ hw123_2)).trans hw123_2), ((HB.out.cell (World.block_lt_of_cell? w _ hw123_3)).trans hw123_3), ((HB.out.cell (World.block_lt_of_cell? w _ hw123_4)).trans hw123_4)⟩ (fun hHeld => ?_); refine with_tabW spec_SpacesOk.tab4 spec_SpacesOk.bits4 (fun HT_ HW_ => ?_); generalize wr.drew = w17 at HB hx123_0 hx123_1 hx123_2 hx123_3 hx123_4 hHeld ⊢
         refine pu 0 (some 12) spec_SpacesOk.calls.a1 rfl rfl HT_.out ?_; refine pu 1 (some 13) spec_SpacesOk.calls.a2 rfl rfl HT_.out ?_; refine pu 2 (some 14) spec_SpacesOk.calls.a3 rfl rfl HT_.out ?_; refine tk 3 (some 15) spec_SpacesOk.calls.a4 rfl rfl HT_.out HW_.out hHeld (by rintro w' ⟨s0, s1, s2, s3, s4⟩; go_simp; with_reducible rfl) ?_; refine one_ (i := 4) (N := some 16) spec_SpacesOk.calls.a5 rfl rfl (one_of HT_.out (by kernel_rfl)) (by decide) (fun K hK => ?_); refine goes_ Tryd.func53 (by kernel_rfl) rfl #[.agg #[.string ((riS26 l0 x3_1).f0), .string ((riS26 l0 x3_1).f1), .int .i64 ((riS26 l0 x3_1).f2), .bool ((riS26 l0 x3_1).f3), .int .i64 ((riS26 l0 x3_1).f4)]] (by rfl) rfl rfl (by (try simp only [List.map_toArray, List.map_cons, List.map_nil]); first | done | rfl | (simp only [List.length_drop, List.length_take]; rfl)) ?_; with_reducible refine (spec_l8Ok.calls k1 ((riS26 l0 x3_1).f0) ((riS26 l0 x3_1).f1) ((riS26 l0 x3_1).f2) ((riS26 l0 x3_1).f3) ((riS26 l0 x3_1).f4) false _ A4.out).mono ?_
         rintro e w18 ⟨rfl, hb⟩; refine ⟨_, rfl, ?_⟩; have n0_ := As0.mk (bsp HB.out hb); clear HB; have HB := n0_; clear n0_
         (try clear hb)
         (try clear hb2)
         (try clear hk)
         (try clear hi)
         refine hK.out _ _ ⟨((HB.out.cell (World.block_lt_of_cell? w _ hw123_0)).trans hw123_0), ((HB.out.cell (World.block_lt_of_cell? w _ hw123_1)).trans hw123_1), ((HB.out.cell (World.block_lt_of_cell? w _ hw123_2)).trans hw123_2), ((HB.out.cell (World.block_lt_of_cell? w _ hw123_3)).trans hw123_3), ((HB.out.cell (World.block_lt_of_cell? w _ hw123_4)).trans hw123_4)⟩ (fun hHeld => ?_); clear hK K; refine norm_ (a' := ?_) ?_ ?_; rotate_left
         · show Act.put _ (some 16) _ = _
           simp only [Act.put, sA, sZ, sS, i64_w, i32_w]; rfl
         refine pu 5 (some 17) spec_SpacesOk.calls.a6 rfl rfl HT_.out ?_; refine pu 6 (some 18) spec_SpacesOk.calls.a7 rfl rfl HT_.out ?_; refine pn 7 (some 19) spec_SpacesOk.calls.a8 rfl rfl HT_.out ?_; refine pn 8 (some 20) spec_SpacesOk.calls.a9 rfl rfl HT_.out ?_; refine pn 9 (some 21) spec_SpacesOk.calls.a10 rfl rfl HT_.out ?_; refine pn 10 (some 22) spec_SpacesOk.calls.a11 rfl rfl HT_.out ?_; refine pn 11 (some 23) spec_SpacesOk.calls.a12 rfl rfl HT_.out ?_; refine pn 12 (some 24) spec_SpacesOk.calls.a13 rfl rfl HT_.out ?_; refine pn 13 (some 25) spec_SpacesOk.calls.a14 rfl rfl HT_.out ?_; refine pn 14 (some 26) spec_SpacesOk.calls.a15 rfl rfl HT_.out ?_; refine pn 15 (some 27) spec_SpacesOk.calls.a25 rfl rfl HT_.out ?_; refine pn 16 (some 28) spec_SpacesOk.calls.a26 rfl rfl HT_.out ?_; refine pn 17 (some 29) spec_SpacesOk.calls.a27 rfl rfl HT_.out ?_; refine pn 18 (some 30) spec_SpacesOk.calls.a28 rfl rfl HT_.out ?_; refine pn 19 (some 31) spec_SpacesOk.calls.a16 rfl rfl HT_.out ?_; refine pn 20 (some 32) spec_SpacesOk.calls.a17 rfl rfl HT_.out ?_; refine pn 21 (some 33) spec_SpacesOk.calls.a18 rfl rfl HT_.out ?_; refine pn 22 (some 34) spec_SpacesOk.calls.a19 rfl rfl HT_.out ?_; refine pu 23 (some 35) spec_SpacesOk.calls.a20 rfl rfl HT_.out ?_; refine done_ (done_of HT_.out (by kernel_rfl)) ?_
         try go_wp2
         go_ret
         exact ⟨eW, HB.out⟩
     · rw [if_neg c3] at H
       exact absurd H (by simp)
   · rw [if_neg c2] at H
     have c2b0 : decide (x3_1 < (l0.length : Int)) = false := decide_eq_false c2; clear c2; have H' := As0.mk H; clear H
     go_wp2
     go_loopg [4] k1 (fun kq v4 w' => ∃ (x4_2 : Int), v4 = .int .i64 x4_2 ∧ As0 (spec_SpacesOk.l1 kq l0 x4_2 = some r) ∧ As0 (kq ≤ k1) ∧ As0 (Below w.heap.size w w'))
     case atStart => exact ⟨(0), (by first | rfl | (simp; done) | (simp [*]; done)), H', ⟨Nat.le_refl _⟩, ⟨HB.out⟩⟩
     case round =>
      clear H'
      try clear p1
      try clear q1
      try clear hx1
      try clear c2
      try clear c2b0
      try clear p2
      try clear c3
      try clear c5
      try clear c6
      try clear c6b0
      try clear p6
      try clear c8
      try clear c9
      try clear p12
      try clear q12
      try clear hx12
      try clear hx123_0
      try clear hx123_1
      try clear hx123_2
      try clear hx123_3
      try clear hx123_4
      try clear hx125_0
      try clear hx125_1
      try clear hx125_2
      try clear hx125_3
      try clear hx125_4
      try clear hx126_0
      try clear hx126_1
      try clear hx126_2
      try clear hx126_3
      try clear hx126_4
      try clear p123
      try clear p126
      try clear q123
      try clear q126
      obtain ⟨x4_2, rfl, HA, HK2, HB⟩ := hrel
      cases gk with
      | zero => exact absurd HA.out (by simp [spec_SpacesOk.l1])
      | succ k2 =>
       have H := HA.out; clear HA; simp only [spec_SpacesOk.l1] at H; by_cases c19 : x4_2 < (l0.length : Int)
       · rw [if_pos c19] at H
         have c19b0 : decide (x4_2 < (l0.length : Int)) = true := decide_eq_true c19; clear c19; by_cases c20 : 0 ≤ x4_2
         · rw [if_pos c20] at H
           have c20b0 : decide (0 ≤ x4_2) = true := decide_eq_true c20; clear c20; replace H := Option.bind_eq_some_iff.mp H; obtain ⟨t128, A210, H⟩ := H; replace H : (if (t128.length : Int) > (l0.length : Int) then (some false) else (if 0 ≤ (wrap64 ((t128.length : Int) - 1)) then (if (wrap64 ((t128.length : Int) - 1)) < (t128.length : Int) then (if (rdOf ByteArray.empty t128 (wrap64 ((t128.length : Int) - 1))).toList = ([97, 108, 108] : List UInt8) then (spec_SpacesOk.l1 k2 l0 (wrap64 (x4_2 + 1))) else (some false)) else (none)) else (none))) = some r := H; have A21 := As0.mk A210; clear A210; by_cases c22 : (t128.length : Int) > (l0.length : Int)
           · rw [if_pos c22] at H
             have c22b0 : decide ((l0.length : Int) < (t128.length : Int)) = true := decide_eq_true c22; have c22b1 : decide (l0.length < t128.length) = true := decide_eq_true (Int.ofNat_lt.mp c22); clear c22; obtain rfl := Option.some.inj H; have p127 : 0 ≤ (x4_2 : Int) := odt; have q127 : x4_2 < (l0.length : Int) := odt; obtain ⟨ad127, e127, hx127_0, hx127_1, hx127_2, hx127_3, hx127_4⟩ := at_T42 HR0.out x4_2 p127 q127
             cases e127
             replace hx127_0 := bx HB.out rfl hx127_0; replace hx127_1 := bx HB.out rfl hx127_1; replace hx127_2 := bx HB.out rfl hx127_2; replace hx127_3 := bx HB.out rfl hx127_3; replace hx127_4 := bx HB.out rfl hx127_4; replace p127 := eq_true p127; replace q127 := eq_true q127
             go_wp2_with (first | ((with_reducible refine gca (f := 54) rfl ?_); refine goesL_ (some 48) rfl rfl Tryd.func54 (by kernel_rfl) rfl #[.slice (some ad127) l0.length c0, .string ((riS26 l0 x4_2).f0)] rfl (by (try simp only [List.map_toArray, List.map_cons, List.map_nil]); first | done | rfl | (simp only [List.length_drop, List.length_take]; rfl)) ?_; (with_reducible refine (spec_l8Up.calls k2 _ _ l0 ((riS26 l0 x4_2).f0) t128 _ ?side1 ?side2 A21.out).mono ?_); (case side1 => repeat (first | exact (Kd.C_below HR0.out HB.out) | (with_reducible first | refine Kd.C_alloc ?_ _ | refine Kd.C_drewN ?_ _ | refine Kd.C_drew ?_))); (case side2 => exact HC0.out); rintro e w23 ⟨v129, rfl, ho0, hb⟩; refine ⟨_, rfl, ?_⟩; have n0_ := As0.mk (Kd.R_lower ho0 (bsz HB.out)); have n1_ := As0.mk (bsp HB.out hb); clear HB; have HO130 := n0_; have HB := n1_; clear n0_ n1_; (try clear hb); (try clear hb2); (try clear hk); (try clear hi); (try clear ho0); obtain ⟨Ao24, co24, eo24⟩ := Kd.R_slice HO130.out; subst eo24))
             go_ret
             exact ⟨eW, HB.out⟩
           · rw [if_neg c22] at H
             have c22b0 : decide ((l0.length : Int) < (t128.length : Int)) = false := decide_eq_false c22; have c22b1 : decide (l0.length < t128.length) = false := decide_eq_false (fun h => c22 (Int.ofNat_lt.mpr h)); clear c22; obtain ⟨ji25, hji25⟩ : ∃ j_ : Int, (wrap64 ((t128.length : Int) - 1)) = j_ := ⟨_, rfl⟩; replace H : (if 0 ≤ (ji25) then (if (ji25) < (t128.length : Int) then (if (rdOf ByteArray.empty t128 (ji25)).toList = ([97, 108, 108] : List UInt8) then (spec_SpacesOk.l1 k2 l0 (wrap64 (x4_2 + 1))) else (some false)) else (none)) else (none)) = some r := by first | (rw [hji25] at H; exact H) | (simp only [hji25] at H ⊢; exact H)
             (try rw [hji25] at A21)
             have hji25w : (IntKind.i64.wrap ((t128.length : Int) - 1)) = ji25 := (i64_w _).trans hji25; by_cases c26 : 0 ≤ (ji25)
             · rw [if_pos c26] at H
               have c26b0 : decide (0 ≤ (ji25)) = true := decide_eq_true c26; clear c26; by_cases c27 : (ji25) < (t128.length : Int)
               · rw [if_pos c27] at H
                 have c27b0 : decide ((ji25) < (t128.length : Int)) = true := decide_eq_true c27; clear c27; by_cases c28 : (rdOf ByteArray.empty t128 (ji25)).toList = ([97, 108, 108] : List UInt8)
                 · rw [if_pos c28] at H
                   have c28b0 : ((rdOf ByteArray.empty t128 (ji25)).toList == ([97, 108, 108] : List UInt8)) = true := beq_iff_eq.mpr c28; have c28b1 : ((rdOf ByteArray.empty t128 (ji25)).toList != ([97, 108, 108] : List UInt8)) = false := bne_eq_false_iff_eq.mpr c28; clear c28; have H' := As0.mk H; clear H; have p127 : 0 ≤ (x4_2 : Int) := odt; have q127 : x4_2 < (l0.length : Int) := odt; obtain ⟨ad127, e127, hx127_0, hx127_1, hx127_2, hx127_3, hx127_4⟩ := at_T42 HR0.out x4_2 p127 q127
                   cases e127
                   replace hx127_0 := bx HB.out rfl hx127_0; replace hx127_1 := bx HB.out rfl hx127_1; replace hx127_2 := bx HB.out rfl hx127_2; replace hx127_3 := bx HB.out rfl hx127_3; replace hx127_4 := bx HB.out rfl hx127_4; replace p127 := eq_true p127; replace q127 := eq_true q127
                   go_wp2_with (first | ((with_reducible refine gca (f := 54) rfl ?_); refine goesL_ (some 48) rfl rfl Tryd.func54 (by kernel_rfl) rfl #[.slice (some ad127) l0.length c0, .string ((riS26 l0 x4_2).f0)] rfl (by (try simp only [List.map_toArray, List.map_cons, List.map_nil]); first | done | rfl | (simp only [List.length_drop, List.length_take]; rfl)) ?_; (with_reducible refine (spec_l8Up.calls k2 _ _ l0 ((riS26 l0 x4_2).f0) t128 _ ?side1 ?side2 A21.out).mono ?_); (case side1 => repeat (first | exact (Kd.C_below HR0.out HB.out) | (with_reducible first | refine Kd.C_alloc ?_ _ | refine Kd.C_drewN ?_ _ | refine Kd.C_drew ?_))); (case side2 => exact HC0.out); rintro e w29 ⟨v129, rfl, ho0, hb⟩; refine ⟨_, rfl, ?_⟩; have n0_ := As0.mk (Kd.R_lower ho0 (bsz HB.out)); have n1_ := As0.mk (bsp HB.out hb); clear HB; have HO130 := n0_; have HB := n1_; clear n0_ n1_; (try clear hb); (try clear hb2); (try clear hk); (try clear hi); (try clear ho0); obtain ⟨Ao30, co30, eo30⟩ := Kd.R_slice HO130.out; subst eo30; have p131 : 0 ≤ ((ji25) : Int) := odt; have q131 : (ji25) < (t128.length : Int) := odt; obtain ⟨ad131, e131, hx131_0⟩ := Kd.at_string (Kd.R_reads' HO130.out).2.2 (ji25) p131 q131; cases e131; replace p131 := eq_true p131; replace q131 := eq_true q131))
                   go_roundg k2
                   case measure => have := HK1.out; have := HK2.out; omega
                   case rel => exact ⟨(wrap64 (x4_2 + 1)), (by first | rfl | (simp; done) | (simp [*]; done)), H', ⟨by have := HK1.out; have := HK2.out; omega⟩, ⟨HB.out⟩⟩
                 · rw [if_neg c28] at H
                   have c28b0 : ((rdOf ByteArray.empty t128 (ji25)).toList == ([97, 108, 108] : List UInt8)) = false := beq_eq_false_iff_ne.mpr c28; have c28b1 : ((rdOf ByteArray.empty t128 (ji25)).toList != ([97, 108, 108] : List UInt8)) = true := bne_iff_ne.mpr c28; obtain rfl := Option.some.inj H; have p127 : 0 ≤ (x4_2 : Int) := odt; have q127 : x4_2 < (l0.length : Int) := odt; obtain ⟨ad127, e127, hx127_0, hx127_1, hx127_2, hx127_3, hx127_4⟩ := at_T42 HR0.out x4_2 p127 q127
                   cases e127
                   replace hx127_0 := bx HB.out rfl hx127_0; replace hx127_1 := bx HB.out rfl hx127_1; replace hx127_2 := bx HB.out rfl hx127_2; replace hx127_3 := bx HB.out rfl hx127_3; replace hx127_4 := bx HB.out rfl hx127_4; replace p127 := eq_true p127; replace q127 := eq_true q127
                   go_wp2_with (first | ((with_reducible refine gca (f := 54) rfl ?_); refine goesL_ (some 48) rfl rfl Tryd.func54 (by kernel_rfl) rfl #[.slice (some ad127) l0.length c0, .string ((riS26 l0 x4_2).f0)] rfl (by (try simp only [List.map_toArray, List.map_cons, List.map_nil]); first | done | rfl | (simp only [List.length_drop, List.length_take]; rfl)) ?_; (with_reducible refine (spec_l8Up.calls k2 _ _ l0 ((riS26 l0 x4_2).f0) t128 _ ?side1 ?side2 A21.out).mono ?_); (case side1 => repeat (first | exact (Kd.C_below HR0.out HB.out) | (with_reducible first | refine Kd.C_alloc ?_ _ | refine Kd.C_drewN ?_ _ | refine Kd.C_drew ?_))); (case side2 => exact HC0.out); rintro e w31 ⟨v129, rfl, ho0, hb⟩; refine ⟨_, rfl, ?_⟩; have n0_ := As0.mk (Kd.R_lower ho0 (bsz HB.out)); have n1_ := As0.mk (bsp HB.out hb); clear HB; have HO130 := n0_; have HB := n1_; clear n0_ n1_; (try clear hb); (try clear hb2); (try clear hk); (try clear hi); (try clear ho0); obtain ⟨Ao32, co32, eo32⟩ := Kd.R_slice HO130.out; subst eo32; have p131 : 0 ≤ ((ji25) : Int) := odt; have q131 : (ji25) < (t128.length : Int) := odt; obtain ⟨ad131, e131, hx131_0⟩ := Kd.at_string (Kd.R_reads' HO130.out).2.2 (ji25) p131 q131; cases e131; replace p131 := eq_true p131; replace q131 := eq_true q131))
                   go_ret
                   exact ⟨by first | rfl | (simp [errW_none, errW_some] <;> rfl) | (simp only [← hji25]; first | rfl | (simp [errW_none, errW_some] <;> rfl)) | (simp [*, errW_none, errW_some] <;> rfl), HB.out⟩
               · rw [if_neg c27] at H
                 exact absurd H (by simp)
             · rw [if_neg c26] at H
               exact absurd H (by simp)
         · rw [if_neg c20] at H
           exact absurd H (by simp)
       · rw [if_neg c19] at H
         have c19b0 : decide (x4_2 < (l0.length : Int)) = false := decide_eq_false c19; clear c19; replace H := Option.bind_eq_some_iff.mp H; obtain ⟨t132, A330, H⟩ := H; replace H : (if t132 = true then ((spec_l8At.f k2 l0 (⟨#[97, 108, 108]⟩ : ByteArray)).bind fun t133 => (some (decide (t133 ≥ 0)))) else (some false)) = some r := H; have A33 := As0.mk A330; clear A330; by_cases c34 : t132 = true
         · subst c34
           have H1 : ((spec_l8At.f k2 l0 (⟨#[97, 108, 108]⟩ : ByteArray)).bind fun t133 => (some (decide (t133 ≥ 0)))) = some r := by rw [if_pos rfl] at H; exact H
           clear H; have H := H1; clear H1; replace H := Option.bind_eq_some_iff.mp H; obtain ⟨t133, A350, H⟩ := H; replace H : (some (decide (t133 ≥ 0))) = some r := H; have A35 := As0.mk A350; clear A350; obtain rfl := Option.some.inj H
           go_wp2_with (first | ((with_reducible refine gca (f := 55) rfl ?_); refine goesL_ (some 65) rfl rfl Tryd.func55 (by kernel_rfl) rfl #[.int .i64 (l0.length : Int), .int .i64 1, .int .i64 7] rfl (by (try simp only [List.map_toArray, List.map_cons, List.map_nil]); first | done | rfl | (simp only [List.length_drop, List.length_take]; rfl)) ?_; (with_reducible refine (spec_l1In.calls (l0.length : Int) 1 7 true _ A33.out).mono ?_); rintro e w' ⟨rfl, ⟨nd, rfl⟩⟩; refine ⟨_, rfl, ?_⟩) | (go_at_call 56; (with_reducible refine (spec_l8At.calls k2 _ _ l0 (⟨#[97, 108, 108]⟩ : ByteArray) t133 _ ?side1 ?side2 A35.out).mono ?_); (case side1 => repeat (first | exact (Kd.C_below HR0.out HB.out) | (with_reducible first | refine Kd.C_alloc ?_ _ | refine Kd.C_drewN ?_ _ | refine Kd.C_drew ?_))); (case side2 => exact HC0.out); rintro e w' ⟨rfl, ⟨nd, rfl⟩⟩))
           go_ret
           exact ⟨eW, by repeat (first | (with_reducible first | exact HB.out | apply bal | apply pbN | apply bd1) | exact HB.out)⟩
         · replace c34 := Bool.eq_false_iff.mpr c34
           subst c34; have H1 : (some false) = some r := by rw [if_neg (show ¬ (false = true) by decide)] at H; exact H
           clear H; have H := H1; clear H1; obtain rfl := Option.some.inj H
           go_wp2_with (first | ((with_reducible refine gca (f := 55) rfl ?_); refine goesL_ (some 65) rfl rfl Tryd.func55 (by kernel_rfl) rfl #[.int .i64 (l0.length : Int), .int .i64 1, .int .i64 7] rfl (by (try simp only [List.map_toArray, List.map_cons, List.map_nil]); first | done | rfl | (simp only [List.length_drop, List.length_take]; rfl)) ?_; (with_reducible refine (spec_l1In.calls (l0.length : Int) 1 7 false _ A33.out).mono ?_); rintro e w' ⟨rfl, ⟨nd, rfl⟩⟩; refine ⟨_, rfl, ?_⟩))
           go_ret
           exact ⟨eW, by repeat (first | (with_reducible first | exact HB.out | apply bal | apply pbN | apply bd1) | exact HB.out)⟩
/-- Is it the space of this name? -/
def fsp.p (nm : ByteArray) (x : SiS23) : Bool := (x.f0.toList == nm.toList)
set_option maxHeartbeats 4000000 in
theorem fsp.closure (x : SiS23) (nm : ByteArray) (gn : Nat) (b : Bool) (w : World) (hX : w.heap[gn]? = some (.cells #[.string nm] 9 (0, 0))) (hb : fsp.p nm x = b) :
 Calls Tryd.prog 99 #[.agg #[.string x.f0, .string x.f1, .int .i64 x.f2, .bool x.f3, .int .i64 x.f4], .pointer (some ⟨gn, 0, none⟩)] w fun r w' => r = .returned (.bool b) ∧ Below w.heap.size w w' := by
 have hu := Tryd.underlying42; have HX := As0.mk hX; have HB := As0.mk (Below.refl w.heap.size w); clear hX; unfold fsp.p at hb; subst hb
 go_enter Tryd.func99, Tryd.ntmps99
 go_wp2_with ((with_reducible refine gate_dst (N := 2) rfl ?_); refine box_event ?hg (N := 2) ?hd (cs := #[.string x.f0, .string x.f1, .int .i64 x.f2, .bool x.f3, .int .i64 x.f4]) (t := 42) ?hr ?_; (case hd => rfl); (case hg => rfl); (case hr => first | (go_simp; done) | (go_simp; rfl)); intro gb hg w8 hbox hb; have n0_ := As0.mk (bsp HB.out hb); have n1_ := As0.mk hbox; have n2_ := As0.mk (blk_below HX.out hb); clear HB HX; have HB := n0_; have BK := n1_; have HX := n2_; clear n0_ n1_ n2_; clear hb hbox hg; have q0 : w8.cell? ⟨gb, 0, none⟩ = some (.string x.f0) := (bkC BK.out 0).trans rfl; have q1 : w8.cell? ⟨gb, 1, none⟩ = some (.string x.f1) := (bkC BK.out 1).trans rfl; have q2 : w8.cell? ⟨gb, 2, none⟩ = some (.int .i64 x.f2) := (bkC BK.out 2).trans rfl; have q3 : w8.cell? ⟨gb, 3, none⟩ = some (.bool x.f3) := (bkC BK.out 3).trans rfl; have q4 : w8.cell? ⟨gb, 4, none⟩ = some (.int .i64 x.f4) := (bkC BK.out 4).trans rfl; have u0 : w8.cell? ⟨gn, 0, none⟩ = some (.string nm) := (bkC HX.out 0).trans rfl)
 go_ret
 exact ⟨by first | rfl | (simp; done), by repeat (first | (with_reducible first | exact HB.out | apply pbN | apply bd1) | exact HB.out)⟩
/-- The place of the first element that answers yes, from place i on; -1 for none. -/
def fsp.idx {α : Type} (p : α → Bool) : List α → Int → Int
 | [], _ => -1
 | x :: r, i => if p x = true then i else fsp.idx p r (i + 1)
set_option maxHeartbeats 4000000 in
set_option maxRecDepth 100000 in
theorem fsp.index (A : Option Addr) (c : Nat) (l : List (SiS23)) (nm : ByteArray) (gn : Nat) (r : Int) (w : World) (hr : Kd.C k42 w A l.length l) (hX : w.heap[gn]? = some (.cells #[.string nm] 9 (0, 0))) (hR : fsp.idx (fsp.p nm) l 0 = r) :
 Calls Tryd.prog 98 #[.slice A l.length c, .func (.func 99) #[] #[.pointer (some ⟨gn, 0, none⟩)]] w fun e w' => e = .returned (.int .i64 r) ∧ Below w.heap.size w w' := by
 have hu := Tryd.underlying42; have HR := As0.mk hr; have HX := As0.mk hX; clear hX; have HB := As0.mk (Below.refl w.heap.size w); have HQ := As0.mk hR; clear hr hR
 go_enter Tryd.func98, Tryd.ntmps98
 go_wp2
 go_loopg [8] l.length (fun m v w' => ∃ i : Nat, v = .int .i64 (i : Int) ∧ As0 (i + m = l.length) ∧ As0 (fsp.idx (fsp.p nm) (l.drop i) (i : Int) = r) ∧ As0 (Below w.heap.size w w'))
 case atStart => exact ⟨0, (by first | rfl | (simp; done)), ⟨by simp⟩, ⟨HQ.out⟩, HB⟩
 case round =>
  clear HB HQ; obtain ⟨i, rfl, HM, HI, HB⟩ := hrel; have hbound : l.length ≤ 9223372036854775807 := HR.out.2.1
  cases gk with
  | zero =>
   have hm := HM.out; have t0 : decide ((i : Int) < (l.length : Int)) = false := decide_eq_false (by omega); have t1 : decide (i < l.length) = false := decide_eq_false (by omega); have HE := As0.mk (show (-1 : Int) = r by have h := HI.out; rw [List.drop_of_length_le (by omega)] at h; exact h); clear hm HI HM hbound
   go_wp2
   go_ret
   exact ⟨by rw [← HE.out]; first | done | rfl | (simp; done), HB.out⟩
  | succ k2 =>
   have hm := HM.out; have hi : i < l.length := by omega
   have t0 : decide ((i : Int) < (l.length : Int)) = true := decide_eq_true (by omega); have t1 : decide (i < l.length) = true := decide_eq_true hi; have hx : riS26 l (i : Int) = l[i] := by simp [riS26, List.getElem?_eq_getElem hi]
   have hd : l.drop i = riS26 l (i : Int) :: l.drop (i + 1) := by rw [hx]; exact List.drop_eq_getElem_cons hi
   have hI := HI.out; rw [hd, fsp.idx] at hI; obtain ⟨ad, e0, hx0, hx1, hx2, hx3, hx4⟩ := at_T42 HR.out (i : Int) (by omega) (by omega)
   cases e0
   replace hx0 := bx HB.out rfl hx0; replace hx1 := bx HB.out rfl hx1; replace hx2 := bx HB.out rfl hx2; replace hx3 := bx HB.out rfl hx3; replace hx4 := bx HB.out rfl hx4; simp only [Int.toNat_natCast] at hx0 hx1 hx2 hx3 hx4; have p0 : (0 ≤ (i : Int)) = True := eq_true (by omega); have q1 : (i < l.length) = True := eq_true hi; have q2 : ((i : Int) < (l.length : Int)) = True := eq_true (by omega); have w0_ : wrap64 ((i : Int) + 1) = ((i + 1 : Nat) : Int) := by unfold wrap64; omega
   have i0_ : ((i : Int)).toNat = i := rfl; clear hx hd HI
   cases hp : (fsp.p nm) (riS26 l (i : Int)) with
   | true =>
    have HP := As0.mk hp; have HE := As0.mk (show (i : Int) = r by rw [hp] at hI; simpa using hI); clear hp hI hm hi HM w0_
    go_wp2_with (go_at_call 99; (with_reducible refine (fsp.closure _ nm gn _ _ (blk_below HX.out HB.out) HP.out).mono ?_); rintro e w' ⟨rfl, hb⟩; have n0_ := As0.mk (bsp HB.out hb); clear HB hb; have HB := n0_; clear n0_)
    go_ret
    exact ⟨by rw [← HE.out]; first | done | rfl | (simp; done), by repeat (first | (with_reducible first | exact HB.out | apply pbN | apply bd1) | exact HB.out)⟩
   | false =>
    have HP := As0.mk hp; have HE := As0.mk (show fsp.idx (fsp.p nm) (l.drop (i + 1)) ((i : Int) + 1) = r by rw [hp] at hI; simpa using hI); have HM2 := As0.mk (show i + 1 + k2 = l.length by omega); have W0 := As0.mk w0_; clear hp hI hm hi HM w0_
    go_wp2_with (go_at_call 99; (with_reducible refine (fsp.closure _ nm gn _ _ (blk_below HX.out HB.out) HP.out).mono ?_); rintro e w' ⟨rfl, hb⟩; have n0_ := As0.mk (bsp HB.out hb); clear HB hb; have HB := n0_; clear n0_)
    go_roundg k2
    case measure => omega
    case rel => exact ⟨i + 1, (by first | rw [W0.out] | (simp; done)), HM2, ⟨HE.out⟩, ⟨by repeat (first | (with_reducible first | exact HB.out | apply pbN | apply bd1) | exact HB.out)⟩⟩
/-- slices.IndexFunc at findSpace's closure: where the space of this name is. -/
def impl_Space.f (l : List (SiS23)) (nm : ByteArray) : Option (Int) := some (fsp.idx (fsp.p nm) l 0)
theorem impl_Space.calls (A : Option Addr) (c : Nat) (l : List (SiS23)) (nm : ByteArray) (gn : Nat) (r : Int) (w : World) (hr : Kd.C k42 w A l.length l) (_ : l.length ≤ c)
 (hX : w.heap[gn]? = some (.cells #[.string nm] 9 (0, 0))) (h : impl_Space.f l nm = some r) :
 Calls Tryd.prog 98 #[.slice A l.length c, .func (.func 99) #[] #[.pointer (some ⟨gn, 0, none⟩)]] w fun e w' => e = .returned (.int .i64 r) ∧ Below w.heap.size w w' :=
 fsp.index A c l nm gn r w hr hX (Option.some.inj h)
def impl_findSpace.f (l0 : List (SiS23)) (a1 : ByteArray) : Option (Int) := (impl_Space.f l0 a1).bind fun t148 => (some t148)
set_option maxHeartbeats 8000000 in
set_option maxRecDepth 100000 in
theorem impl_findSpace.calls (A0 : Option Addr) (c0 : Nat) (l0 : List (SiS23)) (a1 : ByteArray) (r : Int) (w : World) (hr0 : Kd.C k42 w A0 l0.length l0) (hc0 : l0.length ≤ c0) (h : impl_findSpace.f l0 a1 = some r) :
 Calls Tryd.prog 73 #[.slice A0 l0.length c0, .string a1] w fun e w' => e = .returned (.int .i64 r) ∧ Below w.heap.size w w' := by
 have HR0 := As0.mk hr0; have HC0 := As0.mk hc0; clear hr0 hc0; have HB := As0.mk (Below.refl w.heap.size w); have H : ((impl_Space.f l0 a1).bind fun t148 => (some t148)) = some r := h; clear h; replace H := Option.bind_eq_some_iff.mp H; obtain ⟨t148, A30, H⟩ := H; replace H : (some t148) = some r := H; have A3 := As0.mk A30; clear A30; obtain rfl := Option.some.inj H
 go_enter Tryd.func73, Tryd.ntmps73
 go_wp2_with (first | ((with_reducible refine gate_dst (N := 3) rfl ?_); refine box_event ?hg (N := 3) ?hd (cs := #[.string a1]) (t := 9) ?hr ?_; (case hd => rfl); (case hg => rfl); (case hr => first | (go_simp; done) | (go_simp; rfl)); intro gb147 hg w4 hbox hb; have n0_ := As0.mk (bsp (by repeat (first | (with_reducible first | exact HB.out | apply bal | apply pbN | apply bd1) | exact HB.out)) hb); have n1_ := As0.mk (hbox); have n2_ := As0.mk ((by rw [hg]; exact (bsz (by repeat (first | (with_reducible first | exact HB.out | apply bal | apply pbN | apply bd1) | exact HB.out))) : w.heap.size ≤ gb147)); have n3_ := As0.mk ((by rw [hg]; exact (bsz (by repeat (first | (with_reducible first | exact HB.out | apply bal | apply pbN | apply bd1) | exact HB.out))) : w.heap.size ≤ gb147)); clear HB; have HB := n0_; have BK147 := n1_; have GW147 := n2_; have GE147 := n3_; clear n0_ n1_ n2_ n3_; clear hb hbox hg) | ((with_reducible refine gca (f := 98) rfl ?_); refine goesL_ (some 7) rfl rfl Tryd.func98 (by kernel_rfl) rfl #[.slice A0 l0.length c0, .func (.func 99) #[] #[.pointer (some ⟨gb147, 0, none⟩)]] rfl (by (try simp only [List.map_toArray, List.map_cons, List.map_nil]); first | done | rfl | (simp only [List.length_drop, List.length_take]; rfl)) ?_; (with_reducible refine (impl_Space.calls _ _ l0 a1 gb147 t148 _ ?side1 ?side2 ?side3 A3.out).mono ?_); (case side1 => repeat (first | exact (Kd.C_below HR0.out HB.out) | (with_reducible first | refine Kd.C_alloc ?_ _ | refine Kd.C_drewN ?_ _ | refine Kd.C_drew ?_))); (case side2 => exact HC0.out); (case side3 => exact (by (with_reducible repeat (first | refine bkN ?_ _ | refine bkD ?_ | refine bkA ?_ _)); exact BK147.out)); rintro e w5 ⟨rfl, hb⟩; refine ⟨_, rfl, ?_⟩; have n0_ := As0.mk (blk_below (g := gb147) (o := .cells #[.string a1] 9 (0, 0)) (by (with_reducible repeat (first | refine bkN ?_ _ | refine bkD ?_ | refine bkA ?_ _)); exact BK147.out) hb); have n1_ := As0.mk (bsp (by repeat (first | (with_reducible first | exact HB.out | apply bal | apply pbN | apply bd1 | refine bst ?_ GE147.out) | exact HB.out)) hb); clear BK147; clear HB; have BK147 := n0_; have HB := n1_; clear n0_ n1_; (try clear hb); (try clear hb2); (try clear hk); (try clear hi)))
 go_ret
 exact ⟨eW, by repeat (first | (with_reducible first | exact HB.out | apply bal | apply pbN | apply bd1 | refine bst ?_ GE147.out) | exact HB.out)⟩
end Go.Proofs.YtlmpmlcjlioeaaaDoor.P
/-
 DERIVED: THE SHELF's CONTRACTS AT THIS DUMP, IN PLAIN WORDS (tools/lay-plain.mjs out of 'TrydShelf.lean', which tools/lay-shelf.mjs wrote): THE SAME DECLARATIONS UNDER THE SAME NAMES: 'import', 'namespace', 'open', 'def', 'theorem' AND NOTHING ELSE: no command of the shelf's: FOR A HAND-IN. Each laying: the table of numbers ('.._ren') and one theorem, a field a fact of the dump's own or the kernel's comparison; each contract: ONE APPLICATION.
-/
namespace Go.Proofs
open Go.Shelf
def Tryd.lays160_ren : Go.Shelf.Ren := ⟨fun | 160 => 111 | 232 => 115 | 231 => 114 | 227 => 116 | 234 => 118 | 233 => 117 | 236 => 120 | 235 => 119 | 228 => 121 | 271 => 124 | 151 => 123 | 197 => 122 | 120 => 127 | 152 => 126 | 260 => 125 | 137 => 128 | 119 => 129 | 224 => 130 | 225 => 131 | 217 => 132 | 266 => 133 | n => n, fun | 9 => 9 | 4 => 4 | 3 => 3 | 5 => 5 | 117 => 116 | 116 => 115 | 0 => 0 | 124 => 119 | 21 => 21 | 105 => 121 | 46 => 126 | 119 => 125 | 139 => 129 | 138 => 128 | n => n, fun | 3 => 0 | 4 => 1 | n => n⟩
theorem Tryd.lays160 : Go.Proofs.Lays.n160 Tryd.prog Tryd.lays160_ren := {
 mixed := by kernel_rfl
 f119 := Tryd.func129.trans (congrArg some (by kernel_rfl))
 f120 := Tryd.func127.trans (congrArg some (by kernel_rfl))
 f137 := Tryd.func128.trans (congrArg some (by kernel_rfl))
 f151 := Tryd.func123.trans (congrArg some (by kernel_rfl))
 f152 := Tryd.func126.trans (congrArg some (by kernel_rfl))
 f160 := Tryd.func111.trans (congrArg some (by kernel_rfl))
 f197 := Tryd.func122.trans (congrArg some (by kernel_rfl))
 f217 := Tryd.func132.trans (congrArg some (by kernel_rfl))
 f224 := Tryd.func130.trans (congrArg some (by kernel_rfl))
 f225 := Tryd.func131.trans (congrArg some (by kernel_rfl))
 f227 := Tryd.func116.trans (congrArg some (by kernel_rfl))
 f228 := Tryd.func121.trans (congrArg some (by kernel_rfl))
 f231 := Tryd.func114.trans (congrArg some (by kernel_rfl))
 f232 := Tryd.func115.trans (congrArg some (by kernel_rfl))
 f233 := Tryd.func117.trans (congrArg some (by kernel_rfl))
 f234 := Tryd.func118.trans (congrArg some (by kernel_rfl))
 f235 := Tryd.func119.trans (congrArg some (by kernel_rfl))
 f236 := Tryd.func120.trans (congrArg some (by kernel_rfl))
 f260 := Tryd.func125.trans (congrArg some (by kernel_rfl))
 f266 := Tryd.func133.trans (congrArg some (by kernel_rfl))
 f271 := Tryd.func124.trans (congrArg some (by kernel_rfl))
 t0 := Tryd.underlying0
 a0 := Tryd.isAgg0
 z0 := Tryd.sizeOf0
 v0 := Tryd.zeroValue0
 t3 := Tryd.underlying3
 a3 := Tryd.isAgg3
 z3 := Tryd.sizeOf3
 v3 := Tryd.zeroValue3
 t4 := Tryd.underlying4
 a4 := Tryd.isAgg4
 z4 := Tryd.sizeOf4
 v4 := Tryd.zeroValue4
 t5 := Tryd.underlying5
 a5 := Tryd.isAgg5
 z5 := Tryd.sizeOf5
 v5 := Tryd.zeroValue5
 t9 := Tryd.underlying9
 a9 := Tryd.isAgg9
 z9 := Tryd.sizeOf9
 v9 := Tryd.zeroValue9
 t21 := Tryd.underlying21
 a21 := Tryd.isAgg21
 z21 := Tryd.sizeOf21
 v21 := Tryd.zeroValue21
 t46 := Tryd.underlying126
 a46 := Tryd.isAgg126
 z46 := Tryd.sizeOf126
 v46 := Tryd.zeroValue126
 t105 := Tryd.underlying121
 a105 := Tryd.isAgg121
 z105 := Tryd.sizeOf121
 v105 := Tryd.zeroValue121
 t116 := Tryd.underlying115
 a116 := Tryd.isAgg115
 z116 := Tryd.sizeOf115
 t117 := Tryd.underlying116
 a117 := Tryd.isAgg116
 z117 := Tryd.sizeOf116
 v117 := Tryd.zeroValue116
 t119 := Tryd.underlying125
 a119 := Tryd.isAgg125
 z119 := Tryd.sizeOf125
 t124 := Tryd.underlying119
 a124 := Tryd.isAgg119
 z124 := Tryd.sizeOf119
 v124 := Tryd.zeroValue119
 t138 := Tryd.underlying128
 a138 := Tryd.isAgg128
 z138 := Tryd.sizeOf128
 v138 := Tryd.zeroValue128
 t139 := Tryd.underlying129
 a139 := Tryd.isAgg129
 z139 := Tryd.sizeOf129
 v139 := Tryd.zeroValue129
 g3 := by kernel_rfl
 g4 := by kernel_rfl }
end Go.Proofs
namespace Go.Proofs.YtlmpmlcjlioeaaaDoor.P
open Go.RowKit Go.Proofs.YtlmpmlcjlioeaaaDoorW.PrintWords Go.Proofs.YtlmpmlcjlioeaaaDoorW.PrintLast Go.Proofs.YtlmpmlcjlioeaaaDoorW.PrintMore
attribute [local go_sem] max2_int min2_int max_two min_two max_three min_three max_four min_four
set_option linter.unusedVariables false
set_option linter.unusedSimpArgs false
/-- strings.Trim at a set of ASCII letters. -/
def strings_Trim.f (a0 : ByteArray) (a1 : ByteArray) : Option (ByteArray) := if a0.size ≤ 9223372036854775807 ∧ a1.size < 4294967281 ∧ a1.data.toList.all (fun b => decide (b.toNat < 128)) = true then some ⟨(Lib.trimS a0.data.toList a1.data.toList).toArray⟩ else none
theorem strings_Trim.calls (a0 : ByteArray) (a1 : ByteArray) (r : ByteArray) (w : World) (h : strings_Trim.f a0 a1 = some r) :
 Calls Tryd.prog 111 #[.string a0, .string a1] w fun e w' => e = .returned (.string r) ∧ Below w.heap.size w w' := by
 unfold strings_Trim.f at h; by_cases hc : a0.size ≤ 9223372036854775807 ∧ a1.size < 4294967281 ∧ a1.data.toList.all (fun b => decide (b.toNat < 128)) = true
 · rw [if_pos hc] at h
   obtain rfl := Option.some.inj h
   exact Any.strings_Trim_laid Tryd.lays160 (by kernel_rfl) a0 a1 w hc.1 hc.2.1 (ascii_of_all hc.2.2)
 · rw [if_neg hc] at h
   cases h
def impl_isName.f (a0 : ByteArray) : Option (Bool) := if (a0.size : Int) ≥ 1 then (if (a0.size : Int) ≤ 6 then ((strings_Trim.f a0 (⟨#[97, 98, 99, 100, 101, 102, 103, 104, 105, 106, 107, 108, 109, 110, 111, 112, 113, 114, 115, 116, 117, 118, 119, 120, 121, 122]⟩ : ByteArray)).bind fun t150 => (some (t150.toList == ([] : List UInt8)))) else (some false)) else (some false)
set_option maxHeartbeats 8000000 in
set_option maxRecDepth 100000 in
theorem impl_isName.calls (a0 : ByteArray) (r : Bool) (w : World) (h : impl_isName.f a0 = some r) :
 Calls Tryd.prog 105 #[.string a0] w fun e w' => e = .returned (.bool r) ∧ Below w.heap.size w w' := by
 have HB := As0.mk (Below.refl w.heap.size w); have H : (if (a0.size : Int) ≥ 1 then (if (a0.size : Int) ≤ 6 then ((strings_Trim.f a0 (⟨#[97, 98, 99, 100, 101, 102, 103, 104, 105, 106, 107, 108, 109, 110, 111, 112, 113, 114, 115, 116, 117, 118, 119, 120, 121, 122]⟩ : ByteArray)).bind fun t150 => (some (t150.toList == ([] : List UInt8)))) else (some false)) else (some false)) = some r := h; clear h; by_cases c2 : (a0.size : Int) ≥ 1
 · rw [if_pos c2] at H
   have c2b0 : decide (1 ≤ (a0.size : Int)) = true := decide_eq_true c2; have c2b1 : decide (1 ≤ a0.size) = true := decide_eq_true (by omega); clear c2; by_cases c3 : (a0.size : Int) ≤ 6
   · rw [if_pos c3] at H
     have c3b0 : decide ((a0.size : Int) ≤ 6) = true := decide_eq_true c3; have c3b1 : decide (a0.size ≤ 6) = true := decide_eq_true (by omega); clear c3; replace H := Option.bind_eq_some_iff.mp H; obtain ⟨t150, A40, H⟩ := H; replace H : (some (t150.toList == ([] : List UInt8))) = some r := H; have A4 := As0.mk A40; clear A40; obtain rfl := Option.some.inj H
     go_enter Tryd.func105, Tryd.ntmps105
     go_wp2_with (first | (go_at_call 111; (with_reducible refine (strings_Trim.calls a0 (⟨#[97, 98, 99, 100, 101, 102, 103, 104, 105, 106, 107, 108, 109, 110, 111, 112, 113, 114, 115, 116, 117, 118, 119, 120, 121, 122]⟩ : ByteArray) t150 _ A4.out).mono ?_); rintro e w5 ⟨rfl, hb⟩; have n0_ := As0.mk (bsp (by repeat (first | (with_reducible first | exact HB.out | apply bal | apply pbN | apply bd1) | exact HB.out)) hb); clear HB; have HB := n0_; clear n0_; (try clear hb); (try clear hb2); (try clear hk); (try clear hi)))
     go_ret
     exact ⟨eW, by repeat (first | (with_reducible first | exact HB.out | apply bal | apply pbN | apply bd1) | exact HB.out)⟩
   · rw [if_neg c3] at H
     have c3b0 : decide ((a0.size : Int) ≤ 6) = false := decide_eq_false c3; have c3b1 : decide (a0.size ≤ 6) = false := decide_eq_false (by omega); clear c3; obtain rfl := Option.some.inj H
     go_enter Tryd.func105, Tryd.ntmps105
     go_wp2
     go_ret
     exact ⟨eW, by repeat (first | (with_reducible first | exact HB.out | apply bal | apply pbN | apply bd1) | exact HB.out)⟩
 · rw [if_neg c2] at H
   have c2b0 : decide (1 ≤ (a0.size : Int)) = false := decide_eq_false c2; have c2b1 : decide (1 ≤ a0.size) = false := decide_eq_false (by omega); clear c2; obtain rfl := Option.some.inj H
   go_enter Tryd.func105, Tryd.ntmps105
   go_wp2
   go_ret
   exact ⟨eW, by repeat (first | (with_reducible first | exact HB.out | apply bal | apply pbN | apply bd1) | exact HB.out)⟩
def impl_isSpace.j0 : Nat → Bool → ByteArray → ByteArray → Int → Bool → Int → Option (Bool)
 | 0, _, _, _, _, _, _ => none
 | k + 1, x26, x152000, x152001, x152002, x152003, x152004 => if x26 = true then (some false) else (if x152000.toList = ([97, 108, 108] : List UInt8) then (if x152001.toList = ([] : List UInt8) then (some (!x152003)) else (some false)) else ((impl_isName.f x152001).bind fun t153 => (some t153)))
def impl_isSpace.f (k : Nat) (a0_0 : ByteArray) (a0_1 : ByteArray) (a0_2 : Int) (a0_3 : Bool) (a0_4 : Int) : Option (Bool) := (impl_isName.f a0_0).bind fun t152 => (if t152 = true then (if a0_2 < (-1) then (impl_isSpace.j0 k true a0_0 a0_1 a0_2 a0_3 a0_4) else (if a0_2 > 99999 then (impl_isSpace.j0 k true a0_0 a0_1 a0_2 a0_3 a0_4) else (if a0_4 < 0 then (impl_isSpace.j0 k true a0_0 a0_1 a0_2 a0_3 a0_4) else (impl_isSpace.j0 k (decide (a0_4 > 99999)) a0_0 a0_1 a0_2 a0_3 a0_4)))) else (impl_isSpace.j0 k true a0_0 a0_1 a0_2 a0_3 a0_4))
set_option maxHeartbeats 8000000 in
set_option maxRecDepth 100000 in
theorem impl_isSpace.calls (k : Nat) (a0_0 : ByteArray) (a0_1 : ByteArray) (a0_2 : Int) (a0_3 : Bool) (a0_4 : Int) (r : Bool) (w : World) (h : impl_isSpace.f k a0_0 a0_1 a0_2 a0_3 a0_4 = some r) :
 Calls Tryd.prog 92 #[.agg #[.string a0_0, .string a0_1, .int .i64 a0_2, .bool a0_3, .int .i64 a0_4]] w fun e w' => e = .returned (.bool r) ∧ Below w.heap.size w w' := by
 have hu42 := Tryd.underlying42; have HB := As0.mk (Below.refl w.heap.size w); have H : ((impl_isName.f a0_0).bind fun t152 => (if t152 = true then (if a0_2 < (-1) then (impl_isSpace.j0 k true a0_0 a0_1 a0_2 a0_3 a0_4) else (if a0_2 > 99999 then (impl_isSpace.j0 k true a0_0 a0_1 a0_2 a0_3 a0_4) else (if a0_4 < 0 then (impl_isSpace.j0 k true a0_0 a0_1 a0_2 a0_3 a0_4) else (impl_isSpace.j0 k (decide (a0_4 > 99999)) a0_0 a0_1 a0_2 a0_3 a0_4)))) else (impl_isSpace.j0 k true a0_0 a0_1 a0_2 a0_3 a0_4))) = some r := h; clear h; have HC2 := As0.mk H; clear H
 go_enter Tryd.func92, Tryd.ntmps92
 go_upto_region 1 with (first | ((with_reducible refine gate_dst (N := 1) rfl ?_); refine box_event ?hg (N := 1) ?hd (cs := #[.string a0_0, .string a0_1, .int .i64 a0_2, .bool a0_3, .int .i64 a0_4]) (t := 42) ?hr ?_; (case hd => rfl); (case hg => rfl); (case hr => first | (go_simp; done) | (go_simp; rfl)); intro gb151 hg w3 hbox hb; have n0_ := As0.mk (bsp (by repeat (first | (with_reducible first | exact HB.out | apply bal | apply pbN | apply bd1) | exact HB.out)) hb); have n1_ := As0.mk (hbox); have n2_ := As0.mk ((by rw [hg]; exact (bsz (by repeat (first | (with_reducible first | exact HB.out | apply bal | apply pbN | apply bd1) | exact HB.out))) : w.heap.size ≤ gb151)); have n3_ := As0.mk ((by rw [hg]; exact (bsz (by repeat (first | (with_reducible first | exact HB.out | apply bal | apply pbN | apply bd1) | exact HB.out))) : w.heap.size ≤ gb151)); clear HB; have HB := n0_; have BK151 := n1_; have GW151 := n2_; have GE151 := n3_; clear n0_ n1_ n2_ n3_; clear hb hbox hg))
 (try simp only [Act.put, sA, sZ, sS])
 go_cut [26] (fun v26 wc => ∃ (kq : Nat) (x26_1 : Bool), v26 = .bool x26_1 ∧ As0 (impl_isSpace.j0 kq x26_1 a0_0 a0_1 a0_2 a0_3 a0_4 = some r) ∧ As0 (kq ≤ k) ∧ As0 (wc.heap[gb151]? = some (.cells #[.string a0_0, .string a0_1, .int .i64 a0_2, .bool a0_3, .int .i64 a0_4] 42 (0, 0))) ∧ As0 (Below w.heap.size w wc))
 case first =>
  have H := HC2.out; clear HC2; replace H := Option.bind_eq_some_iff.mp H; obtain ⟨t152, A40, H⟩ := H; replace H : (if t152 = true then (if a0_2 < (-1) then (impl_isSpace.j0 k true a0_0 a0_1 a0_2 a0_3 a0_4) else (if a0_2 > 99999 then (impl_isSpace.j0 k true a0_0 a0_1 a0_2 a0_3 a0_4) else (if a0_4 < 0 then (impl_isSpace.j0 k true a0_0 a0_1 a0_2 a0_3 a0_4) else (impl_isSpace.j0 k (decide (a0_4 > 99999)) a0_0 a0_1 a0_2 a0_3 a0_4)))) else (impl_isSpace.j0 k true a0_0 a0_1 a0_2 a0_3 a0_4)) = some r := H; have A4 := As0.mk A40; clear A40; by_cases c5 : t152 = true
  · subst c5
    have H1 : (if a0_2 < (-1) then (impl_isSpace.j0 k true a0_0 a0_1 a0_2 a0_3 a0_4) else (if a0_2 > 99999 then (impl_isSpace.j0 k true a0_0 a0_1 a0_2 a0_3 a0_4) else (if a0_4 < 0 then (impl_isSpace.j0 k true a0_0 a0_1 a0_2 a0_3 a0_4) else (impl_isSpace.j0 k (decide (a0_4 > 99999)) a0_0 a0_1 a0_2 a0_3 a0_4)))) = some r := by rw [if_pos rfl] at H; exact H
    clear H; have H := H1; clear H1; by_cases c6 : a0_2 < (-1)
    · rw [if_pos c6] at H
      have c6b0 : decide (a0_2 < (-1)) = true := decide_eq_true c6; clear c6
      (first | rw [c6b0] | (simp only [i64_w, i32_w]; rw [c6b0]) | skip)
      have H' := As0.mk H; clear H; have hcz7_0 : w3.cell? ⟨gb151, 0, none⟩ = some (.string a0_0) := (bkC BK151.out 0).trans rfl; have hcz7_1 : w3.cell? ⟨gb151, 1, none⟩ = some (.string a0_1) := (bkC BK151.out 1).trans rfl; have hcz7_2 : w3.cell? ⟨gb151, 2, none⟩ = some (.int .i64 a0_2) := (bkC BK151.out 2).trans rfl; have hcz7_3 : w3.cell? ⟨gb151, 3, none⟩ = some (.bool a0_3) := (bkC BK151.out 3).trans rfl; have hcz7_4 : w3.cell? ⟨gb151, 4, none⟩ = some (.int .i64 a0_4) := (bkC BK151.out 4).trans rfl; have hfz7_0 := bkF BK151.out 0; have hfz7_1 := bkF BK151.out 1; have hfz7_2 := bkF BK151.out 2; have hfz7_3 := bkF BK151.out 3; have hfz7_4 := bkF BK151.out 4
      go_wp2_with (first | ((with_reducible refine gca (f := 105) rfl ?_); refine goesL_ (some 5) rfl rfl Tryd.func105 (by kernel_rfl) rfl #[.string a0_0] rfl (by (try simp only [List.map_toArray, List.map_cons, List.map_nil]); first | done | rfl | (simp only [List.length_drop, List.length_take]; rfl)) ?_; (with_reducible refine (impl_isName.calls a0_0 true _ A4.out).mono ?_); rintro e w8 ⟨rfl, hb⟩; refine ⟨_, rfl, ?_⟩; have n0_ := As0.mk (blk_below (g := gb151) (o := .cells #[.string a0_0, .string a0_1, .int .i64 a0_2, .bool a0_3, .int .i64 a0_4] 42 (0, 0)) (by (with_reducible repeat (first | refine bkN ?_ _ | refine bkD ?_ | refine bkA ?_ _)); exact BK151.out) hb); have n1_ := As0.mk (bsp (by repeat (first | (with_reducible first | exact HB.out | apply bal | apply pbN | apply bd1 | refine bst ?_ GE151.out) | exact HB.out)) hb); clear BK151; clear HB; have BK151 := n0_; have HB := n1_; clear n0_ n1_; (try clear hb); (try clear hb2); (try clear hk); (try clear hi); have hcz9_0 : w8.cell? ⟨gb151, 0, none⟩ = some (.string a0_0) := (bkC BK151.out 0).trans rfl; have hcz9_1 : w8.cell? ⟨gb151, 1, none⟩ = some (.string a0_1) := (bkC BK151.out 1).trans rfl; have hcz9_2 : w8.cell? ⟨gb151, 2, none⟩ = some (.int .i64 a0_2) := (bkC BK151.out 2).trans rfl; have hcz9_3 : w8.cell? ⟨gb151, 3, none⟩ = some (.bool a0_3) := (bkC BK151.out 3).trans rfl; have hcz9_4 : w8.cell? ⟨gb151, 4, none⟩ = some (.int .i64 a0_4) := (bkC BK151.out 4).trans rfl; have hfz9_0 := bkF BK151.out 0; have hfz9_1 := bkF BK151.out 1; have hfz9_2 := bkF BK151.out 2; have hfz9_3 := bkF BK151.out 3; have hfz9_4 := bkF BK151.out 4))
      go_meet
      case rel => exact ⟨_, (true), (by first | rfl | (simp; done) | (simp [*]; done)), H', ⟨by first | omega | exact Nat.le_refl _⟩, ⟨by (with_reducible repeat (first | refine bkN ?_ _ | refine bkD ?_ | refine bkA ?_ _)); exact BK151.out⟩, ⟨by repeat (first | (with_reducible first | exact HB.out | apply bal | apply pbN | apply bd1 | refine bst ?_ GE151.out) | exact HB.out)⟩⟩
    · rw [if_neg c6] at H
      have c6b0 : decide (a0_2 < (-1)) = false := decide_eq_false c6; clear c6
      (first | rw [c6b0] | (simp only [i64_w, i32_w]; rw [c6b0]) | skip)
      by_cases c10 : a0_2 > 99999
      · rw [if_pos c10] at H
        have c10b0 : decide (99999 < a0_2) = true := decide_eq_true c10; clear c10; have H' := As0.mk H; clear H; have hcz11_0 : w3.cell? ⟨gb151, 0, none⟩ = some (.string a0_0) := (bkC BK151.out 0).trans rfl; have hcz11_1 : w3.cell? ⟨gb151, 1, none⟩ = some (.string a0_1) := (bkC BK151.out 1).trans rfl; have hcz11_2 : w3.cell? ⟨gb151, 2, none⟩ = some (.int .i64 a0_2) := (bkC BK151.out 2).trans rfl; have hcz11_3 : w3.cell? ⟨gb151, 3, none⟩ = some (.bool a0_3) := (bkC BK151.out 3).trans rfl; have hcz11_4 : w3.cell? ⟨gb151, 4, none⟩ = some (.int .i64 a0_4) := (bkC BK151.out 4).trans rfl; have hfz11_0 := bkF BK151.out 0; have hfz11_1 := bkF BK151.out 1; have hfz11_2 := bkF BK151.out 2; have hfz11_3 := bkF BK151.out 3; have hfz11_4 := bkF BK151.out 4
        go_wp2_with (first | ((with_reducible refine gca (f := 105) rfl ?_); refine goesL_ (some 5) rfl rfl Tryd.func105 (by kernel_rfl) rfl #[.string a0_0] rfl (by (try simp only [List.map_toArray, List.map_cons, List.map_nil]); first | done | rfl | (simp only [List.length_drop, List.length_take]; rfl)) ?_; (with_reducible refine (impl_isName.calls a0_0 true _ A4.out).mono ?_); rintro e w12 ⟨rfl, hb⟩; refine ⟨_, rfl, ?_⟩; have n0_ := As0.mk (blk_below (g := gb151) (o := .cells #[.string a0_0, .string a0_1, .int .i64 a0_2, .bool a0_3, .int .i64 a0_4] 42 (0, 0)) (by (with_reducible repeat (first | refine bkN ?_ _ | refine bkD ?_ | refine bkA ?_ _)); exact BK151.out) hb); have n1_ := As0.mk (bsp (by repeat (first | (with_reducible first | exact HB.out | apply bal | apply pbN | apply bd1 | refine bst ?_ GE151.out) | exact HB.out)) hb); clear BK151; clear HB; have BK151 := n0_; have HB := n1_; clear n0_ n1_; (try clear hb); (try clear hb2); (try clear hk); (try clear hi); have hcz13_0 : w12.cell? ⟨gb151, 0, none⟩ = some (.string a0_0) := (bkC BK151.out 0).trans rfl; have hcz13_1 : w12.cell? ⟨gb151, 1, none⟩ = some (.string a0_1) := (bkC BK151.out 1).trans rfl; have hcz13_2 : w12.cell? ⟨gb151, 2, none⟩ = some (.int .i64 a0_2) := (bkC BK151.out 2).trans rfl; have hcz13_3 : w12.cell? ⟨gb151, 3, none⟩ = some (.bool a0_3) := (bkC BK151.out 3).trans rfl; have hcz13_4 : w12.cell? ⟨gb151, 4, none⟩ = some (.int .i64 a0_4) := (bkC BK151.out 4).trans rfl; have hfz13_0 := bkF BK151.out 0; have hfz13_1 := bkF BK151.out 1; have hfz13_2 := bkF BK151.out 2; have hfz13_3 := bkF BK151.out 3; have hfz13_4 := bkF BK151.out 4))
        go_meet
        case rel => exact ⟨_, (true), (by first | rfl | (simp; done) | (simp [*]; done)), H', ⟨by first | omega | exact Nat.le_refl _⟩, ⟨by (with_reducible repeat (first | refine bkN ?_ _ | refine bkD ?_ | refine bkA ?_ _)); exact BK151.out⟩, ⟨by repeat (first | (with_reducible first | exact HB.out | apply bal | apply pbN | apply bd1 | refine bst ?_ GE151.out) | exact HB.out)⟩⟩
      · rw [if_neg c10] at H
        have c10b0 : decide (99999 < a0_2) = false := decide_eq_false c10; clear c10; by_cases c14 : a0_4 < 0
        · rw [if_pos c14] at H
          have c14b0 : decide (a0_4 < 0) = true := decide_eq_true c14; clear c14; have H' := As0.mk H; clear H; have hcz15_0 : w3.cell? ⟨gb151, 0, none⟩ = some (.string a0_0) := (bkC BK151.out 0).trans rfl; have hcz15_1 : w3.cell? ⟨gb151, 1, none⟩ = some (.string a0_1) := (bkC BK151.out 1).trans rfl; have hcz15_2 : w3.cell? ⟨gb151, 2, none⟩ = some (.int .i64 a0_2) := (bkC BK151.out 2).trans rfl; have hcz15_3 : w3.cell? ⟨gb151, 3, none⟩ = some (.bool a0_3) := (bkC BK151.out 3).trans rfl; have hcz15_4 : w3.cell? ⟨gb151, 4, none⟩ = some (.int .i64 a0_4) := (bkC BK151.out 4).trans rfl; have hfz15_0 := bkF BK151.out 0; have hfz15_1 := bkF BK151.out 1; have hfz15_2 := bkF BK151.out 2; have hfz15_3 := bkF BK151.out 3; have hfz15_4 := bkF BK151.out 4
          go_wp2_with (first | ((with_reducible refine gca (f := 105) rfl ?_); refine goesL_ (some 5) rfl rfl Tryd.func105 (by kernel_rfl) rfl #[.string a0_0] rfl (by (try simp only [List.map_toArray, List.map_cons, List.map_nil]); first | done | rfl | (simp only [List.length_drop, List.length_take]; rfl)) ?_; (with_reducible refine (impl_isName.calls a0_0 true _ A4.out).mono ?_); rintro e w16 ⟨rfl, hb⟩; refine ⟨_, rfl, ?_⟩; have n0_ := As0.mk (blk_below (g := gb151) (o := .cells #[.string a0_0, .string a0_1, .int .i64 a0_2, .bool a0_3, .int .i64 a0_4] 42 (0, 0)) (by (with_reducible repeat (first | refine bkN ?_ _ | refine bkD ?_ | refine bkA ?_ _)); exact BK151.out) hb); have n1_ := As0.mk (bsp (by repeat (first | (with_reducible first | exact HB.out | apply bal | apply pbN | apply bd1 | refine bst ?_ GE151.out) | exact HB.out)) hb); clear BK151; clear HB; have BK151 := n0_; have HB := n1_; clear n0_ n1_; (try clear hb); (try clear hb2); (try clear hk); (try clear hi); have hcz17_0 : w16.cell? ⟨gb151, 0, none⟩ = some (.string a0_0) := (bkC BK151.out 0).trans rfl; have hcz17_1 : w16.cell? ⟨gb151, 1, none⟩ = some (.string a0_1) := (bkC BK151.out 1).trans rfl; have hcz17_2 : w16.cell? ⟨gb151, 2, none⟩ = some (.int .i64 a0_2) := (bkC BK151.out 2).trans rfl; have hcz17_3 : w16.cell? ⟨gb151, 3, none⟩ = some (.bool a0_3) := (bkC BK151.out 3).trans rfl; have hcz17_4 : w16.cell? ⟨gb151, 4, none⟩ = some (.int .i64 a0_4) := (bkC BK151.out 4).trans rfl; have hfz17_0 := bkF BK151.out 0; have hfz17_1 := bkF BK151.out 1; have hfz17_2 := bkF BK151.out 2; have hfz17_3 := bkF BK151.out 3; have hfz17_4 := bkF BK151.out 4))
          go_meet
          case rel => exact ⟨_, (true), (by first | rfl | (simp; done) | (simp [*]; done)), H', ⟨by first | omega | exact Nat.le_refl _⟩, ⟨by (with_reducible repeat (first | refine bkN ?_ _ | refine bkD ?_ | refine bkA ?_ _)); exact BK151.out⟩, ⟨by repeat (first | (with_reducible first | exact HB.out | apply bal | apply pbN | apply bd1 | refine bst ?_ GE151.out) | exact HB.out)⟩⟩
        · rw [if_neg c14] at H
          have c14b0 : decide (a0_4 < 0) = false := decide_eq_false c14; clear c14; have H' := As0.mk H; clear H; have hcz18_0 : w3.cell? ⟨gb151, 0, none⟩ = some (.string a0_0) := (bkC BK151.out 0).trans rfl; have hcz18_1 : w3.cell? ⟨gb151, 1, none⟩ = some (.string a0_1) := (bkC BK151.out 1).trans rfl; have hcz18_2 : w3.cell? ⟨gb151, 2, none⟩ = some (.int .i64 a0_2) := (bkC BK151.out 2).trans rfl; have hcz18_3 : w3.cell? ⟨gb151, 3, none⟩ = some (.bool a0_3) := (bkC BK151.out 3).trans rfl; have hcz18_4 : w3.cell? ⟨gb151, 4, none⟩ = some (.int .i64 a0_4) := (bkC BK151.out 4).trans rfl; have hfz18_0 := bkF BK151.out 0; have hfz18_1 := bkF BK151.out 1; have hfz18_2 := bkF BK151.out 2; have hfz18_3 := bkF BK151.out 3; have hfz18_4 := bkF BK151.out 4
          go_wp2_with (first | ((with_reducible refine gca (f := 105) rfl ?_); refine goesL_ (some 5) rfl rfl Tryd.func105 (by kernel_rfl) rfl #[.string a0_0] rfl (by (try simp only [List.map_toArray, List.map_cons, List.map_nil]); first | done | rfl | (simp only [List.length_drop, List.length_take]; rfl)) ?_; (with_reducible refine (impl_isName.calls a0_0 true _ A4.out).mono ?_); rintro e w19 ⟨rfl, hb⟩; refine ⟨_, rfl, ?_⟩; have n0_ := As0.mk (blk_below (g := gb151) (o := .cells #[.string a0_0, .string a0_1, .int .i64 a0_2, .bool a0_3, .int .i64 a0_4] 42 (0, 0)) (by (with_reducible repeat (first | refine bkN ?_ _ | refine bkD ?_ | refine bkA ?_ _)); exact BK151.out) hb); have n1_ := As0.mk (bsp (by repeat (first | (with_reducible first | exact HB.out | apply bal | apply pbN | apply bd1 | refine bst ?_ GE151.out) | exact HB.out)) hb); clear BK151; clear HB; have BK151 := n0_; have HB := n1_; clear n0_ n1_; (try clear hb); (try clear hb2); (try clear hk); (try clear hi); have hcz20_0 : w19.cell? ⟨gb151, 0, none⟩ = some (.string a0_0) := (bkC BK151.out 0).trans rfl; have hcz20_1 : w19.cell? ⟨gb151, 1, none⟩ = some (.string a0_1) := (bkC BK151.out 1).trans rfl; have hcz20_2 : w19.cell? ⟨gb151, 2, none⟩ = some (.int .i64 a0_2) := (bkC BK151.out 2).trans rfl; have hcz20_3 : w19.cell? ⟨gb151, 3, none⟩ = some (.bool a0_3) := (bkC BK151.out 3).trans rfl; have hcz20_4 : w19.cell? ⟨gb151, 4, none⟩ = some (.int .i64 a0_4) := (bkC BK151.out 4).trans rfl; have hfz20_0 := bkF BK151.out 0; have hfz20_1 := bkF BK151.out 1; have hfz20_2 := bkF BK151.out 2; have hfz20_3 := bkF BK151.out 3; have hfz20_4 := bkF BK151.out 4))
          go_meet
          case rel => exact ⟨_, (decide (a0_4 > 99999)), (by first | rfl | (simp; done) | (simp [*]; done)), H', ⟨by first | omega | exact Nat.le_refl _⟩, ⟨by (with_reducible repeat (first | refine bkN ?_ _ | refine bkD ?_ | refine bkA ?_ _)); exact BK151.out⟩, ⟨by repeat (first | (with_reducible first | exact HB.out | apply bal | apply pbN | apply bd1 | refine bst ?_ GE151.out) | exact HB.out)⟩⟩
  · replace c5 := Bool.eq_false_iff.mpr c5
    subst c5; have H1 : (impl_isSpace.j0 k true a0_0 a0_1 a0_2 a0_3 a0_4) = some r := by rw [if_neg (show ¬ (false = true) by decide)] at H; exact H
    clear H; have H := H1; clear H1; have H' := As0.mk H; clear H; have hcz21_0 : w3.cell? ⟨gb151, 0, none⟩ = some (.string a0_0) := (bkC BK151.out 0).trans rfl; have hcz21_1 : w3.cell? ⟨gb151, 1, none⟩ = some (.string a0_1) := (bkC BK151.out 1).trans rfl; have hcz21_2 : w3.cell? ⟨gb151, 2, none⟩ = some (.int .i64 a0_2) := (bkC BK151.out 2).trans rfl; have hcz21_3 : w3.cell? ⟨gb151, 3, none⟩ = some (.bool a0_3) := (bkC BK151.out 3).trans rfl; have hcz21_4 : w3.cell? ⟨gb151, 4, none⟩ = some (.int .i64 a0_4) := (bkC BK151.out 4).trans rfl; have hfz21_0 := bkF BK151.out 0; have hfz21_1 := bkF BK151.out 1; have hfz21_2 := bkF BK151.out 2; have hfz21_3 := bkF BK151.out 3; have hfz21_4 := bkF BK151.out 4
    go_wp2_with (first | ((with_reducible refine gca (f := 105) rfl ?_); refine goesL_ (some 5) rfl rfl Tryd.func105 (by kernel_rfl) rfl #[.string a0_0] rfl (by (try simp only [List.map_toArray, List.map_cons, List.map_nil]); first | done | rfl | (simp only [List.length_drop, List.length_take]; rfl)) ?_; (with_reducible refine (impl_isName.calls a0_0 false _ A4.out).mono ?_); rintro e w22 ⟨rfl, hb⟩; refine ⟨_, rfl, ?_⟩; have n0_ := As0.mk (blk_below (g := gb151) (o := .cells #[.string a0_0, .string a0_1, .int .i64 a0_2, .bool a0_3, .int .i64 a0_4] 42 (0, 0)) (by (with_reducible repeat (first | refine bkN ?_ _ | refine bkD ?_ | refine bkA ?_ _)); exact BK151.out) hb); have n1_ := As0.mk (bsp (by repeat (first | (with_reducible first | exact HB.out | apply bal | apply pbN | apply bd1 | refine bst ?_ GE151.out) | exact HB.out)) hb); clear BK151; clear HB; have BK151 := n0_; have HB := n1_; clear n0_ n1_; (try clear hb); (try clear hb2); (try clear hk); (try clear hi)))
    go_meet
    case rel => exact ⟨_, (true), (by first | rfl | (simp; done) | (simp [*]; done)), H', ⟨by first | omega | exact Nat.le_refl _⟩, ⟨by (with_reducible repeat (first | refine bkN ?_ _ | refine bkD ?_ | refine bkA ?_ _)); exact BK151.out⟩, ⟨by repeat (first | (with_reducible first | exact HB.out | apply bal | apply pbN | apply bd1 | refine bst ?_ GE151.out) | exact HB.out)⟩⟩
 case rest =>
  clear HC2
  try clear c1
  try clear p2
  try clear c5
  try clear c6
  try clear c6b0
  try clear c9
  try clear c10
  try clear c10b0
  try clear c14
  try clear c14b0
  try clear hcz11_0
  try clear hcz11_1
  try clear hcz11_2
  try clear hcz11_3
  try clear hcz11_4
  try clear hcz13_0
  try clear hcz13_1
  try clear hcz13_2
  try clear hcz13_3
  try clear hcz13_4
  try clear hcz15_0
  try clear hcz15_1
  try clear hcz15_2
  try clear hcz15_3
  try clear hcz15_4
  try clear hcz17_0
  try clear hcz17_1
  try clear hcz17_2
  try clear hcz17_3
  try clear hcz17_4
  try clear hcz18_0
  try clear hcz18_1
  try clear hcz18_2
  try clear hcz18_3
  try clear hcz18_4
  try clear hcz20_0
  try clear hcz20_1
  try clear hcz20_2
  try clear hcz20_3
  try clear hcz20_4
  try clear hcz21_0
  try clear hcz21_1
  try clear hcz21_2
  try clear hcz21_3
  try clear hcz21_4
  try clear hcz7_0
  try clear hcz7_1
  try clear hcz7_2
  try clear hcz7_3
  try clear hcz7_4
  try clear hcz9_0
  try clear hcz9_1
  try clear hcz9_2
  try clear hcz9_3
  try clear hcz9_4
  try clear hfz11_0
  try clear hfz11_1
  try clear hfz11_2
  try clear hfz11_3
  try clear hfz11_4
  try clear hfz13_0
  try clear hfz13_1
  try clear hfz13_2
  try clear hfz13_3
  try clear hfz13_4
  try clear hfz15_0
  try clear hfz15_1
  try clear hfz15_2
  try clear hfz15_3
  try clear hfz15_4
  try clear hfz17_0
  try clear hfz17_1
  try clear hfz17_2
  try clear hfz17_3
  try clear hfz17_4
  try clear hfz18_0
  try clear hfz18_1
  try clear hfz18_2
  try clear hfz18_3
  try clear hfz18_4
  try clear hfz20_0
  try clear hfz20_1
  try clear hfz20_2
  try clear hfz20_3
  try clear hfz20_4
  try clear hfz21_0
  try clear hfz21_1
  try clear hfz21_2
  try clear hfz21_3
  try clear hfz21_4
  try clear hfz7_0
  try clear hfz7_1
  try clear hfz7_2
  try clear hfz7_3
  try clear hfz7_4
  try clear hfz9_0
  try clear hfz9_1
  try clear hfz9_2
  try clear hfz9_3
  try clear hfz9_4
  obtain ⟨kq, x26_1, rfl, HA, HJ1, BK151, HB⟩ := hcut
  cases kq with
  | zero => exact absurd HA.out (by simp [impl_isSpace.j0])
  | succ kj1 =>
   have H := HA.out; clear HA; simp only [impl_isSpace.j0] at H; by_cases c23 : x26_1 = true
   · subst c23
     have H1 : (some false) = some r := by rw [if_pos rfl] at H; exact H
     clear H; have H := H1; clear H1; obtain rfl := Option.some.inj H
     go_wp2
     go_ret
     exact ⟨eW, by repeat (first | (with_reducible first | exact HB.out | apply bal | apply pbN | apply bd1 | refine bst ?_ GE151.out) | exact HB.out)⟩
   · replace c23 := Bool.eq_false_iff.mpr c23
     subst c23; have H1 : (if a0_0.toList = ([97, 108, 108] : List UInt8) then (if a0_1.toList = ([] : List UInt8) then (some (!a0_3)) else (some false)) else ((impl_isName.f a0_1).bind fun t153 => (some t153))) = some r := by rw [if_neg (show ¬ (false = true) by decide)] at H; exact H
     clear H; have H := H1; clear H1; by_cases c24 : a0_0.toList = ([97, 108, 108] : List UInt8)
     · rw [if_pos c24] at H
       have c24b0 : (a0_0.toList == ([97, 108, 108] : List UInt8)) = true := beq_iff_eq.mpr c24; have c24b1 : (a0_0.toList != ([97, 108, 108] : List UInt8)) = false := bne_eq_false_iff_eq.mpr c24; clear c24; by_cases c25 : a0_1.toList = ([] : List UInt8)
       · rw [if_pos c25] at H
         have c25b0 : (a0_1.toList == ([] : List UInt8)) = true := beq_iff_eq.mpr c25; have c25b1 : (a0_1.toList != ([] : List UInt8)) = false := bne_eq_false_iff_eq.mpr c25; clear c25; obtain rfl := Option.some.inj H; have hcz26_0 : wc.cell? ⟨gb151, 0, none⟩ = some (.string a0_0) := (bkC BK151.out 0).trans rfl; have hcz26_1 : wc.cell? ⟨gb151, 1, none⟩ = some (.string a0_1) := (bkC BK151.out 1).trans rfl; have hcz26_2 : wc.cell? ⟨gb151, 2, none⟩ = some (.int .i64 a0_2) := (bkC BK151.out 2).trans rfl; have hcz26_3 : wc.cell? ⟨gb151, 3, none⟩ = some (.bool a0_3) := (bkC BK151.out 3).trans rfl; have hcz26_4 : wc.cell? ⟨gb151, 4, none⟩ = some (.int .i64 a0_4) := (bkC BK151.out 4).trans rfl; have hfz26_0 := bkF BK151.out 0; have hfz26_1 := bkF BK151.out 1; have hfz26_2 := bkF BK151.out 2; have hfz26_3 := bkF BK151.out 3; have hfz26_4 := bkF BK151.out 4
         go_wp2
         go_ret
         exact ⟨eW, by repeat (first | (with_reducible first | exact HB.out | apply bal | apply pbN | apply bd1 | refine bst ?_ GE151.out) | exact HB.out)⟩
       · rw [if_neg c25] at H
         have c25b0 : (a0_1.toList == ([] : List UInt8)) = false := beq_eq_false_iff_ne.mpr c25; have c25b1 : (a0_1.toList != ([] : List UInt8)) = true := bne_iff_ne.mpr c25; obtain rfl := Option.some.inj H; have hcz27_0 : wc.cell? ⟨gb151, 0, none⟩ = some (.string a0_0) := (bkC BK151.out 0).trans rfl; have hcz27_1 : wc.cell? ⟨gb151, 1, none⟩ = some (.string a0_1) := (bkC BK151.out 1).trans rfl; have hcz27_2 : wc.cell? ⟨gb151, 2, none⟩ = some (.int .i64 a0_2) := (bkC BK151.out 2).trans rfl; have hcz27_3 : wc.cell? ⟨gb151, 3, none⟩ = some (.bool a0_3) := (bkC BK151.out 3).trans rfl; have hcz27_4 : wc.cell? ⟨gb151, 4, none⟩ = some (.int .i64 a0_4) := (bkC BK151.out 4).trans rfl; have hfz27_0 := bkF BK151.out 0; have hfz27_1 := bkF BK151.out 1; have hfz27_2 := bkF BK151.out 2; have hfz27_3 := bkF BK151.out 3; have hfz27_4 := bkF BK151.out 4
         go_wp2
         go_ret
         exact ⟨eW, by repeat (first | (with_reducible first | exact HB.out | apply bal | apply pbN | apply bd1 | refine bst ?_ GE151.out) | exact HB.out)⟩
     · rw [if_neg c24] at H
       have c24b0 : (a0_0.toList == ([97, 108, 108] : List UInt8)) = false := beq_eq_false_iff_ne.mpr c24; have c24b1 : (a0_0.toList != ([97, 108, 108] : List UInt8)) = true := bne_iff_ne.mpr c24; replace H := Option.bind_eq_some_iff.mp H; obtain ⟨t153, A280, H⟩ := H; replace H : (some t153) = some r := H; have A28 := As0.mk A280; clear A280; obtain rfl := Option.some.inj H; have hcz29_0 : wc.cell? ⟨gb151, 0, none⟩ = some (.string a0_0) := (bkC BK151.out 0).trans rfl; have hcz29_1 : wc.cell? ⟨gb151, 1, none⟩ = some (.string a0_1) := (bkC BK151.out 1).trans rfl; have hcz29_2 : wc.cell? ⟨gb151, 2, none⟩ = some (.int .i64 a0_2) := (bkC BK151.out 2).trans rfl; have hcz29_3 : wc.cell? ⟨gb151, 3, none⟩ = some (.bool a0_3) := (bkC BK151.out 3).trans rfl; have hcz29_4 : wc.cell? ⟨gb151, 4, none⟩ = some (.int .i64 a0_4) := (bkC BK151.out 4).trans rfl; have hfz29_0 := bkF BK151.out 0; have hfz29_1 := bkF BK151.out 1; have hfz29_2 := bkF BK151.out 2; have hfz29_3 := bkF BK151.out 3; have hfz29_4 := bkF BK151.out 4
       go_wp2_with (first | ((with_reducible refine gca (f := 105) rfl ?_); refine goesL_ (some 40) rfl rfl Tryd.func105 (by kernel_rfl) rfl #[.string a0_1] rfl (by (try simp only [List.map_toArray, List.map_cons, List.map_nil]); first | done | rfl | (simp only [List.length_drop, List.length_take]; rfl)) ?_; (with_reducible refine (impl_isName.calls a0_1 t153 _ A28.out).mono ?_); rintro e w30 ⟨rfl, hb⟩; refine ⟨_, rfl, ?_⟩; have n0_ := As0.mk (blk_below (g := gb151) (o := .cells #[.string a0_0, .string a0_1, .int .i64 a0_2, .bool a0_3, .int .i64 a0_4] 42 (0, 0)) (by (with_reducible repeat (first | refine bkN ?_ _ | refine bkD ?_ | refine bkA ?_ _)); exact BK151.out) hb); have n1_ := As0.mk (bsp (by repeat (first | (with_reducible first | exact HB.out | apply bal | apply pbN | apply bd1 | refine bst ?_ GE151.out) | exact HB.out)) hb); clear BK151; clear HB; have BK151 := n0_; have HB := n1_; clear n0_ n1_; (try clear hb); (try clear hb2); (try clear hk); (try clear hi)))
       go_ret
       exact ⟨eW, by repeat (first | (with_reducible first | exact HB.out | apply bal | apply pbN | apply bd1 | refine bst ?_ GE151.out) | exact HB.out)⟩
end Go.Proofs.YtlmpmlcjlioeaaaDoor.P
