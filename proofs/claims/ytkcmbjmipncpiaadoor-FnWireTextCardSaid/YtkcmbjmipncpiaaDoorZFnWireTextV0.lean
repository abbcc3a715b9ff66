/- The plain statement of the law FnWireText, proved. -/
import Derived.Test.YtkcmbjmipncpiaaDoorZFnWireTextW0
import Derived.Test.YtkcmbjmipncpiaaDoorZFnWireText0
import Derived.Laws.Bits64
import Derived.WalkKit
import Derived.Test.YtkcmbjmipncpiaaDoorZFnWireText1
import Derived.Lib.Atoi
import Derived.Lib.ItoaLen
import Derived.Lib.ItoaNum
/- Plain lemmas on lists, numbers and strings, for the laws' plain statements. -/
namespace Go.Proofs.YtkcmbjmipncpiaaDoor.V
open Go.RowKit Go.Proofs.YtkcmbjmipncpiaaDoorW.PrintWords Go.Proofs.YtkcmbjmipncpiaaDoorW.PrintMore
theorem succ_of {d k : Nat} (h : d < k) : ∃ m, k = m + 1 := ⟨k - 1, by omega⟩
theorem wrap_id {i : Int} (h : -9223372036854775808 ≤ i) (h' : i ≤ 9223372036854775807) : wrap64 i = i := by unfold wrap64; omega
section
variable {α : Type} {pre suf : List α} {x y : α}
theorem mid_lt : ((pre.length : Int) < ((pre ++ x :: suf).length : Int)) := by simp; omega
theorem end_not_lt : ¬ ((pre.length : Int) < ((pre ++ ([] : List α)).length : Int)) := by simp
theorem rdOf_mid (d : α) : rdOf d (pre ++ x :: suf) (pre.length : Int) = x := by simp [rdOf]
theorem wrap_snoc (h : pre.length < 9223372036854775807) : wrap64 ((pre.length : Int) + 1) = ((pre ++ [x]).length : Int) := by
  rw [wrap_id (by omega) (by omega)]; simp
theorem snoc_app : pre ++ x :: suf = (pre ++ [x]) ++ suf := by simp
end
theorem nat_le0 (n : Nat) : (0 : Int) ≤ (n : Int) := Int.natCast_nonneg n
end Go.Proofs.YtkcmbjmipncpiaaDoor.V
/- What the reader of the drawn input answers: always something, and in bounds. -/
namespace Go.Proofs.YtkcmbjmipncpiaaDoor.V
open Go.RowKit Go.Proofs.YtkcmbjmipncpiaaDoor.P Go.Proofs.YtkcmbjmipncpiaaDoorW.PrintWords Go.Proofs.YtkcmbjmipncpiaaDoorW.PrintMore
def U8 (s : List Int) : Prop := ∀ x ∈ s, 0 ≤ x ∧ x ≤ 255
theorem U8_of {s : List Int} (h : ∀ x ∈ s, (Lit.int .u8 x).wf = true) : U8 s := fun x hx => by
  have := h x hx
  simp [Lit.wf, IntKind.max, IntKind.min, IntKind.signed, IntKind.bits] at this
  omega
theorem rd_u8 {s : List Int} (h : U8 s) (i : Int) : 0 ≤ rd s i ∧ rd s i ≤ 255 := by
  unfold rd
  rw [List.getD_eq_getElem?_getD]
  cases hx : s[i.toNat]? with
  | none => simp
  | some x => exact h x (List.mem_of_getElem? hx)
theorem xor_i64 {a b : Int} (h0 : 0 ≤ a) (h1 : a ≤ 4611686018427387903) (h2 : 0 ≤ b) (h3 : b ≤ 4611686018427387903) : 0 ≤ Go.bits .xor .i64 a b ∧ Go.bits .xor .i64 a b ≤ 9223372036854775807 := by
  obtain ⟨x, rfl⟩ := Int.eq_ofNat_of_zero_le h0
  obtain ⟨y, rfl⟩ := Int.eq_ofNat_of_zero_le h2
  have hx : x ^^^ y < 2 ^ 62 := Nat.xor_lt_two_pow (by omega) (by omega)
  have e1 : (BitVec.ofInt 64 (x : Int)).toNat = x := by
    rw [BitVec.ofInt_natCast, BitVec.toNat_ofNat]; exact Nat.mod_eq_of_lt (by omega)
  have e2 : (BitVec.ofInt 64 (y : Int)).toNat = y := by
    rw [BitVec.ofInt_natCast, BitVec.toNat_ofNat]; exact Nat.mod_eq_of_lt (by omega)
  have e : Go.bits .xor .i64 (x : Int) (y : Int) = IntKind.i64.wrap ((BitVec.ofInt 64 (x : Int) ^^^ BitVec.ofInt 64 (y : Int)).toNat : Int) := rfl
  rw [e, BitVec.toNat_xor, e1, e2, IntKind.wrap_i64]
  omega
theorem tmod_bd {a n : Int} (h0 : 0 ≤ a) (hn : 1 ≤ n) : 0 ≤ Int.tmod a n ∧ Int.tmod a n < n := by
  rw [Int.tmod_eq_emod_of_nonneg h0]
  exact ⟨Int.emod_nonneg _ (by omega), Int.emod_lt_of_pos _ (by omega)⟩
theorem tdiv_bd {a n : Int} (h0 : 0 ≤ a) (hn : 1 ≤ n) : 0 ≤ Int.tdiv a n ∧ Int.tdiv a n ≤ a := by
  rw [Int.tdiv_eq_ediv_of_nonneg h0]
  exact ⟨Int.ediv_nonneg h0 (by omega), Int.ediv_le_self _ h0⟩
/-- One number below n. -/
theorem pick_eq {s : List Int} {q n : Int} {k : Nat} (hs : U8 s) (hl : s.length ≤ 2000) (h0 : 0 ≤ q) (h1 : q ≤ 1000000) (hn : 1 ≤ n) (hk : 0 < k) : ∃ v, spec_l1Rd_pick.f k s q n = some (v, q + 1) ∧ 0 ≤ v ∧ v < n := by
  obtain ⟨k, rfl⟩ := succ_of hk
  unfold spec_l1Rd_pick.f
  rw [if_neg (by omega), wrap_id (i := q + 1) (by omega) (by omega), spec_l1Rd_pick.j0]
  by_cases hz : s.length = 0
  · rw [if_pos (by rw [beq_iff_eq]; omega)]
    exact ⟨0, rfl, by omega, by omega⟩
  · rw [if_neg (by rw [beq_iff_eq]; omega), show q + 1 - 1 = q by omega, wrap_id (i := q) (by omega) (by omega)]
    by_cases h2 : q < (s.length : Int)
    · have hb := rd_u8 hs q
      rw [if_pos h2, if_pos h0, if_neg (by omega), wrap_id (i := rd s q) (by omega) (by omega)]
      exact ⟨_, rfl, tmod_bd hb.1 hn⟩
    · have b1 := tmod_bd (a := q) (n := s.length) h0 (by omega)
      rw [if_neg h2, if_neg (by omega), if_pos b1.1, if_pos b1.2, wrap_id (i := q * 7) (by omega) (by omega), wrap_id (i := q * 7 + 3) (by omega) (by omega)]
      have b2 := tmod_bd (a := q * 7 + 3) (n := s.length) (by omega) (by omega)
      rw [if_pos b2.1, if_pos b2.2, if_neg (by omega)]
      have c1 := rd_u8 hs (Int.tmod q s.length)
      have c2 := rd_u8 hs (Int.tmod (q * 7 + 3) s.length)
      have c3 := tdiv_bd (a := q) (n := s.length) h0 (by omega)
      generalize rd s (Int.tmod q s.length) = A at c1 ⊢
      generalize rd s (Int.tmod (q * 7 + 3) s.length) = B at c2 ⊢
      generalize Int.tdiv q s.length = D at c3 ⊢
      rw [wrap_id (i := A) (by omega) (by omega), wrap_id (i := B) (by omega) (by omega), wrap_id (i := D) (by omega) (by omega), wrap_id (i := A * 131) (by omega) (by omega), wrap_id (i := B * 1117) (by omega) (by omega), wrap_id (i := q * 29) (by omega) (by omega), wrap_id (i := D * 53) (by omega) (by omega),
        wrap_id (i := A * 131 + B * 1117) (by omega) (by omega), wrap_id (i := A * 131 + B * 1117 + q * 29) (by omega) (by omega), wrap_id (i := A * 131 + B * 1117 + q * 29 + D * 53) (by omega) (by omega)]
      have c4 : 0 ≤ A * 131 + B * 1117 + q * 29 + D * 53 ∧ A * 131 + B * 1117 + q * 29 + D * 53 ≤ 1000000000 := by omega
      generalize A * 131 + B * 1117 + q * 29 + D * 53 = X at c4 ⊢
      have c5 := tdiv_bd (a := X) (n := 64) c4.1 (by omega)
      rw [wrap_id (i := Int.tdiv X 64) (by omega) (by omega)]
      have c6 := xor_i64 (a := X) (b := Int.tdiv X 64) (by omega) (by omega) (by omega) (by omega)
      exact ⟨_, rfl, tmod_bd c6.1 hn⟩
/-- One of a list. -/
theorem of_eq {s : List Int} {q : Int} {k : Nat} {l : List ByteArray} (hs : U8 s) (hl : s.length ≤ 2000) (h0 : 0 ≤ q) (h1 : q ≤ 1000000) (hn : 1 ≤ l.length) (hk : 0 < k) : ∃ x, spec_l1Rd_of.f k s q l = some (x, q + 1) ∧ x ∈ l := by
  obtain ⟨v, hv, b0, b1⟩ := pick_eq (n := (l.length : Int)) hs hl h0 h1 (by omega) hk
  unfold spec_l1Rd_of.f
  rw [hv, Option.bind_some, if_pos b0, if_pos b1]
  refine ⟨_, rfl, ?_⟩
  show rdOf ByteArray.empty l v ∈ l
  unfold rdOf
  rw [List.getD_eq_getElem?_getD, List.getElem?_eq_getElem (by omega)]
  exact List.getElem_mem _
theorem open_eq {l : List Int} (h : U8 l) : ∃ s, spec_l1Open.f l = some (s, 0) ∧ U8 s ∧ s.length ≤ 2000 := by
  unfold spec_l1Open.f
  by_cases h1 : (l.length : Int) > 2000
  · rw [if_pos h1, if_pos (by omega)]
    exact ⟨_, rfl, fun x hx => h x (List.mem_of_mem_take hx), by simp; omega⟩
  · rw [if_neg h1]
    exact ⟨_, rfl, h, by omega⟩
end Go.Proofs.YtkcmbjmipncpiaaDoor.V
/- A text many times. -/
namespace Go.Proofs.YtkcmbjmipncpiaaDoor.V
open Go.RowKit Go.Proofs.YtkcmbjmipncpiaaDoor.P Go.Proofs.YtkcmbjmipncpiaaDoorW.PrintWords Go.Proofs.YtkcmbjmipncpiaaDoorW.PrintMore
theorem many_at {x : ByteArray} {n : Int} {z : Nat} (h : (spec_l1Many.f 12 x n).map ByteArray.size = some z) {k : Nat} (hk : 12 ≤ k) : ∃ r, spec_l1Many.f k x n = some r ∧ r.size = z := by
  cases h1 : spec_l1Many.f 12 x n with
  | none => rw [h1] at h; cases h
  | some r =>
    rw [h1] at h
    exact ⟨r, at_rounds (g := fun k => spec_l1Many.f k x n) (fun k => spec_l1Many.mono x n k) hk h1, by simpa using h⟩
end Go.Proofs.YtkcmbjmipncpiaaDoor.V
/- What holds of all bytes of a string, counted from a place on; the order of strings. -/
namespace Go.Proofs.YtkcmbjmipncpiaaDoor.V
open Go.RowKit Go.Proofs.YtkcmbjmipncpiaaDoor.P Go.Proofs.YtkcmbjmipncpiaaDoorW.PrintWords Go.Proofs.YtkcmbjmipncpiaaDoorW.PrintMore
theorem bt_nat (s : ByteArray) (j : Nat) (h : j < s.size) : bt s (j : Nat) = ((s.data.toList[j]'(by simpa using h)).toNat : Int) := by
  unfold bt
  rw [dif_pos (by simpa using h)]
  rfl
end Go.Proofs.YtkcmbjmipncpiaaDoor.V
/- Names: what the program's test and the reference's tell. -/
namespace Go.Proofs.YtkcmbjmipncpiaaDoor.V
open Go.RowKit Go.Proofs.YtkcmbjmipncpiaaDoor.P Go.Proofs.YtkcmbjmipncpiaaDoorW.PrintWords Go.Proofs.YtkcmbjmipncpiaaDoorW.PrintMore
theorem drop_nil {P : UInt8 → Bool} : ∀ l : List UInt8, l.dropWhile P = [] ↔ l.all P = true
  | [] => by simp
  | x :: l => by
    by_cases h : P x = true
    · simp [List.dropWhile, h, drop_nil l]
    · simp [List.dropWhile, h]
theorem take_all {P : UInt8 → Bool} : ∀ l : List UInt8, (l.takeWhile P).all P = true
  | [] => rfl
  | x :: l => by
    by_cases h : P x = true
    · simp only [List.takeWhile, h, List.all_cons, take_all l, Bool.true_and]
    · simp only [List.takeWhile, h]; rfl
theorem size_list (s : ByteArray) : s.size = s.data.toList.length := by rw [Array.length_toList]; rfl
theorem trim_nil (l cs : List UInt8) : Lib.trimS l cs = [] ↔ l.all (fun b => cs.contains b) = true := by
  unfold Lib.trimS Lib.trimLeftS Lib.trimRightS
  rw [drop_nil, List.all_reverse]
  constructor
  · intro h
    have e := List.takeWhile_append_dropWhile (p := fun b => cs.contains b) (l := l.reverse)
    have h2 : l.reverse.all (fun b => cs.contains b) = true := by
      rw [← e, List.all_append, Bool.and_eq_true]
      exact ⟨take_all _, h⟩
    rwa [List.all_reverse] at h2
  · intro h
    have h2 : l.reverse.all (fun b => cs.contains b) = true := by rwa [List.all_reverse]
    rw [(drop_nil l.reverse).2 h2]
    rfl
end Go.Proofs.YtkcmbjmipncpiaaDoor.V
/- Counts: a number out of figures, by the reference and by the program. -/
namespace Go.Proofs.YtkcmbjmipncpiaaDoor.V
open Go.RowKit Go.Proofs.YtkcmbjmipncpiaaDoor.P Go.Proofs.YtkcmbjmipncpiaaDoorW.PrintWords Go.Proofs.YtkcmbjmipncpiaaDoorW.PrintMore
def digB (b : UInt8) : Bool := decide (48 ≤ b.toNat ∧ b.toNat ≤ 57)
/-- The number that figures spell. -/
def num (acc : Nat) (l : List UInt8) : Nat := l.foldl (fun a b => a * 10 + (b.toNat - 48)) acc
/-- Figures of a count. -/
def cntB (s : ByteArray) : Bool := decide (1 ≤ s.size ∧ s.size ≤ 8) && (decide (s.size ≤ 1) || !(bt s 0 == 48)) && s.data.toList.all digB
def figs : ByteArray := (⟨#[48, 49, 50, 51, 52, 53, 54, 55, 56, 57]⟩ : ByteArray)
theorem figs_eq (b : UInt8) : figs.data.toList.contains b = digB b := by
  have h : ∀ n : Fin 256, figs.data.toList.contains (UInt8.ofNat n.1) = digB (UInt8.ofNat n.1) := by decide +kernel
  have := h ⟨b.toNat, b.toNat_lt⟩
  simpa using this
theorem dig_val (b : UInt8) : digB b = true → Lib.digitVal b = some (b.toNat - 48) := by
  have h : ∀ n : Fin 256, digB (UInt8.ofNat n.1) = true → Lib.digitVal (UInt8.ofNat n.1) = some ((UInt8.ofNat n.1).toNat - 48) := by decide +kernel
  have := h ⟨b.toNat, b.toNat_lt⟩
  simpa using this
theorem decFrom_num : ∀ (l : List UInt8) (acc : Nat), l.all digB = true → Lib.decFrom acc l = some (num acc l)
  | [], acc, _ => rfl
  | b :: r, acc, h => by
    simp only [List.all_cons, Bool.and_eq_true] at h
    rw [Lib.decFrom, dig_val b h.1]
    show Lib.decFrom (acc * 10 + (b.toNat - 48)) r = _
    rw [decFrom_num r _ h.2]; rfl
theorem atoi_num (l : List UInt8) (h : l.all digB = true) (hn : l ≠ []) : Lib.atoi l = some ((num 0 l : Nat) : Int) := by
  cases l with
  | nil => exact absurd rfl hn
  | cons b r =>
    have hb : digB b = true := by simp only [List.all_cons, Bool.and_eq_true] at h; exact h.1
    have h1 : (b == 45) = false := by
      rw [Bool.eq_false_iff]; intro e; rw [beq_iff_eq.1 e] at hb; exact absurd hb (by decide)
    have h2 : (b == 43) = false := by
      rw [Bool.eq_false_iff]; intro e; rw [beq_iff_eq.1 e] at hb; exact absurd hb (by decide)
    rw [Lib.atoi, h1, h2]
    simp only [Bool.false_eq_true, if_false]
    rw [Lib.decNat, decFrom_num _ 0 h]
    rfl
theorem l3Num_l0 : ∀ (suf pre : List UInt8) (s : ByteArray) (acc k : Nat), s.data.toList = pre ++ suf → s.size ≤ 8 → (acc + 1) * 10 ^ suf.length ≤ 100000000 → suf.length < k →
    spec_l3Num.l0 k s (acc : Int) (pre.length : Int) = some (if suf.all digB = true then ((num acc suf : Nat) : Int) else -1) := by
  intro suf
  induction suf with
  | nil =>
    intro pre s acc k he hs ha hk
    obtain ⟨k, rfl⟩ := succ_of hk
    have hz : s.size = pre.length := by rw [size_list, he]; simp
    rw [spec_l3Num.l0, if_neg (by omega)]; rfl
  | cons x suf ih =>
    intro pre s acc k he hs ha hk
    obtain ⟨k, rfl⟩ := succ_of hk
    have hz : s.size = pre.length + (suf.length + 1) := by rw [size_list, he]; simp
    have hb : bt s (pre.length : Int) = (x.toNat : Int) := by
      rw [bt_nat s pre.length (by omega)]
      congr 2
      simp [he]
    rw [List.length_cons, Nat.pow_succ] at ha
    have hp : 1 ≤ 10 ^ suf.length := Nat.one_le_pow _ _ (by decide)
    generalize hP : 10 ^ suf.length = P at ha hp
    have ha2 : (acc + 1) * 10 ≤ 100000000 := Nat.le_trans (Nat.mul_le_mul_left (acc + 1) (show 10 ≤ P * 10 by omega)) ha
    have hle : x.toNat ≤ 57 → (acc * 10 + (x.toNat - 48) + 1) * 10 ^ suf.length ≤ 100000000 := by
      intro hx
      rw [hP]
      have hx2 : acc * 10 + (x.toNat - 48) + 1 ≤ (acc + 1) * 10 := by clear ha ha2; omega
      refine Nat.le_trans (Nat.mul_le_mul_right P hx2) ?_
      rw [Nat.mul_assoc, Nat.mul_comm 10 P]
      exact ha
    clear ha hP hp
    rw [spec_l3Num.l0, if_pos (by clear hle; omega), if_pos (by clear hle; omega), hb]
    by_cases h1 : (x.toNat : Int) < 48
    · have : digB x = false := by unfold digB; rw [decide_eq_false (by clear hle; omega)]
      rw [if_pos h1]; simp [this]
    · rw [if_neg h1]
      by_cases h2 : (x.toNat : Int) > 57
      · have : digB x = false := by unfold digB; rw [decide_eq_false (by clear hle; omega)]
        rw [if_pos h2]; simp [this]
      · have hd : digB x = true := by unfold digB; rw [decide_eq_true (by clear hle; omega)]
        have hx57 : x.toNat ≤ 57 := by clear hle; omega
        have hle2 := hle hx57
        clear hle
        rw [if_neg h2, wrap_id (i := (acc : Int) * 10) (by clear hle2; omega) (by clear hle2; omega)]
        have e1 : ((x.toNat : Int) - 48) % 256 = ((x.toNat - 48 : Nat) : Int) := by clear hle2; omega
        have e2 : wrap64 ((acc : Int) * 10 + ((x.toNat - 48 : Nat) : Int)) = ((acc * 10 + (x.toNat - 48) : Nat) : Int) := by
          rw [wrap_id (by clear hle2; omega) (by clear hle2; omega)]; clear hle2; omega
        have e3 : wrap64 ((pre.length : Int) + 1) = ((pre ++ [x]).length : Int) := by rw [wrap_id (by clear hle2; omega) (by clear hle2; omega)]; simp
        rw [e1, e2, e3, ih (pre ++ [x]) s (acc * 10 + (x.toNat - 48)) k (by simp [he]) hs hle2 (by simpa using hk)]
        simp [hd, num]
theorem l3Num_eq (s : ByteArray) (k : Nat) (hk : 20 < k) : spec_l3Num.f k s = some (if cntB s = true then ((num 0 s.data.toList : Nat) : Int) else -1) := by
  have hj : s.size ≤ 8 → ∀ b, spec_l3Num.j0 k s b = some (if b = true then -1 else if s.data.toList.all digB = true then ((num 0 s.data.toList : Nat) : Int) else -1) := by
    intro hs b
    obtain ⟨k, rfl⟩ := succ_of hk
    rw [spec_l3Num.j0]
    cases b with
    | true => rw [if_pos rfl, if_pos rfl]
    | false =>
      have hsz : s.data.toList.length ≤ 8 := by rw [← size_list]; exact hs
      have hlt : s.data.toList.length < k := by omega
      have hpow := Nat.pow_le_pow_right (n := 10) (by decide) hsz
      rw [show (10 : Nat) ^ 8 = 100000000 from rfl] at hpow
      have h0 := l3Num_l0 s.data.toList [] s 0 k rfl hs (by rw [Nat.zero_add, Nat.one_mul]; exact hpow) hlt
      rw [show ((([] : List UInt8).length : Nat) : Int) = 0 from rfl, show ((0 : Nat) : Int) = 0 from rfl] at h0
      rw [if_neg (by simp), if_neg (by simp)]
      exact h0
  have hjt : spec_l3Num.j0 k s true = some (-1) := by
    obtain ⟨k, rfl⟩ := succ_of hk
    rw [spec_l3Num.j0, if_pos rfl]
  have hin : spec_l1In.f (s.size : Int) 1 8 = some (decide (1 ≤ s.size ∧ s.size ≤ 8)) := by
    unfold spec_l1In.f
    by_cases h : 1 ≤ s.size
    · rw [if_pos (by omega)]; congr 1; exact decide_eq_decide.2 (by omega)
    · rw [if_neg (by omega), decide_eq_false (by omega)]
  unfold spec_l3Num.f cntB
  rw [hin, Option.bind_some, hjt]
  by_cases h1 : 1 ≤ s.size ∧ s.size ≤ 8
  · rw [decide_eq_true h1, if_pos rfl]
    by_cases h2 : (s.size : Int) > 1
    · rw [if_pos h2, if_pos (by omega), hj h1.2, decide_eq_false (show ¬ s.size ≤ 1 by omega)]
      cases bt s 0 == 48 <;> simp
    · rw [if_neg h2, hj h1.2, decide_eq_true (show s.size ≤ 1 by omega)]
      simp
  · rw [decide_eq_false h1, if_neg (by simp)]; simp
theorem readCount_eq (s : ByteArray) : impl_readCount.f s = some (if cntB s = true then (((num 0 s.data.toList : Nat) : Int), true) else (0, false)) := by
  have hin : 1 ≤ s.size → s.size ≤ 8 → ((strings_Trim.f s (⟨#[48, 49, 50, 51, 52, 53, 54, 55, 56, 57]⟩ : ByteArray)).bind fun t602 => (if t602.toList = ([] : List UInt8) then ((strconv_Atoi_73.f s).bind fun bt603 => (if bt603.2.isNone = true then (some (bt603.1, true)) else (some (bt603.1, false)))) else (some (0, false)))) = some (if s.data.toList.all digB = true then (((num 0 s.data.toList : Nat) : Int), true) else ((0 : Int), false)) := by
    intro h1 h8
    unfold strings_Trim.f
    rw [if_pos ⟨by omega, by decide +kernel, by decide +kernel⟩, Option.bind_some]
    have e : (⟨(Lib.trimS s.data.toList figs.data.toList).toArray⟩ : ByteArray).toList = Lib.trimS s.data.toList figs.data.toList := by rw [ByteArray.toList_eq]
    have hiff : (⟨(Lib.trimS s.data.toList figs.data.toList).toArray⟩ : ByteArray).toList = [] ↔ s.data.toList.all digB = true := by
      rw [e, trim_nil]; simp only [figs_eq]
    show (if (⟨(Lib.trimS s.data.toList figs.data.toList).toArray⟩ : ByteArray).toList = [] then ((strconv_Atoi_73.f s).bind fun bt603 => (if bt603.2.isNone = true then (some (bt603.1, true)) else (some (bt603.1, false)))) else (some (0, false))) = _
    by_cases hd : s.data.toList.all digB = true
    · rw [if_pos (hiff.2 hd), if_pos hd]
      unfold strconv_Atoi_73.f
      rw [if_pos (by omega), atoi_num _ hd (fun h => by rw [size_list, h] at h1; simp at h1)]
      rfl
    · rw [if_neg (fun h => hd (hiff.1 h)), if_neg hd]
  unfold impl_readCount.f cntB
  by_cases h1 : 1 ≤ s.size
  · rw [if_neg (by omega)]
    by_cases h8 : s.size ≤ 8
    · rw [if_neg (by omega), decide_eq_true (show 1 ≤ s.size ∧ s.size ≤ 8 from ⟨h1, h8⟩)]
      by_cases h2 : (s.size : Int) > 1
      · rw [if_pos h2, if_pos (by omega), decide_eq_false (show ¬ s.size ≤ 1 by omega)]
        by_cases h3 : bt s 0 = 48
        · rw [if_pos h3]; simp [h3]
        · rw [if_neg h3, hin h1 h8]
          have : (bt s 0 == 48) = false := beq_eq_false_iff_ne.mpr h3
          simp [this]
      · rw [if_neg h2, hin h1 h8, decide_eq_true (show s.size ≤ 1 by omega)]; simp
    · rw [if_pos (by omega), decide_eq_false (by omega)]; simp
  · rw [if_pos (by omega), decide_eq_false (by omega)]; simp
end Go.Proofs.YtkcmbjmipncpiaaDoor.V
/- Words read out of bytes: by the reference, by places in the whole text; by the program, by what is left of it. -/
namespace Go.Proofs.YtkcmbjmipncpiaaDoor.V
open Go.RowKit Go.Proofs.YtkcmbjmipncpiaaDoor.P Go.Proofs.YtkcmbjmipncpiaaDoorW.PrintWords Go.Proofs.YtkcmbjmipncpiaaDoorW.PrintMore
theorem ext_list' (s : ByteArray) (i j : Nat) : (s.extract i j).data.toList = (s.data.toList.drop i).take (j - i) := by
  rw [ByteArray.data_extract, Array.toList_extract, List.extract_eq_take_drop]
theorem ba_ext {a b : ByteArray} (h : a.data.toList = b.data.toList) : a = b := by
  cases a with
  | mk x =>
    cases b with
    | mk y =>
      cases x; cases y
      simpa using h
theorem ex_size (s : ByteArray) (i j : Nat) (h : j ≤ s.size) : (s.extract i j).size = j - i := by
  rw [size_list, ext_list', List.length_take, List.length_drop, ← size_list]; omega
theorem ex_cong {s : ByteArray} {i j a b : Nat} (hi : i = a) (hj : j = b) : s.extract i j = s.extract a b := by rw [hi, hj]
theorem ex_all (s : ByteArray) (p : Nat) : (s.extract p s.size).data.toList = s.data.toList.drop p := by
  rw [ext_list', List.take_of_length_le]
  rw [List.length_drop, ← size_list]; exact Nat.le_refl _
theorem ex_ex (s : ByteArray) (p a b : Nat) (_ : p + b ≤ s.size) : (s.extract p s.size).extract a b = s.extract (p + a) (p + b) := by
  apply ba_ext
  rw [ext_list', ex_all, ext_list', List.drop_drop]
  congr 1
  omega
theorem bt_ex (s : ByteArray) (p j : Nat) (h : p + j < s.size) : bt (s.extract p s.size) (j : Int) = bt s ((p + j : Nat) : Int) := by
  rw [bt_nat _ j (by rw [ex_size _ _ _ (Nat.le_refl _)]; omega), bt_nat s (p + j) h]
  congr 2
  simp only [ex_all, List.getElem_drop]
/-- The first colon from a place on; the end for none. -/
def fc (s : ByteArray) : Nat → Nat → Nat
  | 0, p => p
  | d + 1, p => if bt s (p : Int) = 58 then p else fc s d (p + 1)
theorem fc_ge (s : ByteArray) : ∀ (d p : Nat), p ≤ fc s d p
  | 0, p => Nat.le_refl _
  | d + 1, p => by
    rw [fc]
    split
    · exact Nat.le_refl _
    · have := fc_ge s d (p + 1); omega
theorem fc_le (s : ByteArray) : ∀ (d p : Nat), fc s d p ≤ p + d
  | 0, p => Nat.le_refl _
  | d + 1, p => by
    rw [fc]
    split
    · omega
    · have := fc_le s d (p + 1); omega
theorem fc_colon (s : ByteArray) : ∀ (d p : Nat), fc s d p < p + d → bt s (fc s d p : Nat) = 58
  | 0, p, h => by rw [fc] at h; omega
  | d + 1, p, h => by
    rw [fc] at h ⊢
    split
    · assumption
    · rename_i hc
      rw [if_neg hc] at h
      exact fc_colon s d (p + 1) (by omega)
theorem idx_fc (s : ByteArray) : ∀ (d p : Nat), p + d = s.size → Lib.indexByte (s.data.toList.drop p) 58 = if fc s d p = s.size then -1 else ((fc s d p - p : Nat) : Int)
  | 0, p, h => by
    rw [List.drop_of_length_le (by rw [← size_list]; omega), fc, if_pos (by omega)]; rfl
  | d + 1, p, h => by
    have hp : p < s.data.toList.length := by rw [← size_list]; omega
    have hb := bt_nat s p (by omega)
    rw [List.drop_eq_getElem_cons hp, Lib.indexByte, fc, hb]
    have hge := fc_ge s d (p + 1)
    by_cases hc : s.data.toList[p] = 58
    · have h1 : (s.data.toList[p] == 58) = true := by rw [hc]; rfl
      have hfc : (if (s.data.toList[p].toNat : Int) = 58 then p else fc s d (p + 1)) = p := if_pos (by rw [hc]; rfl)
      rw [hfc, h1, if_pos (rfl : true = true), if_neg (by omega)]; simp
    · have h1 : (s.data.toList[p] == 58) = false := beq_eq_false_iff_ne.mpr hc
      have h2 : ¬ ((s.data.toList[p].toNat : Int) = 58) := fun e => hc (UInt8.toNat_inj.1 (by rw [show (58 : UInt8).toNat = 58 from rfl]; omega))
      rw [h1, if_neg (by simp), if_neg h2, idx_fc s d (p + 1) (by omega)]
      by_cases hs : fc s d (p + 1) = s.size
      · rw [if_pos hs, if_pos hs]; rfl
      · rw [if_neg hs, if_neg hs]
        have h3 : ((((fc s d (p + 1) - (p + 1) : Nat) : Int)) == -1) = false := beq_eq_false_iff_ne.mpr (by omega)
        rw [h3, if_neg (by simp)]; omega
theorem num_lt : ∀ (l : List UInt8) (acc : Nat), l.all digB = true → num acc l < (acc + 1) * 10 ^ l.length
  | [], acc, _ => by show acc < (acc + 1) * 1; omega
  | b :: r, acc, h => by
    simp only [List.all_cons, Bool.and_eq_true] at h
    have hb : b.toNat ≤ 57 := by
      have := h.1
      unfold digB at this
      rw [decide_eq_true_eq] at this
      exact this.2
    have h1 := num_lt r (acc * 10 + (b.toNat - 48)) h.2
    have e : num acc (b :: r) = num (acc * 10 + (b.toNat - 48)) r := rfl
    rw [e, List.length_cons, Nat.pow_succ]
    refine Nat.lt_of_lt_of_le h1 ?_
    rw [Nat.mul_comm (10 ^ r.length) 10, ← Nat.mul_assoc]
    exact Nat.mul_le_mul_right _ (by omega)
theorem num_cnt {s : ByteArray} (h : cntB s = true) : num 0 s.data.toList < 100000000 := by
  unfold cntB at h
  simp only [Bool.and_eq_true, decide_eq_true_eq] at h
  have h1 := num_lt s.data.toList 0 h.2
  have h2 : s.data.toList.length ≤ 8 := by rw [← size_list]; exact h.1.1.2
  have h3 := Nat.pow_le_pow_right (n := 10) (by decide) h2
  rw [show (10 : Nat) ^ 8 = 100000000 from rfl] at h3
  omega
/-- The words from a place on. -/
def wgF (s : ByteArray) : Nat → Nat → List ByteArray → List ByteArray × Bool
  | 0, _, out => (out, true)
  | d + 1, p, out => if p < s.size then
      (if fc s (s.size - p) p = s.size then ([], false) else if cntB (s.extract p (fc s (s.size - p) p)) = true then
        (if fc s (s.size - p) p + 1 + num 0 (s.extract p (fc s (s.size - p) p)).data.toList < s.size ∧ bt s ((fc s (s.size - p) p + 1 + num 0 (s.extract p (fc s (s.size - p) p)).data.toList : Nat) : Int) = 44 then
          wgF s d (fc s (s.size - p) p + num 0 (s.extract p (fc s (s.size - p) p)).data.toList + 2) (out ++ [s.extract (fc s (s.size - p) p + 1) (fc s (s.size - p) p + 1 + num 0 (s.extract p (fc s (s.size - p) p)).data.toList)])
        else ([], false)) else ([], false)) else (out, true)
theorem wgF_len (s : ByteArray) : ∀ (d p : Nat) (out : List ByteArray), (wgF s d p out).1.length ≤ out.length + d
  | 0, p, out => Nat.le_refl _
  | d + 1, p, out => by
    rw [wgF]
    split
    · split
      · simp
      · split
        · split
          · refine Nat.le_trans (wgF_len s d _ _) ?_
            simp; omega
          · simp
        · simp
    · show out.length ≤ _; omega
theorem l1_skip (s : ByteArray) (hs : s.size ≤ 1000000) (out : List ByteArray) (from_ : Int) : ∀ (e at_ k : Nat), at_ + e = s.size → e < k → spec_WireGet.l1 k s out (at_ : Int) from_ = spec_WireGet.l1 (k - (fc s e at_ - at_)) s out ((fc s e at_ : Nat) : Int) from_ := by
  intro e
  induction e with
  | zero => intro at_ k h hk; rw [fc, Nat.sub_self]; rfl
  | succ e ih =>
    intro at_ k h hk
    obtain ⟨k, rfl⟩ := succ_of hk
    rw [fc]
    by_cases hc : bt s (at_ : Int) = 58
    · rw [if_pos hc, Nat.sub_self]; rfl
    · have hge := fc_ge s e (at_ + 1)
      rw [if_neg hc, spec_WireGet.l1, if_pos (by omega), if_pos (by omega), if_neg hc, show wrap64 ((at_ : Int) + 1) = ((at_ + 1 : Nat) : Int) by rw [wrap_id (by omega) (by omega)]; omega, ih (at_ + 1) k (by omega) (by omega)]
      congr 1
      omega
theorem sGet_l0 (s : ByteArray) (hs : s.size ≤ 2000) : ∀ (d p : Nat) (out : List ByteArray) (k : Nat), s.size ≤ p + d → out.length + d ≤ 1000000 → 3 * (s.size - p) + 60 < k → (d = 0 ∨ p ≤ s.size) → d ≤ 2100 →
    spec_WireGet.l0 k s out (p : Int) = some (wgF s d p out) := by
  intro d
  induction d with
  | zero =>
    intro p out k h1 h2 hk _ _
    obtain ⟨k, rfl⟩ := succ_of hk
    rw [spec_WireGet.l0, if_neg (by omega)]; rfl
  | succ d ih =>
    intro p out k h1 h2 hk _ hd
    have hp : p ≤ s.size := by omega
    obtain ⟨k, rfl⟩ := succ_of (show 0 < k by omega)
    rw [spec_WireGet.l0, wgF]
    by_cases hlt : p < s.size
    · rw [if_pos (by omega), if_pos hlt]
      have hge := fc_ge s (s.size - p) p
      have hle := fc_le s (s.size - p) p
      have hcol := fc_colon s (s.size - p) p
      have hskip := l1_skip s (by omega) out (p : Int) (s.size - p) p k (by omega) (by omega)
      rw [hskip]
      generalize fc s (s.size - p) p = j at hge hle hcol
      have hk2 : ∃ k', k - (j - p) = k' + 1 ∧ k' + (j - p) + 1 = k := ⟨k - (j - p) - 1, by omega, by omega⟩
      obtain ⟨k', e, hk'⟩ := hk2
      rw [e, spec_WireGet.l1]
      have hw := l3Num_eq (s.extract p j) k' (by omega)
      have hext : s.extract (p : Int).toNat (j : Int).toNat = s.extract p j := by simp
      by_cases hj : j = s.size
      · rw [if_neg (by omega), if_pos (by omega), if_pos (by omega), if_pos (by omega), hext, hw, Option.bind_some, if_pos (by omega), if_pos hj]
      · have hjl : j < s.size := by omega
        have hc58 := hcol (by omega)
        rw [if_pos (by omega), if_pos (by omega), if_pos hc58, if_pos (by omega), if_pos (by omega), if_pos (by omega), hext, hw, Option.bind_some, if_neg (by omega), if_neg hj]
        by_cases hcn : cntB (s.extract p j) = true
        · have hn := num_cnt hcn
          simp only [if_pos hcn]
          generalize num 0 (s.extract p j).data.toList = n at hn
          have W : Aside0 (wrap64 ((j : Int) + 1) = ((j + 1 : Nat) : Int) ∧ wrap64 (((j + 1 : Nat) : Int) + (n : Int)) = ((j + 1 + n : Nat) : Int) ∧ wrap64 (wrap64 ((j : Int) + (n : Int)) + 2) = ((j + n + 2 : Nat) : Int)) :=
            ⟨by rw [wrap_id (by omega) (by omega)]; omega, by rw [wrap_id (by omega) (by omega)]; omega, by rw [wrap_id (i := (j : Int) + n) (by omega) (by omega), wrap_id (by omega) (by omega)]; omega⟩
          rw [if_neg (by omega), W.out.1, W.out.2.1, W.out.2.2]
          by_cases h3 : j + 1 + n < s.size
          · rw [if_neg (by omega), if_pos (by omega), if_pos (by omega)]
            by_cases h4 : bt s ((j + 1 + n : Nat) : Int) = 44
            · rw [if_pos h4, if_pos (by omega), if_pos (by omega), if_pos (by omega), if_pos (by omega), if_pos ⟨h3, h4⟩]
              have hx : s.extract (((j + 1 : Nat) : Int)).toNat (((j + 1 + n : Nat) : Int)).toNat = s.extract (j + 1) (j + 1 + n) := by rw [Int.toNat_natCast, Int.toNat_natCast]
              rw [hx]
              exact ih (j + n + 2) _ k' (by omega) (by simp; omega) (by omega) (by omega) (by omega)
            · rw [if_neg h4, if_neg (fun h => h4 h.2)]
          · rw [if_pos (by omega), if_neg (fun h => h3 h.1)]
        · simp only [if_neg hcn]
          rw [if_pos (by omega)]
    · rw [if_neg (by omega), if_neg hlt]
theorem sGet_eq (s : ByteArray) (k : Nat) (hk : 10000 < k) : spec_WireGet.f k s = some (if s.size ≤ 2000 then wgF s s.size 0 [] else ([], false)) := by
  unfold spec_WireGet.f
  rw [Option.bind_some]
  by_cases h : s.size ≤ 2000
  · rw [if_neg (by omega), if_pos h]
    exact sGet_l0 s h s.size 0 [] k (by omega) (by simp; omega) (by omega) (.inr (Nat.zero_le _)) (by omega)
  · rw [if_pos (by omega), if_neg h]
theorem iCut_eq (s : ByteArray) (p : Nat) (hp : p ≤ s.size) (hs : s.size ≤ 2000) : strings_Cut.f (s.extract p s.size) (⟨#[58]⟩ : ByteArray) = some (if fc s (s.size - p) p = s.size then (s.extract p s.size, ⟨#[]⟩, false) else (s.extract p (fc s (s.size - p) p), s.extract (fc s (s.size - p) p + 1) s.size, true)) := by
  unfold strings_Cut.f stringslite_Cut.f stringslite_Index.f
  have hd : (⟨#[58]⟩ : ByteArray).data.toList = [58] := rfl
  have h1 : (⟨#[58]⟩ : ByteArray).size = 1 := rfl
  have hsz := ex_size s p s.size (Nat.le_refl _)
  rw [hd]
  dsimp only
  rw [Option.bind_some, ex_all, idx_fc s (s.size - p) p (by omega), h1, hsz]
  have hge := fc_ge s (s.size - p) p
  have hle := fc_le s (s.size - p) p
  generalize fc s (s.size - p) p = j at hge hle
  by_cases hj : j = s.size
  · rw [if_pos hj, if_neg (by omega), if_pos hj]; rfl
  · rw [if_neg hj, if_neg hj, if_pos (by omega), if_pos (by omega), if_pos (by omega), show wrap64 (((j - p : Nat) : Int) + ((1 : Nat) : Int)) = ((j - p + 1 : Nat) : Int) by rw [wrap_id (by omega) (by omega)]; omega, if_pos (by omega), if_pos (by omega), Option.bind_some]
    have e1 : (s.extract p s.size).extract 0 ((j - p : Nat) : Int).toNat = s.extract p j := by
      rw [Int.toNat_natCast]; exact (ex_ex _ _ _ _ (by omega)).trans (ex_cong (by omega) (by omega))
    have e2 : (s.extract p s.size).extract ((j - p + 1 : Nat) : Int).toNat (s.size - p) = s.extract (j + 1) s.size := by
      rw [Int.toNat_natCast]; exact (ex_ex _ _ _ _ (by omega)).trans (ex_cong (by omega) (by omega))
    rw [e1, e2]
theorem iGet_l0 (s : ByteArray) (hs : s.size ≤ 2000) : ∀ (d p : Nat) (out : List ByteArray) (k : Nat), s.size ≤ p + d → out.length + d ≤ 1000000 → d + 60 < k → p ≤ s.size →
    impl_wireGet.l0 k (s.extract p s.size) out = some (wgF s d p out) := by
  intro d
  induction d with
  | zero =>
    intro p out k h1 h2 hk hp
    obtain ⟨k, rfl⟩ := succ_of hk
    have : (s.extract p s.size).toList = [] := by rw [ByteArray.toList_eq, ex_all, List.drop_of_length_le (by rw [← size_list]; omega)]
    rw [impl_wireGet.l0, if_pos this]; rfl
  | succ d ih =>
    intro p out k h1 h2 hk hp
    obtain ⟨k, rfl⟩ := succ_of (show 0 < k by omega)
    rw [impl_wireGet.l0, wgF]
    by_cases hlt : p < s.size
    · have hne : ¬ (s.extract p s.size).toList = [] := by
        rw [ByteArray.toList_eq, ex_all, List.drop_eq_nil_iff, ← size_list]; omega
      rw [if_neg hne, if_pos hlt, iCut_eq s p hp hs, Option.bind_some]
      have hge := fc_ge s (s.size - p) p
      have hle := fc_le s (s.size - p) p
      generalize fc s (s.size - p) p = j at hge hle
      by_cases hj : j = s.size
      · simp only [if_pos hj]
        rw [readCount_eq, Option.bind_some, if_neg (by simp)]
      · simp only [if_neg hj]
        rw [readCount_eq, Option.bind_some, if_pos trivial]
        by_cases hcn : cntB (s.extract p j) = true
        · have hn := num_cnt hcn
          simp only [if_pos hcn, if_true]
          generalize num 0 (s.extract p j).data.toList = n at hn
          have hsz := ex_size s (j + 1) s.size (Nat.le_refl _)
          rw [hsz]
          by_cases h3 : j + 1 + n < s.size
          · have W : Aside0 (wrap64 ((n : Int) + 1) = ((n + 1 : Nat) : Int)) := ⟨by rw [wrap_id (by omega) (by omega)]; omega⟩
            rw [if_neg (by omega), if_pos (by omega), if_pos (by omega), bt_ex s (j + 1) n h3, W.out]
            by_cases h4 : bt s ((j + 1 + n : Nat) : Int) = 44
            · rw [if_pos h4, if_pos (by omega), if_pos (by omega), if_pos (by omega), if_pos (by omega), if_pos ⟨h3, h4⟩]
              have e1 : (s.extract (j + 1) s.size).extract 0 ((n : Nat) : Int).toNat = s.extract (j + 1) (j + 1 + n) := by
                rw [Int.toNat_natCast]; exact (ex_ex _ _ _ _ (by omega)).trans (ex_cong (by omega) (by omega))
              have e2 : (s.extract (j + 1) s.size).extract ((n + 1 : Nat) : Int).toNat (s.size - (j + 1)) = s.extract (j + n + 2) s.size := by
                rw [Int.toNat_natCast]; exact (ex_ex _ _ _ _ (by omega)).trans (ex_cong (by omega) (by omega))
              rw [e1, e2]
              exact ih (j + n + 2) _ k (by omega) (by simp; omega) (by omega) (by omega)
            · rw [if_neg h4, if_neg (fun h => h4 h.2)]
          · rw [if_pos (by omega), if_neg (fun h => h3 h.1)]
        · simp only [if_neg hcn]
          rw [if_neg (by simp)]
    · have he : (s.extract p s.size).toList = [] := by rw [ByteArray.toList_eq, ex_all, List.drop_of_length_le (by rw [← size_list]; omega)]
      rw [if_pos he, if_neg hlt]
theorem iGet_eq (s : ByteArray) (k : Nat) (hk : 10000 < k) : impl_WireGet.f k s = some (if s.size ≤ 2000 then wgF s s.size 0 [] else ([], false)) := by
  unfold impl_WireGet.f impl_wireGet.f
  by_cases h : s.size ≤ 2000
  · have e : s.extract 0 s.size = s := ba_ext (by rw [ex_all, List.drop_zero])
    have h0 := iGet_l0 s h s.size 0 [] k (by omega) (by simp; omega) (by omega) (Nat.zero_le _)
    rw [e] at h0
    rw [if_neg (by omega), h0, if_pos h, Option.bind_some]
  · rw [if_pos (by omega), if_neg h, Option.bind_some]
end Go.Proofs.YtkcmbjmipncpiaaDoor.V
/- Numerals: the reference's and strconv's. -/
namespace Go.Proofs.YtkcmbjmipncpiaaDoor.V
open Go.RowKit Go.Proofs.YtkcmbjmipncpiaaDoor.P Go.Proofs.YtkcmbjmipncpiaaDoorW.PrintWords Go.Proofs.YtkcmbjmipncpiaaDoorW.PrintMore
theorem one_num {n : Nat} (h : n < 10) : strOfNums [(wrap64 (48 + (n : Int))) % 256] = (⟨#[UInt8.ofNat (48 + n)]⟩ : ByteArray) := by
  rw [wrap_id (by omega) (by omega)]
  have : (48 + (n : Int)) % 256 = ((48 + n : Nat) : Int) := by omega
  rw [this]
  have h2 : (((48 + n : Nat) : Int)).toNat = 48 + n := by omega
  simp only [strOfNums, List.map_cons, List.map_nil, h2]
theorem dec_size : ∀ (d u : Nat), u < 10 ^ (d + 1) → (Lib.decDigits u).length ≤ d + 1
  | 0, u, h => by rw [Lib.decDigits, dif_pos (by simpa using h)]; simp
  | d + 1, u, h => by
    rw [Lib.decDigits]
    by_cases h1 : u < 10
    · rw [dif_pos h1]; simp
    · rw [dif_neg h1]
      have := dec_size d (u / 10) (by rw [Nat.pow_succ] at h; omega)
      simp; omega
/-- The reference's numeral. -/
theorem l1Dec_eq : ∀ (d k : Nat) (u : Nat), u ≤ 9223372036854775807 → u < 10 ^ (d + 1) → d < 25 → d < k → spec_l1Dec.f k (u : Int) = some ⟨(Lib.decDigits u).toArray⟩ := by
  intro d
  induction d with
  | zero =>
    intro k u h9 hd _ hk
    obtain ⟨k, rfl⟩ := succ_of hk
    have hu : u < 10 := by simpa using hd
    rw [spec_l1Dec.f, if_neg (by omega), if_neg (by omega), if_pos (by omega), one_num hu, Lib.decDigits, dif_pos hu]
  | succ d ih =>
    intro k u h9 hd h25 hk
    obtain ⟨k, rfl⟩ := succ_of hk
    rw [spec_l1Dec.f, if_neg (by omega), if_neg (by omega)]
    by_cases hu : u < 10
    · rw [if_pos (by omega), one_num hu, Lib.decDigits, dif_pos hu]
    · have e1 : wrap64 (Int.tdiv (u : Int) 10) = ((u / 10 : Nat) : Int) := by
        rw [Int.tdiv_eq_ediv_of_nonneg (by omega), wrap_id (by omega) (by omega)]; rfl
      have e2 : Int.tmod (u : Int) 10 = ((u % 10 : Nat) : Int) := by
        rw [Int.tmod_eq_emod_of_nonneg (by omega)]; rfl
      have hs := dec_size d (u / 10) (by rw [Nat.pow_succ] at hd; omega)
      rw [if_neg (by omega), e1, ih k (u / 10) (by omega) (by rw [Nat.pow_succ] at hd; omega) (by omega) (by omega), e2]
      simp only [Option.bind_some]
      rw [one_num (Nat.mod_lt _ (by decide))]
      rw [if_pos (by show (Lib.decDigits (u / 10)).toArray.size + 1 ≤ _; rw [List.size_toArray]; omega)]
      rw [show Lib.decDigits u = Lib.decDigits (u / 10) ++ [UInt8.ofNat (48 + u % 10)] by rw [Lib.decDigits, dif_neg hu]]
      first | done | congr 1
      try first | done | (apply ByteArray.ext; simp)
/-- A number that is not below nothing, in figures. -/
def itoaB (n : Int) : ByteArray := ⟨(Lib.itoa n).toArray⟩
theorem sDec_eq {n : Int} {k : Nat} (h0 : 0 ≤ n) (h9 : n ≤ 9223372036854775807) (hk : 30 ≤ k) : spec_l1Dec.f k n = some (itoaB n) := by
  obtain ⟨u, rfl⟩ : ∃ u : Nat, n = u := ⟨n.toNat, by omega⟩
  rw [l1Dec_eq 20 k u (by omega) (by omega) (by omega) (by omega), itoaB, Lib.itoa, if_neg (by omega)]
  rfl
theorem itoaB_size {n : Int} (h0 : -9223372036854775808 ≤ n) (h9 : n ≤ 9223372036854775807) : (itoaB n).size ≤ 21 := by
  show (Lib.itoa n).toArray.size ≤ 21
  rw [List.size_toArray]
  exact Lib.itoa_length_le n h0 h9
end Go.Proofs.YtkcmbjmipncpiaaDoor.V
/- Words written as_ bytes. -/
namespace Go.Proofs.YtkcmbjmipncpiaaDoor.V
open Go.RowKit Go.Proofs.YtkcmbjmipncpiaaDoor.P Go.Proofs.YtkcmbjmipncpiaaDoorW.PrintWords Go.Proofs.YtkcmbjmipncpiaaDoorW.PrintMore
/-- One word. -/
def wOne (s : ByteArray) : ByteArray := ((itoaB (s.size : Int) ++ (⟨#[58]⟩ : ByteArray)) ++ s) ++ (⟨#[44]⟩ : ByteArray)
/-- All words, behind what is there. -/
def wAll : List ByteArray → ByteArray → ByteArray
  | [], o => o
  | s :: l, o => wAll l (o ++ wOne s)
theorem wOne_size (s : ByteArray) : (wOne s).size = (itoaB (s.size : Int)).size + 1 + s.size + 1 := by
  unfold wOne
  simp only [ByteArray.size_append]
  rfl
def wSum : List ByteArray → Nat
  | [] => 0
  | s :: l => s.size + 23 + wSum l
theorem wAll_ge : ∀ (l : List ByteArray) (o : ByteArray), o.size ≤ (wAll l o).size
  | [], o => Nat.le_refl _
  | s :: l, o => by
    have := wAll_ge l (o ++ wOne s)
    rw [ByteArray.size_append] at this
    show o.size ≤ (wAll l (o ++ wOne s)).size
    omega
theorem app4 (o a b c d : ByteArray) : ((((o ++ a) ++ b) ++ c) ++ d) = o ++ (((a ++ b) ++ c) ++ d) := by
  simp only [ByteArray.append_assoc]
theorem l3Wire_l0 : ∀ (suf pre : List ByteArray) (o : ByteArray) (k : Nat), suf.length + 31 < k → (pre ++ suf).length ≤ 1000000000000 → (∀ s ∈ suf, s.size ≤ 1000000000000) → o.size + wSum suf ≤ 9223372036854775807 →
    spec_l3Wire.l0 k (pre ++ suf) o (pre.length : Int) = some (wAll suf o) := by
  intro suf
  induction suf with
  | nil =>
    intro pre o k hk hb hs ho
    obtain ⟨k, rfl⟩ := succ_of hk
    rw [spec_l3Wire.l0, if_neg end_not_lt]; rfl
  | cons x suf ih =>
    intro pre o k hk hb hs ho
    obtain ⟨k, rfl⟩ := succ_of hk
    have hx := hs x (by simp)
    have hi := itoaB_size (n := (x.size : Int)) (by omega) (by omega)
    have hw := wOne_size x
    simp only [wSum] at ho
    rw [spec_l3Wire.l0, if_pos mid_lt, if_pos (nat_le0 _), rdOf_mid, sDec_eq (by omega) (by omega) (by simp at hk; omega), Option.bind_some]
    rw [if_pos (by omega), if_pos (by omega), if_pos (by omega), if_pos (by omega), wrap_snoc (x := x) (by simp at hb; omega), snoc_app, app4]
    exact ih (pre ++ [x]) (o ++ wOne x) k (by simp at hk; omega) (by simpa using hb) (fun s h => hs s (by simp [h])) (by rw [ByteArray.size_append]; omega)
theorem wirePut_l0 : ∀ (suf pre : List ByteArray) (o : ByteArray) (k : Nat), suf.length < k → (pre ++ suf).length ≤ 1000000000000 → (∀ s ∈ suf, s.size ≤ 1000000000000) → o.size ≤ 2000 →
    impl_wirePut.l0 k o (pre ++ suf) ((pre ++ suf).length : Int) (pre.length : Int) = some (if (wAll suf o).size > 2000 then (⟨#[]⟩ : ByteArray) else wAll suf o) := by
  intro suf
  induction suf with
  | nil =>
    intro pre o k hk hb hs ho
    obtain ⟨k, rfl⟩ := succ_of hk
    rw [impl_wirePut.l0, if_neg (by simp)]
    show _ = some (if o.size > 2000 then _ else o)
    rw [if_neg (by omega)]
  | cons x suf ih =>
    intro pre o k hk hb hs ho
    obtain ⟨k, rfl⟩ := succ_of hk
    have hx := hs x (by simp)
    have hi := itoaB_size (n := (x.size : Int)) (by omega) (by omega)
    have hw := wOne_size x
    have hg := wAll_ge suf (o ++ wOne x)
    rw [ByteArray.size_append] at hg
    show impl_wirePut.l0 _ _ _ _ _ = some (if (wAll suf (o ++ wOne x)).size > 2000 then _ else wAll suf (o ++ wOne x))
    rw [impl_wirePut.l0, if_pos mid_lt, if_pos (nat_le0 _), if_pos mid_lt, rdOf_mid]
    by_cases h1 : (x.size : Int) > 2000
    · rw [if_pos h1, if_pos (by omega)]
    · rw [if_neg h1]
      unfold strconv_Itoa_65.f
      rw [if_pos ⟨by omega, by omega⟩, Option.bind_some]
      show (if (itoaB (x.size : Int)).size + 1 ≤ 9223372036854775807 then (if (itoaB (x.size : Int)).size + 1 + x.size ≤ 9223372036854775807 then (if (itoaB (x.size : Int)).size + 1 + x.size + 1 ≤ 9223372036854775807 then (if o.size + ((itoaB (x.size : Int)).size + 1 + x.size + 1) ≤ 9223372036854775807 then (if ((o.size : Int) + (((itoaB (x.size : Int)).size : Int) + 1 + (x.size : Int) + 1)) > 2000 then (some (⟨#[]⟩ : ByteArray)) else (impl_wirePut.l0 k (o ++ wOne x) (pre ++ x :: suf) ((pre ++ x :: suf).length : Int) (wrap64 ((pre.length : Int) + 1)))) else (none)) else (none)) else (none)) else (none)) = _
      rw [if_pos (by omega), if_pos (by omega), if_pos (by omega), if_pos (by omega)]
      by_cases h2 : ((o.size : Int) + (((itoaB (x.size : Int)).size : Int) + 1 + (x.size : Int) + 1)) > 2000
      · rw [if_pos h2, if_pos (by omega)]
      · rw [if_neg h2, wrap_snoc (x := x) (by simp at hb; omega), snoc_app]
        exact ih (pre ++ [x]) (o ++ wOne x) k (by simp at hk; omega) (by simpa using hb) (fun s h => hs s (by simp [h])) (by rw [ByteArray.size_append]; omega)
def wire (l : List ByteArray) : ByteArray := if (wAll l (⟨#[]⟩ : ByteArray)).size > 2000 then (⟨#[]⟩ : ByteArray) else wAll l (⟨#[]⟩ : ByteArray)
theorem WirePut_eq (l : List ByteArray) (k : Nat) (hk : l.length < k) (hb : l.length ≤ 1000000000000) (hs : ∀ s ∈ l, s.size ≤ 1000000000000) : impl_WirePut.f k l = some (wire l) := by
  unfold impl_WirePut.f impl_wirePut.f wire
  have := wirePut_l0 l [] (⟨#[]⟩ : ByteArray) k hk hb hs (by decide)
  rw [List.nil_append, show ((([] : List ByteArray).length : Nat) : Int) = 0 from rfl] at this
  rw [this]; rfl
theorem sWirePut_eq (l : List ByteArray) (k : Nat) (hk : l.length + 31 < k) (hb : l.length ≤ 1000000000000) (hs : ∀ s ∈ l, s.size ≤ 1000000000000) (hz : wSum l ≤ 9223372036854775807) : spec_WirePut.f k l = some (wire l) := by
  unfold spec_WirePut.f spec_l3Wire.f wire
  have := l3Wire_l0 l [] (⟨#[]⟩ : ByteArray) k hk hb hs (by show 0 + wSum l ≤ _; omega)
  rw [List.nil_append, show ((([] : List ByteArray).length : Nat) : Int) = 0 from rfl] at this
  rw [this, Option.bind_some]
  by_cases h : (wAll l (⟨#[]⟩ : ByteArray)).size > 2000
  · rw [if_pos (by omega), if_pos h]
  · rw [if_neg (by omega), if_neg h]
end Go.Proofs.YtkcmbjmipncpiaaDoor.V
/- Words written and read again; read and written again. -/
namespace Go.Proofs.YtkcmbjmipncpiaaDoor.V
open Go.RowKit Go.Proofs.YtkcmbjmipncpiaaDoor.P Go.Proofs.YtkcmbjmipncpiaaDoorW.PrintWords Go.Proofs.YtkcmbjmipncpiaaDoorW.PrintMore
theorem num_snoc (l : List UInt8) (b : UInt8) (acc : Nat) : num acc (l ++ [b]) = num acc l * 10 + (b.toNat - 48) := by
  unfold num; rw [List.foldl_append]; rfl
theorem dig_of (i : Nat) (h : i < 10) : digB (UInt8.ofNat (48 + i)) = true ∧ (UInt8.ofNat (48 + i)).toNat = 48 + i := by
  have : ∀ n : Fin 10, digB (UInt8.ofNat (48 + n.1)) = true ∧ (UInt8.ofNat (48 + n.1)).toNat = 48 + n.1 := by decide
  exact this ⟨i, h⟩
theorem head_app {l t : List UInt8} (h : l ≠ []) : (l ++ t).head? = l.head? := by
  cases l with
  | nil => exact absurd rfl h
  | cons b r => rfl
theorem dd_big {u : Nat} (h : ¬ u < 10) : Lib.decDigits u = Lib.decDigits (u / 10) ++ [UInt8.ofNat (48 + u % 10)] := by rw [Lib.decDigits, dif_neg h]
theorem dd_num : ∀ (n u : Nat), u ≤ n → num 0 (Lib.decDigits u) = u ∧ (Lib.decDigits u).all digB = true ∧ (Lib.decDigits u) ≠ [] ∧ (1 ≤ u → (Lib.decDigits u).head? ≠ some 48) := by
  intro n
  induction n with
  | zero =>
    intro u hu
    obtain rfl : u = 0 := by omega
    rw [Lib.decDigits_one (by decide)]
    exact ⟨by decide, by decide, by decide, fun h => absurd h (by decide)⟩
  | succ n ih =>
    intro u hu
    by_cases h : u < 10
    · obtain ⟨h1, h2⟩ := dig_of u h
      rw [Lib.decDigits_one h]
      refine ⟨?_, by rw [List.all_cons, h1]; rfl, by simp, fun hu1 => ?_⟩
      · show 0 * 10 + ((UInt8.ofNat (48 + u)).toNat - 48) = u
        rw [h2]; omega
      · intro e
        have e2 : UInt8.ofNat (48 + u) = 48 := by simpa using e
        rw [e2, show (48 : UInt8).toNat = 48 from rfl] at h2
        omega
    · obtain ⟨a1, a2, a3, a4⟩ := ih (u / 10) (by omega)
      obtain ⟨h1, h2⟩ := dig_of (u % 10) (by omega)
      rw [dd_big h]
      refine ⟨?_, ?_, by simp, fun _ => ?_⟩
      · rw [num_snoc, a1, h2]; omega
      · rw [List.all_append, a2, List.all_cons, h1]; rfl
      · rw [head_app a3]
        exact a4 (by omega)
theorem num_pos : ∀ (l : List UInt8) (acc : Nat), 1 ≤ acc → 1 ≤ num acc l
  | [], acc, h => h
  | b :: r, acc, h => num_pos r (acc * 10 + (b.toNat - 48)) (by omega)
theorem dig_back (b : UInt8) (h : digB b = true) : UInt8.ofNat (48 + (b.toNat - 48)) = b ∧ b.toNat - 48 < 10 ∧ (b ≠ 48 → 1 ≤ b.toNat - 48) := by
  have h' := h
  unfold digB at h'
  rw [decide_eq_true_eq] at h'
  refine ⟨?_, by omega, fun hb => ?_⟩
  · rw [show 48 + (b.toNat - 48) = b.toNat by omega]; simp
  · have : b.toNat ≠ 48 := fun e => hb (UInt8.toNat_inj.1 e)
    omega
theorem dd_back : ∀ (n : Nat) (l : List UInt8), l.length = n + 1 → l.all digB = true → (l.length ≤ 1 ∨ l.head? ≠ some 48) → Lib.decDigits (num 0 l) = l := by
  intro n
  induction n with
  | zero =>
    intro l hl hd _
    obtain ⟨b, rfl⟩ := List.length_eq_one_iff.1 hl
    obtain ⟨h1, h2, _⟩ := dig_back b (by simpa using hd)
    show Lib.decDigits (0 * 10 + (b.toNat - 48)) = _
    rw [Nat.zero_mul, Nat.zero_add, Lib.decDigits_one h2, h1]
  | succ n ih =>
    intro l hl hd hh
    have hne : l ≠ [] := fun e => by rw [e] at hl; simp at hl
    obtain ⟨l', b, rfl⟩ : ∃ l' b, l = l' ++ [b] := ⟨l.dropLast, l.getLast hne, (List.dropLast_concat_getLast hne).symm⟩
    have hl' : l'.length = n + 1 := by simpa using hl
    have hne' : l' ≠ [] := fun e => by rw [e] at hl'; simp at hl'
    rw [List.all_append, Bool.and_eq_true] at hd
    obtain ⟨h1, h2, _⟩ := dig_back b (by simpa using hd.2)
    have hh' : l'.head? ≠ some 48 := by
      rcases hh with hh | hh
      · rw [List.length_append] at hh; simp only [List.length_singleton] at hh; omega
      · rwa [head_app hne'] at hh
    have hr := ih l' hl' hd.1 (.inr hh')
    have hp : 1 ≤ num 0 l' := by
      cases l' with
      | nil => exact absurd rfl hne'
      | cons c r =>
        simp only [List.all_cons, Bool.and_eq_true] at hd
        have hc : c ≠ 48 := fun e => hh' (by rw [e]; rfl)
        obtain ⟨_, _, h3⟩ := dig_back c hd.1.1
        show 1 ≤ num (0 * 10 + (c.toNat - 48)) r
        exact num_pos r _ (by have := h3 hc; omega)
    rw [num_snoc, dd_big (by omega), show (num 0 l' * 10 + (b.toNat - 48)) / 10 = num 0 l' by omega, show (num 0 l' * 10 + (b.toNat - 48)) % 10 = b.toNat - 48 by omega, hr, h1]
/-- A count is the numeral of what it counts. -/
theorem cnt_itoa {s : ByteArray} (h : cntB s = true) : s = itoaB ((num 0 s.data.toList : Nat) : Int) := by
  have hz := size_list s
  unfold cntB at h
  simp only [Bool.and_eq_true, Bool.or_eq_true, decide_eq_true_eq, Bool.not_eq_true', beq_eq_false_iff_ne] at h
  obtain ⟨⟨⟨h1, h8⟩, h2⟩, h3⟩ := h
  apply ba_ext
  show _ = Lib.itoa ((num 0 s.data.toList : Nat) : Int)
  rw [Lib.itoa, if_neg (by omega), Int.toNat_natCast, dd_back (s.data.toList.length - 1) s.data.toList (by omega) h3]
  rcases h2 with h2 | h2
  · exact .inl (by omega)
  · right
    intro e
    apply h2
    have hb := bt_nat s 0 (by omega)
    rw [show ((0 : Nat) : Int) = 0 from rfl] at hb
    rw [hb]
    have : s.data.toList[0]'(by omega) = 48 := by
      rw [List.head?_eq_getElem?, List.getElem?_eq_getElem (by omega)] at e
      exact Option.some.inj e
    rw [this]; rfl
theorem itoa_cnt {n : Nat} (h : n ≤ 99999999) : cntB (itoaB (n : Int)) = true ∧ num 0 (itoaB (n : Int)).data.toList = n ∧ (itoaB (n : Int)).data.toList.all digB = true := by
  obtain ⟨a1, a2, a3, a4⟩ := dd_num n n (Nat.le_refl _)
  have hl : (itoaB (n : Int)).data.toList = Lib.decDigits n := by
    show Lib.itoa (n : Int) = _
    rw [Lib.itoa, if_neg (by omega), Int.toNat_natCast]
  have hsz := dec_size 7 n (by omega)
  have hz := size_list (itoaB (n : Int))
  rw [hl] at hz
  have hp : 0 < (Lib.decDigits n).length := List.length_pos_iff.2 a3
  refine ⟨?_, by rw [hl]; exact a1, by rw [hl]; exact a2⟩
  unfold cntB
  simp only [Bool.and_eq_true, Bool.or_eq_true, decide_eq_true_eq, Bool.not_eq_true', beq_eq_false_iff_ne]
  refine ⟨⟨by omega, ?_⟩, by rw [hl]; exact a2⟩
  by_cases h1 : n < 10
  · left
    rw [Lib.decDigits_one h1] at hz
    simp at hz; omega
  · right
    have hb := bt_nat (itoaB (n : Int)) 0 (by omega)
    rw [show ((0 : Nat) : Int) = 0 from rfl] at hb
    rw [hb]
    intro e
    apply a4 (by omega)
    rw [List.head?_eq_getElem?, List.getElem?_eq_getElem hp]
    have e2 : (itoaB (n : Int)).data.toList[0]'(by rw [hl]; exact hp) = (Lib.decDigits n)[0] := by simp only [hl]
    rw [← e2]
    congr 1
    exact UInt8.toNat_inj.1 (by rw [show (48 : UInt8).toNat = 48 from rfl]; omega)
def encB : List ByteArray → List UInt8
  | [] => []
  | s :: r => (itoaB (s.size : Int)).data.toList ++ (58 :: (s.data.toList ++ (44 :: encB r)))
theorem wOne_list (s : ByteArray) (t : List UInt8) : (wOne s).data.toList ++ t = (itoaB (s.size : Int)).data.toList ++ (58 :: (s.data.toList ++ (44 :: t))) := by
  unfold wOne
  simp only [ByteArray.data_append, Array.toList_append]
  simp
theorem wAll_enc : ∀ (l : List ByteArray) (o : ByteArray), (wAll l o).data.toList = o.data.toList ++ encB l
  | [], o => by simp [wAll, encB]
  | s :: l, o => by
    rw [wAll, wAll_enc l (o ++ wOne s), ByteArray.data_append, Array.toList_append, List.append_assoc, wOne_list, encB]
theorem encB_snoc (a : List ByteArray) (b : List ByteArray) : encB (a ++ b) = encB a ++ encB b := by
  induction a with
  | nil => rfl
  | cons s r ih => simp [encB, ih]
theorem bt_at {s : ByteArray} {a b : List UInt8} {c : UInt8} (h : s.data.toList = a ++ c :: b) : bt s (a.length : Int) = (c.toNat : Int) := by
  have hl : a.length < s.size := by rw [size_list, h]; simp
  rw [bt_nat s a.length hl]
  congr 2
  simp [h]
/-- The first colon is behind the figures. -/
theorem fc_at (s : ByteArray) : ∀ (f a : List UInt8) (b : List UInt8) (d : Nat), s.data.toList = a ++ (f ++ 58 :: b) → f.all digB = true → f.length < d → fc s d a.length = a.length + f.length
  | [], a, b, d, h, _, hd => by
    obtain ⟨d, rfl⟩ := succ_of hd
    rw [fc, bt_at (by simpa using h), if_pos (by rfl)]; simp
  | c :: f, a, b, d, h, hf, hd => by
    obtain ⟨d, rfl⟩ := succ_of hd
    simp only [List.all_cons, Bool.and_eq_true] at hf
    have hc : c.toNat ≠ 58 := by
      have := hf.1
      unfold digB at this
      rw [decide_eq_true_eq] at this
      omega
    rw [fc, bt_at (a := a) (b := f ++ 58 :: b) (by simpa using h), if_neg (by omega)]
    have := fc_at s f (a ++ [c]) b d (by simpa using h) hf.2 (by simp at hd; omega)
    rw [List.length_append] at this
    simp only [List.length_cons, List.length_nil] at this ⊢
    rw [this]; omega
theorem ex_of {s : ByteArray} {a m b : List UInt8} (h : s.data.toList = a ++ (m ++ b)) : (s.extract a.length (a.length + m.length)).data.toList = m := by
  rw [ext_list', h, List.drop_append, List.drop_of_length_le (Nat.le_refl _), Nat.sub_self, List.drop_zero, List.nil_append]
  simp
/-- What was written is read. -/
theorem read_back (s : ByteArray) : ∀ (suf pre : List ByteArray) (d : Nat), s.data.toList = encB pre ++ encB suf → s.size ≤ 2000 → suf.length < d → wgF s d (encB pre).length pre = (pre ++ suf, true) := by
  intro suf
  induction suf with
  | nil =>
    intro pre d h hs hd
    obtain ⟨d, rfl⟩ := succ_of hd
    have : s.size = (encB pre).length := by rw [size_list, h]; simp [encB]
    rw [wgF, if_neg (by omega)]; simp
  | cons x suf ih =>
    intro pre d h hs hd
    obtain ⟨d, rfl⟩ := succ_of hd
    have hsz : s.size = (encB pre).length + ((itoaB (x.size : Int)).data.toList.length + (1 + (x.size + (1 + (encB suf).length)))) := by
      rw [size_list, h, List.length_append, encB]
      simp only [List.length_append, List.length_cons]
      rw [size_list x]; omega
    obtain ⟨c1, c2, c3⟩ := itoa_cnt (n := x.size) (by omega)
    have hfc := fc_at s (itoaB (x.size : Int)).data.toList (encB pre) (x.data.toList ++ (44 :: encB suf)) (s.size - (encB pre).length) h c3 (by omega)
    have hw : s.extract (encB pre).length ((encB pre).length + (itoaB (x.size : Int)).data.toList.length) = itoaB (x.size : Int) := ba_ext (ex_of h)
    have h44 : bt s (((encB pre).length + (itoaB (x.size : Int)).data.toList.length + 1 + x.size : Nat) : Int) = 44 := by
      have := bt_at (s := s) (a := encB pre ++ ((itoaB (x.size : Int)).data.toList ++ (58 :: x.data.toList))) (b := encB suf) (c := 44) (by rw [h, encB]; simp)
      rw [show ((encB pre ++ ((itoaB (x.size : Int)).data.toList ++ (58 :: x.data.toList))).length) = (encB pre).length + (itoaB (x.size : Int)).data.toList.length + 1 + x.size by simp only [List.length_append, List.length_cons]; rw [size_list x]; omega] at this
      exact this
    have hword : s.extract ((encB pre).length + (itoaB (x.size : Int)).data.toList.length + 1) ((encB pre).length + (itoaB (x.size : Int)).data.toList.length + 1 + x.size) = x := by
      apply ba_ext
      have := ex_of (s := s) (a := encB pre ++ ((itoaB (x.size : Int)).data.toList ++ [58])) (m := x.data.toList) (b := 44 :: encB suf) (by rw [h, encB]; simp)
      rw [show ((encB pre ++ ((itoaB (x.size : Int)).data.toList ++ [58]) : List UInt8)).length = (encB pre).length + (itoaB (x.size : Int)).data.toList.length + 1 by simp only [List.length_append, List.length_cons, List.length_nil]; omega, ← size_list x] at this
      exact this
    rw [wgF, if_pos (by omega), hfc, if_neg (by omega), hw, if_pos c1, c2, if_pos ⟨by omega, h44⟩, hword]
    have hn := ih (pre ++ [x]) d (by rw [h, encB_snoc, List.append_assoc]; simp [encB]) hs (by simp at hd; omega)
    have hlen : (encB (pre ++ [x])).length = (encB pre).length + (itoaB (x.size : Int)).data.toList.length + x.size + 2 := by
      rw [encB_snoc]
      simp only [encB, List.length_append, List.length_cons, List.length_nil]
      rw [size_list x]; omega
    rw [hlen] at hn
    rw [hn]; simp
/-- What was read is so written. -/
theorem write_back (s : ByteArray) : ∀ (d p : Nat) (out list : List ByteArray), s.data.toList.take p = encB out → p ≤ s.size → wgF s d p out = (list, true) → s.size ≤ p + d → s.data.toList = encB list := by
  intro d
  induction d with
  | zero =>
    intro p out list h hp hr hd
    rw [wgF] at hr
    obtain rfl := (Prod.mk.inj hr).1
    rw [← h, List.take_of_length_le (by rw [← size_list]; omega)]
  | succ d ih =>
    intro p out list h hp hr hd
    rw [wgF] at hr
    by_cases hlt : p < s.size
    · rw [if_pos hlt] at hr
      have hge := fc_ge s (s.size - p) p
      have hle := fc_le s (s.size - p) p
      have hcol := fc_colon s (s.size - p) p
      generalize fc s (s.size - p) p = j at hge hle hcol hr
      by_cases hj : j = s.size
      · rw [if_pos hj] at hr; cases (Prod.mk.inj hr).2
      · rw [if_neg hj] at hr
        by_cases hc : cntB (s.extract p j) = true
        · rw [if_pos hc] at hr
          have hit := cnt_itoa hc
          have hnl := num_cnt hc
          generalize hn : num 0 (s.extract p j).data.toList = n at hr hit hnl
          by_cases h4 : j + 1 + n < s.size ∧ bt s ((j + 1 + n : Nat) : Int) = 44
          · rw [if_pos h4] at hr
            have hz := size_list s
            refine ih (j + n + 2) (out ++ [s.extract (j + 1) (j + 1 + n)]) list ?_ (by omega) hr (by omega)
            have hb := hcol (by omega)
            have e58 : s.data.toList[j]'(by omega) = 58 := by
              rw [bt_nat s j (by omega)] at hb
              exact UInt8.toNat_inj.1 (by rw [show (58 : UInt8).toNat = 58 from rfl]; omega)
            have e44 : s.data.toList[j + 1 + n]'(by omega) = 44 := by
              have := h4.2
              rw [bt_nat s (j + 1 + n) h4.1] at this
              exact UInt8.toNat_inj.1 (by rw [show (44 : UInt8).toNat = 44 from rfl]; omega)
            have hwl := ext_list' s (j + 1) (j + 1 + n)
            have hws : (s.extract (j + 1) (j + 1 + n)).size = n := by rw [ex_size _ _ _ (by omega)]; omega
            have t1 : s.data.toList.take (j + n + 2) = s.data.toList.take p ++ ((s.data.toList.drop p).take (j - p) ++ (58 :: ((s.data.toList.drop (j + 1)).take n ++ [44]))) := by
              have a1 : s.data.toList.take (j + n + 2) = s.data.toList.take (j + 1 + n) ++ [44] := by
                rw [show j + n + 2 = (j + 1 + n) + 1 by omega, List.take_add_one, List.getElem?_eq_getElem (by omega), e44]; rfl
              have a2 : s.data.toList.take (j + 1 + n) = s.data.toList.take (j + 1) ++ (s.data.toList.drop (j + 1)).take n := List.take_add
              have a3 : s.data.toList.take (j + 1) = s.data.toList.take j ++ [58] := by
                rw [List.take_add_one, List.getElem?_eq_getElem (by omega), e58]; rfl
              have a4 : s.data.toList.take j = s.data.toList.take p ++ (s.data.toList.drop p).take (j - p) := by
                have := List.take_add (l := s.data.toList) (i := p) (j := j - p)
                rwa [show p + (j - p) = j by omega] at this
              rw [a1, a2, a3, a4]; simp
            rw [t1, h, encB_snoc]
            congr 1
            rw [encB, encB, hws, hwl, ← ext_list' s p j, hit]
            simp [show j + 1 + n - (j + 1) = n by omega]
          · rw [if_neg h4] at hr; cases (Prod.mk.inj hr).2
        · rw [if_neg hc] at hr; cases (Prod.mk.inj hr).2
    · rw [if_neg hlt] at hr
      obtain rfl := (Prod.mk.inj hr).1
      rw [← h, List.take_of_length_le (by rw [← size_list]; omega)]
end Go.Proofs.YtkcmbjmipncpiaaDoor.V
/- The plain statement of FnWireText: what is read is so written, and what is written is read. -/
namespace Go.Proofs.YtkcmbjmipncpiaaDoor.V
open Go.RowKit Go.Proofs.YtkcmbjmipncpiaaDoor.P Go.Proofs.YtkcmbjmipncpiaaDoorW.PrintWords Go.Proofs.YtkcmbjmipncpiaaDoorW.PrintMore
theorem wmWordsL : ∀ (suf pre : List ByteArray) (k : Nat), suf.length < k → (pre ++ suf).length ≤ 1000000 → laws_wmWords.l0 k (pre ++ suf) (pre ++ suf) (pre.length : Int) = some true := by
  intro suf
  induction suf with
  | nil =>
    intro pre k hk hb
    obtain ⟨k, rfl⟩ := succ_of hk
    rw [laws_wmWords.l0, if_neg end_not_lt]
  | cons x suf ih =>
    intro pre k hk hb
    obtain ⟨k, rfl⟩ := succ_of hk
    rw [laws_wmWords.l0, if_pos mid_lt, if_pos (nat_le0 _), if_pos mid_lt, if_pos rfl, wrap_snoc (x := x) (by simp at hb; omega), snoc_app]
    exact ih (pre ++ [x]) k (by simpa using hk) (by simpa using hb)
theorem wmWordsR (l : List ByteArray) (k : Nat) (hk : l.length < k) (hb : l.length ≤ 1000000) : laws_wmWords.f k l l = some true := by
  unfold laws_wmWords.f
  rw [if_pos rfl]
  exact wmWordsL l [] k hk hb
theorem many_t0 : (spec_l1Many.f 12 ⟨#[116]⟩ (wrap64 (2000 - 0))).map ByteArray.size = some 2000 := by kernel_rfl
theorem many_t1 : (spec_l1Many.f 12 ⟨#[116]⟩ (wrap64 (2000 - 1))).map ByteArray.size = some 1999 := by kernel_rfl
theorem many_t2 : (spec_l1Many.f 12 ⟨#[116]⟩ (wrap64 (2000 - 2))).map ByteArray.size = some 1998 := by kernel_rfl
theorem many_t3 : (spec_l1Many.f 12 ⟨#[116]⟩ (wrap64 (2000 - 3))).map ByteArray.size = some 1997 := by kernel_rfl
theorem many_t4 : (spec_l1Many.f 12 ⟨#[116]⟩ (wrap64 (2000 - 4))).map ByteArray.size = some 1996 := by kernel_rfl
theorem many_t5 : (spec_l1Many.f 12 ⟨#[116]⟩ (wrap64 (2000 - 5))).map ByteArray.size = some 1995 := by kernel_rfl
theorem many_t6 : (spec_l1Many.f 12 ⟨#[116]⟩ (wrap64 (2000 - 6))).map ByteArray.size = some 1994 := by kernel_rfl
theorem many_t7 : (spec_l1Many.f 12 ⟨#[116]⟩ (wrap64 (2000 - 7))).map ByteArray.size = some 1993 := by kernel_rfl
theorem many_t8 : (spec_l1Many.f 12 ⟨#[116]⟩ (wrap64 (2000 - 8))).map ByteArray.size = some 1992 := by kernel_rfl
theorem many_t {v : Int} (h0 : 0 ≤ v) (h1 : v < 9) {k : Nat} (hk : 12 ≤ k) : ∃ r, spec_l1Many.f k ⟨#[116]⟩ (wrap64 (2000 - v)) = some r ∧ r.size ≤ 2000 := by
  have hv : v = 0 ∨ v = 1 ∨ v = 2 ∨ v = 3 ∨ v = 4 ∨ v = 5 ∨ v = 6 ∨ v = 7 ∨ v = 8 := by omega
  rcases hv with rfl | rfl | rfl | rfl | rfl | rfl | rfl | rfl | rfl
  · obtain ⟨r, e, z⟩ := many_at many_t0 hk; exact ⟨r, e, by omega⟩
  · obtain ⟨r, e, z⟩ := many_at many_t1 hk; exact ⟨r, e, by omega⟩
  · obtain ⟨r, e, z⟩ := many_at many_t2 hk; exact ⟨r, e, by omega⟩
  · obtain ⟨r, e, z⟩ := many_at many_t3 hk; exact ⟨r, e, by omega⟩
  · obtain ⟨r, e, z⟩ := many_at many_t4 hk; exact ⟨r, e, by omega⟩
  · obtain ⟨r, e, z⟩ := many_at many_t5 hk; exact ⟨r, e, by omega⟩
  · obtain ⟨r, e, z⟩ := many_at many_t6 hk; exact ⟨r, e, by omega⟩
  · obtain ⟨r, e, z⟩ := many_at many_t7 hk; exact ⟨r, e, by omega⟩
  · obtain ⟨r, e, z⟩ := many_at many_t8 hk; exact ⟨r, e, by omega⟩
theorem dwp_l0 {s : List Int} (hs : U8 s) (hl : s.length ≤ 2000) : ∀ (n : Nat) (out : List ByteArray) (q : Int) (k : Nat), n + 20 < k → out.length + n ≤ 100 → (∀ x ∈ out, x.size ≤ 2000) → 0 ≤ q → q + n ≤ 1000 →
    ∃ d, spec_DrawWirePut.l0 k out (n : Int) s q = some d ∧ d.length ≤ out.length + n + 1 ∧ ∀ x ∈ d, x.size ≤ 2000 := by
  intro n
  induction n with
  | zero =>
    intro out q k hk ho hx h0 h1
    obtain ⟨k, rfl⟩ := succ_of hk
    rw [spec_DrawWirePut.l0, if_neg (by omega)]
    obtain ⟨v, hv, v0, v1⟩ := pick_eq (s := s) (q := q) (n := 24) (k := k) hs hl h0 (by omega) (by omega) (by omega)
    rw [hv, Option.bind_some]
    dsimp only
    by_cases hv0 : v = 0
    · rw [if_pos hv0]
      obtain ⟨u, hu, u0, u1⟩ := pick_eq (s := s) (q := q + 1) (n := 9) (k := k) hs hl (by omega) (by omega) (by omega) (by omega)
      rw [hu, Option.bind_some]
      dsimp only
      obtain ⟨r, hr, hz⟩ := many_t u0 u1 (k := k) (by omega)
      rw [hr, Option.bind_some, if_pos (by omega)]
      refine ⟨_, rfl, by simp, fun x hm => ?_⟩
      rcases List.mem_append.1 hm with hm | hm
      · exact hx x hm
      · rw [List.mem_singleton] at hm; rw [hm]; exact hz
    · rw [if_neg hv0]
      exact ⟨_, rfl, by omega, hx⟩
  | succ n ih =>
    intro out q k hk ho hx h0 h1
    obtain ⟨k, rfl⟩ := succ_of hk
    rw [spec_DrawWirePut.l0, if_pos (by omega)]
    obtain ⟨x, hx1, hm⟩ := of_eq (l := ([(⟨#[]⟩ : ByteArray), (⟨#[97]⟩ : ByteArray), (⟨#[49, 58, 120, 44]⟩ : ByteArray), (⟨#[116, 119, 111, 32, 119, 111, 114, 100, 115]⟩ : ByteArray), (⟨#[44]⟩ : ByteArray)] : List ByteArray)) (q := q) (k := k) hs hl h0 (by omega) (by decide) (by omega)
    rw [hx1, Option.bind_some]
    dsimp only
    rw [if_pos (by omega), wrap_id (by omega) (by omega), show ((n + 1 : Nat) : Int) - 1 = (n : Int) by omega]
    have hxs : x.size ≤ 2000 := by
      have : ∀ y ∈ ([(⟨#[]⟩ : ByteArray), (⟨#[97]⟩ : ByteArray), (⟨#[49, 58, 120, 44]⟩ : ByteArray), (⟨#[116, 119, 111, 32, 119, 111, 114, 100, 115]⟩ : ByteArray), (⟨#[44]⟩ : ByteArray)] : List ByteArray), y.size ≤ 2000 := by
        intro y hy
        simp only [List.mem_cons, List.not_mem_nil, or_false] at hy
        rcases hy with rfl | rfl | rfl | rfl | rfl <;> decide
      exact this x hm
    obtain ⟨d, hd, hd1, hd2⟩ := ih (out ++ [x]) (q + 1) k (by omega) (by simp; omega) (fun y hy => by
      rcases List.mem_append.1 hy with hy | hy
      · exact hx y hy
      · rw [List.mem_singleton] at hy; rw [hy]; exact hxs) (by omega) (by omega)
    exact ⟨d, hd, by simp at hd1; omega, hd2⟩
theorem dwp_eq {l : List Int} (h : U8 l) {k : Nat} (hk : 40 < k) : ∃ d, spec_DrawWirePut.f k l = some d ∧ d.length ≤ 6 ∧ ∀ x ∈ d, x.size ≤ 2000 := by
  obtain ⟨s, hs, hu, hl⟩ := open_eq h
  obtain ⟨v, hv, v0, v1⟩ := pick_eq (s := s) (q := 0) (n := 6) (k := k) hu hl (by omega) (by omega) (by omega) (by omega)
  unfold spec_DrawWirePut.f
  rw [hs, Option.bind_some]
  dsimp only
  rw [hv, Option.bind_some]
  dsimp only
  obtain ⟨n, rfl⟩ : ∃ n : Nat, v = (n : Int) := ⟨v.toNat, by omega⟩
  obtain ⟨d, hd, hd1, hd2⟩ := dwp_l0 hu hl n [] 1 k (by omega) (by simp; omega) (by simp) (by omega) (by omega)
  exact ⟨d, hd, by simp at hd1; omega, hd2⟩
theorem wSum_le : ∀ (l : List ByteArray), (∀ x ∈ l, x.size ≤ 2000) → wSum l ≤ 2023 * l.length
  | [], _ => Nat.le_refl _
  | s :: l, h => by
    have h1 := wSum_le l (fun x hx => h x (List.mem_cons_of_mem _ hx))
    have h2 := h s (List.mem_cons_self)
    rw [wSum, List.length_cons]; omega
theorem dec_small (x : Nat) (h : x ≤ 2000) : (itoaB (x : Int)).size ≤ 8 := by
  obtain ⟨c, _, _⟩ := itoa_cnt (n := x) (by omega)
  unfold cntB at c
  simp only [Bool.and_eq_true, Bool.or_eq_true, decide_eq_true_eq, Bool.not_eq_true', beq_eq_false_iff_ne] at c
  exact c.1.1.2
theorem wAll_le : ∀ (l : List ByteArray) (o : ByteArray), (∀ x ∈ l, x.size ≤ 2000) → (wAll l o).size ≤ o.size + 2023 * l.length
  | [], o, _ => Nat.le_refl _
  | s :: l, o, h => by
    have h1 := wAll_le l (o ++ wOne s) (fun x hx => h x (List.mem_cons_of_mem _ hx))
    have h2 := h s (List.mem_cons_self)
    have h3 := dec_small s.size h2
    rw [ByteArray.size_append, wOne_size] at h1
    rw [wAll, List.length_cons]; omega
theorem bend_eq {s : List Int} (hs : U8 s) (hl : s.length ≤ 2000) {q : Int} (h0 : 0 ≤ q) (h1 : q ≤ 1000) {k : Nat} (hk : 10 < k) (t : ByteArray) (ht : t.size ≤ 1000000) : ∃ u q', spec_l12Bend.f k s q t ([(⟨#[58]⟩ : ByteArray), (⟨#[44]⟩ : ByteArray), (⟨#[49]⟩ : ByteArray), (⟨#[48]⟩ : ByteArray)] : List ByteArray) 4 = some (u, q') := by
  unfold spec_l12Bend.f
  obtain ⟨v, hv, v0, v1⟩ := pick_eq (s := s) (q := q) (n := 4) (k := k) hs hl h0 (by omega) (by omega) (by omega)
  rw [hv, Option.bind_some]
  dsimp only
  by_cases hv0 : v > 0
  · rw [if_pos hv0]; exact ⟨_, _, rfl⟩
  rw [if_neg hv0, wrap_id (by omega) (by omega)]
  obtain ⟨i, hi, i0, i1⟩ := pick_eq (s := s) (q := q + 1) (n := (t.size : Int) + 1) (k := k) hs hl (by omega) (by omega) (by omega) (by omega)
  rw [hi, Option.bind_some]
  dsimp only
  rw [if_pos i0, if_pos (by omega)]
  obtain ⟨x, hx1, hm⟩ := of_eq (l := ([(⟨#[58]⟩ : ByteArray), (⟨#[44]⟩ : ByteArray), (⟨#[49]⟩ : ByteArray), (⟨#[48]⟩ : ByteArray)] : List ByteArray)) (q := q + 1 + 1) (k := k) hs hl (by omega) (by omega) (by decide) (by omega)
  have hxs : x.size ≤ 1 := by
    have : ∀ y ∈ ([(⟨#[58]⟩ : ByteArray), (⟨#[44]⟩ : ByteArray), (⟨#[49]⟩ : ByteArray), (⟨#[48]⟩ : ByteArray)] : List ByteArray), y.size ≤ 1 := by
      intro y hy
      simp only [List.mem_cons, List.not_mem_nil, or_false] at hy
      rcases hy with rfl | rfl | rfl | rfl <;> decide
    exact this x hm
  have e1 : (t.extract 0 i.toNat).size = i.toNat := by rw [ex_size _ _ _ (by omega)]; omega
  have e2 : (t.extract i.toNat t.size).size = t.size - i.toNat := ex_size _ _ _ (Nat.le_refl _)
  rw [hx1, Option.bind_some]
  dsimp only
  rw [e1, e2, if_pos (by omega), if_pos (by omega)]
  exact ⟨_, _, rfl⟩
theorem dwg_eq {l : List Int} (h : U8 l) {k : Nat} (hk : 50 < k) : ∃ t, spec_DrawWireGet.f k l = some t := by
  obtain ⟨s, hs, hu, hl⟩ := open_eq h
  obtain ⟨v, hv, v0, v1⟩ := pick_eq (s := s) (q := 0) (n := 6) (k := k) hu hl (by omega) (by omega) (by omega) (by omega)
  unfold spec_DrawWireGet.f
  rw [hs, Option.bind_some]
  dsimp only
  rw [hv, Option.bind_some]
  dsimp only
  by_cases hv0 : v = 0
  · rw [if_pos hv0]
    obtain ⟨x, hx1, _⟩ := of_eq (l := ([(⟨#[]⟩ : ByteArray), (⟨#[48, 58, 44]⟩ : ByteArray), (⟨#[49, 58, 97]⟩ : ByteArray), (⟨#[48, 49, 58, 97, 44]⟩ : ByteArray), (⟨#[50, 58, 97, 44]⟩ : ByteArray), (⟨#[120]⟩ : ByteArray), (⟨#[49, 58, 97, 44, 120]⟩ : ByteArray), (⟨#[45, 49, 58, 44]⟩ : ByteArray), (⟨#[58, 44]⟩ : ByteArray)] : List ByteArray)) (s := s) (q := 0 + 1) (k := k) hu hl (by omega) (by omega) (by decide) (by omega)
    rw [hx1]; exact ⟨_, rfl⟩
  · rw [if_neg hv0]
    obtain ⟨d, hd, hd1, hd2⟩ := dwp_eq h (k := k) (by omega)
    rw [hd, Option.bind_some]
    have hw := l3Wire_l0 d [] (⟨#[]⟩ : ByteArray) k (by omega) (by simp; omega) (fun x hx => by have := hd2 x hx; omega) (by have := wSum_le d hd2; show 0 + wSum d ≤ _; omega)
    rw [List.nil_append, show ((([] : List ByteArray).length : Nat) : Int) = 0 from rfl] at hw
    rw [show spec_l3Wire.f k d = _ from hw, Option.bind_some]
    have hz := wAll_le d (⟨#[]⟩ : ByteArray) hd2
    rw [show (⟨#[]⟩ : ByteArray).size = 0 from rfl] at hz
    obtain ⟨u, q', hu'⟩ := bend_eq hu hl (q := 0 + 1) (by omega) (by omega) (k := k) (by omega) (wAll d (⟨#[]⟩ : ByteArray)) (by omega)
    rw [hu']; exact ⟨_, rfl⟩
def rd (s : ByteArray) : List ByteArray × Bool := if s.size ≤ 2000 then wgF s s.size 0 [] else ([], false)
theorem rd_len (s : ByteArray) : (rd s).1.length ≤ 2000 := by
  unfold rd
  by_cases h : s.size ≤ 2000
  · rw [if_pos h]
    have := wgF_len s s.size 0 []
    simp at this; omega
  · rw [if_neg h]; simp
theorem enc_mem : ∀ (l : List ByteArray) (x : ByteArray), x ∈ l → x.size ≤ (encB l).length
  | s :: l, x, h => by
    rw [encB]
    simp only [List.length_append, List.length_cons]
    rcases List.mem_cons.1 h with rfl | h
    · rw [size_list x]; omega
    · have := enc_mem l x h; omega
theorem enc_ge : ∀ (l : List ByteArray), l.length ≤ (encB l).length
  | [] => Nat.le_refl _
  | s :: l => by
    rw [encB]
    have := enc_ge l
    simp only [List.length_append, List.length_cons]; omega
theorem enc_gt : ∀ (l : List ByteArray), l ≠ [] → l.length < (encB l).length
  | [], h => absurd rfl h
  | s :: l, _ => by
    rw [encB]
    have := enc_ge l
    simp only [List.length_append, List.length_cons]; omega
theorem wall_back {s : ByteArray} {l : List ByteArray} (h : s.data.toList = encB l) : wAll l (⟨#[]⟩ : ByteArray) = s := by
  apply ba_ext
  rw [wAll_enc, h]; rfl
theorem rd_wire {s : ByteArray} (h : (rd s).2 = true) : wire (rd s).1 = s ∧ (∀ x ∈ (rd s).1, x.size ≤ 2000) := by
  unfold rd at h ⊢
  by_cases hs : s.size ≤ 2000
  · rw [if_pos hs] at h ⊢
    have hb := write_back s s.size 0 [] (wgF s s.size 0 []).1 (by simp [encB]) (Nat.zero_le _) (by rw [← h]) (by omega)
    refine ⟨?_, fun x hx => ?_⟩
    · unfold wire
      rw [wall_back hb, if_neg (by omega)]
    · have := enc_mem _ x hx
      rw [← hb, ← size_list] at this; omega
  · rw [if_neg hs] at h; cases h
theorem wire_rd {d : List ByteArray} (h : (wAll d (⟨#[]⟩ : ByteArray)).size ≤ 2000) : rd (wire d) = (d, true) := by
  unfold wire
  rw [if_neg (by omega)]
  have he : (wAll d (⟨#[]⟩ : ByteArray)).data.toList = encB [] ++ encB d := by rw [wAll_enc]; rfl
  unfold rd
  rw [if_pos h]
  by_cases hd : d = []
  · rw [hd]; rfl
  · have hg := enc_gt d hd
    have hz : (wAll d (⟨#[]⟩ : ByteArray)).size = (encB d).length := by rw [size_list, he]; simp [encB]
    have := read_back _ d [] (wAll d (⟨#[]⟩ : ByteArray)).size he h (by omega)
    simpa [encB] using this
end Go.Proofs.YtkcmbjmipncpiaaDoor.V
namespace Go.Proofs.YtkcmbjmipncpiaaDoor.Pure
open Go.RowKit Go.Proofs.YtkcmbjmipncpiaaDoor.P Go.Proofs.YtkcmbjmipncpiaaDoor.V Go.Proofs.YtkcmbjmipncpiaaDoorW.PrintWords Go.Proofs.YtkcmbjmipncpiaaDoorW.PrintLast
theorem FnWireText : laws_FnWireText.Pure := by
  intro l0 l1 h0 h1
  obtain ⟨K, hK⟩ : ∃ K, K = 1060000 := ⟨_, rfl⟩
  refine ⟨K + 1 + 1, ?_⟩
  have hU0 := U8_of h0.2
  have hU1 := U8_of h1.2
  have hj0 : laws_FnWireText.j0 (K + 1 + 1) l0 l1 true = some true := by rw [laws_FnWireText.j0, if_pos rfl]
  unfold laws_FnWireText.f
  by_cases hc : (l0.length : Int) > 1048576
  · rw [if_pos hc, hj0]
  rw [if_neg hc]
  by_cases hc1 : (l1.length : Int) > 1048576
  · rw [decide_eq_true hc1, hj0]
  rw [decide_eq_false hc1, laws_FnWireText.j0, if_neg (by decide)]
  obtain ⟨t, ht⟩ := dwg_eq hU0 (k := K + 1) (by omega)
  have hs1 : impl_WireGet.f (K + 1) t = some (rd t) := iGet_eq t _ (by omega)
  have hs2 : spec_WireGet.f (K + 1) t = some (rd t) := sGet_eq t _ (by omega)
  have hlen := rd_len t
  have hj1 : laws_FnWireText.j1 (K + 1) l1 false = some true := by
    rw [laws_FnWireText.j1, if_neg (by decide)]
    obtain ⟨d, hd, hd1, hd2⟩ := dwp_eq hU1 (k := K) (by omega)
    have hw := WirePut_eq d K (by omega) (by omega) (fun x hx => by have := hd2 x hx; omega)
    have hw2 := sWirePut_eq d K (by omega) (by omega) (fun x hx => by have := hd2 x hx; omega) (by have := wSum_le d hd2; omega)
    have hg : impl_WireGet.f K (wire d) = some (rd (wire d)) := iGet_eq _ _ (by omega)
    rw [hd, Option.bind_some, hw, Option.bind_some, hg, Option.bind_some, hw2, Option.bind_some, if_pos rfl]
    by_cases hz : (wAll d (⟨#[]⟩ : ByteArray)).size ≤ 2000
    · rw [wire_rd hz]
      dsimp only
      rw [if_pos rfl, wmWordsR d K (by omega) (by omega)]
      by_cases he : (wire d).toList = ([] : List UInt8)
      · rw [if_pos he]
        by_cases hn : (d.length : Int) > 0
        · rw [if_pos hn]
        · rw [if_neg hn]; rfl
      · rw [if_neg he]; rfl
    · have e0 : (wire d) = (⟨#[]⟩ : ByteArray) := by unfold wire; rw [if_pos (by omega)]
      have en : (⟨#[]⟩ : ByteArray).toList = ([] : List UInt8) := by rw [ByteArray.toList_eq]
      rw [e0, if_pos en, if_pos]
      have : d ≠ [] := fun e => hz (by rw [e]; decide)
      have := List.length_pos_iff.2 this
      omega
  rw [ht, Option.bind_some, hs1, Option.bind_some, hs2, Option.bind_some, if_neg (by simp), wmWordsR _ _ (by omega) (by omega), Option.bind_some, if_pos rfl]
  by_cases hb : (rd t).2 = true
  · rw [if_pos hb]
    obtain ⟨hr1, hr2⟩ := rd_wire hb
    rw [WirePut_eq _ _ (by omega) (by omega) (fun x hx => by have := hr2 x hx; omega), Option.bind_some, hr1, show (t.toList != t.toList) = false by simp]
    exact hj1
  · rw [if_neg hb]; exact hj1
end Go.Proofs.YtkcmbjmipncpiaaDoor.Pure
