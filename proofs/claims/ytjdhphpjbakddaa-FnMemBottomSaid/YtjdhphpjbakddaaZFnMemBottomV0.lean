/- The plain statement of the law FnMemBottom, proved. -/
import Derived.Test.YtjdhphpjbakddaaZFnMemBottomW0
import Derived.Test.YtjdhphpjbakddaaZFnMemBottom1
import Derived.Test.YtjdhphpjbakddaaZFnMemBottom2
import Derived.Laws.Bits64
import Derived.Test.YtjdhphpjbakddaaZFnMemBottom3
import Derived.WalkKit
import Derived.Test.YtjdhphpjbakddaaZFnMemBottom0
import Derived.Lib.IndexAny
/- Plain lemmas on lists, numbers and strings, for the laws' plain statements. -/
namespace Go.Proofs.Ytjdhphpjbakddaa.V
open Go.RowKit Go.Proofs.YtjdhphpjbakddaaW.PrintWords Go.Proofs.YtjdhphpjbakddaaW.PrintMore
theorem succ_of {d k : Nat} (h : d < k) : ∃ m, k = m + 1 := ⟨k - 1, by omega⟩
theorem wrap_id {i : Int} (h : -9223372036854775808 ≤ i) (h' : i ≤ 9223372036854775807) : wrap64 i = i := by unfold wrap64; omega
theorem tl_iff (a b : ByteArray) : a.toList = b.toList ↔ a = b := by
  rw [ByteArray.toList_eq, ByteArray.toList_eq]
  constructor
  · intro h
    cases a; cases b
    simp at h
    simp [h]
  · rintro rfl; rfl
section
variable {α : Type} {pre suf : List α} {x y : α}
theorem mid_lt : ((pre.length : Int) < ((pre ++ x :: suf).length : Int)) := by simp; omega
theorem end_not_lt : ¬ ((pre.length : Int) < ((pre ++ ([] : List α)).length : Int)) := by simp
theorem wrap_snoc (h : pre.length < 9223372036854775807) : wrap64 ((pre.length : Int) + 1) = ((pre ++ [x]).length : Int) := by
  rw [wrap_id (by omega) (by omega)]; simp
theorem snoc_app : pre ++ x :: suf = (pre ++ [x]) ++ suf := by simp
end
theorem nat_le0 (n : Nat) : (0 : Int) ≤ (n : Int) := Int.natCast_nonneg n
end Go.Proofs.Ytjdhphpjbakddaa.V
/- What the reader of the drawn input answers: always something, and in bounds. -/
namespace Go.Proofs.Ytjdhphpjbakddaa.V
open Go.RowKit Go.Proofs.Ytjdhphpjbakddaa.P Go.Proofs.YtjdhphpjbakddaaW.PrintWords Go.Proofs.YtjdhphpjbakddaaW.PrintMore
def U8 (s : List Int) : Prop := ∀ x ∈ s, 0 ≤ x ∧ x ≤ 255
theorem U8_of {s : List Int} (h : ∀ x ∈ s, (Lit.int .u8 x).wf = true) : U8 s := fun x hx => by
  have := h x hx
  simp [Lit.wf, IntKind.max, IntKind.min, IntKind.signed, IntKind.bits] at this
  omega
theorem rd_u8 {s : List Int} (h : U8 s) (i : Int) : 0 ≤ rd s i ∧ rd s i ≤ 255 := by
  unfold rd
  rw [List.getD_eq_getElem?_getD]
  cases hx : s[i.toNat]? with
  | none => simp
  | some x => exact h x (List.mem_of_getElem? hx)
theorem xor_i64 {a b : Int} (h0 : 0 ≤ a) (h1 : a ≤ 4611686018427387903) (h2 : 0 ≤ b) (h3 : b ≤ 4611686018427387903) : 0 ≤ Go.bits .xor .i64 a b ∧ Go.bits .xor .i64 a b ≤ 9223372036854775807 := by
  obtain ⟨x, rfl⟩ := Int.eq_ofNat_of_zero_le h0
  obtain ⟨y, rfl⟩ := Int.eq_ofNat_of_zero_le h2
  have hx : x ^^^ y < 2 ^ 62 := Nat.xor_lt_two_pow (by omega) (by omega)
  have e1 : (BitVec.ofInt 64 (x : Int)).toNat = x := by
    rw [BitVec.ofInt_natCast, BitVec.toNat_ofNat]; exact Nat.mod_eq_of_lt (by omega)
  have e2 : (BitVec.ofInt 64 (y : Int)).toNat = y := by
    rw [BitVec.ofInt_natCast, BitVec.toNat_ofNat]; exact Nat.mod_eq_of_lt (by omega)
  have e : Go.bits .xor .i64 (x : Int) (y : Int) = IntKind.i64.wrap ((BitVec.ofInt 64 (x : Int) ^^^ BitVec.ofInt 64 (y : Int)).toNat : Int) := rfl
  rw [e, BitVec.toNat_xor, e1, e2, IntKind.wrap_i64]
  omega
theorem tmod_bd {a n : Int} (h0 : 0 ≤ a) (hn : 1 ≤ n) : 0 ≤ Int.tmod a n ∧ Int.tmod a n < n := by
  rw [Int.tmod_eq_emod_of_nonneg h0]
  exact ⟨Int.emod_nonneg _ (by omega), Int.emod_lt_of_pos _ (by omega)⟩
theorem tdiv_bd {a n : Int} (h0 : 0 ≤ a) (hn : 1 ≤ n) : 0 ≤ Int.tdiv a n ∧ Int.tdiv a n ≤ a := by
  rw [Int.tdiv_eq_ediv_of_nonneg h0]
  exact ⟨Int.ediv_nonneg h0 (by omega), Int.ediv_le_self _ h0⟩
/-- One number below n. -/
theorem pick_eq {s : List Int} {q n : Int} {k : Nat} (hs : U8 s) (hl : s.length ≤ 2000) (h0 : 0 ≤ q) (h1 : q ≤ 1000000) (hn : 1 ≤ n) (hk : 0 < k) : ∃ v, spec_l1Rd_pick.f k s q n = some (v, q + 1) ∧ 0 ≤ v ∧ v < n := by
  obtain ⟨k, rfl⟩ := succ_of hk
  unfold spec_l1Rd_pick.f
  rw [if_neg (by omega), wrap_id (i := q + 1) (by omega) (by omega), spec_l1Rd_pick.j0]
  by_cases hz : s.length = 0
  · rw [if_pos (by rw [beq_iff_eq]; omega)]
    exact ⟨0, rfl, by omega, by omega⟩
  · rw [if_neg (by rw [beq_iff_eq]; omega), show q + 1 - 1 = q by omega, wrap_id (i := q) (by omega) (by omega)]
    by_cases h2 : q < (s.length : Int)
    · have hb := rd_u8 hs q
      rw [if_pos h2, if_pos h0, if_neg (by omega), wrap_id (i := rd s q) (by omega) (by omega)]
      exact ⟨_, rfl, tmod_bd hb.1 hn⟩
    · have b1 := tmod_bd (a := q) (n := s.length) h0 (by omega)
      rw [if_neg h2, if_neg (by omega), if_pos b1.1, if_pos b1.2, wrap_id (i := q * 7) (by omega) (by omega), wrap_id (i := q * 7 + 3) (by omega) (by omega)]
      have b2 := tmod_bd (a := q * 7 + 3) (n := s.length) (by omega) (by omega)
      rw [if_pos b2.1, if_pos b2.2, if_neg (by omega)]
      have c1 := rd_u8 hs (Int.tmod q s.length)
      have c2 := rd_u8 hs (Int.tmod (q * 7 + 3) s.length)
      have c3 := tdiv_bd (a := q) (n := s.length) h0 (by omega)
      generalize rd s (Int.tmod q s.length) = A at c1 ⊢
      generalize rd s (Int.tmod (q * 7 + 3) s.length) = B at c2 ⊢
      generalize Int.tdiv q s.length = D at c3 ⊢
      rw [wrap_id (i := A) (by omega) (by omega), wrap_id (i := B) (by omega) (by omega), wrap_id (i := D) (by omega) (by omega), wrap_id (i := A * 131) (by omega) (by omega), wrap_id (i := B * 1117) (by omega) (by omega), wrap_id (i := q * 29) (by omega) (by omega), wrap_id (i := D * 53) (by omega) (by omega),
        wrap_id (i := A * 131 + B * 1117) (by omega) (by omega), wrap_id (i := A * 131 + B * 1117 + q * 29) (by omega) (by omega), wrap_id (i := A * 131 + B * 1117 + q * 29 + D * 53) (by omega) (by omega)]
      have c4 : 0 ≤ A * 131 + B * 1117 + q * 29 + D * 53 ∧ A * 131 + B * 1117 + q * 29 + D * 53 ≤ 1000000000 := by omega
      generalize A * 131 + B * 1117 + q * 29 + D * 53 = X at c4 ⊢
      have c5 := tdiv_bd (a := X) (n := 64) c4.1 (by omega)
      rw [wrap_id (i := Int.tdiv X 64) (by omega) (by omega)]
      have c6 := xor_i64 (a := X) (b := Int.tdiv X 64) (by omega) (by omega) (by omega) (by omega)
      exact ⟨_, rfl, tmod_bd c6.1 hn⟩
/-- One of a list. -/
theorem of_eq {s : List Int} {q : Int} {k : Nat} {l : List ByteArray} (hs : U8 s) (hl : s.length ≤ 2000) (h0 : 0 ≤ q) (h1 : q ≤ 1000000) (hn : 1 ≤ l.length) (hk : 0 < k) : ∃ x, spec_l1Rd_of.f k s q l = some (x, q + 1) ∧ x ∈ l := by
  obtain ⟨v, hv, b0, b1⟩ := pick_eq (n := (l.length : Int)) hs hl h0 h1 (by omega) hk
  unfold spec_l1Rd_of.f
  rw [hv, Option.bind_some, if_pos b0, if_pos b1]
  refine ⟨_, rfl, ?_⟩
  show rdOf ByteArray.empty l v ∈ l
  unfold rdOf
  rw [List.getD_eq_getElem?_getD, List.getElem?_eq_getElem (by omega)]
  exact List.getElem_mem _
theorem open_eq {l : List Int} (h : U8 l) : ∃ s, spec_l1Open.f l = some (s, 0) ∧ U8 s ∧ s.length ≤ 2000 := by
  unfold spec_l1Open.f
  by_cases h1 : (l.length : Int) > 2000
  · rw [if_pos h1, if_pos (by omega)]
    exact ⟨_, rfl, fun x hx => h x (List.mem_of_mem_take hx), by simp; omega⟩
  · rw [if_neg h1]
    exact ⟨_, rfl, h, by omega⟩
end Go.Proofs.Ytjdhphpjbakddaa.V
/- A text many times. -/
namespace Go.Proofs.Ytjdhphpjbakddaa.V
open Go.RowKit Go.Proofs.Ytjdhphpjbakddaa.P Go.Proofs.YtjdhphpjbakddaaW.PrintWords Go.Proofs.YtjdhphpjbakddaaW.PrintMore
theorem many_at {x : ByteArray} {n : Int} {z : Nat} (h : (spec_l1Many.f 12 x n).map ByteArray.size = some z) {k : Nat} (hk : 12 ≤ k) : ∃ r, spec_l1Many.f k x n = some r ∧ r.size = z := by
  cases h1 : spec_l1Many.f 12 x n with
  | none => rw [h1] at h; cases h
  | some r =>
    rw [h1] at h
    exact ⟨r, at_rounds (g := fun k => spec_l1Many.f k x n) (fun k => spec_l1Many.mono x n k) hk h1, by simpa using h⟩
end Go.Proofs.Ytjdhphpjbakddaa.V
/- What holds of all bytes of a string, counted from a place on; the order of strings. -/
namespace Go.Proofs.Ytjdhphpjbakddaa.V
open Go.RowKit Go.Proofs.Ytjdhphpjbakddaa.P Go.Proofs.YtjdhphpjbakddaaW.PrintWords Go.Proofs.YtjdhphpjbakddaaW.PrintMore
/-- All of d bytes from i on. -/
def bAll (P : Int → Bool) (s : ByteArray) : Nat → Nat → Bool
  | 0, _ => true
  | d + 1, i => P (bt s i) && bAll P s d (i + 1)
theorem bAll_iff (P : Int → Bool) (s : ByteArray) : ∀ d i, bAll P s d i = true ↔ ∀ j, i ≤ j → j < i + d → P (bt s (j : Nat)) = true
  | 0, i => by simp [bAll]; intro j h1 h2; omega
  | d + 1, i => by
    simp only [bAll, Bool.and_eq_true, bAll_iff P s d (i + 1)]
    constructor
    · rintro ⟨h1, h2⟩ j h3 h4
      rcases Nat.eq_or_lt_of_le h3 with rfl | h5
      · exact h1
      · exact h2 j (by omega) (by omega)
    · intro h
      exact ⟨h i (Nat.le_refl _) (by omega), fun j h1 h2 => h j (by omega) (by omega)⟩
theorem bt_nat (s : ByteArray) (j : Nat) (h : j < s.size) : bt s (j : Nat) = ((s.data.toList[j]'(by simpa using h)).toNat : Int) := by
  unfold bt
  rw [dif_pos (by simpa using h)]
  rfl
theorem bl_irrefl : ∀ a : List UInt8, Op.bytesLess a a = false
  | [] => rfl
  | x :: a => by simp [Op.bytesLess, bl_irrefl a]
theorem bl_asymm {a b : List UInt8} (h : Op.bytesLess a b = true) : Op.bytesLess b a = false := by
  rw [← Opens.bytesLess_not, h]; rfl
theorem bl_trans : ∀ {a b c : List UInt8}, Op.bytesLess a b = true → Op.bytesLess b c = true → Op.bytesLess a c = true
  | [], _, [], _, h => by cases ‹List UInt8› <;> simp [Op.bytesLess] at h
  | [], _, _ :: _, _, _ => rfl
  | _ :: _, [], _, h, _ => by simp [Op.bytesLess] at h
  | _ :: _, _ :: _, [], _, h => by simp [Op.bytesLess] at h
  | x :: a, y :: b, z :: c, h1, h2 => by
    simp only [Op.bytesLess, Bool.or_eq_true, Bool.and_eq_true, decide_eq_true_eq, beq_iff_eq] at h1 h2 ⊢
    rcases h1 with h1 | ⟨rfl, h1⟩
    · rcases h2 with h2 | ⟨rfl, h2⟩
      · left; rw [UInt8.lt_iff_toNat_lt] at *; omega
      · exact .inl h1
    · rcases h2 with h2 | ⟨rfl, h2⟩
      · exact .inl h2
      · exact .inr ⟨rfl, bl_trans h1 h2⟩
theorem bl_total {a b : List UInt8} (h : Op.bytesLess a b = false) (h' : a ≠ b) : Op.bytesLess b a = true := by
  rw [← Opens.bytesLess_not, h]; simp [h']
end Go.Proofs.Ytjdhphpjbakddaa.V
/- What the laws' own helpers over entries tell: equality, marks, sizes, copies. -/
namespace Go.Proofs.Ytjdhphpjbakddaa.V
open Go.RowKit Go.Proofs.Ytjdhphpjbakddaa.P Go.Proofs.YtjdhphpjbakddaaW.PrintWords Go.Proofs.YtjdhphpjbakddaaW.PrintMore
theorem rde_mid {pre suf : List S_impl_Entry} {x : S_impl_Entry} : rd_impl_Entry (pre ++ x :: suf) (pre.length : Int) = x := by simp [rd_impl_Entry]
theorem entry_ext {x y : S_impl_Entry} : x = y ↔ x.f0 = y.f0 ∧ x.f1 = y.f1 ∧ x.f2 = y.f2 ∧ x.f3 = y.f3 := by cases x; cases y; simp
instance : DecidableEq S_impl_Entry := fun _ _ => decidable_of_iff _ entry_ext.symm
def Sm (l : List S_impl_Entry) : Prop := ∀ x ∈ l, x.f0.size ≤ 1048576 ∧ x.f3.size ≤ 1048576
end Go.Proofs.Ytjdhphpjbakddaa.V
/- When entries are ok: by the reference, and by the program. -/
namespace Go.Proofs.Ytjdhphpjbakddaa.V
open Go.RowKit Go.Proofs.Ytjdhphpjbakddaa.P Go.Proofs.YtjdhphpjbakddaaW.PrintWords Go.Proofs.YtjdhphpjbakddaaW.PrintMore
theorem l1In_eq (a b c : Int) : spec_l1In.f a b c = some (decide (b ≤ a ∧ a ≤ c)) := by
  unfold spec_l1In.f
  by_cases h : a ≥ b
  · rw [if_pos h]; simp [show b ≤ a from h]
  · rw [if_neg h]; simp [show ¬ b ≤ a from h]
def KB (b : Int) : Bool := decide (46 ≤ b) && decide (b ≤ 126) && decide (b ≠ 58)
def VB (b : Int) : Bool := decide (32 ≤ b) && decide (b ≤ 126)
def keyOk (s : ByteArray) : Bool := bAll KB s s.size 0 && decide (1 ≤ s.size ∧ s.size ≤ 24)
def valOk (s : ByteArray) : Bool := bAll VB s s.size 0 && decide (s.size ≤ 80)
theorem l4Key_l0 : ∀ (d i : Nat) (s : ByteArray) (k : Nat), i + d = s.size → d < k → s.size ≤ 4611686018427387904 → spec_l4Key.l0 k s (i : Int) = some (bAll KB s d i && decide (1 ≤ s.size ∧ s.size ≤ 24)) := by
  intro d
  induction d with
  | zero =>
    intro i s k hi hk hb
    obtain ⟨k, rfl⟩ := succ_of hk
    rw [spec_l4Key.l0, if_neg (by omega), l1In_eq, Option.bind_some]
    simp only [bAll, Bool.true_and]
    congr 1
    exact decide_eq_decide.2 (by omega)
  | succ d ih =>
    intro i s k hi hk hb
    obtain ⟨k, rfl⟩ := succ_of hk
    rw [spec_l4Key.l0, if_pos (by omega), if_pos (nat_le0 _), bAll]
    have hr : -9223372036854775808 ≤ (i : Int) + 1 := by omega
    by_cases h1 : bt s i < 46
    · rw [if_pos h1]; simp [KB, show ¬ 46 ≤ bt s i by omega]
    · rw [if_neg h1]
      by_cases h2 : bt s i > 126
      · rw [if_pos h2]; simp [KB, show ¬ bt s i ≤ 126 by omega]
      · rw [if_neg h2]
        by_cases h3 : bt s i = 58
        · rw [if_pos h3]; simp [KB, h3]
        · rw [if_neg h3, wrap_id hr (by omega), show (i : Int) + 1 = ((i + 1 : Nat) : Int) by omega, ih (i + 1) s k (by omega) (by omega) hb]
          simp [KB, show 46 ≤ bt s i by omega, show bt s i ≤ 126 by omega, h3]
theorem l4Key_eq (s : ByteArray) (k : Nat) (hk : s.size < k) (hb : s.size ≤ 4611686018427387904) : spec_l4Key.f k s = some (keyOk s) := l4Key_l0 s.size 0 s k (by omega) hk hb
theorem l4Value_l0 : ∀ (d i : Nat) (s : ByteArray) (k : Nat), i + d = s.size → d < k → s.size ≤ 4611686018427387904 → spec_l4Value.l0 k s (i : Int) = some (bAll VB s d i && decide (s.size ≤ 80)) := by
  intro d
  induction d with
  | zero =>
    intro i s k hi hk hb
    obtain ⟨k, rfl⟩ := succ_of hk
    rw [spec_l4Value.l0, if_neg (by omega)]
    simp only [bAll, Bool.true_and]
    congr 1
    exact decide_eq_decide.2 (by omega)
  | succ d ih =>
    intro i s k hi hk hb
    obtain ⟨k, rfl⟩ := succ_of hk
    rw [spec_l4Value.l0, if_pos (by omega), if_pos (nat_le0 _), bAll]
    have hr : -9223372036854775808 ≤ (i : Int) + 1 := by omega
    by_cases h1 : bt s i < 32
    · rw [if_pos h1]; simp [VB, show ¬ 32 ≤ bt s i by omega]
    · rw [if_neg h1]
      by_cases h2 : bt s i > 126
      · rw [if_pos h2]; simp [VB, show ¬ bt s i ≤ 126 by omega]
      · rw [if_neg h2, wrap_id hr (by omega), show (i : Int) + 1 = ((i + 1 : Nat) : Int) by omega, ih (i + 1) s k (by omega) (by omega) hb]
        simp [VB, show 32 ≤ bt s i by omega, show bt s i ≤ 126 by omega]
theorem l4Value_eq (s : ByteArray) (k : Nat) (hk : s.size < k) (hb : s.size ≤ 4611686018427387904) : spec_l4Value.f k s = some (valOk s) := l4Value_l0 s.size 0 s k (by omega) hk hb
/-- An entry is ok. -/
def okE (x : S_impl_Entry) : Bool := keyOk x.f0 && decide (1 ≤ x.f1 ∧ x.f1 ≤ 99999999) && valOk x.f3 && (!x.f2 || x.f3.toList == [])
theorem l4Ok_eq (x : S_impl_Entry) (k : Nat) (h0 : x.f0.size < k) (h3 : x.f3.size < k) (hb : x.f0.size ≤ 4611686018427387904) (hb3 : x.f3.size ≤ 4611686018427387904) : spec_l4Ok.f k x.f0 x.f1 x.f2 x.f3 = some (okE x) := by
  unfold spec_l4Ok.f okE
  rw [l4Key_eq _ k h0 hb, Option.bind_some, l1In_eq, Option.bind_some, l4Value_eq _ k h3 hb3, Option.bind_some]
  cases keyOk x.f0
  · rfl
  · by_cases h1 : 1 ≤ x.f1 ∧ x.f1 ≤ 99999999
    · rw [if_pos rfl, if_pos (by simpa using h1)]
      cases valOk x.f3
      · simp [h1]
      · cases x.f2 <;> simp [h1]
    · rw [if_pos rfl, if_neg (by simpa using h1)]; simp [h1]
/-- One entry ahead of another. -/
def ltE (x y : S_impl_Entry) : Bool := Op.bytesLess x.f0.toList y.f0.toList || (x.f0.toList == y.f0.toList && decide (x.f1 > y.f1))
theorem l4Less_eq (x y : S_impl_Entry) : spec_l4Less.f x.f0 x.f1 x.f2 x.f3 y.f0 y.f1 y.f2 y.f3 = some (ltE x y) := by
  unfold spec_l4Less.f ltE
  by_cases h : Op.bytesLess x.f0.toList y.f0.toList = true
  · rw [if_pos h]; simp [h]
  · rw [if_neg h]
    by_cases h2 : x.f0.toList = y.f0.toList
    · rw [if_pos h2]; simp [h2, bl_irrefl]
    · rw [if_neg h2]; simp [h2, h]
/-- All ok, each behind the one ahead of it. -/
def okFrom : Option S_impl_Entry → List S_impl_Entry → Bool
  | _, [] => true
  | none, x :: r => okE x && okFrom (some x) r
  | some y, x :: r => okE x && ltE y x && okFrom (some x) r
def okEs (l : List S_impl_Entry) : Bool := okFrom none l && decide (l.length ≤ 240)
theorem rde_last {pre suf : List S_impl_Entry} {y : S_impl_Entry} : rd_impl_Entry (pre ++ [y] ++ suf) (((pre ++ [y]).length : Int) - 1) = y := by simp [rd_impl_Entry]
theorem l4Sorted_l0 : ∀ (suf pre : List S_impl_Entry) (k : Nat), suf.length + 1048577 < k → (pre ++ suf).length ≤ 4611686018427387904 → Sm suf →
    spec_l4Sorted.l0 k (pre ++ suf) (pre.length : Int) = some (okFrom pre.getLast? suf) := by
  intro suf
  induction suf with
  | nil =>
    intro pre k hk hb hs
    obtain ⟨k, rfl⟩ := succ_of (show 0 < k by omega)
    rw [spec_l4Sorted.l0, if_neg end_not_lt]
    cases pre.getLast? <;> rfl
  | cons x suf ih =>
    intro pre k hk hb hs
    obtain ⟨k, rfl⟩ := succ_of (show 0 < k by omega)
    simp only [List.length_cons] at hk
    have hx := hs x (by simp)
    have hl : pre.length ≤ 4611686018427387904 := by simp at hb; omega
    have ih' := ih (pre ++ [x]) k (by omega) (by simpa using hb) (fun y h => hs y (by simp [h]))
    rw [List.getLast?_concat] at ih'
    rw [spec_l4Sorted.l0, if_pos mid_lt, if_pos (nat_le0 _), rde_mid, l4Ok_eq x k (by omega) (by omega) (by omega) (by omega), Option.bind_some]
    rcases List.eq_nil_or_concat pre with rfl | ⟨pre', y, rfl⟩
    · simp only [List.getLast?_nil, okFrom]
      cases okE x
      · rfl
      · rw [if_pos rfl, if_neg (by simp), wrap_snoc (x := x) (by omega), snoc_app (suf := suf), ih']; rfl
    · simp only [List.concat_eq_append] at *
      have e : (((pre' ++ [y]).length : Int)) - 1 = (pre'.length : Int) := by simp
      rw [List.getLast?_concat, okFrom]
      cases okE x
      · rfl
      · rw [if_pos rfl, if_pos (by simp), wrap_id (i := ((pre' ++ [y]).length : Int) - 1) (by omega) (by omega), if_pos (by rw [e]; exact nat_le0 _), if_pos (by rw [e]; simp; omega), rde_last, l4Less_eq, Option.bind_some]
        cases ltE y x
        · rfl
        · rw [if_pos rfl, wrap_snoc (x := x) (by omega), snoc_app (suf := suf), ih']; rfl
theorem spec_EntriesOk_eq (l : List S_impl_Entry) (k : Nat) (hk : l.length + 1048577 < k) (hb : l.length ≤ 4611686018427387904) (hs : Sm l) : spec_EntriesOk.f k l = some (okEs l) := by
  unfold spec_EntriesOk.f spec_l4Sorted.f
  have h := l4Sorted_l0 l [] k hk (by simpa using hb) hs
  simp only [List.nil_append, List.length_nil, Int.natCast_zero, List.getLast?_nil] at h
  rw [h, Option.bind_some]
  unfold okEs
  cases okFrom none l
  · rfl
  · rw [if_pos rfl]
    simp only [Bool.true_and]
    congr 1
    exact decide_eq_decide.2 (by omega)
theorem isBetween_l0 : ∀ (d i : Nat) (s : ByteArray) (lo hi : Int) (k : Nat), i + d = s.size → d < k → s.size ≤ 4611686018427387904 → impl_isBetween.l0 k s lo hi (s.size : Int) (i : Int) = some (bAll (fun b => decide (lo ≤ b) && decide (b ≤ hi)) s d i) := by
  intro d
  induction d with
  | zero =>
    intro i s lo hi k hi' hk hb
    obtain ⟨k, rfl⟩ := succ_of hk
    rw [impl_isBetween.l0, if_neg (by omega)]; rfl
  | succ d ih =>
    intro i s lo hi k hi' hk hb
    obtain ⟨k, rfl⟩ := succ_of hk
    rw [impl_isBetween.l0, if_pos (by omega), if_pos (nat_le0 _), if_pos (by omega), bAll]
    by_cases h1 : bt s i < lo
    · rw [if_pos h1]; simp [show ¬ lo ≤ bt s i by omega]
    · rw [if_neg h1]
      by_cases h2 : bt s i > hi
      · rw [if_pos h2]; simp [show ¬ bt s i ≤ hi by omega]
      · rw [if_neg h2, wrap_id (by omega) (by omega), show (i : Int) + 1 = ((i + 1 : Nat) : Int) by omega, ih (i + 1) s lo hi k (by omega) (by omega) hb]
        simp [show lo ≤ bt s i by omega, show bt s i ≤ hi by omega]
theorem isBetween_eq (s : ByteArray) (lo hi : Int) (k : Nat) (hk : s.size < k) (hb : s.size ≤ 4611686018427387904) : impl_isBetween.f k s lo hi = some (bAll (fun b => decide (lo ≤ b) && decide (b ≤ hi)) s s.size 0) := isBetween_l0 s.size 0 s lo hi k (by omega) hk hb
theorem Contains_eq (s : ByteArray) : strings_Contains.f s ⟨#[58]⟩ = some (!bAll (fun b => decide (b ≠ 58)) s s.size 0) := by
  have e : strings_Contains.f s ⟨#[58]⟩ = some (decide (0 ≤ Lib.indexByte s.data.toList 58)) := rfl
  rw [e]
  congr 1
  rw [← Lib.contains_iff_indexByte, Bool.eq_iff_iff, Bool.not_eq_true', ← Bool.not_eq_true, bAll_iff, List.contains_iff_mem, List.mem_iff_getElem]
  constructor
  · rintro ⟨j, h1, h2⟩ h
    have h3 : j < s.size := by simpa using h1
    have h4 := h j (by omega) (by omega)
    rw [bt_nat s j h3, h2] at h4
    exact absurd h4 (by decide)
  · intro h
    refine Classical.byContradiction fun hn => h fun j h1 h2 => ?_
    rw [bt_nat s j (by omega)]
    simp only [decide_eq_true_eq]
    intro h5
    exact hn ⟨j, by simpa using (show j < s.size by omega), UInt8.toNat_inj.1 (by rw [show (58 : UInt8).toNat = 58 from rfl]; omega)⟩
theorem keyOk_eq (s : ByteArray) : keyOk s = (decide (1 ≤ s.size ∧ s.size ≤ 24) && (bAll (fun b => decide (46 ≤ b) && decide (b ≤ 126)) s s.size 0 && bAll (fun b => decide (b ≠ 58)) s s.size 0)) := by
  unfold keyOk
  rw [Bool.and_comm]
  congr 1
  rw [Bool.eq_iff_iff, Bool.and_eq_true, bAll_iff, bAll_iff, bAll_iff]
  simp only [KB, Bool.and_eq_true]
  exact ⟨fun h => ⟨fun j h1 h2 => (h j h1 h2).1, fun j h1 h2 => (h j h1 h2).2⟩, fun h j h1 h2 => ⟨h.1 j h1 h2, h.2 j h1 h2⟩⟩
theorem isEntry_eq (x : S_impl_Entry) (k : Nat) (h0 : x.f0.size < k) (h3 : x.f3.size < k) (hb : x.f0.size ≤ 4611686018427387904) (hb3 : x.f3.size ≤ 4611686018427387904) : impl_isEntry.f k x.f0 x.f1 x.f2 x.f3 = some (okE x) := by
  unfold impl_isEntry.f okE
  rw [keyOk_eq, isBetween_eq _ _ _ k h0 hb, Option.bind_some, Contains_eq, Option.bind_some, isBetween_eq _ _ _ k h3 hb3, Option.bind_some]
  have hv : valOk x.f3 = (decide (x.f3.size ≤ 80) && bAll (fun b => decide (32 ≤ b) && decide (b ≤ 126)) x.f3 x.f3.size 0) := Bool.and_comm _ _
  rw [hv]
  generalize bAll (fun b => decide (46 ≤ b) && decide (b ≤ 126)) x.f0 x.f0.size 0 = p1
  generalize bAll (fun b => decide (b ≠ 58)) x.f0 x.f0.size 0 = p2
  generalize bAll (fun b => decide (32 ≤ b) && decide (b ≤ 126)) x.f3 x.f3.size 0 = p3
  by_cases h1 : (x.f0.size : Int) < 1
  · rw [if_pos h1]; simp [show ¬ 1 ≤ x.f0.size by omega]
  rw [if_neg h1]
  by_cases h2 : (x.f0.size : Int) > 24
  · rw [if_pos h2]; simp [show ¬ x.f0.size ≤ 24 by omega]
  rw [if_neg h2]
  have hz : (1 ≤ x.f0.size ∧ x.f0.size ≤ 24) = True := by simp; omega
  simp only [hz, decide_true, Bool.true_and]
  cases p1
  · simp
  cases p2
  · simp
  by_cases h4 : x.f1 ≥ 1
  · by_cases h5 : x.f1 ≤ 99999999
    · by_cases h6 : (x.f3.size : Int) ≤ 80
      · have h6' : x.f3.size ≤ 80 := by omega
        have h4' : 1 ≤ x.f1 := h4
        cases p3 <;> cases x.f2 <;> simp [h4', h5, h6, h6']
      · simp [h4, h5, h6, show ¬ x.f3.size ≤ 80 by omega]
    · simp [h5]
  · simp [h4]
theorem orI (k : Nat) (r : Int) : ((cmp_Or_int.l0 (k + 1 + 1 + 1) 0 [0, r] (([0, r] : List Int).length : Int) 0).bind fun t147 => some t147) = some r := by
  have w1 : wrap64 1 = 1 := by unfold wrap64; omega
  have w2 : wrap64 2 = 2 := by unfold wrap64; omega
  by_cases h : r = 0
  · subst h; simp [cmp_Or_int.l0, rd, w1, w2]
  · simp [cmp_Or_int.l0, rd, w1, w2, h]
theorem compareEntries_eq (x y : S_impl_Entry) (k : Nat) (hk : 3 < k) : ∃ r : Int, impl_compareEntries.f k x.f0 x.f1 x.f2 x.f3 y.f0 y.f1 y.f2 y.f3 = some r ∧ (r < 0 ↔ ltE x y = true) ∧ (r = 0 ↔ x.f0 = y.f0 ∧ x.f1 = y.f1) := by
  obtain ⟨k, rfl⟩ := succ_of (show 0 < k by omega)
  obtain ⟨k, rfl⟩ := succ_of (show 0 < k by omega)
  obtain ⟨k, rfl⟩ := succ_of (show 0 < k by omega)
  unfold impl_compareEntries.f cmp_Compare_string.f cmp_Compare_int.f cmp_isNaN_string.f cmp_isNaN_int.f cmp_Or_int.f
  simp only [Option.bind_some, bne_self_eq_false, Bool.false_eq_true, if_false]
  by_cases h1 : Op.bytesLess x.f0.toList y.f0.toList = true
  · simp only [if_pos h1, Option.bind_some]
    refine ⟨-1, ?_, by simp [ltE, h1], ?_⟩
    · split
      · rfl
      · split <;> rfl
    · simp
      rintro e; rw [e, bl_irrefl] at h1; cases h1
  · have h1' : Op.bytesLess x.f0.toList y.f0.toList = false := by simpa using h1
    simp only [if_neg h1]
    by_cases h2 : Op.bytesLess y.f0.toList x.f0.toList = true
    · simp only [if_pos h2, Option.bind_some]
      have hne : x.f0.toList ≠ y.f0.toList := fun e => by rw [e, bl_irrefl] at h2; cases h2
      refine ⟨1, ?_, by simp [ltE, h1', hne], ?_⟩
      · split
        · rfl
        · split <;> rfl
      · simp
        rintro e; rw [e] at hne; exact absurd rfl hne
    · simp only [if_neg h2, Option.bind_some]
      have he : x.f0.toList = y.f0.toList := by
        rcases Decidable.em (x.f0.toList = y.f0.toList) with e | e
        · exact e
        · exact absurd (bl_total h1' e) h2
      have he' := (tl_iff _ _).1 he
      by_cases h3 : y.f1 < x.f1
      · simp only [if_pos h3, Option.bind_some]
        exact ⟨-1, orI k (-1), by simp [ltE, he, h3], by simp; intro _; omega⟩
      · simp only [if_neg h3]
        by_cases h4 : y.f1 > x.f1
        · simp only [if_pos h4, Option.bind_some]
          exact ⟨1, orI k 1, by simp [ltE, he, bl_irrefl]; omega, by simp; intro _; omega⟩
        · simp only [if_neg h4, Option.bind_some]
          exact ⟨0, orI k 0, by simp [ltE, he, bl_irrefl]; omega, by simp [he']; omega⟩
theorem areEntries_l0 : ∀ (suf pre : List S_impl_Entry) (k : Nat), suf.length + 1048577 < k → (pre ++ suf).length ≤ 4611686018427387904 → Sm suf →
    impl_areEntries.l0 k (pre ++ suf) (pre ++ suf) ((pre ++ suf).length : Int) (pre.length : Int) = some (okFrom pre.getLast? suf && decide ((pre ++ suf).length ≤ 240)) := by
  intro suf
  induction suf with
  | nil =>
    intro pre k hk hb hs
    obtain ⟨k, rfl⟩ := succ_of (show 0 < k by omega)
    rw [impl_areEntries.l0, if_neg end_not_lt]
    have : okFrom pre.getLast? [] = true := by cases pre.getLast? <;> rfl
    rw [this, Bool.true_and]
    congr 1
    exact decide_eq_decide.2 (by omega)
  | cons x suf ih =>
    intro pre k hk hb hs
    obtain ⟨k, rfl⟩ := succ_of (show 0 < k by omega)
    simp only [List.length_cons] at hk
    have hx := hs x (by simp)
    have hl : pre.length ≤ 4611686018427387904 := by simp at hb; omega
    have ih' := ih (pre ++ [x]) k (by omega) (by simpa using hb) (fun y h => hs y (by simp [h]))
    rw [List.getLast?_concat] at ih'
    rw [impl_areEntries.l0, if_pos mid_lt, if_pos (nat_le0 _), if_pos mid_lt]
    simp only [rde_mid]
    rw [isEntry_eq x k (by omega) (by omega) (by omega) (by omega), Option.bind_some]
    rcases List.eq_nil_or_concat pre with rfl | ⟨pre', y, rfl⟩
    · simp only [List.getLast?_nil, okFrom]
      cases okE x
      · rfl
      · rw [if_pos rfl, if_neg (by simp), wrap_snoc (x := x) (by omega), snoc_app (suf := suf), ih']; rfl
    · simp only [List.concat_eq_append] at *
      have e : (((pre' ++ [y]).length : Int)) - 1 = (pre'.length : Int) := by simp
      rw [List.getLast?_concat, okFrom]
      cases okE x
      · rfl
      · rw [if_pos rfl, if_pos (by simp), wrap_id (i := ((pre' ++ [y]).length : Int) - 1) (by omega) (by omega), if_pos (by rw [e]; exact nat_le0 _), if_pos (by rw [e]; simp; omega), rde_last]
        obtain ⟨r, hr, hlt, -⟩ := compareEntries_eq y x k (by omega)
        rw [hr, Option.bind_some]
        cases hh : ltE y x
        · have : ¬ r < 0 := fun h => by rw [hlt.1 h] at hh; cases hh
          rw [if_pos (by omega)]; rfl
        · have := hlt.2 hh
          rw [if_neg (by omega), wrap_snoc (x := x) (by omega), snoc_app (suf := suf), ih']; rfl
theorem areEntries_eq (l : List S_impl_Entry) (k : Nat) (hk : l.length + 1048577 < k) (hb : l.length ≤ 4611686018427387904) (hs : Sm l) : impl_areEntries.f k l = some (okEs l) := by
  have h := areEntries_l0 l [] k hk (by simpa using hb) hs
  simpa [impl_areEntries.f, okEs] using h
end Go.Proofs.Ytjdhphpjbakddaa.V
/- What is read at a moment. -/
namespace Go.Proofs.Ytjdhphpjbakddaa.V
open Go.RowKit Go.Proofs.Ytjdhphpjbakddaa.P Go.Proofs.YtjdhphpjbakddaaW.PrintWords Go.Proofs.YtjdhphpjbakddaaW.PrintMore
theorem okFrom_mem : ∀ (l : List S_impl_Entry) (p : Option S_impl_Entry), okFrom p l = true → ∀ x ∈ l, okE x = true
  | [], _, _, x, hx => by cases hx
  | y :: r, p, h, x, hx => by
    have h1 : okE y = true ∧ okFrom (some y) r = true := by
      cases p with
      | none => simpa [okFrom] using h
      | some z =>
        simp only [okFrom, Bool.and_eq_true] at h
        exact ⟨h.1.1, h.2⟩
    rcases List.mem_cons.1 hx with rfl | hx
    · exact h1.1
    · exact okFrom_mem r _ h1.2 x hx
theorem okEs_mem {l : List S_impl_Entry} (h : okEs l = true) : ∀ x ∈ l, okE x = true := by
  unfold okEs at h
  simp only [Bool.and_eq_true] at h
  exact okFrom_mem l _ h.1
end Go.Proofs.Ytjdhphpjbakddaa.V
/- A look at many keys at a moment. -/
namespace Go.Proofs.Ytjdhphpjbakddaa.V
open Go.RowKit Go.Proofs.Ytjdhphpjbakddaa.P Go.Proofs.YtjdhphpjbakddaaW.PrintWords Go.Proofs.YtjdhphpjbakddaaW.PrintMore
theorem ltE_trans {x y z : S_impl_Entry} (h1 : ltE x y = true) (h2 : ltE y z = true) : ltE x z = true := by
  simp only [ltE, Bool.or_eq_true, Bool.and_eq_true, beq_iff_eq, decide_eq_true_eq] at *
  rcases h1 with h1 | ⟨h1, h1'⟩
  · rcases h2 with h2 | ⟨h2, h2'⟩
    · exact .inl (bl_trans h1 h2)
    · exact .inl (h2 ▸ h1)
  · rcases h2 with h2 | ⟨h2, h2'⟩
    · exact .inl (h1 ▸ h2)
    · exact .inr ⟨h1.trans h2, by omega⟩
theorem okFrom_cons {p : Option S_impl_Entry} {x : S_impl_Entry} {r : List S_impl_Entry} (h : okFrom p (x :: r) = true) : okE x = true ∧ okFrom (some x) r = true := by
  cases p with
  | none => simpa [okFrom] using h
  | some z =>
    simp only [okFrom, Bool.and_eq_true] at h
    exact ⟨h.1.1, h.2⟩
theorem okFrom_lt : ∀ (l : List S_impl_Entry) (q : S_impl_Entry), okFrom (some q) l = true → ∀ y ∈ l, ltE q y = true
  | [], _, _, y, hy => by cases hy
  | x :: r, q, h, y, hy => by
    have hc := okFrom_cons h
    simp only [okFrom, Bool.and_eq_true] at h
    rcases List.mem_cons.1 hy with rfl | hy
    · exact h.1.2
    · exact ltE_trans h.1.2 (okFrom_lt r x hc.2 y hy)
/-- Not behind, as keys go. -/
def kle (a b : ByteArray) : Prop := a = b ∨ Op.bytesLess a.toList b.toList = true
theorem kle_anti {a b : ByteArray} (h1 : kle a b) (h2 : kle b a) : a = b := by
  rcases h1 with h1 | h1
  · exact h1
  · rcases h2 with h2 | h2
    · exact h2.symm
    · rw [bl_asymm h1] at h2; cases h2
theorem ltE_kle {x y : S_impl_Entry} (h : ltE x y = true) : kle x.f0 y.f0 := by
  simp only [ltE, Bool.or_eq_true, Bool.and_eq_true, beq_iff_eq, decide_eq_true_eq] at h
  rcases h with h | ⟨h, _⟩
  · exact .inr h
  · exact .inl ((tl_iff _ _).1 h)
def st (s p : ByteArray) : Bool := decide (p.size ≤ s.size) && ((s.extract 0 p.size).toList == p.toList)
theorem okE_key {x : S_impl_Entry} (h : okE x = true) : x.f0 ≠ ⟨#[]⟩ := by
  intro e
  unfold okE keyOk at h
  rw [e] at h
  simp at h
  exact absurd h.1.1.1.2.1 (by decide)
end Go.Proofs.Ytjdhphpjbakddaa.V
/- Drawn entries: always some, and small. -/
namespace Go.Proofs.Ytjdhphpjbakddaa.V
open Go.RowKit Go.Proofs.Ytjdhphpjbakddaa.P Go.Proofs.YtjdhphpjbakddaaW.PrintWords Go.Proofs.YtjdhphpjbakddaaW.PrintMore
def SzE (x : S_impl_Entry) : Prop := x.f0.size ≤ 100 ∧ x.f3.size ≤ 100
/-- Whether an entry of a key and moment is there. -/
def hasE (l : List S_impl_Entry) (s : ByteArray) (m : Int) : Bool := l.any fun x => decide (x.f0 = s ∧ x.f1 = m)
theorem l4Has_l0 (e0 : ByteArray) (e1 : Int) (e2 : Bool) (e3 : ByteArray) : ∀ (suf pre : List S_impl_Entry) (k : Nat), suf.length < k → (pre ++ suf).length ≤ 4611686018427387904 →
    spec_l4Has.l0 k (pre ++ suf) (pre.length : Int) e0 e1 e2 e3 = some (hasE suf e0 e1) := by
  intro suf
  induction suf with
  | nil =>
    intro pre k hk hb
    obtain ⟨k, rfl⟩ := succ_of hk
    rw [spec_l4Has.l0, if_neg end_not_lt]; rfl
  | cons x suf ih =>
    intro pre k hk hb
    obtain ⟨k, rfl⟩ := succ_of hk
    have ih' := ih (pre ++ [x]) k (by simpa using hk) (by simpa using hb)
    rw [spec_l4Has.l0, if_pos mid_lt, if_pos (nat_le0 _)]
    simp only [rde_mid, tl_iff]
    rw [wrap_snoc (x := x) (by simp at hb; omega), snoc_app (suf := suf), ih']
    have hc : hasE (x :: suf) e0 e1 = (decide (x.f0 = e0 ∧ x.f1 = e1) || hasE suf e0 e1) := rfl
    rw [hc]
    by_cases h1 : x.f0 = e0
    · by_cases h2 : x.f1 = e1
      · rw [if_pos h1, if_pos h2]; simp [h1, h2]
      · rw [if_pos h1, if_neg h2]; simp [h2]
    · rw [if_neg h1]; simp [h1]
theorem l4Has_eq (l : List S_impl_Entry) (x : S_impl_Entry) (k : Nat) (hk : l.length < k) (hb : l.length ≤ 4611686018427387904) : spec_l4Has.f k l x.f0 x.f1 x.f2 x.f3 = some (hasE l x.f0 x.f1) := by
  have h := l4Has_l0 x.f0 x.f1 x.f2 x.f3 l [] k hk (by simpa using hb)
  simpa [spec_l4Has.f] using h
/-- Put in where it belongs: behind all that are ahead of it. -/
def putE : List S_impl_Entry → S_impl_Entry → List S_impl_Entry
  | [], e => [e]
  | x :: r, e => if ltE x e = true then x :: putE r e else e :: x :: r
theorem putE_length : ∀ (l : List S_impl_Entry) (e : S_impl_Entry), (putE l e).length = l.length + 1
  | [], _ => rfl
  | x :: r, e => by
    rw [putE]; split
    · simp [putE_length r e]
    · simp
theorem putE_mem : ∀ (l : List S_impl_Entry) (e y : S_impl_Entry), y ∈ putE l e ↔ y = e ∨ y ∈ l
  | [], e, y => by simp [putE]
  | x :: r, e, y => by
    rw [putE]; split
    · simp [putE_mem r e y]
      constructor
      · rintro (h | h | h) <;> simp [h]
      · rintro (h | h | h) <;> simp [h]
    · simp
theorem l4Put_l0 (e : S_impl_Entry) : ∀ (suf pre : List S_impl_Entry) (k : Nat), suf.length < k → (pre ++ suf).length ≤ 1000000000 →
    spec_l4Put.l0 k (pre ++ suf) (pre.length : Int) e.f0 e.f1 e.f2 e.f3 = some (pre ++ putE suf e) := by
  intro suf
  induction suf with
  | nil =>
    intro pre k hk hb
    obtain ⟨k, rfl⟩ := succ_of hk
    simp at hb
    rw [spec_l4Put.l0, if_neg end_not_lt]
    simp only [Option.bind_some, List.append_nil, Int.toNat_natCast, List.take_length, List.drop_length, List.nil_append, List.length_nil, List.length_append, List.length_cons]
    rw [if_pos (nat_le0 _), if_pos (by omega), if_pos (by omega), if_pos (by omega), if_pos (by omega)]; rfl
  | cons x suf ih =>
    intro pre k hk hb
    obtain ⟨k, rfl⟩ := succ_of hk
    have ih' := ih (pre ++ [x]) k (by simpa using hk) (by simpa using hb)
    rw [spec_l4Put.l0, if_pos mid_lt, if_pos (nat_le0 _)]
    simp only [rde_mid, l4Less_eq, Option.bind_some]
    rw [putE]
    have hb' : pre.length + (suf.length + 1) ≤ 1000000000 := by simpa using hb
    by_cases h : ltE x e = true
    · rw [if_pos h, if_pos h, wrap_snoc (x := x) (by omega), snoc_app (suf := suf), ih']; simp
    · have ht : (pre ++ x :: suf).take (pre.length : Int).toNat = pre := by simp
      have hd : (pre ++ x :: suf).drop (pre.length : Int).toNat = x :: suf := by simp
      rw [if_neg h, if_neg h, ht, hd]
      simp only [List.nil_append, List.length_nil, List.length_append, List.length_cons]
      rw [if_pos (by omega), if_pos (by omega), if_pos (by omega), if_pos (by omega)]
      simp
theorem l4Put_eq (l : List S_impl_Entry) (e : S_impl_Entry) (k : Nat) (hk : l.length < k) (hb : l.length ≤ 1000000000) : spec_l4Put.f k l e.f0 e.f1 e.f2 e.f3 = some (putE l e) := by
  have h := l4Put_l0 e l [] k hk (by simpa using hb)
  simpa [spec_l4Put.f] using h
section
variable {s : List Int}
theorem l12Key_eq (hs : U8 s) (hl : s.length ≤ 2000) {q : Int} {k : Nat} (h0 : 0 ≤ q) (h1 : q ≤ 1000000) (hk : 0 < k) : ∃ x, spec_l12Key.f k s q = some (x, q + 1) ∧ x.size ≤ 100 := by
  unfold spec_l12Key.f
  obtain ⟨x, hx, hm⟩ := of_eq (k := k) (q := q) (l := [(⟨#[116, 46, 97, 46, 120]⟩ : ByteArray), (⟨#[116, 46, 97, 46, 121]⟩ : ByteArray), (⟨#[116, 46, 97, 98, 46, 120]⟩ : ByteArray), (⟨#[115, 46, 97]⟩ : ByteArray), (⟨#[117, 46, 97]⟩ : ByteArray), (⟨#[109]⟩ : ByteArray), (⟨#[112, 46, 48, 48, 48, 48, 48, 48, 48, 49]⟩ : ByteArray), (⟨#[116, 46, 97, 46, 120, 120]⟩ : ByteArray)]) hs hl h0 h1 (by simp) hk
  rw [hx]
  refine ⟨x, rfl, ?_⟩
  simp only [List.mem_cons, List.not_mem_nil, or_false] at hm
  rcases hm with rfl | rfl | rfl | rfl | rfl | rfl | rfl | rfl <;> decide
theorem l12Entry_eq (hs : U8 s) (hl : s.length ≤ 2000) {q : Int} {k : Nat} (h0 : 0 ≤ q) (h1 : q ≤ 900000) (hk : 0 < k) : ∃ x : S_impl_Entry, spec_l12Entry.f k s q = some (x.f0, x.f1, x.f2, x.f3, q + 4) ∧ SzE x := by
  unfold spec_l12Entry.f
  obtain ⟨y, hy, hys⟩ := l12Key_eq (k := k) (q := q) hs hl h0 (by omega) hk
  obtain ⟨v, hv, v0, v1⟩ := pick_eq (n := 9) (k := k) (q := q + 1) hs hl (by omega) (by omega) (by omega) hk
  obtain ⟨z, hz, hzm⟩ := of_eq (k := k) (q := q + 1 + 1) (l := [(⟨#[]⟩ : ByteArray), (⟨#[111, 110, 101]⟩ : ByteArray), (⟨#[116, 119, 111, 32, 119, 111, 114, 100, 115]⟩ : ByteArray), (⟨#[32, 120, 32]⟩ : ByteArray)]) hs hl (by omega) (by omega) (by simp) hk
  obtain ⟨u, hu, u0, u1⟩ := pick_eq (n := 4) (k := k) (q := q + 1 + 1 + 1) hs hl (by omega) (by omega) (by omega) hk
  have hzs : z.size ≤ 100 := by
    simp only [List.mem_cons, List.not_mem_nil, or_false] at hzm
    rcases hzm with rfl | rfl | rfl | rfl <;> decide
  simp only [hy, hv, hz, hu, Option.bind_some]
  have eq4 : q + 1 + 1 + 1 + 1 = q + 4 := by omega
  by_cases hc : u = 0
  · rw [if_pos hc, eq4]
    exact ⟨⟨y, _, true, ⟨#[]⟩⟩, rfl, hys, by show (0 : Nat) ≤ 100; omega⟩
  · rw [if_neg hc, eq4]
    exact ⟨⟨y, _, false, z⟩, rfl, hys, hzs⟩
theorem l1Dec_eq : ∀ (d : Nat) (n : Int) (k : Nat), 0 ≤ n → n < 10 ^ (d + 1) → n ≤ 1000000000 → d < k → d ≤ 100 → ∃ r, spec_l1Dec.f k n = some r ∧ r.size ≤ d + 1 := by
  intro d
  induction d with
  | zero =>
    intro n k h0 h1 h2 hk _
    obtain ⟨k, rfl⟩ := succ_of hk
    rw [spec_l1Dec.f, if_neg (by omega), if_neg (by omega), if_pos (by omega)]
    exact ⟨_, rfl, by simp [strOfNums, ByteArray.size]⟩
  | succ d ih =>
    intro n k h0 h1 h2 hk hd100
    obtain ⟨k, rfl⟩ := succ_of hk
    rw [spec_l1Dec.f, if_neg (by omega), if_neg (by omega)]
    by_cases h3 : n < 10
    · rw [if_pos h3]
      exact ⟨_, rfl, by simp [strOfNums, ByteArray.size]⟩
    · have hd : Int.tdiv n 10 = n / 10 := Int.tdiv_eq_ediv_of_nonneg h0
      have hp : (10 : Int) ^ (d + 1 + 1) = 10 ^ (d + 1) * 10 := Int.pow_succ 10 (d + 1)
      rw [hp] at h1
      obtain ⟨r, hr, hrs⟩ := ih (n / 10) k (by omega) (by omega) (by omega) (by omega) (by omega)
      rw [if_neg h3, hd, wrap_id (i := n / 10) (by omega) (by omega), hr, Option.bind_some, Option.bind_some]
      have h1s : ∀ m : Int, (strOfNums [m]).size = 1 := fun m => by simp [strOfNums, ByteArray.size]
      rw [if_pos (by rw [h1s]; omega)]
      exact ⟨_, rfl, by rw [ByteArray.size_append, h1s]; omega⟩
theorem l10Pad_l0 : ∀ (d k : Nat) (x : ByteArray), x.size + d = 8 → d < k → ∃ r, spec_l10Pad.l0 k x = some r ∧ r.size = 8 := by
  intro d
  induction d with
  | zero =>
    intro k x hx hk
    obtain ⟨k, rfl⟩ := succ_of hk
    rw [spec_l10Pad.l0, if_neg (by omega)]
    exact ⟨x, rfl, by omega⟩
  | succ d ih =>
    intro k x hx hk
    obtain ⟨k, rfl⟩ := succ_of hk
    rw [spec_l10Pad.l0, if_pos (by omega), if_pos (by omega)]
    exact ih k _ (by rw [ByteArray.size_append]; show 1 + x.size + d = 8; omega) (by omega)
theorem l10Pad_eq (n : Int) (k : Nat) (h0 : 0 ≤ n) (h1 : n < 1000) (hk : 20 < k) : ∃ r, spec_l10Pad.f k n = some r ∧ r.size = 8 := by
  obtain ⟨r, hr, hrs⟩ := l1Dec_eq 2 n k h0 (by omega) (by omega) (by omega) (by omega)
  unfold spec_l10Pad.f
  rw [hr, Option.bind_some]
  exact l10Pad_l0 (8 - r.size) k r (by omega) (by omega)
theorem l12Entries_l1 (q : Int) : ∀ (d i : Nat) (l : List S_impl_Entry) (k : Nat), i + d = 240 → i ≤ l.length → l.length + d ≤ 500 → d + 600 < k → (∀ x ∈ l, SzE x) →
    ∃ l', spec_l12Entries.l1 k l (i : Int) s q = some (l', q) ∧ l'.length = 240 ∧ ∀ x ∈ l', SzE x := by
  intro d
  induction d with
  | zero =>
    intro i l k hi hle hl hk hs
    obtain ⟨k, rfl⟩ := succ_of (show 0 < k by omega)
    rw [spec_l12Entries.l1, if_neg (by omega), if_pos (by omega)]
    exact ⟨_, rfl, by simp; omega, fun x hx => hs x (List.mem_of_mem_take hx)⟩
  | succ d ih =>
    intro i l k hi hle hl hk hs
    obtain ⟨k, rfl⟩ := succ_of (show 0 < k by omega)
    obtain ⟨r, hr, hrs⟩ := l10Pad_eq (i : Int) k (by omega) (by omega) (by omega)
    have hp := l4Put_eq l ⟨(⟨#[120, 46]⟩ : ByteArray) ++ r, 1, false, ⟨#[]⟩⟩ k (by omega) (by omega)
    simp only at hp
    rw [spec_l12Entries.l1, if_pos (by omega), hr, Option.bind_some, if_pos (by omega), hp, Option.bind_some, wrap_id (i := (i : Int) + 1) (by omega) (by omega)]
    refine ih (i + 1) _ k (by omega) (by rw [putE_length]; omega) (by rw [putE_length]; omega) (by omega) (fun x hx => ?_)
    rcases (putE_mem _ _ _).1 hx with rfl | hx
    · refine ⟨?_, by show (0 : Nat) ≤ 100; omega⟩
      show ((⟨#[120, 46]⟩ : ByteArray) ++ r).size ≤ 100
      rw [ByteArray.size_append, hrs]; decide
    · exact hs x hx
theorem l12Entries_l0 (hs : U8 s) (hl : s.length ≤ 2000) : ∀ (r : Nat) (q : Int) (l : List S_impl_Entry) (k : Nat), r ≤ 20 → l.length + r ≤ 100 → r + 900 < k → 0 ≤ q → q + 4 * r ≤ 100000 → (∀ x ∈ l, SzE x) →
    ∃ l' q', spec_l12Entries.l0 k l (r : Int) s q = some (l', q') ∧ l'.length ≤ 240 ∧ (∀ x ∈ l', SzE x) ∧ 0 ≤ q' ∧ q' ≤ q + 4 * r + 1 := by
  intro r
  induction r with
  | zero =>
    intro q l k hr hln hk h0 h1 hz
    obtain ⟨k, rfl⟩ := succ_of (show 0 < k by omega)
    obtain ⟨v, hv, v0, v1⟩ := pick_eq (n := 30) (k := k) (q := q) hs hl h0 (by omega) (by omega) (by omega)
    rw [spec_l12Entries.l0, if_neg (by omega), hv, Option.bind_some]
    by_cases hc : v = 0
    · rw [if_pos hc]
      obtain ⟨l', e, h2, h3⟩ := l12Entries_l1 (s := s) (q + 1) 240 0 l k (by omega) (by omega) (by omega) (by omega) hz
      exact ⟨l', q + 1, e, by omega, h3, by omega, by omega⟩
    · rw [if_neg hc]
      exact ⟨l, q + 1, rfl, by omega, hz, by omega, by omega⟩
  | succ r ih =>
    intro q l k hr hln hk h0 h1 hz
    obtain ⟨k, rfl⟩ := succ_of (show 0 < k by omega)
    obtain ⟨x, hx, hxz⟩ := l12Entry_eq (k := k) (q := q) hs hl h0 (by omega) (by omega)
    have e : wrap64 (((r + 1 : Nat) : Int) - 1) = (r : Int) := by rw [wrap_id (by omega) (by omega)]; omega
    rw [spec_l12Entries.l0, if_pos (by omega), hx, Option.bind_some]
    simp only [l4Has_eq l x k (by omega) (by omega), l4Put_eq l x k (by omega) (by omega), Option.bind_some, e]
    by_cases hc : hasE l x.f0 x.f1 = true
    · rw [if_pos hc]
      obtain ⟨l', q', e2, h2, h3, h4, h5⟩ := ih (q + 4) l k (by omega) (by omega) (by omega) (by omega) (by omega) hz
      exact ⟨l', q', e2, h2, h3, h4, by omega⟩
    · rw [if_neg hc]
      obtain ⟨l', q', e2, h2, h3, h4, h5⟩ := ih (q + 4) (putE l x) k (by omega) (by rw [putE_length]; omega) (by omega) (by omega) (by omega) (fun y hy => by
        rcases (putE_mem _ _ _).1 hy with rfl | hy
        · exact hxz
        · exact hz y hy)
      exact ⟨l', q', e2, h2, h3, h4, by omega⟩
theorem l12Entries_eq (hs : U8 s) (hl : s.length ≤ 2000) {q : Int} {k : Nat} (hk : 950 < k) (h0 : 0 ≤ q) (h1 : q ≤ 10000) :
    ∃ l' q', spec_l12Entries.f k s q = some (l', q') ∧ l'.length ≤ 240 ∧ (∀ x ∈ l', SzE x) ∧ 0 ≤ q' ∧ q' ≤ q + 40 := by
  obtain ⟨v, hv, v0, v1⟩ := pick_eq (n := 10) (k := k) (q := q) hs hl h0 (by omega) (by omega) (by omega)
  obtain ⟨r, rfl⟩ := Int.eq_ofNat_of_zero_le v0
  unfold spec_l12Entries.f
  simp only [hv, Option.bind_some]
  obtain ⟨l', q', e2, h2, h3, h4, h5⟩ := l12Entries_l0 hs hl r (q + 1) [] k (by omega) (by simp; omega) (by omega) (by omega) (by omega) (by simp)
  exact ⟨l', q', e2, h2, h3, h4, by omega⟩
theorem many_k25 : (spec_l1Many.f 12 ⟨#[107]⟩ 25).map ByteArray.size = some 25 := by kernel_rfl
theorem many_v81 : (spec_l1Many.f 12 ⟨#[118]⟩ 81).map ByteArray.size = some 81 := by kernel_rfl
theorem rde_mem {l : List S_impl_Entry} {i : Int} (h0 : 0 ≤ i) (h1 : i < l.length) : rd_impl_Entry l i ∈ l := by
  unfold rd_impl_Entry
  rw [List.getD_eq_getElem?_getD, List.getElem?_eq_getElem (by omega)]
  exact List.getElem_mem _
/-- Small drawn entries. -/
def SmE (l : List S_impl_Entry) : Prop := l.length ≤ 241 ∧ ∀ x ∈ l, SzE x
theorem SmE_set {l : List S_impl_Entry} {i : Nat} {y : S_impl_Entry} (h : SmE l) (hy : SzE y) : SmE (l.set i y) := ⟨by simpa using h.1, fun x hx => by
  rcases List.mem_or_eq_of_mem_set hx with h2 | rfl
  · exact h.2 x h2
  · exact hy⟩
theorem SmE_Sm {l : List S_impl_Entry} (h : SmE l) : Sm l := fun x hx => by
  have := h.2 x hx
  exact ⟨by have := this.1; omega, by have := this.2; omega⟩
theorem SpoilEntries_eq (hs : U8 s) (hl : s.length ≤ 2000) {q : Int} {k : Nat} (hk : 950 < k) (h0 : 0 ≤ q) (h1 : q ≤ 10000) {l : List S_impl_Entry} (hln : l.length ≤ 240) (hz : ∀ x ∈ l, SzE x) :
    ∃ l' q', spec_l12SpoilEntries.f k s q l = some (l', q') ∧ SmE l' ∧ 0 ≤ q' ∧ q' ≤ q + 3 := by
  have hsm : SmE l := ⟨by omega, hz⟩
  unfold spec_l12SpoilEntries.f
  simp only [Option.bind_some, List.nil_append, List.length_nil]
  rw [if_pos (by omega)]
  by_cases hn : (l.length : Int) = 0
  · obtain ⟨z, hzz, hzm⟩ := of_eq (k := k) (q := q) (l := [(⟨#[]⟩ : ByteArray), (⟨#[97, 32, 98]⟩ : ByteArray), (⟨#[97, 58, 98]⟩ : ByteArray)]) hs hl (by omega) (by omega) (by simp) (by omega)
    have hzs : z.size ≤ 100 := by
      simp only [List.mem_cons, List.not_mem_nil, or_false] at hzm
      rcases hzm with rfl | rfl | rfl <;> decide
    rw [if_pos hn, hzz, Option.bind_some]
    refine ⟨_, _, rfl, ⟨by simp, fun x hx => ?_⟩, by omega, by omega⟩
    simp at hx; subst hx
    exact ⟨hzs, by show (0 : Nat) ≤ 100; omega⟩
  rw [if_neg hn]
  obtain ⟨i, hi, i0, i1⟩ := pick_eq (n := (l.length : Int)) (k := k) (q := q) hs hl h0 (by omega) (by omega) (by omega)
  obtain ⟨v, hv, v0, v1⟩ := pick_eq (n := 5) (k := k) (q := q + 1) hs hl (by omega) (by omega) (by omega) (by omega)
  have hme := hz _ (rde_mem i0 i1)
  simp only [hi, hv, Option.bind_some]
  by_cases c0 : v = 0
  · obtain ⟨u, hu, u0, u1⟩ := pick_eq (n := 2) (k := k) (q := q + 1 + 1) hs hl (by omega) (by omega) (by omega) (by omega)
    rw [if_pos c0]
    simp only [hu, Option.bind_some]
    rw [if_pos u0, if_pos (by simpa using u1), if_pos i0, if_pos i1]
    exact ⟨_, _, rfl, SmE_set hsm hme, by omega, by omega⟩
  rw [if_neg c0]
  by_cases c1 : v = 1
  · obtain ⟨t, ht, hts⟩ := many_at many_k25 (k := k) (by omega)
    obtain ⟨z, hzz, hzm⟩ := of_eq (k := k) (q := q + 1 + 1) (l := [(⟨#[]⟩ : ByteArray), (⟨#[97, 32, 98]⟩ : ByteArray), t]) hs hl (by omega) (by omega) (by simp) (by omega)
    have hzs : z.size ≤ 100 := by
      simp only [List.mem_cons, List.not_mem_nil, or_false] at hzm
      rcases hzm with rfl | rfl | rfl
      · decide
      · decide
      · omega
    rw [if_pos c1]
    simp only [ht, hzz, Option.bind_some]
    rw [if_pos i0, if_pos i1]
    exact ⟨_, _, rfl, SmE_set hsm ⟨hzs, hme.2⟩, by omega, by omega⟩
  rw [if_neg c1]
  by_cases c2 : v = 2
  · obtain ⟨t, ht, hts⟩ := many_at many_v81 (k := k) (by omega)
    obtain ⟨z, hzz, hzm⟩ := of_eq (k := k) (q := q + 1 + 1) (l := [(⟨#[10]⟩ : ByteArray), t]) hs hl (by omega) (by omega) (by simp) (by omega)
    have hzs : z.size ≤ 100 := by
      simp only [List.mem_cons, List.not_mem_nil, or_false] at hzm
      rcases hzm with rfl | rfl
      · decide
      · omega
    rw [if_pos c2]
    simp only [ht, hzz, Option.bind_some]
    rw [if_pos i0, if_pos i1]
    exact ⟨_, _, rfl, SmE_set hsm ⟨hme.1, hzs⟩, by omega, by omega⟩
  rw [if_neg c2]
  by_cases c3 : v = 3
  · rw [if_pos c3, if_pos i0, if_pos i1]
    have hset : ∀ y : S_impl_Entry, rd_impl_Entry (l.set i.toNat y) i = y := fun y => by
      unfold rd_impl_Entry
      rw [List.getD_eq_getElem?_getD, List.getElem?_set_self (by omega)]; rfl
    rw [hset]
    exact ⟨_, _, rfl, SmE_set (SmE_set hsm hme) ⟨hme.1, by show (1 : Nat) ≤ 100; omega⟩, by omega, by omega⟩
  · rw [if_neg c3, if_pos i0, if_pos i1, if_pos (by omega)]
    refine ⟨_, _, rfl, ⟨by simp; omega, fun x hx => ?_⟩, by omega, by omega⟩
    rcases List.mem_append.1 hx with hx | hx
    · exact hz x hx
    · simp at hx; subst hx; exact hme
theorem AnyEntries_eq (hs : U8 s) (hl : s.length ≤ 2000) {q : Int} {k : Nat} (hk : 950 < k) (h0 : 0 ≤ q) (h1 : q ≤ 9000) :
    ∃ l' q', spec_l12AnyEntries.f k s q = some (l', q') ∧ SmE l' ∧ 0 ≤ q' ∧ q' ≤ q + 50 := by
  obtain ⟨l, q1, e1, hln, hz, g0, g1⟩ := l12Entries_eq hs hl hk h0 (by omega)
  obtain ⟨v, hv, v0, v1⟩ := pick_eq (n := 12) (k := k) (q := q1) hs hl g0 (by omega) (by omega) (by omega)
  obtain ⟨l', q', e2, hsm, g2, g3⟩ := SpoilEntries_eq (q := q1 + 1) hs hl hk (by omega) (by omega) hln hz
  unfold spec_l12AnyEntries.f
  simp only [e1, hv, Option.bind_some]
  by_cases hc : v = 0
  · simp only [if_pos hc, e2, Option.bind_some]
    exact ⟨_, _, rfl, hsm, g2, by omega⟩
  · rw [if_neg hc]
    exact ⟨_, _, rfl, ⟨by omega, hz⟩, by omega, by omega⟩
end
end Go.Proofs.Ytjdhphpjbakddaa.V
/- The draw for a trim; both of its ends. -/
namespace Go.Proofs.Ytjdhphpjbakddaa.V
open Go.RowKit Go.Proofs.Ytjdhphpjbakddaa.P Go.Proofs.YtjdhphpjbakddaaW.PrintWords Go.Proofs.YtjdhphpjbakddaaW.PrintMore
theorem DrawMemTrim_eq {l : List Int} (h : U8 l) {k : Nat} (hk : 1000 < k) : ∃ a fl b, spec_DrawMemTrim.f k l = some (a, fl, b) ∧ SmE a ∧ 0 ≤ fl ∧ fl < 11 := by
  obtain ⟨s, e0, hs, hl⟩ := open_eq h
  obtain ⟨a, q, e1, hsm, q0, q1⟩ := AnyEntries_eq (q := 0) (k := k) hs hl (by omega) (by omega) (by omega)
  obtain ⟨v, hv, v0, v1⟩ := pick_eq (n := 11) (k := k) (q := q) hs hl (by omega) (by omega) (by omega) (by omega)
  obtain ⟨u, hu, u0, u1⟩ := pick_eq (n := 2) (k := k) (q := q + 1) hs hl (by omega) (by omega) (by omega) (by omega)
  unfold spec_DrawMemTrim.f
  simp only [e0, e1, hv, hu, Option.bind_some]
  exact ⟨_, _, _, rfl, hsm, v0, v1⟩
theorem wmEntries_l0 : ∀ (suf pre : List S_impl_Entry) (k : Nat), suf.length < k → (pre ++ suf).length < 9223372036854775807 → laws_wmEntries.l0 k (pre ++ suf) (pre ++ suf) (pre.length : Int) = some true := by
  intro suf
  induction suf with
  | nil =>
    intro pre k hk hb
    obtain ⟨k, rfl⟩ := succ_of hk
    rw [laws_wmEntries.l0, if_neg end_not_lt]
  | cons x suf ih =>
    intro pre k hk hb
    obtain ⟨k, rfl⟩ := succ_of hk
    rw [laws_wmEntries.l0, if_pos mid_lt, if_pos (nat_le0 _), if_pos mid_lt, if_neg (by simp), wrap_snoc (x := x) (by simp at hb; omega), snoc_app (suf := suf), ih (pre ++ [x]) k (by simpa using hk) (by simpa using hb)]
theorem wmEntries_refl (a : List S_impl_Entry) (k : Nat) (hk : a.length < k) (hb : a.length < 9223372036854775807) : laws_wmEntries.f k a a = some true := by
  unfold laws_wmEntries.f
  rw [if_pos rfl]
  exact wmEntries_l0 a [] k hk hb
end Go.Proofs.Ytjdhphpjbakddaa.V
/- Trimmed entries: what stays, as a filter; what a look at many tells, as a filter. -/
namespace Go.Proofs.Ytjdhphpjbakddaa.V
open Go.RowKit Go.Proofs.Ytjdhphpjbakddaa.P Go.Proofs.YtjdhphpjbakddaaW.PrintWords Go.Proofs.YtjdhphpjbakddaaW.PrintMore
def Srt (l : List S_impl_Entry) : Prop := l.Pairwise (fun a b => ltE a b = true)
theorem srt_of_okFrom : ∀ (l : List S_impl_Entry) (q : Option S_impl_Entry), okFrom q l = true → Srt l
  | [], _, _ => List.Pairwise.nil
  | x :: r, q, h => by
    have h2 := (okFrom_cons h).2
    exact List.pairwise_cons.2 ⟨fun y hy => okFrom_lt r x h2 y hy, srt_of_okFrom r _ h2⟩
theorem ltE_same {x y : S_impl_Entry} (h : ltE x y = true) (e : x.f0 = y.f0) : y.f1 < x.f1 := by
  simp only [ltE, Bool.or_eq_true, Bool.and_eq_true, beq_iff_eq, decide_eq_true_eq] at h
  rcases h with h | ⟨-, h⟩
  · rw [e, bl_irrefl] at h; cases h
  · exact h
theorem okEs_srt {l : List S_impl_Entry} (h : okEs l = true) : Srt l := by
  unfold okEs at h
  simp only [Bool.and_eq_true] at h
  exact srt_of_okFrom l none h.1
/-- Is there a newer one of its key, not above a moment? -/
def hid (l : List S_impl_Entry) (m : Int) (x : S_impl_Entry) : Bool := l.any fun y => decide (y.f0 = x.f0 ∧ x.f1 < y.f1 ∧ y.f1 ≤ m)
theorem hid_iff {l : List S_impl_Entry} {m : Int} {x : S_impl_Entry} : hid l m x = true ↔ ∃ y ∈ l, y.f0 = x.f0 ∧ x.f1 < y.f1 ∧ y.f1 ≤ m := by simp [hid]
theorem hid_pre {pre suf : List S_impl_Entry} {x : S_impl_Entry} (hs : Srt (pre ++ x :: suf)) (m : Int) : hid (pre ++ x :: suf) m x = true ↔ ∃ y ∈ pre, y.f0 = x.f0 ∧ y.f1 ≤ m := by
  obtain ⟨-, h1, h2⟩ := List.pairwise_append.1 hs
  rw [hid_iff]
  constructor
  · rintro ⟨y, hy, e, h3, h4⟩
    rcases List.mem_append.1 hy with hy | hy
    · exact ⟨y, hy, e, h4⟩
    · rcases List.mem_cons.1 hy with rfl | hy
      · omega
      · have := ltE_same ((List.pairwise_cons.1 h1).1 y hy) e.symm
        omega
  · rintro ⟨y, hy, e, h4⟩
    exact ⟨y, by simp [hy], e, ltE_same (h2 y hy x (by simp)) e, h4⟩
def keep (l : List S_impl_Entry) (fl : Int) (bot : Bool) (x : S_impl_Entry) : Bool := !hid l fl x && !(bot && x.f2 && decide (x.f1 ≤ fl))
/-- Entries, trimmed. -/
def trF (l : List S_impl_Entry) (fl : Int) (bot : Bool) : List S_impl_Entry := l.filter (keep l fl bot)
/-- Told by a look at many. -/
def told (l : List S_impl_Entry) (p : ByteArray) (m : Int) (x : S_impl_Entry) : Bool := decide (x.f1 ≤ m) && st x.f0 p && !x.f2 && !hid l m x
/-- What the last key says: that of the last one ahead that counts. -/
def InvP (P : ByteArray → Prop) (m : Int) (pre : List S_impl_Entry) (last : ByteArray) : Prop :=
  (last = ⟨#[]⟩ ∧ ∀ y ∈ pre, y.f1 ≤ m → ¬ P y.f0) ∨ ∃ z ∈ pre, last = z.f0 ∧ z.f1 ≤ m ∧ P z.f0 ∧ ∀ y ∈ pre, y.f1 ≤ m → P y.f0 → kle y.f0 z.f0
section
variable {P : ByteArray → Prop} {m : Int} {pre suf : List S_impl_Entry} {last : ByteArray} {x : S_impl_Entry}
theorem inv_nil : InvP P m [] ⟨#[]⟩ := .inl ⟨rfl, fun y hy => by cases hy⟩
theorem inv_last (h : InvP P m pre last) (hk : ∀ y ∈ pre, kle y.f0 x.f0) (hx : x.f0 ≠ ⟨#[]⟩) (hp : P x.f0) : x.f0 = last ↔ ∃ y ∈ pre, y.f0 = x.f0 ∧ y.f1 ≤ m := by
  rcases h with ⟨rfl, h⟩ | ⟨z, hz, rfl, h1, h2, h3⟩
  · exact ⟨fun e => absurd e hx, fun ⟨y, hy, e, h4⟩ => absurd (by rw [e]; exact hp) (h y hy h4)⟩
  · constructor
    · intro e
      exact ⟨z, hz, e.symm, h1⟩
    · rintro ⟨y, hy, e, h4⟩
      have h5 := h3 y hy h4 (by rw [e]; exact hp)
      rw [e] at h5
      exact kle_anti h5 (hk z hz)
theorem inv_same (h : InvP P m pre last) (e : x.f0 = last) (hx : x.f0 ≠ ⟨#[]⟩) : InvP P m (pre ++ [x]) last := by
  rcases h with ⟨rfl, h⟩ | ⟨z, hz, rfl, h1, h2, h3⟩
  · exact absurd e hx
  · refine .inr ⟨z, by simp [hz], rfl, h1, h2, fun y hy h4 h5 => ?_⟩
    rcases List.mem_append.1 hy with hy | hy
    · exact h3 y hy h4 h5
    · simp at hy; subst hy; exact .inl e
theorem inv_not (h : InvP P m pre last) (hn : ¬ (x.f1 ≤ m ∧ P x.f0)) : InvP P m (pre ++ [x]) last := by
  rcases h with ⟨rfl, h⟩ | ⟨z, hz, rfl, h1, h2, h3⟩
  · refine .inl ⟨rfl, fun y hy h4 h5 => ?_⟩
    rcases List.mem_append.1 hy with hy | hy
    · exact h y hy h4 h5
    · simp at hy; subst hy; exact hn ⟨h4, h5⟩
  · refine .inr ⟨z, by simp [hz], rfl, h1, h2, fun y hy h4 h5 => ?_⟩
    rcases List.mem_append.1 hy with hy | hy
    · exact h3 y hy h4 h5
    · simp at hy; subst hy; exact absurd ⟨h4, h5⟩ hn
theorem inv_new (hk : ∀ y ∈ pre, kle y.f0 x.f0) (h1 : x.f1 ≤ m) (h2 : P x.f0) : InvP P m (pre ++ [x]) x.f0 := by
  refine .inr ⟨x, by simp, rfl, h1, h2, fun y hy h4 h5 => ?_⟩
  rcases List.mem_append.1 hy with hy | hy
  · exact hk y hy
  · simp at hy; subst hy; exact .inl rfl
theorem srt_kle (hs : Srt (pre ++ x :: suf)) : ∀ y ∈ pre, kle y.f0 x.f0 := fun y hy => ltE_kle ((List.pairwise_append.1 hs).2.2 y hy x (by simp))
end
section
variable {l : List S_impl_Entry} {fl : Int} {bot : Bool}
theorem trF_sub : (trF l fl bot).Sublist l := List.filter_sublist
theorem trF_mem {x : S_impl_Entry} (h : x ∈ trF l fl bot) : x ∈ l := (List.mem_filter.1 h).1
theorem trF_keep {x : S_impl_Entry} (h : x ∈ trF l fl bot) : keep l fl bot x = true := (List.mem_filter.1 h).2
theorem trF_len : (trF l fl bot).length ≤ l.length := trF_sub.length_le
/-- At the bottom: what stands at the moment or below is something, and the only one of its key there. -/
theorem trF_bottom {x : S_impl_Entry} (h : x ∈ trF l fl true) (h1 : x.f1 ≤ fl) : x.f2 = false := by
  have := trF_keep h
  simp only [keep, Bool.and_eq_true, Bool.not_eq_true'] at this
  simpa [h1] using this.2
theorem trF_one {x y : S_impl_Entry} (hy : y ∈ l) (h : x ∈ trF l fl bot) (h1 : ltE y x = true) (e : y.f0 = x.f0) : fl < y.f1 := by
  have h2 := trF_keep h
  simp only [keep, Bool.and_eq_true, Bool.not_eq_true'] at h2
  refine Classical.byContradiction fun hn => ?_
  rw [hid_iff.2 ⟨y, hy, e, ltE_same h1 e, by omega⟩] at h2
  exact absurd h2.1 (by decide)
end
end Go.Proofs.Ytjdhphpjbakddaa.V
/- Both ways to trim are the filter. -/
namespace Go.Proofs.Ytjdhphpjbakddaa.V
open Go.RowKit Go.Proofs.Ytjdhphpjbakddaa.P Go.Proofs.YtjdhphpjbakddaaW.PrintWords Go.Proofs.YtjdhphpjbakddaaW.PrintMore
theorem idx_any {α : Type} (p : α → Bool) : ∀ (l : List α) (i : Int), 0 ≤ i → (0 ≤ mtrim.idx p l i ↔ l.any p = true)
  | [], i, _ => by simp [mtrim.idx]
  | x :: r, i, h => by
    rw [mtrim.idx, List.any_cons]
    by_cases hp : p x = true
    · rw [if_pos hp, hp]; simp [h]
    · rw [if_neg hp, idx_any p r (i + 1) (by omega)]
      simp [hp]
theorem Entry65_eq (l : List S_impl_Entry) (x : S_impl_Entry) (fl : Int) : impl_Entry_65.f l x.f0 x.f1 x.f2 x.f3 fl = some (l.any fun y => decide (y.f0 = x.f0 ∧ y.f1 ≤ fl)) := by
  unfold impl_Entry_65.f
  congr 1
  rw [Bool.eq_iff_iff, decide_eq_true_eq, idx_any _ _ _ (Int.le_refl _), List.any_eq_true, List.any_eq_true]
  constructor
  · rintro ⟨y, hy, h⟩
    refine ⟨y, hy, ?_⟩
    simp only [mtrim.p, Bool.and_eq_true, beq_iff_eq, decide_eq_true_eq] at h ⊢
    exact ⟨(tl_iff _ _).1 h.1, h.2⟩
  · rintro ⟨y, hy, h⟩
    refine ⟨y, hy, ?_⟩
    simp only [mtrim.p, Bool.and_eq_true, beq_iff_eq, decide_eq_true_eq] at h ⊢
    exact ⟨(tl_iff _ _).2 h.1, h.2⟩
theorem any_pre {pre suf : List S_impl_Entry} {x : S_impl_Entry} (hs : Srt (pre ++ x :: suf)) (fl : Int) : (pre.any fun y => decide (y.f0 = x.f0 ∧ y.f1 ≤ fl)) = hid (pre ++ x :: suf) fl x := by
  rw [Bool.eq_iff_iff, hid_pre hs fl, List.any_eq_true]
  simp
theorem memTrim_l0 (fl : Int) (bot : Bool) : ∀ (suf pre acc : List S_impl_Entry) (k : Nat), suf.length < k → (pre ++ suf).length ≤ 4611686018427387904 → acc.length + suf.length ≤ 1000000000 → Srt (pre ++ suf) →
    impl_memTrim.l0 k (pre ++ suf) bot acc (pre ++ suf) ((pre ++ suf).length : Int) (pre.length : Int) fl = some (acc ++ suf.filter (keep (pre ++ suf) fl bot)) := by
  intro suf
  induction suf with
  | nil =>
    intro pre acc k hk hb ha hs
    obtain ⟨k, rfl⟩ := succ_of hk
    rw [impl_memTrim.l0, if_neg end_not_lt]; simp
  | cons x suf ih =>
    intro pre acc k hk hb ha hs
    obtain ⟨k, rfl⟩ := succ_of hk
    simp only [List.length_cons] at hk ha
    have hw : wrap64 ((pre.length : Int) + 1) = ((pre ++ [x]).length : Int) := wrap_snoc (by simp at hb; omega)
    have ihS := fun (acc : List S_impl_Entry) (h : acc.length + suf.length ≤ 1000000000) => ih (pre ++ [x]) acc k (by omega) (by simpa using hb) h (by simpa using hs)
    rw [List.append_assoc, List.singleton_append] at ihS
    have ht : (pre ++ x :: suf).take (pre.length : Int).toNat = pre := by simp
    have hp := any_pre hs fl
    have hll : ((pre.length : Nat) : Int) ≤ ((pre ++ x :: suf).length : Int) := by simp; omega
    rw [impl_memTrim.l0, if_pos mid_lt, if_pos (nat_le0 _), if_pos mid_lt]
    simp only [rde_mid, ht, Entry65_eq, Option.bind_some, hw, hp]
    rw [ihS acc (by omega), ihS (acc ++ [x]) (by simp; omega), List.filter_cons]
    have hlen : acc.length < 2932031007402 := by omega
    have nest : hid (pre ++ x :: suf) fl x = false → (if bot = true then (if x.f2 = true then (if x.f1 ≤ fl then some (acc ++ suf.filter (keep (pre ++ x :: suf) fl bot)) else (if acc.length < 2932031007402 then some (acc ++ [x] ++ suf.filter (keep (pre ++ x :: suf) fl bot)) else none)) else (if acc.length < 2932031007402 then some (acc ++ [x] ++ suf.filter (keep (pre ++ x :: suf) fl bot)) else none)) else (if acc.length < 2932031007402 then some (acc ++ [x] ++ suf.filter (keep (pre ++ x :: suf) fl bot)) else none)) = some (acc ++ if keep (pre ++ x :: suf) fl bot x = true then x :: suf.filter (keep (pre ++ x :: suf) fl bot) else suf.filter (keep (pre ++ x :: suf) fl bot)) := by
      intro hn
      generalize suf.filter (keep (pre ++ x :: suf) fl bot) = R
      rw [if_pos hlen]
      have hk2 : keep (pre ++ x :: suf) fl bot x = !(bot && x.f2 && decide (x.f1 ≤ fl)) := by unfold keep; rw [hn]; rfl
      rw [hk2]
      by_cases h1 : x.f1 ≤ fl
      · cases bot <;> cases x.f2 <;> simp [h1]
      · cases bot <;> cases x.f2 <;> simp [h1]
    by_cases hpos : (pre.length : Int) > 0
    · rw [if_pos hpos, if_pos hll]
      cases hh : hid (pre ++ x :: suf) fl x with
      | true =>
        rw [if_pos rfl, if_neg (by unfold keep; rw [hh]; simp)]
      | false =>
        rw [if_neg (by decide)]
        exact nest hh
    · rw [if_neg hpos]
      have hpre : pre = [] := List.eq_nil_of_length_eq_zero (by omega)
      exact nest (by rw [← hp, hpre]; rfl)
theorem l4Trim_l0 (fl : Int) (bot : Bool) (l : List S_impl_Entry) (hs : Srt l) (ho : ∀ x ∈ l, okE x = true) : ∀ (suf pre acc : List S_impl_Entry) (last : ByteArray) (k : Nat), pre ++ suf = l → suf.length < k → l.length ≤ 4611686018427387904 → acc.length + suf.length ≤ 1000000000 → InvP (fun _ => True) fl pre last →
    spec_l4Trim.l0 k l fl bot acc last (pre.length : Int) = some (acc ++ suf.filter (keep l fl bot)) := by
  intro suf
  induction suf with
  | nil =>
    intro pre acc last k he hk hb ha hi
    obtain ⟨k, rfl⟩ := succ_of hk
    rw [spec_l4Trim.l0, if_neg (by rw [← he]; simp)]; simp
  | cons x suf ih =>
    intro pre acc last k he hk hb ha hi
    obtain ⟨k, rfl⟩ := succ_of hk
    simp only [List.length_cons] at hk ha
    have hs' : Srt (pre ++ x :: suf) := by rw [he]; exact hs
    have hx : x.f0 ≠ ⟨#[]⟩ := okE_key (ho x (by rw [← he]; simp))
    have hkl := srt_kle hs'
    have hh := hid_pre hs' fl
    rw [he] at hh
    have hpl : pre.length < l.length := by rw [← he]; simp
    have hw : wrap64 ((pre.length : Int) + 1) = ((pre ++ [x]).length : Int) := wrap_snoc (by omega)
    have hrd : rd_impl_Entry l (pre.length : Int) = x := by rw [← he]; exact rde_mid
    have ihS := fun (acc : List S_impl_Entry) (last : ByteArray) (h : acc.length + suf.length ≤ 1000000000) (hi : InvP (fun _ => True) fl (pre ++ [x]) last) => ih (pre ++ [x]) acc last k (by simp [he]) (by omega) hb h hi
    have hl := inv_last hi hkl hx trivial
    have hlen : acc.length < 2932031007402 := by omega
    rw [spec_l4Trim.l0, if_pos (by omega), if_pos (nat_le0 _)]
    simp only [hrd, tl_iff, hw]
    rw [List.filter_cons]
    by_cases h3 : x.f0 = last
    · have hd : hid l fl x = true := hh.2 (hl.1 h3)
      rw [if_pos h3, ihS acc last (by omega) (inv_same hi h3 hx), if_neg (by unfold keep; rw [hd]; simp)]
    · have hd : hid l fl x = false := by
        rw [← Bool.not_eq_true]
        exact fun h => h3 (hl.2 (hh.1 h))
      have hk2 : keep l fl bot x = !(bot && x.f2 && decide (x.f1 ≤ fl)) := by unfold keep; rw [hd]; rfl
      rw [if_neg h3]
      by_cases h1 : x.f1 ≤ fl
      · rw [if_pos h1, ihS acc x.f0 (by omega) (inv_new hkl h1 trivial), ihS (acc ++ [x]) x.f0 (by simp; omega) (inv_new hkl h1 trivial), hk2]
        generalize suf.filter (keep l fl bot) = R
        cases bot <;> cases x.f2 <;> simp [h1, hlen]
      · rw [if_neg h1, ihS (acc ++ [x]) last (by simp; omega) (inv_not hi (fun h => h1 h.1)), hk2]
        generalize suf.filter (keep l fl bot) = R
        cases bot <;> cases x.f2 <;> simp [h1, hlen]
/-- Entries, trimmed, if they are ok. -/
def trE (l : List S_impl_Entry) (fl : Int) (bot : Bool) : List S_impl_Entry := if okEs l = true then trF l fl bot else []
theorem impl_MemTrim_eq (l : List S_impl_Entry) (fl : Int) (bot : Bool) (k : Nat) (hk : l.length + 1048577 < k) (hb : l.length ≤ 1000000000) (hm : Sm l) : impl_MemTrim.f k l fl bot = some (trE l fl bot) := by
  unfold impl_MemTrim.f trE
  rw [areEntries_eq l k hk (by omega) hm, Option.bind_some]
  by_cases h : okEs l = true
  · have h0 := memTrim_l0 fl bot l [] [] k (by omega) (by simp; omega) (by simpa using hb) (by simpa using okEs_srt h)
    simp only [List.nil_append, List.length_nil, Int.natCast_zero] at h0
    unfold impl_memTrim.f
    rw [if_pos h, if_pos h, h0]; rfl
  · rw [if_neg h, if_neg h]
theorem spec_MemTrim_eq (l : List S_impl_Entry) (fl : Int) (bot : Bool) (k : Nat) (hk : l.length + 1048577 < k) (hb : l.length ≤ 1000000000) (hm : Sm l) : spec_MemTrim.f k l fl bot = some (trE l fl bot) := by
  unfold spec_MemTrim.f trE
  rw [spec_EntriesOk_eq l k hk (by omega) hm, Option.bind_some]
  by_cases h : okEs l = true
  · have h0 := l4Trim_l0 fl bot l (okEs_srt h) (okEs_mem h) l [] [] ⟨#[]⟩ k rfl (by omega) (by omega) (by simpa using hb) inv_nil
    simp only [List.nil_append, List.length_nil, Int.natCast_zero] at h0
    unfold spec_l4Trim.f
    rw [if_pos h, if_pos h, h0]; rfl
  · rw [if_neg h, if_neg h]
theorem trE_len (l : List S_impl_Entry) (fl : Int) (bot : Bool) : (trE l fl bot).length ≤ l.length := by
  unfold trE; split
  · exact trF_len
  · simp
end Go.Proofs.Ytjdhphpjbakddaa.V
/- The plain statement of FnMemBottom: at the bottom nothing stands for what is nothing. -/
namespace Go.Proofs.Ytjdhphpjbakddaa.Pure
open Go.RowKit Go.Proofs.Ytjdhphpjbakddaa.P Go.Proofs.Ytjdhphpjbakddaa.V Go.Proofs.YtjdhphpjbakddaaW.PrintWords Go.Proofs.YtjdhphpjbakddaaW.PrintMore
theorem bottom_l0 (fl : Int) (out : List S_impl_Entry) (hol : out.length ≤ 241) (h1 : ∀ x ∈ out, x.f1 ≤ fl → x.f2 = false) (hs : Srt out) (h2 : ∀ x ∈ out, ∀ y ∈ out, ltE y x = true → y.f0 = x.f0 → x.f1 ≤ fl → fl < y.f1) : ∀ (suf pre : List S_impl_Entry) (k : Nat), pre ++ suf = out → suf.length < k →
    laws_FnMemBottom.l0 k fl out (pre.length : Int) = some true := by
  intro suf
  induction suf with
  | nil =>
    intro pre k he hk
    obtain ⟨k, rfl⟩ := succ_of hk
    rw [laws_FnMemBottom.l0, if_neg (by rw [← he]; simp)]
  | cons x suf ih =>
    intro pre k he hk
    obtain ⟨k, rfl⟩ := succ_of hk
    have hpl : pre.length < out.length := by rw [← he]; simp
    have hrd : rd_impl_Entry out (pre.length : Int) = x := by rw [← he]; exact rde_mid
    have hw : wrap64 ((pre.length : Int) + 1) = ((pre ++ [x]).length : Int) := wrap_snoc (by omega)
    have hn := ih (pre ++ [x]) k (by simp [he]) (by simpa using hk)
    have hx : x ∈ out := by rw [← he]; simp
    rw [laws_FnMemBottom.l0, if_pos (by omega), if_pos (nat_le0 _)]
    simp only [hrd, hw, hn, tl_iff]
    by_cases hf : x.f1 ≤ fl
    · rw [if_pos hf, h1 x hx hf, if_neg (by decide)]
      rcases List.eq_nil_or_concat pre with rfl | ⟨pre', y, rfl⟩
      · rw [if_neg (by simp)]
      · rw [List.concat_eq_append] at *
        have e : (((pre' ++ [y]).length : Int)) - 1 = (pre'.length : Int) := by simp
        have hy : y ∈ out := by rw [← he]; simp
        have hyx : ltE y x = true := by
          rw [← he] at hs
          exact (List.pairwise_append.1 hs).2.2 y (by simp) x (by simp)
        have hrdl : rd_impl_Entry out (((pre' ++ [y]).length : Int) - 1) = y := by rw [← he]; exact rde_last
        rw [if_pos (by simp), wrap_id (i := ((pre' ++ [y]).length : Int) - 1) (by omega) (by omega), if_pos (by rw [e]; exact nat_le0 _), if_pos (by omega), hrdl]
        by_cases hk2 : y.f0 = x.f0
        · rw [if_pos hk2, if_neg (by have := h2 x hx y hy hyx hk2 hf; omega)]
        · rw [if_neg hk2]
    · rw [if_neg hf]
theorem FnMemBottom : laws_FnMemBottom.Pure := by
  intro l _ _ h0
  obtain ⟨K, hK⟩ : ∃ K, K = 1060000 := ⟨_, rfl⟩
  refine ⟨K + 1, ?_⟩
  unfold laws_FnMemBottom.f
  by_cases hc : (l.length : Int) > 1048576
  · rw [if_pos hc]
  rw [if_neg hc]
  obtain ⟨a, fl, bot, e, hsm, -, -⟩ := DrawMemTrim_eq (U8_of h0) (k := K + 1) (by omega)
  have hlen := hsm.1
  have hm := SmE_Sm hsm
  have hD := trE_len a fl true
  simp only [e, impl_MemTrim_eq a fl true (K + 1) (by omega) (by omega) hm, spec_MemTrim_eq a fl true (K + 1) (by omega) (by omega) hm, wmEntries_refl (trE a fl true) (K + 1) (by omega) (by omega), Option.bind_some, if_true]
  by_cases hok : okEs a = true
  · have ht : trE a fl true = trF a fl true := by unfold trE; rw [if_pos hok]
    rw [ht] at hD ⊢
    exact bottom_l0 fl (trF a fl true) (by omega) (fun x hx hf => trF_bottom hx hf) ((okEs_srt hok).sublist trF_sub) (fun x hx y hy hyx e1 _ => trF_one (trF_mem hy) hx hyx e1) (trF a fl true) [] (K + 1) rfl (by omega)
  · have ht : trE a fl true = [] := by unfold trE; rw [if_neg hok]
    rw [ht]
    exact bottom_l0 fl [] (by simp) (fun x hx => by cases hx) List.Pairwise.nil (fun x hx => by cases hx) [] [] (K + 1) rfl (by simp)
end Go.Proofs.Ytjdhphpjbakddaa.Pure
