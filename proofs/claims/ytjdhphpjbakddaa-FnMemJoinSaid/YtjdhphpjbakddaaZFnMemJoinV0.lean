/- The plain statement of the law FnMemJoin, proved. -/
import Derived.Test.YtjdhphpjbakddaaZFnMemJoinW0
import Derived.Test.YtjdhphpjbakddaaZFnMemJoin2
import Derived.Laws.Bits64
import Derived.Test.YtjdhphpjbakddaaZFnMemJoin3
import Derived.WalkKit
import Derived.Test.YtjdhphpjbakddaaZFnMemJoin0
import Derived.Test.YtjdhphpjbakddaaZFnMemJoin4
import Derived.Test.YtjdhphpjbakddaaZFnMemJoin1
import Derived.Lib.IndexAny
/- Plain lemmas on lists, numbers and strings, for the laws' plain statements. -/
namespace Go.Proofs.Ytjdhphpjbakddaa.V
open Go.RowKit Go.Proofs.YtjdhphpjbakddaaW.PrintWords Go.Proofs.YtjdhphpjbakddaaW.PrintMore
theorem succ_of {d k : Nat} (h : d < k) : ∃ m, k = m + 1 := ⟨k - 1, by omega⟩
theorem wrap_id {i : Int} (h : -9223372036854775808 ≤ i) (h' : i ≤ 9223372036854775807) : wrap64 i = i := by unfold wrap64; omega
theorem tl_iff (a b : ByteArray) : a.toList = b.toList ↔ a = b := by
  rw [ByteArray.toList_eq, ByteArray.toList_eq]
  constructor
  · intro h
    cases a; cases b
    simp at h
    simp [h]
  · rintro rfl; rfl
section
variable {α : Type} {pre suf : List α} {x y : α}
theorem mid_lt : ((pre.length : Int) < ((pre ++ x :: suf).length : Int)) := by simp; omega
theorem end_not_lt : ¬ ((pre.length : Int) < ((pre ++ ([] : List α)).length : Int)) := by simp
theorem wrap_snoc (h : pre.length < 9223372036854775807) : wrap64 ((pre.length : Int) + 1) = ((pre ++ [x]).length : Int) := by
  rw [wrap_id (by omega) (by omega)]; simp
theorem snoc_app : pre ++ x :: suf = (pre ++ [x]) ++ suf := by simp
end
theorem nat_le0 (n : Nat) : (0 : Int) ≤ (n : Int) := Int.natCast_nonneg n
end Go.Proofs.Ytjdhphpjbakddaa.V
/- What the reader of the drawn input answers: always something, and in bounds. -/
namespace Go.Proofs.Ytjdhphpjbakddaa.V
open Go.RowKit Go.Proofs.Ytjdhphpjbakddaa.P Go.Proofs.YtjdhphpjbakddaaW.PrintWords Go.Proofs.YtjdhphpjbakddaaW.PrintMore
def U8 (s : List Int) : Prop := ∀ x ∈ s, 0 ≤ x ∧ x ≤ 255
theorem U8_of {s : List Int} (h : ∀ x ∈ s, (Lit.int .u8 x).wf = true) : U8 s := fun x hx => by
  have := h x hx
  simp [Lit.wf, IntKind.max, IntKind.min, IntKind.signed, IntKind.bits] at this
  omega
theorem rd_u8 {s : List Int} (h : U8 s) (i : Int) : 0 ≤ rd s i ∧ rd s i ≤ 255 := by
  unfold rd
  rw [List.getD_eq_getElem?_getD]
  cases hx : s[i.toNat]? with
  | none => simp
  | some x => exact h x (List.mem_of_getElem? hx)
theorem xor_i64 {a b : Int} (h0 : 0 ≤ a) (h1 : a ≤ 4611686018427387903) (h2 : 0 ≤ b) (h3 : b ≤ 4611686018427387903) : 0 ≤ Go.bits .xor .i64 a b ∧ Go.bits .xor .i64 a b ≤ 9223372036854775807 := by
  obtain ⟨x, rfl⟩ := Int.eq_ofNat_of_zero_le h0
  obtain ⟨y, rfl⟩ := Int.eq_ofNat_of_zero_le h2
  have hx : x ^^^ y < 2 ^ 62 := Nat.xor_lt_two_pow (by omega) (by omega)
  have e1 : (BitVec.ofInt 64 (x : Int)).toNat = x := by
    rw [BitVec.ofInt_natCast, BitVec.toNat_ofNat]; exact Nat.mod_eq_of_lt (by omega)
  have e2 : (BitVec.ofInt 64 (y : Int)).toNat = y := by
    rw [BitVec.ofInt_natCast, BitVec.toNat_ofNat]; exact Nat.mod_eq_of_lt (by omega)
  have e : Go.bits .xor .i64 (x : Int) (y : Int) = IntKind.i64.wrap ((BitVec.ofInt 64 (x : Int) ^^^ BitVec.ofInt 64 (y : Int)).toNat : Int) := rfl
  rw [e, BitVec.toNat_xor, e1, e2, IntKind.wrap_i64]
  omega
theorem tmod_bd {a n : Int} (h0 : 0 ≤ a) (hn : 1 ≤ n) : 0 ≤ Int.tmod a n ∧ Int.tmod a n < n := by
  rw [Int.tmod_eq_emod_of_nonneg h0]
  exact ⟨Int.emod_nonneg _ (by omega), Int.emod_lt_of_pos _ (by omega)⟩
theorem tdiv_bd {a n : Int} (h0 : 0 ≤ a) (hn : 1 ≤ n) : 0 ≤ Int.tdiv a n ∧ Int.tdiv a n ≤ a := by
  rw [Int.tdiv_eq_ediv_of_nonneg h0]
  exact ⟨Int.ediv_nonneg h0 (by omega), Int.ediv_le_self _ h0⟩
/-- One number below n. -/
theorem pick_eq {s : List Int} {q n : Int} {k : Nat} (hs : U8 s) (hl : s.length ≤ 2000) (h0 : 0 ≤ q) (h1 : q ≤ 1000000) (hn : 1 ≤ n) (hk : 0 < k) : ∃ v, spec_l1Rd_pick.f k s q n = some (v, q + 1) ∧ 0 ≤ v ∧ v < n := by
  obtain ⟨k, rfl⟩ := succ_of hk
  unfold spec_l1Rd_pick.f
  rw [if_neg (by omega), wrap_id (i := q + 1) (by omega) (by omega), spec_l1Rd_pick.j0]
  by_cases hz : s.length = 0
  · rw [if_pos (by rw [beq_iff_eq]; omega)]
    exact ⟨0, rfl, by omega, by omega⟩
  · rw [if_neg (by rw [beq_iff_eq]; omega), show q + 1 - 1 = q by omega, wrap_id (i := q) (by omega) (by omega)]
    by_cases h2 : q < (s.length : Int)
    · have hb := rd_u8 hs q
      rw [if_pos h2, if_pos h0, if_neg (by omega), wrap_id (i := rd s q) (by omega) (by omega)]
      exact ⟨_, rfl, tmod_bd hb.1 hn⟩
    · have b1 := tmod_bd (a := q) (n := s.length) h0 (by omega)
      rw [if_neg h2, if_neg (by omega), if_pos b1.1, if_pos b1.2, wrap_id (i := q * 7) (by omega) (by omega), wrap_id (i := q * 7 + 3) (by omega) (by omega)]
      have b2 := tmod_bd (a := q * 7 + 3) (n := s.length) (by omega) (by omega)
      rw [if_pos b2.1, if_pos b2.2, if_neg (by omega)]
      have c1 := rd_u8 hs (Int.tmod q s.length)
      have c2 := rd_u8 hs (Int.tmod (q * 7 + 3) s.length)
      have c3 := tdiv_bd (a := q) (n := s.length) h0 (by omega)
      generalize rd s (Int.tmod q s.length) = A at c1 ⊢
      generalize rd s (Int.tmod (q * 7 + 3) s.length) = B at c2 ⊢
      generalize Int.tdiv q s.length = D at c3 ⊢
      rw [wrap_id (i := A) (by omega) (by omega), wrap_id (i := B) (by omega) (by omega), wrap_id (i := D) (by omega) (by omega), wrap_id (i := A * 131) (by omega) (by omega), wrap_id (i := B * 1117) (by omega) (by omega), wrap_id (i := q * 29) (by omega) (by omega), wrap_id (i := D * 53) (by omega) (by omega),
        wrap_id (i := A * 131 + B * 1117) (by omega) (by omega), wrap_id (i := A * 131 + B * 1117 + q * 29) (by omega) (by omega), wrap_id (i := A * 131 + B * 1117 + q * 29 + D * 53) (by omega) (by omega)]
      have c4 : 0 ≤ A * 131 + B * 1117 + q * 29 + D * 53 ∧ A * 131 + B * 1117 + q * 29 + D * 53 ≤ 1000000000 := by omega
      generalize A * 131 + B * 1117 + q * 29 + D * 53 = X at c4 ⊢
      have c5 := tdiv_bd (a := X) (n := 64) c4.1 (by omega)
      rw [wrap_id (i := Int.tdiv X 64) (by omega) (by omega)]
      have c6 := xor_i64 (a := X) (b := Int.tdiv X 64) (by omega) (by omega) (by omega) (by omega)
      exact ⟨_, rfl, tmod_bd c6.1 hn⟩
/-- One of a list. -/
theorem of_eq {s : List Int} {q : Int} {k : Nat} {l : List ByteArray} (hs : U8 s) (hl : s.length ≤ 2000) (h0 : 0 ≤ q) (h1 : q ≤ 1000000) (hn : 1 ≤ l.length) (hk : 0 < k) : ∃ x, spec_l1Rd_of.f k s q l = some (x, q + 1) ∧ x ∈ l := by
  obtain ⟨v, hv, b0, b1⟩ := pick_eq (n := (l.length : Int)) hs hl h0 h1 (by omega) hk
  unfold spec_l1Rd_of.f
  rw [hv, Option.bind_some, if_pos b0, if_pos b1]
  refine ⟨_, rfl, ?_⟩
  show rdOf ByteArray.empty l v ∈ l
  unfold rdOf
  rw [List.getD_eq_getElem?_getD, List.getElem?_eq_getElem (by omega)]
  exact List.getElem_mem _
theorem open_eq {l : List Int} (h : U8 l) : ∃ s, spec_l1Open.f l = some (s, 0) ∧ U8 s ∧ s.length ≤ 2000 := by
  unfold spec_l1Open.f
  by_cases h1 : (l.length : Int) > 2000
  · rw [if_pos h1, if_pos (by omega)]
    exact ⟨_, rfl, fun x hx => h x (List.mem_of_mem_take hx), by simp; omega⟩
  · rw [if_neg h1]
    exact ⟨_, rfl, h, by omega⟩
end Go.Proofs.Ytjdhphpjbakddaa.V
/- A text many times. -/
namespace Go.Proofs.Ytjdhphpjbakddaa.V
open Go.RowKit Go.Proofs.Ytjdhphpjbakddaa.P Go.Proofs.YtjdhphpjbakddaaW.PrintWords Go.Proofs.YtjdhphpjbakddaaW.PrintMore
theorem many_at {x : ByteArray} {n : Int} {z : Nat} (h : (spec_l1Many.f 12 x n).map ByteArray.size = some z) {k : Nat} (hk : 12 ≤ k) : ∃ r, spec_l1Many.f k x n = some r ∧ r.size = z := by
  cases h1 : spec_l1Many.f 12 x n with
  | none => rw [h1] at h; cases h
  | some r =>
    rw [h1] at h
    exact ⟨r, at_rounds (g := fun k => spec_l1Many.f k x n) (fun k => spec_l1Many.mono x n k) hk h1, by simpa using h⟩
end Go.Proofs.Ytjdhphpjbakddaa.V
/- What holds of all bytes of a string, counted from a place on; the order of strings. -/
namespace Go.Proofs.Ytjdhphpjbakddaa.V
open Go.RowKit Go.Proofs.Ytjdhphpjbakddaa.P Go.Proofs.YtjdhphpjbakddaaW.PrintWords Go.Proofs.YtjdhphpjbakddaaW.PrintMore
/-- All of d bytes from i on. -/
def bAll (P : Int → Bool) (s : ByteArray) : Nat → Nat → Bool
  | 0, _ => true
  | d + 1, i => P (bt s i) && bAll P s d (i + 1)
theorem bAll_iff (P : Int → Bool) (s : ByteArray) : ∀ d i, bAll P s d i = true ↔ ∀ j, i ≤ j → j < i + d → P (bt s (j : Nat)) = true
  | 0, i => by simp [bAll]; intro j h1 h2; omega
  | d + 1, i => by
    simp only [bAll, Bool.and_eq_true, bAll_iff P s d (i + 1)]
    constructor
    · rintro ⟨h1, h2⟩ j h3 h4
      rcases Nat.eq_or_lt_of_le h3 with rfl | h5
      · exact h1
      · exact h2 j (by omega) (by omega)
    · intro h
      exact ⟨h i (Nat.le_refl _) (by omega), fun j h1 h2 => h j (by omega) (by omega)⟩
theorem bt_nat (s : ByteArray) (j : Nat) (h : j < s.size) : bt s (j : Nat) = ((s.data.toList[j]'(by simpa using h)).toNat : Int) := by
  unfold bt
  rw [dif_pos (by simpa using h)]
  rfl
theorem bl_irrefl : ∀ a : List UInt8, Op.bytesLess a a = false
  | [] => rfl
  | x :: a => by simp [Op.bytesLess, bl_irrefl a]
theorem bl_trans : ∀ {a b c : List UInt8}, Op.bytesLess a b = true → Op.bytesLess b c = true → Op.bytesLess a c = true
  | [], _, [], _, h => by cases ‹List UInt8› <;> simp [Op.bytesLess] at h
  | [], _, _ :: _, _, _ => rfl
  | _ :: _, [], _, h, _ => by simp [Op.bytesLess] at h
  | _ :: _, _ :: _, [], _, h => by simp [Op.bytesLess] at h
  | x :: a, y :: b, z :: c, h1, h2 => by
    simp only [Op.bytesLess, Bool.or_eq_true, Bool.and_eq_true, decide_eq_true_eq, beq_iff_eq] at h1 h2 ⊢
    rcases h1 with h1 | ⟨rfl, h1⟩
    · rcases h2 with h2 | ⟨rfl, h2⟩
      · left; rw [UInt8.lt_iff_toNat_lt] at *; omega
      · exact .inl h1
    · rcases h2 with h2 | ⟨rfl, h2⟩
      · exact .inl h2
      · exact .inr ⟨rfl, bl_trans h1 h2⟩
theorem bl_total {a b : List UInt8} (h : Op.bytesLess a b = false) (h' : a ≠ b) : Op.bytesLess b a = true := by
  rw [← Opens.bytesLess_not, h]; simp [h']
end Go.Proofs.Ytjdhphpjbakddaa.V
/- What the laws' own helpers over entries tell: equality, marks, sizes, copies. -/
namespace Go.Proofs.Ytjdhphpjbakddaa.V
open Go.RowKit Go.Proofs.Ytjdhphpjbakddaa.P Go.Proofs.YtjdhphpjbakddaaW.PrintWords Go.Proofs.YtjdhphpjbakddaaW.PrintMore
theorem rde_mid {pre suf : List S_impl_Entry} {x : S_impl_Entry} : rd_impl_Entry (pre ++ x :: suf) (pre.length : Int) = x := by simp [rd_impl_Entry]
theorem entry_ext {x y : S_impl_Entry} : x = y ↔ x.f0 = y.f0 ∧ x.f1 = y.f1 ∧ x.f2 = y.f2 ∧ x.f3 = y.f3 := by cases x; cases y; simp
instance : DecidableEq S_impl_Entry := fun _ _ => decidable_of_iff _ entry_ext.symm
def Sm (l : List S_impl_Entry) : Prop := ∀ x ∈ l, x.f0.size ≤ 1048576 ∧ x.f3.size ≤ 1048576
end Go.Proofs.Ytjdhphpjbakddaa.V
/- When entries are ok: by the reference, and by the program. -/
namespace Go.Proofs.Ytjdhphpjbakddaa.V
open Go.RowKit Go.Proofs.Ytjdhphpjbakddaa.P Go.Proofs.YtjdhphpjbakddaaW.PrintWords Go.Proofs.YtjdhphpjbakddaaW.PrintMore
theorem l1In_eq (a b c : Int) : spec_l1In.f a b c = some (decide (b ≤ a ∧ a ≤ c)) := by
  unfold spec_l1In.f
  by_cases h : a ≥ b
  · rw [if_pos h]; simp [show b ≤ a from h]
  · rw [if_neg h]; simp [show ¬ b ≤ a from h]
def KB (b : Int) : Bool := decide (46 ≤ b) && decide (b ≤ 126) && decide (b ≠ 58)
def VB (b : Int) : Bool := decide (32 ≤ b) && decide (b ≤ 126)
def keyOk (s : ByteArray) : Bool := bAll KB s s.size 0 && decide (1 ≤ s.size ∧ s.size ≤ 24)
def valOk (s : ByteArray) : Bool := bAll VB s s.size 0 && decide (s.size ≤ 80)
theorem l4Key_l0 : ∀ (d i : Nat) (s : ByteArray) (k : Nat), i + d = s.size → d < k → s.size ≤ 4611686018427387904 → spec_l4Key.l0 k s (i : Int) = some (bAll KB s d i && decide (1 ≤ s.size ∧ s.size ≤ 24)) := by
  intro d
  induction d with
  | zero =>
    intro i s k hi hk hb
    obtain ⟨k, rfl⟩ := succ_of hk
    rw [spec_l4Key.l0, if_neg (by omega), l1In_eq, Option.bind_some]
    simp only [bAll, Bool.true_and]
    congr 1
    exact decide_eq_decide.2 (by omega)
  | succ d ih =>
    intro i s k hi hk hb
    obtain ⟨k, rfl⟩ := succ_of hk
    rw [spec_l4Key.l0, if_pos (by omega), if_pos (nat_le0 _), bAll]
    have hr : -9223372036854775808 ≤ (i : Int) + 1 := by omega
    by_cases h1 : bt s i < 46
    · rw [if_pos h1]; simp [KB, show ¬ 46 ≤ bt s i by omega]
    · rw [if_neg h1]
      by_cases h2 : bt s i > 126
      · rw [if_pos h2]; simp [KB, show ¬ bt s i ≤ 126 by omega]
      · rw [if_neg h2]
        by_cases h3 : bt s i = 58
        · rw [if_pos h3]; simp [KB, h3]
        · rw [if_neg h3, wrap_id hr (by omega), show (i : Int) + 1 = ((i + 1 : Nat) : Int) by omega, ih (i + 1) s k (by omega) (by omega) hb]
          simp [KB, show 46 ≤ bt s i by omega, show bt s i ≤ 126 by omega, h3]
theorem l4Key_eq (s : ByteArray) (k : Nat) (hk : s.size < k) (hb : s.size ≤ 4611686018427387904) : spec_l4Key.f k s = some (keyOk s) := l4Key_l0 s.size 0 s k (by omega) hk hb
theorem l4Value_l0 : ∀ (d i : Nat) (s : ByteArray) (k : Nat), i + d = s.size → d < k → s.size ≤ 4611686018427387904 → spec_l4Value.l0 k s (i : Int) = some (bAll VB s d i && decide (s.size ≤ 80)) := by
  intro d
  induction d with
  | zero =>
    intro i s k hi hk hb
    obtain ⟨k, rfl⟩ := succ_of hk
    rw [spec_l4Value.l0, if_neg (by omega)]
    simp only [bAll, Bool.true_and]
    congr 1
    exact decide_eq_decide.2 (by omega)
  | succ d ih =>
    intro i s k hi hk hb
    obtain ⟨k, rfl⟩ := succ_of hk
    rw [spec_l4Value.l0, if_pos (by omega), if_pos (nat_le0 _), bAll]
    have hr : -9223372036854775808 ≤ (i : Int) + 1 := by omega
    by_cases h1 : bt s i < 32
    · rw [if_pos h1]; simp [VB, show ¬ 32 ≤ bt s i by omega]
    · rw [if_neg h1]
      by_cases h2 : bt s i > 126
      · rw [if_pos h2]; simp [VB, show ¬ bt s i ≤ 126 by omega]
      · rw [if_neg h2, wrap_id hr (by omega), show (i : Int) + 1 = ((i + 1 : Nat) : Int) by omega, ih (i + 1) s k (by omega) (by omega) hb]
        simp [VB, show 32 ≤ bt s i by omega, show bt s i ≤ 126 by omega]
theorem l4Value_eq (s : ByteArray) (k : Nat) (hk : s.size < k) (hb : s.size ≤ 4611686018427387904) : spec_l4Value.f k s = some (valOk s) := l4Value_l0 s.size 0 s k (by omega) hk hb
/-- An entry is ok. -/
def okE (x : S_impl_Entry) : Bool := keyOk x.f0 && decide (1 ≤ x.f1 ∧ x.f1 ≤ 99999999) && valOk x.f3 && (!x.f2 || x.f3.toList == [])
theorem l4Ok_eq (x : S_impl_Entry) (k : Nat) (h0 : x.f0.size < k) (h3 : x.f3.size < k) (hb : x.f0.size ≤ 4611686018427387904) (hb3 : x.f3.size ≤ 4611686018427387904) : spec_l4Ok.f k x.f0 x.f1 x.f2 x.f3 = some (okE x) := by
  unfold spec_l4Ok.f okE
  rw [l4Key_eq _ k h0 hb, Option.bind_some, l1In_eq, Option.bind_some, l4Value_eq _ k h3 hb3, Option.bind_some]
  cases keyOk x.f0
  · rfl
  · by_cases h1 : 1 ≤ x.f1 ∧ x.f1 ≤ 99999999
    · rw [if_pos rfl, if_pos (by simpa using h1)]
      cases valOk x.f3
      · simp [h1]
      · cases x.f2 <;> simp [h1]
    · rw [if_pos rfl, if_neg (by simpa using h1)]; simp [h1]
/-- One entry ahead of another. -/
def ltE (x y : S_impl_Entry) : Bool := Op.bytesLess x.f0.toList y.f0.toList || (x.f0.toList == y.f0.toList && decide (x.f1 > y.f1))
theorem l4Less_eq (x y : S_impl_Entry) : spec_l4Less.f x.f0 x.f1 x.f2 x.f3 y.f0 y.f1 y.f2 y.f3 = some (ltE x y) := by
  unfold spec_l4Less.f ltE
  by_cases h : Op.bytesLess x.f0.toList y.f0.toList = true
  · rw [if_pos h]; simp [h]
  · rw [if_neg h]
    by_cases h2 : x.f0.toList = y.f0.toList
    · rw [if_pos h2]; simp [h2, bl_irrefl]
    · rw [if_neg h2]; simp [h2, h]
/-- All ok, each behind the one ahead of it. -/
def okFrom : Option S_impl_Entry → List S_impl_Entry → Bool
  | _, [] => true
  | none, x :: r => okE x && okFrom (some x) r
  | some y, x :: r => okE x && ltE y x && okFrom (some x) r
def okEs (l : List S_impl_Entry) : Bool := okFrom none l && decide (l.length ≤ 240)
theorem rde_last {pre suf : List S_impl_Entry} {y : S_impl_Entry} : rd_impl_Entry (pre ++ [y] ++ suf) (((pre ++ [y]).length : Int) - 1) = y := by simp [rd_impl_Entry]
theorem l4Sorted_l0 : ∀ (suf pre : List S_impl_Entry) (k : Nat), suf.length + 1048577 < k → (pre ++ suf).length ≤ 4611686018427387904 → Sm suf →
    spec_l4Sorted.l0 k (pre ++ suf) (pre.length : Int) = some (okFrom pre.getLast? suf) := by
  intro suf
  induction suf with
  | nil =>
    intro pre k hk hb hs
    obtain ⟨k, rfl⟩ := succ_of (show 0 < k by omega)
    rw [spec_l4Sorted.l0, if_neg end_not_lt]
    cases pre.getLast? <;> rfl
  | cons x suf ih =>
    intro pre k hk hb hs
    obtain ⟨k, rfl⟩ := succ_of (show 0 < k by omega)
    simp only [List.length_cons] at hk
    have hx := hs x (by simp)
    have hl : pre.length ≤ 4611686018427387904 := by simp at hb; omega
    have ih' := ih (pre ++ [x]) k (by omega) (by simpa using hb) (fun y h => hs y (by simp [h]))
    rw [List.getLast?_concat] at ih'
    rw [spec_l4Sorted.l0, if_pos mid_lt, if_pos (nat_le0 _), rde_mid, l4Ok_eq x k (by omega) (by omega) (by omega) (by omega), Option.bind_some]
    rcases List.eq_nil_or_concat pre with rfl | ⟨pre', y, rfl⟩
    · simp only [List.getLast?_nil, okFrom]
      cases okE x
      · rfl
      · rw [if_pos rfl, if_neg (by simp), wrap_snoc (x := x) (by omega), snoc_app (suf := suf), ih']; rfl
    · simp only [List.concat_eq_append] at *
      have e : (((pre' ++ [y]).length : Int)) - 1 = (pre'.length : Int) := by simp
      rw [List.getLast?_concat, okFrom]
      cases okE x
      · rfl
      · rw [if_pos rfl, if_pos (by simp), wrap_id (i := ((pre' ++ [y]).length : Int) - 1) (by omega) (by omega), if_pos (by rw [e]; exact nat_le0 _), if_pos (by rw [e]; simp; omega), rde_last, l4Less_eq, Option.bind_some]
        cases ltE y x
        · rfl
        · rw [if_pos rfl, wrap_snoc (x := x) (by omega), snoc_app (suf := suf), ih']; rfl
theorem spec_EntriesOk_eq (l : List S_impl_Entry) (k : Nat) (hk : l.length + 1048577 < k) (hb : l.length ≤ 4611686018427387904) (hs : Sm l) : spec_EntriesOk.f k l = some (okEs l) := by
  unfold spec_EntriesOk.f spec_l4Sorted.f
  have h := l4Sorted_l0 l [] k hk (by simpa using hb) hs
  simp only [List.nil_append, List.length_nil, Int.natCast_zero, List.getLast?_nil] at h
  rw [h, Option.bind_some]
  unfold okEs
  cases okFrom none l
  · rfl
  · rw [if_pos rfl]
    simp only [Bool.true_and]
    congr 1
    exact decide_eq_decide.2 (by omega)
theorem isBetween_l0 : ∀ (d i : Nat) (s : ByteArray) (lo hi : Int) (k : Nat), i + d = s.size → d < k → s.size ≤ 4611686018427387904 → impl_isBetween.l0 k s lo hi (s.size : Int) (i : Int) = some (bAll (fun b => decide (lo ≤ b) && decide (b ≤ hi)) s d i) := by
  intro d
  induction d with
  | zero =>
    intro i s lo hi k hi' hk hb
    obtain ⟨k, rfl⟩ := succ_of hk
    rw [impl_isBetween.l0, if_neg (by omega)]; rfl
  | succ d ih =>
    intro i s lo hi k hi' hk hb
    obtain ⟨k, rfl⟩ := succ_of hk
    rw [impl_isBetween.l0, if_pos (by omega), if_pos (nat_le0 _), if_pos (by omega), bAll]
    by_cases h1 : bt s i < lo
    · rw [if_pos h1]; simp [show ¬ lo ≤ bt s i by omega]
    · rw [if_neg h1]
      by_cases h2 : bt s i > hi
      · rw [if_pos h2]; simp [show ¬ bt s i ≤ hi by omega]
      · rw [if_neg h2, wrap_id (by omega) (by omega), show (i : Int) + 1 = ((i + 1 : Nat) : Int) by omega, ih (i + 1) s lo hi k (by omega) (by omega) hb]
        simp [show lo ≤ bt s i by omega, show bt s i ≤ hi by omega]
theorem isBetween_eq (s : ByteArray) (lo hi : Int) (k : Nat) (hk : s.size < k) (hb : s.size ≤ 4611686018427387904) : impl_isBetween.f k s lo hi = some (bAll (fun b => decide (lo ≤ b) && decide (b ≤ hi)) s s.size 0) := isBetween_l0 s.size 0 s lo hi k (by omega) hk hb
theorem Contains_eq (s : ByteArray) : strings_Contains.f s ⟨#[58]⟩ = some (!bAll (fun b => decide (b ≠ 58)) s s.size 0) := by
  have e : strings_Contains.f s ⟨#[58]⟩ = some (decide (0 ≤ Lib.indexByte s.data.toList 58)) := rfl
  rw [e]
  congr 1
  rw [← Lib.contains_iff_indexByte, Bool.eq_iff_iff, Bool.not_eq_true', ← Bool.not_eq_true, bAll_iff, List.contains_iff_mem, List.mem_iff_getElem]
  constructor
  · rintro ⟨j, h1, h2⟩ h
    have h3 : j < s.size := by simpa using h1
    have h4 := h j (by omega) (by omega)
    rw [bt_nat s j h3, h2] at h4
    exact absurd h4 (by decide)
  · intro h
    refine Classical.byContradiction fun hn => h fun j h1 h2 => ?_
    rw [bt_nat s j (by omega)]
    simp only [decide_eq_true_eq]
    intro h5
    exact hn ⟨j, by simpa using (show j < s.size by omega), UInt8.toNat_inj.1 (by rw [show (58 : UInt8).toNat = 58 from rfl]; omega)⟩
theorem keyOk_eq (s : ByteArray) : keyOk s = (decide (1 ≤ s.size ∧ s.size ≤ 24) && (bAll (fun b => decide (46 ≤ b) && decide (b ≤ 126)) s s.size 0 && bAll (fun b => decide (b ≠ 58)) s s.size 0)) := by
  unfold keyOk
  rw [Bool.and_comm]
  congr 1
  rw [Bool.eq_iff_iff, Bool.and_eq_true, bAll_iff, bAll_iff, bAll_iff]
  simp only [KB, Bool.and_eq_true]
  exact ⟨fun h => ⟨fun j h1 h2 => (h j h1 h2).1, fun j h1 h2 => (h j h1 h2).2⟩, fun h j h1 h2 => ⟨h.1 j h1 h2, h.2 j h1 h2⟩⟩
theorem isEntry_eq (x : S_impl_Entry) (k : Nat) (h0 : x.f0.size < k) (h3 : x.f3.size < k) (hb : x.f0.size ≤ 4611686018427387904) (hb3 : x.f3.size ≤ 4611686018427387904) : impl_isEntry.f k x.f0 x.f1 x.f2 x.f3 = some (okE x) := by
  unfold impl_isEntry.f okE
  rw [keyOk_eq, isBetween_eq _ _ _ k h0 hb, Option.bind_some, Contains_eq, Option.bind_some, isBetween_eq _ _ _ k h3 hb3, Option.bind_some]
  have hv : valOk x.f3 = (decide (x.f3.size ≤ 80) && bAll (fun b => decide (32 ≤ b) && decide (b ≤ 126)) x.f3 x.f3.size 0) := Bool.and_comm _ _
  rw [hv]
  generalize bAll (fun b => decide (46 ≤ b) && decide (b ≤ 126)) x.f0 x.f0.size 0 = p1
  generalize bAll (fun b => decide (b ≠ 58)) x.f0 x.f0.size 0 = p2
  generalize bAll (fun b => decide (32 ≤ b) && decide (b ≤ 126)) x.f3 x.f3.size 0 = p3
  by_cases h1 : (x.f0.size : Int) < 1
  · rw [if_pos h1]; simp [show ¬ 1 ≤ x.f0.size by omega]
  rw [if_neg h1]
  by_cases h2 : (x.f0.size : Int) > 24
  · rw [if_pos h2]; simp [show ¬ x.f0.size ≤ 24 by omega]
  rw [if_neg h2]
  have hz : (1 ≤ x.f0.size ∧ x.f0.size ≤ 24) = True := by simp; omega
  simp only [hz, decide_true, Bool.true_and]
  cases p1
  · simp
  cases p2
  · simp
  by_cases h4 : x.f1 ≥ 1
  · by_cases h5 : x.f1 ≤ 99999999
    · by_cases h6 : (x.f3.size : Int) ≤ 80
      · have h6' : x.f3.size ≤ 80 := by omega
        have h4' : 1 ≤ x.f1 := h4
        cases p3 <;> cases x.f2 <;> simp [h4', h5, h6, h6']
      · simp [h4, h5, h6, show ¬ x.f3.size ≤ 80 by omega]
    · simp [h5]
  · simp [h4]
theorem orI (k : Nat) (r : Int) : ((cmp_Or_int.l0 (k + 1 + 1 + 1) 0 [0, r] (([0, r] : List Int).length : Int) 0).bind fun t147 => some t147) = some r := by
  have w1 : wrap64 1 = 1 := by unfold wrap64; omega
  have w2 : wrap64 2 = 2 := by unfold wrap64; omega
  by_cases h : r = 0
  · subst h; simp [cmp_Or_int.l0, rd, w1, w2]
  · simp [cmp_Or_int.l0, rd, w1, w2, h]
theorem compareEntries_eq (x y : S_impl_Entry) (k : Nat) (hk : 3 < k) : ∃ r : Int, impl_compareEntries.f k x.f0 x.f1 x.f2 x.f3 y.f0 y.f1 y.f2 y.f3 = some r ∧ (r < 0 ↔ ltE x y = true) ∧ (r = 0 ↔ x.f0 = y.f0 ∧ x.f1 = y.f1) := by
  obtain ⟨k, rfl⟩ := succ_of (show 0 < k by omega)
  obtain ⟨k, rfl⟩ := succ_of (show 0 < k by omega)
  obtain ⟨k, rfl⟩ := succ_of (show 0 < k by omega)
  unfold impl_compareEntries.f cmp_Compare_string.f cmp_Compare_int.f cmp_isNaN_string.f cmp_isNaN_int.f cmp_Or_int.f
  simp only [Option.bind_some, bne_self_eq_false, Bool.false_eq_true, if_false]
  by_cases h1 : Op.bytesLess x.f0.toList y.f0.toList = true
  · simp only [if_pos h1, Option.bind_some]
    refine ⟨-1, ?_, by simp [ltE, h1], ?_⟩
    · split
      · rfl
      · split <;> rfl
    · simp
      rintro e; rw [e, bl_irrefl] at h1; cases h1
  · have h1' : Op.bytesLess x.f0.toList y.f0.toList = false := by simpa using h1
    simp only [if_neg h1]
    by_cases h2 : Op.bytesLess y.f0.toList x.f0.toList = true
    · simp only [if_pos h2, Option.bind_some]
      have hne : x.f0.toList ≠ y.f0.toList := fun e => by rw [e, bl_irrefl] at h2; cases h2
      refine ⟨1, ?_, by simp [ltE, h1', hne], ?_⟩
      · split
        · rfl
        · split <;> rfl
      · simp
        rintro e; rw [e] at hne; exact absurd rfl hne
    · simp only [if_neg h2, Option.bind_some]
      have he : x.f0.toList = y.f0.toList := by
        rcases Decidable.em (x.f0.toList = y.f0.toList) with e | e
        · exact e
        · exact absurd (bl_total h1' e) h2
      have he' := (tl_iff _ _).1 he
      by_cases h3 : y.f1 < x.f1
      · simp only [if_pos h3, Option.bind_some]
        exact ⟨-1, orI k (-1), by simp [ltE, he, h3], by simp; intro _; omega⟩
      · simp only [if_neg h3]
        by_cases h4 : y.f1 > x.f1
        · simp only [if_pos h4, Option.bind_some]
          exact ⟨1, orI k 1, by simp [ltE, he, bl_irrefl]; omega, by simp; intro _; omega⟩
        · simp only [if_neg h4, Option.bind_some]
          exact ⟨0, orI k 0, by simp [ltE, he, bl_irrefl]; omega, by simp [he']; omega⟩
theorem areEntries_l0 : ∀ (suf pre : List S_impl_Entry) (k : Nat), suf.length + 1048577 < k → (pre ++ suf).length ≤ 4611686018427387904 → Sm suf →
    impl_areEntries.l0 k (pre ++ suf) (pre ++ suf) ((pre ++ suf).length : Int) (pre.length : Int) = some (okFrom pre.getLast? suf && decide ((pre ++ suf).length ≤ 240)) := by
  intro suf
  induction suf with
  | nil =>
    intro pre k hk hb hs
    obtain ⟨k, rfl⟩ := succ_of (show 0 < k by omega)
    rw [impl_areEntries.l0, if_neg end_not_lt]
    have : okFrom pre.getLast? [] = true := by cases pre.getLast? <;> rfl
    rw [this, Bool.true_and]
    congr 1
    exact decide_eq_decide.2 (by omega)
  | cons x suf ih =>
    intro pre k hk hb hs
    obtain ⟨k, rfl⟩ := succ_of (show 0 < k by omega)
    simp only [List.length_cons] at hk
    have hx := hs x (by simp)
    have hl : pre.length ≤ 4611686018427387904 := by simp at hb; omega
    have ih' := ih (pre ++ [x]) k (by omega) (by simpa using hb) (fun y h => hs y (by simp [h]))
    rw [List.getLast?_concat] at ih'
    rw [impl_areEntries.l0, if_pos mid_lt, if_pos (nat_le0 _), if_pos mid_lt]
    simp only [rde_mid]
    rw [isEntry_eq x k (by omega) (by omega) (by omega) (by omega), Option.bind_some]
    rcases List.eq_nil_or_concat pre with rfl | ⟨pre', y, rfl⟩
    · simp only [List.getLast?_nil, okFrom]
      cases okE x
      · rfl
      · rw [if_pos rfl, if_neg (by simp), wrap_snoc (x := x) (by omega), snoc_app (suf := suf), ih']; rfl
    · simp only [List.concat_eq_append] at *
      have e : (((pre' ++ [y]).length : Int)) - 1 = (pre'.length : Int) := by simp
      rw [List.getLast?_concat, okFrom]
      cases okE x
      · rfl
      · rw [if_pos rfl, if_pos (by simp), wrap_id (i := ((pre' ++ [y]).length : Int) - 1) (by omega) (by omega), if_pos (by rw [e]; exact nat_le0 _), if_pos (by rw [e]; simp; omega), rde_last]
        obtain ⟨r, hr, hlt, -⟩ := compareEntries_eq y x k (by omega)
        rw [hr, Option.bind_some]
        cases hh : ltE y x
        · have : ¬ r < 0 := fun h => by rw [hlt.1 h] at hh; cases hh
          rw [if_pos (by omega)]; rfl
        · have := hlt.2 hh
          rw [if_neg (by omega), wrap_snoc (x := x) (by omega), snoc_app (suf := suf), ih']; rfl
theorem areEntries_eq (l : List S_impl_Entry) (k : Nat) (hk : l.length + 1048577 < k) (hb : l.length ≤ 4611686018427387904) (hs : Sm l) : impl_areEntries.f k l = some (okEs l) := by
  have h := areEntries_l0 l [] k hk (by simpa using hb) hs
  simpa [impl_areEntries.f, okEs] using h
theorem impl_EntriesOk_eq (l : List S_impl_Entry) (k : Nat) (hk : l.length + 1048577 < k) (hb : l.length ≤ 4611686018427387904) (hs : Sm l) : impl_EntriesOk.f k l = some (okEs l) := by
  unfold impl_EntriesOk.f
  rw [areEntries_eq l k hk hb hs]; rfl
end Go.Proofs.Ytjdhphpjbakddaa.V
/- A look at many keys at a moment. -/
namespace Go.Proofs.Ytjdhphpjbakddaa.V
open Go.RowKit Go.Proofs.Ytjdhphpjbakddaa.P Go.Proofs.YtjdhphpjbakddaaW.PrintWords Go.Proofs.YtjdhphpjbakddaaW.PrintMore
theorem ltE_trans {x y z : S_impl_Entry} (h1 : ltE x y = true) (h2 : ltE y z = true) : ltE x z = true := by
  simp only [ltE, Bool.or_eq_true, Bool.and_eq_true, beq_iff_eq, decide_eq_true_eq] at *
  rcases h1 with h1 | ⟨h1, h1'⟩
  · rcases h2 with h2 | ⟨h2, h2'⟩
    · exact .inl (bl_trans h1 h2)
    · exact .inl (h2 ▸ h1)
  · rcases h2 with h2 | ⟨h2, h2'⟩
    · exact .inl (h1 ▸ h2)
    · exact .inr ⟨h1.trans h2, by omega⟩
theorem okFrom_cons {p : Option S_impl_Entry} {x : S_impl_Entry} {r : List S_impl_Entry} (h : okFrom p (x :: r) = true) : okE x = true ∧ okFrom (some x) r = true := by
  cases p with
  | none => simpa [okFrom] using h
  | some z =>
    simp only [okFrom, Bool.and_eq_true] at h
    exact ⟨h.1.1, h.2⟩
theorem okFrom_lt : ∀ (l : List S_impl_Entry) (q : S_impl_Entry), okFrom (some q) l = true → ∀ y ∈ l, ltE q y = true
  | [], _, _, y, hy => by cases hy
  | x :: r, q, h, y, hy => by
    have hc := okFrom_cons h
    simp only [okFrom, Bool.and_eq_true] at h
    rcases List.mem_cons.1 hy with rfl | hy
    · exact h.1.2
    · exact ltE_trans h.1.2 (okFrom_lt r x hc.2 y hy)
def st (s p : ByteArray) : Bool := decide (p.size ≤ s.size) && ((s.extract 0 p.size).toList == p.toList)
end Go.Proofs.Ytjdhphpjbakddaa.V
/- Drawn entries: always some, and small. -/
namespace Go.Proofs.Ytjdhphpjbakddaa.V
open Go.RowKit Go.Proofs.Ytjdhphpjbakddaa.P Go.Proofs.YtjdhphpjbakddaaW.PrintWords Go.Proofs.YtjdhphpjbakddaaW.PrintMore
def SzE (x : S_impl_Entry) : Prop := x.f0.size ≤ 100 ∧ x.f3.size ≤ 100
/-- Whether an entry of a key and moment is there. -/
def hasE (l : List S_impl_Entry) (s : ByteArray) (m : Int) : Bool := l.any fun x => decide (x.f0 = s ∧ x.f1 = m)
theorem l4Has_l0 (e0 : ByteArray) (e1 : Int) (e2 : Bool) (e3 : ByteArray) : ∀ (suf pre : List S_impl_Entry) (k : Nat), suf.length < k → (pre ++ suf).length ≤ 4611686018427387904 →
    spec_l4Has.l0 k (pre ++ suf) (pre.length : Int) e0 e1 e2 e3 = some (hasE suf e0 e1) := by
  intro suf
  induction suf with
  | nil =>
    intro pre k hk hb
    obtain ⟨k, rfl⟩ := succ_of hk
    rw [spec_l4Has.l0, if_neg end_not_lt]; rfl
  | cons x suf ih =>
    intro pre k hk hb
    obtain ⟨k, rfl⟩ := succ_of hk
    have ih' := ih (pre ++ [x]) k (by simpa using hk) (by simpa using hb)
    rw [spec_l4Has.l0, if_pos mid_lt, if_pos (nat_le0 _)]
    simp only [rde_mid, tl_iff]
    rw [wrap_snoc (x := x) (by simp at hb; omega), snoc_app (suf := suf), ih']
    have hc : hasE (x :: suf) e0 e1 = (decide (x.f0 = e0 ∧ x.f1 = e1) || hasE suf e0 e1) := rfl
    rw [hc]
    by_cases h1 : x.f0 = e0
    · by_cases h2 : x.f1 = e1
      · rw [if_pos h1, if_pos h2]; simp [h1, h2]
      · rw [if_pos h1, if_neg h2]; simp [h2]
    · rw [if_neg h1]; simp [h1]
theorem l4Has_eq (l : List S_impl_Entry) (x : S_impl_Entry) (k : Nat) (hk : l.length < k) (hb : l.length ≤ 4611686018427387904) : spec_l4Has.f k l x.f0 x.f1 x.f2 x.f3 = some (hasE l x.f0 x.f1) := by
  have h := l4Has_l0 x.f0 x.f1 x.f2 x.f3 l [] k hk (by simpa using hb)
  simpa [spec_l4Has.f] using h
/-- Put in where it belongs: behind all that are ahead of it. -/
def putE : List S_impl_Entry → S_impl_Entry → List S_impl_Entry
  | [], e => [e]
  | x :: r, e => if ltE x e = true then x :: putE r e else e :: x :: r
theorem putE_length : ∀ (l : List S_impl_Entry) (e : S_impl_Entry), (putE l e).length = l.length + 1
  | [], _ => rfl
  | x :: r, e => by
    rw [putE]; split
    · simp [putE_length r e]
    · simp
theorem putE_mem : ∀ (l : List S_impl_Entry) (e y : S_impl_Entry), y ∈ putE l e ↔ y = e ∨ y ∈ l
  | [], e, y => by simp [putE]
  | x :: r, e, y => by
    rw [putE]; split
    · simp [putE_mem r e y]
      constructor
      · rintro (h | h | h) <;> simp [h]
      · rintro (h | h | h) <;> simp [h]
    · simp
theorem l4Put_l0 (e : S_impl_Entry) : ∀ (suf pre : List S_impl_Entry) (k : Nat), suf.length < k → (pre ++ suf).length ≤ 1000000000 →
    spec_l4Put.l0 k (pre ++ suf) (pre.length : Int) e.f0 e.f1 e.f2 e.f3 = some (pre ++ putE suf e) := by
  intro suf
  induction suf with
  | nil =>
    intro pre k hk hb
    obtain ⟨k, rfl⟩ := succ_of hk
    simp at hb
    rw [spec_l4Put.l0, if_neg end_not_lt]
    simp only [Option.bind_some, List.append_nil, Int.toNat_natCast, List.take_length, List.drop_length, List.nil_append, List.length_nil, List.length_append, List.length_cons]
    rw [if_pos (nat_le0 _), if_pos (by omega), if_pos (by omega), if_pos (by omega), if_pos (by omega)]; rfl
  | cons x suf ih =>
    intro pre k hk hb
    obtain ⟨k, rfl⟩ := succ_of hk
    have ih' := ih (pre ++ [x]) k (by simpa using hk) (by simpa using hb)
    rw [spec_l4Put.l0, if_pos mid_lt, if_pos (nat_le0 _)]
    simp only [rde_mid, l4Less_eq, Option.bind_some]
    rw [putE]
    have hb' : pre.length + (suf.length + 1) ≤ 1000000000 := by simpa using hb
    by_cases h : ltE x e = true
    · rw [if_pos h, if_pos h, wrap_snoc (x := x) (by omega), snoc_app (suf := suf), ih']; simp
    · have ht : (pre ++ x :: suf).take (pre.length : Int).toNat = pre := by simp
      have hd : (pre ++ x :: suf).drop (pre.length : Int).toNat = x :: suf := by simp
      rw [if_neg h, if_neg h, ht, hd]
      simp only [List.nil_append, List.length_nil, List.length_append, List.length_cons]
      rw [if_pos (by omega), if_pos (by omega), if_pos (by omega), if_pos (by omega)]
      simp
theorem l4Put_eq (l : List S_impl_Entry) (e : S_impl_Entry) (k : Nat) (hk : l.length < k) (hb : l.length ≤ 1000000000) : spec_l4Put.f k l e.f0 e.f1 e.f2 e.f3 = some (putE l e) := by
  have h := l4Put_l0 e l [] k hk (by simpa using hb)
  simpa [spec_l4Put.f] using h
section
variable {s : List Int}
theorem l12Key_eq (hs : U8 s) (hl : s.length ≤ 2000) {q : Int} {k : Nat} (h0 : 0 ≤ q) (h1 : q ≤ 1000000) (hk : 0 < k) : ∃ x, spec_l12Key.f k s q = some (x, q + 1) ∧ x.size ≤ 100 := by
  unfold spec_l12Key.f
  obtain ⟨x, hx, hm⟩ := of_eq (k := k) (q := q) (l := [(⟨#[116, 46, 97, 46, 120]⟩ : ByteArray), (⟨#[116, 46, 97, 46, 121]⟩ : ByteArray), (⟨#[116, 46, 97, 98, 46, 120]⟩ : ByteArray), (⟨#[115, 46, 97]⟩ : ByteArray), (⟨#[117, 46, 97]⟩ : ByteArray), (⟨#[109]⟩ : ByteArray), (⟨#[112, 46, 48, 48, 48, 48, 48, 48, 48, 49]⟩ : ByteArray), (⟨#[116, 46, 97, 46, 120, 120]⟩ : ByteArray)]) hs hl h0 h1 (by simp) hk
  rw [hx]
  refine ⟨x, rfl, ?_⟩
  simp only [List.mem_cons, List.not_mem_nil, or_false] at hm
  rcases hm with rfl | rfl | rfl | rfl | rfl | rfl | rfl | rfl <;> decide
theorem l12Entry_eq (hs : U8 s) (hl : s.length ≤ 2000) {q : Int} {k : Nat} (h0 : 0 ≤ q) (h1 : q ≤ 900000) (hk : 0 < k) : ∃ x : S_impl_Entry, spec_l12Entry.f k s q = some (x.f0, x.f1, x.f2, x.f3, q + 4) ∧ SzE x := by
  unfold spec_l12Entry.f
  obtain ⟨y, hy, hys⟩ := l12Key_eq (k := k) (q := q) hs hl h0 (by omega) hk
  obtain ⟨v, hv, v0, v1⟩ := pick_eq (n := 9) (k := k) (q := q + 1) hs hl (by omega) (by omega) (by omega) hk
  obtain ⟨z, hz, hzm⟩ := of_eq (k := k) (q := q + 1 + 1) (l := [(⟨#[]⟩ : ByteArray), (⟨#[111, 110, 101]⟩ : ByteArray), (⟨#[116, 119, 111, 32, 119, 111, 114, 100, 115]⟩ : ByteArray), (⟨#[32, 120, 32]⟩ : ByteArray)]) hs hl (by omega) (by omega) (by simp) hk
  obtain ⟨u, hu, u0, u1⟩ := pick_eq (n := 4) (k := k) (q := q + 1 + 1 + 1) hs hl (by omega) (by omega) (by omega) hk
  have hzs : z.size ≤ 100 := by
    simp only [List.mem_cons, List.not_mem_nil, or_false] at hzm
    rcases hzm with rfl | rfl | rfl | rfl <;> decide
  simp only [hy, hv, hz, hu, Option.bind_some]
  have eq4 : q + 1 + 1 + 1 + 1 = q + 4 := by omega
  by_cases hc : u = 0
  · rw [if_pos hc, eq4]
    exact ⟨⟨y, _, true, ⟨#[]⟩⟩, rfl, hys, by show (0 : Nat) ≤ 100; omega⟩
  · rw [if_neg hc, eq4]
    exact ⟨⟨y, _, false, z⟩, rfl, hys, hzs⟩
theorem l1Dec_eq : ∀ (d : Nat) (n : Int) (k : Nat), 0 ≤ n → n < 10 ^ (d + 1) → n ≤ 1000000000 → d < k → d ≤ 100 → ∃ r, spec_l1Dec.f k n = some r ∧ r.size ≤ d + 1 := by
  intro d
  induction d with
  | zero =>
    intro n k h0 h1 h2 hk _
    obtain ⟨k, rfl⟩ := succ_of hk
    rw [spec_l1Dec.f, if_neg (by omega), if_neg (by omega), if_pos (by omega)]
    exact ⟨_, rfl, by simp [strOfNums, ByteArray.size]⟩
  | succ d ih =>
    intro n k h0 h1 h2 hk hd100
    obtain ⟨k, rfl⟩ := succ_of hk
    rw [spec_l1Dec.f, if_neg (by omega), if_neg (by omega)]
    by_cases h3 : n < 10
    · rw [if_pos h3]
      exact ⟨_, rfl, by simp [strOfNums, ByteArray.size]⟩
    · have hd : Int.tdiv n 10 = n / 10 := Int.tdiv_eq_ediv_of_nonneg h0
      have hp : (10 : Int) ^ (d + 1 + 1) = 10 ^ (d + 1) * 10 := Int.pow_succ 10 (d + 1)
      rw [hp] at h1
      obtain ⟨r, hr, hrs⟩ := ih (n / 10) k (by omega) (by omega) (by omega) (by omega) (by omega)
      rw [if_neg h3, hd, wrap_id (i := n / 10) (by omega) (by omega), hr, Option.bind_some, Option.bind_some]
      have h1s : ∀ m : Int, (strOfNums [m]).size = 1 := fun m => by simp [strOfNums, ByteArray.size]
      rw [if_pos (by rw [h1s]; omega)]
      exact ⟨_, rfl, by rw [ByteArray.size_append, h1s]; omega⟩
theorem l10Pad_l0 : ∀ (d k : Nat) (x : ByteArray), x.size + d = 8 → d < k → ∃ r, spec_l10Pad.l0 k x = some r ∧ r.size = 8 := by
  intro d
  induction d with
  | zero =>
    intro k x hx hk
    obtain ⟨k, rfl⟩ := succ_of hk
    rw [spec_l10Pad.l0, if_neg (by omega)]
    exact ⟨x, rfl, by omega⟩
  | succ d ih =>
    intro k x hx hk
    obtain ⟨k, rfl⟩ := succ_of hk
    rw [spec_l10Pad.l0, if_pos (by omega), if_pos (by omega)]
    exact ih k _ (by rw [ByteArray.size_append]; show 1 + x.size + d = 8; omega) (by omega)
theorem l10Pad_eq (n : Int) (k : Nat) (h0 : 0 ≤ n) (h1 : n < 1000) (hk : 20 < k) : ∃ r, spec_l10Pad.f k n = some r ∧ r.size = 8 := by
  obtain ⟨r, hr, hrs⟩ := l1Dec_eq 2 n k h0 (by omega) (by omega) (by omega) (by omega)
  unfold spec_l10Pad.f
  rw [hr, Option.bind_some]
  exact l10Pad_l0 (8 - r.size) k r (by omega) (by omega)
theorem l12Entries_l1 (q : Int) : ∀ (d i : Nat) (l : List S_impl_Entry) (k : Nat), i + d = 240 → i ≤ l.length → l.length + d ≤ 500 → d + 600 < k → (∀ x ∈ l, SzE x) →
    ∃ l', spec_l12Entries.l1 k l (i : Int) s q = some (l', q) ∧ l'.length = 240 ∧ ∀ x ∈ l', SzE x := by
  intro d
  induction d with
  | zero =>
    intro i l k hi hle hl hk hs
    obtain ⟨k, rfl⟩ := succ_of (show 0 < k by omega)
    rw [spec_l12Entries.l1, if_neg (by omega), if_pos (by omega)]
    exact ⟨_, rfl, by simp; omega, fun x hx => hs x (List.mem_of_mem_take hx)⟩
  | succ d ih =>
    intro i l k hi hle hl hk hs
    obtain ⟨k, rfl⟩ := succ_of (show 0 < k by omega)
    obtain ⟨r, hr, hrs⟩ := l10Pad_eq (i : Int) k (by omega) (by omega) (by omega)
    have hp := l4Put_eq l ⟨(⟨#[120, 46]⟩ : ByteArray) ++ r, 1, false, ⟨#[]⟩⟩ k (by omega) (by omega)
    simp only at hp
    rw [spec_l12Entries.l1, if_pos (by omega), hr, Option.bind_some, if_pos (by omega), hp, Option.bind_some, wrap_id (i := (i : Int) + 1) (by omega) (by omega)]
    refine ih (i + 1) _ k (by omega) (by rw [putE_length]; omega) (by rw [putE_length]; omega) (by omega) (fun x hx => ?_)
    rcases (putE_mem _ _ _).1 hx with rfl | hx
    · refine ⟨?_, by show (0 : Nat) ≤ 100; omega⟩
      show ((⟨#[120, 46]⟩ : ByteArray) ++ r).size ≤ 100
      rw [ByteArray.size_append, hrs]; decide
    · exact hs x hx
theorem l12Entries_l0 (hs : U8 s) (hl : s.length ≤ 2000) : ∀ (r : Nat) (q : Int) (l : List S_impl_Entry) (k : Nat), r ≤ 20 → l.length + r ≤ 100 → r + 900 < k → 0 ≤ q → q + 4 * r ≤ 100000 → (∀ x ∈ l, SzE x) →
    ∃ l' q', spec_l12Entries.l0 k l (r : Int) s q = some (l', q') ∧ l'.length ≤ 240 ∧ (∀ x ∈ l', SzE x) ∧ 0 ≤ q' ∧ q' ≤ q + 4 * r + 1 := by
  intro r
  induction r with
  | zero =>
    intro q l k hr hln hk h0 h1 hz
    obtain ⟨k, rfl⟩ := succ_of (show 0 < k by omega)
    obtain ⟨v, hv, v0, v1⟩ := pick_eq (n := 30) (k := k) (q := q) hs hl h0 (by omega) (by omega) (by omega)
    rw [spec_l12Entries.l0, if_neg (by omega), hv, Option.bind_some]
    by_cases hc : v = 0
    · rw [if_pos hc]
      obtain ⟨l', e, h2, h3⟩ := l12Entries_l1 (s := s) (q + 1) 240 0 l k (by omega) (by omega) (by omega) (by omega) hz
      exact ⟨l', q + 1, e, by omega, h3, by omega, by omega⟩
    · rw [if_neg hc]
      exact ⟨l, q + 1, rfl, by omega, hz, by omega, by omega⟩
  | succ r ih =>
    intro q l k hr hln hk h0 h1 hz
    obtain ⟨k, rfl⟩ := succ_of (show 0 < k by omega)
    obtain ⟨x, hx, hxz⟩ := l12Entry_eq (k := k) (q := q) hs hl h0 (by omega) (by omega)
    have e : wrap64 (((r + 1 : Nat) : Int) - 1) = (r : Int) := by rw [wrap_id (by omega) (by omega)]; omega
    rw [spec_l12Entries.l0, if_pos (by omega), hx, Option.bind_some]
    simp only [l4Has_eq l x k (by omega) (by omega), l4Put_eq l x k (by omega) (by omega), Option.bind_some, e]
    by_cases hc : hasE l x.f0 x.f1 = true
    · rw [if_pos hc]
      obtain ⟨l', q', e2, h2, h3, h4, h5⟩ := ih (q + 4) l k (by omega) (by omega) (by omega) (by omega) (by omega) hz
      exact ⟨l', q', e2, h2, h3, h4, by omega⟩
    · rw [if_neg hc]
      obtain ⟨l', q', e2, h2, h3, h4, h5⟩ := ih (q + 4) (putE l x) k (by omega) (by rw [putE_length]; omega) (by omega) (by omega) (by omega) (fun y hy => by
        rcases (putE_mem _ _ _).1 hy with rfl | hy
        · exact hxz
        · exact hz y hy)
      exact ⟨l', q', e2, h2, h3, h4, by omega⟩
theorem l12Entries_eq (hs : U8 s) (hl : s.length ≤ 2000) {q : Int} {k : Nat} (hk : 950 < k) (h0 : 0 ≤ q) (h1 : q ≤ 10000) :
    ∃ l' q', spec_l12Entries.f k s q = some (l', q') ∧ l'.length ≤ 240 ∧ (∀ x ∈ l', SzE x) ∧ 0 ≤ q' ∧ q' ≤ q + 40 := by
  obtain ⟨v, hv, v0, v1⟩ := pick_eq (n := 10) (k := k) (q := q) hs hl h0 (by omega) (by omega) (by omega)
  obtain ⟨r, rfl⟩ := Int.eq_ofNat_of_zero_le v0
  unfold spec_l12Entries.f
  simp only [hv, Option.bind_some]
  obtain ⟨l', q', e2, h2, h3, h4, h5⟩ := l12Entries_l0 hs hl r (q + 1) [] k (by omega) (by simp; omega) (by omega) (by omega) (by omega) (by simp)
  exact ⟨l', q', e2, h2, h3, h4, by omega⟩
theorem many_k25 : (spec_l1Many.f 12 ⟨#[107]⟩ 25).map ByteArray.size = some 25 := by kernel_rfl
theorem many_v81 : (spec_l1Many.f 12 ⟨#[118]⟩ 81).map ByteArray.size = some 81 := by kernel_rfl
theorem rde_mem {l : List S_impl_Entry} {i : Int} (h0 : 0 ≤ i) (h1 : i < l.length) : rd_impl_Entry l i ∈ l := by
  unfold rd_impl_Entry
  rw [List.getD_eq_getElem?_getD, List.getElem?_eq_getElem (by omega)]
  exact List.getElem_mem _
/-- Small drawn entries. -/
def SmE (l : List S_impl_Entry) : Prop := l.length ≤ 241 ∧ ∀ x ∈ l, SzE x
theorem SmE_set {l : List S_impl_Entry} {i : Nat} {y : S_impl_Entry} (h : SmE l) (hy : SzE y) : SmE (l.set i y) := ⟨by simpa using h.1, fun x hx => by
  rcases List.mem_or_eq_of_mem_set hx with h2 | rfl
  · exact h.2 x h2
  · exact hy⟩
theorem SmE_Sm {l : List S_impl_Entry} (h : SmE l) : Sm l := fun x hx => by
  have := h.2 x hx
  exact ⟨by have := this.1; omega, by have := this.2; omega⟩
theorem SpoilEntries_eq (hs : U8 s) (hl : s.length ≤ 2000) {q : Int} {k : Nat} (hk : 950 < k) (h0 : 0 ≤ q) (h1 : q ≤ 10000) {l : List S_impl_Entry} (hln : l.length ≤ 240) (hz : ∀ x ∈ l, SzE x) :
    ∃ l' q', spec_l12SpoilEntries.f k s q l = some (l', q') ∧ SmE l' ∧ 0 ≤ q' ∧ q' ≤ q + 3 := by
  have hsm : SmE l := ⟨by omega, hz⟩
  unfold spec_l12SpoilEntries.f
  simp only [Option.bind_some, List.nil_append, List.length_nil]
  rw [if_pos (by omega)]
  by_cases hn : (l.length : Int) = 0
  · obtain ⟨z, hzz, hzm⟩ := of_eq (k := k) (q := q) (l := [(⟨#[]⟩ : ByteArray), (⟨#[97, 32, 98]⟩ : ByteArray), (⟨#[97, 58, 98]⟩ : ByteArray)]) hs hl (by omega) (by omega) (by simp) (by omega)
    have hzs : z.size ≤ 100 := by
      simp only [List.mem_cons, List.not_mem_nil, or_false] at hzm
      rcases hzm with rfl | rfl | rfl <;> decide
    rw [if_pos hn, hzz, Option.bind_some]
    refine ⟨_, _, rfl, ⟨by simp, fun x hx => ?_⟩, by omega, by omega⟩
    simp at hx; subst hx
    exact ⟨hzs, by show (0 : Nat) ≤ 100; omega⟩
  rw [if_neg hn]
  obtain ⟨i, hi, i0, i1⟩ := pick_eq (n := (l.length : Int)) (k := k) (q := q) hs hl h0 (by omega) (by omega) (by omega)
  obtain ⟨v, hv, v0, v1⟩ := pick_eq (n := 5) (k := k) (q := q + 1) hs hl (by omega) (by omega) (by omega) (by omega)
  have hme := hz _ (rde_mem i0 i1)
  simp only [hi, hv, Option.bind_some]
  by_cases c0 : v = 0
  · obtain ⟨u, hu, u0, u1⟩ := pick_eq (n := 2) (k := k) (q := q + 1 + 1) hs hl (by omega) (by omega) (by omega) (by omega)
    rw [if_pos c0]
    simp only [hu, Option.bind_some]
    rw [if_pos u0, if_pos (by simpa using u1), if_pos i0, if_pos i1]
    exact ⟨_, _, rfl, SmE_set hsm hme, by omega, by omega⟩
  rw [if_neg c0]
  by_cases c1 : v = 1
  · obtain ⟨t, ht, hts⟩ := many_at many_k25 (k := k) (by omega)
    obtain ⟨z, hzz, hzm⟩ := of_eq (k := k) (q := q + 1 + 1) (l := [(⟨#[]⟩ : ByteArray), (⟨#[97, 32, 98]⟩ : ByteArray), t]) hs hl (by omega) (by omega) (by simp) (by omega)
    have hzs : z.size ≤ 100 := by
      simp only [List.mem_cons, List.not_mem_nil, or_false] at hzm
      rcases hzm with rfl | rfl | rfl
      · decide
      · decide
      · omega
    rw [if_pos c1]
    simp only [ht, hzz, Option.bind_some]
    rw [if_pos i0, if_pos i1]
    exact ⟨_, _, rfl, SmE_set hsm ⟨hzs, hme.2⟩, by omega, by omega⟩
  rw [if_neg c1]
  by_cases c2 : v = 2
  · obtain ⟨t, ht, hts⟩ := many_at many_v81 (k := k) (by omega)
    obtain ⟨z, hzz, hzm⟩ := of_eq (k := k) (q := q + 1 + 1) (l := [(⟨#[10]⟩ : ByteArray), t]) hs hl (by omega) (by omega) (by simp) (by omega)
    have hzs : z.size ≤ 100 := by
      simp only [List.mem_cons, List.not_mem_nil, or_false] at hzm
      rcases hzm with rfl | rfl
      · decide
      · omega
    rw [if_pos c2]
    simp only [ht, hzz, Option.bind_some]
    rw [if_pos i0, if_pos i1]
    exact ⟨_, _, rfl, SmE_set hsm ⟨hme.1, hzs⟩, by omega, by omega⟩
  rw [if_neg c2]
  by_cases c3 : v = 3
  · rw [if_pos c3, if_pos i0, if_pos i1]
    have hset : ∀ y : S_impl_Entry, rd_impl_Entry (l.set i.toNat y) i = y := fun y => by
      unfold rd_impl_Entry
      rw [List.getD_eq_getElem?_getD, List.getElem?_set_self (by omega)]; rfl
    rw [hset]
    exact ⟨_, _, rfl, SmE_set (SmE_set hsm hme) ⟨hme.1, by show (1 : Nat) ≤ 100; omega⟩, by omega, by omega⟩
  · rw [if_neg c3, if_pos i0, if_pos i1, if_pos (by omega)]
    refine ⟨_, _, rfl, ⟨by simp; omega, fun x hx => ?_⟩, by omega, by omega⟩
    rcases List.mem_append.1 hx with hx | hx
    · exact hz x hx
    · simp at hx; subst hx; exact hme
theorem AnyEntries_eq (hs : U8 s) (hl : s.length ≤ 2000) {q : Int} {k : Nat} (hk : 950 < k) (h0 : 0 ≤ q) (h1 : q ≤ 9000) :
    ∃ l' q', spec_l12AnyEntries.f k s q = some (l', q') ∧ SmE l' ∧ 0 ≤ q' ∧ q' ≤ q + 50 := by
  obtain ⟨l, q1, e1, hln, hz, g0, g1⟩ := l12Entries_eq hs hl hk h0 (by omega)
  obtain ⟨v, hv, v0, v1⟩ := pick_eq (n := 12) (k := k) (q := q1) hs hl g0 (by omega) (by omega) (by omega)
  obtain ⟨l', q', e2, hsm, g2, g3⟩ := SpoilEntries_eq (q := q1 + 1) hs hl hk (by omega) (by omega) hln hz
  unfold spec_l12AnyEntries.f
  simp only [e1, hv, Option.bind_some]
  by_cases hc : v = 0
  · simp only [if_pos hc, e2, Option.bind_some]
    exact ⟨_, _, rfl, hsm, g2, by omega⟩
  · rw [if_neg hc]
    exact ⟨_, _, rfl, ⟨by omega, hz⟩, by omega, by omega⟩
end
end Go.Proofs.Ytjdhphpjbakddaa.V
/- The draw for a trim; both of its ends. -/
namespace Go.Proofs.Ytjdhphpjbakddaa.V
open Go.RowKit Go.Proofs.Ytjdhphpjbakddaa.P Go.Proofs.YtjdhphpjbakddaaW.PrintWords Go.Proofs.YtjdhphpjbakddaaW.PrintMore
theorem wmEntries_l0 : ∀ (suf pre : List S_impl_Entry) (k : Nat), suf.length < k → (pre ++ suf).length < 9223372036854775807 → laws_wmEntries.l0 k (pre ++ suf) (pre ++ suf) (pre.length : Int) = some true := by
  intro suf
  induction suf with
  | nil =>
    intro pre k hk hb
    obtain ⟨k, rfl⟩ := succ_of hk
    rw [laws_wmEntries.l0, if_neg end_not_lt]
  | cons x suf ih =>
    intro pre k hk hb
    obtain ⟨k, rfl⟩ := succ_of hk
    rw [laws_wmEntries.l0, if_pos mid_lt, if_pos (nat_le0 _), if_pos mid_lt, if_neg (by simp), wrap_snoc (x := x) (by simp at hb; omega), snoc_app (suf := suf), ih (pre ++ [x]) k (by simpa using hk) (by simpa using hb)]
theorem wmEntries_refl (a : List S_impl_Entry) (k : Nat) (hk : a.length < k) (hb : a.length < 9223372036854775807) : laws_wmEntries.f k a a = some true := by
  unfold laws_wmEntries.f
  rw [if_pos rfl]
  exact wmEntries_l0 a [] k hk hb
end Go.Proofs.Ytjdhphpjbakddaa.V
/- Trimmed entries: what stays, as_ a filter; what a look at many tells, as_ a filter. -/
namespace Go.Proofs.Ytjdhphpjbakddaa.V
open Go.RowKit Go.Proofs.Ytjdhphpjbakddaa.P Go.Proofs.YtjdhphpjbakddaaW.PrintWords Go.Proofs.YtjdhphpjbakddaaW.PrintMore
def Srt (l : List S_impl_Entry) : Prop := l.Pairwise (fun a b => ltE a b = true)
theorem srt_of_okFrom : ∀ (l : List S_impl_Entry) (q : Option S_impl_Entry), okFrom q l = true → Srt l
  | [], _, _ => List.Pairwise.nil
  | x :: r, q, h => by
    have h2 := (okFrom_cons h).2
    exact List.pairwise_cons.2 ⟨fun y hy => okFrom_lt r x h2 y hy, srt_of_okFrom r _ h2⟩
theorem okEs_srt {l : List S_impl_Entry} (h : okEs l = true) : Srt l := by
  unfold okEs at h
  simp only [Bool.and_eq_true] at h
  exact srt_of_okFrom l none h.1
theorem okEs_len {l : List S_impl_Entry} (h : okEs l = true) : l.length ≤ 240 := by
  unfold okEs at h
  simp only [Bool.and_eq_true, decide_eq_true_eq] at h
  exact h.2
/-- Is there a newer one of its key, not above a moment? -/
def hid (l : List S_impl_Entry) (m : Int) (x : S_impl_Entry) : Bool := l.any fun y => decide (y.f0 = x.f0 ∧ x.f1 < y.f1 ∧ y.f1 ≤ m)
/-- Told by a look at many. -/
def told (l : List S_impl_Entry) (p : ByteArray) (m : Int) (x : S_impl_Entry) : Bool := decide (x.f1 ≤ m) && st x.f0 p && !x.f2 && !hid l m x
section
variable {P : ByteArray → Prop} {m : Int} {pre suf : List S_impl_Entry} {last : ByteArray} {x : S_impl_Entry}
end
section
variable {l : List S_impl_Entry} {fl : Int} {bot : Bool}
end
end Go.Proofs.Ytjdhphpjbakddaa.V
/- One more entry; two lists together: what comes of it. -/
namespace Go.Proofs.Ytjdhphpjbakddaa.V
open Go.RowKit Go.Proofs.Ytjdhphpjbakddaa.P Go.Proofs.YtjdhphpjbakddaaW.PrintWords Go.Proofs.YtjdhphpjbakddaaW.PrintMore
theorem nodupE_len {α : Type} [DecidableEq α] : ∀ (a b : List α), a.Nodup → (∀ x ∈ a, x ∈ b) → a.length ≤ b.length
  | [], _, _, _ => Nat.zero_le _
  | x :: r, b, h, hs => by
    have h1 := List.nodup_cons.1 h
    have h2 := nodupE_len r (b.erase x) h1.2 (fun y hy => (List.mem_erase_of_ne (fun e : y = x => h1.1 (by rw [← e]; exact hy))).2 (hs y (by simp [hy])))
    have h3 := List.length_erase_of_mem (hs x (by simp))
    have h4 : 0 < b.length := List.length_pos_of_mem (hs x (by simp))
    rw [List.length_cons]; omega
theorem ltE_irrefl (x : S_impl_Entry) : ltE x x = false := by
  simp [ltE, bl_irrefl]
theorem ltE_total {x y : S_impl_Entry} (h : ltE x y = false) (hn : ¬ (x.f0 = y.f0 ∧ x.f1 = y.f1)) : ltE y x = true := by
  simp only [ltE, Bool.or_eq_false_iff, Bool.and_eq_false_iff, decide_eq_false_iff_not, beq_eq_false_iff_ne, Bool.or_eq_true, Bool.and_eq_true, beq_iff_eq, decide_eq_true_eq] at h ⊢
  by_cases he : x.f0 = y.f0
  · have h2 : ¬ x.f1 > y.f1 := by
      rcases h.2 with h2 | h2
      · exact absurd (by rw [he]) h2
      · exact h2
    exact .inr ⟨by rw [he], by have : x.f1 ≠ y.f1 := fun e => hn ⟨he, e⟩; omega⟩
  · exact .inl (bl_total h.1 (fun e => he ((tl_iff _ _).1 e)))
theorem ltE_congr {x y z : S_impl_Entry} (h0 : y.f0 = z.f0) (h1 : y.f1 = z.f1) : ltE x y = ltE x z := by unfold ltE; rw [h0, h1]
theorem hasE_iff {l : List S_impl_Entry} {s : ByteArray} {m : Int} : hasE l s m = true ↔ ∃ x ∈ l, x.f0 = s ∧ x.f1 = m := by simp [hasE]
theorem hasE_not {l : List S_impl_Entry} {s : ByteArray} {m : Int} (h : hasE l s m = false) : ∀ x ∈ l, ¬ (x.f0 = s ∧ x.f1 = m) := fun x hx hh => by
  rw [hasE_iff.2 ⟨x, hx, hh⟩] at h; cases h
theorem putE_srt : ∀ (l : List S_impl_Entry) (e : S_impl_Entry), Srt l → hasE l e.f0 e.f1 = false → Srt (putE l e)
  | [], e, _, _ => List.pairwise_singleton _ _
  | x :: r, e, h, hn => by
    have h1 := List.pairwise_cons.1 h
    have hnr : hasE r e.f0 e.f1 = false := by
      rw [← Bool.not_eq_true]
      intro h2
      obtain ⟨y, hy, h3⟩ := hasE_iff.1 h2
      exact hasE_not hn y (by simp [hy]) h3
    rw [putE]
    by_cases hx : ltE x e = true
    · rw [if_pos hx]
      refine List.pairwise_cons.2 ⟨fun y hy => ?_, putE_srt r e h1.2 hnr⟩
      rcases (putE_mem _ _ _).1 hy with rfl | hy
      · exact hx
      · exact h1.1 y hy
    · rw [if_neg hx]
      have hex := ltE_total (by simpa using hx) (hasE_not hn x (by simp))
      refine List.pairwise_cons.2 ⟨fun y hy => ?_, h⟩
      rcases List.mem_cons.1 hy with rfl | hy
      · exact hex
      · exact ltE_trans hex (h1.1 y hy)
/-- Where it goes: behind all that are ahead of it. -/
def pos (l : List S_impl_Entry) (e : S_impl_Entry) : Nat := (l.takeWhile (ltE · e)).length
theorem pos_le (l : List S_impl_Entry) (e : S_impl_Entry) : pos l e ≤ l.length := (List.takeWhile_sublist _).length_le
theorem putE_pos : ∀ (l : List S_impl_Entry) (e : S_impl_Entry), putE l e = l.take (pos l e) ++ e :: l.drop (pos l e)
  | [], e => rfl
  | x :: r, e => by
    unfold pos
    rw [putE, List.takeWhile_cons]
    by_cases h : ltE x e = true
    · rw [if_pos h, if_pos h, putE_pos r e]; rfl
    · rw [if_neg h, if_neg h]; rfl
theorem pos_lt {l : List S_impl_Entry} {e : S_impl_Entry} (hs : Srt l) {h : Nat} (hh : h < l.length) : ltE l[h] e = true ↔ h < pos l e := by
  induction l generalizing h with
  | nil => simp at hh
  | cons x r ih =>
    have h1 := List.pairwise_cons.1 hs
    unfold pos
    rw [List.takeWhile_cons]
    by_cases hx : ltE x e = true
    · rw [if_pos hx, List.length_cons]
      cases h with
      | zero => exact ⟨fun _ => by omega, fun _ => hx⟩
      | succ h =>
        have := ih h1.2 (h := h) (by simpa using hh)
        unfold pos at this
        rw [List.getElem_cons_succ, this]; omega
    · rw [if_neg hx, List.length_nil]
      constructor
      · intro h2
        refine absurd ?_ hx
        cases h with
        | zero => exact h2
        | succ h => exact ltE_trans (h1.1 _ (List.getElem_mem (by simpa using hh))) h2
      · intro h2; omega
theorem pos_has {l : List S_impl_Entry} {e : S_impl_Entry} (hs : Srt l) : hasE l e.f0 e.f1 = true ↔ ∃ h : pos l e < l.length, l[pos l e].f0 = e.f0 ∧ l[pos l e].f1 = e.f1 := by
  rw [hasE_iff]
  constructor
  · rintro ⟨x, hx, h0, h1⟩
    obtain ⟨j, hj, rfl⟩ := List.getElem_of_mem hx
    have h2 : ¬ j < pos l e := fun h => by
      have h3 := (pos_lt hs hj).2 h
      rw [ltE_congr (z := l[j]) h0.symm h1.symm, ltE_irrefl] at h3
      cases h3
    have hp : pos l e < l.length := by omega
    rcases Nat.lt_or_ge (pos l e) j with h3 | h3
    · exfalso
      have h4 : ltE l[pos l e] l[j] = true := List.pairwise_iff_getElem.1 hs _ _ hp hj h3
      rw [ltE_congr h0 h1, pos_lt hs hp] at h4
      omega
    · have : j = pos l e := by omega
      subst this
      exact ⟨hp, h0, h1⟩
  · rintro ⟨h, h0, h1⟩
    exact ⟨_, List.getElem_mem h, h0, h1⟩
def joinE : List S_impl_Entry → List S_impl_Entry → List S_impl_Entry
  | a, [] => a
  | a, e :: r => joinE (if hasE a e.f0 e.f1 = true then a else putE a e) r
theorem joinE_step_srt {a : List S_impl_Entry} {e : S_impl_Entry} (h : Srt a) : Srt (if hasE a e.f0 e.f1 = true then a else putE a e) := by
  by_cases hh : hasE a e.f0 e.f1 = true
  · rw [if_pos hh]; exact h
  · rw [if_neg hh]; exact putE_srt a e h (by simpa using hh)
theorem joinE_len : ∀ (b a : List S_impl_Entry), (joinE a b).length ≤ a.length + b.length
  | [], _ => by simp [joinE]
  | e :: r, a => by
    rw [joinE]
    have := joinE_len r (if hasE a e.f0 e.f1 = true then a else putE a e)
    have h2 : (if hasE a e.f0 e.f1 = true then a else putE a e).length ≤ a.length + 1 := by
      split
      · omega
      · rw [putE_length]; omega
    simp; omega
theorem joinE_mem : ∀ (b a : List S_impl_Entry), (∀ x ∈ joinE a b, x ∈ a ∨ x ∈ b) ∧ (∀ x ∈ a, x ∈ joinE a b)
  | [], a => ⟨fun x hx => .inl hx, fun x hx => hx⟩
  | e :: r, a => by
    obtain ⟨h1, h2⟩ := joinE_mem r (if hasE a e.f0 e.f1 = true then a else putE a e)
    rw [joinE]
    constructor
    · intro x hx
      rcases h1 x hx with h | h
      · by_cases hh : hasE a e.f0 e.f1 = true
        · rw [if_pos hh] at h; exact .inl h
        · rw [if_neg hh, putE_mem] at h
          rcases h with rfl | h
          · exact .inr (by simp)
          · exact .inl h
      · exact .inr (by simp [h])
    · intro x hx
      refine h2 x ?_
      by_cases hh : hasE a e.f0 e.f1 = true
      · rw [if_pos hh]; exact hx
      · rw [if_neg hh, putE_mem]; exact .inr hx
theorem joinE_has : ∀ (b a : List S_impl_Entry), (∀ x ∈ b, hasE (joinE a b) x.f0 x.f1 = true)
  | [], _, x, hx => by cases hx
  | e :: r, a, x, hx => by
    rw [joinE]
    rcases List.mem_cons.1 hx with rfl | hx
    · obtain ⟨-, h2⟩ := joinE_mem r (if hasE a x.f0 x.f1 = true then a else putE a x)
      by_cases hh : hasE a x.f0 x.f1 = true
      · rw [if_pos hh] at h2 ⊢
        obtain ⟨y, hy, h3⟩ := hasE_iff.1 hh
        exact hasE_iff.2 ⟨y, h2 y hy, h3⟩
      · rw [if_neg hh] at h2 ⊢
        exact hasE_iff.2 ⟨x, h2 x ((putE_mem _ _ _).2 (.inl rfl)), rfl, rfl⟩
    · exact joinE_has r _ x hx
theorem joinE_again : ∀ (b x : List S_impl_Entry), (∀ e ∈ b, hasE x e.f0 e.f1 = true) → joinE x b = x
  | [], _, _ => rfl
  | e :: r, x, h => by
    rw [joinE, if_pos (h e (by simp))]
    exact joinE_again r x (fun y hy => h y (by simp [hy]))
/-- What two lists together are, and whether they can be. -/
def joinR (a b : List S_impl_Entry) : List S_impl_Entry × Bool := if okEs a = true ∧ okEs b = true ∧ okEs (joinE a b) = true then (joinE a b, true) else ([], false)
theorem keys_len {a x : List S_impl_Entry} (ha : Srt a) (h : ∀ y ∈ a, hasE x y.f0 y.f1 = true) : a.length ≤ x.length := by
  have hnd : (a.map (fun y => (y.f0, y.f1))).Nodup := by
    rw [List.Nodup, List.pairwise_map]
    refine ha.imp (fun {p q} hpq e => ?_)
    simp only [Prod.mk.injEq] at e
    rw [ltE_congr (z := p) e.1.symm e.2.symm, ltE_irrefl] at hpq
    cases hpq
  have := nodupE_len _ (x.map (fun y => (y.f0, y.f1))) hnd (fun k hk => by
    obtain ⟨y, hy, rfl⟩ := List.mem_map.1 hk
    obtain ⟨z, hz, e0, e1⟩ := hasE_iff.1 (h y hy)
    exact List.mem_map.2 ⟨z, hz, by rw [e0, e1]⟩)
  simpa using this
end Go.Proofs.Ytjdhphpjbakddaa.V
/- Both ways to put one more entry in, and to lay two lists together, are the same. -/
namespace Go.Proofs.Ytjdhphpjbakddaa.V
open Go.RowKit Go.Proofs.Ytjdhphpjbakddaa.P Go.Proofs.YtjdhphpjbakddaaW.PrintWords Go.Proofs.YtjdhphpjbakddaaW.PrintMore
theorem half (a b : Nat) (h : a + b ≤ 1000000000000) : wrap64 ((IntKind.u64.wrap (wrap64 ((a : Int) + (b : Int)))) / 2) = (((a + b) / 2 : Nat) : Int) := by
  rw [wrap_id (i := (a : Int) + b) (by omega) (by omega), IntKind.wrap_u64, wrap_id (by omega) (by omega)]
  omega
theorem rde_at {l : List S_impl_Entry} {h : Nat} (hh : h < l.length) : rd_impl_Entry l (h : Int) = l[h] := by simp [rd_impl_Entry, hh]
theorem Entry72_l0 (l : List S_impl_Entry) (e : S_impl_Entry) (hs : Srt l) (hl : l.length ≤ 1000000) : ∀ (d i j k : Nat), j - i ≤ d → d + 10 < k → i ≤ pos l e → pos l e ≤ j → j ≤ l.length →
    impl_Entry_72.l0 k l (l.length : Int) (i : Int) (j : Int) e.f0 e.f1 e.f2 e.f3 = some ((pos l e : Int), hasE l e.f0 e.f1) := by
  intro d
  induction d with
  | zero =>
    intro i j k hd hk h1 h2 h3
    obtain ⟨k, rfl⟩ := succ_of hk
    have hi : i = pos l e := by omega
    have hj : j = pos l e := by omega
    subst hi; subst hj
    rw [impl_Entry_72.l0, if_neg (by omega)]
    by_cases hp : pos l e < l.length
    · obtain ⟨r, hr, _, hr0⟩ := compareEntries_eq l[pos l e] e k (by omega)
      rw [if_pos (by omega), if_pos (by omega), if_pos (by omega), rde_at hp, hr, Option.bind_some]
      congr 2
      rw [Bool.eq_iff_iff, beq_iff_eq, hr0, pos_has hs]
      exact ⟨fun h => ⟨hp, h⟩, fun ⟨_, h⟩ => h⟩
    · rw [if_neg (by omega)]
      congr 2
      symm
      rw [← Bool.not_eq_true, pos_has hs]
      rintro ⟨h, _⟩
      exact hp h
  | succ d ih =>
    intro i j k hd hk h1 h2 h3
    obtain ⟨k, rfl⟩ := succ_of hk
    by_cases hij : i < j
    · have hh : (i + j) / 2 < l.length := by omega
      rw [impl_Entry_72.l0, if_pos (by omega), half i j (by omega), if_pos (by omega), if_pos (by omega), rde_at hh]
      obtain ⟨r, hr, hr1, _⟩ := compareEntries_eq l[(i + j) / 2] e k (by omega)
      rw [hr, Option.bind_some]
      rw [pos_lt hs hh] at hr1
      by_cases hlt : r < 0
      · rw [if_pos hlt, show wrap64 ((((i + j) / 2 : Nat) : Int) + 1) = (((i + j) / 2 + 1 : Nat) : Int) by rw [wrap_id (by omega) (by omega)]; omega]
        exact ih _ _ k (by omega) (by omega) (hr1.1 hlt) h2 h3
      · rw [if_neg hlt]
        have hge : ¬ (i + j) / 2 < pos l e := fun h => hlt (hr1.2 h)
        exact ih _ _ k (by omega) (by omega) h1 (by omega) (by omega)
    · exact ih i j (k + 1) (by omega) (by omega) h1 h2 h3
theorem Entry72_eq (l : List S_impl_Entry) (e : S_impl_Entry) (hs : Srt l) (hl : l.length ≤ 1000000) (k : Nat) (hk : l.length + 10 < k) : impl_Entry_72.f k l e.f0 e.f1 e.f2 e.f3 = some ((pos l e : Int), hasE l e.f0 e.f1) := by
  unfold impl_Entry_72.f
  exact Entry72_l0 l e hs hl l.length 0 l.length k (by omega) hk (Nat.zero_le _) (pos_le l e) (Nat.le_refl _)
theorem Entry73_eq (l : List S_impl_Entry) (e : S_impl_Entry) (hl : l.length ≤ 1000000) : impl_Entry_73.f l (pos l e : Int) [e] = some (putE l e) := by
  unfold impl_Entry_73.f
  have := pos_le l e
  dsimp only
  rw [if_pos ⟨by omega, by omega, by omega⟩, putE_pos]
  rfl
theorem memPut_eq (l : List S_impl_Entry) (e : S_impl_Entry) (hs : Srt l) (hl : l.length ≤ 1000000) (k : Nat) (hk : l.length + 10 < k) : impl_memPut.f k l e.f0 e.f1 e.f2 e.f3 = some (if hasE l e.f0 e.f1 = true then l else putE l e, !hasE l e.f0 e.f1) := by
  unfold impl_memPut.f
  rw [Entry72_eq l e hs hl k hk, Option.bind_some]
  by_cases hh : hasE l e.f0 e.f1 = true
  · rw [if_pos hh, if_pos hh, hh]; rfl
  · rw [if_neg hh, if_neg hh, Option.bind_some, if_pos (by rw [List.length_nil]; omega), List.nil_append]
    show (impl_Entry_73.f l (pos l e : Int) [e]).bind _ = _
    rw [Entry73_eq l e hl, Option.bind_some, (by simpa using hh : hasE l e.f0 e.f1 = false)]
    rfl
theorem joinE_cons (a : List S_impl_Entry) (e : S_impl_Entry) (r : List S_impl_Entry) : joinE a (e :: r) = joinE (if hasE a e.f0 e.f1 = true then a else putE a e) r := by rw [joinE]
theorem step_len (a : List S_impl_Entry) (e : S_impl_Entry) : (if hasE a e.f0 e.f1 = true then a else putE a e).length ≤ a.length + 1 := by
  split
  · omega
  · rw [putE_length]; exact Nat.le_refl _
theorem memJoin_l0 : ∀ (suf pre a : List S_impl_Entry) (k : Nat), a.length + 2 * suf.length + 20 < k → (pre ++ suf).length ≤ 1000000 → a.length + suf.length ≤ 1000000 → Srt a →
    impl_memJoin.l0 k a (pre ++ suf) ((pre ++ suf).length : Int) (pre.length : Int) = some (joinE a suf) := by
  intro suf
  induction suf with
  | nil =>
    intro pre a k hk hb ha hs
    obtain ⟨k, rfl⟩ := succ_of hk
    rw [impl_memJoin.l0, if_neg end_not_lt]; rfl
  | cons x suf ih =>
    intro pre a k hk hb ha hs
    obtain ⟨k, rfl⟩ := succ_of hk
    simp only [List.length_cons] at hk ha
    have hst := step_len a x
    rw [impl_memJoin.l0, if_pos mid_lt, if_pos (nat_le0 _), if_pos mid_lt, rde_mid, memPut_eq a x hs (by omega) k (by omega), Option.bind_some, wrap_snoc (x := x) (by simp at hb; omega), snoc_app,
      ih (pre ++ [x]) _ k (by show (if hasE a x.f0 x.f1 = true then a else putE a x).length + _ + _ < k; omega) (by simpa using hb) (by show (if hasE a x.f0 x.f1 = true then a else putE a x).length + _ ≤ _; omega) (joinE_step_srt hs), joinE_cons]
theorem memJoin_eq (a b : List S_impl_Entry) (k : Nat) (hk : a.length + 2 * b.length + 20 < k) (ha : a.length + b.length ≤ 1000000) (hs : Srt a) : impl_memJoin.f k a b = some (joinE a b) := by
  unfold impl_memJoin.f
  rw [Option.bind_some, if_pos (by rw [List.length_nil]; omega), List.nil_append]
  exact memJoin_l0 b [] a k hk (by simp; omega) ha hs
theorem l4Join_l0 : ∀ (suf pre a : List S_impl_Entry) (k : Nat), a.length + 2 * suf.length + 20 < k → (pre ++ suf).length ≤ 1000000 → a.length + suf.length ≤ 1000000 →
    spec_l4Join.l0 k (pre ++ suf) a (pre.length : Int) = some (joinE a suf) := by
  intro suf
  induction suf with
  | nil =>
    intro pre a k hk hb ha
    obtain ⟨k, rfl⟩ := succ_of hk
    rw [spec_l4Join.l0, if_neg end_not_lt]; rfl
  | cons x suf ih =>
    intro pre a k hk hb ha
    obtain ⟨k, rfl⟩ := succ_of hk
    simp only [List.length_cons] at hk ha
    rw [spec_l4Join.l0, if_pos mid_lt, if_pos (nat_le0 _), rde_mid, l4Has_eq a x k (by omega) (by omega), Option.bind_some, l4Put_eq a x k (by omega) (by omega), Option.bind_some, wrap_snoc (x := x) (by simp at hb; omega), snoc_app, joinE_cons]
    by_cases hh : hasE a x.f0 x.f1 = true
    · rw [if_pos hh, if_pos hh, ih (pre ++ [x]) a k (by omega) (by simpa using hb) (by omega)]
    · rw [if_neg hh, if_neg hh, ih (pre ++ [x]) _ k (by rw [putE_length]; omega) (by simpa using hb) (by rw [putE_length]; omega)]
theorem l4Join_eq (a b : List S_impl_Entry) (k : Nat) (hk : a.length + 2 * b.length + 20 < k) (ha : a.length + b.length ≤ 1000000) : spec_l4Join.f k a b = some (joinE a b) := by
  unfold spec_l4Join.f
  rw [Option.bind_some, if_pos (by rw [List.length_nil]; omega), List.nil_append]
  exact l4Join_l0 b [] a k hk (by simp; omega) ha
theorem Sm_join {a b : List S_impl_Entry} (ha : Sm a) (hb : Sm b) : Sm (joinE a b) := fun x hx => by
  rcases (joinE_mem b a).1 x hx with h | h
  · exact ha x h
  · exact hb x h
theorem joinR_len (a b : List S_impl_Entry) : (joinR a b).1.length ≤ a.length + b.length := by
  unfold joinR
  split
  · exact joinE_len b a
  · simp
theorem impl_MemJoin_eq (a b : List S_impl_Entry) (k : Nat) (hk : a.length + 2 * b.length + 1048700 < k) (ha : a.length + b.length ≤ 1000000000) (hsa : Sm a) (hsb : Sm b) : impl_MemJoin.f k a b = some (joinR a b) := by
  obtain ⟨k, rfl⟩ := succ_of hk
  unfold impl_MemJoin.f joinR
  rw [areEntries_eq a (k + 1) (by omega) (by omega) hsa, areEntries_eq b (k + 1) (by omega) (by omega) hsb, Option.bind_some, Option.bind_some]
  by_cases h0 : okEs a = true
  · rw [if_pos h0]
    by_cases h1 : okEs b = true
    · have := okEs_len h0
      have := okEs_len h1
      have := joinE_len b a
      rw [h1, impl_MemJoin.j0, if_neg (by simp), memJoin_eq a b k (by omega) (by omega) (okEs_srt h0), Option.bind_some, areEntries_eq _ k (by omega) (by omega) (Sm_join hsa hsb), Option.bind_some]
      by_cases h2 : okEs (joinE a b) = true
      · rw [if_pos h2, if_pos ⟨h0, rfl, h2⟩]
      · rw [if_neg h2, if_neg (fun h => h2 h.2.2)]
    · have h1' : okEs b = false := by simpa using h1
      rw [h1', impl_MemJoin.j0, if_pos (by rfl), if_neg (by simp)]
  · rw [if_neg h0, impl_MemJoin.j0, if_pos rfl, if_neg (fun h => h0 h.1)]
theorem spec_MemJoin_eq (a b : List S_impl_Entry) (k : Nat) (hk : a.length + 2 * b.length + 1048700 < k) (ha : a.length + b.length ≤ 1000000000) (hsa : Sm a) (hsb : Sm b) : spec_MemJoin.f k a b = some (joinR a b) := by
  obtain ⟨k, rfl⟩ := succ_of hk
  unfold spec_MemJoin.f joinR
  rw [spec_EntriesOk_eq a (k + 1) (by omega) (by omega) hsa, spec_EntriesOk_eq b (k + 1) (by omega) (by omega) hsb, Option.bind_some, Option.bind_some]
  by_cases h0 : okEs a = true
  · rw [if_pos h0]
    by_cases h1 : okEs b = true
    · have := okEs_len h0
      have := okEs_len h1
      have := joinE_len b a
      rw [h1, spec_MemJoin.j0, if_neg (by simp), l4Join_eq a b k (by omega) (by omega), Option.bind_some, spec_EntriesOk_eq _ k (by omega) (by omega) (Sm_join hsa hsb), Option.bind_some]
      by_cases h2 : okEs (joinE a b) = true
      · rw [if_pos h2, if_pos ⟨h0, rfl, h2⟩]
      · rw [if_neg h2, if_neg (fun h => h2 h.2.2)]
    · have h1' : okEs b = false := by simpa using h1
      rw [h1', spec_MemJoin.j0, if_pos (by rfl), if_neg (by simp)]
  · rw [if_neg h0, spec_MemJoin.j0, if_pos rfl, if_neg (fun h => h0 h.1)]
end Go.Proofs.Ytjdhphpjbakddaa.V
/- The draws for putting in and for laying together. -/
namespace Go.Proofs.Ytjdhphpjbakddaa.V
open Go.RowKit Go.Proofs.Ytjdhphpjbakddaa.P Go.Proofs.YtjdhphpjbakddaaW.PrintWords Go.Proofs.YtjdhphpjbakddaaW.PrintMore
section
variable {s : List Int}
end
theorem DrawMemJoin_eq {l : List Int} (h : U8 l) {k : Nat} (hk : 1000 < k) : ∃ a b : List S_impl_Entry, spec_DrawMemJoin.f k l = some (a, b) ∧ SmE a ∧ SmE b := by
  obtain ⟨s, e0, hs, hl⟩ := open_eq h
  obtain ⟨a, q, e2, hsm, q0, q1⟩ := AnyEntries_eq (q := 0) (k := k) hs hl (by omega) (by omega) (by omega)
  obtain ⟨b, q', e3, hb, hbz, _, _⟩ := l12Entries_eq (q := q) (k := k) hs hl (by omega) (by omega) (by omega)
  unfold spec_DrawMemJoin.f
  simp only [e0, e2, e3, Option.bind_some]
  exact ⟨a, b, rfl, hsm, by omega, hbz⟩
end Go.Proofs.Ytjdhphpjbakddaa.V
/- The plain statement of FnMemJoin: two lists together know what both know. -/
namespace Go.Proofs.Ytjdhphpjbakddaa.Pure
open Go.RowKit Go.Proofs.Ytjdhphpjbakddaa.P Go.Proofs.Ytjdhphpjbakddaa.V Go.Proofs.YtjdhphpjbakddaaW.PrintWords Go.Proofs.YtjdhphpjbakddaaW.PrintMore
theorem same_iff (p q : S_impl_Entry) : ((p.f0.toList == q.f0.toList) && ((p.f1 == q.f1) && ((p.f2 == q.f2) && (p.f3.toList == q.f3.toList)))) = decide (p = q) := by
  rw [Bool.eq_iff_iff]
  simp only [Bool.and_eq_true, beq_iff_eq, decide_eq_true_eq, entry_ext, tl_iff]
theorem l2_eq (a b pre suf : List S_impl_Entry) (x : S_impl_Entry) (_ : (pre ++ x :: suf).length ≤ 1000000) (R : Option Bool) : ∀ (sb pb : List S_impl_Entry) (fd : Bool) (k : Nat), pb ++ sb = b → sb.length < k → b.length ≤ 1000000 → (fd = true ∨ x ∈ sb) →
    (∀ k', k' + sb.length + 1 = k → laws_FnMemJoin.l0 k' a b (pre ++ x :: suf) (wrap64 ((pre.length : Int) + 1)) = R) →
    laws_FnMemJoin.l2 k a b (pre ++ x :: suf) (pre.length : Int) fd (pb.length : Int) = R := by
  intro sb
  induction sb with
  | nil =>
    intro pb fd k he hk hl hf hR
    obtain ⟨k, rfl⟩ := succ_of hk
    subst he
    rw [laws_FnMemJoin.l2, if_neg end_not_lt]
    rcases hf with hf | hf
    · rw [if_pos hf]; exact hR k rfl
    · cases hf
  | cons y sb ih =>
    intro pb fd k he hk hl hf hR
    obtain ⟨k, rfl⟩ := succ_of hk
    have hl2 : pb.length < 1000000 := by rw [← he] at hl; simp at hl; omega
    have hw : wrap64 ((pb.length : Int) + 1) = ((pb ++ [y]).length : Int) := wrap_snoc (by omega)
    have hlt : (pb.length : Int) < (b.length : Int) := by rw [← he]; exact mid_lt
    have hrd : rd_impl_Entry b (pb.length : Int) = y := by rw [← he]; exact rde_mid
    have ih' := fun fd (h : fd = true ∨ x ∈ sb) => ih (pb ++ [y]) fd k (by rw [← he]; simp) (by simpa using hk) hl h (fun k' hk' => hR k' (by rw [List.length_cons]; omega))
    rw [laws_FnMemJoin.l2, if_pos hlt, hw]
    by_cases hfd : fd = true
    · rw [if_pos hfd]
      exact ih' true (.inl rfl)
    · rw [if_neg hfd, if_pos (nat_le0 _), if_pos (nat_le0 _), if_pos mid_lt, hrd, rde_mid, same_iff]
      refine ih' _ ?_
      rcases hf with hf | hf
      · exact absurd hf hfd
      · rcases List.mem_cons.1 hf with rfl | hf
        · exact .inl (by simp)
        · exact .inr hf
theorem l1_eq (a b pre suf : List S_impl_Entry) (x : S_impl_Entry) (hx : (pre ++ x :: suf).length ≤ 1000000) (R : Option Bool) (hb : b.length ≤ 1000000) : ∀ (sb pb : List S_impl_Entry) (fd : Bool) (k : Nat), pb ++ sb = a → sb.length + b.length + 1 < k → a.length ≤ 1000000 → (fd = true ∨ x ∈ sb ∨ x ∈ b) →
    (∀ k', k' + sb.length + b.length + 2 = k → laws_FnMemJoin.l0 k' a b (pre ++ x :: suf) (wrap64 ((pre.length : Int) + 1)) = R) →
    laws_FnMemJoin.l1 k a b (pre ++ x :: suf) (pre.length : Int) fd (pb.length : Int) = R := by
  intro sb
  induction sb with
  | nil =>
    intro pb fd k he hk hl hf hR
    obtain ⟨k, rfl⟩ := succ_of hk
    subst he
    rw [laws_FnMemJoin.l1, if_neg end_not_lt]
    refine l2_eq _ b pre suf x hx R b [] fd k rfl (by simp at hk; omega) hb ?_ (fun k' hk' => hR k' (by simp; omega))
    rcases hf with hf | hf | hf
    · exact .inl hf
    · cases hf
    · exact .inr hf
  | cons y sb ih =>
    intro pb fd k he hk hl hf hR
    obtain ⟨k, rfl⟩ := succ_of hk
    have hl2 : pb.length < 1000000 := by rw [← he] at hl; simp at hl; omega
    have hw : wrap64 ((pb.length : Int) + 1) = ((pb ++ [y]).length : Int) := wrap_snoc (by omega)
    have hlt : (pb.length : Int) < (a.length : Int) := by rw [← he]; exact mid_lt
    have hrd : rd_impl_Entry a (pb.length : Int) = y := by rw [← he]; exact rde_mid
    have ih' := fun fd (h : fd = true ∨ x ∈ sb ∨ x ∈ b) => ih (pb ++ [y]) fd k (by rw [← he]; simp) (by simp at hk; omega) hl h (fun k' hk' => hR k' (by rw [List.length_cons]; omega))
    rw [laws_FnMemJoin.l1, if_pos hlt, hw]
    by_cases hfd : fd = true
    · rw [if_pos hfd]
      exact ih' true (.inl rfl)
    · rw [if_neg hfd, if_pos (nat_le0 _), if_pos (nat_le0 _), if_pos mid_lt, hrd, rde_mid, same_iff]
      refine ih' _ ?_
      rcases hf with hf | hf | hf
      · exact absurd hf hfd
      · rcases List.mem_cons.1 hf with rfl | hf
        · exact .inl (by simp)
        · exact .inr (.inl hf)
      · exact .inr (.inr hf)
theorem l0_eq (a b x : List S_impl_Entry) (ha : a.length ≤ 1000) (hb : b.length ≤ 1000) (hxl : x.length ≤ 2000) (hmem : ∀ y ∈ x, y ∈ a ∨ y ∈ b) (hsx : Sm x) (hsb : Sm b) (hok : okEs x = true) (hxa : a.length ≤ x.length) (hxb : b.length ≤ x.length) (hj : joinR x b = (x, true)) :
    ∀ (suf pre : List S_impl_Entry) (k : Nat), pre ++ suf = x → suf.length * (a.length + b.length + 3) + 1060000 < k → laws_FnMemJoin.l0 k a b x (pre.length : Int) = some true := by
  intro suf
  induction suf with
  | nil =>
    intro pre k he hk
    obtain ⟨k, rfl⟩ := succ_of hk
    rw [List.length_nil, Nat.zero_mul] at hk
    rw [laws_FnMemJoin.l0, if_neg (by rw [← he]; exact end_not_lt), impl_MemJoin_eq x b k (by omega) (by omega) hsx hsb, Option.bind_some, impl_EntriesOk_eq x k (by omega) (by omega) hsx, Option.bind_some, if_pos hok, if_pos (by omega), if_pos (by omega), hj, if_pos rfl,
      wmEntries_refl x k (by omega) (by omega)]
    rfl
  | cons y suf ih =>
    intro pre k he hk
    obtain ⟨k, rfl⟩ := succ_of hk
    have hlt : (pre.length : Int) < (x.length : Int) := by rw [← he]; exact mid_lt
    rw [List.length_cons, Nat.add_mul, Nat.one_mul] at hk
    rw [laws_FnMemJoin.l0, if_pos hlt]
    have hxl2 : (pre ++ y :: suf).length ≤ 1000000 := by rw [he]; omega
    have h1 := l1_eq a b pre suf y hxl2 (some true) (by omega) a [] false k rfl (by omega) (by omega) (.inr (hmem y (by rw [← he]; simp))) (fun k' hk' => by
      rw [he, wrap_snoc (x := y) (by simp at hxl2; omega)]
      exact ih (pre ++ [y]) k' (by rw [← he]; simp) (by omega))
    rw [he] at h1
    exact h1
theorem FnMemJoin : laws_FnMemJoin.Pure := by
  intro l _ _ h0
  obtain ⟨K, hK⟩ : ∃ K, K = 3060000 := ⟨_, rfl⟩
  refine ⟨K + 1, ?_⟩
  unfold laws_FnMemJoin.f
  by_cases hc : (l.length : Int) > 1048576
  · rw [if_pos hc]
  rw [if_neg hc]
  obtain ⟨a, b, e, hsa, hsb⟩ := DrawMemJoin_eq (U8_of h0) (k := K + 1) (by omega)
  have hla := hsa.1
  have hlb := hsb.1
  have hma := SmE_Sm hsa
  have hmb := SmE_Sm hsb
  have hD := joinR_len a b
  simp only [e, Option.bind_some]
  rw [impl_MemJoin_eq a b (K + 1) (by omega) (by omega) hma hmb, Option.bind_some, spec_MemJoin_eq a b (K + 1) (by omega) (by omega) hma hmb, Option.bind_some,
    show ((joinR a b).2 != (joinR a b).2) = false by simp, if_neg (by decide), wmEntries_refl _ (K + 1) (by omega) (by omega), Option.bind_some, if_pos rfl, laws_FnMemJoin.j0]
  by_cases hb : (joinR a b).2 = true
  · rw [if_neg (by rw [hb]; decide)]
    have hcond : okEs a = true ∧ okEs b = true ∧ okEs (joinE a b) = true := by
      unfold joinR at hb
      by_cases hh : okEs a = true ∧ okEs b = true ∧ okEs (joinE a b) = true
      · exact hh
      · rw [if_neg hh] at hb; cases hb
    have hr : joinR a b = (joinE a b, true) := by unfold joinR; rw [if_pos hcond]
    rw [hr] at hD ⊢
    have hagain : joinE (joinE a b) b = joinE a b := joinE_again b _ (joinE_has b a)
    have hj : joinR (joinE a b) b = (joinE a b, true) := by
      unfold joinR
      rw [if_pos ⟨hcond.2.2, hcond.2.1, by rw [hagain]; exact hcond.2.2⟩, hagain]
    have h2 : (joinE a b).length ≤ 482 := by dsimp only at hD; omega
    refine l0_eq a b (joinE a b) (by omega) (by omega) (by omega) (joinE_mem b a).1 (Sm_join hma hmb) hmb hcond.2.2 (keys_len (okEs_srt hcond.1) (fun y hy => hasE_iff.2 ⟨y, (joinE_mem b a).2 y hy, rfl, rfl⟩)) (keys_len (okEs_srt hcond.2.1) (joinE_has b a)) hj (joinE a b) [] K rfl ?_
    have h3 : (joinE a b).length * (a.length + b.length + 3) ≤ 482 * 485 := Nat.mul_le_mul h2 (by omega)
    omega
  · have hb' : (joinR a b).2 = false := by simpa using hb
    rw [if_pos (by rw [hb']; rfl), if_pos (by simp), wmEntries_refl _ K (by omega) (by omega)]; rfl
end Go.Proofs.Ytjdhphpjbakddaa.Pure
