/- The plain statement of the law FnExactMemGet, proved. -/
import Derived.Test.YtjdhphpjbakddaaWMore
import Derived.Test.YtjdhphpjbakddaaZFnExactMemGet0
import Derived.Test.YtjdhphpjbakddaaZFnExactMemGet2
import Derived.Test.YtjdhphpjbakddaaZFnExactMemGet1
import Derived.Lib.IndexAny
/- Plain lemmas on lists, numbers and strings, for the laws' plain statements. -/
namespace Go.Proofs.Ytjdhphpjbakddaa.V
open Go.RowKit Go.Proofs.YtjdhphpjbakddaaW.PrintWords Go.Proofs.YtjdhphpjbakddaaW.PrintMore

theorem succ_of {d k : Nat} (h : d < k) : ∃ m, k = m + 1 := ⟨k - 1, by omega⟩
theorem wrap_id {i : Int} (h : -9223372036854775808 ≤ i) (h' : i ≤ 9223372036854775807) : wrap64 i = i := by unfold wrap64; omega
theorem tl_iff (a b : ByteArray) : a.toList = b.toList ↔ a = b := by
  rw [ByteArray.toList_eq, ByteArray.toList_eq]
  constructor
  · intro h
    cases a; cases b
    simp at h
    simp [h]
  · rintro rfl; rfl
section
variable {α : Type} {pre suf : List α} {x y : α}
theorem mid_lt : ((pre.length : Int) < ((pre ++ x :: suf).length : Int)) := by simp; omega
theorem end_not_lt : ¬ ((pre.length : Int) < ((pre ++ ([] : List α)).length : Int)) := by simp
theorem rdOf_mid (d : α) : rdOf d (pre ++ x :: suf) (pre.length : Int) = x := by simp [rdOf]
theorem getD_mid (d : α) : (pre ++ x :: suf).getD ((pre.length : Int)).toNat d = x := by simp
theorem set_mid : (pre ++ x :: suf).set ((pre.length : Int)).toNat y = pre ++ y :: suf := by simp
theorem wrap_snoc (h : pre.length < 9223372036854775807) : wrap64 ((pre.length : Int) + 1) = ((pre ++ [x]).length : Int) := by
  rw [wrap_id (by omega) (by omega)]; simp
theorem snoc_app : pre ++ x :: suf = (pre ++ [x]) ++ suf := by simp
end
theorem rd_mid {pre suf : List Int} {x : Int} : rd (pre ++ x :: suf) (pre.length : Int) = x := by simp [rd]
theorem nat_le0 (n : Nat) : (0 : Int) ≤ (n : Int) := Int.natCast_nonneg n
end Go.Proofs.Ytjdhphpjbakddaa.V

/- What holds of all bytes of a string, counted from a place on; the order of strings. -/
namespace Go.Proofs.Ytjdhphpjbakddaa.V
open Go.RowKit Go.Proofs.Ytjdhphpjbakddaa.P Go.Proofs.YtjdhphpjbakddaaW.PrintWords Go.Proofs.YtjdhphpjbakddaaW.PrintMore

/-- All of d bytes from i on. -/
def bAll (P : Int → Bool) (s : ByteArray) : Nat → Nat → Bool
  | 0, _ => true
  | d + 1, i => P (bt s i) && bAll P s d (i + 1)
theorem bAll_iff (P : Int → Bool) (s : ByteArray) : ∀ d i, bAll P s d i = true ↔ ∀ j, i ≤ j → j < i + d → P (bt s (j : Nat)) = true
  | 0, i => by simp [bAll]; intro j h1 h2; omega
  | d + 1, i => by
    simp only [bAll, Bool.and_eq_true, bAll_iff P s d (i + 1)]
    constructor
    · rintro ⟨h1, h2⟩ j h3 h4
      rcases Nat.eq_or_lt_of_le h3 with rfl | h5
      · exact h1
      · exact h2 j (by omega) (by omega)
    · intro h
      exact ⟨h i (Nat.le_refl _) (by omega), fun j h1 h2 => h j (by omega) (by omega)⟩
theorem bt_nat (s : ByteArray) (j : Nat) (h : j < s.size) : bt s (j : Nat) = ((s.data.toList[j]'(by simpa using h)).toNat : Int) := by
  unfold bt
  rw [dif_pos (by simpa using h)]
  rfl
theorem bl_irrefl : ∀ a : List UInt8, Op.bytesLess a a = false
  | [] => rfl
  | x :: a => by simp [Op.bytesLess, bl_irrefl a]
theorem bl_asymm {a b : List UInt8} (h : Op.bytesLess a b = true) : Op.bytesLess b a = false := by
  rw [← Opens.bytesLess_not, h]; rfl
theorem bl_trans : ∀ {a b c : List UInt8}, Op.bytesLess a b = true → Op.bytesLess b c = true → Op.bytesLess a c = true
  | [], _, [], _, h => by cases ‹List UInt8› <;> simp [Op.bytesLess] at h
  | [], _, _ :: _, _, _ => rfl
  | _ :: _, [], _, h, _ => by simp [Op.bytesLess] at h
  | _ :: _, _ :: _, [], _, h => by simp [Op.bytesLess] at h
  | x :: a, y :: b, z :: c, h1, h2 => by
    simp only [Op.bytesLess, Bool.or_eq_true, Bool.and_eq_true, decide_eq_true_eq, beq_iff_eq] at h1 h2 ⊢
    rcases h1 with h1 | ⟨rfl, h1⟩
    · rcases h2 with h2 | ⟨rfl, h2⟩
      · left; rw [UInt8.lt_iff_toNat_lt] at *; omega
      · exact .inl h1
    · rcases h2 with h2 | ⟨rfl, h2⟩
      · exact .inl h2
      · exact .inr ⟨rfl, bl_trans h1 h2⟩
theorem bl_total {a b : List UInt8} (h : Op.bytesLess a b = false) (h' : a ≠ b) : Op.bytesLess b a = true := by
  rw [← Opens.bytesLess_not, h]; simp [h']
end Go.Proofs.Ytjdhphpjbakddaa.V

/- The text of a mark. -/
namespace Go.Proofs.Ytjdhphpjbakddaa.V
open Go.RowKit Go.Proofs.Ytjdhphpjbakddaa.P Go.Proofs.YtjdhphpjbakddaaW.PrintWords Go.Proofs.YtjdhphpjbakddaaW.PrintMore

/-! ### marks -/
theorem strOfNums_one (n : Int) : (strOfNums [n]).size = 1 := by simp [strOfNums, ByteArray.size]
theorem markText_l0 : ∀ (d k : Nat) (n : Int) (s : ByteArray), 0 ≤ n → n ≤ 9223372036854775807 → n < 10 ^ d → d < k → s.size + d + 1 ≤ 9223372036854775807 →
    ∃ r : ByteArray, laws_markText.l0 k n s = some r := by
  intro d
  induction d with
  | zero =>
    intro k n s h0 h9 h1 hk hs
    obtain ⟨k, rfl⟩ := succ_of hk
    exact ⟨(⟨#[109]⟩ : ByteArray) ++ s, by rw [laws_markText.l0, if_neg (by simp at h1; omega), if_pos (by omega)]⟩
  | succ d ih =>
    intro k n s h0 h9 h1 hk hs
    obtain ⟨k, rfl⟩ := succ_of hk
    by_cases hn : n > 0
    · have hd : Int.tdiv n 10 = n / 10 := Int.tdiv_eq_ediv_of_nonneg h0
      have h2 : wrap64 (Int.tdiv n 10) = n / 10 := by rw [hd, wrap_id (by omega) (by omega)]
      have hp : (10 : Int) ^ (d + 1) = 10 ^ d * 10 := Int.pow_succ 10 d
      rw [hp] at h1
      obtain ⟨r, hr⟩ := ih k (n / 10) (strOfNums [(wrap64 (48 + (Int.tmod n 10))) % 256] ++ s) (by omega) (by omega) (by omega) (by omega) (by simp only [ByteArray.size_append, strOfNums_one]; omega)
      exact ⟨r, by rw [laws_markText.l0, if_pos hn, Option.bind_some, if_pos (by rw [strOfNums_one]; omega), h2]; exact hr⟩
    · exact ⟨(⟨#[109]⟩ : ByteArray) ++ s, by rw [laws_markText.l0, if_neg hn, if_pos (by omega)]⟩
/-- The text of a mark. -/
def mt (n : Int) : ByteArray := (laws_markText.f 25 n).getD ⟨#[]⟩
theorem markText_eq {n : Int} (h9 : n ≤ 9223372036854775807) {k : Nat} (hk : 25 ≤ k) : laws_markText.f k n = some (mt n) := by
  have h : ∃ r, laws_markText.f 25 n = some r := by
    unfold laws_markText.f
    by_cases hn : n ≤ 0
    · exact ⟨_, by rw [if_pos hn]⟩
    · rw [if_neg hn]
      exact markText_l0 20 25 n _ (by omega) h9 (by omega) (by omega) (by decide)
  obtain ⟨r, hr⟩ := h
  have : mt n = r := by unfold mt; rw [hr]; rfl
  rw [this]
  exact at_rounds (g := fun k => laws_markText.f k n) (fun k => laws_markText.mono n k) hk hr
end Go.Proofs.Ytjdhphpjbakddaa.V

/- What the laws' own helpers over entries tell: equality, marks, sizes, copies. -/
namespace Go.Proofs.Ytjdhphpjbakddaa.V
open Go.RowKit Go.Proofs.Ytjdhphpjbakddaa.P Go.Proofs.YtjdhphpjbakddaaW.PrintWords Go.Proofs.YtjdhphpjbakddaaW.PrintMore

theorem rde_mid {pre suf : List S_impl_Entry} {x : S_impl_Entry} : rd_impl_Entry (pre ++ x :: suf) (pre.length : Int) = x := by simp [rd_impl_Entry]
theorem rdle_mid {pre suf : List S_laws_Entry} {x : S_laws_Entry} : rd_laws_Entry (pre ++ x :: suf) (pre.length : Int) = x := by simp [rd_laws_Entry]
theorem entry_ext {x y : S_impl_Entry} : x = y ↔ x.f0 = y.f0 ∧ x.f1 = y.f1 ∧ x.f2 = y.f2 ∧ x.f3 = y.f3 := by cases x; cases y; simp
instance : DecidableEq S_impl_Entry := fun _ _ => decidable_of_iff _ entry_ext.symm

/-! ### equality -/
theorem eqEntry_eq (x y : S_impl_Entry) : laws_eqEntry.f x.f0 x.f1 x.f2 x.f3 y.f0 y.f1 y.f2 y.f3 = some (decide (x = y)) := by
  unfold laws_eqEntry.f
  simp only [tl_iff]
  by_cases h0 : x.f0 = y.f0
  · rw [if_pos h0]
    by_cases h1 : x.f1 = y.f1
    · rw [if_pos h1]
      by_cases h2 : x.f2 = y.f2
      · rw [if_neg (by simp [h2])]
        by_cases h3 : x.f3 = y.f3
        · rw [if_pos h3]; simp [entry_ext, h0, h1, h2, h3]
        · rw [if_neg h3]; simp [entry_ext, h3]
      · rw [if_pos (by simpa using h2)]; simp [entry_ext, h2]
    · rw [if_neg h1]; simp [entry_ext, h1]
  · rw [if_neg h0]; simp [entry_ext, h0]
theorem eqEntryS_l0 : ∀ (sa sb pa pb : List S_impl_Entry) (k : Nat), pa.length = pb.length → sa.length = sb.length → sa.length < k → (pa ++ sa).length < 9223372036854775807 →
    laws_eqEntryS.l0 k (pa ++ sa) (pb ++ sb) (pa.length : Int) = some (decide (sa = sb)) := by
  intro sa
  induction sa with
  | nil =>
    intro sb pa pb k hp hs hk hb
    obtain ⟨k, rfl⟩ := succ_of hk
    obtain rfl : sb = [] := List.eq_nil_of_length_eq_zero hs.symm
    rw [laws_eqEntryS.l0, if_neg end_not_lt]; rfl
  | cons x sa ih =>
    intro sb pa pb k hp hs hk hb
    obtain ⟨k, rfl⟩ := succ_of hk
    cases sb with
    | nil => simp at hs
    | cons y sb =>
      rw [laws_eqEntryS.l0, if_pos mid_lt, if_pos (nat_le0 _), if_pos (by rw [hp]; exact mid_lt), rde_mid, hp, rde_mid, ← hp, eqEntry_eq, Option.bind_some]
      by_cases hxy : x = y
      · subst hxy
        rw [if_pos (by simp), wrap_snoc (x := x) (by simp at hb; omega), snoc_app, snoc_app (pre := pb), ih sb (pa ++ [x]) (pb ++ [x]) k (by simp [hp]) (by simpa using hs) (by simpa using hk) (by simpa using hb)]
        simp
      · rw [if_neg (by simpa using hxy)]
        simp [hxy]
theorem eqEntryS_eq (a b : List S_impl_Entry) (k : Nat) (hk : a.length < k) (hb : a.length < 9223372036854775807) : laws_eqEntryS.f k a b = some (decide (a = b)) := by
  unfold laws_eqEntryS.f
  by_cases h : a.length = b.length
  · rw [if_pos (by rw [h])]
    exact eqEntryS_l0 a b [] [] k rfl h hk hb
  · rw [if_neg (by omega)]
    have : a ≠ b := fun e => h (by rw [e])
    simp [this]

/-! ### sizes -/
def szE : List S_laws_Entry → Int → Int
  | [], left => left
  | s :: r, left => if left - s.f0.size < 0 then -1 else if left - s.f0.size - s.f3.size < 0 then -1 else szE r (left - s.f0.size - s.f3.size)
theorem szE_pos : ∀ (l : List S_laws_Entry) (left : Int), 0 ≤ szE l left → szE l left ≤ left
  | [], left, _ => by simp [szE]
  | s :: r, left, h => by
    rw [szE] at h ⊢
    by_cases hl : left - s.f0.size < 0
    · rw [if_pos hl] at h; omega
    · rw [if_neg hl] at h ⊢
      by_cases hl2 : left - s.f0.size - s.f3.size < 0
      · rw [if_pos hl2] at h; omega
      · rw [if_neg hl2] at h ⊢
        have := szE_pos r _ h
        omega
theorem szEntry_eq (x : S_laws_Entry) (left : Int) (h0 : 0 ≤ left) (h1 : left ≤ 4611686018427387904) (hx : Good_laws_Entry x) :
    laws_szEntry.f x.f0 x.f1 x.f2 x.f3 left = some (if left - x.f0.size < 0 then -1 else if left - x.f0.size - x.f3.size < 0 then -1 else left - x.f0.size - x.f3.size) := by
  unfold laws_szEntry.f
  have h2 := hx.1
  have h3 := hx.2.2.2
  rw [wrap_id (i := left - x.f0.size) (by omega) (by omega)]
  by_cases hl : left - x.f0.size < 0
  · rw [if_pos hl, if_pos hl]
  · rw [if_neg hl, if_neg hl, wrap_id (i := left - x.f0.size - x.f3.size) (by omega) (by omega)]
    by_cases hl2 : left - x.f0.size - x.f3.size < 0
    · rw [if_pos hl2, if_pos hl2]
    · rw [if_neg hl2, if_neg hl2]
theorem szEntryS_l0 : ∀ (suf pre : List S_laws_Entry) (left : Int) (k : Nat), suf.length < k → 0 ≤ left → left ≤ 4611686018427387904 → (∀ s ∈ suf, Good_laws_Entry s) → (pre ++ suf).length < 9223372036854775807 →
    laws_szEntryS.l0 k (pre ++ suf) left (pre.length : Int) = some (szE suf left) := by
  intro suf
  induction suf with
  | nil =>
    intro pre left k hk h0 h1 hs hb
    obtain ⟨k, rfl⟩ := succ_of hk
    rw [laws_szEntryS.l0, if_neg end_not_lt]; rfl
  | cons x suf ih =>
    intro pre left k hk h0 h1 hs hb
    obtain ⟨k, rfl⟩ := succ_of hk
    rw [laws_szEntryS.l0, if_pos mid_lt, if_pos (nat_le0 _), rdle_mid, szE, szEntry_eq x left h0 h1 (hs x (by simp)), Option.bind_some]
    by_cases hl : left - x.f0.size < 0
    · rw [if_pos hl, if_pos hl, if_pos (by omega)]
    · rw [if_neg hl, if_neg hl]
      by_cases hl2 : left - x.f0.size - x.f3.size < 0
      · rw [if_pos hl2, if_pos hl2, if_pos (by omega)]
      · rw [if_neg hl2, if_neg hl2, if_neg hl2, wrap_snoc (x := x) (by simp at hb; omega), snoc_app, ih (pre ++ [x]) _ k (by simpa using hk) (by omega) (by omega) (fun s h => hs s (by simp [h])) (by simpa using hb)]
/-- The guard of the laws over entries: what passes is small. -/
def ce (x : S_laws_Entry) : S_impl_Entry := ⟨x.f0, x.f1, x.f2, x.f3⟩
def Sm (l : List S_impl_Entry) : Prop := ∀ x ∈ l, x.f0.size ≤ 1048576 ∧ x.f3.size ≤ 1048576
theorem szE_small : ∀ (l : List S_laws_Entry) (left : Int), left ≤ 1048576 → 0 ≤ szE l left → Sm (l.map ce)
  | [], _, _, _, x, hx => by simp at hx
  | s :: r, left, hb, h, x, hx => by
    rw [szE] at h
    by_cases hl : left - s.f0.size < 0
    · rw [if_pos hl] at h; omega
    · rw [if_neg hl] at h
      by_cases hl2 : left - s.f0.size - s.f3.size < 0
      · rw [if_pos hl2] at h; omega
      · rw [if_neg hl2] at h
        rcases List.mem_cons.1 (by simpa using hx : x ∈ ce s :: r.map ce) with rfl | hx
        · simp only [ce]; omega
        · exact szE_small r _ (by omega) h x hx
theorem szEntryS_eq (l : List S_laws_Entry) (k : Nat) (hk : l.length < k) (g : l.length ≤ 9223372036854775807 ∧ ∀ y ∈ l, Good_laws_Entry y) :
    ∃ r : Int, laws_szEntryS.f k l 1048576 = some r ∧ (0 ≤ r → l.length ≤ 1048576 ∧ Sm (l.map ce)) := by
  unfold laws_szEntryS.f
  rw [wrap_id (by omega) (by omega)]
  by_cases hl : (1048576 : Int) - l.length < 0
  · rw [if_pos hl]; exact ⟨-1, rfl, fun h => by omega⟩
  · rw [if_neg hl]
    have h := szEntryS_l0 l [] (1048576 - l.length) k hk (by omega) (by omega) g.2 (by simp; omega)
    exact ⟨_, by simpa using h, fun h2 => ⟨by omega, szE_small l _ (by omega) h2⟩⟩

/-! ### copies -/
theorem toEntryS_l0 : ∀ (suf pre : List S_laws_Entry) (zs : List S_impl_Entry) (k : Nat), zs.length = suf.length → suf.length < k → (pre ++ suf).length < 9223372036854775807 →
    laws_toEntryS.l0 k (pre ++ suf) (pre.map ce ++ zs) (pre.length : Int) = some ((pre ++ suf).map ce) := by
  intro suf
  induction suf with
  | nil =>
    intro pre zs k hz hk hb
    obtain ⟨k, rfl⟩ := succ_of hk
    obtain rfl : zs = [] := List.eq_nil_of_length_eq_zero hz
    rw [laws_toEntryS.l0, if_neg end_not_lt]; simp
  | cons x suf ih =>
    intro pre zs k hz hk hb
    obtain ⟨k, rfl⟩ := succ_of hk
    cases zs with
    | nil => simp at hz
    | cons z zs =>
      have hl : (pre.length : Int) = ((pre.map ce).length : Int) := by simp
      rw [laws_toEntryS.l0, if_pos mid_lt, if_pos (nat_le0 _), rdle_mid]
      unfold laws_toEntry.f
      rw [Option.bind_some, if_pos (by rw [hl]; exact mid_lt)]
      rw [show (pre.map ce ++ z :: zs).set ((pre.length : Int)).toNat (⟨x.f0, x.f1, x.f2, x.f3⟩ : S_impl_Entry) = (pre ++ [x]).map ce ++ zs by rw [hl, set_mid]; simp [ce], wrap_snoc (x := x) (by simp at hb; omega), snoc_app, ih (pre ++ [x]) zs k (by simpa using hz) (by simpa using hk) (by simpa using hb)]
theorem toEntryS_eq (l : List S_laws_Entry) (k : Nat) (hk : l.length < k) (hb : l.length ≤ 1048576) : laws_toEntryS.f k l = some (l.map ce) := by
  unfold laws_toEntryS.f
  rw [if_pos (nat_le0 _), if_pos (by omega)]
  have h := toEntryS_l0 l [] (List.replicate ((l.length : Int)).toNat z_impl_Entry) k (by simp) hk (by simp; omega)
  simpa using h
end Go.Proofs.Ytjdhphpjbakddaa.V

/- When entries are ok: by the reference, and by the program. -/
namespace Go.Proofs.Ytjdhphpjbakddaa.V
open Go.RowKit Go.Proofs.Ytjdhphpjbakddaa.P Go.Proofs.YtjdhphpjbakddaaW.PrintWords Go.Proofs.YtjdhphpjbakddaaW.PrintMore

theorem l1In_eq (a b c : Int) : spec_l1In.f a b c = some (decide (b ≤ a ∧ a ≤ c)) := by
  unfold spec_l1In.f
  by_cases h : a ≥ b
  · rw [if_pos h]; simp [show b ≤ a from h]
  · rw [if_neg h]; simp [show ¬ b ≤ a from h]
def KB (b : Int) : Bool := decide (46 ≤ b) && decide (b ≤ 126) && decide (b ≠ 58)
def VB (b : Int) : Bool := decide (32 ≤ b) && decide (b ≤ 126)
def keyOk (s : ByteArray) : Bool := bAll KB s s.size 0 && decide (1 ≤ s.size ∧ s.size ≤ 24)
def valOk (s : ByteArray) : Bool := bAll VB s s.size 0 && decide (s.size ≤ 80)
theorem l4Key_l0 : ∀ (d i : Nat) (s : ByteArray) (k : Nat), i + d = s.size → d < k → s.size ≤ 4611686018427387904 → spec_l4Key.l0 k s (i : Int) = some (bAll KB s d i && decide (1 ≤ s.size ∧ s.size ≤ 24)) := by
  intro d
  induction d with
  | zero =>
    intro i s k hi hk hb
    obtain ⟨k, rfl⟩ := succ_of hk
    rw [spec_l4Key.l0, if_neg (by omega), l1In_eq, Option.bind_some]
    simp only [bAll, Bool.true_and]
    congr 1
    exact decide_eq_decide.2 (by omega)
  | succ d ih =>
    intro i s k hi hk hb
    obtain ⟨k, rfl⟩ := succ_of hk
    rw [spec_l4Key.l0, if_pos (by omega), if_pos (nat_le0 _), bAll]
    have hr : -9223372036854775808 ≤ (i : Int) + 1 := by omega
    by_cases h1 : bt s i < 46
    · rw [if_pos h1]; simp [KB, show ¬ 46 ≤ bt s i by omega]
    · rw [if_neg h1]
      by_cases h2 : bt s i > 126
      · rw [if_pos h2]; simp [KB, show ¬ bt s i ≤ 126 by omega]
      · rw [if_neg h2]
        by_cases h3 : bt s i = 58
        · rw [if_pos h3]; simp [KB, h3]
        · rw [if_neg h3, wrap_id hr (by omega), show (i : Int) + 1 = ((i + 1 : Nat) : Int) by omega, ih (i + 1) s k (by omega) (by omega) hb]
          simp [KB, show 46 ≤ bt s i by omega, show bt s i ≤ 126 by omega, h3]
theorem l4Key_eq (s : ByteArray) (k : Nat) (hk : s.size < k) (hb : s.size ≤ 4611686018427387904) : spec_l4Key.f k s = some (keyOk s) := l4Key_l0 s.size 0 s k (by omega) hk hb
theorem l4Value_l0 : ∀ (d i : Nat) (s : ByteArray) (k : Nat), i + d = s.size → d < k → s.size ≤ 4611686018427387904 → spec_l4Value.l0 k s (i : Int) = some (bAll VB s d i && decide (s.size ≤ 80)) := by
  intro d
  induction d with
  | zero =>
    intro i s k hi hk hb
    obtain ⟨k, rfl⟩ := succ_of hk
    rw [spec_l4Value.l0, if_neg (by omega)]
    simp only [bAll, Bool.true_and]
    congr 1
    exact decide_eq_decide.2 (by omega)
  | succ d ih =>
    intro i s k hi hk hb
    obtain ⟨k, rfl⟩ := succ_of hk
    rw [spec_l4Value.l0, if_pos (by omega), if_pos (nat_le0 _), bAll]
    have hr : -9223372036854775808 ≤ (i : Int) + 1 := by omega
    by_cases h1 : bt s i < 32
    · rw [if_pos h1]; simp [VB, show ¬ 32 ≤ bt s i by omega]
    · rw [if_neg h1]
      by_cases h2 : bt s i > 126
      · rw [if_pos h2]; simp [VB, show ¬ bt s i ≤ 126 by omega]
      · rw [if_neg h2, wrap_id hr (by omega), show (i : Int) + 1 = ((i + 1 : Nat) : Int) by omega, ih (i + 1) s k (by omega) (by omega) hb]
        simp [VB, show 32 ≤ bt s i by omega, show bt s i ≤ 126 by omega]
theorem l4Value_eq (s : ByteArray) (k : Nat) (hk : s.size < k) (hb : s.size ≤ 4611686018427387904) : spec_l4Value.f k s = some (valOk s) := l4Value_l0 s.size 0 s k (by omega) hk hb
/-- An entry is ok. -/
def okE (x : S_impl_Entry) : Bool := keyOk x.f0 && decide (1 ≤ x.f1 ∧ x.f1 ≤ 99999999) && valOk x.f3 && (!x.f2 || x.f3.toList == [])
theorem l4Ok_eq (x : S_impl_Entry) (k : Nat) (h0 : x.f0.size < k) (h3 : x.f3.size < k) (hb : x.f0.size ≤ 4611686018427387904) (hb3 : x.f3.size ≤ 4611686018427387904) : spec_l4Ok.f k x.f0 x.f1 x.f2 x.f3 = some (okE x) := by
  unfold spec_l4Ok.f okE
  rw [l4Key_eq _ k h0 hb, Option.bind_some, l1In_eq, Option.bind_some, l4Value_eq _ k h3 hb3, Option.bind_some]
  cases keyOk x.f0
  · rfl
  · by_cases h1 : 1 ≤ x.f1 ∧ x.f1 ≤ 99999999
    · rw [if_pos rfl, if_pos (by simpa using h1)]
      cases valOk x.f3
      · simp [h1]
      · cases x.f2 <;> simp [h1]
    · rw [if_pos rfl, if_neg (by simpa using h1)]; simp [h1]
/-- One entry ahead of another. -/
def ltE (x y : S_impl_Entry) : Bool := Op.bytesLess x.f0.toList y.f0.toList || (x.f0.toList == y.f0.toList && decide (x.f1 > y.f1))
theorem l4Less_eq (x y : S_impl_Entry) : spec_l4Less.f x.f0 x.f1 x.f2 x.f3 y.f0 y.f1 y.f2 y.f3 = some (ltE x y) := by
  unfold spec_l4Less.f ltE
  by_cases h : Op.bytesLess x.f0.toList y.f0.toList = true
  · rw [if_pos h]; simp [h]
  · rw [if_neg h]
    by_cases h2 : x.f0.toList = y.f0.toList
    · rw [if_pos h2]; simp [h2, bl_irrefl]
    · rw [if_neg h2]; simp [h2, h]
/-- All ok, each behind the one ahead of it. -/
def okFrom : Option S_impl_Entry → List S_impl_Entry → Bool
  | _, [] => true
  | none, x :: r => okE x && okFrom (some x) r
  | some y, x :: r => okE x && ltE y x && okFrom (some x) r
def okEs (l : List S_impl_Entry) : Bool := okFrom none l && decide (l.length ≤ 240)
theorem rde_last {pre suf : List S_impl_Entry} {y : S_impl_Entry} : rd_impl_Entry (pre ++ [y] ++ suf) (((pre ++ [y]).length : Int) - 1) = y := by simp [rd_impl_Entry]
theorem l4Sorted_l0 : ∀ (suf pre : List S_impl_Entry) (k : Nat), suf.length + 1048577 < k → (pre ++ suf).length ≤ 4611686018427387904 → Sm suf →
    spec_l4Sorted.l0 k (pre ++ suf) (pre.length : Int) = some (okFrom pre.getLast? suf) := by
  intro suf
  induction suf with
  | nil =>
    intro pre k hk hb hs
    obtain ⟨k, rfl⟩ := succ_of (show 0 < k by omega)
    rw [spec_l4Sorted.l0, if_neg end_not_lt]
    cases pre.getLast? <;> rfl
  | cons x suf ih =>
    intro pre k hk hb hs
    obtain ⟨k, rfl⟩ := succ_of (show 0 < k by omega)
    simp only [List.length_cons] at hk
    have hx := hs x (by simp)
    have hl : pre.length ≤ 4611686018427387904 := by simp at hb; omega
    have ih' := ih (pre ++ [x]) k (by omega) (by simpa using hb) (fun y h => hs y (by simp [h]))
    rw [List.getLast?_concat] at ih'
    rw [spec_l4Sorted.l0, if_pos mid_lt, if_pos (nat_le0 _), rde_mid, l4Ok_eq x k (by omega) (by omega) (by omega) (by omega), Option.bind_some]
    rcases List.eq_nil_or_concat pre with rfl | ⟨pre', y, rfl⟩
    · simp only [List.getLast?_nil, okFrom]
      cases okE x
      · rfl
      · rw [if_pos rfl, if_neg (by simp), wrap_snoc (x := x) (by omega), snoc_app (suf := suf), ih']; rfl
    · simp only [List.concat_eq_append] at *
      have e : (((pre' ++ [y]).length : Int)) - 1 = (pre'.length : Int) := by simp
      rw [List.getLast?_concat, okFrom]
      cases okE x
      · rfl
      · rw [if_pos rfl, if_pos (by simp), wrap_id (i := ((pre' ++ [y]).length : Int) - 1) (by omega) (by omega), if_pos (by rw [e]; exact nat_le0 _), if_pos (by rw [e]; simp; omega), rde_last, l4Less_eq, Option.bind_some]
        cases ltE y x
        · rfl
        · rw [if_pos rfl, wrap_snoc (x := x) (by omega), snoc_app (suf := suf), ih']; rfl
theorem spec_EntriesOk_eq (l : List S_impl_Entry) (k : Nat) (hk : l.length + 1048577 < k) (hb : l.length ≤ 4611686018427387904) (hs : Sm l) : spec_EntriesOk.f k l = some (okEs l) := by
  unfold spec_EntriesOk.f spec_l4Sorted.f
  have h := l4Sorted_l0 l [] k hk (by simpa using hb) hs
  simp only [List.nil_append, List.length_nil, Int.natCast_zero, List.getLast?_nil] at h
  rw [h, Option.bind_some]
  unfold okEs
  cases okFrom none l
  · rfl
  · rw [if_pos rfl]
    simp only [Bool.true_and]
    congr 1
    exact decide_eq_decide.2 (by omega)

/-! ### by the program -/
theorem isBetween_l0 : ∀ (d i : Nat) (s : ByteArray) (lo hi : Int) (k : Nat), i + d = s.size → d < k → s.size ≤ 4611686018427387904 → impl_isBetween.l0 k s lo hi (s.size : Int) (i : Int) = some (bAll (fun b => decide (lo ≤ b) && decide (b ≤ hi)) s d i) := by
  intro d
  induction d with
  | zero =>
    intro i s lo hi k hi' hk hb
    obtain ⟨k, rfl⟩ := succ_of hk
    rw [impl_isBetween.l0, if_neg (by omega)]; rfl
  | succ d ih =>
    intro i s lo hi k hi' hk hb
    obtain ⟨k, rfl⟩ := succ_of hk
    rw [impl_isBetween.l0, if_pos (by omega), if_pos (nat_le0 _), if_pos (by omega), bAll]
    by_cases h1 : bt s i < lo
    · rw [if_pos h1]; simp [show ¬ lo ≤ bt s i by omega]
    · rw [if_neg h1]
      by_cases h2 : bt s i > hi
      · rw [if_pos h2]; simp [show ¬ bt s i ≤ hi by omega]
      · rw [if_neg h2, wrap_id (by omega) (by omega), show (i : Int) + 1 = ((i + 1 : Nat) : Int) by omega, ih (i + 1) s lo hi k (by omega) (by omega) hb]
        simp [show lo ≤ bt s i by omega, show bt s i ≤ hi by omega]
theorem isBetween_eq (s : ByteArray) (lo hi : Int) (k : Nat) (hk : s.size < k) (hb : s.size ≤ 4611686018427387904) : impl_isBetween.f k s lo hi = some (bAll (fun b => decide (lo ≤ b) && decide (b ≤ hi)) s s.size 0) := isBetween_l0 s.size 0 s lo hi k (by omega) hk hb
theorem Contains_eq (s : ByteArray) : strings_Contains.f s ⟨#[58]⟩ = some (!bAll (fun b => decide (b ≠ 58)) s s.size 0) := by
  have e : strings_Contains.f s ⟨#[58]⟩ = some (decide (0 ≤ Lib.indexByte s.data.toList 58)) := rfl
  rw [e]
  congr 1
  rw [← Lib.contains_iff_indexByte, Bool.eq_iff_iff, Bool.not_eq_true', ← Bool.not_eq_true, bAll_iff, List.contains_iff_mem, List.mem_iff_getElem]
  constructor
  · rintro ⟨j, h1, h2⟩ h
    have h3 : j < s.size := by simpa using h1
    have h4 := h j (by omega) (by omega)
    rw [bt_nat s j h3, h2] at h4
    exact absurd h4 (by decide)
  · intro h
    refine Classical.byContradiction fun hn => h fun j h1 h2 => ?_
    rw [bt_nat s j (by omega)]
    simp only [decide_eq_true_eq]
    intro h5
    exact hn ⟨j, by simpa using (show j < s.size by omega), UInt8.toNat_inj.1 (by rw [show (58 : UInt8).toNat = 58 from rfl]; omega)⟩
theorem keyOk_eq (s : ByteArray) : keyOk s = (decide (1 ≤ s.size ∧ s.size ≤ 24) && (bAll (fun b => decide (46 ≤ b) && decide (b ≤ 126)) s s.size 0 && bAll (fun b => decide (b ≠ 58)) s s.size 0)) := by
  unfold keyOk
  rw [Bool.and_comm]
  congr 1
  rw [Bool.eq_iff_iff, Bool.and_eq_true, bAll_iff, bAll_iff, bAll_iff]
  simp only [KB, Bool.and_eq_true]
  exact ⟨fun h => ⟨fun j h1 h2 => (h j h1 h2).1, fun j h1 h2 => (h j h1 h2).2⟩, fun h j h1 h2 => ⟨h.1 j h1 h2, h.2 j h1 h2⟩⟩
theorem isEntry_eq (x : S_impl_Entry) (k : Nat) (h0 : x.f0.size < k) (h3 : x.f3.size < k) (hb : x.f0.size ≤ 4611686018427387904) (hb3 : x.f3.size ≤ 4611686018427387904) : impl_isEntry.f k x.f0 x.f1 x.f2 x.f3 = some (okE x) := by
  unfold impl_isEntry.f okE
  rw [keyOk_eq, isBetween_eq _ _ _ k h0 hb, Option.bind_some, Contains_eq, Option.bind_some, isBetween_eq _ _ _ k h3 hb3, Option.bind_some]
  have hv : valOk x.f3 = (decide (x.f3.size ≤ 80) && bAll (fun b => decide (32 ≤ b) && decide (b ≤ 126)) x.f3 x.f3.size 0) := Bool.and_comm _ _
  rw [hv]
  generalize bAll (fun b => decide (46 ≤ b) && decide (b ≤ 126)) x.f0 x.f0.size 0 = p1
  generalize bAll (fun b => decide (b ≠ 58)) x.f0 x.f0.size 0 = p2
  generalize bAll (fun b => decide (32 ≤ b) && decide (b ≤ 126)) x.f3 x.f3.size 0 = p3
  by_cases h1 : (x.f0.size : Int) < 1
  · rw [if_pos h1]; simp [show ¬ 1 ≤ x.f0.size by omega]
  rw [if_neg h1]
  by_cases h2 : (x.f0.size : Int) > 24
  · rw [if_pos h2]; simp [show ¬ x.f0.size ≤ 24 by omega]
  rw [if_neg h2]
  have hz : (1 ≤ x.f0.size ∧ x.f0.size ≤ 24) = True := by simp; omega
  simp only [hz, decide_true, Bool.true_and]
  cases p1
  · simp
  cases p2
  · simp
  by_cases h4 : x.f1 ≥ 1
  · by_cases h5 : x.f1 ≤ 99999999
    · by_cases h6 : (x.f3.size : Int) ≤ 80
      · have h6' : x.f3.size ≤ 80 := by omega
        have h4' : 1 ≤ x.f1 := h4
        cases p3 <;> cases x.f2 <;> simp [h4', h5, h6, h6']
      · simp [h4, h5, h6, show ¬ x.f3.size ≤ 80 by omega]
    · simp [h5]
  · simp [h4]
theorem orI (k : Nat) (r : Int) : ((cmp_Or_int.l0 (k + 1 + 1 + 1) 0 [0, r] (([0, r] : List Int).length : Int) 0).bind fun t147 => some t147) = some r := by
  have w1 : wrap64 1 = 1 := by unfold wrap64; omega
  have w2 : wrap64 2 = 2 := by unfold wrap64; omega
  by_cases h : r = 0
  · subst h; simp [cmp_Or_int.l0, rd, w1, w2]
  · simp [cmp_Or_int.l0, rd, w1, w2, h]
theorem compareEntries_eq (x y : S_impl_Entry) (k : Nat) (hk : 3 < k) : ∃ r : Int, impl_compareEntries.f k x.f0 x.f1 x.f2 x.f3 y.f0 y.f1 y.f2 y.f3 = some r ∧ (r < 0 ↔ ltE x y = true) ∧ (r = 0 ↔ x.f0 = y.f0 ∧ x.f1 = y.f1) := by
  obtain ⟨k, rfl⟩ := succ_of (show 0 < k by omega)
  obtain ⟨k, rfl⟩ := succ_of (show 0 < k by omega)
  obtain ⟨k, rfl⟩ := succ_of (show 0 < k by omega)
  unfold impl_compareEntries.f cmp_Compare_string.f cmp_Compare_int.f cmp_isNaN_string.f cmp_isNaN_int.f cmp_Or_int.f
  simp only [Option.bind_some, bne_self_eq_false, Bool.false_eq_true, if_false]
  by_cases h1 : Op.bytesLess x.f0.toList y.f0.toList = true
  · simp only [if_pos h1, Option.bind_some]
    refine ⟨-1, ?_, by simp [ltE, h1], ?_⟩
    · split
      · rfl
      · split <;> rfl
    · simp
      rintro e; rw [e, bl_irrefl] at h1; cases h1
  · have h1' : Op.bytesLess x.f0.toList y.f0.toList = false := by simpa using h1
    simp only [if_neg h1]
    by_cases h2 : Op.bytesLess y.f0.toList x.f0.toList = true
    · simp only [if_pos h2, Option.bind_some]
      have hne : x.f0.toList ≠ y.f0.toList := fun e => by rw [e, bl_irrefl] at h2; cases h2
      refine ⟨1, ?_, by simp [ltE, h1', hne], ?_⟩
      · split
        · rfl
        · split <;> rfl
      · simp
        rintro e; rw [e] at hne; exact absurd rfl hne
    · simp only [if_neg h2, Option.bind_some]
      have he : x.f0.toList = y.f0.toList := by
        rcases Decidable.em (x.f0.toList = y.f0.toList) with e | e
        · exact e
        · exact absurd (bl_total h1' e) h2
      have he' := (tl_iff _ _).1 he
      by_cases h3 : y.f1 < x.f1
      · simp only [if_pos h3, Option.bind_some]
        exact ⟨-1, orI k (-1), by simp [ltE, he, h3], by simp; intro _; omega⟩
      · simp only [if_neg h3]
        by_cases h4 : y.f1 > x.f1
        · simp only [if_pos h4, Option.bind_some]
          exact ⟨1, orI k 1, by simp [ltE, he, bl_irrefl]; omega, by simp; intro _; omega⟩
        · simp only [if_neg h4, Option.bind_some]
          exact ⟨0, orI k 0, by simp [ltE, he, bl_irrefl]; omega, by simp [he']; omega⟩
theorem areEntries_l0 : ∀ (suf pre : List S_impl_Entry) (k : Nat), suf.length + 1048577 < k → (pre ++ suf).length ≤ 4611686018427387904 → Sm suf →
    impl_areEntries.l0 k (pre ++ suf) (pre ++ suf) ((pre ++ suf).length : Int) (pre.length : Int) = some (okFrom pre.getLast? suf && decide ((pre ++ suf).length ≤ 240)) := by
  intro suf
  induction suf with
  | nil =>
    intro pre k hk hb hs
    obtain ⟨k, rfl⟩ := succ_of (show 0 < k by omega)
    rw [impl_areEntries.l0, if_neg end_not_lt]
    have : okFrom pre.getLast? [] = true := by cases pre.getLast? <;> rfl
    rw [this, Bool.true_and]
    congr 1
    exact decide_eq_decide.2 (by omega)
  | cons x suf ih =>
    intro pre k hk hb hs
    obtain ⟨k, rfl⟩ := succ_of (show 0 < k by omega)
    simp only [List.length_cons] at hk
    have hx := hs x (by simp)
    have hl : pre.length ≤ 4611686018427387904 := by simp at hb; omega
    have ih' := ih (pre ++ [x]) k (by omega) (by simpa using hb) (fun y h => hs y (by simp [h]))
    rw [List.getLast?_concat] at ih'
    rw [impl_areEntries.l0, if_pos mid_lt, if_pos (nat_le0 _), if_pos mid_lt]
    simp only [rde_mid]
    rw [isEntry_eq x k (by omega) (by omega) (by omega) (by omega), Option.bind_some]
    rcases List.eq_nil_or_concat pre with rfl | ⟨pre', y, rfl⟩
    · simp only [List.getLast?_nil, okFrom]
      cases okE x
      · rfl
      · rw [if_pos rfl, if_neg (by simp), wrap_snoc (x := x) (by omega), snoc_app (suf := suf), ih']; rfl
    · simp only [List.concat_eq_append] at *
      have e : (((pre' ++ [y]).length : Int)) - 1 = (pre'.length : Int) := by simp
      rw [List.getLast?_concat, okFrom]
      cases okE x
      · rfl
      · rw [if_pos rfl, if_pos (by simp), wrap_id (i := ((pre' ++ [y]).length : Int) - 1) (by omega) (by omega), if_pos (by rw [e]; exact nat_le0 _), if_pos (by rw [e]; simp; omega), rde_last]
        obtain ⟨r, hr, hlt, -⟩ := compareEntries_eq y x k (by omega)
        rw [hr, Option.bind_some]
        cases hh : ltE y x
        · have : ¬ r < 0 := fun h => by rw [hlt.1 h] at hh; cases hh
          rw [if_pos (by omega)]; rfl
        · have := hlt.2 hh
          rw [if_neg (by omega), wrap_snoc (x := x) (by omega), snoc_app (suf := suf), ih']; rfl
theorem areEntries_eq (l : List S_impl_Entry) (k : Nat) (hk : l.length + 1048577 < k) (hb : l.length ≤ 4611686018427387904) (hs : Sm l) : impl_areEntries.f k l = some (okEs l) := by
  have h := areEntries_l0 l [] k hk (by simpa using hb) hs
  simpa [impl_areEntries.f, okEs] using h
theorem impl_EntriesOk_eq (l : List S_impl_Entry) (k : Nat) (hk : l.length + 1048577 < k) (hb : l.length ≤ 4611686018427387904) (hs : Sm l) : impl_EntriesOk.f k l = some (okEs l) := by
  unfold impl_EntriesOk.f
  rw [areEntries_eq l k hk hb hs]; rfl
end Go.Proofs.Ytjdhphpjbakddaa.V

/- What is read at a moment. -/
namespace Go.Proofs.Ytjdhphpjbakddaa.V
open Go.RowKit Go.Proofs.Ytjdhphpjbakddaa.P Go.Proofs.YtjdhphpjbakddaaW.PrintWords Go.Proofs.YtjdhphpjbakddaaW.PrintMore

abbrev E5 := ByteArray × Int × Bool × ByteArray × Bool
/-- The first of a key not above a moment. -/
def getE : List S_impl_Entry → ByteArray → Int → E5
  | [], _, _ => (⟨#[]⟩, 0, false, ⟨#[]⟩, false)
  | x :: r, s, m => if x.f0 = s ∧ x.f1 ≤ m then (x.f0, x.f1, x.f2, x.f3, true) else getE r s m
theorem l4Get_l0 : ∀ (suf pre : List S_impl_Entry) (s : ByteArray) (m : Int) (k : Nat), suf.length < k → (pre ++ suf).length ≤ 4611686018427387904 →
    spec_l4Get.l0 k (pre ++ suf) s m (pre.length : Int) = some (getE suf s m) := by
  intro suf
  induction suf with
  | nil =>
    intro pre s m k hk hb
    obtain ⟨k, rfl⟩ := succ_of hk
    rw [spec_l4Get.l0, if_neg end_not_lt]; rfl
  | cons x suf ih =>
    intro pre s m k hk hb
    obtain ⟨k, rfl⟩ := succ_of hk
    have ih' := ih (pre ++ [x]) s m k (by simpa using hk) (by simpa using hb)
    rw [spec_l4Get.l0, if_pos mid_lt, if_pos (nat_le0 _)]
    simp only [rde_mid, tl_iff]
    rw [wrap_snoc (x := x) (by simp at hb; omega), snoc_app (suf := suf), ih', getE]
    by_cases h1 : x.f0 = s
    · by_cases h2 : x.f1 ≤ m
      · rw [if_pos h1, if_pos h2, if_pos ⟨h1, h2⟩]
      · rw [if_pos h1, if_neg h2, if_neg (fun h => h2 h.2)]
    · rw [if_neg h1, if_neg (fun h => h1 h.1)]
theorem l4Get_eq (l : List S_impl_Entry) (s : ByteArray) (m : Int) (k : Nat) (hk : l.length < k) (hb : l.length ≤ 4611686018427387904) : spec_l4Get.f k l s m = some (getE l s m) := by
  have h := l4Get_l0 l [] s m k hk (by simpa using hb)
  simpa [spec_l4Get.f] using h
theorem atMoment_l0 : ∀ (suf pre : List S_impl_Entry) (s : ByteArray) (m : Int) (k : Nat), suf.length < k → (pre ++ suf).length ≤ 4611686018427387904 →
    impl_atMoment.l0 k s m (pre ++ suf) ((pre ++ suf).length : Int) (pre.length : Int) = some (getE suf s m) := by
  intro suf
  induction suf with
  | nil =>
    intro pre s m k hk hb
    obtain ⟨k, rfl⟩ := succ_of hk
    rw [impl_atMoment.l0, if_neg end_not_lt]; rfl
  | cons x suf ih =>
    intro pre s m k hk hb
    obtain ⟨k, rfl⟩ := succ_of hk
    have ih' := ih (pre ++ [x]) s m k (by simpa using hk) (by simpa using hb)
    rw [impl_atMoment.l0, if_pos mid_lt, if_pos (nat_le0 _), if_pos mid_lt]
    simp only [rde_mid, tl_iff]
    rw [wrap_snoc (x := x) (by simp at hb; omega), snoc_app (suf := suf), ih', getE]
    by_cases h1 : x.f0 = s
    · by_cases h2 : x.f1 ≤ m
      · rw [if_pos h1, if_pos h2, if_pos ⟨h1, h2⟩]
      · rw [if_pos h1, if_neg h2, if_neg (fun h => h2 h.2)]
    · rw [if_neg h1, if_neg (fun h => h1 h.1)]
theorem atMoment_eq (l : List S_impl_Entry) (s : ByteArray) (m : Int) (k : Nat) (hk : l.length < k) (hb : l.length ≤ 4611686018427387904) : impl_atMoment.f k l s m = some (getE l s m) := by
  have h := atMoment_l0 l [] s m k hk (by simpa using hb)
  simpa [impl_atMoment.f] using h
/-- What MemGet answers of entries that are ok. -/
def gotE (e : E5) : ByteArray × Bool := if e.2.2.2.2 = true then (e.2.2.2.1, !e.2.2.1) else (⟨#[]⟩, false)
theorem getE_none : ∀ (l : List S_impl_Entry) (s : ByteArray) (m : Int), (getE l s m).2.2.2.2 = false → (getE l s m).2.2.2.1 = ⟨#[]⟩
  | [], _, _, _ => rfl
  | x :: r, s, m, h => by
    rw [getE] at h ⊢
    split
    · rename_i hh; rw [if_pos hh] at h; cases h
    · rename_i hh; rw [if_neg hh] at h; exact getE_none r s m h
theorem okE_gone {x : S_impl_Entry} (h : okE x = true) (h2 : x.f2 = true) : x.f3 = ⟨#[]⟩ := by
  unfold okE at h
  rw [h2] at h
  simp at h
  exact (tl_iff _ _).1 (h.2.trans (by simp [ByteArray.toList_eq]))
theorem okFrom_mem : ∀ (l : List S_impl_Entry) (p : Option S_impl_Entry), okFrom p l = true → ∀ x ∈ l, okE x = true
  | [], _, _, x, hx => by cases hx
  | y :: r, p, h, x, hx => by
    have h1 : okE y = true ∧ okFrom (some y) r = true := by
      cases p with
      | none => simpa [okFrom] using h
      | some z =>
        simp only [okFrom, Bool.and_eq_true] at h
        exact ⟨h.1.1, h.2⟩
    rcases List.mem_cons.1 hx with rfl | hx
    · exact h1.1
    · exact okFrom_mem r _ h1.2 x hx
theorem getE_gone : ∀ (l : List S_impl_Entry) (s : ByteArray) (m : Int), (∀ x ∈ l, okE x = true) → (getE l s m).2.2.1 = true → (getE l s m).2.2.2.1 = ⟨#[]⟩
  | [], _, _, _, h => by cases h
  | x :: r, s, m, ho, h => by
    rw [getE] at h ⊢
    split
    · rename_i hh; rw [if_pos hh] at h; exact okE_gone (ho x (by simp)) h
    · rename_i hh; rw [if_neg hh] at h; exact getE_gone r s m (fun y hy => ho y (by simp [hy])) h
/-- MemGet, of the reference and of the program. -/
def getD4 (l : List S_impl_Entry) (s : ByteArray) (m : Int) : ByteArray × Bool := if okEs l = true then gotE (getE l s m) else (⟨#[]⟩, false)
theorem spec_MemGet_eq (l : List S_impl_Entry) (s : ByteArray) (m : Int) (k : Nat) (hk : l.length + 1048577 < k) (hb : l.length ≤ 4611686018427387904) (hs : Sm l) : spec_MemGet.f k l s m = some (getD4 l s m) := by
  unfold spec_MemGet.f getD4
  rw [spec_EntriesOk_eq l k hk hb hs, Option.bind_some]
  by_cases h : okEs l = true
  · rw [if_pos h, if_pos h, l4Get_eq l s m k (by omega) hb, Option.bind_some]
    unfold gotE
    by_cases h2 : (getE l s m).2.2.2.2 = true
    · rw [if_pos h2, if_pos h2]
    · rw [if_neg h2, if_neg h2, getE_none l s m (by simpa using h2)]
  · rw [if_neg h, if_neg h]
theorem impl_memGet_eq (l : List S_impl_Entry) (s : ByteArray) (m : Int) (k : Nat) (hk : l.length + 1048577 < k) (hb : l.length ≤ 4611686018427387904) (ho : ∀ x ∈ l, okE x = true) : impl_memGet.f k l s m = some (gotE (getE l s m)) := by
  unfold impl_memGet.f gotE
  rw [atMoment_eq l s m k (by omega) hb, Option.bind_some]
  by_cases h2 : (getE l s m).2.2.2.2 = true
  · rw [if_pos h2, if_pos h2]
    by_cases h3 : (getE l s m).2.2.1 = true
    · rw [if_pos h3, getE_gone l s m ho h3, h3]; rfl
    · rw [if_neg h3]; simp at h3; rw [h3]; rfl
  · rw [if_neg h2, if_neg h2]
theorem okEs_mem {l : List S_impl_Entry} (h : okEs l = true) : ∀ x ∈ l, okE x = true := by
  unfold okEs at h
  simp only [Bool.and_eq_true] at h
  exact okFrom_mem l _ h.1
theorem impl_MemGet_eq (l : List S_impl_Entry) (s : ByteArray) (m : Int) (k : Nat) (hk : l.length + 1048577 < k) (hb : l.length ≤ 4611686018427387904) (hs : Sm l) : impl_MemGet.f k l s m = some (getD4 l s m) := by
  unfold impl_MemGet.f getD4
  rw [areEntries_eq l k hk hb hs, Option.bind_some]
  by_cases h : okEs l = true
  · rw [if_pos h, if_pos h, impl_memGet_eq l s m k hk hb (okEs_mem h), Option.bind_some]
  · rw [if_neg h, if_neg h]
end Go.Proofs.Ytjdhphpjbakddaa.V

/- The program reads what the reference reads. No condition. -/
namespace Go.Proofs.Ytjdhphpjbakddaa.Pure
open Go.RowKit Go.Proofs.Ytjdhphpjbakddaa.P Go.Proofs.Ytjdhphpjbakddaa.V

theorem FnExactMemGet : laws_FnExactMemGet.Pure := by
  intro l s m g gs gm
  obtain ⟨K, hK⟩ : ∃ K, K = l.length + 1048600 := ⟨_, rfl⟩
  refine ⟨K + 1, ?_⟩
  unfold laws_FnExactMemGet.f
  by_cases h0 : (s.size : Int) > 1048576
  · rw [if_pos h0]
  rw [if_neg h0]
  obtain ⟨r, hr, hs⟩ := szEntryS_eq l (K + 1) (by omega) g
  rw [hr, Option.bind_some]
  by_cases h : r < 0
  · rw [if_pos h]
  · rw [if_neg h]
    obtain ⟨hl, hsm⟩ := hs (by omega)
    have hbm : (l.map ce).length = l.length := by simp
    have hto := toEntryS_eq l (K + 1) (by omega) hl
    have hto' := toEntryS_eq l K (by omega) hl
    generalize l.map ce = l' at hbm hto hto' hsm
    simp only [hto, spec_MemGet_eq l' s m (K + 1) (by omega) (by omega) hsm, impl_MemGet_eq l' s m (K + 1) (by omega) (by omega) hsm, Option.bind_some, if_true]
    rw [laws_FnExactMemGet.j0]
    simp only [hto', eqEntryS_eq l' l' K (by omega) (by omega), Option.bind_some]
    simp
end Go.Proofs.Ytjdhphpjbakddaa.Pure
