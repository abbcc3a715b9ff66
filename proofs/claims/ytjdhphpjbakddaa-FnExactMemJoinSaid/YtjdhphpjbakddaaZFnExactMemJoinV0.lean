/- The plain statement of the law FnExactMemJoin, proved. -/
import Derived.Test.YtjdhphpjbakddaaZFnExactMemJoinW0
import Derived.Test.YtjdhphpjbakddaaZFnExactMemJoin0
import Derived.Test.YtjdhphpjbakddaaZFnExactMemJoin3
import Derived.Laws.Bits64
import Derived.WalkKit
import Derived.Test.YtjdhphpjbakddaaZFnExactMemJoin1
import Derived.Test.YtjdhphpjbakddaaZFnExactMemJoin2
import Derived.Lib.IndexAny
/- Plain lemmas on lists, numbers and strings, for the laws' plain statements. -/
namespace Go.Proofs.Ytjdhphpjbakddaa.V
open Go.RowKit Go.Proofs.YtjdhphpjbakddaaW.PrintWords Go.Proofs.YtjdhphpjbakddaaW.PrintMore
theorem succ_of {d k : Nat} (h : d < k) : ∃ m, k = m + 1 := ⟨k - 1, by omega⟩
theorem wrap_id {i : Int} (h : -9223372036854775808 ≤ i) (h' : i ≤ 9223372036854775807) : wrap64 i = i := by unfold wrap64; omega
theorem tl_iff (a b : ByteArray) : a.toList = b.toList ↔ a = b := by
  rw [ByteArray.toList_eq, ByteArray.toList_eq]
  constructor
  · intro h
    cases a; cases b
    simp at h
    simp [h]
  · rintro rfl; rfl
section
variable {α : Type} {pre suf : List α} {x y : α}
theorem mid_lt : ((pre.length : Int) < ((pre ++ x :: suf).length : Int)) := by simp; omega
theorem end_not_lt : ¬ ((pre.length : Int) < ((pre ++ ([] : List α)).length : Int)) := by simp
theorem set_mid : (pre ++ x :: suf).set ((pre.length : Int)).toNat y = pre ++ y :: suf := by simp
theorem wrap_snoc (h : pre.length < 9223372036854775807) : wrap64 ((pre.length : Int) + 1) = ((pre ++ [x]).length : Int) := by
  rw [wrap_id (by omega) (by omega)]; simp
theorem snoc_app : pre ++ x :: suf = (pre ++ [x]) ++ suf := by simp
end
theorem nat_le0 (n : Nat) : (0 : Int) ≤ (n : Int) := Int.natCast_nonneg n
end Go.Proofs.Ytjdhphpjbakddaa.V
/- The text of a mark. -/
namespace Go.Proofs.Ytjdhphpjbakddaa.V
open Go.RowKit Go.Proofs.Ytjdhphpjbakddaa.P Go.Proofs.YtjdhphpjbakddaaW.PrintWords Go.Proofs.YtjdhphpjbakddaaW.PrintMore
theorem strOfNums_one (n : Int) : (strOfNums [n]).size = 1 := by simp [strOfNums, ByteArray.size]
theorem markText_l0 : ∀ (d k : Nat) (n : Int) (s : ByteArray), 0 ≤ n → n ≤ 9223372036854775807 → n < 10 ^ d → d < k → s.size + d + 1 ≤ 9223372036854775807 →
    ∃ r : ByteArray, laws_markText.l0 k n s = some r := by
  intro d
  induction d with
  | zero =>
    intro k n s h0 h9 h1 hk hs
    obtain ⟨k, rfl⟩ := succ_of hk
    exact ⟨(⟨#[109]⟩ : ByteArray) ++ s, by rw [laws_markText.l0, if_neg (by simp at h1; omega), if_pos (by omega)]⟩
  | succ d ih =>
    intro k n s h0 h9 h1 hk hs
    obtain ⟨k, rfl⟩ := succ_of hk
    by_cases hn : n > 0
    · have hd : Int.tdiv n 10 = n / 10 := Int.tdiv_eq_ediv_of_nonneg h0
      have h2 : wrap64 (Int.tdiv n 10) = n / 10 := by rw [hd, wrap_id (by omega) (by omega)]
      have hp : (10 : Int) ^ (d + 1) = 10 ^ d * 10 := Int.pow_succ 10 d
      rw [hp] at h1
      obtain ⟨r, hr⟩ := ih k (n / 10) (strOfNums [(wrap64 (48 + (Int.tmod n 10))) % 256] ++ s) (by omega) (by omega) (by omega) (by omega) (by simp only [ByteArray.size_append, strOfNums_one]; omega)
      exact ⟨r, by rw [laws_markText.l0, if_pos hn, Option.bind_some, if_pos (by rw [strOfNums_one]; omega), h2]; exact hr⟩
    · exact ⟨(⟨#[109]⟩ : ByteArray) ++ s, by rw [laws_markText.l0, if_neg hn, if_pos (by omega)]⟩
/-- The text of a mark. -/
def mt (n : Int) : ByteArray := (laws_markText.f 25 n).getD ⟨#[]⟩
theorem markText_eq {n : Int} (h9 : n ≤ 9223372036854775807) {k : Nat} (hk : 25 ≤ k) : laws_markText.f k n = some (mt n) := by
  have h : ∃ r, laws_markText.f 25 n = some r := by
    unfold laws_markText.f
    by_cases hn : n ≤ 0
    · exact ⟨_, by rw [if_pos hn]⟩
    · rw [if_neg hn]
      exact markText_l0 20 25 n _ (by omega) h9 (by omega) (by omega) (by decide)
  obtain ⟨r, hr⟩ := h
  have : mt n = r := by unfold mt; rw [hr]; rfl
  rw [this]
  exact at_rounds (g := fun k => laws_markText.f k n) (fun k => laws_markText.mono n k) hk hr
end Go.Proofs.Ytjdhphpjbakddaa.V
/- What the laws' own helpers over entries tell: equality, marks, sizes, copies. -/
namespace Go.Proofs.Ytjdhphpjbakddaa.V
open Go.RowKit Go.Proofs.Ytjdhphpjbakddaa.P Go.Proofs.YtjdhphpjbakddaaW.PrintWords Go.Proofs.YtjdhphpjbakddaaW.PrintMore
theorem rde_mid {pre suf : List S_impl_Entry} {x : S_impl_Entry} : rd_impl_Entry (pre ++ x :: suf) (pre.length : Int) = x := by simp [rd_impl_Entry]
theorem rdle_mid {pre suf : List S_laws_Entry} {x : S_laws_Entry} : rd_laws_Entry (pre ++ x :: suf) (pre.length : Int) = x := by simp [rd_laws_Entry]
theorem entry_ext {x y : S_impl_Entry} : x = y ↔ x.f0 = y.f0 ∧ x.f1 = y.f1 ∧ x.f2 = y.f2 ∧ x.f3 = y.f3 := by cases x; cases y; simp
instance : DecidableEq S_impl_Entry := fun _ _ => decidable_of_iff _ entry_ext.symm
theorem eqEntry_eq (x y : S_impl_Entry) : laws_eqEntry.f x.f0 x.f1 x.f2 x.f3 y.f0 y.f1 y.f2 y.f3 = some (decide (x = y)) := by
  unfold laws_eqEntry.f
  simp only [tl_iff]
  by_cases h0 : x.f0 = y.f0
  · rw [if_pos h0]
    by_cases h1 : x.f1 = y.f1
    · rw [if_pos h1]
      by_cases h2 : x.f2 = y.f2
      · rw [if_neg (by simp [h2])]
        by_cases h3 : x.f3 = y.f3
        · rw [if_pos h3]; simp [entry_ext, h0, h1, h2, h3]
        · rw [if_neg h3]; simp [entry_ext, h3]
      · rw [if_pos (by simpa using h2)]; simp [entry_ext, h2]
    · rw [if_neg h1]; simp [entry_ext, h1]
  · rw [if_neg h0]; simp [entry_ext, h0]
theorem eqEntryS_l0 : ∀ (sa sb pa pb : List S_impl_Entry) (k : Nat), pa.length = pb.length → sa.length = sb.length → sa.length < k → (pa ++ sa).length < 9223372036854775807 →
    laws_eqEntryS.l0 k (pa ++ sa) (pb ++ sb) (pa.length : Int) = some (decide (sa = sb)) := by
  intro sa
  induction sa with
  | nil =>
    intro sb pa pb k hp hs hk hb
    obtain ⟨k, rfl⟩ := succ_of hk
    obtain rfl : sb = [] := List.eq_nil_of_length_eq_zero hs.symm
    rw [laws_eqEntryS.l0, if_neg end_not_lt]; rfl
  | cons x sa ih =>
    intro sb pa pb k hp hs hk hb
    obtain ⟨k, rfl⟩ := succ_of hk
    cases sb with
    | nil => simp at hs
    | cons y sb =>
      rw [laws_eqEntryS.l0, if_pos mid_lt, if_pos (nat_le0 _), if_pos (by rw [hp]; exact mid_lt), rde_mid, hp, rde_mid, ← hp, eqEntry_eq, Option.bind_some]
      by_cases hxy : x = y
      · subst hxy
        rw [if_pos (by simp), wrap_snoc (x := x) (by simp at hb; omega), snoc_app, snoc_app (pre := pb), ih sb (pa ++ [x]) (pb ++ [x]) k (by simp [hp]) (by simpa using hs) (by simpa using hk) (by simpa using hb)]
        simp
      · rw [if_neg (by simpa using hxy)]
        simp [hxy]
theorem eqEntryS_eq (a b : List S_impl_Entry) (k : Nat) (hk : a.length < k) (hb : a.length < 9223372036854775807) : laws_eqEntryS.f k a b = some (decide (a = b)) := by
  unfold laws_eqEntryS.f
  by_cases h : a.length = b.length
  · rw [if_pos (by rw [h])]
    exact eqEntryS_l0 a b [] [] k rfl h hk hb
  · rw [if_neg (by omega)]
    have : a ≠ b := fun e => h (by rw [e])
    simp [this]
def szE : List S_laws_Entry → Int → Int
  | [], left => left
  | s :: r, left => if left - s.f0.size < 0 then -1 else if left - s.f0.size - s.f3.size < 0 then -1 else szE r (left - s.f0.size - s.f3.size)
theorem szE_pos : ∀ (l : List S_laws_Entry) (left : Int), 0 ≤ szE l left → szE l left ≤ left
  | [], left, _ => by simp [szE]
  | s :: r, left, h => by
    rw [szE] at h ⊢
    by_cases hl : left - s.f0.size < 0
    · rw [if_pos hl] at h; omega
    · rw [if_neg hl] at h ⊢
      by_cases hl2 : left - s.f0.size - s.f3.size < 0
      · rw [if_pos hl2] at h; omega
      · rw [if_neg hl2] at h ⊢
        have := szE_pos r _ h
        omega
theorem szEntry_eq (x : S_laws_Entry) (left : Int) (h0 : 0 ≤ left) (h1 : left ≤ 4611686018427387904) (hx : Good_laws_Entry x) :
    laws_szEntry.f x.f0 x.f1 x.f2 x.f3 left = some (if left - x.f0.size < 0 then -1 else if left - x.f0.size - x.f3.size < 0 then -1 else left - x.f0.size - x.f3.size) := by
  unfold laws_szEntry.f
  have h2 := hx.1
  have h3 := hx.2.2.2
  rw [wrap_id (i := left - x.f0.size) (by omega) (by omega)]
  by_cases hl : left - x.f0.size < 0
  · rw [if_pos hl, if_pos hl]
  · rw [if_neg hl, if_neg hl, wrap_id (i := left - x.f0.size - x.f3.size) (by omega) (by omega)]
    by_cases hl2 : left - x.f0.size - x.f3.size < 0
    · rw [if_pos hl2, if_pos hl2]
    · rw [if_neg hl2, if_neg hl2]
theorem szEntryS_l0 : ∀ (suf pre : List S_laws_Entry) (left : Int) (k : Nat), suf.length < k → 0 ≤ left → left ≤ 4611686018427387904 → (∀ s ∈ suf, Good_laws_Entry s) → (pre ++ suf).length < 9223372036854775807 →
    laws_szEntryS.l0 k (pre ++ suf) left (pre.length : Int) = some (szE suf left) := by
  intro suf
  induction suf with
  | nil =>
    intro pre left k hk h0 h1 hs hb
    obtain ⟨k, rfl⟩ := succ_of hk
    rw [laws_szEntryS.l0, if_neg end_not_lt]; rfl
  | cons x suf ih =>
    intro pre left k hk h0 h1 hs hb
    obtain ⟨k, rfl⟩ := succ_of hk
    rw [laws_szEntryS.l0, if_pos mid_lt, if_pos (nat_le0 _), rdle_mid, szE, szEntry_eq x left h0 h1 (hs x (by simp)), Option.bind_some]
    by_cases hl : left - x.f0.size < 0
    · rw [if_pos hl, if_pos hl, if_pos (by omega)]
    · rw [if_neg hl, if_neg hl]
      by_cases hl2 : left - x.f0.size - x.f3.size < 0
      · rw [if_pos hl2, if_pos hl2, if_pos (by omega)]
      · rw [if_neg hl2, if_neg hl2, if_neg hl2, wrap_snoc (x := x) (by simp at hb; omega), snoc_app, ih (pre ++ [x]) _ k (by simpa using hk) (by omega) (by omega) (fun s h => hs s (by simp [h])) (by simpa using hb)]
/-- The guard of the laws over entries: what passes is small. -/
def ce (x : S_laws_Entry) : S_impl_Entry := ⟨x.f0, x.f1, x.f2, x.f3⟩
def Sm (l : List S_impl_Entry) : Prop := ∀ x ∈ l, x.f0.size ≤ 1048576 ∧ x.f3.size ≤ 1048576
theorem szE_small : ∀ (l : List S_laws_Entry) (left : Int), left ≤ 1048576 → 0 ≤ szE l left → Sm (l.map ce)
  | [], _, _, _, x, hx => by simp at hx
  | s :: r, left, hb, h, x, hx => by
    rw [szE] at h
    by_cases hl : left - s.f0.size < 0
    · rw [if_pos hl] at h; omega
    · rw [if_neg hl] at h
      by_cases hl2 : left - s.f0.size - s.f3.size < 0
      · rw [if_pos hl2] at h; omega
      · rw [if_neg hl2] at h
        rcases List.mem_cons.1 (by simpa using hx : x ∈ ce s :: r.map ce) with rfl | hx
        · simp only [ce]; omega
        · exact szE_small r _ (by omega) h x hx
theorem toEntryS_l0 : ∀ (suf pre : List S_laws_Entry) (zs : List S_impl_Entry) (k : Nat), zs.length = suf.length → suf.length < k → (pre ++ suf).length < 9223372036854775807 →
    laws_toEntryS.l0 k (pre ++ suf) (pre.map ce ++ zs) (pre.length : Int) = some ((pre ++ suf).map ce) := by
  intro suf
  induction suf with
  | nil =>
    intro pre zs k hz hk hb
    obtain ⟨k, rfl⟩ := succ_of hk
    obtain rfl : zs = [] := List.eq_nil_of_length_eq_zero hz
    rw [laws_toEntryS.l0, if_neg end_not_lt]; simp
  | cons x suf ih =>
    intro pre zs k hz hk hb
    obtain ⟨k, rfl⟩ := succ_of hk
    cases zs with
    | nil => simp at hz
    | cons z zs =>
      have hl : (pre.length : Int) = ((pre.map ce).length : Int) := by simp
      rw [laws_toEntryS.l0, if_pos mid_lt, if_pos (nat_le0 _), rdle_mid]
      unfold laws_toEntry.f
      rw [Option.bind_some, if_pos (by rw [hl]; exact mid_lt)]
      rw [show (pre.map ce ++ z :: zs).set ((pre.length : Int)).toNat (⟨x.f0, x.f1, x.f2, x.f3⟩ : S_impl_Entry) = (pre ++ [x]).map ce ++ zs by rw [hl, set_mid]; simp [ce], wrap_snoc (x := x) (by simp at hb; omega), snoc_app, ih (pre ++ [x]) zs k (by simpa using hz) (by simpa using hk) (by simpa using hb)]
theorem toEntryS_eq (l : List S_laws_Entry) (k : Nat) (hk : l.length < k) (hb : l.length ≤ 1048576) : laws_toEntryS.f k l = some (l.map ce) := by
  unfold laws_toEntryS.f
  rw [if_pos (nat_le0 _), if_pos (by omega)]
  have h := toEntryS_l0 l [] (List.replicate ((l.length : Int)).toNat z_impl_Entry) k (by simp) hk (by simp; omega)
  simpa using h
end Go.Proofs.Ytjdhphpjbakddaa.V
/- Marks in entries. -/
namespace Go.Proofs.Ytjdhphpjbakddaa.V
open Go.RowKit Go.Proofs.Ytjdhphpjbakddaa.P Go.Proofs.YtjdhphpjbakddaaW.PrintWords Go.Proofs.YtjdhphpjbakddaaW.PrintMore
def markedE : Nat → Int → List S_impl_Entry
  | 0, _ => []
  | n + 1, m => ⟨mt m, m + 1, (Int.tmod (m + 2) 3) == 0, mt (m + 3)⟩ :: markedE n (m + 4)
theorem markEntryS_l0 : ∀ (suf pre : List S_impl_Entry) (m : Int) (k : Nat), suf.length + 25 < k → 0 ≤ m → m + 4 * suf.length ≤ 4611686018427387904 → (pre ++ suf).length < 9223372036854775807 →
    laws_markEntryS.l0 k (pre ++ suf) m (pre.length : Int) = some (m + 4 * suf.length, pre ++ markedE suf.length m) := by
  intro suf
  induction suf with
  | nil =>
    intro pre m k hk h0 hm hb
    obtain ⟨k, rfl⟩ := succ_of hk
    rw [laws_markEntryS.l0, if_neg end_not_lt]; simp [markedE]
  | cons x suf ih =>
    intro pre m k hk h0 hm hb
    obtain ⟨k, rfl⟩ := succ_of hk
    simp only [List.length_cons, Int.natCast_add, Int.natCast_one] at hk hm
    rw [laws_markEntryS.l0, if_pos mid_lt, markText_eq (by omega) (by omega), Option.bind_some, if_pos (nat_le0 _)]
    simp only [rde_mid, set_mid, Option.bind_some]
    rw [wrap_id (i := m + 1) (by omega) (by omega), wrap_id (i := m + 1 + 1) (by omega) (by omega), wrap_id (i := m + 1 + 1 + 1) (by omega) (by omega), wrap_id (i := m + 1 + 1 + 1 + 1) (by omega) (by omega), markText_eq (by omega) (by omega), Option.bind_some,
      show m + 1 + 1 = m + 2 by omega, show m + 2 + 1 = m + 3 by omega, show m + 3 + 1 = m + 4 by omega,
      wrap_snoc (x := (⟨mt m, m + 1, (Int.tmod (m + 2) 3) == 0, mt (m + 3)⟩ : S_impl_Entry)) (by simp at hb; omega), snoc_app, ih (pre ++ [(⟨mt m, m + 1, (Int.tmod (m + 2) 3) == 0, mt (m + 3)⟩ : S_impl_Entry)]) (m + 4) k (by omega) (by omega) (by omega) (by simpa using hb)]
    simp [markedE]; omega
theorem markEntryS_eq (l : List S_impl_Entry) (m : Int) (k : Nat) (hk : l.length + 25 < k) (h0 : 0 ≤ m) (hm : m + 4 * l.length ≤ 4611686018427387904) : laws_markEntryS.f k l m = some (m + 4 * l.length, markedE l.length m) := by
  have h := markEntryS_l0 l [] m k hk h0 hm (by simp; omega)
  simpa [laws_markEntryS.f] using h
theorem heldEntryS_l0 : ∀ (n : Nat) (pre : List S_impl_Entry) (m : Int) (k : Nat), n + 25 < k → 0 ≤ m → m + 4 * n ≤ 4611686018427387904 → pre.length + n < 9223372036854775807 →
    laws_heldEntryS.l0 k (pre ++ markedE n m) m (pre.length : Int) = some (m + 4 * n) := by
  intro n
  induction n with
  | zero =>
    intro pre m k hk h0 hm hb
    obtain ⟨k, rfl⟩ := succ_of hk
    rw [laws_heldEntryS.l0, markedE, if_neg end_not_lt]; simp
  | succ n ih =>
    intro pre m k hk h0 hm hb
    obtain ⟨k, rfl⟩ := succ_of hk
    rw [laws_heldEntryS.l0, markedE, if_pos mid_lt, if_pos (nat_le0 _), markText_eq (by omega) (by omega), Option.bind_some]
    simp only [rde_mid, if_true]
    rw [wrap_id (i := m + 1) (by omega) (by omega), if_pos rfl, wrap_id (i := m + 1 + 1) (by omega) (by omega), wrap_id (i := m + 1 + 1 + 1) (by omega) (by omega), wrap_id (i := m + 1 + 1 + 1 + 1) (by omega) (by omega), markText_eq (by omega) (by omega),
      show m + 1 + 1 = m + 2 by omega, show m + 2 + 1 = m + 3 by omega, show m + 3 + 1 = m + 4 by omega, if_neg (by simp), Option.bind_some, if_pos rfl,
      wrap_snoc (x := (⟨mt m, m + 1, (Int.tmod (m + 2) 3) == 0, mt (m + 3)⟩ : S_impl_Entry)) (by omega), snoc_app, ih (pre ++ [(⟨mt m, m + 1, (Int.tmod (m + 2) 3) == 0, mt (m + 3)⟩ : S_impl_Entry)]) (m + 4) k (by omega) (by omega) (by omega) (by simp; omega)]
    congr 1; omega
theorem heldEntryS_eq (n : Nat) (m : Int) (k : Nat) (hk : n + 25 < k) (h0 : 0 ≤ m) (hm : m + 4 * n ≤ 4611686018427387904) : laws_heldEntryS.f k (markedE n m) m = some (m + 4 * n) := by
  have h := heldEntryS_l0 n [] m k hk h0 hm (by simp; omega)
  simpa [laws_heldEntryS.f] using h
end Go.Proofs.Ytjdhphpjbakddaa.V
/- What holds of all bytes of a string, counted from a place on; the order of strings. -/
namespace Go.Proofs.Ytjdhphpjbakddaa.V
open Go.RowKit Go.Proofs.Ytjdhphpjbakddaa.P Go.Proofs.YtjdhphpjbakddaaW.PrintWords Go.Proofs.YtjdhphpjbakddaaW.PrintMore
/-- All of d bytes from i on. -/
def bAll (P : Int → Bool) (s : ByteArray) : Nat → Nat → Bool
  | 0, _ => true
  | d + 1, i => P (bt s i) && bAll P s d (i + 1)
theorem bAll_iff (P : Int → Bool) (s : ByteArray) : ∀ d i, bAll P s d i = true ↔ ∀ j, i ≤ j → j < i + d → P (bt s (j : Nat)) = true
  | 0, i => by simp [bAll]; intro j h1 h2; omega
  | d + 1, i => by
    simp only [bAll, Bool.and_eq_true, bAll_iff P s d (i + 1)]
    constructor
    · rintro ⟨h1, h2⟩ j h3 h4
      rcases Nat.eq_or_lt_of_le h3 with rfl | h5
      · exact h1
      · exact h2 j (by omega) (by omega)
    · intro h
      exact ⟨h i (Nat.le_refl _) (by omega), fun j h1 h2 => h j (by omega) (by omega)⟩
theorem bt_nat (s : ByteArray) (j : Nat) (h : j < s.size) : bt s (j : Nat) = ((s.data.toList[j]'(by simpa using h)).toNat : Int) := by
  unfold bt
  rw [dif_pos (by simpa using h)]
  rfl
theorem bl_irrefl : ∀ a : List UInt8, Op.bytesLess a a = false
  | [] => rfl
  | x :: a => by simp [Op.bytesLess, bl_irrefl a]
theorem bl_trans : ∀ {a b c : List UInt8}, Op.bytesLess a b = true → Op.bytesLess b c = true → Op.bytesLess a c = true
  | [], _, [], _, h => by cases ‹List UInt8› <;> simp [Op.bytesLess] at h
  | [], _, _ :: _, _, _ => rfl
  | _ :: _, [], _, h, _ => by simp [Op.bytesLess] at h
  | _ :: _, _ :: _, [], _, h => by simp [Op.bytesLess] at h
  | x :: a, y :: b, z :: c, h1, h2 => by
    simp only [Op.bytesLess, Bool.or_eq_true, Bool.and_eq_true, decide_eq_true_eq, beq_iff_eq] at h1 h2 ⊢
    rcases h1 with h1 | ⟨rfl, h1⟩
    · rcases h2 with h2 | ⟨rfl, h2⟩
      · left; rw [UInt8.lt_iff_toNat_lt] at *; omega
      · exact .inl h1
    · rcases h2 with h2 | ⟨rfl, h2⟩
      · exact .inl h2
      · exact .inr ⟨rfl, bl_trans h1 h2⟩
theorem bl_total {a b : List UInt8} (h : Op.bytesLess a b = false) (h' : a ≠ b) : Op.bytesLess b a = true := by
  rw [← Opens.bytesLess_not, h]; simp [h']
end Go.Proofs.Ytjdhphpjbakddaa.V
/- When entries are ok: by the reference, and by the program. -/
namespace Go.Proofs.Ytjdhphpjbakddaa.V
open Go.RowKit Go.Proofs.Ytjdhphpjbakddaa.P Go.Proofs.YtjdhphpjbakddaaW.PrintWords Go.Proofs.YtjdhphpjbakddaaW.PrintMore
theorem l1In_eq (a b c : Int) : spec_l1In.f a b c = some (decide (b ≤ a ∧ a ≤ c)) := by
  unfold spec_l1In.f
  by_cases h : a ≥ b
  · rw [if_pos h]; simp [show b ≤ a from h]
  · rw [if_neg h]; simp [show ¬ b ≤ a from h]
def KB (b : Int) : Bool := decide (46 ≤ b) && decide (b ≤ 126) && decide (b ≠ 58)
def VB (b : Int) : Bool := decide (32 ≤ b) && decide (b ≤ 126)
def keyOk (s : ByteArray) : Bool := bAll KB s s.size 0 && decide (1 ≤ s.size ∧ s.size ≤ 24)
def valOk (s : ByteArray) : Bool := bAll VB s s.size 0 && decide (s.size ≤ 80)
theorem l4Key_l0 : ∀ (d i : Nat) (s : ByteArray) (k : Nat), i + d = s.size → d < k → s.size ≤ 4611686018427387904 → spec_l4Key.l0 k s (i : Int) = some (bAll KB s d i && decide (1 ≤ s.size ∧ s.size ≤ 24)) := by
  intro d
  induction d with
  | zero =>
    intro i s k hi hk hb
    obtain ⟨k, rfl⟩ := succ_of hk
    rw [spec_l4Key.l0, if_neg (by omega), l1In_eq, Option.bind_some]
    simp only [bAll, Bool.true_and]
    congr 1
    exact decide_eq_decide.2 (by omega)
  | succ d ih =>
    intro i s k hi hk hb
    obtain ⟨k, rfl⟩ := succ_of hk
    rw [spec_l4Key.l0, if_pos (by omega), if_pos (nat_le0 _), bAll]
    have hr : -9223372036854775808 ≤ (i : Int) + 1 := by omega
    by_cases h1 : bt s i < 46
    · rw [if_pos h1]; simp [KB, show ¬ 46 ≤ bt s i by omega]
    · rw [if_neg h1]
      by_cases h2 : bt s i > 126
      · rw [if_pos h2]; simp [KB, show ¬ bt s i ≤ 126 by omega]
      · rw [if_neg h2]
        by_cases h3 : bt s i = 58
        · rw [if_pos h3]; simp [KB, h3]
        · rw [if_neg h3, wrap_id hr (by omega), show (i : Int) + 1 = ((i + 1 : Nat) : Int) by omega, ih (i + 1) s k (by omega) (by omega) hb]
          simp [KB, show 46 ≤ bt s i by omega, show bt s i ≤ 126 by omega, h3]
theorem l4Key_eq (s : ByteArray) (k : Nat) (hk : s.size < k) (hb : s.size ≤ 4611686018427387904) : spec_l4Key.f k s = some (keyOk s) := l4Key_l0 s.size 0 s k (by omega) hk hb
theorem l4Value_l0 : ∀ (d i : Nat) (s : ByteArray) (k : Nat), i + d = s.size → d < k → s.size ≤ 4611686018427387904 → spec_l4Value.l0 k s (i : Int) = some (bAll VB s d i && decide (s.size ≤ 80)) := by
  intro d
  induction d with
  | zero =>
    intro i s k hi hk hb
    obtain ⟨k, rfl⟩ := succ_of hk
    rw [spec_l4Value.l0, if_neg (by omega)]
    simp only [bAll, Bool.true_and]
    congr 1
    exact decide_eq_decide.2 (by omega)
  | succ d ih =>
    intro i s k hi hk hb
    obtain ⟨k, rfl⟩ := succ_of hk
    rw [spec_l4Value.l0, if_pos (by omega), if_pos (nat_le0 _), bAll]
    have hr : -9223372036854775808 ≤ (i : Int) + 1 := by omega
    by_cases h1 : bt s i < 32
    · rw [if_pos h1]; simp [VB, show ¬ 32 ≤ bt s i by omega]
    · rw [if_neg h1]
      by_cases h2 : bt s i > 126
      · rw [if_pos h2]; simp [VB, show ¬ bt s i ≤ 126 by omega]
      · rw [if_neg h2, wrap_id hr (by omega), show (i : Int) + 1 = ((i + 1 : Nat) : Int) by omega, ih (i + 1) s k (by omega) (by omega) hb]
        simp [VB, show 32 ≤ bt s i by omega, show bt s i ≤ 126 by omega]
theorem l4Value_eq (s : ByteArray) (k : Nat) (hk : s.size < k) (hb : s.size ≤ 4611686018427387904) : spec_l4Value.f k s = some (valOk s) := l4Value_l0 s.size 0 s k (by omega) hk hb
/-- An entry is ok. -/
def okE (x : S_impl_Entry) : Bool := keyOk x.f0 && decide (1 ≤ x.f1 ∧ x.f1 ≤ 99999999) && valOk x.f3 && (!x.f2 || x.f3.toList == [])
theorem l4Ok_eq (x : S_impl_Entry) (k : Nat) (h0 : x.f0.size < k) (h3 : x.f3.size < k) (hb : x.f0.size ≤ 4611686018427387904) (hb3 : x.f3.size ≤ 4611686018427387904) : spec_l4Ok.f k x.f0 x.f1 x.f2 x.f3 = some (okE x) := by
  unfold spec_l4Ok.f okE
  rw [l4Key_eq _ k h0 hb, Option.bind_some, l1In_eq, Option.bind_some, l4Value_eq _ k h3 hb3, Option.bind_some]
  cases keyOk x.f0
  · rfl
  · by_cases h1 : 1 ≤ x.f1 ∧ x.f1 ≤ 99999999
    · rw [if_pos rfl, if_pos (by simpa using h1)]
      cases valOk x.f3
      · simp [h1]
      · cases x.f2 <;> simp [h1]
    · rw [if_pos rfl, if_neg (by simpa using h1)]; simp [h1]
/-- One entry ahead of another. -/
def ltE (x y : S_impl_Entry) : Bool := Op.bytesLess x.f0.toList y.f0.toList || (x.f0.toList == y.f0.toList && decide (x.f1 > y.f1))
theorem l4Less_eq (x y : S_impl_Entry) : spec_l4Less.f x.f0 x.f1 x.f2 x.f3 y.f0 y.f1 y.f2 y.f3 = some (ltE x y) := by
  unfold spec_l4Less.f ltE
  by_cases h : Op.bytesLess x.f0.toList y.f0.toList = true
  · rw [if_pos h]; simp [h]
  · rw [if_neg h]
    by_cases h2 : x.f0.toList = y.f0.toList
    · rw [if_pos h2]; simp [h2, bl_irrefl]
    · rw [if_neg h2]; simp [h2, h]
/-- All ok, each behind the one ahead of it. -/
def okFrom : Option S_impl_Entry → List S_impl_Entry → Bool
  | _, [] => true
  | none, x :: r => okE x && okFrom (some x) r
  | some y, x :: r => okE x && ltE y x && okFrom (some x) r
def okEs (l : List S_impl_Entry) : Bool := okFrom none l && decide (l.length ≤ 240)
theorem rde_last {pre suf : List S_impl_Entry} {y : S_impl_Entry} : rd_impl_Entry (pre ++ [y] ++ suf) (((pre ++ [y]).length : Int) - 1) = y := by simp [rd_impl_Entry]
theorem l4Sorted_l0 : ∀ (suf pre : List S_impl_Entry) (k : Nat), suf.length + 1048577 < k → (pre ++ suf).length ≤ 4611686018427387904 → Sm suf →
    spec_l4Sorted.l0 k (pre ++ suf) (pre.length : Int) = some (okFrom pre.getLast? suf) := by
  intro suf
  induction suf with
  | nil =>
    intro pre k hk hb hs
    obtain ⟨k, rfl⟩ := succ_of (show 0 < k by omega)
    rw [spec_l4Sorted.l0, if_neg end_not_lt]
    cases pre.getLast? <;> rfl
  | cons x suf ih =>
    intro pre k hk hb hs
    obtain ⟨k, rfl⟩ := succ_of (show 0 < k by omega)
    simp only [List.length_cons] at hk
    have hx := hs x (by simp)
    have hl : pre.length ≤ 4611686018427387904 := by simp at hb; omega
    have ih' := ih (pre ++ [x]) k (by omega) (by simpa using hb) (fun y h => hs y (by simp [h]))
    rw [List.getLast?_concat] at ih'
    rw [spec_l4Sorted.l0, if_pos mid_lt, if_pos (nat_le0 _), rde_mid, l4Ok_eq x k (by omega) (by omega) (by omega) (by omega), Option.bind_some]
    rcases List.eq_nil_or_concat pre with rfl | ⟨pre', y, rfl⟩
    · simp only [List.getLast?_nil, okFrom]
      cases okE x
      · rfl
      · rw [if_pos rfl, if_neg (by simp), wrap_snoc (x := x) (by omega), snoc_app (suf := suf), ih']; rfl
    · simp only [List.concat_eq_append] at *
      have e : (((pre' ++ [y]).length : Int)) - 1 = (pre'.length : Int) := by simp
      rw [List.getLast?_concat, okFrom]
      cases okE x
      · rfl
      · rw [if_pos rfl, if_pos (by simp), wrap_id (i := ((pre' ++ [y]).length : Int) - 1) (by omega) (by omega), if_pos (by rw [e]; exact nat_le0 _), if_pos (by rw [e]; simp; omega), rde_last, l4Less_eq, Option.bind_some]
        cases ltE y x
        · rfl
        · rw [if_pos rfl, wrap_snoc (x := x) (by omega), snoc_app (suf := suf), ih']; rfl
theorem spec_EntriesOk_eq (l : List S_impl_Entry) (k : Nat) (hk : l.length + 1048577 < k) (hb : l.length ≤ 4611686018427387904) (hs : Sm l) : spec_EntriesOk.f k l = some (okEs l) := by
  unfold spec_EntriesOk.f spec_l4Sorted.f
  have h := l4Sorted_l0 l [] k hk (by simpa using hb) hs
  simp only [List.nil_append, List.length_nil, Int.natCast_zero, List.getLast?_nil] at h
  rw [h, Option.bind_some]
  unfold okEs
  cases okFrom none l
  · rfl
  · rw [if_pos rfl]
    simp only [Bool.true_and]
    congr 1
    exact decide_eq_decide.2 (by omega)
theorem isBetween_l0 : ∀ (d i : Nat) (s : ByteArray) (lo hi : Int) (k : Nat), i + d = s.size → d < k → s.size ≤ 4611686018427387904 → impl_isBetween.l0 k s lo hi (s.size : Int) (i : Int) = some (bAll (fun b => decide (lo ≤ b) && decide (b ≤ hi)) s d i) := by
  intro d
  induction d with
  | zero =>
    intro i s lo hi k hi' hk hb
    obtain ⟨k, rfl⟩ := succ_of hk
    rw [impl_isBetween.l0, if_neg (by omega)]; rfl
  | succ d ih =>
    intro i s lo hi k hi' hk hb
    obtain ⟨k, rfl⟩ := succ_of hk
    rw [impl_isBetween.l0, if_pos (by omega), if_pos (nat_le0 _), if_pos (by omega), bAll]
    by_cases h1 : bt s i < lo
    · rw [if_pos h1]; simp [show ¬ lo ≤ bt s i by omega]
    · rw [if_neg h1]
      by_cases h2 : bt s i > hi
      · rw [if_pos h2]; simp [show ¬ bt s i ≤ hi by omega]
      · rw [if_neg h2, wrap_id (by omega) (by omega), show (i : Int) + 1 = ((i + 1 : Nat) : Int) by omega, ih (i + 1) s lo hi k (by omega) (by omega) hb]
        simp [show lo ≤ bt s i by omega, show bt s i ≤ hi by omega]
theorem isBetween_eq (s : ByteArray) (lo hi : Int) (k : Nat) (hk : s.size < k) (hb : s.size ≤ 4611686018427387904) : impl_isBetween.f k s lo hi = some (bAll (fun b => decide (lo ≤ b) && decide (b ≤ hi)) s s.size 0) := isBetween_l0 s.size 0 s lo hi k (by omega) hk hb
theorem Contains_eq (s : ByteArray) : strings_Contains.f s ⟨#[58]⟩ = some (!bAll (fun b => decide (b ≠ 58)) s s.size 0) := by
  have e : strings_Contains.f s ⟨#[58]⟩ = some (decide (0 ≤ Lib.indexByte s.data.toList 58)) := rfl
  rw [e]
  congr 1
  rw [← Lib.contains_iff_indexByte, Bool.eq_iff_iff, Bool.not_eq_true', ← Bool.not_eq_true, bAll_iff, List.contains_iff_mem, List.mem_iff_getElem]
  constructor
  · rintro ⟨j, h1, h2⟩ h
    have h3 : j < s.size := by simpa using h1
    have h4 := h j (by omega) (by omega)
    rw [bt_nat s j h3, h2] at h4
    exact absurd h4 (by decide)
  · intro h
    refine Classical.byContradiction fun hn => h fun j h1 h2 => ?_
    rw [bt_nat s j (by omega)]
    simp only [decide_eq_true_eq]
    intro h5
    exact hn ⟨j, by simpa using (show j < s.size by omega), UInt8.toNat_inj.1 (by rw [show (58 : UInt8).toNat = 58 from rfl]; omega)⟩
theorem keyOk_eq (s : ByteArray) : keyOk s = (decide (1 ≤ s.size ∧ s.size ≤ 24) && (bAll (fun b => decide (46 ≤ b) && decide (b ≤ 126)) s s.size 0 && bAll (fun b => decide (b ≠ 58)) s s.size 0)) := by
  unfold keyOk
  rw [Bool.and_comm]
  congr 1
  rw [Bool.eq_iff_iff, Bool.and_eq_true, bAll_iff, bAll_iff, bAll_iff]
  simp only [KB, Bool.and_eq_true]
  exact ⟨fun h => ⟨fun j h1 h2 => (h j h1 h2).1, fun j h1 h2 => (h j h1 h2).2⟩, fun h j h1 h2 => ⟨h.1 j h1 h2, h.2 j h1 h2⟩⟩
theorem isEntry_eq (x : S_impl_Entry) (k : Nat) (h0 : x.f0.size < k) (h3 : x.f3.size < k) (hb : x.f0.size ≤ 4611686018427387904) (hb3 : x.f3.size ≤ 4611686018427387904) : impl_isEntry.f k x.f0 x.f1 x.f2 x.f3 = some (okE x) := by
  unfold impl_isEntry.f okE
  rw [keyOk_eq, isBetween_eq _ _ _ k h0 hb, Option.bind_some, Contains_eq, Option.bind_some, isBetween_eq _ _ _ k h3 hb3, Option.bind_some]
  have hv : valOk x.f3 = (decide (x.f3.size ≤ 80) && bAll (fun b => decide (32 ≤ b) && decide (b ≤ 126)) x.f3 x.f3.size 0) := Bool.and_comm _ _
  rw [hv]
  generalize bAll (fun b => decide (46 ≤ b) && decide (b ≤ 126)) x.f0 x.f0.size 0 = p1
  generalize bAll (fun b => decide (b ≠ 58)) x.f0 x.f0.size 0 = p2
  generalize bAll (fun b => decide (32 ≤ b) && decide (b ≤ 126)) x.f3 x.f3.size 0 = p3
  by_cases h1 : (x.f0.size : Int) < 1
  · rw [if_pos h1]; simp [show ¬ 1 ≤ x.f0.size by omega]
  rw [if_neg h1]
  by_cases h2 : (x.f0.size : Int) > 24
  · rw [if_pos h2]; simp [show ¬ x.f0.size ≤ 24 by omega]
  rw [if_neg h2]
  have hz : (1 ≤ x.f0.size ∧ x.f0.size ≤ 24) = True := by simp; omega
  simp only [hz, decide_true, Bool.true_and]
  cases p1
  · simp
  cases p2
  · simp
  by_cases h4 : x.f1 ≥ 1
  · by_cases h5 : x.f1 ≤ 99999999
    · by_cases h6 : (x.f3.size : Int) ≤ 80
      · have h6' : x.f3.size ≤ 80 := by omega
        have h4' : 1 ≤ x.f1 := h4
        cases p3 <;> cases x.f2 <;> simp [h4', h5, h6, h6']
      · simp [h4, h5, h6, show ¬ x.f3.size ≤ 80 by omega]
    · simp [h5]
  · simp [h4]
theorem orI (k : Nat) (r : Int) : ((cmp_Or_int.l0 (k + 1 + 1 + 1) 0 [0, r] (([0, r] : List Int).length : Int) 0).bind fun t147 => some t147) = some r := by
  have w1 : wrap64 1 = 1 := by unfold wrap64; omega
  have w2 : wrap64 2 = 2 := by unfold wrap64; omega
  by_cases h : r = 0
  · subst h; simp [cmp_Or_int.l0, rd, w1, w2]
  · simp [cmp_Or_int.l0, rd, w1, w2, h]
theorem compareEntries_eq (x y : S_impl_Entry) (k : Nat) (hk : 3 < k) : ∃ r : Int, impl_compareEntries.f k x.f0 x.f1 x.f2 x.f3 y.f0 y.f1 y.f2 y.f3 = some r ∧ (r < 0 ↔ ltE x y = true) ∧ (r = 0 ↔ x.f0 = y.f0 ∧ x.f1 = y.f1) := by
  obtain ⟨k, rfl⟩ := succ_of (show 0 < k by omega)
  obtain ⟨k, rfl⟩ := succ_of (show 0 < k by omega)
  obtain ⟨k, rfl⟩ := succ_of (show 0 < k by omega)
  unfold impl_compareEntries.f cmp_Compare_string.f cmp_Compare_int.f cmp_isNaN_string.f cmp_isNaN_int.f cmp_Or_int.f
  simp only [Option.bind_some, bne_self_eq_false, Bool.false_eq_true, if_false]
  by_cases h1 : Op.bytesLess x.f0.toList y.f0.toList = true
  · simp only [if_pos h1, Option.bind_some]
    refine ⟨-1, ?_, by simp [ltE, h1], ?_⟩
    · split
      · rfl
      · split <;> rfl
    · simp
      rintro e; rw [e, bl_irrefl] at h1; cases h1
  · have h1' : Op.bytesLess x.f0.toList y.f0.toList = false := by simpa using h1
    simp only [if_neg h1]
    by_cases h2 : Op.bytesLess y.f0.toList x.f0.toList = true
    · simp only [if_pos h2, Option.bind_some]
      have hne : x.f0.toList ≠ y.f0.toList := fun e => by rw [e, bl_irrefl] at h2; cases h2
      refine ⟨1, ?_, by simp [ltE, h1', hne], ?_⟩
      · split
        · rfl
        · split <;> rfl
      · simp
        rintro e; rw [e] at hne; exact absurd rfl hne
    · simp only [if_neg h2, Option.bind_some]
      have he : x.f0.toList = y.f0.toList := by
        rcases Decidable.em (x.f0.toList = y.f0.toList) with e | e
        · exact e
        · exact absurd (bl_total h1' e) h2
      have he' := (tl_iff _ _).1 he
      by_cases h3 : y.f1 < x.f1
      · simp only [if_pos h3, Option.bind_some]
        exact ⟨-1, orI k (-1), by simp [ltE, he, h3], by simp; intro _; omega⟩
      · simp only [if_neg h3]
        by_cases h4 : y.f1 > x.f1
        · simp only [if_pos h4, Option.bind_some]
          exact ⟨1, orI k 1, by simp [ltE, he, bl_irrefl]; omega, by simp; intro _; omega⟩
        · simp only [if_neg h4, Option.bind_some]
          exact ⟨0, orI k 0, by simp [ltE, he, bl_irrefl]; omega, by simp [he']; omega⟩
theorem areEntries_l0 : ∀ (suf pre : List S_impl_Entry) (k : Nat), suf.length + 1048577 < k → (pre ++ suf).length ≤ 4611686018427387904 → Sm suf →
    impl_areEntries.l0 k (pre ++ suf) (pre ++ suf) ((pre ++ suf).length : Int) (pre.length : Int) = some (okFrom pre.getLast? suf && decide ((pre ++ suf).length ≤ 240)) := by
  intro suf
  induction suf with
  | nil =>
    intro pre k hk hb hs
    obtain ⟨k, rfl⟩ := succ_of (show 0 < k by omega)
    rw [impl_areEntries.l0, if_neg end_not_lt]
    have : okFrom pre.getLast? [] = true := by cases pre.getLast? <;> rfl
    rw [this, Bool.true_and]
    congr 1
    exact decide_eq_decide.2 (by omega)
  | cons x suf ih =>
    intro pre k hk hb hs
    obtain ⟨k, rfl⟩ := succ_of (show 0 < k by omega)
    simp only [List.length_cons] at hk
    have hx := hs x (by simp)
    have hl : pre.length ≤ 4611686018427387904 := by simp at hb; omega
    have ih' := ih (pre ++ [x]) k (by omega) (by simpa using hb) (fun y h => hs y (by simp [h]))
    rw [List.getLast?_concat] at ih'
    rw [impl_areEntries.l0, if_pos mid_lt, if_pos (nat_le0 _), if_pos mid_lt]
    simp only [rde_mid]
    rw [isEntry_eq x k (by omega) (by omega) (by omega) (by omega), Option.bind_some]
    rcases List.eq_nil_or_concat pre with rfl | ⟨pre', y, rfl⟩
    · simp only [List.getLast?_nil, okFrom]
      cases okE x
      · rfl
      · rw [if_pos rfl, if_neg (by simp), wrap_snoc (x := x) (by omega), snoc_app (suf := suf), ih']; rfl
    · simp only [List.concat_eq_append] at *
      have e : (((pre' ++ [y]).length : Int)) - 1 = (pre'.length : Int) := by simp
      rw [List.getLast?_concat, okFrom]
      cases okE x
      · rfl
      · rw [if_pos rfl, if_pos (by simp), wrap_id (i := ((pre' ++ [y]).length : Int) - 1) (by omega) (by omega), if_pos (by rw [e]; exact nat_le0 _), if_pos (by rw [e]; simp; omega), rde_last]
        obtain ⟨r, hr, hlt, -⟩ := compareEntries_eq y x k (by omega)
        rw [hr, Option.bind_some]
        cases hh : ltE y x
        · have : ¬ r < 0 := fun h => by rw [hlt.1 h] at hh; cases hh
          rw [if_pos (by omega)]; rfl
        · have := hlt.2 hh
          rw [if_neg (by omega), wrap_snoc (x := x) (by omega), snoc_app (suf := suf), ih']; rfl
theorem areEntries_eq (l : List S_impl_Entry) (k : Nat) (hk : l.length + 1048577 < k) (hb : l.length ≤ 4611686018427387904) (hs : Sm l) : impl_areEntries.f k l = some (okEs l) := by
  have h := areEntries_l0 l [] k hk (by simpa using hb) hs
  simpa [impl_areEntries.f, okEs] using h
end Go.Proofs.Ytjdhphpjbakddaa.V
/- A look at many keys at a moment. -/
namespace Go.Proofs.Ytjdhphpjbakddaa.V
open Go.RowKit Go.Proofs.Ytjdhphpjbakddaa.P Go.Proofs.YtjdhphpjbakddaaW.PrintWords Go.Proofs.YtjdhphpjbakddaaW.PrintMore
theorem ltE_trans {x y z : S_impl_Entry} (h1 : ltE x y = true) (h2 : ltE y z = true) : ltE x z = true := by
  simp only [ltE, Bool.or_eq_true, Bool.and_eq_true, beq_iff_eq, decide_eq_true_eq] at *
  rcases h1 with h1 | ⟨h1, h1'⟩
  · rcases h2 with h2 | ⟨h2, h2'⟩
    · exact .inl (bl_trans h1 h2)
    · exact .inl (h2 ▸ h1)
  · rcases h2 with h2 | ⟨h2, h2'⟩
    · exact .inl (h1 ▸ h2)
    · exact .inr ⟨h1.trans h2, by omega⟩
theorem okFrom_cons {p : Option S_impl_Entry} {x : S_impl_Entry} {r : List S_impl_Entry} (h : okFrom p (x :: r) = true) : okE x = true ∧ okFrom (some x) r = true := by
  cases p with
  | none => simpa [okFrom] using h
  | some z =>
    simp only [okFrom, Bool.and_eq_true] at h
    exact ⟨h.1.1, h.2⟩
theorem okFrom_lt : ∀ (l : List S_impl_Entry) (q : S_impl_Entry), okFrom (some q) l = true → ∀ y ∈ l, ltE q y = true
  | [], _, _, y, hy => by cases hy
  | x :: r, q, h, y, hy => by
    have hc := okFrom_cons h
    simp only [okFrom, Bool.and_eq_true] at h
    rcases List.mem_cons.1 hy with rfl | hy
    · exact h.1.2
    · exact ltE_trans h.1.2 (okFrom_lt r x hc.2 y hy)
def st (s p : ByteArray) : Bool := decide (p.size ≤ s.size) && ((s.extract 0 p.size).toList == p.toList)
end Go.Proofs.Ytjdhphpjbakddaa.V
/- Drawn entries: always some, and small. -/
namespace Go.Proofs.Ytjdhphpjbakddaa.V
open Go.RowKit Go.Proofs.Ytjdhphpjbakddaa.P Go.Proofs.YtjdhphpjbakddaaW.PrintWords Go.Proofs.YtjdhphpjbakddaaW.PrintMore
/-- Whether an entry of a key and moment is there. -/
def hasE (l : List S_impl_Entry) (s : ByteArray) (m : Int) : Bool := l.any fun x => decide (x.f0 = s ∧ x.f1 = m)
theorem l4Has_l0 (e0 : ByteArray) (e1 : Int) (e2 : Bool) (e3 : ByteArray) : ∀ (suf pre : List S_impl_Entry) (k : Nat), suf.length < k → (pre ++ suf).length ≤ 4611686018427387904 →
    spec_l4Has.l0 k (pre ++ suf) (pre.length : Int) e0 e1 e2 e3 = some (hasE suf e0 e1) := by
  intro suf
  induction suf with
  | nil =>
    intro pre k hk hb
    obtain ⟨k, rfl⟩ := succ_of hk
    rw [spec_l4Has.l0, if_neg end_not_lt]; rfl
  | cons x suf ih =>
    intro pre k hk hb
    obtain ⟨k, rfl⟩ := succ_of hk
    have ih' := ih (pre ++ [x]) k (by simpa using hk) (by simpa using hb)
    rw [spec_l4Has.l0, if_pos mid_lt, if_pos (nat_le0 _)]
    simp only [rde_mid, tl_iff]
    rw [wrap_snoc (x := x) (by simp at hb; omega), snoc_app (suf := suf), ih']
    have hc : hasE (x :: suf) e0 e1 = (decide (x.f0 = e0 ∧ x.f1 = e1) || hasE suf e0 e1) := rfl
    rw [hc]
    by_cases h1 : x.f0 = e0
    · by_cases h2 : x.f1 = e1
      · rw [if_pos h1, if_pos h2]; simp [h1, h2]
      · rw [if_pos h1, if_neg h2]; simp [h2]
    · rw [if_neg h1]; simp [h1]
theorem l4Has_eq (l : List S_impl_Entry) (x : S_impl_Entry) (k : Nat) (hk : l.length < k) (hb : l.length ≤ 4611686018427387904) : spec_l4Has.f k l x.f0 x.f1 x.f2 x.f3 = some (hasE l x.f0 x.f1) := by
  have h := l4Has_l0 x.f0 x.f1 x.f2 x.f3 l [] k hk (by simpa using hb)
  simpa [spec_l4Has.f] using h
/-- Put in where it belongs: behind all that are ahead of it. -/
def putE : List S_impl_Entry → S_impl_Entry → List S_impl_Entry
  | [], e => [e]
  | x :: r, e => if ltE x e = true then x :: putE r e else e :: x :: r
theorem putE_length : ∀ (l : List S_impl_Entry) (e : S_impl_Entry), (putE l e).length = l.length + 1
  | [], _ => rfl
  | x :: r, e => by
    rw [putE]; split
    · simp [putE_length r e]
    · simp
theorem putE_mem : ∀ (l : List S_impl_Entry) (e y : S_impl_Entry), y ∈ putE l e ↔ y = e ∨ y ∈ l
  | [], e, y => by simp [putE]
  | x :: r, e, y => by
    rw [putE]; split
    · simp [putE_mem r e y]
      constructor
      · rintro (h | h | h) <;> simp [h]
      · rintro (h | h | h) <;> simp [h]
    · simp
theorem l4Put_l0 (e : S_impl_Entry) : ∀ (suf pre : List S_impl_Entry) (k : Nat), suf.length < k → (pre ++ suf).length ≤ 1000000000 →
    spec_l4Put.l0 k (pre ++ suf) (pre.length : Int) e.f0 e.f1 e.f2 e.f3 = some (pre ++ putE suf e) := by
  intro suf
  induction suf with
  | nil =>
    intro pre k hk hb
    obtain ⟨k, rfl⟩ := succ_of hk
    simp at hb
    rw [spec_l4Put.l0, if_neg end_not_lt]
    simp only [Option.bind_some, List.append_nil, Int.toNat_natCast, List.take_length, List.drop_length, List.nil_append, List.length_nil, List.length_append, List.length_cons]
    rw [if_pos (nat_le0 _), if_pos (by omega), if_pos (by omega), if_pos (by omega), if_pos (by omega)]; rfl
  | cons x suf ih =>
    intro pre k hk hb
    obtain ⟨k, rfl⟩ := succ_of hk
    have ih' := ih (pre ++ [x]) k (by simpa using hk) (by simpa using hb)
    rw [spec_l4Put.l0, if_pos mid_lt, if_pos (nat_le0 _)]
    simp only [rde_mid, l4Less_eq, Option.bind_some]
    rw [putE]
    have hb' : pre.length + (suf.length + 1) ≤ 1000000000 := by simpa using hb
    by_cases h : ltE x e = true
    · rw [if_pos h, if_pos h, wrap_snoc (x := x) (by omega), snoc_app (suf := suf), ih']; simp
    · have ht : (pre ++ x :: suf).take (pre.length : Int).toNat = pre := by simp
      have hd : (pre ++ x :: suf).drop (pre.length : Int).toNat = x :: suf := by simp
      rw [if_neg h, if_neg h, ht, hd]
      simp only [List.nil_append, List.length_nil, List.length_append, List.length_cons]
      rw [if_pos (by omega), if_pos (by omega), if_pos (by omega), if_pos (by omega)]
      simp
theorem l4Put_eq (l : List S_impl_Entry) (e : S_impl_Entry) (k : Nat) (hk : l.length < k) (hb : l.length ≤ 1000000000) : spec_l4Put.f k l e.f0 e.f1 e.f2 e.f3 = some (putE l e) := by
  have h := l4Put_l0 e l [] k hk (by simpa using hb)
  simpa [spec_l4Put.f] using h
section
variable {s : List Int}
end
end Go.Proofs.Ytjdhphpjbakddaa.V
/- Trimmed entries: what stays, as_ a filter; what a look at many tells, as_ a filter. -/
namespace Go.Proofs.Ytjdhphpjbakddaa.V
open Go.RowKit Go.Proofs.Ytjdhphpjbakddaa.P Go.Proofs.YtjdhphpjbakddaaW.PrintWords Go.Proofs.YtjdhphpjbakddaaW.PrintMore
def Srt (l : List S_impl_Entry) : Prop := l.Pairwise (fun a b => ltE a b = true)
theorem srt_of_okFrom : ∀ (l : List S_impl_Entry) (q : Option S_impl_Entry), okFrom q l = true → Srt l
  | [], _, _ => List.Pairwise.nil
  | x :: r, q, h => by
    have h2 := (okFrom_cons h).2
    exact List.pairwise_cons.2 ⟨fun y hy => okFrom_lt r x h2 y hy, srt_of_okFrom r _ h2⟩
theorem okEs_srt {l : List S_impl_Entry} (h : okEs l = true) : Srt l := by
  unfold okEs at h
  simp only [Bool.and_eq_true] at h
  exact srt_of_okFrom l none h.1
theorem okEs_len {l : List S_impl_Entry} (h : okEs l = true) : l.length ≤ 240 := by
  unfold okEs at h
  simp only [Bool.and_eq_true, decide_eq_true_eq] at h
  exact h.2
/-- Is there a newer one of its key, not above a moment? -/
def hid (l : List S_impl_Entry) (m : Int) (x : S_impl_Entry) : Bool := l.any fun y => decide (y.f0 = x.f0 ∧ x.f1 < y.f1 ∧ y.f1 ≤ m)
/-- Told by a look at many. -/
def told (l : List S_impl_Entry) (p : ByteArray) (m : Int) (x : S_impl_Entry) : Bool := decide (x.f1 ≤ m) && st x.f0 p && !x.f2 && !hid l m x
section
variable {P : ByteArray → Prop} {m : Int} {pre suf : List S_impl_Entry} {last : ByteArray} {x : S_impl_Entry}
end
section
variable {l : List S_impl_Entry} {fl : Int} {bot : Bool}
end
end Go.Proofs.Ytjdhphpjbakddaa.V
/- One more entry; two lists together: what comes of it. -/
namespace Go.Proofs.Ytjdhphpjbakddaa.V
open Go.RowKit Go.Proofs.Ytjdhphpjbakddaa.P Go.Proofs.YtjdhphpjbakddaaW.PrintWords Go.Proofs.YtjdhphpjbakddaaW.PrintMore
theorem ltE_irrefl (x : S_impl_Entry) : ltE x x = false := by
  simp [ltE, bl_irrefl]
theorem ltE_total {x y : S_impl_Entry} (h : ltE x y = false) (hn : ¬ (x.f0 = y.f0 ∧ x.f1 = y.f1)) : ltE y x = true := by
  simp only [ltE, Bool.or_eq_false_iff, Bool.and_eq_false_iff, decide_eq_false_iff_not, beq_eq_false_iff_ne, Bool.or_eq_true, Bool.and_eq_true, beq_iff_eq, decide_eq_true_eq] at h ⊢
  by_cases he : x.f0 = y.f0
  · have h2 : ¬ x.f1 > y.f1 := by
      rcases h.2 with h2 | h2
      · exact absurd (by rw [he]) h2
      · exact h2
    exact .inr ⟨by rw [he], by have : x.f1 ≠ y.f1 := fun e => hn ⟨he, e⟩; omega⟩
  · exact .inl (bl_total h.1 (fun e => he ((tl_iff _ _).1 e)))
theorem ltE_congr {x y z : S_impl_Entry} (h0 : y.f0 = z.f0) (h1 : y.f1 = z.f1) : ltE x y = ltE x z := by unfold ltE; rw [h0, h1]
theorem hasE_iff {l : List S_impl_Entry} {s : ByteArray} {m : Int} : hasE l s m = true ↔ ∃ x ∈ l, x.f0 = s ∧ x.f1 = m := by simp [hasE]
theorem hasE_not {l : List S_impl_Entry} {s : ByteArray} {m : Int} (h : hasE l s m = false) : ∀ x ∈ l, ¬ (x.f0 = s ∧ x.f1 = m) := fun x hx hh => by
  rw [hasE_iff.2 ⟨x, hx, hh⟩] at h; cases h
theorem putE_srt : ∀ (l : List S_impl_Entry) (e : S_impl_Entry), Srt l → hasE l e.f0 e.f1 = false → Srt (putE l e)
  | [], e, _, _ => List.pairwise_singleton _ _
  | x :: r, e, h, hn => by
    have h1 := List.pairwise_cons.1 h
    have hnr : hasE r e.f0 e.f1 = false := by
      rw [← Bool.not_eq_true]
      intro h2
      obtain ⟨y, hy, h3⟩ := hasE_iff.1 h2
      exact hasE_not hn y (by simp [hy]) h3
    rw [putE]
    by_cases hx : ltE x e = true
    · rw [if_pos hx]
      refine List.pairwise_cons.2 ⟨fun y hy => ?_, putE_srt r e h1.2 hnr⟩
      rcases (putE_mem _ _ _).1 hy with rfl | hy
      · exact hx
      · exact h1.1 y hy
    · rw [if_neg hx]
      have hex := ltE_total (by simpa using hx) (hasE_not hn x (by simp))
      refine List.pairwise_cons.2 ⟨fun y hy => ?_, h⟩
      rcases List.mem_cons.1 hy with rfl | hy
      · exact hex
      · exact ltE_trans hex (h1.1 y hy)
/-- Where it goes: behind all that are ahead of it. -/
def pos (l : List S_impl_Entry) (e : S_impl_Entry) : Nat := (l.takeWhile (ltE · e)).length
theorem pos_le (l : List S_impl_Entry) (e : S_impl_Entry) : pos l e ≤ l.length := (List.takeWhile_sublist _).length_le
theorem putE_pos : ∀ (l : List S_impl_Entry) (e : S_impl_Entry), putE l e = l.take (pos l e) ++ e :: l.drop (pos l e)
  | [], e => rfl
  | x :: r, e => by
    unfold pos
    rw [putE, List.takeWhile_cons]
    by_cases h : ltE x e = true
    · rw [if_pos h, if_pos h, putE_pos r e]; rfl
    · rw [if_neg h, if_neg h]; rfl
theorem pos_lt {l : List S_impl_Entry} {e : S_impl_Entry} (hs : Srt l) {h : Nat} (hh : h < l.length) : ltE l[h] e = true ↔ h < pos l e := by
  induction l generalizing h with
  | nil => simp at hh
  | cons x r ih =>
    have h1 := List.pairwise_cons.1 hs
    unfold pos
    rw [List.takeWhile_cons]
    by_cases hx : ltE x e = true
    · rw [if_pos hx, List.length_cons]
      cases h with
      | zero => exact ⟨fun _ => by omega, fun _ => hx⟩
      | succ h =>
        have := ih h1.2 (h := h) (by simpa using hh)
        unfold pos at this
        rw [List.getElem_cons_succ, this]; omega
    · rw [if_neg hx, List.length_nil]
      constructor
      · intro h2
        refine absurd ?_ hx
        cases h with
        | zero => exact h2
        | succ h => exact ltE_trans (h1.1 _ (List.getElem_mem (by simpa using hh))) h2
      · intro h2; omega
theorem pos_has {l : List S_impl_Entry} {e : S_impl_Entry} (hs : Srt l) : hasE l e.f0 e.f1 = true ↔ ∃ h : pos l e < l.length, l[pos l e].f0 = e.f0 ∧ l[pos l e].f1 = e.f1 := by
  rw [hasE_iff]
  constructor
  · rintro ⟨x, hx, h0, h1⟩
    obtain ⟨j, hj, rfl⟩ := List.getElem_of_mem hx
    have h2 : ¬ j < pos l e := fun h => by
      have h3 := (pos_lt hs hj).2 h
      rw [ltE_congr (z := l[j]) h0.symm h1.symm, ltE_irrefl] at h3
      cases h3
    have hp : pos l e < l.length := by omega
    rcases Nat.lt_or_ge (pos l e) j with h3 | h3
    · exfalso
      have h4 : ltE l[pos l e] l[j] = true := List.pairwise_iff_getElem.1 hs _ _ hp hj h3
      rw [ltE_congr h0 h1, pos_lt hs hp] at h4
      omega
    · have : j = pos l e := by omega
      subst this
      exact ⟨hp, h0, h1⟩
  · rintro ⟨h, h0, h1⟩
    exact ⟨_, List.getElem_mem h, h0, h1⟩
def joinE : List S_impl_Entry → List S_impl_Entry → List S_impl_Entry
  | a, [] => a
  | a, e :: r => joinE (if hasE a e.f0 e.f1 = true then a else putE a e) r
theorem joinE_step_srt {a : List S_impl_Entry} {e : S_impl_Entry} (h : Srt a) : Srt (if hasE a e.f0 e.f1 = true then a else putE a e) := by
  by_cases hh : hasE a e.f0 e.f1 = true
  · rw [if_pos hh]; exact h
  · rw [if_neg hh]; exact putE_srt a e h (by simpa using hh)
theorem joinE_len : ∀ (b a : List S_impl_Entry), (joinE a b).length ≤ a.length + b.length
  | [], _ => by simp [joinE]
  | e :: r, a => by
    rw [joinE]
    have := joinE_len r (if hasE a e.f0 e.f1 = true then a else putE a e)
    have h2 : (if hasE a e.f0 e.f1 = true then a else putE a e).length ≤ a.length + 1 := by
      split
      · omega
      · rw [putE_length]; omega
    simp; omega
theorem joinE_mem : ∀ (b a : List S_impl_Entry), (∀ x ∈ joinE a b, x ∈ a ∨ x ∈ b) ∧ (∀ x ∈ a, x ∈ joinE a b)
  | [], a => ⟨fun x hx => .inl hx, fun x hx => hx⟩
  | e :: r, a => by
    obtain ⟨h1, h2⟩ := joinE_mem r (if hasE a e.f0 e.f1 = true then a else putE a e)
    rw [joinE]
    constructor
    · intro x hx
      rcases h1 x hx with h | h
      · by_cases hh : hasE a e.f0 e.f1 = true
        · rw [if_pos hh] at h; exact .inl h
        · rw [if_neg hh, putE_mem] at h
          rcases h with rfl | h
          · exact .inr (by simp)
          · exact .inl h
      · exact .inr (by simp [h])
    · intro x hx
      refine h2 x ?_
      by_cases hh : hasE a e.f0 e.f1 = true
      · rw [if_pos hh]; exact hx
      · rw [if_neg hh, putE_mem]; exact .inr hx
/-- What two lists together are, and whether they can be. -/
def joinR (a b : List S_impl_Entry) : List S_impl_Entry × Bool := if okEs a = true ∧ okEs b = true ∧ okEs (joinE a b) = true then (joinE a b, true) else ([], false)
end Go.Proofs.Ytjdhphpjbakddaa.V
/- Both ways to put one more entry in, and to lay two lists together, are the same. -/
namespace Go.Proofs.Ytjdhphpjbakddaa.V
open Go.RowKit Go.Proofs.Ytjdhphpjbakddaa.P Go.Proofs.YtjdhphpjbakddaaW.PrintWords Go.Proofs.YtjdhphpjbakddaaW.PrintMore
theorem szEntryS_eq2 (l : List S_laws_Entry) (left : Int) (k : Nat) (hk : l.length < k) (h0 : 0 ≤ left) (h1 : left ≤ 1048576) (g : l.length ≤ 9223372036854775807 ∧ ∀ y ∈ l, Good_laws_Entry y) :
    ∃ r : Int, laws_szEntryS.f k l left = some r ∧ (0 ≤ r → l.length ≤ 1048576 ∧ Sm (l.map ce) ∧ r ≤ left) := by
  unfold laws_szEntryS.f
  rw [wrap_id (by omega) (by omega)]
  by_cases hl : left - l.length < 0
  · rw [if_pos hl]; exact ⟨-1, rfl, fun h => by omega⟩
  · rw [if_neg hl]
    have h := szEntryS_l0 l [] (left - l.length) k hk (by omega) (by omega) g.2 (by simp; omega)
    exact ⟨_, by simpa using h, fun h2 => ⟨by omega, szE_small l _ (by omega) h2, by have := szE_pos l _ h2; omega⟩⟩
theorem half (a b : Nat) (h : a + b ≤ 1000000000000) : wrap64 ((IntKind.u64.wrap (wrap64 ((a : Int) + (b : Int)))) / 2) = (((a + b) / 2 : Nat) : Int) := by
  rw [wrap_id (i := (a : Int) + b) (by omega) (by omega), IntKind.wrap_u64, wrap_id (by omega) (by omega)]
  omega
theorem rde_at {l : List S_impl_Entry} {h : Nat} (hh : h < l.length) : rd_impl_Entry l (h : Int) = l[h] := by simp [rd_impl_Entry, hh]
theorem Entry72_l0 (l : List S_impl_Entry) (e : S_impl_Entry) (hs : Srt l) (hl : l.length ≤ 1000000) : ∀ (d i j k : Nat), j - i ≤ d → d + 10 < k → i ≤ pos l e → pos l e ≤ j → j ≤ l.length →
    impl_Entry_72.l0 k l (l.length : Int) (i : Int) (j : Int) e.f0 e.f1 e.f2 e.f3 = some ((pos l e : Int), hasE l e.f0 e.f1) := by
  intro d
  induction d with
  | zero =>
    intro i j k hd hk h1 h2 h3
    obtain ⟨k, rfl⟩ := succ_of hk
    have hi : i = pos l e := by omega
    have hj : j = pos l e := by omega
    subst hi; subst hj
    rw [impl_Entry_72.l0, if_neg (by omega)]
    by_cases hp : pos l e < l.length
    · obtain ⟨r, hr, _, hr0⟩ := compareEntries_eq l[pos l e] e k (by omega)
      rw [if_pos (by omega), if_pos (by omega), if_pos (by omega), rde_at hp, hr, Option.bind_some]
      congr 2
      rw [Bool.eq_iff_iff, beq_iff_eq, hr0, pos_has hs]
      exact ⟨fun h => ⟨hp, h⟩, fun ⟨_, h⟩ => h⟩
    · rw [if_neg (by omega)]
      congr 2
      symm
      rw [← Bool.not_eq_true, pos_has hs]
      rintro ⟨h, _⟩
      exact hp h
  | succ d ih =>
    intro i j k hd hk h1 h2 h3
    obtain ⟨k, rfl⟩ := succ_of hk
    by_cases hij : i < j
    · have hh : (i + j) / 2 < l.length := by omega
      rw [impl_Entry_72.l0, if_pos (by omega), half i j (by omega), if_pos (by omega), if_pos (by omega), rde_at hh]
      obtain ⟨r, hr, hr1, _⟩ := compareEntries_eq l[(i + j) / 2] e k (by omega)
      rw [hr, Option.bind_some]
      rw [pos_lt hs hh] at hr1
      by_cases hlt : r < 0
      · rw [if_pos hlt, show wrap64 ((((i + j) / 2 : Nat) : Int) + 1) = (((i + j) / 2 + 1 : Nat) : Int) by rw [wrap_id (by omega) (by omega)]; omega]
        exact ih _ _ k (by omega) (by omega) (hr1.1 hlt) h2 h3
      · rw [if_neg hlt]
        have hge : ¬ (i + j) / 2 < pos l e := fun h => hlt (hr1.2 h)
        exact ih _ _ k (by omega) (by omega) h1 (by omega) (by omega)
    · exact ih i j (k + 1) (by omega) (by omega) h1 h2 h3
theorem Entry72_eq (l : List S_impl_Entry) (e : S_impl_Entry) (hs : Srt l) (hl : l.length ≤ 1000000) (k : Nat) (hk : l.length + 10 < k) : impl_Entry_72.f k l e.f0 e.f1 e.f2 e.f3 = some ((pos l e : Int), hasE l e.f0 e.f1) := by
  unfold impl_Entry_72.f
  exact Entry72_l0 l e hs hl l.length 0 l.length k (by omega) hk (Nat.zero_le _) (pos_le l e) (Nat.le_refl _)
theorem Entry73_eq (l : List S_impl_Entry) (e : S_impl_Entry) (hl : l.length ≤ 1000000) : impl_Entry_73.f l (pos l e : Int) [e] = some (putE l e) := by
  unfold impl_Entry_73.f
  have := pos_le l e
  dsimp only
  rw [if_pos ⟨by omega, by omega, by omega⟩, putE_pos]
  rfl
theorem memPut_eq (l : List S_impl_Entry) (e : S_impl_Entry) (hs : Srt l) (hl : l.length ≤ 1000000) (k : Nat) (hk : l.length + 10 < k) : impl_memPut.f k l e.f0 e.f1 e.f2 e.f3 = some (if hasE l e.f0 e.f1 = true then l else putE l e, !hasE l e.f0 e.f1) := by
  unfold impl_memPut.f
  rw [Entry72_eq l e hs hl k hk, Option.bind_some]
  by_cases hh : hasE l e.f0 e.f1 = true
  · rw [if_pos hh, if_pos hh, hh]; rfl
  · rw [if_neg hh, if_neg hh, Option.bind_some, if_pos (by rw [List.length_nil]; omega), List.nil_append]
    show (impl_Entry_73.f l (pos l e : Int) [e]).bind _ = _
    rw [Entry73_eq l e hl, Option.bind_some, (by simpa using hh : hasE l e.f0 e.f1 = false)]
    rfl
theorem joinE_cons (a : List S_impl_Entry) (e : S_impl_Entry) (r : List S_impl_Entry) : joinE a (e :: r) = joinE (if hasE a e.f0 e.f1 = true then a else putE a e) r := by rw [joinE]
theorem step_len (a : List S_impl_Entry) (e : S_impl_Entry) : (if hasE a e.f0 e.f1 = true then a else putE a e).length ≤ a.length + 1 := by
  split
  · omega
  · rw [putE_length]; exact Nat.le_refl _
theorem memJoin_l0 : ∀ (suf pre a : List S_impl_Entry) (k : Nat), a.length + 2 * suf.length + 20 < k → (pre ++ suf).length ≤ 1000000 → a.length + suf.length ≤ 1000000 → Srt a →
    impl_memJoin.l0 k a (pre ++ suf) ((pre ++ suf).length : Int) (pre.length : Int) = some (joinE a suf) := by
  intro suf
  induction suf with
  | nil =>
    intro pre a k hk hb ha hs
    obtain ⟨k, rfl⟩ := succ_of hk
    rw [impl_memJoin.l0, if_neg end_not_lt]; rfl
  | cons x suf ih =>
    intro pre a k hk hb ha hs
    obtain ⟨k, rfl⟩ := succ_of hk
    simp only [List.length_cons] at hk ha
    have hst := step_len a x
    rw [impl_memJoin.l0, if_pos mid_lt, if_pos (nat_le0 _), if_pos mid_lt, rde_mid, memPut_eq a x hs (by omega) k (by omega), Option.bind_some, wrap_snoc (x := x) (by simp at hb; omega), snoc_app,
      ih (pre ++ [x]) _ k (by show (if hasE a x.f0 x.f1 = true then a else putE a x).length + _ + _ < k; omega) (by simpa using hb) (by show (if hasE a x.f0 x.f1 = true then a else putE a x).length + _ ≤ _; omega) (joinE_step_srt hs), joinE_cons]
theorem memJoin_eq (a b : List S_impl_Entry) (k : Nat) (hk : a.length + 2 * b.length + 20 < k) (ha : a.length + b.length ≤ 1000000) (hs : Srt a) : impl_memJoin.f k a b = some (joinE a b) := by
  unfold impl_memJoin.f
  rw [Option.bind_some, if_pos (by rw [List.length_nil]; omega), List.nil_append]
  exact memJoin_l0 b [] a k hk (by simp; omega) ha hs
theorem l4Join_l0 : ∀ (suf pre a : List S_impl_Entry) (k : Nat), a.length + 2 * suf.length + 20 < k → (pre ++ suf).length ≤ 1000000 → a.length + suf.length ≤ 1000000 →
    spec_l4Join.l0 k (pre ++ suf) a (pre.length : Int) = some (joinE a suf) := by
  intro suf
  induction suf with
  | nil =>
    intro pre a k hk hb ha
    obtain ⟨k, rfl⟩ := succ_of hk
    rw [spec_l4Join.l0, if_neg end_not_lt]; rfl
  | cons x suf ih =>
    intro pre a k hk hb ha
    obtain ⟨k, rfl⟩ := succ_of hk
    simp only [List.length_cons] at hk ha
    rw [spec_l4Join.l0, if_pos mid_lt, if_pos (nat_le0 _), rde_mid, l4Has_eq a x k (by omega) (by omega), Option.bind_some, l4Put_eq a x k (by omega) (by omega), Option.bind_some, wrap_snoc (x := x) (by simp at hb; omega), snoc_app, joinE_cons]
    by_cases hh : hasE a x.f0 x.f1 = true
    · rw [if_pos hh, if_pos hh, ih (pre ++ [x]) a k (by omega) (by simpa using hb) (by omega)]
    · rw [if_neg hh, if_neg hh, ih (pre ++ [x]) _ k (by rw [putE_length]; omega) (by simpa using hb) (by rw [putE_length]; omega)]
theorem l4Join_eq (a b : List S_impl_Entry) (k : Nat) (hk : a.length + 2 * b.length + 20 < k) (ha : a.length + b.length ≤ 1000000) : spec_l4Join.f k a b = some (joinE a b) := by
  unfold spec_l4Join.f
  rw [Option.bind_some, if_pos (by rw [List.length_nil]; omega), List.nil_append]
  exact l4Join_l0 b [] a k hk (by simp; omega) ha
theorem Sm_join {a b : List S_impl_Entry} (ha : Sm a) (hb : Sm b) : Sm (joinE a b) := fun x hx => by
  rcases (joinE_mem b a).1 x hx with h | h
  · exact ha x h
  · exact hb x h
theorem joinR_len (a b : List S_impl_Entry) : (joinR a b).1.length ≤ a.length + b.length := by
  unfold joinR
  split
  · exact joinE_len b a
  · simp
theorem impl_MemJoin_eq (a b : List S_impl_Entry) (k : Nat) (hk : a.length + 2 * b.length + 1048700 < k) (ha : a.length + b.length ≤ 1000000000) (hsa : Sm a) (hsb : Sm b) : impl_MemJoin.f k a b = some (joinR a b) := by
  obtain ⟨k, rfl⟩ := succ_of hk
  unfold impl_MemJoin.f joinR
  rw [areEntries_eq a (k + 1) (by omega) (by omega) hsa, areEntries_eq b (k + 1) (by omega) (by omega) hsb, Option.bind_some, Option.bind_some]
  by_cases h0 : okEs a = true
  · rw [if_pos h0]
    by_cases h1 : okEs b = true
    · have := okEs_len h0
      have := okEs_len h1
      have := joinE_len b a
      rw [h1, impl_MemJoin.j0, if_neg (by simp), memJoin_eq a b k (by omega) (by omega) (okEs_srt h0), Option.bind_some, areEntries_eq _ k (by omega) (by omega) (Sm_join hsa hsb), Option.bind_some]
      by_cases h2 : okEs (joinE a b) = true
      · rw [if_pos h2, if_pos ⟨h0, rfl, h2⟩]
      · rw [if_neg h2, if_neg (fun h => h2 h.2.2)]
    · have h1' : okEs b = false := by simpa using h1
      rw [h1', impl_MemJoin.j0, if_pos (by rfl), if_neg (by simp)]
  · rw [if_neg h0, impl_MemJoin.j0, if_pos rfl, if_neg (fun h => h0 h.1)]
theorem spec_MemJoin_eq (a b : List S_impl_Entry) (k : Nat) (hk : a.length + 2 * b.length + 1048700 < k) (ha : a.length + b.length ≤ 1000000000) (hsa : Sm a) (hsb : Sm b) : spec_MemJoin.f k a b = some (joinR a b) := by
  obtain ⟨k, rfl⟩ := succ_of hk
  unfold spec_MemJoin.f joinR
  rw [spec_EntriesOk_eq a (k + 1) (by omega) (by omega) hsa, spec_EntriesOk_eq b (k + 1) (by omega) (by omega) hsb, Option.bind_some, Option.bind_some]
  by_cases h0 : okEs a = true
  · rw [if_pos h0]
    by_cases h1 : okEs b = true
    · have := okEs_len h0
      have := okEs_len h1
      have := joinE_len b a
      rw [h1, spec_MemJoin.j0, if_neg (by simp), l4Join_eq a b k (by omega) (by omega), Option.bind_some, spec_EntriesOk_eq _ k (by omega) (by omega) (Sm_join hsa hsb), Option.bind_some]
      by_cases h2 : okEs (joinE a b) = true
      · rw [if_pos h2, if_pos ⟨h0, rfl, h2⟩]
      · rw [if_neg h2, if_neg (fun h => h2 h.2.2)]
    · have h1' : okEs b = false := by simpa using h1
      rw [h1', spec_MemJoin.j0, if_pos (by rfl), if_neg (by simp)]
  · rw [if_neg h0, spec_MemJoin.j0, if_pos rfl, if_neg (fun h => h0 h.1)]
end Go.Proofs.Ytjdhphpjbakddaa.V
/- The plain statement of FnExactMemJoin: the program lays two lists together as_ the reference does, into memory of its own. -/
namespace Go.Proofs.Ytjdhphpjbakddaa.Pure
open Go.RowKit Go.Proofs.Ytjdhphpjbakddaa.P Go.Proofs.Ytjdhphpjbakddaa.V Go.Proofs.YtjdhphpjbakddaaW.PrintWords Go.Proofs.YtjdhphpjbakddaaW.PrintLast
theorem FnExactMemJoin : laws_FnExactMemJoin.Pure := by
  intro l m g g2
  obtain ⟨K, hK⟩ : ∃ K, K = l.length + 2 * m.length + 2100000 := ⟨_, rfl⟩
  refine ⟨K + 1 + 1 + 1, ?_⟩
  obtain ⟨r, e, h⟩ := szEntryS_eq2 l 1048576 (K + 1 + 1 + 1) (by omega) (by omega) (by omega) g
  unfold laws_FnExactMemJoin.f
  rw [e, Option.bind_some]
  by_cases hr : r < 0
  · rw [if_pos hr]
  rw [if_neg hr]
  obtain ⟨hl, hm, hle⟩ := h (by omega)
  obtain ⟨r2, e2, hh2⟩ := szEntryS_eq2 m r (K + 1 + 1 + 1) (by omega) (by omega) hle g2
  rw [e2, Option.bind_some]
  by_cases hr2 : r2 < 0
  · rw [if_pos hr2]
  rw [if_neg hr2]
  obtain ⟨hl2, hm2, -⟩ := hh2 (by omega)
  have hbm : (l.map ce).length = l.length := by simp
  have hbm2 : (m.map ce).length = m.length := by simp
  have hto := fun k (hk : l.length + 2 * m.length + 1050000 < k) => toEntryS_eq l k (by omega) hl
  have hto2 := fun k (hk : l.length + 2 * m.length + 1050000 < k) => toEntryS_eq m k (by omega) hl2
  generalize l.map ce = l' at hbm hto hm
  generalize m.map ce = m' at hbm2 hto2 hm2
  have hsp := spec_MemJoin_eq l' m' (K + 1 + 1 + 1) (by omega) (by omega) hm hm2
  have him := fun k (hk : l.length + 2 * m.length + 1050000 < k) => impl_MemJoin_eq l' m' k (by omega) (by omega) hm hm2
  have hD := joinR_len l' m'
  generalize joinR l' m' = d at hsp him hD
  obtain ⟨d, b⟩ := d
  dsimp only at hD
  obtain ⟨B, hB⟩ : ∃ B, B = l.length + 2 * m.length + 1050000 := ⟨_, rfl⟩
  rw [← hB] at hto hto2 him
  have e1 := fun k (hk : B < k) => eqEntryS_eq d d k (by omega) (by omega)
  have e3 := fun k (hk : B < k) => eqEntryS_eq l' l' k (by omega) (by omega)
  have e4 := fun k (hk : B < k) => eqEntryS_eq m' m' k (by omega) (by omega)
  have m1 := fun k (hk : B < k) => markEntryS_eq l' 1 k (by omega) (by omega) (by omega)
  have m3 := fun k (hk : B < k) => markEntryS_eq m' (1 + 4 * l'.length) k (by omega) (by omega) (by omega)
  have m2 := fun k (hk : B < k) => markEntryS_eq d 1 k (by omega) (by omega) (by omega)
  have h2 := fun k (hk : B < k) => heldEntryS_eq d.length 1 k (by omega) (by omega) (by omega)
  have hn : ¬ (1 + 4 * (d.length : Int) < 0) := by omega
  have hn' : ¬ (1 + 4 * (l'.length : Int) + 4 * (m'.length : Int) < 0) := by omega
  have hbb : (b != b) = false := by simp
  have k3 : B < K + 1 + 1 + 1 := by omega
  have k2 : B < K + 1 + 1 := by omega
  have k1 : B < K + 1 := by omega
  have k0 : B < K := by omega
  simp only [hto _ k3, hto2 _ k3, hsp, him _ k3, e1 _ k3, Option.bind_some, decide_true, if_true, hbb]
  rw [laws_FnExactMemJoin.j0]
  simp only [Bool.false_eq_true, if_false, hto _ k2, hto2 _ k2, e3 _ k2, e4 _ k2, m1 _ k2, m3 _ k2, e1 _ k2, Option.bind_some, decide_true, if_true, hn', hbb]
  rw [laws_FnExactMemJoin.j1]
  simp only [Bool.false_eq_true, if_false, m2 _ k1, h2 _ k1, Option.bind_some, if_true, hn, hto _ k1, hto2 _ k1, him _ k1, e1 _ k1, decide_true, hbb]
  rw [laws_FnExactMemJoin.j2]
  simp only [Bool.false_eq_true, if_false, h2 _ k0, Option.bind_some, if_true, hn]
end Go.Proofs.Ytjdhphpjbakddaa.Pure
