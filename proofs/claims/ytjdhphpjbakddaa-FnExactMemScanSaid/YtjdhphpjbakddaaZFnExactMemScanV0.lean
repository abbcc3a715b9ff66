/- The plain statement of the law FnExactMemScan, proved. -/
import Derived.Test.YtjdhphpjbakddaaZFnExactMemScanW0
import Derived.Test.YtjdhphpjbakddaaZFnExactMemScan0
import Derived.Test.YtjdhphpjbakddaaZFnExactMemScan1
import Derived.Test.YtjdhphpjbakddaaZFnExactMemScan2
import Derived.Test.YtjdhphpjbakddaaZFnExactMemScan4
import Derived.Lib.IndexAny
import Derived.Test.YtjdhphpjbakddaaZFnExactMemScan3
/- Plain lemmas on lists, numbers and strings, for the laws' plain statements. -/
namespace Go.Proofs.Ytjdhphpjbakddaa.V
open Go.RowKit Go.Proofs.YtjdhphpjbakddaaW.PrintWords Go.Proofs.YtjdhphpjbakddaaW.PrintMore

theorem succ_of {d k : Nat} (h : d < k) : ∃ m, k = m + 1 := ⟨k - 1, by omega⟩
theorem wrap_id {i : Int} (h : -9223372036854775808 ≤ i) (h' : i ≤ 9223372036854775807) : wrap64 i = i := by unfold wrap64; omega
theorem tl_iff (a b : ByteArray) : a.toList = b.toList ↔ a = b := by
  rw [ByteArray.toList_eq, ByteArray.toList_eq]
  constructor
  · intro h
    cases a; cases b
    simp at h
    simp [h]
  · rintro rfl; rfl
section
variable {α : Type} {pre suf : List α} {x y : α}
theorem mid_lt : ((pre.length : Int) < ((pre ++ x :: suf).length : Int)) := by simp; omega
theorem end_not_lt : ¬ ((pre.length : Int) < ((pre ++ ([] : List α)).length : Int)) := by simp
theorem rdOf_mid (d : α) : rdOf d (pre ++ x :: suf) (pre.length : Int) = x := by simp [rdOf]
theorem getD_mid (d : α) : (pre ++ x :: suf).getD ((pre.length : Int)).toNat d = x := by simp
theorem set_mid : (pre ++ x :: suf).set ((pre.length : Int)).toNat y = pre ++ y :: suf := by simp
theorem wrap_snoc (h : pre.length < 9223372036854775807) : wrap64 ((pre.length : Int) + 1) = ((pre ++ [x]).length : Int) := by
  rw [wrap_id (by omega) (by omega)]; simp
theorem snoc_app : pre ++ x :: suf = (pre ++ [x]) ++ suf := by simp
end
theorem rd_mid {pre suf : List Int} {x : Int} : rd (pre ++ x :: suf) (pre.length : Int) = x := by simp [rd]
theorem nat_le0 (n : Nat) : (0 : Int) ≤ (n : Int) := Int.natCast_nonneg n
end Go.Proofs.Ytjdhphpjbakddaa.V

/- The text of a mark. -/
namespace Go.Proofs.Ytjdhphpjbakddaa.V
open Go.RowKit Go.Proofs.Ytjdhphpjbakddaa.P Go.Proofs.YtjdhphpjbakddaaW.PrintWords Go.Proofs.YtjdhphpjbakddaaW.PrintMore

/-! ### marks -/
theorem strOfNums_one (n : Int) : (strOfNums [n]).size = 1 := by simp [strOfNums, ByteArray.size]
theorem markText_l0 : ∀ (d k : Nat) (n : Int) (s : ByteArray), 0 ≤ n → n ≤ 9223372036854775807 → n < 10 ^ d → d < k → s.size + d + 1 ≤ 9223372036854775807 →
    ∃ r : ByteArray, laws_markText.l0 k n s = some r := by
  intro d
  induction d with
  | zero =>
    intro k n s h0 h9 h1 hk hs
    obtain ⟨k, rfl⟩ := succ_of hk
    exact ⟨(⟨#[109]⟩ : ByteArray) ++ s, by rw [laws_markText.l0, if_neg (by simp at h1; omega), if_pos (by omega)]⟩
  | succ d ih =>
    intro k n s h0 h9 h1 hk hs
    obtain ⟨k, rfl⟩ := succ_of hk
    by_cases hn : n > 0
    · have hd : Int.tdiv n 10 = n / 10 := Int.tdiv_eq_ediv_of_nonneg h0
      have h2 : wrap64 (Int.tdiv n 10) = n / 10 := by rw [hd, wrap_id (by omega) (by omega)]
      have hp : (10 : Int) ^ (d + 1) = 10 ^ d * 10 := Int.pow_succ 10 d
      rw [hp] at h1
      obtain ⟨r, hr⟩ := ih k (n / 10) (strOfNums [(wrap64 (48 + (Int.tmod n 10))) % 256] ++ s) (by omega) (by omega) (by omega) (by omega) (by simp only [ByteArray.size_append, strOfNums_one]; omega)
      exact ⟨r, by rw [laws_markText.l0, if_pos hn, Option.bind_some, if_pos (by rw [strOfNums_one]; omega), h2]; exact hr⟩
    · exact ⟨(⟨#[109]⟩ : ByteArray) ++ s, by rw [laws_markText.l0, if_neg hn, if_pos (by omega)]⟩
/-- The text of a mark. -/
def mt (n : Int) : ByteArray := (laws_markText.f 25 n).getD ⟨#[]⟩
theorem markText_eq {n : Int} (h9 : n ≤ 9223372036854775807) {k : Nat} (hk : 25 ≤ k) : laws_markText.f k n = some (mt n) := by
  have h : ∃ r, laws_markText.f 25 n = some r := by
    unfold laws_markText.f
    by_cases hn : n ≤ 0
    · exact ⟨_, by rw [if_pos hn]⟩
    · rw [if_neg hn]
      exact markText_l0 20 25 n _ (by omega) h9 (by omega) (by omega) (by decide)
  obtain ⟨r, hr⟩ := h
  have : mt n = r := by unfold mt; rw [hr]; rfl
  rw [this]
  exact at_rounds (g := fun k => laws_markText.f k n) (fun k => laws_markText.mono n k) hk hr
end Go.Proofs.Ytjdhphpjbakddaa.V

/- What the laws' own helpers over entries tell: equality, marks, sizes, copies. -/
namespace Go.Proofs.Ytjdhphpjbakddaa.V
open Go.RowKit Go.Proofs.Ytjdhphpjbakddaa.P Go.Proofs.YtjdhphpjbakddaaW.PrintWords Go.Proofs.YtjdhphpjbakddaaW.PrintMore

theorem rde_mid {pre suf : List S_impl_Entry} {x : S_impl_Entry} : rd_impl_Entry (pre ++ x :: suf) (pre.length : Int) = x := by simp [rd_impl_Entry]
theorem rdle_mid {pre suf : List S_laws_Entry} {x : S_laws_Entry} : rd_laws_Entry (pre ++ x :: suf) (pre.length : Int) = x := by simp [rd_laws_Entry]
theorem entry_ext {x y : S_impl_Entry} : x = y ↔ x.f0 = y.f0 ∧ x.f1 = y.f1 ∧ x.f2 = y.f2 ∧ x.f3 = y.f3 := by cases x; cases y; simp
instance : DecidableEq S_impl_Entry := fun _ _ => decidable_of_iff _ entry_ext.symm

/-! ### equality -/
theorem eqEntry_eq (x y : S_impl_Entry) : laws_eqEntry.f x.f0 x.f1 x.f2 x.f3 y.f0 y.f1 y.f2 y.f3 = some (decide (x = y)) := by
  unfold laws_eqEntry.f
  simp only [tl_iff]
  by_cases h0 : x.f0 = y.f0
  · rw [if_pos h0]
    by_cases h1 : x.f1 = y.f1
    · rw [if_pos h1]
      by_cases h2 : x.f2 = y.f2
      · rw [if_neg (by simp [h2])]
        by_cases h3 : x.f3 = y.f3
        · rw [if_pos h3]; simp [entry_ext, h0, h1, h2, h3]
        · rw [if_neg h3]; simp [entry_ext, h3]
      · rw [if_pos (by simpa using h2)]; simp [entry_ext, h2]
    · rw [if_neg h1]; simp [entry_ext, h1]
  · rw [if_neg h0]; simp [entry_ext, h0]
theorem eqEntryS_l0 : ∀ (sa sb pa pb : List S_impl_Entry) (k : Nat), pa.length = pb.length → sa.length = sb.length → sa.length < k → (pa ++ sa).length < 9223372036854775807 →
    laws_eqEntryS.l0 k (pa ++ sa) (pb ++ sb) (pa.length : Int) = some (decide (sa = sb)) := by
  intro sa
  induction sa with
  | nil =>
    intro sb pa pb k hp hs hk hb
    obtain ⟨k, rfl⟩ := succ_of hk
    obtain rfl : sb = [] := List.eq_nil_of_length_eq_zero hs.symm
    rw [laws_eqEntryS.l0, if_neg end_not_lt]; rfl
  | cons x sa ih =>
    intro sb pa pb k hp hs hk hb
    obtain ⟨k, rfl⟩ := succ_of hk
    cases sb with
    | nil => simp at hs
    | cons y sb =>
      rw [laws_eqEntryS.l0, if_pos mid_lt, if_pos (nat_le0 _), if_pos (by rw [hp]; exact mid_lt), rde_mid, hp, rde_mid, ← hp, eqEntry_eq, Option.bind_some]
      by_cases hxy : x = y
      · subst hxy
        rw [if_pos (by simp), wrap_snoc (x := x) (by simp at hb; omega), snoc_app, snoc_app (pre := pb), ih sb (pa ++ [x]) (pb ++ [x]) k (by simp [hp]) (by simpa using hs) (by simpa using hk) (by simpa using hb)]
        simp
      · rw [if_neg (by simpa using hxy)]
        simp [hxy]
theorem eqEntryS_eq (a b : List S_impl_Entry) (k : Nat) (hk : a.length < k) (hb : a.length < 9223372036854775807) : laws_eqEntryS.f k a b = some (decide (a = b)) := by
  unfold laws_eqEntryS.f
  by_cases h : a.length = b.length
  · rw [if_pos (by rw [h])]
    exact eqEntryS_l0 a b [] [] k rfl h hk hb
  · rw [if_neg (by omega)]
    have : a ≠ b := fun e => h (by rw [e])
    simp [this]

/-! ### sizes -/
def szE : List S_laws_Entry → Int → Int
  | [], left => left
  | s :: r, left => if left - s.f0.size < 0 then -1 else if left - s.f0.size - s.f3.size < 0 then -1 else szE r (left - s.f0.size - s.f3.size)
theorem szE_pos : ∀ (l : List S_laws_Entry) (left : Int), 0 ≤ szE l left → szE l left ≤ left
  | [], left, _ => by simp [szE]
  | s :: r, left, h => by
    rw [szE] at h ⊢
    by_cases hl : left - s.f0.size < 0
    · rw [if_pos hl] at h; omega
    · rw [if_neg hl] at h ⊢
      by_cases hl2 : left - s.f0.size - s.f3.size < 0
      · rw [if_pos hl2] at h; omega
      · rw [if_neg hl2] at h ⊢
        have := szE_pos r _ h
        omega
theorem szEntry_eq (x : S_laws_Entry) (left : Int) (h0 : 0 ≤ left) (h1 : left ≤ 4611686018427387904) (hx : Good_laws_Entry x) :
    laws_szEntry.f x.f0 x.f1 x.f2 x.f3 left = some (if left - x.f0.size < 0 then -1 else if left - x.f0.size - x.f3.size < 0 then -1 else left - x.f0.size - x.f3.size) := by
  unfold laws_szEntry.f
  have h2 := hx.1
  have h3 := hx.2.2.2
  rw [wrap_id (i := left - x.f0.size) (by omega) (by omega)]
  by_cases hl : left - x.f0.size < 0
  · rw [if_pos hl, if_pos hl]
  · rw [if_neg hl, if_neg hl, wrap_id (i := left - x.f0.size - x.f3.size) (by omega) (by omega)]
    by_cases hl2 : left - x.f0.size - x.f3.size < 0
    · rw [if_pos hl2, if_pos hl2]
    · rw [if_neg hl2, if_neg hl2]
theorem szEntryS_l0 : ∀ (suf pre : List S_laws_Entry) (left : Int) (k : Nat), suf.length < k → 0 ≤ left → left ≤ 4611686018427387904 → (∀ s ∈ suf, Good_laws_Entry s) → (pre ++ suf).length < 9223372036854775807 →
    laws_szEntryS.l0 k (pre ++ suf) left (pre.length : Int) = some (szE suf left) := by
  intro suf
  induction suf with
  | nil =>
    intro pre left k hk h0 h1 hs hb
    obtain ⟨k, rfl⟩ := succ_of hk
    rw [laws_szEntryS.l0, if_neg end_not_lt]; rfl
  | cons x suf ih =>
    intro pre left k hk h0 h1 hs hb
    obtain ⟨k, rfl⟩ := succ_of hk
    rw [laws_szEntryS.l0, if_pos mid_lt, if_pos (nat_le0 _), rdle_mid, szE, szEntry_eq x left h0 h1 (hs x (by simp)), Option.bind_some]
    by_cases hl : left - x.f0.size < 0
    · rw [if_pos hl, if_pos hl, if_pos (by omega)]
    · rw [if_neg hl, if_neg hl]
      by_cases hl2 : left - x.f0.size - x.f3.size < 0
      · rw [if_pos hl2, if_pos hl2, if_pos (by omega)]
      · rw [if_neg hl2, if_neg hl2, if_neg hl2, wrap_snoc (x := x) (by simp at hb; omega), snoc_app, ih (pre ++ [x]) _ k (by simpa using hk) (by omega) (by omega) (fun s h => hs s (by simp [h])) (by simpa using hb)]
/-- The guard of the laws over entries: what passes is small. -/
def ce (x : S_laws_Entry) : S_impl_Entry := ⟨x.f0, x.f1, x.f2, x.f3⟩
def Sm (l : List S_impl_Entry) : Prop := ∀ x ∈ l, x.f0.size ≤ 1048576 ∧ x.f3.size ≤ 1048576
theorem szE_small : ∀ (l : List S_laws_Entry) (left : Int), left ≤ 1048576 → 0 ≤ szE l left → Sm (l.map ce)
  | [], _, _, _, x, hx => by simp at hx
  | s :: r, left, hb, h, x, hx => by
    rw [szE] at h
    by_cases hl : left - s.f0.size < 0
    · rw [if_pos hl] at h; omega
    · rw [if_neg hl] at h
      by_cases hl2 : left - s.f0.size - s.f3.size < 0
      · rw [if_pos hl2] at h; omega
      · rw [if_neg hl2] at h
        rcases List.mem_cons.1 (by simpa using hx : x ∈ ce s :: r.map ce) with rfl | hx
        · simp only [ce]; omega
        · exact szE_small r _ (by omega) h x hx
theorem szEntryS_eq (l : List S_laws_Entry) (k : Nat) (hk : l.length < k) (g : l.length ≤ 9223372036854775807 ∧ ∀ y ∈ l, Good_laws_Entry y) :
    ∃ r : Int, laws_szEntryS.f k l 1048576 = some r ∧ (0 ≤ r → l.length ≤ 1048576 ∧ Sm (l.map ce)) := by
  unfold laws_szEntryS.f
  rw [wrap_id (by omega) (by omega)]
  by_cases hl : (1048576 : Int) - l.length < 0
  · rw [if_pos hl]; exact ⟨-1, rfl, fun h => by omega⟩
  · rw [if_neg hl]
    have h := szEntryS_l0 l [] (1048576 - l.length) k hk (by omega) (by omega) g.2 (by simp; omega)
    exact ⟨_, by simpa using h, fun h2 => ⟨by omega, szE_small l _ (by omega) h2⟩⟩

/-! ### copies -/
theorem toEntryS_l0 : ∀ (suf pre : List S_laws_Entry) (zs : List S_impl_Entry) (k : Nat), zs.length = suf.length → suf.length < k → (pre ++ suf).length < 9223372036854775807 →
    laws_toEntryS.l0 k (pre ++ suf) (pre.map ce ++ zs) (pre.length : Int) = some ((pre ++ suf).map ce) := by
  intro suf
  induction suf with
  | nil =>
    intro pre zs k hz hk hb
    obtain ⟨k, rfl⟩ := succ_of hk
    obtain rfl : zs = [] := List.eq_nil_of_length_eq_zero hz
    rw [laws_toEntryS.l0, if_neg end_not_lt]; simp
  | cons x suf ih =>
    intro pre zs k hz hk hb
    obtain ⟨k, rfl⟩ := succ_of hk
    cases zs with
    | nil => simp at hz
    | cons z zs =>
      have hl : (pre.length : Int) = ((pre.map ce).length : Int) := by simp
      rw [laws_toEntryS.l0, if_pos mid_lt, if_pos (nat_le0 _), rdle_mid]
      unfold laws_toEntry.f
      rw [Option.bind_some, if_pos (by rw [hl]; exact mid_lt)]
      rw [show (pre.map ce ++ z :: zs).set ((pre.length : Int)).toNat (⟨x.f0, x.f1, x.f2, x.f3⟩ : S_impl_Entry) = (pre ++ [x]).map ce ++ zs by rw [hl, set_mid]; simp [ce], wrap_snoc (x := x) (by simp at hb; omega), snoc_app, ih (pre ++ [x]) zs k (by simpa using hz) (by simpa using hk) (by simpa using hb)]
theorem toEntryS_eq (l : List S_laws_Entry) (k : Nat) (hk : l.length < k) (hb : l.length ≤ 1048576) : laws_toEntryS.f k l = some (l.map ce) := by
  unfold laws_toEntryS.f
  rw [if_pos (nat_le0 _), if_pos (by omega)]
  have h := toEntryS_l0 l [] (List.replicate ((l.length : Int)).toNat z_impl_Entry) k (by simp) hk (by simp; omega)
  simpa using h
end Go.Proofs.Ytjdhphpjbakddaa.V

/- Marks in entries. -/
namespace Go.Proofs.Ytjdhphpjbakddaa.V
open Go.RowKit Go.Proofs.Ytjdhphpjbakddaa.P Go.Proofs.YtjdhphpjbakddaaW.PrintWords Go.Proofs.YtjdhphpjbakddaaW.PrintMore

def markedE : Nat → Int → List S_impl_Entry
  | 0, _ => []
  | n + 1, m => ⟨mt m, m + 1, (Int.tmod (m + 2) 3) == 0, mt (m + 3)⟩ :: markedE n (m + 4)
theorem markEntryS_l0 : ∀ (suf pre : List S_impl_Entry) (m : Int) (k : Nat), suf.length + 25 < k → 0 ≤ m → m + 4 * suf.length ≤ 4611686018427387904 → (pre ++ suf).length < 9223372036854775807 →
    laws_markEntryS.l0 k (pre ++ suf) m (pre.length : Int) = some (m + 4 * suf.length, pre ++ markedE suf.length m) := by
  intro suf
  induction suf with
  | nil =>
    intro pre m k hk h0 hm hb
    obtain ⟨k, rfl⟩ := succ_of hk
    rw [laws_markEntryS.l0, if_neg end_not_lt]; simp [markedE]
  | cons x suf ih =>
    intro pre m k hk h0 hm hb
    obtain ⟨k, rfl⟩ := succ_of hk
    simp only [List.length_cons, Int.natCast_add, Int.natCast_one] at hk hm
    rw [laws_markEntryS.l0, if_pos mid_lt, markText_eq (by omega) (by omega), Option.bind_some, if_pos (nat_le0 _)]
    simp only [rde_mid, set_mid, Option.bind_some]
    rw [wrap_id (i := m + 1) (by omega) (by omega), wrap_id (i := m + 1 + 1) (by omega) (by omega), wrap_id (i := m + 1 + 1 + 1) (by omega) (by omega), wrap_id (i := m + 1 + 1 + 1 + 1) (by omega) (by omega), markText_eq (by omega) (by omega), Option.bind_some,
      show m + 1 + 1 = m + 2 by omega, show m + 2 + 1 = m + 3 by omega, show m + 3 + 1 = m + 4 by omega,
      wrap_snoc (x := (⟨mt m, m + 1, (Int.tmod (m + 2) 3) == 0, mt (m + 3)⟩ : S_impl_Entry)) (by simp at hb; omega), snoc_app, ih (pre ++ [(⟨mt m, m + 1, (Int.tmod (m + 2) 3) == 0, mt (m + 3)⟩ : S_impl_Entry)]) (m + 4) k (by omega) (by omega) (by omega) (by simpa using hb)]
    simp [markedE]; omega
theorem markEntryS_eq (l : List S_impl_Entry) (m : Int) (k : Nat) (hk : l.length + 25 < k) (h0 : 0 ≤ m) (hm : m + 4 * l.length ≤ 4611686018427387904) : laws_markEntryS.f k l m = some (m + 4 * l.length, markedE l.length m) := by
  have h := markEntryS_l0 l [] m k hk h0 hm (by simp; omega)
  simpa [laws_markEntryS.f] using h
theorem heldEntryS_l0 : ∀ (n : Nat) (pre : List S_impl_Entry) (m : Int) (k : Nat), n + 25 < k → 0 ≤ m → m + 4 * n ≤ 4611686018427387904 → pre.length + n < 9223372036854775807 →
    laws_heldEntryS.l0 k (pre ++ markedE n m) m (pre.length : Int) = some (m + 4 * n) := by
  intro n
  induction n with
  | zero =>
    intro pre m k hk h0 hm hb
    obtain ⟨k, rfl⟩ := succ_of hk
    rw [laws_heldEntryS.l0, markedE, if_neg end_not_lt]; simp
  | succ n ih =>
    intro pre m k hk h0 hm hb
    obtain ⟨k, rfl⟩ := succ_of hk
    rw [laws_heldEntryS.l0, markedE, if_pos mid_lt, if_pos (nat_le0 _), markText_eq (by omega) (by omega), Option.bind_some]
    simp only [rde_mid, if_true]
    rw [wrap_id (i := m + 1) (by omega) (by omega), if_pos rfl, wrap_id (i := m + 1 + 1) (by omega) (by omega), wrap_id (i := m + 1 + 1 + 1) (by omega) (by omega), wrap_id (i := m + 1 + 1 + 1 + 1) (by omega) (by omega), markText_eq (by omega) (by omega),
      show m + 1 + 1 = m + 2 by omega, show m + 2 + 1 = m + 3 by omega, show m + 3 + 1 = m + 4 by omega, if_neg (by simp), Option.bind_some, if_pos rfl,
      wrap_snoc (x := (⟨mt m, m + 1, (Int.tmod (m + 2) 3) == 0, mt (m + 3)⟩ : S_impl_Entry)) (by omega), snoc_app, ih (pre ++ [(⟨mt m, m + 1, (Int.tmod (m + 2) 3) == 0, mt (m + 3)⟩ : S_impl_Entry)]) (m + 4) k (by omega) (by omega) (by omega) (by simp; omega)]
    congr 1; omega
theorem heldEntryS_eq (n : Nat) (m : Int) (k : Nat) (hk : n + 25 < k) (h0 : 0 ≤ m) (hm : m + 4 * n ≤ 4611686018427387904) : laws_heldEntryS.f k (markedE n m) m = some (m + 4 * n) := by
  have h := heldEntryS_l0 n [] m k hk h0 hm (by simp; omega)
  simpa [laws_heldEntryS.f] using h
theorem markedE_length : ∀ (n : Nat) (m : Int), (markedE n m).length = n
  | 0, _ => rfl
  | n + 1, m => by simp [markedE, markedE_length n]
end Go.Proofs.Ytjdhphpjbakddaa.V

/- What holds of all bytes of a string, counted from a place on; the order of strings. -/
namespace Go.Proofs.Ytjdhphpjbakddaa.V
open Go.RowKit Go.Proofs.Ytjdhphpjbakddaa.P Go.Proofs.YtjdhphpjbakddaaW.PrintWords Go.Proofs.YtjdhphpjbakddaaW.PrintMore

/-- All of d bytes from i on. -/
def bAll (P : Int → Bool) (s : ByteArray) : Nat → Nat → Bool
  | 0, _ => true
  | d + 1, i => P (bt s i) && bAll P s d (i + 1)
theorem bAll_iff (P : Int → Bool) (s : ByteArray) : ∀ d i, bAll P s d i = true ↔ ∀ j, i ≤ j → j < i + d → P (bt s (j : Nat)) = true
  | 0, i => by simp [bAll]; intro j h1 h2; omega
  | d + 1, i => by
    simp only [bAll, Bool.and_eq_true, bAll_iff P s d (i + 1)]
    constructor
    · rintro ⟨h1, h2⟩ j h3 h4
      rcases Nat.eq_or_lt_of_le h3 with rfl | h5
      · exact h1
      · exact h2 j (by omega) (by omega)
    · intro h
      exact ⟨h i (Nat.le_refl _) (by omega), fun j h1 h2 => h j (by omega) (by omega)⟩
theorem bt_nat (s : ByteArray) (j : Nat) (h : j < s.size) : bt s (j : Nat) = ((s.data.toList[j]'(by simpa using h)).toNat : Int) := by
  unfold bt
  rw [dif_pos (by simpa using h)]
  rfl
theorem bl_irrefl : ∀ a : List UInt8, Op.bytesLess a a = false
  | [] => rfl
  | x :: a => by simp [Op.bytesLess, bl_irrefl a]
theorem bl_asymm {a b : List UInt8} (h : Op.bytesLess a b = true) : Op.bytesLess b a = false := by
  rw [← Opens.bytesLess_not, h]; rfl
theorem bl_trans : ∀ {a b c : List UInt8}, Op.bytesLess a b = true → Op.bytesLess b c = true → Op.bytesLess a c = true
  | [], _, [], _, h => by cases ‹List UInt8› <;> simp [Op.bytesLess] at h
  | [], _, _ :: _, _, _ => rfl
  | _ :: _, [], _, h, _ => by simp [Op.bytesLess] at h
  | _ :: _, _ :: _, [], _, h => by simp [Op.bytesLess] at h
  | x :: a, y :: b, z :: c, h1, h2 => by
    simp only [Op.bytesLess, Bool.or_eq_true, Bool.and_eq_true, decide_eq_true_eq, beq_iff_eq] at h1 h2 ⊢
    rcases h1 with h1 | ⟨rfl, h1⟩
    · rcases h2 with h2 | ⟨rfl, h2⟩
      · left; rw [UInt8.lt_iff_toNat_lt] at *; omega
      · exact .inl h1
    · rcases h2 with h2 | ⟨rfl, h2⟩
      · exact .inl h2
      · exact .inr ⟨rfl, bl_trans h1 h2⟩
theorem bl_total {a b : List UInt8} (h : Op.bytesLess a b = false) (h' : a ≠ b) : Op.bytesLess b a = true := by
  rw [← Opens.bytesLess_not, h]; simp [h']
end Go.Proofs.Ytjdhphpjbakddaa.V

/- When entries are ok: by the reference, and by the program. -/
namespace Go.Proofs.Ytjdhphpjbakddaa.V
open Go.RowKit Go.Proofs.Ytjdhphpjbakddaa.P Go.Proofs.YtjdhphpjbakddaaW.PrintWords Go.Proofs.YtjdhphpjbakddaaW.PrintMore

theorem l1In_eq (a b c : Int) : spec_l1In.f a b c = some (decide (b ≤ a ∧ a ≤ c)) := by
  unfold spec_l1In.f
  by_cases h : a ≥ b
  · rw [if_pos h]; simp [show b ≤ a from h]
  · rw [if_neg h]; simp [show ¬ b ≤ a from h]
def KB (b : Int) : Bool := decide (46 ≤ b) && decide (b ≤ 126) && decide (b ≠ 58)
def VB (b : Int) : Bool := decide (32 ≤ b) && decide (b ≤ 126)
def keyOk (s : ByteArray) : Bool := bAll KB s s.size 0 && decide (1 ≤ s.size ∧ s.size ≤ 24)
def valOk (s : ByteArray) : Bool := bAll VB s s.size 0 && decide (s.size ≤ 80)
theorem l4Key_l0 : ∀ (d i : Nat) (s : ByteArray) (k : Nat), i + d = s.size → d < k → s.size ≤ 4611686018427387904 → spec_l4Key.l0 k s (i : Int) = some (bAll KB s d i && decide (1 ≤ s.size ∧ s.size ≤ 24)) := by
  intro d
  induction d with
  | zero =>
    intro i s k hi hk hb
    obtain ⟨k, rfl⟩ := succ_of hk
    rw [spec_l4Key.l0, if_neg (by omega), l1In_eq, Option.bind_some]
    simp only [bAll, Bool.true_and]
    congr 1
    exact decide_eq_decide.2 (by omega)
  | succ d ih =>
    intro i s k hi hk hb
    obtain ⟨k, rfl⟩ := succ_of hk
    rw [spec_l4Key.l0, if_pos (by omega), if_pos (nat_le0 _), bAll]
    have hr : -9223372036854775808 ≤ (i : Int) + 1 := by omega
    by_cases h1 : bt s i < 46
    · rw [if_pos h1]; simp [KB, show ¬ 46 ≤ bt s i by omega]
    · rw [if_neg h1]
      by_cases h2 : bt s i > 126
      · rw [if_pos h2]; simp [KB, show ¬ bt s i ≤ 126 by omega]
      · rw [if_neg h2]
        by_cases h3 : bt s i = 58
        · rw [if_pos h3]; simp [KB, h3]
        · rw [if_neg h3, wrap_id hr (by omega), show (i : Int) + 1 = ((i + 1 : Nat) : Int) by omega, ih (i + 1) s k (by omega) (by omega) hb]
          simp [KB, show 46 ≤ bt s i by omega, show bt s i ≤ 126 by omega, h3]
theorem l4Key_eq (s : ByteArray) (k : Nat) (hk : s.size < k) (hb : s.size ≤ 4611686018427387904) : spec_l4Key.f k s = some (keyOk s) := l4Key_l0 s.size 0 s k (by omega) hk hb
theorem l4Value_l0 : ∀ (d i : Nat) (s : ByteArray) (k : Nat), i + d = s.size → d < k → s.size ≤ 4611686018427387904 → spec_l4Value.l0 k s (i : Int) = some (bAll VB s d i && decide (s.size ≤ 80)) := by
  intro d
  induction d with
  | zero =>
    intro i s k hi hk hb
    obtain ⟨k, rfl⟩ := succ_of hk
    rw [spec_l4Value.l0, if_neg (by omega)]
    simp only [bAll, Bool.true_and]
    congr 1
    exact decide_eq_decide.2 (by omega)
  | succ d ih =>
    intro i s k hi hk hb
    obtain ⟨k, rfl⟩ := succ_of hk
    rw [spec_l4Value.l0, if_pos (by omega), if_pos (nat_le0 _), bAll]
    have hr : -9223372036854775808 ≤ (i : Int) + 1 := by omega
    by_cases h1 : bt s i < 32
    · rw [if_pos h1]; simp [VB, show ¬ 32 ≤ bt s i by omega]
    · rw [if_neg h1]
      by_cases h2 : bt s i > 126
      · rw [if_pos h2]; simp [VB, show ¬ bt s i ≤ 126 by omega]
      · rw [if_neg h2, wrap_id hr (by omega), show (i : Int) + 1 = ((i + 1 : Nat) : Int) by omega, ih (i + 1) s k (by omega) (by omega) hb]
        simp [VB, show 32 ≤ bt s i by omega, show bt s i ≤ 126 by omega]
theorem l4Value_eq (s : ByteArray) (k : Nat) (hk : s.size < k) (hb : s.size ≤ 4611686018427387904) : spec_l4Value.f k s = some (valOk s) := l4Value_l0 s.size 0 s k (by omega) hk hb
/-- An entry is ok. -/
def okE (x : S_impl_Entry) : Bool := keyOk x.f0 && decide (1 ≤ x.f1 ∧ x.f1 ≤ 99999999) && valOk x.f3 && (!x.f2 || x.f3.toList == [])
theorem l4Ok_eq (x : S_impl_Entry) (k : Nat) (h0 : x.f0.size < k) (h3 : x.f3.size < k) (hb : x.f0.size ≤ 4611686018427387904) (hb3 : x.f3.size ≤ 4611686018427387904) : spec_l4Ok.f k x.f0 x.f1 x.f2 x.f3 = some (okE x) := by
  unfold spec_l4Ok.f okE
  rw [l4Key_eq _ k h0 hb, Option.bind_some, l1In_eq, Option.bind_some, l4Value_eq _ k h3 hb3, Option.bind_some]
  cases keyOk x.f0
  · rfl
  · by_cases h1 : 1 ≤ x.f1 ∧ x.f1 ≤ 99999999
    · rw [if_pos rfl, if_pos (by simpa using h1)]
      cases valOk x.f3
      · simp [h1]
      · cases x.f2 <;> simp [h1]
    · rw [if_pos rfl, if_neg (by simpa using h1)]; simp [h1]
/-- One entry ahead of another. -/
def ltE (x y : S_impl_Entry) : Bool := Op.bytesLess x.f0.toList y.f0.toList || (x.f0.toList == y.f0.toList && decide (x.f1 > y.f1))
theorem l4Less_eq (x y : S_impl_Entry) : spec_l4Less.f x.f0 x.f1 x.f2 x.f3 y.f0 y.f1 y.f2 y.f3 = some (ltE x y) := by
  unfold spec_l4Less.f ltE
  by_cases h : Op.bytesLess x.f0.toList y.f0.toList = true
  · rw [if_pos h]; simp [h]
  · rw [if_neg h]
    by_cases h2 : x.f0.toList = y.f0.toList
    · rw [if_pos h2]; simp [h2, bl_irrefl]
    · rw [if_neg h2]; simp [h2, h]
/-- All ok, each behind the one ahead of it. -/
def okFrom : Option S_impl_Entry → List S_impl_Entry → Bool
  | _, [] => true
  | none, x :: r => okE x && okFrom (some x) r
  | some y, x :: r => okE x && ltE y x && okFrom (some x) r
def okEs (l : List S_impl_Entry) : Bool := okFrom none l && decide (l.length ≤ 240)
theorem rde_last {pre suf : List S_impl_Entry} {y : S_impl_Entry} : rd_impl_Entry (pre ++ [y] ++ suf) (((pre ++ [y]).length : Int) - 1) = y := by simp [rd_impl_Entry]
theorem l4Sorted_l0 : ∀ (suf pre : List S_impl_Entry) (k : Nat), suf.length + 1048577 < k → (pre ++ suf).length ≤ 4611686018427387904 → Sm suf →
    spec_l4Sorted.l0 k (pre ++ suf) (pre.length : Int) = some (okFrom pre.getLast? suf) := by
  intro suf
  induction suf with
  | nil =>
    intro pre k hk hb hs
    obtain ⟨k, rfl⟩ := succ_of (show 0 < k by omega)
    rw [spec_l4Sorted.l0, if_neg end_not_lt]
    cases pre.getLast? <;> rfl
  | cons x suf ih =>
    intro pre k hk hb hs
    obtain ⟨k, rfl⟩ := succ_of (show 0 < k by omega)
    simp only [List.length_cons] at hk
    have hx := hs x (by simp)
    have hl : pre.length ≤ 4611686018427387904 := by simp at hb; omega
    have ih' := ih (pre ++ [x]) k (by omega) (by simpa using hb) (fun y h => hs y (by simp [h]))
    rw [List.getLast?_concat] at ih'
    rw [spec_l4Sorted.l0, if_pos mid_lt, if_pos (nat_le0 _), rde_mid, l4Ok_eq x k (by omega) (by omega) (by omega) (by omega), Option.bind_some]
    rcases List.eq_nil_or_concat pre with rfl | ⟨pre', y, rfl⟩
    · simp only [List.getLast?_nil, okFrom]
      cases okE x
      · rfl
      · rw [if_pos rfl, if_neg (by simp), wrap_snoc (x := x) (by omega), snoc_app (suf := suf), ih']; rfl
    · simp only [List.concat_eq_append] at *
      have e : (((pre' ++ [y]).length : Int)) - 1 = (pre'.length : Int) := by simp
      rw [List.getLast?_concat, okFrom]
      cases okE x
      · rfl
      · rw [if_pos rfl, if_pos (by simp), wrap_id (i := ((pre' ++ [y]).length : Int) - 1) (by omega) (by omega), if_pos (by rw [e]; exact nat_le0 _), if_pos (by rw [e]; simp; omega), rde_last, l4Less_eq, Option.bind_some]
        cases ltE y x
        · rfl
        · rw [if_pos rfl, wrap_snoc (x := x) (by omega), snoc_app (suf := suf), ih']; rfl
theorem spec_EntriesOk_eq (l : List S_impl_Entry) (k : Nat) (hk : l.length + 1048577 < k) (hb : l.length ≤ 4611686018427387904) (hs : Sm l) : spec_EntriesOk.f k l = some (okEs l) := by
  unfold spec_EntriesOk.f spec_l4Sorted.f
  have h := l4Sorted_l0 l [] k hk (by simpa using hb) hs
  simp only [List.nil_append, List.length_nil, Int.natCast_zero, List.getLast?_nil] at h
  rw [h, Option.bind_some]
  unfold okEs
  cases okFrom none l
  · rfl
  · rw [if_pos rfl]
    simp only [Bool.true_and]
    congr 1
    exact decide_eq_decide.2 (by omega)

/-! ### by the program -/
theorem isBetween_l0 : ∀ (d i : Nat) (s : ByteArray) (lo hi : Int) (k : Nat), i + d = s.size → d < k → s.size ≤ 4611686018427387904 → impl_isBetween.l0 k s lo hi (s.size : Int) (i : Int) = some (bAll (fun b => decide (lo ≤ b) && decide (b ≤ hi)) s d i) := by
  intro d
  induction d with
  | zero =>
    intro i s lo hi k hi' hk hb
    obtain ⟨k, rfl⟩ := succ_of hk
    rw [impl_isBetween.l0, if_neg (by omega)]; rfl
  | succ d ih =>
    intro i s lo hi k hi' hk hb
    obtain ⟨k, rfl⟩ := succ_of hk
    rw [impl_isBetween.l0, if_pos (by omega), if_pos (nat_le0 _), if_pos (by omega), bAll]
    by_cases h1 : bt s i < lo
    · rw [if_pos h1]; simp [show ¬ lo ≤ bt s i by omega]
    · rw [if_neg h1]
      by_cases h2 : bt s i > hi
      · rw [if_pos h2]; simp [show ¬ bt s i ≤ hi by omega]
      · rw [if_neg h2, wrap_id (by omega) (by omega), show (i : Int) + 1 = ((i + 1 : Nat) : Int) by omega, ih (i + 1) s lo hi k (by omega) (by omega) hb]
        simp [show lo ≤ bt s i by omega, show bt s i ≤ hi by omega]
theorem isBetween_eq (s : ByteArray) (lo hi : Int) (k : Nat) (hk : s.size < k) (hb : s.size ≤ 4611686018427387904) : impl_isBetween.f k s lo hi = some (bAll (fun b => decide (lo ≤ b) && decide (b ≤ hi)) s s.size 0) := isBetween_l0 s.size 0 s lo hi k (by omega) hk hb
theorem Contains_eq (s : ByteArray) : strings_Contains.f s ⟨#[58]⟩ = some (!bAll (fun b => decide (b ≠ 58)) s s.size 0) := by
  have e : strings_Contains.f s ⟨#[58]⟩ = some (decide (0 ≤ Lib.indexByte s.data.toList 58)) := rfl
  rw [e]
  congr 1
  rw [← Lib.contains_iff_indexByte, Bool.eq_iff_iff, Bool.not_eq_true', ← Bool.not_eq_true, bAll_iff, List.contains_iff_mem, List.mem_iff_getElem]
  constructor
  · rintro ⟨j, h1, h2⟩ h
    have h3 : j < s.size := by simpa using h1
    have h4 := h j (by omega) (by omega)
    rw [bt_nat s j h3, h2] at h4
    exact absurd h4 (by decide)
  · intro h
    refine Classical.byContradiction fun hn => h fun j h1 h2 => ?_
    rw [bt_nat s j (by omega)]
    simp only [decide_eq_true_eq]
    intro h5
    exact hn ⟨j, by simpa using (show j < s.size by omega), UInt8.toNat_inj.1 (by rw [show (58 : UInt8).toNat = 58 from rfl]; omega)⟩
theorem keyOk_eq (s : ByteArray) : keyOk s = (decide (1 ≤ s.size ∧ s.size ≤ 24) && (bAll (fun b => decide (46 ≤ b) && decide (b ≤ 126)) s s.size 0 && bAll (fun b => decide (b ≠ 58)) s s.size 0)) := by
  unfold keyOk
  rw [Bool.and_comm]
  congr 1
  rw [Bool.eq_iff_iff, Bool.and_eq_true, bAll_iff, bAll_iff, bAll_iff]
  simp only [KB, Bool.and_eq_true]
  exact ⟨fun h => ⟨fun j h1 h2 => (h j h1 h2).1, fun j h1 h2 => (h j h1 h2).2⟩, fun h j h1 h2 => ⟨h.1 j h1 h2, h.2 j h1 h2⟩⟩
theorem isEntry_eq (x : S_impl_Entry) (k : Nat) (h0 : x.f0.size < k) (h3 : x.f3.size < k) (hb : x.f0.size ≤ 4611686018427387904) (hb3 : x.f3.size ≤ 4611686018427387904) : impl_isEntry.f k x.f0 x.f1 x.f2 x.f3 = some (okE x) := by
  unfold impl_isEntry.f okE
  rw [keyOk_eq, isBetween_eq _ _ _ k h0 hb, Option.bind_some, Contains_eq, Option.bind_some, isBetween_eq _ _ _ k h3 hb3, Option.bind_some]
  have hv : valOk x.f3 = (decide (x.f3.size ≤ 80) && bAll (fun b => decide (32 ≤ b) && decide (b ≤ 126)) x.f3 x.f3.size 0) := Bool.and_comm _ _
  rw [hv]
  generalize bAll (fun b => decide (46 ≤ b) && decide (b ≤ 126)) x.f0 x.f0.size 0 = p1
  generalize bAll (fun b => decide (b ≠ 58)) x.f0 x.f0.size 0 = p2
  generalize bAll (fun b => decide (32 ≤ b) && decide (b ≤ 126)) x.f3 x.f3.size 0 = p3
  by_cases h1 : (x.f0.size : Int) < 1
  · rw [if_pos h1]; simp [show ¬ 1 ≤ x.f0.size by omega]
  rw [if_neg h1]
  by_cases h2 : (x.f0.size : Int) > 24
  · rw [if_pos h2]; simp [show ¬ x.f0.size ≤ 24 by omega]
  rw [if_neg h2]
  have hz : (1 ≤ x.f0.size ∧ x.f0.size ≤ 24) = True := by simp; omega
  simp only [hz, decide_true, Bool.true_and]
  cases p1
  · simp
  cases p2
  · simp
  by_cases h4 : x.f1 ≥ 1
  · by_cases h5 : x.f1 ≤ 99999999
    · by_cases h6 : (x.f3.size : Int) ≤ 80
      · have h6' : x.f3.size ≤ 80 := by omega
        have h4' : 1 ≤ x.f1 := h4
        cases p3 <;> cases x.f2 <;> simp [h4', h5, h6, h6']
      · simp [h4, h5, h6, show ¬ x.f3.size ≤ 80 by omega]
    · simp [h5]
  · simp [h4]
theorem orI (k : Nat) (r : Int) : ((cmp_Or_int.l0 (k + 1 + 1 + 1) 0 [0, r] (([0, r] : List Int).length : Int) 0).bind fun t147 => some t147) = some r := by
  have w1 : wrap64 1 = 1 := by unfold wrap64; omega
  have w2 : wrap64 2 = 2 := by unfold wrap64; omega
  by_cases h : r = 0
  · subst h; simp [cmp_Or_int.l0, rd, w1, w2]
  · simp [cmp_Or_int.l0, rd, w1, w2, h]
theorem compareEntries_eq (x y : S_impl_Entry) (k : Nat) (hk : 3 < k) : ∃ r : Int, impl_compareEntries.f k x.f0 x.f1 x.f2 x.f3 y.f0 y.f1 y.f2 y.f3 = some r ∧ (r < 0 ↔ ltE x y = true) ∧ (r = 0 ↔ x.f0 = y.f0 ∧ x.f1 = y.f1) := by
  obtain ⟨k, rfl⟩ := succ_of (show 0 < k by omega)
  obtain ⟨k, rfl⟩ := succ_of (show 0 < k by omega)
  obtain ⟨k, rfl⟩ := succ_of (show 0 < k by omega)
  unfold impl_compareEntries.f cmp_Compare_string.f cmp_Compare_int.f cmp_isNaN_string.f cmp_isNaN_int.f cmp_Or_int.f
  simp only [Option.bind_some, bne_self_eq_false, Bool.false_eq_true, if_false]
  by_cases h1 : Op.bytesLess x.f0.toList y.f0.toList = true
  · simp only [if_pos h1, Option.bind_some]
    refine ⟨-1, ?_, by simp [ltE, h1], ?_⟩
    · split
      · rfl
      · split <;> rfl
    · simp
      rintro e; rw [e, bl_irrefl] at h1; cases h1
  · have h1' : Op.bytesLess x.f0.toList y.f0.toList = false := by simpa using h1
    simp only [if_neg h1]
    by_cases h2 : Op.bytesLess y.f0.toList x.f0.toList = true
    · simp only [if_pos h2, Option.bind_some]
      have hne : x.f0.toList ≠ y.f0.toList := fun e => by rw [e, bl_irrefl] at h2; cases h2
      refine ⟨1, ?_, by simp [ltE, h1', hne], ?_⟩
      · split
        · rfl
        · split <;> rfl
      · simp
        rintro e; rw [e] at hne; exact absurd rfl hne
    · simp only [if_neg h2, Option.bind_some]
      have he : x.f0.toList = y.f0.toList := by
        rcases Decidable.em (x.f0.toList = y.f0.toList) with e | e
        · exact e
        · exact absurd (bl_total h1' e) h2
      have he' := (tl_iff _ _).1 he
      by_cases h3 : y.f1 < x.f1
      · simp only [if_pos h3, Option.bind_some]
        exact ⟨-1, orI k (-1), by simp [ltE, he, h3], by simp; intro _; omega⟩
      · simp only [if_neg h3]
        by_cases h4 : y.f1 > x.f1
        · simp only [if_pos h4, Option.bind_some]
          exact ⟨1, orI k 1, by simp [ltE, he, bl_irrefl]; omega, by simp; intro _; omega⟩
        · simp only [if_neg h4, Option.bind_some]
          exact ⟨0, orI k 0, by simp [ltE, he, bl_irrefl]; omega, by simp [he']; omega⟩
theorem areEntries_l0 : ∀ (suf pre : List S_impl_Entry) (k : Nat), suf.length + 1048577 < k → (pre ++ suf).length ≤ 4611686018427387904 → Sm suf →
    impl_areEntries.l0 k (pre ++ suf) (pre ++ suf) ((pre ++ suf).length : Int) (pre.length : Int) = some (okFrom pre.getLast? suf && decide ((pre ++ suf).length ≤ 240)) := by
  intro suf
  induction suf with
  | nil =>
    intro pre k hk hb hs
    obtain ⟨k, rfl⟩ := succ_of (show 0 < k by omega)
    rw [impl_areEntries.l0, if_neg end_not_lt]
    have : okFrom pre.getLast? [] = true := by cases pre.getLast? <;> rfl
    rw [this, Bool.true_and]
    congr 1
    exact decide_eq_decide.2 (by omega)
  | cons x suf ih =>
    intro pre k hk hb hs
    obtain ⟨k, rfl⟩ := succ_of (show 0 < k by omega)
    simp only [List.length_cons] at hk
    have hx := hs x (by simp)
    have hl : pre.length ≤ 4611686018427387904 := by simp at hb; omega
    have ih' := ih (pre ++ [x]) k (by omega) (by simpa using hb) (fun y h => hs y (by simp [h]))
    rw [List.getLast?_concat] at ih'
    rw [impl_areEntries.l0, if_pos mid_lt, if_pos (nat_le0 _), if_pos mid_lt]
    simp only [rde_mid]
    rw [isEntry_eq x k (by omega) (by omega) (by omega) (by omega), Option.bind_some]
    rcases List.eq_nil_or_concat pre with rfl | ⟨pre', y, rfl⟩
    · simp only [List.getLast?_nil, okFrom]
      cases okE x
      · rfl
      · rw [if_pos rfl, if_neg (by simp), wrap_snoc (x := x) (by omega), snoc_app (suf := suf), ih']; rfl
    · simp only [List.concat_eq_append] at *
      have e : (((pre' ++ [y]).length : Int)) - 1 = (pre'.length : Int) := by simp
      rw [List.getLast?_concat, okFrom]
      cases okE x
      · rfl
      · rw [if_pos rfl, if_pos (by simp), wrap_id (i := ((pre' ++ [y]).length : Int) - 1) (by omega) (by omega), if_pos (by rw [e]; exact nat_le0 _), if_pos (by rw [e]; simp; omega), rde_last]
        obtain ⟨r, hr, hlt, -⟩ := compareEntries_eq y x k (by omega)
        rw [hr, Option.bind_some]
        cases hh : ltE y x
        · have : ¬ r < 0 := fun h => by rw [hlt.1 h] at hh; cases hh
          rw [if_pos (by omega)]; rfl
        · have := hlt.2 hh
          rw [if_neg (by omega), wrap_snoc (x := x) (by omega), snoc_app (suf := suf), ih']; rfl
theorem areEntries_eq (l : List S_impl_Entry) (k : Nat) (hk : l.length + 1048577 < k) (hb : l.length ≤ 4611686018427387904) (hs : Sm l) : impl_areEntries.f k l = some (okEs l) := by
  have h := areEntries_l0 l [] k hk (by simpa using hb) hs
  simpa [impl_areEntries.f, okEs] using h
theorem impl_EntriesOk_eq (l : List S_impl_Entry) (k : Nat) (hk : l.length + 1048577 < k) (hb : l.length ≤ 4611686018427387904) (hs : Sm l) : impl_EntriesOk.f k l = some (okEs l) := by
  unfold impl_EntriesOk.f
  rw [areEntries_eq l k hk hb hs]; rfl
end Go.Proofs.Ytjdhphpjbakddaa.V

/- What is read at a moment. -/
namespace Go.Proofs.Ytjdhphpjbakddaa.V
open Go.RowKit Go.Proofs.Ytjdhphpjbakddaa.P Go.Proofs.YtjdhphpjbakddaaW.PrintWords Go.Proofs.YtjdhphpjbakddaaW.PrintMore

abbrev E5 := ByteArray × Int × Bool × ByteArray × Bool
/-- The first of a key not above a moment. -/
def getE : List S_impl_Entry → ByteArray → Int → E5
  | [], _, _ => (⟨#[]⟩, 0, false, ⟨#[]⟩, false)
  | x :: r, s, m => if x.f0 = s ∧ x.f1 ≤ m then (x.f0, x.f1, x.f2, x.f3, true) else getE r s m
theorem l4Get_l0 : ∀ (suf pre : List S_impl_Entry) (s : ByteArray) (m : Int) (k : Nat), suf.length < k → (pre ++ suf).length ≤ 4611686018427387904 →
    spec_l4Get.l0 k (pre ++ suf) s m (pre.length : Int) = some (getE suf s m) := by
  intro suf
  induction suf with
  | nil =>
    intro pre s m k hk hb
    obtain ⟨k, rfl⟩ := succ_of hk
    rw [spec_l4Get.l0, if_neg end_not_lt]; rfl
  | cons x suf ih =>
    intro pre s m k hk hb
    obtain ⟨k, rfl⟩ := succ_of hk
    have ih' := ih (pre ++ [x]) s m k (by simpa using hk) (by simpa using hb)
    rw [spec_l4Get.l0, if_pos mid_lt, if_pos (nat_le0 _)]
    simp only [rde_mid, tl_iff]
    rw [wrap_snoc (x := x) (by simp at hb; omega), snoc_app (suf := suf), ih', getE]
    by_cases h1 : x.f0 = s
    · by_cases h2 : x.f1 ≤ m
      · rw [if_pos h1, if_pos h2, if_pos ⟨h1, h2⟩]
      · rw [if_pos h1, if_neg h2, if_neg (fun h => h2 h.2)]
    · rw [if_neg h1, if_neg (fun h => h1 h.1)]
theorem l4Get_eq (l : List S_impl_Entry) (s : ByteArray) (m : Int) (k : Nat) (hk : l.length < k) (hb : l.length ≤ 4611686018427387904) : spec_l4Get.f k l s m = some (getE l s m) := by
  have h := l4Get_l0 l [] s m k hk (by simpa using hb)
  simpa [spec_l4Get.f] using h
theorem atMoment_l0 : ∀ (suf pre : List S_impl_Entry) (s : ByteArray) (m : Int) (k : Nat), suf.length < k → (pre ++ suf).length ≤ 4611686018427387904 →
    impl_atMoment.l0 k s m (pre ++ suf) ((pre ++ suf).length : Int) (pre.length : Int) = some (getE suf s m) := by
  intro suf
  induction suf with
  | nil =>
    intro pre s m k hk hb
    obtain ⟨k, rfl⟩ := succ_of hk
    rw [impl_atMoment.l0, if_neg end_not_lt]; rfl
  | cons x suf ih =>
    intro pre s m k hk hb
    obtain ⟨k, rfl⟩ := succ_of hk
    have ih' := ih (pre ++ [x]) s m k (by simpa using hk) (by simpa using hb)
    rw [impl_atMoment.l0, if_pos mid_lt, if_pos (nat_le0 _), if_pos mid_lt]
    simp only [rde_mid, tl_iff]
    rw [wrap_snoc (x := x) (by simp at hb; omega), snoc_app (suf := suf), ih', getE]
    by_cases h1 : x.f0 = s
    · by_cases h2 : x.f1 ≤ m
      · rw [if_pos h1, if_pos h2, if_pos ⟨h1, h2⟩]
      · rw [if_pos h1, if_neg h2, if_neg (fun h => h2 h.2)]
    · rw [if_neg h1, if_neg (fun h => h1 h.1)]
theorem atMoment_eq (l : List S_impl_Entry) (s : ByteArray) (m : Int) (k : Nat) (hk : l.length < k) (hb : l.length ≤ 4611686018427387904) : impl_atMoment.f k l s m = some (getE l s m) := by
  have h := atMoment_l0 l [] s m k hk (by simpa using hb)
  simpa [impl_atMoment.f] using h
/-- What MemGet answers of entries that are ok. -/
def gotE (e : E5) : ByteArray × Bool := if e.2.2.2.2 = true then (e.2.2.2.1, !e.2.2.1) else (⟨#[]⟩, false)
theorem getE_none : ∀ (l : List S_impl_Entry) (s : ByteArray) (m : Int), (getE l s m).2.2.2.2 = false → (getE l s m).2.2.2.1 = ⟨#[]⟩
  | [], _, _, _ => rfl
  | x :: r, s, m, h => by
    rw [getE] at h ⊢
    split
    · rename_i hh; rw [if_pos hh] at h; cases h
    · rename_i hh; rw [if_neg hh] at h; exact getE_none r s m h
theorem okE_gone {x : S_impl_Entry} (h : okE x = true) (h2 : x.f2 = true) : x.f3 = ⟨#[]⟩ := by
  unfold okE at h
  rw [h2] at h
  simp at h
  exact (tl_iff _ _).1 (h.2.trans (by simp [ByteArray.toList_eq]))
theorem okFrom_mem : ∀ (l : List S_impl_Entry) (p : Option S_impl_Entry), okFrom p l = true → ∀ x ∈ l, okE x = true
  | [], _, _, x, hx => by cases hx
  | y :: r, p, h, x, hx => by
    have h1 : okE y = true ∧ okFrom (some y) r = true := by
      cases p with
      | none => simpa [okFrom] using h
      | some z =>
        simp only [okFrom, Bool.and_eq_true] at h
        exact ⟨h.1.1, h.2⟩
    rcases List.mem_cons.1 hx with rfl | hx
    · exact h1.1
    · exact okFrom_mem r _ h1.2 x hx
theorem getE_gone : ∀ (l : List S_impl_Entry) (s : ByteArray) (m : Int), (∀ x ∈ l, okE x = true) → (getE l s m).2.2.1 = true → (getE l s m).2.2.2.1 = ⟨#[]⟩
  | [], _, _, _, h => by cases h
  | x :: r, s, m, ho, h => by
    rw [getE] at h ⊢
    split
    · rename_i hh; rw [if_pos hh] at h; exact okE_gone (ho x (by simp)) h
    · rename_i hh; rw [if_neg hh] at h; exact getE_gone r s m (fun y hy => ho y (by simp [hy])) h
/-- MemGet, of the reference and of the program. -/
def getD4 (l : List S_impl_Entry) (s : ByteArray) (m : Int) : ByteArray × Bool := if okEs l = true then gotE (getE l s m) else (⟨#[]⟩, false)
theorem spec_MemGet_eq (l : List S_impl_Entry) (s : ByteArray) (m : Int) (k : Nat) (hk : l.length + 1048577 < k) (hb : l.length ≤ 4611686018427387904) (hs : Sm l) : spec_MemGet.f k l s m = some (getD4 l s m) := by
  unfold spec_MemGet.f getD4
  rw [spec_EntriesOk_eq l k hk hb hs, Option.bind_some]
  by_cases h : okEs l = true
  · rw [if_pos h, if_pos h, l4Get_eq l s m k (by omega) hb, Option.bind_some]
    unfold gotE
    by_cases h2 : (getE l s m).2.2.2.2 = true
    · rw [if_pos h2, if_pos h2]
    · rw [if_neg h2, if_neg h2, getE_none l s m (by simpa using h2)]
  · rw [if_neg h, if_neg h]
theorem impl_memGet_eq (l : List S_impl_Entry) (s : ByteArray) (m : Int) (k : Nat) (hk : l.length + 1048577 < k) (hb : l.length ≤ 4611686018427387904) (ho : ∀ x ∈ l, okE x = true) : impl_memGet.f k l s m = some (gotE (getE l s m)) := by
  unfold impl_memGet.f gotE
  rw [atMoment_eq l s m k (by omega) hb, Option.bind_some]
  by_cases h2 : (getE l s m).2.2.2.2 = true
  · rw [if_pos h2, if_pos h2]
    by_cases h3 : (getE l s m).2.2.1 = true
    · rw [if_pos h3, getE_gone l s m ho h3, h3]; rfl
    · rw [if_neg h3]; simp at h3; rw [h3]; rfl
  · rw [if_neg h2, if_neg h2]
theorem okEs_mem {l : List S_impl_Entry} (h : okEs l = true) : ∀ x ∈ l, okE x = true := by
  unfold okEs at h
  simp only [Bool.and_eq_true] at h
  exact okFrom_mem l _ h.1
theorem impl_MemGet_eq (l : List S_impl_Entry) (s : ByteArray) (m : Int) (k : Nat) (hk : l.length + 1048577 < k) (hb : l.length ≤ 4611686018427387904) (hs : Sm l) : impl_MemGet.f k l s m = some (getD4 l s m) := by
  unfold impl_MemGet.f getD4
  rw [areEntries_eq l k hk hb hs, Option.bind_some]
  by_cases h : okEs l = true
  · rw [if_pos h, if_pos h, impl_memGet_eq l s m k hk hb (okEs_mem h), Option.bind_some]
  · rw [if_neg h, if_neg h]
end Go.Proofs.Ytjdhphpjbakddaa.V

/- A look at many keys at a moment. -/
namespace Go.Proofs.Ytjdhphpjbakddaa.V
open Go.RowKit Go.Proofs.Ytjdhphpjbakddaa.P Go.Proofs.YtjdhphpjbakddaaW.PrintWords Go.Proofs.YtjdhphpjbakddaaW.PrintMore

/-! ### order -/
theorem ltE_trans {x y z : S_impl_Entry} (h1 : ltE x y = true) (h2 : ltE y z = true) : ltE x z = true := by
  simp only [ltE, Bool.or_eq_true, Bool.and_eq_true, beq_iff_eq, decide_eq_true_eq] at *
  rcases h1 with h1 | ⟨h1, h1'⟩
  · rcases h2 with h2 | ⟨h2, h2'⟩
    · exact .inl (bl_trans h1 h2)
    · exact .inl (h2 ▸ h1)
  · rcases h2 with h2 | ⟨h2, h2'⟩
    · exact .inl (h1 ▸ h2)
    · exact .inr ⟨h1.trans h2, by omega⟩
theorem okFrom_cons {p : Option S_impl_Entry} {x : S_impl_Entry} {r : List S_impl_Entry} (h : okFrom p (x :: r) = true) : okE x = true ∧ okFrom (some x) r = true := by
  cases p with
  | none => simpa [okFrom] using h
  | some z =>
    simp only [okFrom, Bool.and_eq_true] at h
    exact ⟨h.1.1, h.2⟩
theorem okFrom_lt : ∀ (l : List S_impl_Entry) (q : S_impl_Entry), okFrom (some q) l = true → ∀ y ∈ l, ltE q y = true
  | [], _, _, y, hy => by cases hy
  | x :: r, q, h, y, hy => by
    have hc := okFrom_cons h
    simp only [okFrom, Bool.and_eq_true] at h
    rcases List.mem_cons.1 hy with rfl | hy
    · exact h.1.2
    · exact ltE_trans h.1.2 (okFrom_lt r x hc.2 y hy)
/-- Not behind, as keys go. -/
def kle (a b : ByteArray) : Prop := a = b ∨ Op.bytesLess a.toList b.toList = true
theorem kle_anti {a b : ByteArray} (h1 : kle a b) (h2 : kle b a) : a = b := by
  rcases h1 with h1 | h1
  · exact h1
  · rcases h2 with h2 | h2
    · exact h2.symm
    · rw [bl_asymm h1] at h2; cases h2
theorem kle_trans {a b c : ByteArray} (h1 : kle a b) (h2 : kle b c) : kle a c := by
  rcases h1 with rfl | h1
  · exact h2
  · rcases h2 with rfl | h2
    · exact .inr h1
    · exact .inr (bl_trans h1 h2)
theorem ltE_kle {x y : S_impl_Entry} (h : ltE x y = true) : kle x.f0 y.f0 := by
  simp only [ltE, Bool.or_eq_true, Bool.and_eq_true, beq_iff_eq, decide_eq_true_eq] at h
  rcases h with h | ⟨h, _⟩
  · exact .inr h
  · exact .inl ((tl_iff _ _).1 h)

/-! ### both ways to look -/
def st (s p : ByteArray) : Bool := decide (p.size ≤ s.size) && ((s.extract 0 p.size).toList == p.toList)
theorem Starts_eq (s p : ByteArray) : spec_l4Starts.f s p = some (st s p) := by
  unfold spec_l4Starts.f st
  by_cases h : (s.size : Int) ≥ p.size
  · rw [if_pos h, if_pos (nat_le0 _), if_pos (by omega)]
    simp [show p.size ≤ s.size by omega]
  · rw [if_neg h]
    simp [show ¬ p.size ≤ s.size by omega]
theorem HasPrefix_eq (s p : ByteArray) : strings_HasPrefix.f s p = some (st s p) := by
  unfold strings_HasPrefix.f stringslite_HasPrefix.f st
  by_cases h : (s.size : Int) ≥ p.size
  · rw [if_pos h, if_pos (nat_le0 _), if_pos (by omega)]
    simp [show p.size ≤ s.size by omega]
  · rw [if_neg h]
    simp [show ¬ p.size ≤ s.size by omega]
def emit (e : E5) : List S_impl_Entry := if e.2.2.2.2 = true then (if e.2.2.1 = true then [] else [⟨e.1, e.2.1, e.2.2.1, e.2.2.2.1⟩]) else []
/-- As the reference looks. -/
def scS (p : ByteArray) (m : Int) : ByteArray → List S_impl_Entry → List S_impl_Entry
  | _, [] => []
  | last, x :: r => if x.f1 > m ∨ x.f0 = last ∨ st x.f0 p = false then scS p m last r else (if x.f2 = true then [] else [x]) ++ scS p m x.f0 r
/-- As the program looks. -/
def scI (p : ByteArray) (m : Int) : Option ByteArray → List S_impl_Entry → List S_impl_Entry
  | _, [] => []
  | prev, x :: r => (if st x.f0 p = true ∧ prev ≠ some x.f0 then emit (getE (x :: r) x.f0 m) else []) ++ scI p m (some x.f0) r
def Claim1 (p : ByteArray) (m : Int) (l : List S_impl_Entry) : Prop := ∀ (last : ByteArray) (prev : Option ByteArray), (∀ q, prev = some q → ∀ y ∈ l, kle q y.f0) →
  (∀ y ∈ l, st y.f0 p = true → (y.f0 = last ↔ prev = some y.f0)) → scS p m last l = scI p m prev l
def Claim2 (p : ByteArray) (m : Int) (l : List S_impl_Entry) : Prop := ∀ (last κ : ByteArray), st κ p = true → (∀ y ∈ l, kle κ y.f0) →
  (∀ y ∈ l, st y.f0 p = true → y.f0 ≠ last) → scS p m last l = emit (getE l κ m) ++ scI p m (some κ) l
theorem getE_away : ∀ (l : List S_impl_Entry) (s : ByteArray) (m : Int), (∀ y ∈ l, y.f0 ≠ s) → emit (getE l s m) = []
  | [], _, _, _ => rfl
  | x :: r, s, m, h => by
    rw [getE, if_neg (fun hh => h x (by simp) hh.1)]
    exact getE_away r s m (fun y hy => h y (by simp [hy]))
theorem both (p : ByteArray) (m : Int) : ∀ (l : List S_impl_Entry) (q : Option S_impl_Entry), okFrom q l = true → Claim1 p m l ∧ Claim2 p m l
  | [], _, _ => ⟨fun _ _ _ _ => rfl, fun _ _ _ _ _ => rfl⟩
  | x :: r, q, ho => by
    obtain ⟨c1, c2⟩ := both p m r (some x) (okFrom_cons ho).2
    have hxr : ∀ y ∈ r, kle x.f0 y.f0 := fun y hy => ltE_kle (okFrom_lt r x (okFrom_cons ho).2 y hy)
    -- the second, at the head's own key
    have h2 : ∀ last : ByteArray, st x.f0 p = true → (∀ y ∈ x :: r, st y.f0 p = true → y.f0 ≠ last) → scS p m last (x :: r) = emit (getE (x :: r) x.f0 m) ++ scI p m (some x.f0) (x :: r) := by
      intro last hs hl
      have hxl : x.f0 ≠ last := hl x (by simp) hs
      rw [scI, if_neg (by simp), List.nil_append, scS, getE]
      by_cases hm : x.f1 ≤ m
      · rw [if_neg (by rintro (h | h | h); omega; exact hxl h; rw [hs] at h; cases h), if_pos (show x.f0 = x.f0 ∧ x.f1 ≤ m from ⟨rfl, hm⟩)]
        have e : scS p m x.f0 r = scI p m (some x.f0) r := c1 x.f0 (some x.f0) (fun q hq y hy => by cases hq; exact hxr y hy) (fun y hy _ => ⟨fun h => by rw [h], fun h => by simpa using h.symm⟩)
        rw [e]
        rfl
      · rw [if_pos (.inl (by omega)), if_neg (fun h => hm h.2)]
        exact c2 last x.f0 hs hxr (fun y hy => hl y (by simp [hy]))
    have h1 : Claim1 p m (x :: r) := by
      intro last prev hp hi
      by_cases hs : st x.f0 p = true
      · by_cases hx : x.f0 = last
        · have hpx := (hi x (by simp) hs).1 hx
          rw [scS, if_pos (.inr (.inl hx)), scI, if_neg (fun h => h.2 hpx), List.nil_append]
          exact c1 last (some x.f0) (fun q hq y hy => by cases hq; exact hxr y hy) (fun y hy _ => ⟨fun h => by rw [h, hx], fun h => by rw [← hx]; simpa using h.symm⟩)
        · have hpx : prev ≠ some x.f0 := fun h => hx ((hi x (by simp) hs).2 h)
          have := h2 last hs (fun y hy hsy hyl => by
            have hpy := (hi y hy hsy).1 hyl
            have hyx : y.f0 = x.f0 := by
              rcases List.mem_cons.1 hy with rfl | hy'
              · rfl
              · exact kle_anti (hp y.f0 hpy x (by simp)) (hxr y hy')
            exact hpx (by rw [hpy, hyx]))
          rw [this, scI, if_neg (by simp), List.nil_append, scI, if_pos ⟨hs, hpx⟩]
      · have hs' : st x.f0 p = false := by simpa using hs
        rw [scS, if_pos (.inr (.inr hs')), scI, if_neg (fun h => hs h.1), List.nil_append]
        refine c1 last (some x.f0) (fun q hq y hy => by cases hq; exact hxr y hy) (fun y hy hsy => ⟨fun h => ?_, fun h => ?_⟩)
        · have hpy := (hi y (by simp [hy]) hsy).1 h
          have := kle_anti (hp y.f0 hpy x (by simp)) (hxr y hy)
          rw [this]
        · simp at h; rw [h] at hs'; rw [hs'] at hsy; cases hsy
    refine ⟨h1, ?_⟩
    intro last κ hs hk hl
    by_cases hx : x.f0 = κ
    · subst hx; exact h2 last hs hl
    · have hne : ∀ y ∈ x :: r, y.f0 ≠ κ := by
        intro y hy hyk
        rcases List.mem_cons.1 hy with rfl | hy'
        · exact hx hyk
        · exact hx (kle_anti (hyk ▸ hxr y hy') (hk x (by simp)))
      rw [getE_away (x :: r) κ m hne, List.nil_append]
      exact h1 last (some κ) (fun q hq y hy => by cases hq; exact hk y hy) (fun y hy hsy => ⟨fun h => absurd h (hl y hy hsy), fun h => by simp at h; exact absurd h.symm (hne y hy)⟩)
/-- What MemScan tells. -/
def scE (l : List S_impl_Entry) (p : ByteArray) (m : Int) : List S_impl_Entry := if okEs l = true then scS p m ⟨#[]⟩ l else []
theorem scS_length (p : ByteArray) (m : Int) : ∀ (l : List S_impl_Entry) (last : ByteArray), (scS p m last l).length ≤ l.length
  | [], _ => by simp [scS]
  | x :: r, last => by
    rw [scS]
    split
    · have := scS_length p m r last; simp; omega
    · have := scS_length p m r x.f0
      split <;> simp <;> omega
theorem l4Scan_l0 : ∀ (suf pre acc : List S_impl_Entry) (p last : ByteArray) (m : Int) (k : Nat), 2 * suf.length + 1 < k → (pre ++ suf).length ≤ 4611686018427387904 → acc.length + suf.length ≤ 1000000000 →
    spec_l4Scan.l0 k (pre ++ suf) p m acc last (pre.length : Int) = some (acc ++ scS p m last suf) := by
  intro suf
  induction suf with
  | nil =>
    intro pre acc p last m k hk hb ha
    obtain ⟨k, rfl⟩ := succ_of (show 0 < k by omega)
    rw [spec_l4Scan.l0, if_neg end_not_lt]; simp [scS]
  | cons x suf ih =>
    intro pre acc p last m k hk hb ha
    obtain ⟨k, rfl⟩ := succ_of (show 0 < k by omega)
    obtain ⟨k, rfl⟩ := succ_of (show 0 < k by omega)
    simp only [List.length_cons] at hk ha
    have hw : wrap64 ((pre.length : Int) + 1) = ((pre ++ [x]).length : Int) := wrap_snoc (by simp at hb; omega)
    have ihS := fun (acc : List S_impl_Entry) (last : ByteArray) (h : acc.length + suf.length ≤ 1000000000) => ih (pre ++ [x]) acc p last m k (by omega) (by simpa using hb) h
    rw [spec_l4Scan.l0, if_pos mid_lt, if_pos (nat_le0 _)]
    simp only [rde_mid, tl_iff, Starts_eq, Option.bind_some]
    rw [scS]
    have skip : spec_l4Scan.j1 (k + 1) (pre ++ x :: suf) p m acc last (pre.length : Int) true x.f0 x.f1 x.f2 x.f3 = some (acc ++ scS p m last suf) := by
      rw [spec_l4Scan.j1, if_pos rfl, hw, snoc_app (suf := suf), ihS acc last (by omega)]
    by_cases h1 : x.f1 > m
    · rw [if_pos h1, if_pos (.inl h1), skip]
    · rw [if_neg h1]
      by_cases h2 : x.f0 = last
      · rw [if_pos h2, if_pos (.inr (.inl h2)), skip]
      · rw [if_neg h2]
        cases h3 : st x.f0 p with
        | false => rw [if_pos (.inr (.inr rfl))]; exact skip
        | true =>
          rw [if_neg (by rintro (h | h | h); exact h1 h; exact h2 h; cases h), spec_l4Scan.j1, if_neg (by decide)]
          by_cases h4 : x.f2 = true
          · rw [if_pos h4, if_pos h4, hw, snoc_app (suf := suf), ihS acc x.f0 (by omega)]; simp
          · rw [if_neg h4, if_neg h4, if_pos (by omega), hw, snoc_app (suf := suf), ihS (acc ++ [x]) x.f0 (by simp; omega)]; simp
theorem memScan_l0 : ∀ (suf pre acc : List S_impl_Entry) (p : ByteArray) (m : Int) (k : Nat), 3 * (pre ++ suf).length + 2 * suf.length + 5 < k → (pre ++ suf).length ≤ 4611686018427387904 → acc.length + suf.length ≤ 1000000000 →
    impl_memScan.l0 k (pre ++ suf) p m acc (pre ++ suf) ((pre ++ suf).length : Int) (pre.length : Int) = some (acc ++ scI p m (pre.getLast?.map (·.f0)) suf) := by
  intro suf
  induction suf with
  | nil =>
    intro pre acc p m k hk hb ha
    obtain ⟨k, rfl⟩ := succ_of (show 0 < k by omega)
    rw [impl_memScan.l0, if_neg end_not_lt]; simp [scI]
  | cons x suf ih =>
    intro pre acc p m k hk hb ha
    obtain ⟨k, rfl⟩ := succ_of (show 0 < k by omega)
    obtain ⟨k, rfl⟩ := succ_of (show 0 < k by omega)
    simp only [List.length_cons] at hk ha
    have hl : pre.length ≤ 4611686018427387904 := by simp at hb; omega
    have hw : wrap64 ((pre.length : Int) + 1) = ((pre ++ [x]).length : Int) := wrap_snoc (by omega)
    have hlen : (pre ++ x :: suf).length = pre.length + suf.length + 1 := by simp; omega
    have ihS := fun (acc : List S_impl_Entry) (h : acc.length + suf.length ≤ 1000000000) => ih (pre ++ [x]) acc p m k (by simp at hk ⊢; omega) (by simpa using hb) h
    simp only [List.getLast?_concat, Option.map_some] at ihS
    rw [impl_memScan.l0, if_pos mid_lt, if_pos (nat_le0 _), if_pos mid_lt]
    simp only [rde_mid, HasPrefix_eq, Option.bind_some]
    rw [scI]
    have skip : impl_memScan.j1 (k + 1) (pre ++ x :: suf) p m acc (pre.length : Int) (pre ++ x :: suf) ((pre ++ x :: suf).length : Int) (pre.length : Int) true x.f0 x.f1 x.f2 x.f3 = some (acc ++ scI p m (some x.f0) suf) := by
      rw [impl_memScan.j1, if_pos rfl, hw, snoc_app (suf := suf), ihS acc (by omega)]
    have take : impl_memScan.j1 (k + 1) (pre ++ x :: suf) p m acc (pre.length : Int) (pre ++ x :: suf) ((pre ++ x :: suf).length : Int) (pre.length : Int) false x.f0 x.f1 x.f2 x.f3 = some (acc ++ (emit (getE (x :: suf) x.f0 m) ++ scI p m (some x.f0) suf)) := by
      have hd : (pre ++ x :: suf).drop (pre.length : Int).toNat = x :: suf := by simp
      rw [impl_memScan.j1, if_neg (by decide), if_pos (nat_le0 _), if_pos (by omega), hd, atMoment_eq (x :: suf) x.f0 m k (by simp; omega) (by simp at hb ⊢; omega), Option.bind_some]
      unfold emit
      by_cases h1 : (getE (x :: suf) x.f0 m).2.2.2.2 = true
      · by_cases h2 : (getE (x :: suf) x.f0 m).2.2.1 = true
        · rw [if_pos h1, if_pos h2, if_pos h1, if_pos h2, hw, snoc_app (suf := suf), ihS acc (by omega)]; rfl
        · rw [if_pos h1, if_neg h2, if_pos h1, if_neg h2, if_pos (by omega), hw, snoc_app (suf := suf), ihS (acc ++ _) (by simp; omega)]; simp
      · rw [if_neg h1, if_neg h1, hw, snoc_app (suf := suf), ihS acc (by omega)]; rfl
    cases hs : st x.f0 p with
    | false =>
      rw [if_neg (by decide), skip, if_neg (fun h => by cases h.1)]; rfl
    | true =>
      rw [if_pos rfl]
      rcases List.eq_nil_or_concat pre with rfl | ⟨pre', y, rfl⟩
      · rw [if_neg (by simp), if_pos (by simp)]
        exact take
      · simp only [List.concat_eq_append] at *
        have e : (((pre' ++ [y]).length : Int)) - 1 = (pre'.length : Int) := by simp
        rw [if_pos (by simp), wrap_id (i := ((pre' ++ [y]).length : Int) - 1) (by omega) (by omega), if_pos (by rw [e]; exact nat_le0 _), if_pos (by rw [e]; simp; omega), rde_last]
        by_cases hy : y.f0 = x.f0
        · rw [show (y.f0.toList == x.f0.toList) = true by simp [hy], skip, if_neg (fun h => h.2 (by simp [hy]))]; rfl
        · rw [show (y.f0.toList == x.f0.toList) = false by rw [beq_eq_false_iff_ne]; exact fun h => hy ((tl_iff _ _).1 h), take, if_pos (by simpa using hy)]
theorem okE_key {x : S_impl_Entry} (h : okE x = true) : x.f0 ≠ ⟨#[]⟩ := by
  intro e
  unfold okE keyOk at h
  rw [e] at h
  simp at h
  exact absurd h.1.1.1.2.1 (by decide)
theorem spec_MemScan_eq (l : List S_impl_Entry) (p : ByteArray) (m : Int) (k : Nat) (hk : 5 * l.length + 1048577 < k) (hb : l.length ≤ 1000000000) (hs : Sm l) : spec_MemScan.f k l p m = some (scE l p m) := by
  unfold spec_MemScan.f scE
  rw [spec_EntriesOk_eq l k (by omega) (by omega) hs, Option.bind_some]
  by_cases h : okEs l = true
  · rw [if_pos h, if_pos h]
    have h0 := l4Scan_l0 l [] [] p ⟨#[]⟩ m k (by omega) (by simp; omega) (by simpa using hb)
    unfold spec_l4Scan.f
    simp only [List.nil_append, List.length_nil, Int.natCast_zero] at h0
    rw [h0]; rfl
  · rw [if_neg h, if_neg h]
theorem impl_memScan_eq (l : List S_impl_Entry) (p : ByteArray) (m : Int) (k : Nat) (hk : 5 * l.length + 1048577 < k) (hb : l.length ≤ 1000000000) (ho : okFrom none l = true) : impl_memScan.f k l p m = some (scS p m ⟨#[]⟩ l) := by
  have h0 := memScan_l0 l [] [] p m k (by simp; omega) (by simp; omega) (by simpa using hb)
  unfold impl_memScan.f
  simp only [List.nil_append, List.length_nil, Int.natCast_zero] at h0
  have e := (both p m l none ho).1 ⟨#[]⟩ none (fun q hq => by cases hq) (fun y hy _ => ⟨fun h => absurd h (okE_key (okFrom_mem l none ho y hy)), fun h => by cases h⟩)
  rw [h0, e]; rfl
theorem impl_MemScan_eq (l : List S_impl_Entry) (p : ByteArray) (m : Int) (k : Nat) (hk : 5 * l.length + 1048577 < k) (hb : l.length ≤ 1000000000) (hs : Sm l) : impl_MemScan.f k l p m = some (scE l p m) := by
  unfold impl_MemScan.f scE
  rw [areEntries_eq l k (by omega) (by omega) hs, Option.bind_some]
  by_cases h : okEs l = true
  · rw [if_pos h, if_pos h, impl_memScan_eq l p m k hk hb (by unfold okEs at h; simp only [Bool.and_eq_true] at h; exact h.1)]; rfl
  · rw [if_neg h, if_neg h]
end Go.Proofs.Ytjdhphpjbakddaa.V

/- The program looks at many as the reference does, in memory of its own. No condition. -/
namespace Go.Proofs.Ytjdhphpjbakddaa.Pure
open Go.RowKit Go.Proofs.Ytjdhphpjbakddaa.P Go.Proofs.Ytjdhphpjbakddaa.V

theorem FnExactMemScan : laws_FnExactMemScan.Pure := by
  intro l s m g gs gm
  obtain ⟨K, hK⟩ : ∃ K, K = 9 * l.length + 1048700 := ⟨_, rfl⟩
  refine ⟨K + 1, ?_⟩
  unfold laws_FnExactMemScan.f
  by_cases h0 : (s.size : Int) > 1048576
  · rw [if_pos h0]
  rw [if_neg h0]
  obtain ⟨r, hr, hs⟩ := szEntryS_eq l (K + 1) (by omega) g
  rw [hr, Option.bind_some]
  by_cases h : r < 0
  · rw [if_pos h]
  · rw [if_neg h]
    obtain ⟨hl, hsm⟩ := hs (by omega)
    have hbm : (l.map ce).length = l.length := by simp
    have hto := toEntryS_eq l (K + 1) (by omega) hl
    have hto' := toEntryS_eq l K (by omega) hl
    generalize l.map ce = l' at hbm hto hto' hsm
    have hsp := spec_MemScan_eq l' s m (K + 1) (by omega) (by omega) hsm
    have him := impl_MemScan_eq l' s m (K + 1) (by omega) (by omega) hsm
    have him' := impl_MemScan_eq l' s m K (by omega) (by omega) hsm
    have hD : (scE l' s m).length ≤ l'.length := by
      unfold scE; split
      · exact scS_length s m l' _
      · simp
    generalize scE l' s m = d at hsp him him' hD
    have e1 := eqEntryS_eq d d (K + 1) (by omega) (by omega)
    have e1' := eqEntryS_eq d d K (by omega) (by omega)
    have e2 := eqEntryS_eq l' l' (K + 1) (by omega) (by omega)
    have m1 := markEntryS_eq l' 1 (K + 1) (by omega) (by omega) (by omega)
    have m2 := markEntryS_eq d 1 K (by omega) (by omega) (by omega)
    have h2 := heldEntryS_eq d.length 1 K (by omega) (by omega) (by omega)
    simp only [hto, hsp, him, e1, e2, m1, Option.bind_some, decide_true, if_true]
    rw [if_neg (by omega), laws_FnExactMemScan.j0]
    simp only [Bool.not_true, Bool.false_eq_true, if_false, m2, h2, hto', him', e1', Option.bind_some, decide_true, if_true]
    rw [if_neg (by omega), if_neg (by omega)]
end Go.Proofs.Ytjdhphpjbakddaa.Pure
