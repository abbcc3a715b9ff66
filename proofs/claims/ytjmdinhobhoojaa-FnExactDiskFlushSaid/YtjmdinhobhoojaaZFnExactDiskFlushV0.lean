/- The plain statement of the law FnExactDiskFlush, proved. -/
import Derived.Test.YtjmdinhobhoojaaWMore
import Derived.Test.YtjmdinhobhoojaaZFnExactDiskFlush0
import Derived.Test.YtjmdinhobhoojaaZFnExactDiskFlush1
import Derived.Test.YtjmdinhobhoojaaZFnExactDiskFlush2
/- Plain lemmas on lists, numbers and strings, for the laws' plain statements. -/
namespace Go.Proofs.Ytjmdinhobhoojaa.V
open Go.RowKit Go.Proofs.YtjmdinhobhoojaaW.PrintWords Go.Proofs.YtjmdinhobhoojaaW.PrintMore

theorem succ_of {d k : Nat} (h : d < k) : ∃ m, k = m + 1 := ⟨k - 1, by omega⟩
theorem wrap_id {i : Int} (h : -9223372036854775808 ≤ i) (h' : i ≤ 9223372036854775807) : wrap64 i = i := by unfold wrap64; omega
theorem tl_iff (a b : ByteArray) : a.toList = b.toList ↔ a = b := by
  rw [ByteArray.toList_eq, ByteArray.toList_eq]
  constructor
  · intro h
    cases a; cases b
    simp at h
    simp [h]
  · rintro rfl; rfl
section
variable {α : Type} {pre suf : List α} {x y : α}
theorem mid_lt : ((pre.length : Int) < ((pre ++ x :: suf).length : Int)) := by simp; omega
theorem end_not_lt : ¬ ((pre.length : Int) < ((pre ++ ([] : List α)).length : Int)) := by simp
theorem rdOf_mid (d : α) : rdOf d (pre ++ x :: suf) (pre.length : Int) = x := by simp [rdOf]
theorem getD_mid (d : α) : (pre ++ x :: suf).getD ((pre.length : Int)).toNat d = x := by simp
theorem set_mid : (pre ++ x :: suf).set ((pre.length : Int)).toNat y = pre ++ y :: suf := by simp
theorem wrap_snoc (h : pre.length < 9223372036854775807) : wrap64 ((pre.length : Int) + 1) = ((pre ++ [x]).length : Int) := by
  rw [wrap_id (by omega) (by omega)]; simp
theorem snoc_app : pre ++ x :: suf = (pre ++ [x]) ++ suf := by simp
end
theorem rd_mid {pre suf : List Int} {x : Int} : rd (pre ++ x :: suf) (pre.length : Int) = x := by simp [rd]
theorem nat_le0 (n : Nat) : (0 : Int) ≤ (n : Int) := Int.natCast_nonneg n
end Go.Proofs.Ytjmdinhobhoojaa.V

/- What the laws' own helpers over strings tell: equality, marks, sizes, copies. -/
namespace Go.Proofs.Ytjmdinhobhoojaa.V
open Go.RowKit Go.Proofs.Ytjmdinhobhoojaa.P Go.Proofs.YtjmdinhobhoojaaW.PrintWords Go.Proofs.YtjmdinhobhoojaaW.PrintMore

/-! ### equality -/
theorem eqStringS_l0 : ∀ (sa sb pa pb : List ByteArray) (k : Nat), pa.length = pb.length → sa.length = sb.length → sa.length < k → (pa ++ sa).length < 9223372036854775807 →
    laws_eqStringS.l0 k (pa ++ sa) (pb ++ sb) (pa.length : Int) = some (decide (sa = sb)) := by
  intro sa
  induction sa with
  | nil =>
    intro sb pa pb k hp hs hk hb
    obtain ⟨k, rfl⟩ := succ_of hk
    obtain rfl : sb = [] := List.eq_nil_of_length_eq_zero hs.symm
    rw [laws_eqStringS.l0, if_neg end_not_lt]; rfl
  | cons x sa ih =>
    intro sb pa pb k hp hs hk hb
    obtain ⟨k, rfl⟩ := succ_of hk
    cases sb with
    | nil => simp at hs
    | cons y sb =>
      rw [laws_eqStringS.l0, if_pos mid_lt, if_pos (nat_le0 _), if_pos (by rw [hp]; exact mid_lt), rdOf_mid, hp, rdOf_mid, ← hp]
      by_cases hxy : x = y
      · subst hxy
        rw [if_pos rfl, wrap_snoc (x := x) (by simp at hb; omega), snoc_app, snoc_app (pre := pb), ih sb (pa ++ [x]) (pb ++ [x]) k (by simp [hp]) (by simpa using hs) (by simpa using hk) (by simpa using hb)]
        simp
      · rw [if_neg (by rw [tl_iff]; exact hxy)]
        simp [hxy]
theorem eqStringS_eq (a b : List ByteArray) (k : Nat) (hk : a.length < k) (hb : a.length < 9223372036854775807) : laws_eqStringS.f k a b = some (decide (a = b)) := by
  unfold laws_eqStringS.f
  by_cases h : a.length = b.length
  · rw [if_pos (by rw [h])]
    exact eqStringS_l0 a b [] [] k rfl h hk hb
  · rw [if_neg (by omega)]
    have : a ≠ b := fun e => h (by rw [e])
    simp [this]

/-! ### marks -/
theorem strOfNums_one (n : Int) : (strOfNums [n]).size = 1 := by simp [strOfNums, ByteArray.size]
theorem markText_l0 : ∀ (d k : Nat) (n : Int) (s : ByteArray), 0 ≤ n → n ≤ 9223372036854775807 → n < 10 ^ d → d < k → s.size + d + 1 ≤ 9223372036854775807 →
    ∃ r : ByteArray, laws_markText.l0 k n s = some r := by
  intro d
  induction d with
  | zero =>
    intro k n s h0 h9 h1 hk hs
    obtain ⟨k, rfl⟩ := succ_of hk
    exact ⟨(⟨#[109]⟩ : ByteArray) ++ s, by rw [laws_markText.l0, if_neg (by simp at h1; omega), if_pos (by omega)]⟩
  | succ d ih =>
    intro k n s h0 h9 h1 hk hs
    obtain ⟨k, rfl⟩ := succ_of hk
    by_cases hn : n > 0
    · have hd : Int.tdiv n 10 = n / 10 := Int.tdiv_eq_ediv_of_nonneg h0
      have h2 : wrap64 (Int.tdiv n 10) = n / 10 := by rw [hd, wrap_id (by omega) (by omega)]
      have hp : (10 : Int) ^ (d + 1) = 10 ^ d * 10 := Int.pow_succ 10 d
      rw [hp] at h1
      obtain ⟨r, hr⟩ := ih k (n / 10) (strOfNums [(wrap64 (48 + (Int.tmod n 10))) % 256] ++ s) (by omega) (by omega) (by omega) (by omega) (by simp only [ByteArray.size_append, strOfNums_one]; omega)
      exact ⟨r, by rw [laws_markText.l0, if_pos hn, Option.bind_some, if_pos (by rw [strOfNums_one]; omega), h2]; exact hr⟩
    · exact ⟨(⟨#[109]⟩ : ByteArray) ++ s, by rw [laws_markText.l0, if_neg hn, if_pos (by omega)]⟩
/-- The text of a mark. -/
def mt (n : Int) : ByteArray := (laws_markText.f 25 n).getD ⟨#[]⟩
theorem markText_eq {n : Int} (h9 : n ≤ 9223372036854775807) {k : Nat} (hk : 25 ≤ k) : laws_markText.f k n = some (mt n) := by
  have h : ∃ r, laws_markText.f 25 n = some r := by
    unfold laws_markText.f
    by_cases hn : n ≤ 0
    · exact ⟨_, by rw [if_pos hn]⟩
    · rw [if_neg hn]
      exact markText_l0 20 25 n _ (by omega) h9 (by omega) (by omega) (by decide)
  obtain ⟨r, hr⟩ := h
  have : mt n = r := by unfold mt; rw [hr]; rfl
  rw [this]
  exact at_rounds (g := fun k => laws_markText.f k n) (fun k => laws_markText.mono n k) hk hr
def markedS : Nat → Int → List ByteArray
  | 0, _ => []
  | n + 1, m => mt m :: markedS n (m + 1)
theorem markedS_length : ∀ (n : Nat) (m : Int), (markedS n m).length = n
  | 0, _ => rfl
  | n + 1, m => by simp [markedS, markedS_length n]
theorem markStringS_l0 : ∀ (suf pre : List ByteArray) (m : Int) (k : Nat), suf.length + 25 < k → 0 ≤ m → m + suf.length ≤ 4611686018427387904 → (pre ++ suf).length < 9223372036854775807 →
    laws_markStringS.l0 k (pre ++ suf) m (pre.length : Int) = some (m + suf.length, pre ++ markedS suf.length m) := by
  intro suf
  induction suf with
  | nil =>
    intro pre m k hk h0 hm hb
    obtain ⟨k, rfl⟩ := succ_of hk
    rw [laws_markStringS.l0, if_neg end_not_lt]; simp [markedS]
  | cons x suf ih =>
    intro pre m k hk h0 hm hb
    obtain ⟨k, rfl⟩ := succ_of hk
    simp only [List.length_cons, Int.natCast_add, Int.natCast_one] at hk hm
    rw [laws_markStringS.l0, if_pos mid_lt, markText_eq (by omega) (by omega), Option.bind_some, if_pos (nat_le0 _), set_mid, wrap_snoc (x := mt m) (by simp at hb; omega), wrap_id (i := m + 1) (by omega) (by omega), snoc_app,
      ih (pre ++ [mt m]) (m + 1) k (by omega) (by omega) (by omega) (by simpa using hb)]
    simp [markedS]; omega
theorem markStringS_eq (l : List ByteArray) (m : Int) (k : Nat) (hk : l.length + 25 < k) (h0 : 0 ≤ m) (hm : m + l.length ≤ 4611686018427387904) : laws_markStringS.f k l m = some (m + l.length, markedS l.length m) := by
  have h := markStringS_l0 l [] m k hk h0 hm (by simp; omega)
  simpa [laws_markStringS.f] using h
theorem heldStringS_l0 : ∀ (n : Nat) (pre : List ByteArray) (m : Int) (k : Nat), n + 25 < k → 0 ≤ m → m + n ≤ 4611686018427387904 → pre.length + n < 9223372036854775807 →
    laws_heldStringS.l0 k (pre ++ markedS n m) m (pre.length : Int) = some (m + n) := by
  intro n
  induction n with
  | zero =>
    intro pre m k hk h0 hm hb
    obtain ⟨k, rfl⟩ := succ_of hk
    rw [laws_heldStringS.l0, markedS, if_neg end_not_lt]; simp
  | succ n ih =>
    intro pre m k hk h0 hm hb
    obtain ⟨k, rfl⟩ := succ_of hk
    rw [laws_heldStringS.l0, markedS, if_pos mid_lt, if_pos (nat_le0 _), markText_eq (by omega) (by omega), Option.bind_some, rdOf_mid, if_pos rfl, wrap_snoc (x := mt m) (by omega), wrap_id (i := m + 1) (by omega) (by omega), snoc_app,
      ih (pre ++ [mt m]) (m + 1) k (by omega) (by omega) (by omega) (by simp; omega)]
    congr 1; omega
theorem heldStringS_eq (n : Nat) (m : Int) (k : Nat) (hk : n + 25 < k) (h0 : 0 ≤ m) (hm : m + n ≤ 4611686018427387904) : laws_heldStringS.f k (markedS n m) m = some (m + n) := by
  have h := heldStringS_l0 n [] m k hk h0 hm (by simp; omega)
  simpa [laws_heldStringS.f] using h

/-! ### sizes, copies -/
/-- What is left of a size, -1 for less than nothing. -/
def szS : List ByteArray → Int → Int
  | [], left => left
  | s :: r, left => if left - s.size < 0 then -1 else szS r (left - s.size)
theorem szStringS_l0 : ∀ (suf pre : List ByteArray) (left : Int) (k : Nat), suf.length < k → 0 ≤ left → left ≤ 4611686018427387904 → (∀ s ∈ suf, s.size ≤ 9223372036854775807) → (pre ++ suf).length < 9223372036854775807 →
    laws_szStringS.l0 k (pre ++ suf) left (pre.length : Int) = some (szS suf left) := by
  intro suf
  induction suf with
  | nil =>
    intro pre left k hk h0 h1 hs hb
    obtain ⟨k, rfl⟩ := succ_of hk
    rw [laws_szStringS.l0, if_neg end_not_lt]; rfl
  | cons x suf ih =>
    intro pre left k hk h0 h1 hs hb
    obtain ⟨k, rfl⟩ := succ_of hk
    have hx := hs x (by simp)
    rw [laws_szStringS.l0, if_pos mid_lt, if_pos (nat_le0 _), rdOf_mid, wrap_id (i := left - x.size) (by omega) (by omega), szS]
    by_cases hl : left - x.size < 0
    · rw [if_pos hl, if_pos hl]
    · rw [if_neg hl, if_neg hl, wrap_snoc (x := x) (by simp at hb; omega), snoc_app, ih (pre ++ [x]) _ k (by simpa using hk) (by omega) (by omega) (fun s h => hs s (by simp [h])) (by simpa using hb)]
/-- The size of strings, where it is enough. -/
theorem szS_pos : ∀ (l : List ByteArray) (left : Int), 0 ≤ szS l left → szS l left ≤ left
  | [], left, _ => by simp [szS]
  | s :: r, left, h => by
    rw [szS] at h ⊢
    by_cases hl : left - s.size < 0
    · rw [if_pos hl] at h; omega
    · rw [if_neg hl] at h ⊢
      have := szS_pos r _ h
      omega
theorem szStringS_eq (l : List ByteArray) (left : Int) (k : Nat) (hk : l.length < k) (h0 : 0 ≤ left) (h1 : left ≤ 4611686018427387904) (hs : ∀ s ∈ l, s.size ≤ 9223372036854775807) (hb : l.length ≤ 9223372036854775807) :
    laws_szStringS.f k l left = some (if left - l.length < 0 then -1 else szS l (left - l.length)) := by
  unfold laws_szStringS.f
  rw [wrap_id (by omega) (by omega)]
  by_cases hl : left - l.length < 0
  · rw [if_pos hl, if_pos hl]
  · rw [if_neg hl, if_neg hl]
    exact szStringS_l0 l [] _ k hk (by omega) (by omega) hs (by simp; omega)
end Go.Proofs.Ytjmdinhobhoojaa.V

/- What the disk laws' own helpers tell: equality, marks, sizes, copies of disks. -/
namespace Go.Proofs.Ytjmdinhobhoojaa.V
open Go.RowKit Go.Proofs.Ytjmdinhobhoojaa.P Go.Proofs.YtjmdinhobhoojaaW.PrintWords Go.Proofs.YtjmdinhobhoojaaW.PrintMore

theorem rdw_mid {pre suf : List S_impl_Wait} {x : S_impl_Wait} : rd_impl_Wait (pre ++ x :: suf) (pre.length : Int) = x := by simp [rd_impl_Wait]
theorem rdlw_mid {pre suf : List S_laws_Wait} {x : S_laws_Wait} : rd_laws_Wait (pre ++ x :: suf) (pre.length : Int) = x := by simp [rd_laws_Wait]
theorem wait_ext {x y : S_impl_Wait} : x = y ↔ x.f0 = y.f0 ∧ x.f1 = y.f1 := by cases x; cases y; simp

instance : DecidableEq S_impl_Wait := fun _ _ => decidable_of_iff _ wait_ext.symm

/-! ### equality -/
theorem eqWaitS_l0 : ∀ (sa sb pa pb : List S_impl_Wait) (k : Nat), pa.length = pb.length → sa.length = sb.length → sa.length < k → (pa ++ sa).length < 9223372036854775807 →
    laws_eqWaitS.l0 k (pa ++ sa) (pb ++ sb) (pa.length : Int) = some (decide (sa = sb)) := by
  intro sa
  induction sa with
  | nil =>
    intro sb pa pb k hp hs hk hb
    obtain ⟨k, rfl⟩ := succ_of hk
    obtain rfl : sb = [] := List.eq_nil_of_length_eq_zero hs.symm
    rw [laws_eqWaitS.l0, if_neg end_not_lt]; rfl
  | cons x sa ih =>
    intro sb pa pb k hp hs hk hb
    obtain ⟨k, rfl⟩ := succ_of hk
    cases sb with
    | nil => simp at hs
    | cons y sb =>
      rw [laws_eqWaitS.l0, if_pos mid_lt, if_pos (nat_le0 _), if_pos (by rw [hp]; exact mid_lt), rdw_mid, hp, rdw_mid, ← hp]
      unfold laws_eqWait.f
      by_cases h0 : x.f0 = y.f0
      · rw [if_pos h0]
        by_cases h1 : x.f1 = y.f1
        · obtain rfl : x = y := wait_ext.mpr ⟨h0, h1⟩
          rw [if_pos rfl, Option.bind_some, if_pos rfl, wrap_snoc (x := x) (by simp at hb; omega), snoc_app, snoc_app (pre := pb), ih sb (pa ++ [x]) (pb ++ [x]) k (by simp [hp]) (by simpa using hs) (by simpa using hk) (by simpa using hb)]
          simp
        · rw [if_neg (by rw [tl_iff]; exact h1), Option.bind_some, if_neg (by decide)]
          simp [wait_ext, h1]
      · rw [if_neg h0, Option.bind_some, if_neg (by decide)]
        simp [wait_ext, h0]
theorem eqWaitS_eq (a b : List S_impl_Wait) (k : Nat) (hk : a.length < k) (hb : a.length < 9223372036854775807) : laws_eqWaitS.f k a b = some (decide (a = b)) := by
  unfold laws_eqWaitS.f
  by_cases h : a.length = b.length
  · rw [if_pos (by rw [h])]
    exact eqWaitS_l0 a b [] [] k rfl h hk hb
  · rw [if_neg (by omega)]
    have : a ≠ b := fun e => h (by rw [e])
    simp [this]
theorem eqDisk_refl (a : List ByteArray) (b : List S_impl_Wait) (n : Int) (k : Nat) (ha : a.length < k) (ha' : a.length < 9223372036854775807) (hb : b.length < k) (hb' : b.length < 9223372036854775807) : laws_eqDisk.f k a b n a b n = some true := by
  unfold laws_eqDisk.f
  rw [eqStringS_eq a a k ha ha', Option.bind_some, if_pos (by simp), eqWaitS_eq b b k hb hb', Option.bind_some, if_pos (by simp), if_pos rfl]

/-! ### marks -/
def markedW : Nat → Int → List S_impl_Wait
  | 0, _ => []
  | n + 1, m => ⟨m, mt (m + 1)⟩ :: markedW n (m + 2)
theorem markWaitS_l0 : ∀ (suf pre : List S_impl_Wait) (m : Int) (k : Nat), suf.length + 25 < k → 0 ≤ m → m + 2 * suf.length ≤ 4611686018427387904 → (pre ++ suf).length < 9223372036854775807 →
    laws_markWaitS.l0 k (pre ++ suf) m (pre.length : Int) = some (m + 2 * suf.length, pre ++ markedW suf.length m) := by
  intro suf
  induction suf with
  | nil =>
    intro pre m k hk h0 hm hb
    obtain ⟨k, rfl⟩ := succ_of hk
    rw [laws_markWaitS.l0, if_neg end_not_lt]; simp [markedW]
  | cons x suf ih =>
    intro pre m k hk h0 hm hb
    obtain ⟨k, rfl⟩ := succ_of hk
    simp only [List.length_cons, Int.natCast_add, Int.natCast_one] at hk hm
    rw [laws_markWaitS.l0, if_pos mid_lt, if_pos (nat_le0 _), rdw_mid, set_mid, Option.bind_some, wrap_id (i := m + 1) (by omega) (by omega), markText_eq (by omega) (by omega), Option.bind_some, rdw_mid, set_mid,
      wrap_id (i := m + 1 + 1) (by omega) (by omega), wrap_snoc (x := (⟨m, mt (m + 1)⟩ : S_impl_Wait)) (by simp at hb; omega), snoc_app, ih (pre ++ [(⟨m, mt (m + 1)⟩ : S_impl_Wait)]) (m + 1 + 1) k (by omega) (by omega) (by omega) (by simpa using hb)]
    have e : m + 1 + 1 = m + 2 := by omega
    simp [markedW, e]; omega
theorem markWaitS_eq (l : List S_impl_Wait) (m : Int) (k : Nat) (hk : l.length + 25 < k) (h0 : 0 ≤ m) (hm : m + 2 * l.length ≤ 4611686018427387904) : laws_markWaitS.f k l m = some (m + 2 * l.length, markedW l.length m) := by
  have h := markWaitS_l0 l [] m k hk h0 hm (by simp; omega)
  simpa [laws_markWaitS.f] using h
theorem heldWaitS_l0 : ∀ (n : Nat) (pre : List S_impl_Wait) (m : Int) (k : Nat), n + 25 < k → 0 ≤ m → m + 2 * n ≤ 4611686018427387904 → pre.length + n < 9223372036854775807 →
    laws_heldWaitS.l0 k (pre ++ markedW n m) m (pre.length : Int) = some (m + 2 * n) := by
  intro n
  induction n with
  | zero =>
    intro pre m k hk h0 hm hb
    obtain ⟨k, rfl⟩ := succ_of hk
    rw [laws_heldWaitS.l0, markedW, if_neg end_not_lt]; simp
  | succ n ih =>
    intro pre m k hk h0 hm hb
    obtain ⟨k, rfl⟩ := succ_of hk
    rw [laws_heldWaitS.l0, markedW, if_pos mid_lt, if_pos (nat_le0 _), rdw_mid, if_pos rfl, wrap_id (i := m + 1) (by omega) (by omega), markText_eq (by omega) (by omega), Option.bind_some, if_pos rfl,
      wrap_id (i := m + 1 + 1) (by omega) (by omega), wrap_snoc (x := (⟨m, mt (m + 1)⟩ : S_impl_Wait)) (by omega), snoc_app, show m + 1 + 1 = m + 2 by omega, ih (pre ++ [(⟨m, mt (m + 1)⟩ : S_impl_Wait)]) (m + 2) k (by omega) (by omega) (by omega) (by simp; omega)]
    congr 1; omega
theorem heldWaitS_eq (n : Nat) (m : Int) (k : Nat) (hk : n + 25 < k) (h0 : 0 ≤ m) (hm : m + 2 * n ≤ 4611686018427387904) : laws_heldWaitS.f k (markedW n m) m = some (m + 2 * n) := by
  have h := heldWaitS_l0 n [] m k hk h0 hm (by simp; omega)
  simpa [laws_heldWaitS.f] using h
/-- A disk marked, and its marks held. -/
theorem markDisk_eq (a : List ByteArray) (b : List S_impl_Wait) (n : Int) (k : Nat) (ha : a.length + 25 < k) (hb : b.length + 25 < k) (hl : a.length + 2 * b.length ≤ 4000000000000) :
    laws_markDisk.f k a b n 1 = some (1 + (a.length : Int) + 2 * b.length, markedS a.length 1, markedW b.length (1 + a.length)) := by
  unfold laws_markDisk.f
  rw [markStringS_eq a 1 k ha (by omega) (by omega), Option.bind_some, markWaitS_eq b _ k hb (by omega) (by omega), Option.bind_some]
theorem heldDisk_eq (a b : Nat) (n : Int) (k : Nat) (ha : a + 25 < k) (hb : b + 25 < k) (hl : a + 2 * b ≤ 4000000000000) :
    laws_heldDisk.f k (markedS a 1) (markedW b (1 + a)) n 1 = some (1 + (a : Int) + 2 * b) := by
  unfold laws_heldDisk.f
  rw [heldStringS_eq a 1 k ha (by omega) (by omega), Option.bind_some, if_neg (by omega), heldWaitS_eq b _ k hb (by omega) (by omega), Option.bind_some, if_neg (by omega)]

/-! ### sizes -/
def szW : List S_laws_Wait → Int → Int
  | [], left => left
  | s :: r, left => if left - s.f1.size < 0 then -1 else szW r (left - s.f1.size)
theorem szW_pos : ∀ (l : List S_laws_Wait) (left : Int), 0 ≤ szW l left → szW l left ≤ left
  | [], left, _ => by simp [szW]
  | s :: r, left, h => by
    rw [szW] at h ⊢
    by_cases hl : left - s.f1.size < 0
    · rw [if_pos hl] at h; omega
    · rw [if_neg hl] at h ⊢
      have := szW_pos r _ h
      omega
theorem szWaitS_l0 : ∀ (suf pre : List S_laws_Wait) (left : Int) (k : Nat), suf.length < k → 0 ≤ left → left ≤ 4611686018427387904 → (∀ s ∈ suf, Good_laws_Wait s) → (pre ++ suf).length < 9223372036854775807 →
    laws_szWaitS.l0 k (pre ++ suf) left (pre.length : Int) = some (szW suf left) := by
  intro suf
  induction suf with
  | nil =>
    intro pre left k hk h0 h1 hs hb
    obtain ⟨k, rfl⟩ := succ_of hk
    rw [laws_szWaitS.l0, if_neg end_not_lt]; rfl
  | cons x suf ih =>
    intro pre left k hk h0 h1 hs hb
    obtain ⟨k, rfl⟩ := succ_of hk
    have hx := (hs x (by simp)).2
    rw [laws_szWaitS.l0, if_pos mid_lt, if_pos (nat_le0 _), rdlw_mid, szW]
    unfold laws_szWait.f
    rw [wrap_id (i := left - x.f1.size) (by omega) (by omega)]
    by_cases hl : left - x.f1.size < 0
    · rw [if_pos hl, if_pos hl, Option.bind_some, if_pos (by omega)]
    · rw [if_neg hl, if_neg hl, Option.bind_some, if_neg hl, wrap_snoc (x := x) (by simp at hb; omega), snoc_app, ih (pre ++ [x]) _ k (by simpa using hk) (by omega) (by omega) (fun s h => hs s (by simp [h])) (by simpa using hb)]
theorem szWaitS_eq (l : List S_laws_Wait) (left : Int) (k : Nat) (hk : l.length < k) (h0 : 0 ≤ left) (h1 : left ≤ 4611686018427387904) (hs : ∀ s ∈ l, Good_laws_Wait s) (hb : l.length ≤ 9223372036854775807) :
    laws_szWaitS.f k l left = some (if left - l.length < 0 then -1 else szW l (left - l.length)) := by
  unfold laws_szWaitS.f
  rw [wrap_id (by omega) (by omega)]
  by_cases hl : left - l.length < 0
  · rw [if_pos hl, if_pos hl]
  · rw [if_neg hl, if_neg hl]
    exact szWaitS_l0 l [] _ k hk (by omega) (by omega) hs (by simp; omega)
/-- The guard of the laws over disks: what passes is small. -/
theorem szDisk_eq (a : List ByteArray) (b : List S_laws_Wait) (n : Int) (k : Nat) (ha : a.length < k) (hb : b.length < k) (ga : a.length ≤ 9223372036854775807 ∧ ∀ y ∈ a, y.size ≤ 9223372036854775807) (gb : b.length ≤ 9223372036854775807 ∧ ∀ y ∈ b, Good_laws_Wait y) :
    ∃ r : Int, laws_szDisk.f k a b n 1048576 = some r ∧ (0 ≤ r → a.length ≤ 1048576 ∧ b.length ≤ 1048576) := by
  unfold laws_szDisk.f
  rw [szStringS_eq a 1048576 k ha (by omega) (by omega) ga.2 ga.1, Option.bind_some]
  by_cases h1 : (1048576 : Int) - a.length < 0
  · rw [if_pos h1, if_pos (by omega)]
    exact ⟨-1, rfl, fun h => by omega⟩
  · rw [if_neg h1]
    by_cases h2 : szS a (1048576 - a.length) < 0
    · rw [if_pos h2]
      exact ⟨-1, rfl, fun h => by omega⟩
    · rw [if_neg h2]
      have h3 := szS_pos a (1048576 - a.length) (by omega)
      rw [szWaitS_eq b _ k hb (by omega) (by omega) gb.2 gb.1, Option.bind_some]
      by_cases h4 : szS a (1048576 - a.length) - b.length < 0
      · rw [if_pos h4, if_pos (by omega)]
        exact ⟨-1, rfl, fun h => by omega⟩
      · rw [if_neg h4]
        by_cases h5 : szW b (szS a (1048576 - a.length) - b.length) < 0
        · rw [if_pos h5]; exact ⟨-1, rfl, fun h => by omega⟩
        · rw [if_neg h5]; exact ⟨_, rfl, fun _ => by omega⟩

/-! ### copies -/
theorem toStringS_l0 : ∀ (suf pre zs : List ByteArray) (k : Nat), zs.length = suf.length → suf.length < k → (pre ++ suf).length < 9223372036854775807 →
    laws_toStringS.l0 k (pre ++ suf) (pre ++ zs) (pre.length : Int) = some (pre ++ suf) := by
  intro suf
  induction suf with
  | nil =>
    intro pre zs k hz hk hb
    obtain ⟨k, rfl⟩ := succ_of hk
    obtain rfl : zs = [] := List.eq_nil_of_length_eq_zero hz
    rw [laws_toStringS.l0, if_neg end_not_lt]
  | cons x suf ih =>
    intro pre zs k hz hk hb
    obtain ⟨k, rfl⟩ := succ_of hk
    cases zs with
    | nil => simp at hz
    | cons z zs =>
      rw [laws_toStringS.l0, if_pos mid_lt, if_pos (nat_le0 _), if_pos mid_lt, rdOf_mid, set_mid, wrap_snoc (x := x) (by simp at hb; omega), snoc_app, snoc_app (suf := zs), ih (pre ++ [x]) zs k (by simpa using hz) (by simpa using hk) (by simpa using hb)]
theorem toStringS_eq (l : List ByteArray) (k : Nat) (hk : l.length < k) (hb : l.length ≤ 1000000000000) : laws_toStringS.f k l = some l := by
  unfold laws_toStringS.f
  rw [if_pos (nat_le0 _), if_pos (by omega)]
  have h := toStringS_l0 l [] (List.replicate ((l.length : Int)).toNat (⟨#[]⟩ : ByteArray)) k (by simp) hk (by simp; omega)
  simpa using h
def cw (x : S_laws_Wait) : S_impl_Wait := ⟨x.f0, x.f1⟩
theorem toWaitS_l0 : ∀ (suf pre : List S_laws_Wait) (zs : List S_impl_Wait) (k : Nat), zs.length = suf.length → suf.length < k → (pre ++ suf).length < 9223372036854775807 →
    laws_toWaitS.l0 k (pre ++ suf) (pre.map cw ++ zs) (pre.length : Int) = some ((pre ++ suf).map cw) := by
  intro suf
  induction suf with
  | nil =>
    intro pre zs k hz hk hb
    obtain ⟨k, rfl⟩ := succ_of hk
    obtain rfl : zs = [] := List.eq_nil_of_length_eq_zero hz
    rw [laws_toWaitS.l0, if_neg end_not_lt]; simp
  | cons x suf ih =>
    intro pre zs k hz hk hb
    obtain ⟨k, rfl⟩ := succ_of hk
    cases zs with
    | nil => simp at hz
    | cons z zs =>
      have hl : (pre.length : Int) = ((pre.map cw).length : Int) := by simp
      rw [laws_toWaitS.l0, if_pos mid_lt, if_pos (nat_le0 _), rdlw_mid]
      unfold laws_toWait.f
      rw [Option.bind_some, if_pos (by rw [hl]; exact mid_lt)]
      rw [show (pre.map cw ++ z :: zs).set ((pre.length : Int)).toNat (⟨x.f0, x.f1⟩ : S_impl_Wait) = (pre ++ [x]).map cw ++ zs by rw [hl, set_mid]; simp [cw], wrap_snoc (x := x) (by simp at hb; omega), snoc_app, ih (pre ++ [x]) zs k (by simpa using hz) (by simpa using hk) (by simpa using hb)]
theorem toWaitS_eq (l : List S_laws_Wait) (k : Nat) (hk : l.length < k) (hb : l.length ≤ 1000000000000) : laws_toWaitS.f k l = some (l.map cw) := by
  unfold laws_toWaitS.f
  rw [if_pos (nat_le0 _), if_pos (by omega)]
  have h := toWaitS_l0 l [] (List.replicate ((l.length : Int)).toNat z_impl_Wait) k (by simp) hk (by simp; omega)
  simpa using h
theorem toDisk_eq (a : List ByteArray) (b : List S_laws_Wait) (n : Int) (k : Nat) (ha : a.length < k) (hb : b.length < k) (ha' : a.length ≤ 1048576) (hb' : b.length ≤ 1048576) : laws_toDisk.f k a b n = some (a, b.map cw, n) := by
  unfold laws_toDisk.f
  rw [toStringS_eq a k ha (by omega), Option.bind_some, toWaitS_eq b k hb (by omega), Option.bind_some]
end Go.Proofs.Ytjmdinhobhoojaa.V

/- What it is for a disk to be ok, by the program and by the reference; copies. -/
namespace Go.Proofs.Ytjmdinhobhoojaa.V
open Go.RowKit Go.Proofs.Ytjmdinhobhoojaa.P Go.Proofs.YtjmdinhobhoojaaW.PrintWords Go.Proofs.YtjmdinhobhoojaaW.PrintMore

theorem l1In_eq (a b c : Int) : spec_l1In.f a b c = some (decide (b ≤ a ∧ a ≤ c)) := by
  unfold spec_l1In.f
  by_cases h : a ≥ b
  · rw [if_pos h]; simp [show b ≤ a from h]
  · rw [if_neg h]; simp [show ¬ b ≤ a from h]
theorem isBlock_eq (a : Int) : impl_isBlock.f a = some (decide (0 ≤ a ∧ a ≤ 139)) := by
  unfold impl_isBlock.f
  by_cases h : a ≥ 0
  · rw [if_pos h]; simp [show 0 ≤ a from h]; omega
  · rw [if_neg h]; simp [show ¬ 0 ≤ a from h]

/-! ### ok -/
def OkW (w : S_impl_Wait) : Prop := (0 ≤ w.f0 ∧ w.f0 ≤ 139) ∧ w.f1.size ≤ 200
instance (w : S_impl_Wait) : Decidable (OkW w) := by unfold OkW; infer_instance
/-- A disk is ok. -/
def OkD (a : List ByteArray) (b : List S_impl_Wait) (n : Int) : Prop := (∀ x ∈ a, x.size ≤ 200) ∧ (∀ w ∈ b, OkW w) ∧ a.length = 140 ∧ -1 ≤ n
instance (a : List ByteArray) (b : List S_impl_Wait) (n : Int) : Decidable (OkD a b n) := by unfold OkD; infer_instance

theorem spec_DiskOk_l1 : ∀ (suf pre : List S_impl_Wait) (a : List ByteArray) (n : Int) (k : Nat), suf.length < k → (pre ++ suf).length < 9223372036854775807 →
    spec_DiskOk.l1 k (pre.length : Int) a (pre ++ suf) n = some (decide ((∀ w ∈ suf, OkW w) ∧ a.length = 140 ∧ -1 ≤ n)) := by
  intro suf
  induction suf with
  | nil =>
    intro pre a n k hk hb
    obtain ⟨k, rfl⟩ := succ_of hk
    rw [spec_DiskOk.l1, if_neg end_not_lt]
    by_cases h : a.length = 140
    · rw [if_pos (by omega)]; simp [h]
    · rw [if_neg (by omega)]; simp [h]
  | cons x suf ih =>
    intro pre a n k hk hb
    obtain ⟨k, rfl⟩ := succ_of hk
    rw [spec_DiskOk.l1, if_pos mid_lt, if_pos (nat_le0 _), rdw_mid, l1In_eq, Option.bind_some]
    by_cases h : 0 ≤ x.f0 ∧ x.f0 ≤ 139
    · rw [if_pos (by simpa using h)]
      by_cases h2 : (x.f1.size : Int) > 200
      · rw [if_pos h2]
        have : ¬ OkW x := fun hw => by have := hw.2; omega
        simp [this]
      · rw [if_neg h2, wrap_snoc (x := x) (by simp at hb; omega), snoc_app (suf := suf), ih (pre ++ [x]) a n k (by simpa using hk) (by simpa using hb)]
        have : OkW x := ⟨h, by omega⟩
        simp [this]
    · rw [if_neg (by simpa using h)]
      have : ¬ OkW x := fun hw => h hw.1
      simp [this]
theorem spec_DiskOk_l0 : ∀ (suf pre : List ByteArray) (b : List S_impl_Wait) (n : Int) (k : Nat), suf.length + b.length + 1 < k → (pre ++ suf).length < 9223372036854775807 → b.length < 9223372036854775807 →
    spec_DiskOk.l0 k (pre.length : Int) (pre ++ suf) b n = some (decide ((∀ x ∈ suf, x.size ≤ 200) ∧ (∀ w ∈ b, OkW w) ∧ (pre ++ suf).length = 140 ∧ -1 ≤ n)) := by
  intro suf
  induction suf with
  | nil =>
    intro pre b n k hk hb hb2
    obtain ⟨k, rfl⟩ := succ_of (show 0 < k by omega)
    rw [spec_DiskOk.l0, if_neg end_not_lt]
    have h := spec_DiskOk_l1 b [] (pre ++ []) n k (by simp at hk; omega) (by simpa using hb2)
    simp only [List.nil_append, List.length_nil, Int.natCast_zero] at h
    rw [h]; simp
  | cons x suf ih =>
    intro pre b n k hk hb hb2
    obtain ⟨k, rfl⟩ := succ_of (show 0 < k by omega)
    rw [spec_DiskOk.l0, if_pos mid_lt, if_pos (nat_le0 _), rdOf_mid]
    by_cases h2 : (x.size : Int) > 200
    · rw [if_pos h2]
      have : ¬ x.size ≤ 200 := by omega
      simp [this]
    · rw [if_neg h2, wrap_snoc (x := x) (by simp at hb; omega), snoc_app (suf := suf), ih (pre ++ [x]) b n k (by simp at hk; omega) (by simpa using hb) hb2]
      have : x.size ≤ 200 := by omega
      simp [this]
theorem spec_DiskOk_eq (a : List ByteArray) (b : List S_impl_Wait) (n : Int) (k : Nat) (hk : a.length + b.length + 1 < k) (ha : a.length < 9223372036854775807) (hb : b.length < 9223372036854775807) : spec_DiskOk.f k a b n = some (decide (OkD a b n)) := by
  have h := spec_DiskOk_l0 a [] b n k hk ha hb
  simp only [List.nil_append, List.length_nil, Int.natCast_zero] at h
  unfold spec_DiskOk.f
  rw [h]; rfl
theorem isDisk_l1 : ∀ (suf pre : List S_impl_Wait) (k : Nat), suf.length < k → (pre ++ suf).length < 9223372036854775807 →
    impl_isDisk.l1 k (pre ++ suf) ((pre ++ suf).length : Int) (pre.length : Int) = some (decide (∀ w ∈ suf, OkW w)) := by
  intro suf
  induction suf with
  | nil =>
    intro pre k hk hb
    obtain ⟨k, rfl⟩ := succ_of hk
    rw [impl_isDisk.l1, if_neg end_not_lt]; simp
  | cons x suf ih =>
    intro pre k hk hb
    obtain ⟨k, rfl⟩ := succ_of hk
    rw [impl_isDisk.l1, if_pos mid_lt, if_pos (nat_le0 _), if_pos mid_lt, rdw_mid, isBlock_eq, Option.bind_some]
    by_cases h : 0 ≤ x.f0 ∧ x.f0 ≤ 139
    · rw [if_pos (by simpa using h)]
      by_cases h2 : (x.f1.size : Int) > 200
      · rw [if_pos h2]
        have : ¬ OkW x := fun hw => by have := hw.2; omega
        simp [this]
      · rw [if_neg h2, wrap_snoc (x := x) (by simp at hb; omega), snoc_app (suf := suf), ih (pre ++ [x]) k (by simpa using hk) (by simpa using hb)]
        have : OkW x := ⟨h, by omega⟩
        simp [this]
    · rw [if_neg (by simpa using h)]
      have : ¬ OkW x := fun hw => h hw.1
      simp [this]
theorem isDisk_l0 : ∀ (suf pre whole : List ByteArray) (b : List S_impl_Wait) (n : Int) (k : Nat), suf.length + b.length + 1 < k → (pre ++ suf).length < 9223372036854775807 → b.length < 9223372036854775807 →
    impl_isDisk.l0 k (pre ++ suf) ((pre ++ suf).length : Int) (pre.length : Int) whole b n = some (decide ((∀ x ∈ suf, x.size ≤ 200) ∧ (∀ w ∈ b, OkW w))) := by
  intro suf
  induction suf with
  | nil =>
    intro pre whole b n k hk hb hb2
    obtain ⟨k, rfl⟩ := succ_of (show 0 < k by omega)
    rw [impl_isDisk.l0, if_neg end_not_lt]
    have h := isDisk_l1 b [] k (by simp at hk; omega) (by simpa using hb2)
    simp only [List.nil_append, List.length_nil, Int.natCast_zero] at h
    rw [h]; simp
  | cons x suf ih =>
    intro pre whole b n k hk hb hb2
    obtain ⟨k, rfl⟩ := succ_of (show 0 < k by omega)
    rw [impl_isDisk.l0, if_pos mid_lt, if_pos (nat_le0 _), if_pos mid_lt, rdOf_mid]
    by_cases h2 : (x.size : Int) > 200
    · rw [if_pos h2]
      have : ¬ x.size ≤ 200 := by omega
      simp [this]
    · rw [if_neg h2, wrap_snoc (x := x) (by simp at hb; omega), snoc_app (suf := suf), ih (pre ++ [x]) whole b n k (by simp at hk; omega) (by simpa using hb) hb2]
      have : x.size ≤ 200 := by omega
      simp [this]
theorem isDisk_eq (a : List ByteArray) (b : List S_impl_Wait) (n : Int) (k : Nat) (hk : a.length + b.length + 2 < k) (ha : a.length < 9223372036854775807) (hb : b.length < 9223372036854775807) : impl_isDisk.f k a b n = some (decide (OkD a b n)) := by
  unfold impl_isDisk.f
  obtain ⟨k, rfl⟩ := succ_of (show 0 < k by omega)
  by_cases h : a.length = 140
  · rw [if_pos (by omega), impl_isDisk.j0]
    by_cases h2 : n < -1
    · rw [if_pos (by simpa using h2)]
      have : ¬ OkD a b n := fun hd => by have := hd.2.2.2; omega
      simp [this]
    · rw [if_neg (by simpa using h2)]
      have hl := isDisk_l0 a [] a b n k (by omega) ha hb
      simp only [List.nil_append, List.length_nil, Int.natCast_zero] at hl
      rw [hl]
      have : -1 ≤ n := by omega
      simp [OkD, h, this]
  · rw [if_neg (by omega), impl_isDisk.j0, if_pos rfl]
    simp [OkD, h]
theorem impl_DiskOk_eq (a : List ByteArray) (b : List S_impl_Wait) (n : Int) (k : Nat) (hk : a.length + b.length + 2 < k) (ha : a.length < 9223372036854775807) (hb : b.length < 9223372036854775807) : impl_DiskOk.f k a b n = some (decide (OkD a b n)) := by
  unfold impl_DiskOk.f
  rw [isDisk_eq a b n k hk ha hb]; rfl

/-! ### copies -/
theorem l2Copy_eq (a : List ByteArray) (b : List S_impl_Wait) (n : Int) (ha : a.length ≤ 1000000000000) (hb : b.length ≤ 1000000000000) : spec_l2Copy.f a b n = some (a, b, n) := by
  unfold spec_l2Copy.f
  simp only [Option.bind_some, List.length_nil, List.nil_append]
  rw [if_pos (by omega), if_pos (by omega)]
theorem copyDisk_eq (a : List ByteArray) (b : List S_impl_Wait) (n : Int) (ha : a.length ≤ 1000000000000) (hb : b.length ≤ 1000000000000) : impl_copyDisk.f a b n = some (a, b, n) := by
  unfold impl_copyDisk.f
  simp only [Option.bind_some, List.length_nil, List.nil_append]
  rw [if_pos (by omega), if_pos (by omega)]
end Go.Proofs.Ytjmdinhobhoojaa.V

/- A disk as three parts. -/
namespace Go.Proofs.Ytjmdinhobhoojaa.V
open Go.RowKit Go.Proofs.Ytjmdinhobhoojaa.P Go.Proofs.YtjmdinhobhoojaaW.PrintWords Go.Proofs.YtjmdinhobhoojaaW.PrintMore

abbrev D3 := List ByteArray × List S_impl_Wait × Int
def zeroD : D3 := ([], [], 0)
/-- One count less, if it is counted. -/
def less (n : Int) : Int := if 0 < n then n - 1 else n
theorem less_wrap {n : Int} (h : n ≤ 9223372036854775807) : (if 0 < n then wrap64 (n - 1) else n) = less n := by
  unfold less
  by_cases h0 : 0 < n
  · rw [if_pos h0, if_pos h0, wrap_id (by omega) (by omega)]
  · rw [if_neg h0, if_neg h0]

end Go.Proofs.Ytjmdinhobhoojaa.V

/- What a flush comes to, by the program and by the reference. -/
namespace Go.Proofs.Ytjmdinhobhoojaa.V
open Go.RowKit Go.Proofs.Ytjmdinhobhoojaa.P Go.Proofs.YtjmdinhobhoojaaW.PrintWords Go.Proofs.YtjmdinhobhoojaaW.PrintMore

/-! ### flush -/
def applyW : List S_impl_Wait → List ByteArray → List ByteArray
  | [], a => a
  | w :: r, a => applyW r (a.set w.f0.toNat w.f1)
theorem applyW_length : ∀ (b : List S_impl_Wait) (a : List ByteArray), (applyW b a).length = a.length
  | [], _ => rfl
  | w :: r, a => by rw [applyW, applyW_length r]; simp
def fl1 (a : List ByteArray) (b : List S_impl_Wait) (n : Int) : D3 := if n = 0 then (a, b, n) else (applyW b a, [], less n)
def flD (a : List ByteArray) (b : List S_impl_Wait) (n : Int) : D3 := if OkD a b n then fl1 a b n else zeroD
theorem l2Flush_l0 : ∀ (suf pre : List S_impl_Wait) (a : List ByteArray) (n : Int) (k : Nat), suf.length < k → (pre ++ suf).length < 9223372036854775807 → (∀ w ∈ suf, OkW w) → a.length = 140 →
    spec_l2Flush.l0 k (pre.length : Int) a (pre ++ suf) n = some (applyW suf a, [], n) := by
  intro suf
  induction suf with
  | nil =>
    intro pre a n k hk hb hw ha
    obtain ⟨k, rfl⟩ := succ_of hk
    rw [spec_l2Flush.l0, if_neg end_not_lt]; rfl
  | cons x suf ih =>
    intro pre a n k hk hb hw ha
    obtain ⟨k, rfl⟩ := succ_of hk
    have hx := (hw x (by simp)).1
    rw [spec_l2Flush.l0, if_pos mid_lt, if_pos (nat_le0 _), rdw_mid, if_pos hx.1, if_pos (by omega), wrap_snoc (x := x) (by simp at hb; omega), snoc_app (suf := suf), ih (pre ++ [x]) _ n k (by simpa using hk) (by simpa using hb) (fun w h => hw w (by simp [h])) (by simpa using ha)]
    rfl
theorem disk_flush_l0 : ∀ (suf pre : List S_impl_Wait) (a : List ByteArray) (k : Nat), suf.length < k → (pre ++ suf).length < 9223372036854775807 → (∀ w ∈ suf, OkW w) → a.length = 140 →
    disk_flush.l0 k (pre ++ suf) (pre.length : Int) a = some (applyW suf a) := by
  intro suf
  induction suf with
  | nil =>
    intro pre a k hk hb hw ha
    obtain ⟨k, rfl⟩ := succ_of hk
    rw [disk_flush.l0, if_neg end_not_lt]; rfl
  | cons x suf ih =>
    intro pre a k hk hb hw ha
    obtain ⟨k, rfl⟩ := succ_of hk
    have hx := (hw x (by simp)).1
    rw [disk_flush.l0, if_pos mid_lt, if_pos (nat_le0 _), rdw_mid, if_pos hx.1, if_pos (by omega), wrap_snoc (x := x) (by simp at hb; omega), snoc_app (suf := suf), ih (pre ++ [x]) _ k (by simpa using hk) (by simpa using hb) (fun w h => hw w (by simp [h])) (by simpa using ha)]
    rfl
theorem l2Flush_eq (a : List ByteArray) (b : List S_impl_Wait) (n : Int) (k : Nat) (hk : b.length + 1 < k) (hb : b.length ≤ 1000000000) (hn : n ≤ 9223372036854775807) (h : OkD a b n) :
    spec_l2Flush.f k a b n = some (fl1 a b n) := by
  unfold spec_l2Flush.f fl1
  obtain ⟨k, rfl⟩ := succ_of (show 0 < k by omega)
  by_cases h0 : n = 0
  · rw [if_pos h0, if_pos h0]
  · have hl : ∀ m : Int, spec_l2Flush.j0 (k + 1) a b m = some (applyW b a, [], m) := fun m => by
      have hl := l2Flush_l0 b [] a m k (by omega) (by simp; omega) h.2.1 h.2.2.1
      have h4 := h.2.2.1
      simp only [List.nil_append, List.length_nil, Int.natCast_zero] at hl
      rw [spec_l2Flush.j0]
      simp only [Option.bind_some, List.length_nil, List.nil_append]
      rw [if_pos (by omega), hl]
    rw [if_neg h0, if_neg h0, ← less_wrap hn]
    by_cases h1 : n > 0
    · rw [if_pos h1, if_pos h1, hl]
    · rw [if_neg h1, if_neg h1, hl]
theorem spec_DiskFlush_eq (a : List ByteArray) (b : List S_impl_Wait) (n : Int) (k : Nat) (hk : a.length + b.length + 2 < k) (ha : a.length ≤ 1000000000) (hb : b.length ≤ 1000000000) (hn : n ≤ 9223372036854775807) :
    spec_DiskFlush.f k a b n = some (flD a b n) := by
  unfold spec_DiskFlush.f flD
  rw [spec_DiskOk_eq a b n k (by omega) (by omega) (by omega), Option.bind_some]
  by_cases h : OkD a b n
  · rw [if_pos (by simpa using h), if_pos h, l2Flush_eq a b n k (by omega) hb hn h, Option.bind_some]
    unfold fl1
    by_cases h0 : n = 0
    · simp only [if_pos h0]
      rw [l2Copy_eq a b n (by omega) (by omega)]; rfl
    · simp only [if_neg h0]
      rw [l2Copy_eq _ [] _ (by rw [applyW_length]; omega) (by simp)]; rfl
  · rw [if_neg (by simpa using h), if_neg h]; rfl
theorem impl_DiskFlush_eq (a : List ByteArray) (b : List S_impl_Wait) (n : Int) (k : Nat) (hk : a.length + b.length + 2 < k) (ha : a.length ≤ 1000000000) (hb : b.length ≤ 1000000000) (hn : n ≤ 9223372036854775807) :
    impl_DiskFlush.f k a b n = some (flD a b n) := by
  unfold impl_DiskFlush.f flD
  rw [isDisk_eq a b n k (by omega) (by omega) (by omega), Option.bind_some]
  by_cases h : OkD a b n
  · rw [if_pos (by simpa using h), if_pos h, copyDisk_eq a b n (by omega) (by omega), Option.bind_some]
    unfold fl1
    by_cases h0 : n = 0
    · simp only [if_pos h0]
    · simp only [if_neg h0]
      have hl := disk_flush_l0 b [] a k (by omega) (by simp; omega) h.2.1 h.2.2.1
      simp only [List.nil_append, List.length_nil, Int.natCast_zero] at hl
      rw [hl, Option.bind_some, less_wrap hn]
  · rw [if_neg (by simpa using h), if_neg h]; rfl

end Go.Proofs.Ytjmdinhobhoojaa.V

/- The program's disk behind a flush is the reference's, in memory of its own, and the argument stays as it was. No condition. -/
namespace Go.Proofs.Ytjmdinhobhoojaa.Pure
open Go.RowKit Go.Proofs.Ytjmdinhobhoojaa.P Go.Proofs.Ytjmdinhobhoojaa.V

theorem FnExactDiskFlush : laws_FnExactDiskFlush.Pure := by
  intro a b n ga gb hn 
  have hn2 : n ≤ 9223372036854775807 := by simp [Lit.wf, IntKind.max, IntKind.signed, IntKind.bits] at hn; omega
  obtain ⟨K, hK⟩ : ∃ K, K = a.length + b.length + 400 := ⟨_, rfl⟩
  refine ⟨K + 1, ?_⟩
  unfold laws_FnExactDiskFlush.f
  obtain ⟨r, hr, hs⟩ := szDisk_eq a b n (K + 1) (by omega) (by omega) ga gb
  rw [hr, Option.bind_some]
  by_cases h : r < 0
  · rw [if_pos h]
  · rw [if_neg h]
    obtain ⟨ha, hb⟩ := hs (by omega)
    have hbm : (b.map cw).length = b.length := by simp
    have hto := toDisk_eq a b n (K + 1) (by omega) (by omega) ha hb
    have hto' := toDisk_eq a b n K (by omega) (by omega) ha hb
    generalize b.map cw = b' at hbm hto hto'
    have hsp := spec_DiskFlush_eq a b' n (K + 1) (by omega) (by omega) (by omega) hn2
    have him := impl_DiskFlush_eq a b' n (K + 1) (by omega) (by omega) (by omega) hn2
    have him' := impl_DiskFlush_eq a b' n K (by omega) (by omega) (by omega) hn2
    have hD : (flD a b' n).1.length ≤ a.length ∧ (flD a b' n).2.1.length ≤ b'.length + 1 := by
      unfold flD fl1
      split
      · split <;> simp [applyW_length]
      · simp [zeroD]
    generalize flD a b' n = d at hsp him him' hD
    obtain ⟨d1, d2, d3⟩ := d
    simp only at hD
    obtain ⟨hD1, hD2⟩ := hD
    have e1 := eqDisk_refl d1 d2 d3 (K + 1) (by omega) (by omega) (by omega) (by omega)
    have e1' := eqDisk_refl d1 d2 d3 K (by omega) (by omega) (by omega) (by omega)
    have e2 := eqDisk_refl a b' n (K + 1) (by omega) (by omega) (by omega) (by omega)
    have m1 := markDisk_eq a b' n (K + 1) (by omega) (by omega) (by omega)
    have m2 := markDisk_eq d1 d2 d3 K (by omega) (by omega) (by omega)
    have h2 := heldDisk_eq d1.length d2.length d3 K (by omega) (by omega) (by omega)
    simp only [hto, hsp, him, e1, e2, m1, Option.bind_some, if_true]
    rw [if_neg (by omega), laws_FnExactDiskFlush.j0]
    simp only [Bool.not_true, Bool.false_eq_true, if_false, m2, h2, hto', him', e1', Option.bind_some, if_true]
    rw [if_neg (by omega), if_neg (by omega)]

end Go.Proofs.Ytjmdinhobhoojaa.Pure
