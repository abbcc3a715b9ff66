/- The plain statement of the law FnExactWirePut, proved. -/
import Derived.Test.YtgkgkpoeiojmeaaDoorZFnExactWirePutW0
import Derived.Test.YtgkgkpoeiojmeaaDoorZFnExactWirePut0
import Derived.Lib.ItoaLen
/- Plain lemmas on lists, numbers and strings, for the laws' plain statements. -/
namespace Go.Proofs.YtgkgkpoeiojmeaaDoor.V
open Go.RowKit Go.Proofs.YtgkgkpoeiojmeaaDoorW.PrintWords Go.Proofs.YtgkgkpoeiojmeaaDoorW.PrintMore
theorem succ_of {d k : Nat} (h : d < k) : ∃ m, k = m + 1 := ⟨k - 1, by omega⟩
theorem wrap_id {i : Int} (h : -9223372036854775808 ≤ i) (h' : i ≤ 9223372036854775807) : wrap64 i = i := by unfold wrap64; omega
theorem tl_iff (a b : ByteArray) : a.toList = b.toList ↔ a = b := by
  rw [ByteArray.toList_eq, ByteArray.toList_eq]
  constructor
  · intro h
    cases a; cases b
    simp at h
    simp [h]
  · rintro rfl; rfl
section
variable {α : Type} {pre suf : List α} {x y : α}
theorem mid_lt : ((pre.length : Int) < ((pre ++ x :: suf).length : Int)) := by simp; omega
theorem end_not_lt : ¬ ((pre.length : Int) < ((pre ++ ([] : List α)).length : Int)) := by simp
theorem rdOf_mid (d : α) : rdOf d (pre ++ x :: suf) (pre.length : Int) = x := by simp [rdOf]
theorem set_mid : (pre ++ x :: suf).set ((pre.length : Int)).toNat y = pre ++ y :: suf := by simp
theorem wrap_snoc (h : pre.length < 9223372036854775807) : wrap64 ((pre.length : Int) + 1) = ((pre ++ [x]).length : Int) := by
  rw [wrap_id (by omega) (by omega)]; simp
theorem snoc_app : pre ++ x :: suf = (pre ++ [x]) ++ suf := by simp
end
theorem nat_le0 (n : Nat) : (0 : Int) ≤ (n : Int) := Int.natCast_nonneg n
end Go.Proofs.YtgkgkpoeiojmeaaDoor.V
/- What the helpers over lists of strings tell: equality, sizes, copies. -/
namespace Go.Proofs.YtgkgkpoeiojmeaaDoor.V
open Go.RowKit Go.Proofs.YtgkgkpoeiojmeaaDoor.P Go.Proofs.YtgkgkpoeiojmeaaDoorW.PrintWords Go.Proofs.YtgkgkpoeiojmeaaDoorW.PrintMore
theorem eqStringS_l0 : ∀ (sa sb pa pb : List ByteArray) (k : Nat), pa.length = pb.length → sa.length = sb.length → sa.length < k → (pa ++ sa).length < 9223372036854775807 →
    laws_eqStringS.l0 k (pa ++ sa) (pb ++ sb) (pa.length : Int) = some (decide (sa = sb)) := by
  intro sa
  induction sa with
  | nil =>
    intro sb pa pb k hp hs hk hb
    obtain ⟨k, rfl⟩ := succ_of hk
    obtain rfl : sb = [] := List.eq_nil_of_length_eq_zero hs.symm
    rw [laws_eqStringS.l0, if_neg end_not_lt]; rfl
  | cons x sa ih =>
    intro sb pa pb k hp hs hk hb
    obtain ⟨k, rfl⟩ := succ_of hk
    cases sb with
    | nil => simp at hs
    | cons y sb =>
      rw [laws_eqStringS.l0, if_pos mid_lt, if_pos (nat_le0 _), if_pos (by rw [hp]; exact mid_lt), rdOf_mid, hp, rdOf_mid, ← hp]
      by_cases hxy : x = y
      · subst hxy
        rw [if_pos rfl, wrap_snoc (x := x) (by simp at hb; omega), snoc_app, snoc_app (pre := pb), ih sb (pa ++ [x]) (pb ++ [x]) k (by simp [hp]) (by simpa using hs) (by simpa using hk) (by simpa using hb)]
        simp
      · rw [if_neg (by rw [tl_iff]; exact hxy)]
        simp [hxy]
theorem eqStringS_eq (a b : List ByteArray) (k : Nat) (hk : a.length < k) (hb : a.length < 9223372036854775807) : laws_eqStringS.f k a b = some (decide (a = b)) := by
  unfold laws_eqStringS.f
  by_cases h : a.length = b.length
  · rw [if_pos (by rw [h])]
    exact eqStringS_l0 a b [] [] k rfl h hk hb
  · rw [if_neg (by omega)]
    have : a ≠ b := fun e => h (by rw [e])
    simp [this]
/-- What is left of a size, -1 for less than nothing. -/
def szS : List ByteArray → Int → Int
  | [], left => left
  | s :: r, left => if left - s.size < 0 then -1 else szS r (left - s.size)
theorem szStringS_l0 : ∀ (suf pre : List ByteArray) (left : Int) (k : Nat), suf.length < k → 0 ≤ left → left ≤ 4611686018427387904 → (∀ s ∈ suf, s.size ≤ 9223372036854775807) → (pre ++ suf).length < 9223372036854775807 →
    laws_szStringS.l0 k (pre ++ suf) left (pre.length : Int) = some (szS suf left) := by
  intro suf
  induction suf with
  | nil =>
    intro pre left k hk h0 h1 hs hb
    obtain ⟨k, rfl⟩ := succ_of hk
    rw [laws_szStringS.l0, if_neg end_not_lt]; rfl
  | cons x suf ih =>
    intro pre left k hk h0 h1 hs hb
    obtain ⟨k, rfl⟩ := succ_of hk
    have hx := hs x (by simp)
    rw [laws_szStringS.l0, if_pos mid_lt, if_pos (nat_le0 _), rdOf_mid, wrap_id (i := left - x.size) (by omega) (by omega), szS]
    by_cases hl : left - x.size < 0
    · rw [if_pos hl, if_pos hl]
    · rw [if_neg hl, if_neg hl, wrap_snoc (x := x) (by simp at hb; omega), snoc_app, ih (pre ++ [x]) _ k (by simpa using hk) (by omega) (by omega) (fun s h => hs s (by simp [h])) (by simpa using hb)]
theorem szStringS_eq (l : List ByteArray) (left : Int) (k : Nat) (hk : l.length < k) (h0 : 0 ≤ left) (h1 : left ≤ 4611686018427387904) (hs : ∀ s ∈ l, s.size ≤ 9223372036854775807) (hb : l.length ≤ 9223372036854775807) :
    laws_szStringS.f k l left = some (if left - l.length < 0 then -1 else szS l (left - l.length)) := by
  unfold laws_szStringS.f
  rw [wrap_id (by omega) (by omega)]
  by_cases hl : left - l.length < 0
  · rw [if_pos hl, if_pos hl]
  · rw [if_neg hl, if_neg hl]
    exact szStringS_l0 l [] _ k hk (by omega) (by omega) hs (by simp; omega)
theorem toStringS_l0 : ∀ (suf pre zs : List ByteArray) (k : Nat), zs.length = suf.length → suf.length < k → (pre ++ suf).length < 9223372036854775807 →
    laws_toStringS.l0 k (pre ++ suf) (pre ++ zs) (pre.length : Int) = some (pre ++ suf) := by
  intro suf
  induction suf with
  | nil =>
    intro pre zs k hz hk hb
    obtain ⟨k, rfl⟩ := succ_of hk
    obtain rfl : zs = [] := List.eq_nil_of_length_eq_zero hz
    rw [laws_toStringS.l0, if_neg end_not_lt]
  | cons x suf ih =>
    intro pre zs k hz hk hb
    obtain ⟨k, rfl⟩ := succ_of hk
    cases zs with
    | nil => simp at hz
    | cons z zs =>
      rw [laws_toStringS.l0, if_pos mid_lt, if_pos (nat_le0 _), if_pos mid_lt, rdOf_mid, set_mid, wrap_snoc (x := x) (by simp at hb; omega), snoc_app, snoc_app (suf := zs), ih (pre ++ [x]) zs k (by simpa using hz) (by simpa using hk) (by simpa using hb)]
theorem toStringS_eq (l : List ByteArray) (k : Nat) (hk : l.length < k) (hb : l.length ≤ 1000000000000) : laws_toStringS.f k l = some l := by
  unfold laws_toStringS.f
  rw [if_pos (nat_le0 _), if_pos (by omega)]
  have h := toStringS_l0 l [] (List.replicate ((l.length : Int)).toNat (⟨#[]⟩ : ByteArray)) k (by simp) hk (by simp; omega)
  simpa using h
end Go.Proofs.YtgkgkpoeiojmeaaDoor.V
/- Numerals: the reference's and strconv's. -/
namespace Go.Proofs.YtgkgkpoeiojmeaaDoor.V
open Go.RowKit Go.Proofs.YtgkgkpoeiojmeaaDoor.P Go.Proofs.YtgkgkpoeiojmeaaDoorW.PrintWords Go.Proofs.YtgkgkpoeiojmeaaDoorW.PrintMore
theorem one_num {n : Nat} (h : n < 10) : strOfNums [(wrap64 (48 + (n : Int))) % 256] = (⟨#[UInt8.ofNat (48 + n)]⟩ : ByteArray) := by
  rw [wrap_id (by omega) (by omega)]
  have : (48 + (n : Int)) % 256 = ((48 + n : Nat) : Int) := by omega
  rw [this]
  have h2 : (((48 + n : Nat) : Int)).toNat = 48 + n := by omega
  simp only [strOfNums, List.map_cons, List.map_nil, h2]
theorem dec_size : ∀ (d u : Nat), u < 10 ^ (d + 1) → (Lib.decDigits u).length ≤ d + 1
  | 0, u, h => by rw [Lib.decDigits, dif_pos (by simpa using h)]; simp
  | d + 1, u, h => by
    rw [Lib.decDigits]
    by_cases h1 : u < 10
    · rw [dif_pos h1]; simp
    · rw [dif_neg h1]
      have := dec_size d (u / 10) (by rw [Nat.pow_succ] at h; omega)
      simp; omega
/-- The reference's numeral. -/
theorem l1Dec_eq : ∀ (d k : Nat) (u : Nat), u ≤ 9223372036854775807 → u < 10 ^ (d + 1) → d < 25 → d < k → spec_l1Dec.f k (u : Int) = some ⟨(Lib.decDigits u).toArray⟩ := by
  intro d
  induction d with
  | zero =>
    intro k u h9 hd _ hk
    obtain ⟨k, rfl⟩ := succ_of hk
    have hu : u < 10 := by simpa using hd
    rw [spec_l1Dec.f, if_neg (by omega), if_neg (by omega), if_pos (by omega), one_num hu, Lib.decDigits, dif_pos hu]
  | succ d ih =>
    intro k u h9 hd h25 hk
    obtain ⟨k, rfl⟩ := succ_of hk
    rw [spec_l1Dec.f, if_neg (by omega), if_neg (by omega)]
    by_cases hu : u < 10
    · rw [if_pos (by omega), one_num hu, Lib.decDigits, dif_pos hu]
    · have e1 : wrap64 (Int.tdiv (u : Int) 10) = ((u / 10 : Nat) : Int) := by
        rw [Int.tdiv_eq_ediv_of_nonneg (by omega), wrap_id (by omega) (by omega)]; rfl
      have e2 : Int.tmod (u : Int) 10 = ((u % 10 : Nat) : Int) := by
        rw [Int.tmod_eq_emod_of_nonneg (by omega)]; rfl
      have hs := dec_size d (u / 10) (by rw [Nat.pow_succ] at hd; omega)
      rw [if_neg (by omega), e1, ih k (u / 10) (by omega) (by rw [Nat.pow_succ] at hd; omega) (by omega) (by omega), e2]
      simp only [Option.bind_some]
      rw [one_num (Nat.mod_lt _ (by decide))]
      rw [if_pos (by show (Lib.decDigits (u / 10)).toArray.size + 1 ≤ _; rw [List.size_toArray]; omega)]
      rw [show Lib.decDigits u = Lib.decDigits (u / 10) ++ [UInt8.ofNat (48 + u % 10)] by rw [Lib.decDigits, dif_neg hu]]
      first | done | congr 1
      try first | done | (apply ByteArray.ext; simp)
/-- A number that is not below nothing, in figures. -/
def itoaB (n : Int) : ByteArray := ⟨(Lib.itoa n).toArray⟩
theorem sDec_eq {n : Int} {k : Nat} (h0 : 0 ≤ n) (h9 : n ≤ 9223372036854775807) (hk : 30 ≤ k) : spec_l1Dec.f k n = some (itoaB n) := by
  obtain ⟨u, rfl⟩ : ∃ u : Nat, n = u := ⟨n.toNat, by omega⟩
  rw [l1Dec_eq 20 k u (by omega) (by omega) (by omega) (by omega), itoaB, Lib.itoa, if_neg (by omega)]
  rfl
theorem itoaB_size {n : Int} (h0 : -9223372036854775808 ≤ n) (h9 : n ≤ 9223372036854775807) : (itoaB n).size ≤ 21 := by
  show (Lib.itoa n).toArray.size ≤ 21
  rw [List.size_toArray]
  exact Lib.itoa_length_le n h0 h9
end Go.Proofs.YtgkgkpoeiojmeaaDoor.V
/- Words written as bytes. -/
namespace Go.Proofs.YtgkgkpoeiojmeaaDoor.V
open Go.RowKit Go.Proofs.YtgkgkpoeiojmeaaDoor.P Go.Proofs.YtgkgkpoeiojmeaaDoorW.PrintWords Go.Proofs.YtgkgkpoeiojmeaaDoorW.PrintMore
/-- One word. -/
def wOne (s : ByteArray) : ByteArray := ((itoaB (s.size : Int) ++ (⟨#[58]⟩ : ByteArray)) ++ s) ++ (⟨#[44]⟩ : ByteArray)
/-- All words, behind what is there. -/
def wAll : List ByteArray → ByteArray → ByteArray
  | [], o => o
  | s :: l, o => wAll l (o ++ wOne s)
theorem wOne_size (s : ByteArray) : (wOne s).size = (itoaB (s.size : Int)).size + 1 + s.size + 1 := by
  unfold wOne
  simp only [ByteArray.size_append]
  rfl
def wSum : List ByteArray → Nat
  | [] => 0
  | s :: l => s.size + 23 + wSum l
theorem wAll_ge : ∀ (l : List ByteArray) (o : ByteArray), o.size ≤ (wAll l o).size
  | [], o => Nat.le_refl _
  | s :: l, o => by
    have := wAll_ge l (o ++ wOne s)
    rw [ByteArray.size_append] at this
    show o.size ≤ (wAll l (o ++ wOne s)).size
    omega
theorem app4 (o a b c d : ByteArray) : ((((o ++ a) ++ b) ++ c) ++ d) = o ++ (((a ++ b) ++ c) ++ d) := by
  simp only [ByteArray.append_assoc]
theorem l3Wire_l0 : ∀ (suf pre : List ByteArray) (o : ByteArray) (k : Nat), suf.length + 31 < k → (pre ++ suf).length ≤ 1000000000000 → (∀ s ∈ suf, s.size ≤ 1000000000000) → o.size + wSum suf ≤ 9223372036854775807 →
    spec_l3Wire.l0 k (pre ++ suf) o (pre.length : Int) = some (wAll suf o) := by
  intro suf
  induction suf with
  | nil =>
    intro pre o k hk hb hs ho
    obtain ⟨k, rfl⟩ := succ_of hk
    rw [spec_l3Wire.l0, if_neg end_not_lt]; rfl
  | cons x suf ih =>
    intro pre o k hk hb hs ho
    obtain ⟨k, rfl⟩ := succ_of hk
    have hx := hs x (by simp)
    have hi := itoaB_size (n := (x.size : Int)) (by omega) (by omega)
    have hw := wOne_size x
    simp only [wSum] at ho
    rw [spec_l3Wire.l0, if_pos mid_lt, if_pos (nat_le0 _), rdOf_mid, sDec_eq (by omega) (by omega) (by simp at hk; omega), Option.bind_some]
    rw [if_pos (by omega), if_pos (by omega), if_pos (by omega), if_pos (by omega), wrap_snoc (x := x) (by simp at hb; omega), snoc_app, app4]
    exact ih (pre ++ [x]) (o ++ wOne x) k (by simp at hk; omega) (by simpa using hb) (fun s h => hs s (by simp [h])) (by rw [ByteArray.size_append]; omega)
theorem wirePut_l0 : ∀ (suf pre : List ByteArray) (o : ByteArray) (k : Nat), suf.length < k → (pre ++ suf).length ≤ 1000000000000 → (∀ s ∈ suf, s.size ≤ 1000000000000) → o.size ≤ 2000 →
    impl_wirePut.l0 k o (pre ++ suf) ((pre ++ suf).length : Int) (pre.length : Int) = some (if (wAll suf o).size > 2000 then (⟨#[]⟩ : ByteArray) else wAll suf o) := by
  intro suf
  induction suf with
  | nil =>
    intro pre o k hk hb hs ho
    obtain ⟨k, rfl⟩ := succ_of hk
    rw [impl_wirePut.l0, if_neg (by simp)]
    show _ = some (if o.size > 2000 then _ else o)
    rw [if_neg (by omega)]
  | cons x suf ih =>
    intro pre o k hk hb hs ho
    obtain ⟨k, rfl⟩ := succ_of hk
    have hx := hs x (by simp)
    have hi := itoaB_size (n := (x.size : Int)) (by omega) (by omega)
    have hw := wOne_size x
    have hg := wAll_ge suf (o ++ wOne x)
    rw [ByteArray.size_append] at hg
    show impl_wirePut.l0 _ _ _ _ _ = some (if (wAll suf (o ++ wOne x)).size > 2000 then _ else wAll suf (o ++ wOne x))
    rw [impl_wirePut.l0, if_pos mid_lt, if_pos (nat_le0 _), if_pos mid_lt, rdOf_mid]
    by_cases h1 : (x.size : Int) > 2000
    · rw [if_pos h1, if_pos (by omega)]
    · rw [if_neg h1]
      unfold strconv_Itoa_64.f
      rw [if_pos ⟨by omega, by omega⟩, Option.bind_some]
      show (if (itoaB (x.size : Int)).size + 1 ≤ 9223372036854775807 then (if (itoaB (x.size : Int)).size + 1 + x.size ≤ 9223372036854775807 then (if (itoaB (x.size : Int)).size + 1 + x.size + 1 ≤ 9223372036854775807 then (if o.size + ((itoaB (x.size : Int)).size + 1 + x.size + 1) ≤ 9223372036854775807 then (if ((o.size : Int) + (((itoaB (x.size : Int)).size : Int) + 1 + (x.size : Int) + 1)) > 2000 then (some (⟨#[]⟩ : ByteArray)) else (impl_wirePut.l0 k (o ++ wOne x) (pre ++ x :: suf) ((pre ++ x :: suf).length : Int) (wrap64 ((pre.length : Int) + 1)))) else (none)) else (none)) else (none)) else (none)) = _
      rw [if_pos (by omega), if_pos (by omega), if_pos (by omega), if_pos (by omega)]
      by_cases h2 : ((o.size : Int) + (((itoaB (x.size : Int)).size : Int) + 1 + (x.size : Int) + 1)) > 2000
      · rw [if_pos h2, if_pos (by omega)]
      · rw [if_neg h2, wrap_snoc (x := x) (by simp at hb; omega), snoc_app]
        exact ih (pre ++ [x]) (o ++ wOne x) k (by simp at hk; omega) (by simpa using hb) (fun s h => hs s (by simp [h])) (by rw [ByteArray.size_append]; omega)
def wire (l : List ByteArray) : ByteArray := if (wAll l (⟨#[]⟩ : ByteArray)).size > 2000 then (⟨#[]⟩ : ByteArray) else wAll l (⟨#[]⟩ : ByteArray)
theorem WirePut_eq (l : List ByteArray) (k : Nat) (hk : l.length < k) (hb : l.length ≤ 1000000000000) (hs : ∀ s ∈ l, s.size ≤ 1000000000000) : impl_WirePut.f k l = some (wire l) := by
  unfold impl_WirePut.f impl_wirePut.f wire
  have := wirePut_l0 l [] (⟨#[]⟩ : ByteArray) k hk hb hs (by decide)
  rw [List.nil_append, show ((([] : List ByteArray).length : Nat) : Int) = 0 from rfl] at this
  rw [this]; rfl
theorem sWirePut_eq (l : List ByteArray) (k : Nat) (hk : l.length + 31 < k) (hb : l.length ≤ 1000000000000) (hs : ∀ s ∈ l, s.size ≤ 1000000000000) (hz : wSum l ≤ 9223372036854775807) : spec_WirePut.f k l = some (wire l) := by
  unfold spec_WirePut.f spec_l3Wire.f wire
  have := l3Wire_l0 l [] (⟨#[]⟩ : ByteArray) k hk hb hs (by show 0 + wSum l ≤ _; omega)
  rw [List.nil_append, show ((([] : List ByteArray).length : Nat) : Int) = 0 from rfl] at this
  rw [this, Option.bind_some]
  by_cases h : (wAll l (⟨#[]⟩ : ByteArray)).size > 2000
  · rw [if_pos (by omega), if_pos h]
  · rw [if_neg (by omega), if_neg h]
end Go.Proofs.YtgkgkpoeiojmeaaDoor.V
/- The plain statement of FnExactWirePut. -/
namespace Go.Proofs.YtgkgkpoeiojmeaaDoor.Pure
open Go.RowKit Go.Proofs.YtgkgkpoeiojmeaaDoor.P Go.Proofs.YtgkgkpoeiojmeaaDoor.V Go.Proofs.YtgkgkpoeiojmeaaDoorW.PrintWords Go.Proofs.YtgkgkpoeiojmeaaDoorW.PrintMore
theorem wSum_szS : ∀ (l : List ByteArray) (left : Int), 0 ≤ szS l left → (wSum l : Int) + szS l left = left + 23 * l.length ∧ ∀ s ∈ l, (s.size : Int) ≤ left
  | [], left, _ => by simp [wSum, szS]
  | s :: r, left, h => by
    rw [szS] at h ⊢
    by_cases hl : left - s.size < 0
    · rw [if_pos hl] at h; omega
    · rw [if_neg hl] at h ⊢
      obtain ⟨i1, i2⟩ := wSum_szS r _ h
      refine ⟨by simp only [wSum, List.length_cons]; omega, ?_⟩
      intro t ht
      rcases List.mem_cons.1 ht with rfl | ht
      · omega
      · have := i2 t ht; omega
theorem FnExactWirePut : laws_FnExactWirePut.Pure := by
  intro l hl
  obtain ⟨K, hK⟩ : ∃ K, K = 1060000 := ⟨_, rfl⟩
  by_cases hlen : (1048576 : Int) - l.length < 0
  · refine ⟨l.length + 1, ?_⟩
    unfold laws_FnExactWirePut.f
    rw [szStringS_eq l 1048576 _ (by omega) (by omega) (by omega) hl.2 hl.1, if_pos hlen, Option.bind_some, if_pos (by omega)]
  refine ⟨K + 1, ?_⟩
  unfold laws_FnExactWirePut.f
  rw [szStringS_eq l 1048576 _ (by omega) (by omega) (by omega) hl.2 hl.1, if_neg hlen, Option.bind_some]
  by_cases h1 : szS l (1048576 - l.length) < 0
  · rw [if_pos h1]
  rw [if_neg h1]
  obtain ⟨w1, w2⟩ := wSum_szS l _ (by omega : 0 ≤ szS l (1048576 - l.length))
  have hz : ∀ s ∈ l, s.size ≤ 1000000000000 := fun s h => by have := w2 s h; omega
  simp only [toStringS_eq l (K + 1) (by omega) (by omega), sWirePut_eq l (K + 1) (by omega) (by omega) hz (by omega), WirePut_eq l (K + 1) (by omega) (by omega) hz, eqStringS_eq l l (K + 1) (by omega) (by omega), Option.bind_some, if_true, decide_true]
end Go.Proofs.YtgkgkpoeiojmeaaDoor.Pure
