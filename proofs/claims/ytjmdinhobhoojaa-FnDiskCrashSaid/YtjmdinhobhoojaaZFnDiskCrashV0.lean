/- The plain statement of the law FnDiskCrash, proved. -/
import Derived.Test.YtjmdinhobhoojaaZFnDiskCrashW0
import Derived.Test.YtjmdinhobhoojaaZFnDiskCrash4
import Derived.Test.YtjmdinhobhoojaaZFnDiskCrash5
import Derived.Test.YtjmdinhobhoojaaZFnDiskCrash0
import Derived.Test.YtjmdinhobhoojaaZFnDiskCrash1
import Derived.Test.YtjmdinhobhoojaaZFnDiskCrash2
import Derived.Laws.Bits64
import Derived.WalkKit
import Derived.Test.YtjmdinhobhoojaaZFnDiskCrash3
/- Plain lemmas on lists, numbers and strings, for the laws' plain statements. -/
namespace Go.Proofs.Ytjmdinhobhoojaa.V
open Go.RowKit Go.Proofs.YtjmdinhobhoojaaW.PrintWords Go.Proofs.YtjmdinhobhoojaaW.PrintMore
theorem succ_of {d k : Nat} (h : d < k) : ∃ m, k = m + 1 := ⟨k - 1, by omega⟩
theorem wrap_id {i : Int} (h : -9223372036854775808 ≤ i) (h' : i ≤ 9223372036854775807) : wrap64 i = i := by unfold wrap64; omega
section
variable {α : Type} {pre suf : List α} {x y : α}
theorem mid_lt : ((pre.length : Int) < ((pre ++ x :: suf).length : Int)) := by simp; omega
theorem end_not_lt : ¬ ((pre.length : Int) < ((pre ++ ([] : List α)).length : Int)) := by simp
theorem rdOf_mid (d : α) : rdOf d (pre ++ x :: suf) (pre.length : Int) = x := by simp [rdOf]
theorem wrap_snoc (h : pre.length < 9223372036854775807) : wrap64 ((pre.length : Int) + 1) = ((pre ++ [x]).length : Int) := by
  rw [wrap_id (by omega) (by omega)]; simp
theorem snoc_app : pre ++ x :: suf = (pre ++ [x]) ++ suf := by simp
end
theorem nat_le0 (n : Nat) : (0 : Int) ≤ (n : Int) := Int.natCast_nonneg n
end Go.Proofs.Ytjmdinhobhoojaa.V
/- What the disk laws' own helpers tell: equality, marks, sizes, copies of disks. -/
namespace Go.Proofs.Ytjmdinhobhoojaa.V
open Go.RowKit Go.Proofs.Ytjmdinhobhoojaa.P Go.Proofs.YtjmdinhobhoojaaW.PrintWords Go.Proofs.YtjmdinhobhoojaaW.PrintMore
theorem rdw_mid {pre suf : List S_impl_Wait} {x : S_impl_Wait} : rd_impl_Wait (pre ++ x :: suf) (pre.length : Int) = x := by simp [rd_impl_Wait]
theorem wait_ext {x y : S_impl_Wait} : x = y ↔ x.f0 = y.f0 ∧ x.f1 = y.f1 := by cases x; cases y; simp
instance : DecidableEq S_impl_Wait := fun _ _ => decidable_of_iff _ wait_ext.symm
end Go.Proofs.Ytjmdinhobhoojaa.V
/- What it is for a disk to be ok, by the program and by the reference; copies. -/
namespace Go.Proofs.Ytjmdinhobhoojaa.V
open Go.RowKit Go.Proofs.Ytjmdinhobhoojaa.P Go.Proofs.YtjmdinhobhoojaaW.PrintWords Go.Proofs.YtjmdinhobhoojaaW.PrintMore
theorem l1In_eq (a b c : Int) : spec_l1In.f a b c = some (decide (b ≤ a ∧ a ≤ c)) := by
  unfold spec_l1In.f
  by_cases h : a ≥ b
  · rw [if_pos h]; simp [show b ≤ a from h]
  · rw [if_neg h]; simp [show ¬ b ≤ a from h]
theorem isBlock_eq (a : Int) : impl_isBlock.f a = some (decide (0 ≤ a ∧ a ≤ 139)) := by
  unfold impl_isBlock.f
  by_cases h : a ≥ 0
  · rw [if_pos h]; simp [show 0 ≤ a from h]; omega
  · rw [if_neg h]; simp [show ¬ 0 ≤ a from h]
def OkW (w : S_impl_Wait) : Prop := (0 ≤ w.f0 ∧ w.f0 ≤ 139) ∧ w.f1.size ≤ 200
instance (w : S_impl_Wait) : Decidable (OkW w) := by unfold OkW; infer_instance
/-- A disk is ok. -/
def OkD (a : List ByteArray) (b : List S_impl_Wait) (n : Int) : Prop := (∀ x ∈ a, x.size ≤ 200) ∧ (∀ w ∈ b, OkW w) ∧ a.length = 140 ∧ -1 ≤ n
instance (a : List ByteArray) (b : List S_impl_Wait) (n : Int) : Decidable (OkD a b n) := by unfold OkD; infer_instance
theorem spec_DiskOk_l1 : ∀ (suf pre : List S_impl_Wait) (a : List ByteArray) (n : Int) (k : Nat), suf.length < k → (pre ++ suf).length < 9223372036854775807 →
    spec_DiskOk.l1 k (pre.length : Int) a (pre ++ suf) n = some (decide ((∀ w ∈ suf, OkW w) ∧ a.length = 140 ∧ -1 ≤ n)) := by
  intro suf
  induction suf with
  | nil =>
    intro pre a n k hk hb
    obtain ⟨k, rfl⟩ := succ_of hk
    rw [spec_DiskOk.l1, if_neg end_not_lt]
    by_cases h : a.length = 140
    · rw [if_pos (by omega)]; simp [h]
    · rw [if_neg (by omega)]; simp [h]
  | cons x suf ih =>
    intro pre a n k hk hb
    obtain ⟨k, rfl⟩ := succ_of hk
    rw [spec_DiskOk.l1, if_pos mid_lt, if_pos (nat_le0 _), rdw_mid, l1In_eq, Option.bind_some]
    by_cases h : 0 ≤ x.f0 ∧ x.f0 ≤ 139
    · rw [if_pos (by simpa using h)]
      by_cases h2 : (x.f1.size : Int) > 200
      · rw [if_pos h2]
        have : ¬ OkW x := fun hw => by have := hw.2; omega
        simp [this]
      · rw [if_neg h2, wrap_snoc (x := x) (by simp at hb; omega), snoc_app (suf := suf), ih (pre ++ [x]) a n k (by simpa using hk) (by simpa using hb)]
        have : OkW x := ⟨h, by omega⟩
        simp [this]
    · rw [if_neg (by simpa using h)]
      have : ¬ OkW x := fun hw => h hw.1
      simp [this]
theorem spec_DiskOk_l0 : ∀ (suf pre : List ByteArray) (b : List S_impl_Wait) (n : Int) (k : Nat), suf.length + b.length + 1 < k → (pre ++ suf).length < 9223372036854775807 → b.length < 9223372036854775807 →
    spec_DiskOk.l0 k (pre.length : Int) (pre ++ suf) b n = some (decide ((∀ x ∈ suf, x.size ≤ 200) ∧ (∀ w ∈ b, OkW w) ∧ (pre ++ suf).length = 140 ∧ -1 ≤ n)) := by
  intro suf
  induction suf with
  | nil =>
    intro pre b n k hk hb hb2
    obtain ⟨k, rfl⟩ := succ_of (show 0 < k by omega)
    rw [spec_DiskOk.l0, if_neg end_not_lt]
    have h := spec_DiskOk_l1 b [] (pre ++ []) n k (by simp at hk; omega) (by simpa using hb2)
    simp only [List.nil_append, List.length_nil, Int.natCast_zero] at h
    rw [h]; simp
  | cons x suf ih =>
    intro pre b n k hk hb hb2
    obtain ⟨k, rfl⟩ := succ_of (show 0 < k by omega)
    rw [spec_DiskOk.l0, if_pos mid_lt, if_pos (nat_le0 _), rdOf_mid]
    by_cases h2 : (x.size : Int) > 200
    · rw [if_pos h2]
      have : ¬ x.size ≤ 200 := by omega
      simp [this]
    · rw [if_neg h2, wrap_snoc (x := x) (by simp at hb; omega), snoc_app (suf := suf), ih (pre ++ [x]) b n k (by simp at hk; omega) (by simpa using hb) hb2]
      have : x.size ≤ 200 := by omega
      simp [this]
theorem spec_DiskOk_eq (a : List ByteArray) (b : List S_impl_Wait) (n : Int) (k : Nat) (hk : a.length + b.length + 1 < k) (ha : a.length < 9223372036854775807) (hb : b.length < 9223372036854775807) : spec_DiskOk.f k a b n = some (decide (OkD a b n)) := by
  have h := spec_DiskOk_l0 a [] b n k hk ha hb
  simp only [List.nil_append, List.length_nil, Int.natCast_zero] at h
  unfold spec_DiskOk.f
  rw [h]; rfl
theorem isDisk_l1 : ∀ (suf pre : List S_impl_Wait) (k : Nat), suf.length < k → (pre ++ suf).length < 9223372036854775807 →
    impl_isDisk.l1 k (pre ++ suf) ((pre ++ suf).length : Int) (pre.length : Int) = some (decide (∀ w ∈ suf, OkW w)) := by
  intro suf
  induction suf with
  | nil =>
    intro pre k hk hb
    obtain ⟨k, rfl⟩ := succ_of hk
    rw [impl_isDisk.l1, if_neg end_not_lt]; simp
  | cons x suf ih =>
    intro pre k hk hb
    obtain ⟨k, rfl⟩ := succ_of hk
    rw [impl_isDisk.l1, if_pos mid_lt, if_pos (nat_le0 _), if_pos mid_lt, rdw_mid, isBlock_eq, Option.bind_some]
    by_cases h : 0 ≤ x.f0 ∧ x.f0 ≤ 139
    · rw [if_pos (by simpa using h)]
      by_cases h2 : (x.f1.size : Int) > 200
      · rw [if_pos h2]
        have : ¬ OkW x := fun hw => by have := hw.2; omega
        simp [this]
      · rw [if_neg h2, wrap_snoc (x := x) (by simp at hb; omega), snoc_app (suf := suf), ih (pre ++ [x]) k (by simpa using hk) (by simpa using hb)]
        have : OkW x := ⟨h, by omega⟩
        simp [this]
    · rw [if_neg (by simpa using h)]
      have : ¬ OkW x := fun hw => h hw.1
      simp [this]
theorem isDisk_l0 : ∀ (suf pre whole : List ByteArray) (b : List S_impl_Wait) (n : Int) (k : Nat), suf.length + b.length + 1 < k → (pre ++ suf).length < 9223372036854775807 → b.length < 9223372036854775807 →
    impl_isDisk.l0 k (pre ++ suf) ((pre ++ suf).length : Int) (pre.length : Int) whole b n = some (decide ((∀ x ∈ suf, x.size ≤ 200) ∧ (∀ w ∈ b, OkW w))) := by
  intro suf
  induction suf with
  | nil =>
    intro pre whole b n k hk hb hb2
    obtain ⟨k, rfl⟩ := succ_of (show 0 < k by omega)
    rw [impl_isDisk.l0, if_neg end_not_lt]
    have h := isDisk_l1 b [] k (by simp at hk; omega) (by simpa using hb2)
    simp only [List.nil_append, List.length_nil, Int.natCast_zero] at h
    rw [h]; simp
  | cons x suf ih =>
    intro pre whole b n k hk hb hb2
    obtain ⟨k, rfl⟩ := succ_of (show 0 < k by omega)
    rw [impl_isDisk.l0, if_pos mid_lt, if_pos (nat_le0 _), if_pos mid_lt, rdOf_mid]
    by_cases h2 : (x.size : Int) > 200
    · rw [if_pos h2]
      have : ¬ x.size ≤ 200 := by omega
      simp [this]
    · rw [if_neg h2, wrap_snoc (x := x) (by simp at hb; omega), snoc_app (suf := suf), ih (pre ++ [x]) whole b n k (by simp at hk; omega) (by simpa using hb) hb2]
      have : x.size ≤ 200 := by omega
      simp [this]
theorem isDisk_eq (a : List ByteArray) (b : List S_impl_Wait) (n : Int) (k : Nat) (hk : a.length + b.length + 2 < k) (ha : a.length < 9223372036854775807) (hb : b.length < 9223372036854775807) : impl_isDisk.f k a b n = some (decide (OkD a b n)) := by
  unfold impl_isDisk.f
  obtain ⟨k, rfl⟩ := succ_of (show 0 < k by omega)
  by_cases h : a.length = 140
  · rw [if_pos (by omega), impl_isDisk.j0]
    by_cases h2 : n < -1
    · rw [if_pos (by simpa using h2)]
      have : ¬ OkD a b n := fun hd => by have := hd.2.2.2; omega
      simp [this]
    · rw [if_neg (by simpa using h2)]
      have hl := isDisk_l0 a [] a b n k (by omega) ha hb
      simp only [List.nil_append, List.length_nil, Int.natCast_zero] at hl
      rw [hl]
      have : -1 ≤ n := by omega
      simp [OkD, h, this]
  · rw [if_neg (by omega), impl_isDisk.j0, if_pos rfl]
    simp [OkD, h]
theorem impl_DiskOk_eq (a : List ByteArray) (b : List S_impl_Wait) (n : Int) (k : Nat) (hk : a.length + b.length + 2 < k) (ha : a.length < 9223372036854775807) (hb : b.length < 9223372036854775807) : impl_DiskOk.f k a b n = some (decide (OkD a b n)) := by
  unfold impl_DiskOk.f
  rw [isDisk_eq a b n k hk ha hb]; rfl
theorem l2Copy_eq (a : List ByteArray) (b : List S_impl_Wait) (n : Int) (ha : a.length ≤ 1000000000000) (hb : b.length ≤ 1000000000000) : spec_l2Copy.f a b n = some (a, b, n) := by
  unfold spec_l2Copy.f
  simp only [Option.bind_some, List.length_nil, List.nil_append]
  rw [if_pos (by omega), if_pos (by omega)]
end Go.Proofs.Ytjmdinhobhoojaa.V
/- A disk as three parts. -/
namespace Go.Proofs.Ytjmdinhobhoojaa.V
open Go.RowKit Go.Proofs.Ytjmdinhobhoojaa.P Go.Proofs.YtjmdinhobhoojaaW.PrintWords Go.Proofs.YtjmdinhobhoojaaW.PrintMore
abbrev D3 := List ByteArray × List S_impl_Wait × Int
def zeroD : D3 := ([], [], 0)
/-- One count less, if it is counted. -/
def less (n : Int) : Int := if 0 < n then n - 1 else n
theorem less_wrap {n : Int} (h : n ≤ 9223372036854775807) : (if 0 < n then wrap64 (n - 1) else n) = less n := by
  unfold less
  by_cases h0 : 0 < n
  · rw [if_pos h0, if_pos h0, wrap_id (by omega) (by omega)]
  · rw [if_neg h0, if_neg h0]
end Go.Proofs.Ytjmdinhobhoojaa.V
/- What a flush comes to, by the program and by the reference. -/
namespace Go.Proofs.Ytjmdinhobhoojaa.V
open Go.RowKit Go.Proofs.Ytjmdinhobhoojaa.P Go.Proofs.YtjmdinhobhoojaaW.PrintWords Go.Proofs.YtjmdinhobhoojaaW.PrintMore
def applyW : List S_impl_Wait → List ByteArray → List ByteArray
  | [], a => a
  | w :: r, a => applyW r (a.set w.f0.toNat w.f1)
theorem applyW_length : ∀ (b : List S_impl_Wait) (a : List ByteArray), (applyW b a).length = a.length
  | [], _ => rfl
  | w :: r, a => by rw [applyW, applyW_length r]; simp
def fl1 (a : List ByteArray) (b : List S_impl_Wait) (n : Int) : D3 := if n = 0 then (a, b, n) else (applyW b a, [], less n)
theorem l2Flush_l0 : ∀ (suf pre : List S_impl_Wait) (a : List ByteArray) (n : Int) (k : Nat), suf.length < k → (pre ++ suf).length < 9223372036854775807 → (∀ w ∈ suf, OkW w) → a.length = 140 →
    spec_l2Flush.l0 k (pre.length : Int) a (pre ++ suf) n = some (applyW suf a, [], n) := by
  intro suf
  induction suf with
  | nil =>
    intro pre a n k hk hb hw ha
    obtain ⟨k, rfl⟩ := succ_of hk
    rw [spec_l2Flush.l0, if_neg end_not_lt]; rfl
  | cons x suf ih =>
    intro pre a n k hk hb hw ha
    obtain ⟨k, rfl⟩ := succ_of hk
    have hx := (hw x (by simp)).1
    rw [spec_l2Flush.l0, if_pos mid_lt, if_pos (nat_le0 _), rdw_mid, if_pos hx.1, if_pos (by omega), wrap_snoc (x := x) (by simp at hb; omega), snoc_app (suf := suf), ih (pre ++ [x]) _ n k (by simpa using hk) (by simpa using hb) (fun w h => hw w (by simp [h])) (by simpa using ha)]
    rfl
theorem l2Flush_eq (a : List ByteArray) (b : List S_impl_Wait) (n : Int) (k : Nat) (hk : b.length + 1 < k) (hb : b.length ≤ 1000000000) (hn : n ≤ 9223372036854775807) (h : OkD a b n) :
    spec_l2Flush.f k a b n = some (fl1 a b n) := by
  unfold spec_l2Flush.f fl1
  obtain ⟨k, rfl⟩ := succ_of (show 0 < k by omega)
  by_cases h0 : n = 0
  · rw [if_pos h0, if_pos h0]
  · have hl : ∀ m : Int, spec_l2Flush.j0 (k + 1) a b m = some (applyW b a, [], m) := fun m => by
      have hl := l2Flush_l0 b [] a m k (by omega) (by simp; omega) h.2.1 h.2.2.1
      have h4 := h.2.2.1
      simp only [List.nil_append, List.length_nil, Int.natCast_zero] at hl
      rw [spec_l2Flush.j0]
      simp only [Option.bind_some, List.length_nil, List.nil_append]
      rw [if_pos (by omega), hl]
    rw [if_neg h0, if_neg h0, ← less_wrap hn]
    by_cases h1 : n > 0
    · rw [if_pos h1, if_pos h1, hl]
    · rw [if_neg h1, if_neg h1, hl]
end Go.Proofs.Ytjmdinhobhoojaa.V
/- What a write comes to, by the program and by the reference. -/
namespace Go.Proofs.Ytjmdinhobhoojaa.V
open Go.RowKit Go.Proofs.Ytjmdinhobhoojaa.P Go.Proofs.YtjmdinhobhoojaaW.PrintWords Go.Proofs.YtjmdinhobhoojaaW.PrintMore
def wr1 (a : List ByteArray) (b : List S_impl_Wait) (n at_ : Int) (s : ByteArray) : D3 := if n = 0 then (a, b, n) else (a, b ++ [⟨at_, s⟩], less n)
theorem l2Write_eq (a : List ByteArray) (b : List S_impl_Wait) (n at_ : Int) (s : ByteArray) (hb : b.length ≤ 1000000000000) (hn : n ≤ 9223372036854775807) : spec_l2Write.f a b n at_ s = some (wr1 a b n at_ s) := by
  unfold spec_l2Write.f wr1
  by_cases h0 : n = 0
  · rw [if_pos h0, if_pos h0]
  · rw [if_neg h0, if_neg h0]
    simp only [Option.bind_some, List.length_nil, List.nil_append]
    rw [← less_wrap hn]
    by_cases h1 : n > 0
    · rw [if_pos h1, if_pos (by omega), if_pos (by omega), if_pos h1]
    · rw [if_neg h1, if_pos (by omega), if_pos (by omega), if_neg h1]
end Go.Proofs.Ytjmdinhobhoojaa.V
/- What the reader of the drawn input answers: always something, and in bounds. -/
namespace Go.Proofs.Ytjmdinhobhoojaa.V
open Go.RowKit Go.Proofs.Ytjmdinhobhoojaa.P Go.Proofs.YtjmdinhobhoojaaW.PrintWords Go.Proofs.YtjmdinhobhoojaaW.PrintMore
def U8 (s : List Int) : Prop := ∀ x ∈ s, 0 ≤ x ∧ x ≤ 255
theorem U8_of {s : List Int} (h : ∀ x ∈ s, (Lit.int .u8 x).wf = true) : U8 s := fun x hx => by
  have := h x hx
  simp [Lit.wf, IntKind.max, IntKind.min, IntKind.signed, IntKind.bits] at this
  omega
theorem rd_u8 {s : List Int} (h : U8 s) (i : Int) : 0 ≤ rd s i ∧ rd s i ≤ 255 := by
  unfold rd
  rw [List.getD_eq_getElem?_getD]
  cases hx : s[i.toNat]? with
  | none => simp
  | some x => exact h x (List.mem_of_getElem? hx)
theorem xor_i64 {a b : Int} (h0 : 0 ≤ a) (h1 : a ≤ 4611686018427387903) (h2 : 0 ≤ b) (h3 : b ≤ 4611686018427387903) : 0 ≤ Go.bits .xor .i64 a b ∧ Go.bits .xor .i64 a b ≤ 9223372036854775807 := by
  obtain ⟨x, rfl⟩ := Int.eq_ofNat_of_zero_le h0
  obtain ⟨y, rfl⟩ := Int.eq_ofNat_of_zero_le h2
  have hx : x ^^^ y < 2 ^ 62 := Nat.xor_lt_two_pow (by omega) (by omega)
  have e1 : (BitVec.ofInt 64 (x : Int)).toNat = x := by
    rw [BitVec.ofInt_natCast, BitVec.toNat_ofNat]; exact Nat.mod_eq_of_lt (by omega)
  have e2 : (BitVec.ofInt 64 (y : Int)).toNat = y := by
    rw [BitVec.ofInt_natCast, BitVec.toNat_ofNat]; exact Nat.mod_eq_of_lt (by omega)
  have e : Go.bits .xor .i64 (x : Int) (y : Int) = IntKind.i64.wrap ((BitVec.ofInt 64 (x : Int) ^^^ BitVec.ofInt 64 (y : Int)).toNat : Int) := rfl
  rw [e, BitVec.toNat_xor, e1, e2, IntKind.wrap_i64]
  omega
theorem tmod_bd {a n : Int} (h0 : 0 ≤ a) (hn : 1 ≤ n) : 0 ≤ Int.tmod a n ∧ Int.tmod a n < n := by
  rw [Int.tmod_eq_emod_of_nonneg h0]
  exact ⟨Int.emod_nonneg _ (by omega), Int.emod_lt_of_pos _ (by omega)⟩
theorem tdiv_bd {a n : Int} (h0 : 0 ≤ a) (hn : 1 ≤ n) : 0 ≤ Int.tdiv a n ∧ Int.tdiv a n ≤ a := by
  rw [Int.tdiv_eq_ediv_of_nonneg h0]
  exact ⟨Int.ediv_nonneg h0 (by omega), Int.ediv_le_self _ h0⟩
/-- One number below n. -/
theorem pick_eq {s : List Int} {q n : Int} {k : Nat} (hs : U8 s) (hl : s.length ≤ 2000) (h0 : 0 ≤ q) (h1 : q ≤ 1000000) (hn : 1 ≤ n) (hk : 0 < k) : ∃ v, spec_l1Rd_pick.f k s q n = some (v, q + 1) ∧ 0 ≤ v ∧ v < n := by
  obtain ⟨k, rfl⟩ := succ_of hk
  unfold spec_l1Rd_pick.f
  rw [if_neg (by omega), wrap_id (i := q + 1) (by omega) (by omega), spec_l1Rd_pick.j0]
  by_cases hz : s.length = 0
  · rw [if_pos (by rw [beq_iff_eq]; omega)]
    exact ⟨0, rfl, by omega, by omega⟩
  · rw [if_neg (by rw [beq_iff_eq]; omega), show q + 1 - 1 = q by omega, wrap_id (i := q) (by omega) (by omega)]
    by_cases h2 : q < (s.length : Int)
    · have hb := rd_u8 hs q
      rw [if_pos h2, if_pos h0, if_neg (by omega), wrap_id (i := rd s q) (by omega) (by omega)]
      exact ⟨_, rfl, tmod_bd hb.1 hn⟩
    · have b1 := tmod_bd (a := q) (n := s.length) h0 (by omega)
      rw [if_neg h2, if_neg (by omega), if_pos b1.1, if_pos b1.2, wrap_id (i := q * 7) (by omega) (by omega), wrap_id (i := q * 7 + 3) (by omega) (by omega)]
      have b2 := tmod_bd (a := q * 7 + 3) (n := s.length) (by omega) (by omega)
      rw [if_pos b2.1, if_pos b2.2, if_neg (by omega)]
      have c1 := rd_u8 hs (Int.tmod q s.length)
      have c2 := rd_u8 hs (Int.tmod (q * 7 + 3) s.length)
      have c3 := tdiv_bd (a := q) (n := s.length) h0 (by omega)
      generalize rd s (Int.tmod q s.length) = A at c1 ⊢
      generalize rd s (Int.tmod (q * 7 + 3) s.length) = B at c2 ⊢
      generalize Int.tdiv q s.length = D at c3 ⊢
      rw [wrap_id (i := A) (by omega) (by omega), wrap_id (i := B) (by omega) (by omega), wrap_id (i := D) (by omega) (by omega), wrap_id (i := A * 131) (by omega) (by omega), wrap_id (i := B * 1117) (by omega) (by omega), wrap_id (i := q * 29) (by omega) (by omega), wrap_id (i := D * 53) (by omega) (by omega),
        wrap_id (i := A * 131 + B * 1117) (by omega) (by omega), wrap_id (i := A * 131 + B * 1117 + q * 29) (by omega) (by omega), wrap_id (i := A * 131 + B * 1117 + q * 29 + D * 53) (by omega) (by omega)]
      have c4 : 0 ≤ A * 131 + B * 1117 + q * 29 + D * 53 ∧ A * 131 + B * 1117 + q * 29 + D * 53 ≤ 1000000000 := by omega
      generalize A * 131 + B * 1117 + q * 29 + D * 53 = X at c4 ⊢
      have c5 := tdiv_bd (a := X) (n := 64) c4.1 (by omega)
      rw [wrap_id (i := Int.tdiv X 64) (by omega) (by omega)]
      have c6 := xor_i64 (a := X) (b := Int.tdiv X 64) (by omega) (by omega) (by omega) (by omega)
      exact ⟨_, rfl, tmod_bd c6.1 hn⟩
/-- One of a list. -/
theorem of_eq {s : List Int} {q : Int} {k : Nat} {l : List ByteArray} (hs : U8 s) (hl : s.length ≤ 2000) (h0 : 0 ≤ q) (h1 : q ≤ 1000000) (hn : 1 ≤ l.length) (hk : 0 < k) : ∃ x, spec_l1Rd_of.f k s q l = some (x, q + 1) ∧ x ∈ l := by
  obtain ⟨v, hv, b0, b1⟩ := pick_eq (n := (l.length : Int)) hs hl h0 h1 (by omega) hk
  unfold spec_l1Rd_of.f
  rw [hv, Option.bind_some, if_pos b0, if_pos b1]
  refine ⟨_, rfl, ?_⟩
  show rdOf ByteArray.empty l v ∈ l
  unfold rdOf
  rw [List.getD_eq_getElem?_getD, List.getElem?_eq_getElem (by omega)]
  exact List.getElem_mem _
theorem open_eq {l : List Int} (h : U8 l) : ∃ s, spec_l1Open.f l = some (s, 0) ∧ U8 s ∧ s.length ≤ 2000 := by
  unfold spec_l1Open.f
  by_cases h1 : (l.length : Int) > 2000
  · rw [if_pos h1, if_pos (by omega)]
    exact ⟨_, rfl, fun x hx => h x (List.mem_of_mem_take hx), by simp; omega⟩
  · rw [if_neg h1]
    exact ⟨_, rfl, h, by omega⟩
end Go.Proofs.Ytjmdinhobhoojaa.V
/- A text many times. -/
namespace Go.Proofs.Ytjmdinhobhoojaa.V
open Go.RowKit Go.Proofs.Ytjmdinhobhoojaa.P Go.Proofs.YtjmdinhobhoojaaW.PrintWords Go.Proofs.YtjmdinhobhoojaaW.PrintMore
theorem many_at {x : ByteArray} {n : Int} {z : Nat} (h : (spec_l1Many.f 12 x n).map ByteArray.size = some z) {k : Nat} (hk : 12 ≤ k) : ∃ r, spec_l1Many.f k x n = some r ∧ r.size = z := by
  cases h1 : spec_l1Many.f 12 x n with
  | none => rw [h1] at h; cases h
  | some r =>
    rw [h1] at h
    exact ⟨r, at_rounds (g := fun k => spec_l1Many.f k x n) (fun k => spec_l1Many.mono x n k) hk h1, by simpa using h⟩
theorem many_b201 : (spec_l1Many.f 12 ⟨#[98]⟩ 201).map ByteArray.size = some 201 := by kernel_rfl
end Go.Proofs.Ytjmdinhobhoojaa.V
/- Drawn disks: always some disk, and small. -/
namespace Go.Proofs.Ytjmdinhobhoojaa.V
open Go.RowKit Go.Proofs.Ytjmdinhobhoojaa.P Go.Proofs.YtjmdinhobhoojaaW.PrintWords Go.Proofs.YtjmdinhobhoojaaW.PrintMore
theorem applyW_ok : ∀ (b : List S_impl_Wait) (a : List ByteArray), (∀ x ∈ a, x.size ≤ 200) → (∀ w ∈ b, OkW w) → ∀ x ∈ applyW b a, x.size ≤ 200
  | [], a, ha, _, x, hx => ha x hx
  | w :: r, a, ha, hb, x, hx => by
    rw [applyW] at hx
    refine applyW_ok r _ (fun y hy => ?_) (fun v hv => hb v (by simp [hv])) x hx
    rcases List.mem_or_eq_of_mem_set hy with h | rfl
    · exact ha y h
    · exact (hb w (by simp)).2
theorem l12Disk_l0 {s : List Int} (hs : U8 s) (hl : s.length ≤ 2000) : ∀ (r : Nat) (q : Int) (a : List ByteArray) (b : List S_impl_Wait) (k : Nat), r + 30 < k → 0 ≤ q → q + 3 * r ≤ 1000 → OkD a b (-1) → b.length + r ≤ 10 →
    ∃ a' b' n' q', spec_l12Disk.l0 k (r : Int) s q a b (-1) = some (a', b', n', q') ∧ OkD a' b' n' ∧ b'.length ≤ 10 ∧ n' ≤ 3 ∧ 0 ≤ q' ∧ q' ≤ q + 3 * r + 2 := by
  intro r
  induction r with
  | zero =>
    intro q a b k hk h0 h1 hd hb
    obtain ⟨k, rfl⟩ := succ_of (show 0 < k by omega)
    obtain ⟨v, hv, v0, v1⟩ := pick_eq (n := 4) (k := k) hs hl h0 (by omega) (by omega) (by omega)
    obtain ⟨u, hu, u0, u1⟩ := pick_eq (n := 3) (k := k) (q := q + 1) hs hl (by omega) (by omega) (by omega) (by omega)
    rw [spec_l12Disk.l0, if_neg (by omega), hv, Option.bind_some, Option.bind_some]
    simp only [hu, Option.bind_some]
    rw [if_pos u0, if_pos (by simpa using u1), l2Copy_eq a b _ (by have := hd.2.2.1; omega) (by omega), Option.bind_some]
    have hr : -1 ≤ rd [-1, -1, v] u ∧ rd [-1, -1, v] u ≤ 3 := by
      have : u = 0 ∨ u = 1 ∨ u = 2 := by omega
      rcases this with rfl | rfl | rfl <;> simp [rd] <;> omega
    exact ⟨_, _, _, _, rfl, ⟨hd.1, hd.2.1, hd.2.2.1, hr.1⟩, by omega, hr.2, by omega, by omega⟩
  | succ r ih =>
    intro q a b k hk h0 h1 hd hb
    obtain ⟨k, rfl⟩ := succ_of (show 0 < k by omega)
    obtain ⟨v, hv, v0, v1⟩ := pick_eq (n := 4) (k := k) hs hl h0 (by omega) (by omega) (by omega)
    have e : wrap64 (((r + 1 : Nat) : Int) - 1) = (r : Int) := by rw [wrap_id (by omega) (by omega)]; omega
    rw [spec_l12Disk.l0, if_pos (by omega), hv, Option.bind_some, e]
    by_cases hz : v = 0
    · rw [if_pos hz, l2Flush_eq a b (-1) k (by omega) (by omega) (by omega) hd, Option.bind_some]
      have ef : fl1 a b (-1) = (applyW b a, [], -1) := by simp [fl1, less]
      rw [ef]
      obtain ⟨a', b', n', q', h2, h3, h4, h5, h6, h7⟩ := ih (q + 1) (applyW b a) [] k (by omega) (by omega) (by omega) ⟨applyW_ok b a hd.1 hd.2.1, by simp, by rw [applyW_length]; exact hd.2.2.1, by omega⟩ (by simp; omega)
      exact ⟨a', b', n', q', h2, h3, h4, h5, h6, by omega⟩
    · rw [if_neg hz]
      obtain ⟨u, hu, u0, u1⟩ := pick_eq (n := 5) (k := k) (q := q + 1) hs hl (by omega) (by omega) (by omega) (by omega)
      obtain ⟨x, hx, hxm⟩ := of_eq (k := k) (q := q + 1 + 1) (l := [(⟨#[]⟩ : ByteArray), (⟨#[97]⟩ : ByteArray), (⟨#[98, 98]⟩ : ByteArray), (⟨#[97, 32, 98, 108, 111, 99, 107]⟩ : ByteArray)]) hs hl (by omega) (by omega) (by simp) (by omega)
      have hxs : x.size ≤ 200 := by
        simp only [List.mem_cons, List.not_mem_nil, or_false] at hxm
        rcases hxm with rfl | rfl | rfl | rfl <;> decide
      simp only [hu, hx, Option.bind_some]
      rw [l2Write_eq a b (-1) u x (by omega) (by omega), Option.bind_some]
      have ew : wr1 a b (-1) u x = (a, b ++ [⟨u, x⟩], -1) := by simp [wr1, less]
      rw [ew]
      obtain ⟨a', b', n', q', h2, h3, h4, h5, h6, h7⟩ := ih (q + 1 + 1 + 1) a (b ++ [⟨u, x⟩]) k (by omega) (by omega) (by omega) ⟨hd.1, fun w hw => by
        rcases List.mem_append.1 hw with hw | hw
        · exact hd.2.1 w hw
        · simp at hw; subst hw; exact ⟨⟨u0, by show u ≤ 139; omega⟩, hxs⟩, hd.2.2.1, by omega⟩ (by simp; omega)
      exact ⟨a', b', n', q', h2, h3, h4, h5, h6, by omega⟩
theorem l12Disk_eq {s : List Int} (hs : U8 s) (hl : s.length ≤ 2000) {q : Int} {k : Nat} (hk : 40 < k) (h0 : 0 ≤ q) (h1 : q ≤ 900) :
    ∃ a' b' n' q', spec_l12Disk.f k s q = some (a', b', n', q') ∧ OkD a' b' n' ∧ b'.length ≤ 10 ∧ n' ≤ 3 ∧ 0 ≤ q' ∧ q' ≤ q + 30 := by
  have hn : spec_DiskNew.f = some (List.replicate 140 (⟨#[]⟩ : ByteArray), [], -1) := by unfold spec_DiskNew.f; rw [if_pos (by decide)]
  obtain ⟨v, hv, v0, v1⟩ := pick_eq (n := 9) (k := k) hs hl h0 (by omega) (by omega) (by omega)
  obtain ⟨r, rfl⟩ := Int.eq_ofNat_of_zero_le v0
  unfold spec_l12Disk.f
  simp only [hn, hv, Option.bind_some]
  obtain ⟨a', b', n', q', h2, h3, h4, h5, h6, h7⟩ := l12Disk_l0 hs hl r (q + 1) (List.replicate 140 (⟨#[]⟩ : ByteArray)) [] k (by omega) (by omega) (by omega) ⟨fun x hx => by rw [List.eq_of_mem_replicate hx]; decide, by simp, by simp, by omega⟩ (by simp; omega)
  exact ⟨a', b', n', q', h2, h3, h4, h5, h6, by omega⟩
/-- Small enough for all laws. -/
def SmD (a : List ByteArray) (b : List S_impl_Wait) (n : Int) : Prop := a.length ≤ 140 ∧ b.length ≤ 11 ∧ -2 ≤ n ∧ n ≤ 3
theorem SpoilDisk_eq {s : List Int} (hs : U8 s) (hl : s.length ≤ 2000) {q : Int} {k : Nat} (hk : 40 < k) (h0 : 0 ≤ q) (h1 : q ≤ 1000) {a : List ByteArray} {b : List S_impl_Wait} {n : Int} (hd : OkD a b n) (hb : b.length ≤ 10) (hn : n ≤ 3) :
    ∃ a' b' n' q', spec_l12SpoilDisk.f k s q a b n = some (a', b', n', q') ∧ SmD a' b' n' ∧ 0 ≤ q' ∧ q' ≤ q + 2 := by
  have ha := hd.2.2.1
  have hn0 := hd.2.2.2
  unfold spec_l12SpoilDisk.f
  obtain ⟨v, hv, v0, v1⟩ := pick_eq (n := 5) (k := k) hs hl h0 (by omega) (by omega) (by omega)
  obtain ⟨m, hm, hms⟩ := many_at many_b201 (k := k) (by omega)
  simp only [l2Copy_eq a b n (show a.length ≤ 1000000000000 by omega) (show b.length ≤ 1000000000000 by omega), hv, Option.bind_some]
  by_cases c0 : v = 0
  · rw [if_pos c0, if_pos (by omega)]
    exact ⟨_, _, _, _, rfl, ⟨by simp; omega, by omega, by omega, by omega⟩, by omega, by omega⟩
  rw [if_neg c0]
  by_cases c1 : v = 1
  · obtain ⟨u, hu, u0, u1⟩ := pick_eq (n := 9) (k := k) (q := q + 1) hs hl (by omega) (by omega) (by omega) (by omega)
    rw [if_pos c1]
    simp only [hu, hm, Option.bind_some]
    rw [if_pos u0, if_pos (by omega)]
    exact ⟨_, _, _, _, rfl, ⟨by simp; omega, by omega, by omega, by omega⟩, by omega, by omega⟩
  rw [if_neg c1]
  by_cases c2 : v = 2
  · obtain ⟨u, hu, u0, u1⟩ := pick_eq (n := 2) (k := k) (q := q + 1) hs hl (by omega) (by omega) (by omega) (by omega)
    rw [if_pos c2]
    simp only [hu, Option.bind_some]
    rw [if_pos u0, if_pos (by simpa using u1), if_pos (by omega)]
    exact ⟨_, _, _, _, rfl, ⟨by omega, by simp; omega, by omega, by omega⟩, by omega, by omega⟩
  rw [if_neg c2]
  by_cases c3 : v = 3
  · rw [if_pos c3, hm, Option.bind_some, if_pos (by omega)]
    exact ⟨_, _, _, _, rfl, ⟨by omega, by simp; omega, by omega, by omega⟩, by omega, by omega⟩
  · rw [if_neg c3]
    exact ⟨_, _, _, _, rfl, ⟨by omega, by omega, by omega, by omega⟩, by omega, by omega⟩
theorem AnyDisk_eq {s : List Int} (hs : U8 s) (hl : s.length ≤ 2000) {q : Int} {k : Nat} (hk : 40 < k) (h0 : 0 ≤ q) (h1 : q ≤ 900) :
    ∃ a' b' n' q', spec_l12AnyDisk.f k s q = some (a', b', n', q') ∧ SmD a' b' n' ∧ 0 ≤ q' ∧ q' ≤ q + 40 := by
  obtain ⟨a, b, n, q1, e1, hd, hb, hn, g0, g1⟩ := l12Disk_eq hs hl hk h0 h1
  obtain ⟨v, hv, v0, v1⟩ := pick_eq (n := 12) (k := k) (q := q1) hs hl g0 (by omega) (by omega) (by omega)
  obtain ⟨a', b', n', q', e2, hsm, g2, g3⟩ := SpoilDisk_eq (q := q1 + 1) hs hl hk (by omega) (by omega) hd hb hn
  unfold spec_l12AnyDisk.f
  simp only [e1, hv, Option.bind_some]
  by_cases hz : v = 0
  · simp only [if_pos hz, e2, Option.bind_some]
    exact ⟨_, _, _, _, rfl, hsm, by omega, by omega⟩
  · rw [if_neg hz]
    have ha := hd.2.2.1
    have hn0 := hd.2.2.2
    exact ⟨_, _, _, _, rfl, ⟨by omega, by omega, by omega, by omega⟩, by omega, by omega⟩
end Go.Proofs.Ytjmdinhobhoojaa.V
/- What a power cut comes to, by the program and by the reference. -/
namespace Go.Proofs.Ytjmdinhobhoojaa.V
open Go.RowKit Go.Proofs.Ytjmdinhobhoojaa.P Go.Proofs.YtjmdinhobhoojaaW.PrintWords Go.Proofs.YtjmdinhobhoojaaW.PrintMore
/-- Bit j of a number that is not below nothing. -/
def bitI (m : Int) (j : Nat) : Bool := decide ((m / 2 ^ j) % 2 = 1)
def crashW : List S_impl_Wait → Nat → Int → List ByteArray → List ByteArray
  | [], _, _, a => a
  | w :: r, i, m, a => crashW r (i + 1) m (if bitI m (i % 60) then a.set w.f0.toNat w.f1 else a)
theorem crashW_length : ∀ (b : List S_impl_Wait) (i : Nat) (m : Int) (a : List ByteArray), (crashW b i m a).length = a.length
  | [], _, _, _ => rfl
  | w :: r, i, m, a => by rw [crashW, crashW_length r]; split <;> simp
def crD (a : List ByteArray) (b : List S_impl_Wait) (n m : Int) : D3 := if OkD a b n ∧ 0 ≤ m then (crashW b 0 m a, [], -1) else zeroD
theorem l2Bit_l0 : ∀ (d k : Nat) (m : Int) (i x : Nat), x + d = i % 60 → d < k → 0 ≤ m → m ≤ 9223372036854775807 → spec_l2Bit.l0 k m (i : Int) (x : Int) = some (bitI m d) := by
  intro d
  induction d with
  | zero =>
    intro k m i x hx hk h0 h1
    obtain ⟨k, rfl⟩ := succ_of hk
    have ht : Int.tmod (i : Int) 60 = ((i % 60 : Nat) : Int) := by rw [Int.tmod_eq_emod_of_nonneg (by omega)]; omega
    rw [spec_l2Bit.l0, ht, if_neg (by omega), Int.tmod_eq_emod_of_nonneg h0]
    by_cases hh : m % 2 = 1 <;> simp [bitI, hh]
  | succ d ih =>
    intro k m i x hx hk h0 h1
    obtain ⟨k, rfl⟩ := succ_of hk
    have ht : Int.tmod (i : Int) 60 = ((i % 60 : Nat) : Int) := by rw [Int.tmod_eq_emod_of_nonneg (by omega)]; omega
    have hd : Int.tdiv m 2 = m / 2 := Int.tdiv_eq_ediv_of_nonneg h0
    rw [spec_l2Bit.l0, ht, if_pos (by omega), hd, wrap_id (i := m / 2) (by omega) (by omega), wrap_id (i := (x : Int) + 1) (by omega) (by omega), show (x : Int) + 1 = ((x + 1 : Nat) : Int) by omega, ih k (m / 2) i (x + 1) (by omega) (by omega) (by omega) (by omega)]
    unfold bitI
    rw [Int.ediv_ediv_of_nonneg (by decide), show (2 : Int) * 2 ^ d = 2 ^ (d + 1) by rw [Int.pow_succ, Int.mul_comm]]
theorem l2Bit_eq (m : Int) (i k : Nat) (hk : 60 < k) (h0 : 0 ≤ m) (h1 : m ≤ 9223372036854775807) : spec_l2Bit.f k m (i : Int) = some (bitI m (i % 60)) := by
  have h := l2Bit_l0 (i % 60) k m i 0 (by omega) (by omega) h0 h1
  simpa [spec_l2Bit.f] using h
theorem and_one {x : Int} (h0 : 0 ≤ x) (h1 : x ≤ 9223372036854775807) : Go.bits .and .i64 x 1 = x % 2 :=
  bits_mask .i64 63 (by decide) (fun n h h' => by rw [IntKind.wrap_i64]; omega) 1 (by decide) x h0 (by omega)
theorem shr_bit (m : Int) (i : Nat) (h0 : 0 ≤ m) (h1 : m ≤ 9223372036854775807) : (Go.bits .and .i64 (shr .i64 m (Int.tmod (i : Int) 60)) 1 = 1) ↔ bitI m (i % 60) = true := by
  have ht : Int.tmod (i : Int) 60 = ((i % 60 : Nat) : Int) := by rw [Int.tmod_eq_emod_of_nonneg (by omega)]; omega
  have hs : shr .i64 m (Int.tmod (i : Int) 60) = m / 2 ^ (i % 60) := by
    unfold shr
    rw [ht, Int.toNat_natCast, Nat.min_eq_left (by have : i % 60 < 60 := Nat.mod_lt _ (by decide); simp [IntKind.bits]; omega)]
  have hp : (0 : Int) < 2 ^ (i % 60) := Int.pow_pos (by decide)
  rw [hs, and_one (Int.ediv_nonneg h0 (by omega)) (Int.le_trans (Int.ediv_le_self _ h0) h1)]
  simp [bitI]
theorem l2Crash_l0 : ∀ (suf pre : List S_impl_Wait) (a whole : List ByteArray) (n m z : Int) (k : Nat), suf.length + 60 < k → (pre ++ suf).length < 9223372036854775807 → (∀ w ∈ suf, OkW w) → a.length = 140 → 0 ≤ m → m ≤ 9223372036854775807 →
    spec_l2Crash.l0 k m (pre.length : Int) whole (pre ++ suf) n a z = some (crashW suf pre.length m a, [], z) := by
  intro suf
  induction suf with
  | nil =>
    intro pre a whole n m z k hk hb hw ha h0 h1
    obtain ⟨k, rfl⟩ := succ_of (show 0 < k by omega)
    rw [spec_l2Crash.l0, if_neg end_not_lt]; rfl
  | cons x suf ih =>
    intro pre a whole n m z k hk hb hw ha h0 h1
    obtain ⟨k, rfl⟩ := succ_of (show 0 < k by omega)
    have hx := (hw x (by simp)).1
    simp only [List.length_cons] at hk
    rw [spec_l2Crash.l0, if_pos mid_lt, l2Bit_eq m pre.length k (by omega) h0 h1, Option.bind_some, crashW]
    cases hbit : bitI m (pre.length % 60) with
    | true =>
      rw [if_pos rfl, if_pos (nat_le0 _), rdw_mid, if_pos hx.1, if_pos (by omega), wrap_snoc (x := x) (by simp at hb; omega), snoc_app (suf := suf), ih (pre ++ [x]) _ whole n m z k (by omega) (by simpa using hb) (fun w h => hw w (by simp [h])) (by simpa using ha) h0 h1]
      simp
    | false =>
      rw [if_neg (by decide), wrap_snoc (x := x) (by simp at hb; omega), snoc_app (suf := suf), ih (pre ++ [x]) _ whole n m z k (by omega) (by simpa using hb) (fun w h => hw w (by simp [h])) ha h0 h1]
      simp
theorem DiskCrash_l0 : ∀ (suf pre : List S_impl_Wait) (a : List ByteArray) (m z : Int) (k : Nat), suf.length < k → (pre ++ suf).length < 9223372036854775807 → (∀ w ∈ suf, OkW w) → a.length = 140 → 0 ≤ m → m ≤ 9223372036854775807 →
    impl_DiskCrash.l0 k m (pre ++ suf) ((pre ++ suf).length : Int) (pre.length : Int) a z = some (crashW suf pre.length m a, [], z) := by
  intro suf
  induction suf with
  | nil =>
    intro pre a m z k hk hb hw ha h0 h1
    obtain ⟨k, rfl⟩ := succ_of hk
    rw [impl_DiskCrash.l0, if_neg end_not_lt]; rfl
  | cons x suf ih =>
    intro pre a m z k hk hb hw ha h0 h1
    obtain ⟨k, rfl⟩ := succ_of hk
    have hx := (hw x (by simp)).1
    have ht : (0 : Int) ≤ Int.tmod (pre.length : Int) 60 := by rw [Int.tmod_eq_emod_of_nonneg (by omega)]; omega
    rw [impl_DiskCrash.l0, if_pos mid_lt, if_pos (nat_le0 _), if_pos mid_lt, if_pos ht, crashW]
    cases hbit : bitI m (pre.length % 60) with
    | true =>
      rw [if_pos ((shr_bit m pre.length h0 h1).mpr hbit), rdw_mid, if_pos hx.1, if_pos (by omega), wrap_snoc (x := x) (by simp at hb; omega), snoc_app (suf := suf), ih (pre ++ [x]) _ m z k (by simpa using hk) (by simpa using hb) (fun w h => hw w (by simp [h])) (by simpa using ha) h0 h1]
      simp
    | false =>
      rw [if_neg (fun h => by rw [(shr_bit m pre.length h0 h1).mp h] at hbit; cases hbit), wrap_snoc (x := x) (by simp at hb; omega), snoc_app (suf := suf), ih (pre ++ [x]) _ m z k (by simpa using hk) (by simpa using hb) (fun w h => hw w (by simp [h])) ha h0 h1]
      simp
theorem spec_DiskCrash_eq (a : List ByteArray) (b : List S_impl_Wait) (n m : Int) (k : Nat) (hk : a.length + b.length + 62 < k) (ha : a.length ≤ 1000000000) (hb : b.length ≤ 1000000000) (hm : m ≤ 9223372036854775807) :
    spec_DiskCrash.f k a b n m = some (crD a b n m) := by
  unfold spec_DiskCrash.f crD
  rw [spec_DiskOk_eq a b n k (by omega) (by omega) (by omega), Option.bind_some]
  by_cases h : OkD a b n
  · rw [if_pos (by simpa using h)]
    by_cases h2 : m < 0
    · rw [if_pos h2, if_neg (fun hh => by have := hh.2; omega)]; rfl
    · rw [if_neg h2, if_pos ⟨h, by omega⟩]
      unfold spec_l2Crash.f
      have hl := l2Crash_l0 b [] a a n m (-1) k (by omega) (by simp; omega) h.2.1 h.2.2.1 (by omega) hm
      simp only [List.nil_append, List.length_nil, Int.natCast_zero] at hl
      simp only [Option.bind_some, List.length_nil, List.nil_append]
      rw [if_pos (by omega), hl]; rfl
  · rw [if_neg (by simpa using h), if_neg (fun hh => h hh.1)]; rfl
theorem impl_DiskCrash_eq (a : List ByteArray) (b : List S_impl_Wait) (n m : Int) (k : Nat) (hk : a.length + b.length + 62 < k) (ha : a.length ≤ 1000000000) (hb : b.length ≤ 1000000000) (hm : m ≤ 9223372036854775807) :
    impl_DiskCrash.f k a b n m = some (crD a b n m) := by
  unfold impl_DiskCrash.f crD
  rw [isDisk_eq a b n k (by omega) (by omega) (by omega), Option.bind_some]
  obtain ⟨k, rfl⟩ := succ_of (show 0 < k by omega)
  by_cases h : OkD a b n
  · rw [if_pos (by simpa using h), impl_DiskCrash.j0]
    by_cases h2 : m < 0
    · rw [if_pos (by simpa using h2), if_neg (fun hh => by have := hh.2; omega)]; rfl
    · rw [if_neg (by simpa using h2), if_pos ⟨h, by omega⟩]
      have hl := DiskCrash_l0 b [] a m (-1) k (by omega) (by simp; omega) h.2.1 h.2.2.1 (by omega) hm
      simp only [List.nil_append, List.length_nil, Int.natCast_zero] at hl
      simp only [Option.bind_some, List.length_nil, List.nil_append]
      rw [if_pos (by omega), hl]
  · rw [if_neg (by simpa using h), impl_DiskCrash.j0, if_pos rfl, if_neg (fun hh => h hh.1)]; rfl
end Go.Proofs.Ytjmdinhobhoojaa.V
/- What is read of a block, by the program and by the reference. -/
namespace Go.Proofs.Ytjmdinhobhoojaa.V
open Go.RowKit Go.Proofs.Ytjmdinhobhoojaa.P Go.Proofs.YtjmdinhobhoojaaW.PrintWords Go.Proofs.YtjmdinhobhoojaaW.PrintMore
/-- What block at has: the last that waits for it, else what it has. -/
def readW : List S_impl_Wait → Int → ByteArray → ByteArray
  | [], _, s => s
  | w :: r, at_, s => readW r at_ (if w.f0 = at_ then w.f1 else s)
theorem readW_append : ∀ (l : List S_impl_Wait) (w : S_impl_Wait) (at_ : Int) (s : ByteArray), readW (l ++ [w]) at_ s = if w.f0 = at_ then w.f1 else readW l at_ s
  | [], w, at_, s => by simp [readW]
  | x :: l, w, at_, s => by
    rw [List.cons_append, readW, readW, readW_append l w at_]
/-- DiskRead, as program and reference tell it. -/
def rdD (a : List ByteArray) (b : List S_impl_Wait) (n at_ : Int) : ByteArray := if OkD a b n ∧ 0 ≤ at_ ∧ at_ ≤ 139 then readW b at_ (rdOf ByteArray.empty a at_) else ⟨#[]⟩
theorem Disk_read_l0 : ∀ (m : Nat) (pre suf : List S_impl_Wait) (_ : pre.length = m) (at_ : Int) (a : List ByteArray) (n : Int) (k : Nat), pre.length < k → (pre ++ suf).length < 9223372036854775807 → 0 ≤ at_ → at_ < a.length →
    impl_Disk_read.l0 k at_ ((pre.length : Int) - 1) a (pre ++ suf) n = some (readW pre at_ (rdOf ByteArray.empty a at_), n) := by
  intro m
  induction m with
  | zero =>
    intro pre suf hm at_ a n k hk hb h0 h1
    obtain ⟨k, rfl⟩ := succ_of hk
    obtain rfl : pre = [] := List.eq_nil_of_length_eq_zero hm
    rw [impl_Disk_read.l0, if_neg (by simp), if_pos h0, if_pos h1]; rfl
  | succ m ih =>
    intro pre suf hm at_ a n k hk hb h0 h1
    obtain ⟨k, rfl⟩ := succ_of hk
    rcases List.eq_nil_or_concat pre with rfl | ⟨pre, x, rfl⟩
    · simp at hm
    simp only [List.concat_eq_append] at hm hb hk ⊢
    have e : (((pre ++ [x]).length : Int) - 1) = (pre.length : Int) := by simp
    have e2 : pre ++ [x] ++ suf = pre ++ x :: suf := by simp
    rw [e, e2, impl_Disk_read.l0, if_pos (by omega), if_pos (nat_le0 _), if_pos mid_lt, rdw_mid, readW_append]
    by_cases h : x.f0 = at_
    · rw [if_pos h, if_pos h]
    · rw [if_neg h, if_neg h, wrap_id (by omega) (by simp at hb; omega), ih pre (x :: suf) (by simpa using hm) at_ a n k (by simp at hk; omega) (by simpa using hb) h0 h1]
theorem impl_DiskRead_eq (a : List ByteArray) (b : List S_impl_Wait) (n at_ : Int) (k : Nat) (hk : a.length + b.length + 2 < k) (ha : a.length < 9223372036854775807) (hb : b.length < 9223372036854775807) : impl_DiskRead.f k a b n at_ = some (rdD a b n at_) := by
  unfold impl_DiskRead.f rdD
  rw [isDisk_eq a b n k hk ha hb, Option.bind_some]
  by_cases h : OkD a b n
  · rw [if_pos (by simpa using h), isBlock_eq, Option.bind_some]
    by_cases h2 : 0 ≤ at_ ∧ at_ ≤ 139
    · rw [if_pos (by simpa using h2), if_pos ⟨h, h2⟩]
      unfold impl_Disk_read.f
      have hr := Disk_read_l0 b.length b [] rfl at_ a n k (by omega) (by simpa using hb) h2.1 (by have := h.2.2.1; omega)
      rw [List.append_nil] at hr
      rw [wrap_id (by omega) (by omega), hr]; rfl
    · rw [if_neg (by simpa using h2), if_neg (fun hh => h2 hh.2)]
  · rw [if_neg (by simpa using h), if_neg (fun hh => h hh.1)]
end Go.Proofs.Ytjmdinhobhoojaa.V
/- The disk laws' own looks: equal words, equal disks. -/
namespace Go.Proofs.Ytjmdinhobhoojaa.V
open Go.RowKit Go.Proofs.Ytjmdinhobhoojaa.P Go.Proofs.YtjmdinhobhoojaaW.PrintWords Go.Proofs.YtjmdinhobhoojaaW.PrintMore
theorem wmWords_l0 : ∀ (suf pre : List ByteArray) (k : Nat), suf.length < k → (pre ++ suf).length < 9223372036854775807 → laws_wmWords.l0 k (pre ++ suf) (pre ++ suf) (pre.length : Int) = some true := by
  intro suf
  induction suf with
  | nil =>
    intro pre k hk hb
    obtain ⟨k, rfl⟩ := succ_of hk
    rw [laws_wmWords.l0, if_neg end_not_lt]
  | cons x suf ih =>
    intro pre k hk hb
    obtain ⟨k, rfl⟩ := succ_of hk
    rw [laws_wmWords.l0, if_pos mid_lt, if_pos (nat_le0 _), if_pos mid_lt, if_pos rfl, wrap_snoc (x := x) (by simp at hb; omega), snoc_app (suf := suf), ih (pre ++ [x]) k (by simpa using hk) (by simpa using hb)]
theorem wmWords_refl (a : List ByteArray) (k : Nat) (hk : a.length < k) (hb : a.length < 9223372036854775807) : laws_wmWords.f k a a = some true := by
  unfold laws_wmWords.f
  rw [if_pos rfl]
  exact wmWords_l0 a [] k hk hb
theorem wmDisk_l0 (a a' : List ByteArray) (n n' : Int) : ∀ (suf pre : List S_impl_Wait) (k : Nat), suf.length < k → (pre ++ suf).length < 9223372036854775807 → laws_wmDisk.l0 k (pre.length : Int) a (pre ++ suf) n a' (pre ++ suf) n' = some true := by
  intro suf
  induction suf with
  | nil =>
    intro pre k hk hb
    obtain ⟨k, rfl⟩ := succ_of hk
    rw [laws_wmDisk.l0, if_neg end_not_lt]
  | cons x suf ih =>
    intro pre k hk hb
    obtain ⟨k, rfl⟩ := succ_of hk
    rw [laws_wmDisk.l0, if_pos mid_lt, if_pos (nat_le0 _), if_pos mid_lt, if_neg (by simp), wrap_snoc (x := x) (by simp at hb; omega), snoc_app (suf := suf), ih (pre ++ [x]) k (by simpa using hk) (by simpa using hb)]
theorem wmDisk_refl (a : List ByteArray) (b : List S_impl_Wait) (n : Int) (k : Nat) (ha : a.length < k) (hb : b.length + 1 < k) (ha' : a.length < 9223372036854775807) (hb' : b.length < 9223372036854775807) : laws_wmDisk.f k a b n a b n = some true := by
  obtain ⟨k, rfl⟩ := succ_of (show 0 < k by omega)
  unfold laws_wmDisk.f
  rw [if_pos rfl, wmWords_refl a (k + 1) ha ha', Option.bind_some, if_pos rfl, laws_wmDisk.j0, if_neg (by simp)]
  exact wmDisk_l0 a a n n b [] k (by omega) (by simpa using hb')
theorem rdOf_set (a : List ByteArray) (p : Int) (i : Nat) (s : ByteArray) (h0 : 0 ≤ p) (hp : p < a.length) : rdOf ByteArray.empty (a.set i s) p = if (i : Int) = p then s else rdOf ByteArray.empty a p := by
  unfold rdOf
  rw [List.getD_eq_getElem?_getD, List.getD_eq_getElem?_getD, List.getElem?_set]
  by_cases h : (i : Int) = p
  · rw [if_pos (by omega), if_pos (by omega), if_pos h]; rfl
  · rw [if_neg (by omega), if_neg h]
theorem applyW_at : ∀ (b : List S_impl_Wait) (a : List ByteArray) (p : Int), 0 ≤ p → p < a.length → (∀ w ∈ b, OkW w) → rdOf ByteArray.empty (applyW b a) p = readW b p (rdOf ByteArray.empty a p)
  | [], _, _, _, _, _ => rfl
  | w :: r, a, p, h0, hp, hb => by
    have hw := (hb w (by simp)).1
    rw [applyW, readW, applyW_at r _ p h0 (by simpa using hp) (fun v hv => hb v (by simp [hv])), rdOf_set a p _ _ h0 hp]
    congr 1
    by_cases h : w.f0 = p
    · rw [if_pos h, if_pos (by omega)]
    · rw [if_neg h, if_neg (by omega)]
theorem crashW_all : ∀ (b : List S_impl_Wait) (i : Nat) (a : List ByteArray), i + b.length ≤ 58 → crashW b i 288230376151711743 a = applyW b a
  | [], _, _, _ => rfl
  | w :: r, i, a, h => by
    simp only [List.length_cons] at h
    have hbit : bitI 288230376151711743 (i % 60) = true := by
      have : i % 60 = i := Nat.mod_eq_of_lt (by omega)
      rw [this]
      have hi : i < 58 := by omega
      clear this h
      revert i
      decide
    rw [crashW, hbit, applyW, crashW_all r (i + 1) _ (by omega)]; rfl
theorem crashW_none : ∀ (b : List S_impl_Wait) (i : Nat) (a : List ByteArray), crashW b i 0 a = a
  | [], _, _ => rfl
  | w :: r, i, a => by
    have hbit : bitI 0 (i % 60) = false := by simp [bitI]
    rw [crashW, hbit]
    exact crashW_none r (i + 1) a
/-- A block behind a cut has what it had, or something that was written to it. -/
theorem crashW_from : ∀ (b : List S_impl_Wait) (i : Nat) (m : Int) (a : List ByteArray) (p : Int), 0 ≤ p → p < a.length → (∀ w ∈ b, OkW w) →
    rdOf ByteArray.empty (crashW b i m a) p = rdOf ByteArray.empty a p ∨ ∃ w ∈ b, w.f0 = p ∧ w.f1 = rdOf ByteArray.empty (crashW b i m a) p
  | [], _, _, _, _, _, _, _ => .inl rfl
  | w :: r, i, m, a, p, h0, hp, hb => by
    have hw := (hb w (by simp)).1
    rw [crashW]
    have ih := fun a' (h : p < (a' : List ByteArray).length) => crashW_from r (i + 1) m a' p h0 h (fun v hv => hb v (by simp [hv]))
    cases hbit : bitI m (i % 60) with
    | false =>
      rcases ih a hp with h | ⟨v, hv, h1, h2⟩
      · exact .inl h
      · exact .inr ⟨v, by simp [hv], h1, h2⟩
    | true =>
      rw [if_pos rfl]
      rcases ih (a.set w.f0.toNat w.f1) (by simpa using hp) with h | ⟨v, hv, h1, h2⟩
      · rw [rdOf_set a p _ _ h0 hp] at h
        by_cases hwp : w.f0 = p
        · rw [if_pos (by omega)] at h
          exact .inr ⟨w, by simp, hwp, h.symm⟩
        · rw [if_neg (by omega)] at h
          exact .inl h
      · exact .inr ⟨v, by simp [hv], h1, h2⟩
end Go.Proofs.Ytjmdinhobhoojaa.V
/- A block that was not flushed has what it had, or something that was written to it. -/
namespace Go.Proofs.Ytjmdinhobhoojaa.Pure
open Go.RowKit Go.Proofs.Ytjmdinhobhoojaa.P Go.Proofs.Ytjmdinhobhoojaa.V Go.Proofs.YtjmdinhobhoojaaW.PrintWords
theorem DrawDiskCrash_eq {l : List Int} (h : U8 l) {k : Nat} (hk : 40 < k) : ∃ a b n m, spec_DrawDiskCrash.f k l = some (a, b, n, m) ∧ SmD a b n ∧ m ≤ 1048575 := by
  obtain ⟨s, e0, hs, hl⟩ := open_eq h
  obtain ⟨a, b, n, q, e1, hsm, q0, q1⟩ := AnyDisk_eq (q := 0) hs hl hk (by omega) (by omega)
  obtain ⟨v, hv, v0, v1⟩ := pick_eq (n := 256) (k := k) (q := q) hs hl (by omega) (by omega) (by omega) (by omega)
  obtain ⟨t, ht, t0, t1⟩ := pick_eq (n := 12) (k := k) (q := q + 1) hs hl (by omega) (by omega) (by omega) (by omega)
  unfold spec_DrawDiskCrash.f
  simp only [e0, e1, hv, ht, Option.bind_some]
  have hd : Int.tdiv (t * 4) 12 = t * 4 / 12 := Int.tdiv_eq_ediv_of_nonneg (by omega)
  rw [wrap_id (i := t * 4) (by omega) (by omega), hd, wrap_id (i := t * 4 / 12) (by omega) (by omega), if_pos (by omega), if_pos (by simp; omega)]
  refine ⟨_, _, _, _, rfl, hsm, ?_⟩
  have : t * 4 / 12 = 0 ∨ t * 4 / 12 = 1 ∨ t * 4 / 12 = 2 ∨ t * 4 / 12 = 3 := by omega
  rcases this with h | h | h | h <;> rw [h] <;> simp [rd] <;> omega
theorem crash_l2 (a c : List ByteArray) (b : List S_impl_Wait) (n : Int) (ha : a.length = 140) (hc : c.length = 140) (hb : b.length ≤ 11) (hd : OkD a b n) : ∀ (d i k : Nat), i + d = 9 → d + 400 < k → laws_FnDiskCrash.l2 k (i : Int) a b n c [] (-1) a [] (-1) (applyW b a) [] (-1) = some true := by
  intro d
  induction d with
  | zero =>
    intro i k hi hk
    obtain ⟨k, rfl⟩ := succ_of (show 0 < k by omega)
    rw [laws_FnDiskCrash.l2, if_neg (by omega), if_pos (by simp), if_pos rfl, wmWords_refl a k (by omega) (by omega)]; rfl
  | succ d ih =>
    intro i k hi hk
    obtain ⟨k, rfl⟩ := succ_of (show 0 < k by omega)
    rw [laws_FnDiskCrash.l2, if_pos (by omega), if_pos (by omega), if_pos (by rw [applyW_length]; omega), impl_DiskRead_eq a b n (i : Int) k (by omega) (by omega) (by omega), Option.bind_some]
    have e : rdD a b n (i : Int) = rdOf ByteArray.empty (applyW b a) (i : Int) := by
      unfold rdD
      rw [if_pos ⟨hd, by omega, by omega⟩, applyW_at b a (i : Int) (by omega) (by omega) hd.2.1]
    rw [if_pos (by rw [e]), wrap_id (by omega) (by omega)]
    exact ih (i + 1) k (by omega) (by omega)
theorem crash_l1 (a c : List ByteArray) (b : List S_impl_Wait) (n : Int) (ha : a.length = 140) (hc : c.length = 140) (hb : b.length ≤ 11) (hd : OkD a b n) (i : Nat) (hi : i < 140) (R : Nat → Option Bool) (hR : ∀ k, 700 < k → R k = laws_FnDiskCrash.l0 k (wrap64 ((i : Int) + 1)) a b n c [] (-1)) : ∀ (suf pre : List S_impl_Wait) (x : Bool) (k : Nat), pre ++ suf = b → suf.length + 710 < k →
    (x = true ∨ ∃ w ∈ suf, w.f0 = (i : Int) ∧ w.f1 = rdOf ByteArray.empty c (i : Int)) → ∃ k', 700 < k' ∧ k ≤ k' + suf.length + 1 ∧ laws_FnDiskCrash.l1 k (i : Int) x (pre.length : Int) a b n c [] (-1) = R k' := by
  intro suf
  induction suf with
  | nil =>
    intro pre x k he hk hx
    obtain ⟨k, rfl⟩ := succ_of (show 0 < k by omega)
    have hxt : x = true := by
      rcases hx with h | ⟨w, hw, _⟩
      · exact h
      · cases hw
    subst hxt
    refine ⟨k, by simp at hk; omega, by simp, ?_⟩
    rw [laws_FnDiskCrash.l1, if_neg (by rw [← he]; simp), if_pos rfl, hR k (by simp at hk; omega)]
  | cons w suf ih =>
    intro pre x k he hk hx
    obtain ⟨k, rfl⟩ := succ_of (show 0 < k by omega)
    simp only [List.length_cons] at hk
    have hlt : (pre.length : Int) < (b.length : Int) := by rw [← he]; simp; omega
    have hw : rd_impl_Wait b (pre.length : Int) = w := by rw [← he]; exact rdw_mid
    have hwr : wrap64 ((pre.length : Int) + 1) = ((pre ++ [w]).length : Int) := wrap_snoc (by omega)
    have ih' := fun y (hy : y = true ∨ ∃ w ∈ suf, w.f0 = (i : Int) ∧ w.f1 = rdOf ByteArray.empty c (i : Int)) => ih (pre ++ [w]) y k (by rw [← he]; simp) (by omega) hy
    rw [laws_FnDiskCrash.l1, if_pos hlt, hwr]
    cases x with
    | true =>
      rw [if_pos rfl]
      obtain ⟨k', h1, h2, h3⟩ := ih' true (.inl rfl)
      exact ⟨k', h1, by simp; omega, h3⟩
    | false =>
      rw [if_neg (by decide), if_pos (nat_le0 _), hw]
      have hx' : ∃ v ∈ w :: suf, v.f0 = (i : Int) ∧ v.f1 = rdOf ByteArray.empty c (i : Int) := by
        rcases hx with h | h
        · cases h
        · exact h
      obtain ⟨v, hv, v1, v2⟩ := hx'
      by_cases hwi : w.f0 = (i : Int)
      · rw [if_pos hwi, if_pos (by omega), if_pos (by omega)]
        obtain ⟨k', h1, h2, h3⟩ := ih' (w.f1.toList == (rdOf ByteArray.empty c (i : Int)).toList) (by
          rcases List.mem_cons.1 hv with rfl | hv
          · left; rw [v2]; simp
          · exact .inr ⟨v, hv, v1, v2⟩)
        exact ⟨k', h1, by simp; omega, h3⟩
      · rw [if_neg hwi]
        obtain ⟨k', h1, h2, h3⟩ := ih' false (by
          rcases List.mem_cons.1 hv with rfl | hv
          · exact absurd v1 hwi
          · exact .inr ⟨v, hv, v1, v2⟩)
        exact ⟨k', h1, by simp; omega, h3⟩
theorem crash_l0 (a c : List ByteArray) (b : List S_impl_Wait) (n : Int) (ha : a.length = 140) (hc : c.length = 140) (hb : b.length ≤ 11) (hd : OkD a b n) (hfrom : ∀ p : Int, 0 ≤ p → p < 140 → rdOf ByteArray.empty c p = rdOf ByteArray.empty a p ∨ ∃ w ∈ b, w.f0 = p ∧ w.f1 = rdOf ByteArray.empty c p) :
    ∀ (d i k : Nat), i + d = 140 → 14 * d + 800 < k → laws_FnDiskCrash.l0 k (i : Int) a b n c [] (-1) = some true := by
  intro d
  induction d with
  | zero =>
    intro i k hi hk
    obtain ⟨k, rfl⟩ := succ_of (show 0 < k by omega)
    have c0 := impl_DiskCrash_eq a b n 0 k (by omega) (by omega) (by omega) (by omega)
    have c1 := impl_DiskCrash_eq a b n 288230376151711743 k (by omega) (by omega) (by omega) (by omega)
    have e0 : crD a b n 0 = (a, [], -1) := by unfold crD; rw [if_pos ⟨hd, by omega⟩, crashW_none]
    have e1 : crD a b n 288230376151711743 = (applyW b a, [], -1) := by unfold crD; rw [if_pos ⟨hd, by omega⟩, crashW_all b 0 a (by omega)]
    rw [e0] at c0
    rw [e1] at c1
    rw [laws_FnDiskCrash.l0, if_neg (by omega)]
    simp only [c0, c1, Option.bind_some]
    exact crash_l2 a c b n ha hc hb hd 9 0 k rfl (by omega)
  | succ d ih =>
    intro i k hi hk
    obtain ⟨k, rfl⟩ := succ_of (show 0 < k by omega)
    rw [laws_FnDiskCrash.l0, if_pos (by omega), if_pos (by omega), if_pos (by omega)]
    obtain ⟨k', h1, h2, h3⟩ := crash_l1 a c b n ha hc hb hd i (by omega) (fun k => laws_FnDiskCrash.l0 k (wrap64 ((i : Int) + 1)) a b n c [] (-1)) (fun _ _ => rfl) b [] ((rdOf ByteArray.empty c (i : Int)).toList == (rdOf ByteArray.empty a (i : Int)).toList) k rfl (by omega) (by
      rcases hfrom (i : Int) (by omega) (by omega) with h | h
      · left; rw [h]; simp
      · exact .inr h)
    have h4 : laws_FnDiskCrash.l1 k (i : Int) ((rdOf ByteArray.empty c (i : Int)).toList == (rdOf ByteArray.empty a (i : Int)).toList) 0 a b n c [] (-1) = _ := h3
    rw [h4, wrap_id (by omega) (by omega)]
    exact ih (i + 1) k' (by omega) (by omega)
theorem FnDiskCrash : laws_FnDiskCrash.Pure := by
  intro l _ _ h0
  obtain ⟨K, hK⟩ : ∃ K, K = 5000 := ⟨_, rfl⟩
  refine ⟨K + 1 + 1, ?_⟩
  unfold laws_FnDiskCrash.f
  by_cases hc : (l.length : Int) > 1048576
  · rw [if_pos hc]
  rw [if_neg hc]
  obtain ⟨a, b, n, m, e, ⟨ha, hb, hn0, hn1⟩, hm⟩ := DrawDiskCrash_eq (U8_of h0) (k := K + 1 + 1) (by omega)
  have e1 := fun k (hk : 400 < k) => impl_DiskOk_eq a b n k (by omega) (by omega) (by omega)
  have e2 := fun k (hk : 400 < k) => spec_DiskOk_eq a b n k (by omega) (by omega) (by omega)
  have f1 := impl_DiskCrash_eq a b n m (K + 1 + 1) (by omega) (by omega) (by omega) (by omega)
  have f2 := spec_DiskCrash_eq a b n m (K + 1 + 1) (by omega) (by omega) (by omega) (by omega)
  have hD : (crD a b n m).1.length ≤ 140 ∧ (crD a b n m).2.1.length ≤ 12 := by
    unfold crD
    split
    · simp [crashW_length]; exact ha
    · simp [zeroD]
  have w1 := wmDisk_refl (crD a b n m).1 (crD a b n m).2.1 (crD a b n m).2.2 (K + 1 + 1) (by omega) (by omega) (by omega) (by omega)
  simp only [e, f1, f2, w1, e1 (K + 1 + 1) (by omega), e2 (K + 1 + 1) (by omega), Option.bind_some, if_true]
  have hne : (decide (OkD a b n) != decide (OkD a b n)) = false := by simp
  rw [hne, laws_FnDiskCrash.j0, if_neg (by decide), e2 (K + 1) (by omega), Option.bind_some]
  by_cases hd : OkD a b n
  · rw [if_pos (by simpa using hd), laws_FnDiskCrash.j1]
    by_cases h2 : m < 0
    · rw [if_pos (by simpa using h2)]
      have ez : crD a b n m = zeroD := by unfold crD; rw [if_neg (fun h => by have := h.2; omega)]
      rw [ez]; rfl
    · rw [if_neg (by simpa using h2)]
      have ez : crD a b n m = (crashW b 0 m a, [], -1) := by unfold crD; rw [if_pos ⟨hd, by omega⟩]
      rw [ez]
      have ha' := hd.2.2.1
      exact crash_l0 a (crashW b 0 m a) b n ha' (by rw [crashW_length]; exact ha') hb hd (fun p p0 p1 => crashW_from b 0 m a p p0 (by omega) hd.2.1) 140 0 K rfl (by omega)
  · rw [if_neg (by simpa using hd), laws_FnDiskCrash.j1, if_pos rfl]
    have ez : crD a b n m = zeroD := by unfold crD; rw [if_neg (fun h => hd h.1)]
    rw [ez]; rfl
end Go.Proofs.Ytjmdinhobhoojaa.Pure
