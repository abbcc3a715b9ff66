/- The plain statement of the law FnThingCost, proved. -/
import Derived.Test.YtgkgkpoeiojmeaaDoorZFnThingCostW0
import Derived.Test.YtgkgkpoeiojmeaaDoorZFnThingCost0
import Derived.Laws.Bits64
import Derived.Test.YtgkgkpoeiojmeaaDoorZFnThingCost3
import Derived.Test.YtgkgkpoeiojmeaaDoorZFnThingCost1
import Derived.Test.YtgkgkpoeiojmeaaDoorZFnThingCost2
import Derived.KernelRfl
/- Plain lemmas on lists, numbers and strings, for the laws' plain statements. -/
namespace Go.Proofs.YtgkgkpoeiojmeaaDoor.V
open Go.RowKit Go.Proofs.YtgkgkpoeiojmeaaDoorW.PrintWords Go.Proofs.YtgkgkpoeiojmeaaDoorW.PrintMore
theorem succ_of {d k : Nat} (h : d < k) : ∃ m, k = m + 1 := ⟨k - 1, by omega⟩
theorem wrap_id {i : Int} (h : -9223372036854775808 ≤ i) (h' : i ≤ 9223372036854775807) : wrap64 i = i := by unfold wrap64; omega
section
variable {α : Type} {pre suf : List α} {x y : α}
theorem mid_lt : ((pre.length : Int) < ((pre ++ x :: suf).length : Int)) := by simp; omega
theorem end_not_lt : ¬ ((pre.length : Int) < ((pre ++ ([] : List α)).length : Int)) := by simp
theorem rdOf_mid (d : α) : rdOf d (pre ++ x :: suf) (pre.length : Int) = x := by simp [rdOf]
theorem wrap_snoc (h : pre.length < 9223372036854775807) : wrap64 ((pre.length : Int) + 1) = ((pre ++ [x]).length : Int) := by
  rw [wrap_id (by omega) (by omega)]; simp
theorem snoc_app : pre ++ x :: suf = (pre ++ [x]) ++ suf := by simp
end
theorem nat_le0 (n : Nat) : (0 : Int) ≤ (n : Int) := Int.natCast_nonneg n
end Go.Proofs.YtgkgkpoeiojmeaaDoor.V
/- What the reader of the drawn input answers: always something, and in bounds. -/
namespace Go.Proofs.YtgkgkpoeiojmeaaDoor.V
open Go.RowKit Go.Proofs.YtgkgkpoeiojmeaaDoor.P Go.Proofs.YtgkgkpoeiojmeaaDoorW.PrintWords Go.Proofs.YtgkgkpoeiojmeaaDoorW.PrintMore
def U8 (s : List Int) : Prop := ∀ x ∈ s, 0 ≤ x ∧ x ≤ 255
theorem U8_of {s : List Int} (h : ∀ x ∈ s, (Lit.int .u8 x).wf = true) : U8 s := fun x hx => by
  have := h x hx
  simp [Lit.wf, IntKind.max, IntKind.min, IntKind.signed, IntKind.bits] at this
  omega
theorem rd_u8 {s : List Int} (h : U8 s) (i : Int) : 0 ≤ rd s i ∧ rd s i ≤ 255 := by
  unfold rd
  rw [List.getD_eq_getElem?_getD]
  cases hx : s[i.toNat]? with
  | none => simp
  | some x => exact h x (List.mem_of_getElem? hx)
theorem xor_i64 {a b : Int} (h0 : 0 ≤ a) (h1 : a ≤ 4611686018427387903) (h2 : 0 ≤ b) (h3 : b ≤ 4611686018427387903) : 0 ≤ Go.bits .xor .i64 a b ∧ Go.bits .xor .i64 a b ≤ 9223372036854775807 := by
  obtain ⟨x, rfl⟩ := Int.eq_ofNat_of_zero_le h0
  obtain ⟨y, rfl⟩ := Int.eq_ofNat_of_zero_le h2
  have hx : x ^^^ y < 2 ^ 62 := Nat.xor_lt_two_pow (by omega) (by omega)
  have e1 : (BitVec.ofInt 64 (x : Int)).toNat = x := by
    rw [BitVec.ofInt_natCast, BitVec.toNat_ofNat]; exact Nat.mod_eq_of_lt (by omega)
  have e2 : (BitVec.ofInt 64 (y : Int)).toNat = y := by
    rw [BitVec.ofInt_natCast, BitVec.toNat_ofNat]; exact Nat.mod_eq_of_lt (by omega)
  have e : Go.bits .xor .i64 (x : Int) (y : Int) = IntKind.i64.wrap ((BitVec.ofInt 64 (x : Int) ^^^ BitVec.ofInt 64 (y : Int)).toNat : Int) := rfl
  rw [e, BitVec.toNat_xor, e1, e2, IntKind.wrap_i64]
  omega
theorem tmod_bd {a n : Int} (h0 : 0 ≤ a) (hn : 1 ≤ n) : 0 ≤ Int.tmod a n ∧ Int.tmod a n < n := by
  rw [Int.tmod_eq_emod_of_nonneg h0]
  exact ⟨Int.emod_nonneg _ (by omega), Int.emod_lt_of_pos _ (by omega)⟩
theorem tdiv_bd {a n : Int} (h0 : 0 ≤ a) (hn : 1 ≤ n) : 0 ≤ Int.tdiv a n ∧ Int.tdiv a n ≤ a := by
  rw [Int.tdiv_eq_ediv_of_nonneg h0]
  exact ⟨Int.ediv_nonneg h0 (by omega), Int.ediv_le_self _ h0⟩
/-- One number below n. -/
theorem pick_eq {s : List Int} {q n : Int} {k : Nat} (hs : U8 s) (hl : s.length ≤ 2000) (h0 : 0 ≤ q) (h1 : q ≤ 1000000) (hn : 1 ≤ n) (hk : 0 < k) : ∃ v, spec_l1Rd_pick.f k s q n = some (v, q + 1) ∧ 0 ≤ v ∧ v < n := by
  obtain ⟨k, rfl⟩ := succ_of hk
  unfold spec_l1Rd_pick.f
  rw [if_neg (by omega), wrap_id (i := q + 1) (by omega) (by omega), spec_l1Rd_pick.j0]
  by_cases hz : s.length = 0
  · rw [if_pos (by rw [beq_iff_eq]; omega)]
    exact ⟨0, rfl, by omega, by omega⟩
  · rw [if_neg (by rw [beq_iff_eq]; omega), show q + 1 - 1 = q by omega, wrap_id (i := q) (by omega) (by omega)]
    by_cases h2 : q < (s.length : Int)
    · have hb := rd_u8 hs q
      rw [if_pos h2, if_pos h0, if_neg (by omega), wrap_id (i := rd s q) (by omega) (by omega)]
      exact ⟨_, rfl, tmod_bd hb.1 hn⟩
    · have b1 := tmod_bd (a := q) (n := s.length) h0 (by omega)
      rw [if_neg h2, if_neg (by omega), if_pos b1.1, if_pos b1.2, wrap_id (i := q * 7) (by omega) (by omega), wrap_id (i := q * 7 + 3) (by omega) (by omega)]
      have b2 := tmod_bd (a := q * 7 + 3) (n := s.length) (by omega) (by omega)
      rw [if_pos b2.1, if_pos b2.2, if_neg (by omega)]
      have c1 := rd_u8 hs (Int.tmod q s.length)
      have c2 := rd_u8 hs (Int.tmod (q * 7 + 3) s.length)
      have c3 := tdiv_bd (a := q) (n := s.length) h0 (by omega)
      generalize rd s (Int.tmod q s.length) = A at c1 ⊢
      generalize rd s (Int.tmod (q * 7 + 3) s.length) = B at c2 ⊢
      generalize Int.tdiv q s.length = D at c3 ⊢
      rw [wrap_id (i := A) (by omega) (by omega), wrap_id (i := B) (by omega) (by omega), wrap_id (i := D) (by omega) (by omega), wrap_id (i := A * 131) (by omega) (by omega), wrap_id (i := B * 1117) (by omega) (by omega), wrap_id (i := q * 29) (by omega) (by omega), wrap_id (i := D * 53) (by omega) (by omega),
        wrap_id (i := A * 131 + B * 1117) (by omega) (by omega), wrap_id (i := A * 131 + B * 1117 + q * 29) (by omega) (by omega), wrap_id (i := A * 131 + B * 1117 + q * 29 + D * 53) (by omega) (by omega)]
      have c4 : 0 ≤ A * 131 + B * 1117 + q * 29 + D * 53 ∧ A * 131 + B * 1117 + q * 29 + D * 53 ≤ 1000000000 := by omega
      generalize A * 131 + B * 1117 + q * 29 + D * 53 = X at c4 ⊢
      have c5 := tdiv_bd (a := X) (n := 64) c4.1 (by omega)
      rw [wrap_id (i := Int.tdiv X 64) (by omega) (by omega)]
      have c6 := xor_i64 (a := X) (b := Int.tdiv X 64) (by omega) (by omega) (by omega) (by omega)
      exact ⟨_, rfl, tmod_bd c6.1 hn⟩
/-- One of a list. -/
theorem of_eq {s : List Int} {q : Int} {k : Nat} {l : List ByteArray} (hs : U8 s) (hl : s.length ≤ 2000) (h0 : 0 ≤ q) (h1 : q ≤ 1000000) (hn : 1 ≤ l.length) (hk : 0 < k) : ∃ x, spec_l1Rd_of.f k s q l = some (x, q + 1) ∧ x ∈ l := by
  obtain ⟨v, hv, b0, b1⟩ := pick_eq (n := (l.length : Int)) hs hl h0 h1 (by omega) hk
  unfold spec_l1Rd_of.f
  rw [hv, Option.bind_some, if_pos b0, if_pos b1]
  refine ⟨_, rfl, ?_⟩
  show rdOf ByteArray.empty l v ∈ l
  unfold rdOf
  rw [List.getD_eq_getElem?_getD, List.getElem?_eq_getElem (by omega)]
  exact List.getElem_mem _
theorem open_eq {l : List Int} (h : U8 l) : ∃ s, spec_l1Open.f l = some (s, 0) ∧ U8 s ∧ s.length ≤ 2000 := by
  unfold spec_l1Open.f
  by_cases h1 : (l.length : Int) > 2000
  · rw [if_pos h1, if_pos (by omega)]
    exact ⟨_, rfl, fun x hx => h x (List.mem_of_mem_take hx), by simp; omega⟩
  · rw [if_neg h1]
    exact ⟨_, rfl, h, by omega⟩
end Go.Proofs.YtgkgkpoeiojmeaaDoor.V
/- What holds of all bytes of a string, counted from a place on; the order of strings. -/
namespace Go.Proofs.YtgkgkpoeiojmeaaDoor.V
open Go.RowKit Go.Proofs.YtgkgkpoeiojmeaaDoor.P Go.Proofs.YtgkgkpoeiojmeaaDoorW.PrintWords Go.Proofs.YtgkgkpoeiojmeaaDoorW.PrintMore
/-- All of d bytes from i on. -/
def bAll (P : Int → Bool) (s : ByteArray) : Nat → Nat → Bool
  | 0, _ => true
  | d + 1, i => P (bt s i) && bAll P s d (i + 1)
theorem bAll_iff (P : Int → Bool) (s : ByteArray) : ∀ d i, bAll P s d i = true ↔ ∀ j, i ≤ j → j < i + d → P (bt s (j : Nat)) = true
  | 0, i => by simp [bAll]; intro j h1 h2; omega
  | d + 1, i => by
    simp only [bAll, Bool.and_eq_true, bAll_iff P s d (i + 1)]
    constructor
    · rintro ⟨h1, h2⟩ j h3 h4
      rcases Nat.eq_or_lt_of_le h3 with rfl | h5
      · exact h1
      · exact h2 j (by omega) (by omega)
    · intro h
      exact ⟨h i (Nat.le_refl _) (by omega), fun j h1 h2 => h j (by omega) (by omega)⟩
theorem bt_nat (s : ByteArray) (j : Nat) (h : j < s.size) : bt s (j : Nat) = ((s.data.toList[j]'(by simpa using h)).toNat : Int) := by
  unfold bt
  rw [dif_pos (by simpa using h)]
  rfl
end Go.Proofs.YtgkgkpoeiojmeaaDoor.V
/- Names: what the program's test and the reference's tell. -/
namespace Go.Proofs.YtgkgkpoeiojmeaaDoor.V
open Go.RowKit Go.Proofs.YtgkgkpoeiojmeaaDoor.P Go.Proofs.YtgkgkpoeiojmeaaDoorW.PrintWords Go.Proofs.YtgkgkpoeiojmeaaDoorW.PrintMore
def letB (b : UInt8) : Bool := decide (97 ≤ b.toNat ∧ b.toNat ≤ 122)
/-- A name: one letter to six. -/
def nameB (s : ByteArray) : Bool := decide (1 ≤ s.size) && decide (s.size ≤ 6) && s.data.toList.all letB
def abc : ByteArray := (⟨#[97, 98, 99, 100, 101, 102, 103, 104, 105, 106, 107, 108, 109, 110, 111, 112, 113, 114, 115, 116, 117, 118, 119, 120, 121, 122]⟩ : ByteArray)
theorem abc_eq (b : UInt8) : abc.data.toList.contains b = letB b := by
  have h : ∀ n : Fin 256, abc.data.toList.contains (UInt8.ofNat n.1) = letB (UInt8.ofNat n.1) := by decide +kernel
  have := h ⟨b.toNat, b.toNat_lt⟩
  simpa using this
theorem drop_nil {P : UInt8 → Bool} : ∀ l : List UInt8, l.dropWhile P = [] ↔ l.all P = true
  | [] => by simp
  | x :: l => by
    by_cases h : P x = true
    · simp [List.dropWhile, h, drop_nil l]
    · simp [List.dropWhile, h]
theorem take_all {P : UInt8 → Bool} : ∀ l : List UInt8, (l.takeWhile P).all P = true
  | [] => rfl
  | x :: l => by
    by_cases h : P x = true
    · simp only [List.takeWhile, h, List.all_cons, take_all l, Bool.true_and]
    · simp only [List.takeWhile, h]; rfl
theorem size_list (s : ByteArray) : s.size = s.data.toList.length := by rw [Array.length_toList]; rfl
theorem trim_nil (l cs : List UInt8) : Lib.trimS l cs = [] ↔ l.all (fun b => cs.contains b) = true := by
  unfold Lib.trimS Lib.trimLeftS Lib.trimRightS
  rw [drop_nil, List.all_reverse]
  constructor
  · intro h
    have e := List.takeWhile_append_dropWhile (p := fun b => cs.contains b) (l := l.reverse)
    have h2 : l.reverse.all (fun b => cs.contains b) = true := by
      rw [← e, List.all_append, Bool.and_eq_true]
      exact ⟨take_all _, h⟩
    rwa [List.all_reverse] at h2
  · intro h
    have h2 : l.reverse.all (fun b => cs.contains b) = true := by rwa [List.all_reverse]
    rw [(drop_nil l.reverse).2 h2]
    rfl
theorem isName_eq (s : ByteArray) : impl_isName.f s = some (nameB s) := by
  unfold impl_isName.f nameB
  by_cases h1 : 1 ≤ s.size
  · rw [if_pos (by omega)]
    by_cases h2 : s.size ≤ 6
    · rw [if_pos (by omega)]
      unfold strings_Trim.f
      rw [if_pos ⟨by omega, by decide +kernel, by decide +kernel⟩]
      simp only [Option.bind_some, Option.some.injEq]
      rw [decide_eq_true h1, decide_eq_true h2, Bool.true_and, Bool.true_and]
      have e : (⟨(Lib.trimS s.data.toList abc.data.toList).toArray⟩ : ByteArray).toList = Lib.trimS s.data.toList abc.data.toList := by rw [ByteArray.toList_eq]
      show ((⟨(Lib.trimS s.data.toList abc.data.toList).toArray⟩ : ByteArray).toList == []) = _
      rw [e, Bool.eq_iff_iff, beq_iff_eq, trim_nil]
      simp only [abc_eq]
    · rw [if_neg (by omega), decide_eq_false h2]; simp
  · rw [if_neg (by omega), decide_eq_false h1]; simp
theorem sNameOk_l0 : ∀ (suf pre : List UInt8) (s : ByteArray) (k : Nat), s.data.toList = pre ++ suf → s.size ≤ 9223372036854775806 → suf.length < k →
    spec_NameOk.l0 k s (pre.length : Int) = some (suf.all letB && decide (1 ≤ s.size) && decide (s.size ≤ 6)) := by
  intro suf
  induction suf with
  | nil =>
    intro pre s k he hs hk
    obtain ⟨k, rfl⟩ := succ_of hk
    have hz : s.size = pre.length := by rw [size_list, he]; simp
    rw [spec_NameOk.l0, if_neg (by omega)]
    unfold spec_l1In.f
    by_cases h1 : 1 ≤ s.size
    · rw [if_pos (by omega), decide_eq_true h1]
      simp only [List.all_nil, Bool.true_and, Option.bind_some]
      congr 1
      rw [decide_eq_decide]
      omega
    · rw [if_neg (by omega), decide_eq_false h1]; rfl
  | cons x suf ih =>
    intro pre s k he hs hk
    obtain ⟨k, rfl⟩ := succ_of hk
    have hz : s.size = pre.length + (suf.length + 1) := by rw [size_list, he]; simp
    have hb : bt s (pre.length : Int) = (x.toNat : Int) := by
      rw [bt_nat s pre.length (by omega)]
      congr 2
      simp [he]
    have hn := ih (pre ++ [x]) s k (by simp [he]) hs (by simpa using hk)
    rw [spec_NameOk.l0, if_pos (by omega), if_pos (by omega), hb, wrap_id (by omega) (by omega)]
    have e : ((pre.length : Int) + 1) = ((pre ++ [x]).length : Int) := by simp
    rw [e, hn]
    by_cases h1 : (x.toNat : Int) < 97
    · rw [if_pos h1]
      have : letB x = false := by unfold letB; rw [decide_eq_false (by omega)]
      simp [this]
    · rw [if_neg h1]
      by_cases h2 : (x.toNat : Int) > 122
      · rw [if_pos h2]
        have : letB x = false := by unfold letB; rw [decide_eq_false (by omega)]
        simp [this]
      · rw [if_neg h2]
        have : letB x = true := by unfold letB; rw [decide_eq_true (by omega)]
        simp [this]
theorem sNameOk_eq (s : ByteArray) (k : Nat) (hs : s.size ≤ 9223372036854775806) (hk : s.size < k) : spec_NameOk.f k s = some (nameB s) := by
  unfold spec_NameOk.f
  have := sNameOk_l0 s.data.toList [] s k rfl hs (by rw [← size_list]; exact hk)
  rw [show ((([] : List UInt8).length : Nat) : Int) = 0 from rfl] at this
  rw [this, nameB]
  congr 1
  ac_rfl
end Go.Proofs.YtgkgkpoeiojmeaaDoor.V
/- Texts of things: the program's test and the reference's. -/
namespace Go.Proofs.YtgkgkpoeiojmeaaDoor.V
open Go.RowKit Go.Proofs.YtgkgkpoeiojmeaaDoor.P Go.Proofs.YtgkgkpoeiojmeaaDoorW.PrintWords Go.Proofs.YtgkgkpoeiojmeaaDoorW.PrintMore
theorem l1In_eq (a b c : Int) : spec_l1In.f a b c = some (decide (b ≤ a ∧ a ≤ c)) := by
  unfold spec_l1In.f
  by_cases h : a ≥ b
  · rw [if_pos h]; simp [show b ≤ a from h]
  · rw [if_neg h]; simp [show ¬ b ≤ a from h]
def VB (b : Int) : Bool := decide (32 ≤ b) && decide (b ≤ 126)
def valOk (s : ByteArray) : Bool := bAll VB s s.size 0 && decide (s.size ≤ 80)
theorem l4Value_l0 : ∀ (d i : Nat) (s : ByteArray) (k : Nat), i + d = s.size → d < k → s.size ≤ 4611686018427387904 → spec_l4Value.l0 k s (i : Int) = some (bAll VB s d i && decide (s.size ≤ 80)) := by
  intro d
  induction d with
  | zero =>
    intro i s k hi hk hb
    obtain ⟨k, rfl⟩ := succ_of hk
    rw [spec_l4Value.l0, if_neg (by omega)]
    simp only [bAll, Bool.true_and]
    congr 1
    exact decide_eq_decide.2 (by omega)
  | succ d ih =>
    intro i s k hi hk hb
    obtain ⟨k, rfl⟩ := succ_of hk
    rw [spec_l4Value.l0, if_pos (by omega), if_pos (nat_le0 _), bAll]
    have hr : -9223372036854775808 ≤ (i : Int) + 1 := by omega
    by_cases h1 : bt s i < 32
    · rw [if_pos h1]; simp [VB, show ¬ 32 ≤ bt s i by omega]
    · rw [if_neg h1]
      by_cases h2 : bt s i > 126
      · rw [if_pos h2]; simp [VB, show ¬ bt s i ≤ 126 by omega]
      · rw [if_neg h2, wrap_id hr (by omega), show (i : Int) + 1 = ((i + 1 : Nat) : Int) by omega, ih (i + 1) s k (by omega) (by omega) hb]
        simp [VB, show 32 ≤ bt s i by omega, show bt s i ≤ 126 by omega]
theorem l4Value_eq (s : ByteArray) (k : Nat) (hk : s.size < k) (hb : s.size ≤ 4611686018427387904) : spec_l4Value.f k s = some (valOk s) := l4Value_l0 s.size 0 s k (by omega) hk hb
theorem isBetween_l0 : ∀ (d i : Nat) (s : ByteArray) (lo hi : Int) (k : Nat), i + d = s.size → d < k → s.size ≤ 4611686018427387904 → impl_isBetween.l0 k s lo hi (s.size : Int) (i : Int) = some (bAll (fun b => decide (lo ≤ b) && decide (b ≤ hi)) s d i) := by
  intro d
  induction d with
  | zero =>
    intro i s lo hi k hi' hk hb
    obtain ⟨k, rfl⟩ := succ_of hk
    rw [impl_isBetween.l0, if_neg (by omega)]; rfl
  | succ d ih =>
    intro i s lo hi k hi' hk hb
    obtain ⟨k, rfl⟩ := succ_of hk
    rw [impl_isBetween.l0, if_pos (by omega), if_pos (nat_le0 _), if_pos (by omega), bAll]
    by_cases h1 : bt s i < lo
    · rw [if_pos h1]; simp [show ¬ lo ≤ bt s i by omega]
    · rw [if_neg h1]
      by_cases h2 : bt s i > hi
      · rw [if_pos h2]; simp [show ¬ bt s i ≤ hi by omega]
      · rw [if_neg h2, wrap_id (by omega) (by omega), show (i : Int) + 1 = ((i + 1 : Nat) : Int) by omega, ih (i + 1) s lo hi k (by omega) (by omega) hb]
        simp [show lo ≤ bt s i by omega, show bt s i ≤ hi by omega]
theorem isBetween_eq (s : ByteArray) (lo hi : Int) (k : Nat) (hk : s.size < k) (hb : s.size ≤ 4611686018427387904) : impl_isBetween.f k s lo hi = some (bAll (fun b => decide (lo ≤ b) && decide (b ≤ hi)) s s.size 0) := isBetween_l0 s.size 0 s lo hi k (by omega) hk hb
def bodyB (s : ByteArray) : Bool := bAll VB s s.size 0 && decide (s.size ≤ 40)
theorem isBody_eq (s : ByteArray) (k : Nat) (hk : s.size < k) (hb : s.size ≤ 4611686018427387904) : impl_isBody.f k s = some (bodyB s) := by
  unfold impl_isBody.f bodyB
  by_cases h : s.size ≤ 40
  · rw [if_pos (by omega), isBetween_eq s 32 126 k hk hb, Option.bind_some, decide_eq_true h, Bool.and_true]
    rfl
  · rw [if_neg (by omega), decide_eq_false h, Bool.and_false]
theorem l7Body_eq (s : ByteArray) (k : Nat) (hk : s.size < k) (hb : s.size ≤ 4611686018427387904) : spec_l7Body.f k s = some (bodyB s) := by
  unfold spec_l7Body.f bodyB
  rw [l4Value_eq s k hk hb, Option.bind_some]
  unfold valOk
  by_cases h : bAll VB s s.size 0 = true
  · rw [h]
    by_cases h2 : s.size ≤ 80
    · rw [if_pos (by simp [h2])]
      simp only [Bool.true_and]
      congr 1
      exact decide_eq_decide.2 (by omega)
    · rw [if_neg (by simp [h2]), decide_eq_false (by omega)]; rfl
  · rw [Bool.eq_false_iff.2 h, if_neg (by simp)]; rfl
end Go.Proofs.YtgkgkpoeiojmeaaDoor.V
/- When things are ok. -/
namespace Go.Proofs.YtgkgkpoeiojmeaaDoor.V
open Go.RowKit Go.Proofs.YtgkgkpoeiojmeaaDoor.P Go.Proofs.YtgkgkpoeiojmeaaDoorW.PrintWords Go.Proofs.YtgkgkpoeiojmeaaDoorW.PrintMore
def mGo : Option ByteArray → List ByteArray → Bool
  | _, [] => true
  | none, x :: l => nameB x && mGo (some x) l
  | some p, x :: l => nameB x && Op.bytesLess p.toList x.toList && mGo (some x) l
theorem last_rd {pre suf : List ByteArray} {y : ByteArray} : rdOf ByteArray.empty ((pre ++ [y]) ++ suf) (((pre ++ [y]).length : Int) - 1) = y := by
  have : (((pre ++ [y]).length : Int) - 1) = (pre.length : Int) := by simp
  rw [this, List.append_assoc]
  exact rdOf_mid _
theorem l7Marks_l0 : ∀ (suf pre : List ByteArray) (k N : Nat), N + suf.length + 1 < k → (∀ s ∈ suf, s.size < N ∧ s.size ≤ 4611686018427387904) → (pre ++ suf).length ≤ 4611686018427387904 →
    spec_l7Marks.l0 k (pre ++ suf) (pre.length : Int) = some (mGo pre.getLast? suf && decide ((pre ++ suf).length ≤ 2)) := by
  intro suf
  induction suf with
  | nil =>
    intro pre k N hk hs hb
    obtain ⟨k, rfl⟩ := succ_of hk
    rw [spec_l7Marks.l0, if_neg end_not_lt]
    have : mGo pre.getLast? [] = true := by cases pre.getLast? <;> rfl
    rw [this, Bool.true_and]
    congr 1
    exact decide_eq_decide.2 (by omega)
  | cons x suf ih =>
    intro pre k N hk hs hb
    obtain ⟨k, rfl⟩ := succ_of hk
    have hx := hs x (by simp)
    have hlen : pre.length < 4611686018427387904 := by simp at hb; omega
    have hn := ih (pre ++ [x]) k N (by simp at hk; omega) (fun s h => hs s (by simp [h])) (by simpa using hb)
    rw [← snoc_app] at hn
    rw [List.getLast?_concat] at hn
    rw [spec_l7Marks.l0, if_pos mid_lt, if_pos (nat_le0 _), rdOf_mid, sNameOk_eq x k (by omega) (by omega), Option.bind_some, wrap_snoc (x := x) (by omega), hn]
    rcases List.eq_nil_or_concat pre with rfl | ⟨pre', y, rfl⟩
    · cases h : nameB x
      · simp [mGo, h]
      · rw [if_pos rfl, if_neg (by simp)]
        simp [mGo, h]
    · rw [List.concat_eq_append] at *
      cases h : nameB x
      · rw [if_neg (by simp), List.getLast?_concat]; simp [mGo, h]
      · have hp : 0 < (pre' ++ [y]).length := by simp
        rw [if_pos rfl, if_pos (by omega), wrap_id (i := ((pre' ++ [y]).length : Int) - 1) (by omega) (by omega), if_pos (by omega), if_pos (by have := mid_lt (pre := pre' ++ [y]) (suf := suf) (x := x); omega), last_rd, List.getLast?_concat]
        cases h2 : Op.bytesLess y.toList x.toList
        · rw [if_neg (by simp)]; simp [mGo, h, h2]
        · rw [if_pos rfl]; simp [mGo, h, h2]
/-- A thing is ok. -/
def tOk (a b : ByteArray) (u r : Int) (g : Bool) (l : List ByteArray) (d : ByteArray) : Bool := nameB a && nameB b && decide (1 ≤ u ∧ u ≤ 99999) && decide (1 ≤ r ∧ r ≤ 99999) && (mGo none l && decide (l.length ≤ 2)) && bodyB d && (!g || decide (0 < l.length))
theorem sThingOk_eq (a b : ByteArray) (u r : Int) (g : Bool) (l : List ByteArray) (d : ByteArray) (k N : Nat) (hk : N + l.length + 1 < k) (ha : a.size < N) (hb : b.size < N) (hl : ∀ s ∈ l, s.size < N) (hd : d.size < N) (hN : N ≤ 4611686018427387904) (hll : l.length ≤ 4611686018427387904) :
    spec_ThingOk.f k a b u r g l d = some (tOk a b u r g l d) := by
  have hm := l7Marks_l0 l [] k N (by omega) (fun s h => ⟨hl s h, by have := hl s h; omega⟩) (by simpa using hll)
  rw [List.nil_append, show ((([] : List ByteArray).length : Nat) : Int) = 0 from rfl] at hm
  unfold spec_ThingOk.f tOk
  rw [sNameOk_eq a k (by omega) (by omega), Option.bind_some, sNameOk_eq b k (by omega) (by omega), Option.bind_some, l1In_eq, l1In_eq, Option.bind_some, Option.bind_some]
  unfold spec_l7Marks.f
  rw [hm, Option.bind_some, l7Body_eq d k (by omega) (by omega), Option.bind_some]
  show _ = some (nameB a && nameB b && decide (1 ≤ u ∧ u ≤ 99999) && decide (1 ≤ r ∧ r ≤ 99999) && (mGo ([] : List ByteArray).getLast? l && decide (l.length ≤ 2)) && bodyB d && (!g || decide (0 < l.length)))
  cases nameB a
  · rfl
  cases nameB b
  · rfl
  cases h1 : decide (1 ≤ u ∧ u ≤ 99999)
  · rfl
  cases h2 : decide (1 ≤ r ∧ r ≤ 99999)
  · rfl
  cases h3 : (mGo ([] : List ByteArray).getLast? l && decide (l.length ≤ 2))
  · rfl
  cases bodyB d
  · rfl
  cases g
  · rfl
  · simp only [if_true, Bool.true_and, Bool.not_true, Bool.false_or]
    congr 1
    exact decide_eq_decide.2 (by omega)
theorem isThing_l0 (a b : ByteArray) (u r : Int) (g : Bool) (d : ByteArray) (N : Nat) (hN : N ≤ 4611686018427387904) (ha : a.size < N) (hb : b.size < N) (hd : d.size < N) : ∀ (suf pre : List ByteArray) (k : Nat), N + suf.length + 1 < k → (pre ++ suf).length ≤ 4611686018427387904 →
    impl_isThing.l0 k (pre ++ suf) ((pre ++ suf).length : Int) (pre.length : Int) a b u r g (pre ++ suf) d = some (nameB a && nameB b && decide (1 ≤ u ∧ u ≤ 99999) && decide (1 ≤ r ∧ r ≤ 99999) && (mGo pre.getLast? suf && decide ((pre ++ suf).length ≤ 2)) && bodyB d && (!g || decide (0 < (pre ++ suf).length))) := by
  intro suf
  induction suf with
  | nil =>
    intro pre k hk hl
    obtain ⟨k, rfl⟩ := succ_of hk
    rw [impl_isThing.l0, if_neg (by simp), isName_eq, Option.bind_some, isName_eq, Option.bind_some, isBody_eq d k (by omega) (by omega)]
    simp only [Option.bind_some]
    have : mGo pre.getLast? [] = true := by cases pre.getLast? <;> rfl
    rw [this, Bool.true_and, List.append_nil] at *
    generalize pre.length = n at *
    cases nameB a
    · rfl
    cases nameB b
    · rfl
    by_cases h3 : n ≤ 2
    · rw [if_pos rfl, if_pos rfl, if_neg (by omega), decide_eq_true h3]
      by_cases h1 : 1 ≤ u ∧ u ≤ 99999
      · rw [if_pos h1.1, if_pos h1.2, decide_eq_true h1]
        by_cases h2 : 1 ≤ r ∧ r ≤ 99999
        · rw [if_pos h2.1, if_pos h2.2, decide_eq_true h2]
          cases g
          · simp
          · by_cases h4 : 0 < n
            · rw [if_pos rfl, if_neg (by omega), decide_eq_true h4]; simp
            · rw [if_pos rfl, if_pos (by omega), decide_eq_false h4]; simp
        · rw [decide_eq_false h2]
          by_cases h5 : r ≥ 1
          · rw [if_pos h5, if_neg (fun h => h2 ⟨h5, h⟩)]; simp
          · rw [if_neg h5]; simp
      · rw [decide_eq_false h1]
        by_cases h5 : u ≥ 1
        · rw [if_pos h5, if_neg (fun h => h1 ⟨h5, h⟩)]; simp
        · rw [if_neg h5]; simp
    · rw [if_pos rfl, if_pos rfl, if_pos (by omega), decide_eq_false h3]; simp
  | cons x suf ih =>
    intro pre k hk hl
    obtain ⟨k, rfl⟩ := succ_of hk
    have hlen : pre.length < 4611686018427387904 := by simp at hl; omega
    have hn := ih (pre ++ [x]) k (by simp at hk; omega) (by simpa using hl)
    rw [← snoc_app, List.getLast?_concat] at hn
    rw [impl_isThing.l0, if_pos mid_lt, if_pos (nat_le0 _), if_pos mid_lt, rdOf_mid, isName_eq, Option.bind_some, wrap_snoc (x := x) (by omega), hn]
    rcases List.eq_nil_or_concat pre with rfl | ⟨pre', y, rfl⟩
    · cases h : nameB x
      · simp [mGo, h]
      · rw [if_pos rfl, if_neg (by simp)]
        simp [mGo, h]
    · rw [List.concat_eq_append] at *
      cases h : nameB x
      · rw [if_neg (by simp), List.getLast?_concat]; simp [mGo, h]
      · have hp : 0 < (pre' ++ [y]).length := by simp
        rw [if_pos rfl, if_pos (by omega), wrap_id (i := ((pre' ++ [y]).length : Int) - 1) (by omega) (by omega), if_pos (by omega), if_pos (by have := mid_lt (pre := pre' ++ [y]) (suf := suf) (x := x); omega), last_rd, List.getLast?_concat]
        cases h2 : Op.bytesLess y.toList x.toList
        · rw [if_neg (by simp)]; simp [mGo, h, h2]
        · rw [if_pos rfl]; simp [mGo, h, h2]
theorem isThing_eq (a b : ByteArray) (u r : Int) (g : Bool) (l : List ByteArray) (d : ByteArray) (k N : Nat) (hk : N + l.length + 1 < k) (ha : a.size < N) (hb : b.size < N) (hd : d.size < N) (hN : N ≤ 4611686018427387904) (hll : l.length ≤ 4611686018427387904) :
    impl_isThing.f k a b u r g l d = some (tOk a b u r g l d) := by
  have := isThing_l0 a b u r g d N hN ha hb hd l [] k hk (by simpa using hll)
  rw [List.nil_append, show ((([] : List ByteArray).length : Nat) : Int) = 0 from rfl] at this
  unfold impl_isThing.f
  rw [this]; rfl
theorem ThingOk_eq (a b : ByteArray) (u r : Int) (g : Bool) (l : List ByteArray) (d : ByteArray) (k N : Nat) (hk : N + l.length + 1 < k) (ha : a.size < N) (hb : b.size < N) (hd : d.size < N) (hN : N ≤ 4611686018427387904) (hll : l.length ≤ 4611686018427387904) :
    impl_ThingOk.f k a b u r g l d = some (tOk a b u r g l d) := by
  unfold impl_ThingOk.f
  rw [isThing_eq a b u r g l d k N hk ha hb hd hN hll]; rfl
end Go.Proofs.YtgkgkpoeiojmeaaDoor.V
/- Drawn things: always one, and small. -/
namespace Go.Proofs.YtgkgkpoeiojmeaaDoor.V
open Go.RowKit Go.Proofs.YtgkgkpoeiojmeaaDoor.P Go.Proofs.YtgkgkpoeiojmeaaDoorW.PrintWords Go.Proofs.YtgkgkpoeiojmeaaDoorW.PrintMore
def SzL (n : Nat) (l : List ByteArray) : Prop := l.length ≤ n ∧ ∀ x ∈ l, x.size ≤ 100
theorem put_inL {l : List ByteArray} {n : Nat} (x : ByteArray) (i : Nat) (hi : i ≤ l.length) (hl : SzL n l) (hx : x.size ≤ 100) : SzL (n + 1) (([] ++ l.take i ++ [x]) ++ l.drop i) := by
  refine ⟨by have := hl.1; simp; omega, fun y hy => ?_⟩
  rw [List.nil_append] at hy
  rcases List.mem_append.1 hy with hy | hy
  · rcases List.mem_append.1 hy with hy | hy
    · exact hl.2 y (List.mem_of_mem_take hy)
    · rw [List.mem_singleton.1 hy]; exact hx
  · exact hl.2 y (List.mem_of_mem_drop hy)
theorem mark_l0 (x : ByteArray) (hx : x.size ≤ 100) (n : Nat) (hn : n ≤ 100) (l : List ByteArray) (hl : SzL n l) : ∀ (d i : Nat) (k : Nat), i + d = l.length → d < k → ∃ r, spec_l13Mark.l0 k l x (i : Int) = some r ∧ SzL (n + 1) r := by
  have hll := hl.1
  intro d
  induction d with
  | zero =>
    intro i k hi hk
    obtain ⟨k, rfl⟩ := succ_of hk
    have e : ((i : Int)).toNat = i := by omega
    rw [spec_l13Mark.l0, if_neg (by omega)]
    simp only [Option.bind_some, e]
    rw [if_pos (by omega), if_pos (by omega), if_pos (by simp; omega), if_pos (by simp; omega), if_pos (by simp; omega)]
    exact ⟨_, rfl, put_inL x i (by omega) hl hx⟩
  | succ d ih =>
    intro i k hi hk
    obtain ⟨k, rfl⟩ := succ_of hk
    have e : ((i : Int)).toNat = i := by omega
    rw [spec_l13Mark.l0, if_pos (by omega), if_pos (by omega)]
    simp only [Option.bind_some, e]
    by_cases hb : Op.bytesLess ((rdOf ByteArray.empty l (i : Int)).toList) x.toList = true
    · rw [if_pos hb, wrap_id (by omega) (by omega)]
      exact ih (i + 1) k (by omega) (by omega)
    · rw [if_neg hb]
      by_cases h2 : (rdOf ByteArray.empty l (i : Int)).toList = x.toList
      · rw [if_pos h2]
        exact ⟨l, rfl, by omega, hl.2⟩
      · rw [if_neg h2, if_pos (by omega), if_pos (by simp; omega), if_pos (by simp; omega), if_pos (by simp; omega)]
        exact ⟨_, rfl, put_inL x i (by omega) hl hx⟩
section
variable {s : List Int}
theorem thing_l0 (hu : U8 s) (hs : s.length ≤ 2000) (a b : ByteArray) (u r : Int) (d : ByteArray) : ∀ (n : Nat) (l : List ByteArray) (q : Int) (k : Nat), n ≤ 10 → SzL (20 - n) l → 0 ≤ q → q + n ≤ 900 → 40 + n < k → ∃ g l' q', spec_l13Thing.l0 k (n : Int) s q a b u r false l d = some (a, b, u, r, g, l', d, q') ∧ SzL 20 l' ∧ 0 ≤ q' ∧ q' ≤ q + n + 1 := by
  intro n
  induction n with
  | zero =>
    intro l q k hn hl q0 q1 hk
    obtain ⟨k, rfl⟩ := succ_of hk
    rw [spec_l13Thing.l0, if_neg (by omega)]
    by_cases h : (l.length : Int) > 0
    · obtain ⟨v, e, a1, b1⟩ := pick_eq (s := s) (q := q) (n := 3) (k := k) hu hs q0 (by omega) (by omega) (by omega)
      rw [if_pos h, e, Option.bind_some]
      exact ⟨_, _, _, rfl, hl, by omega, by omega⟩
    · rw [if_neg h]
      exact ⟨_, _, _, rfl, hl, by omega, by omega⟩
  | succ n ih =>
    intro l q k hn hl q0 q1 hk
    obtain ⟨k, rfl⟩ := succ_of hk
    obtain ⟨o, eo, mo⟩ := of_eq (s := s) (q := q) (k := k) (l := ([(⟨#[107]⟩ : ByteArray), (⟨#[108]⟩ : ByteArray), (⟨#[109]⟩ : ByteArray)] : List ByteArray)) hu hs q0 (by omega) (by simp) (by omega)
    have ho : o.size ≤ 100 := by
      simp only [List.mem_cons, List.not_mem_nil, or_false] at mo
      rcases mo with rfl | rfl | rfl <;> decide
    have hll := hl.1
    obtain ⟨l2, e2, h2⟩ := mark_l0 o ho (20 - (n + 1)) (by omega) l hl l.length 0 k (by omega) (by omega)
    have e2' : spec_l13Mark.f k l o = some l2 := e2
    have wn : wrap64 (((n + 1 : Nat) : Int) - 1) = (n : Int) := by rw [wrap_id (by omega) (by omega)]; omega
    rw [spec_l13Thing.l0, if_pos (by omega), eo, Option.bind_some, e2', Option.bind_some, wn]
    obtain ⟨g, l', q', er, r1, r2, r3⟩ := ih l2 (q + 1) k (by omega) ⟨by have := h2.1; omega, h2.2⟩ (by omega) (by omega) (by omega)
    exact ⟨g, l', q', er, r1, r2, by omega⟩
/-- A thing whose parts are small. -/
def SmT (a b : ByteArray) (l : List ByteArray) (d : ByteArray) : Prop := a.size ≤ 100 ∧ b.size ≤ 100 ∧ SzL 20 l ∧ d.size ≤ 100
theorem thing_eq (hu : U8 s) (hs : s.length ≤ 2000) {k : Nat} (hk : 100 < k) : ∃ a b u r g l d q, spec_l13Thing.f k s 0 = some (a, b, u, r, g, l, d, q) ∧ SmT a b l d ∧ 0 ≤ q ∧ q ≤ 50 := by
  obtain ⟨a, e1, m1⟩ := of_eq (s := s) (q := 0) (k := k) (l := ([(⟨#[97, 108, 108]⟩ : ByteArray), (⟨#[97]⟩ : ByteArray), (⟨#[98]⟩ : ByteArray)] : List ByteArray)) hu hs (by omega) (by omega) (by simp) (by omega)
  obtain ⟨b, e2, m2⟩ := of_eq (s := s) (q := 0 + 1) (k := k) (l := ([(⟨#[97]⟩ : ByteArray), (⟨#[98]⟩ : ByteArray), (⟨#[97, 98]⟩ : ByteArray), (⟨#[99]⟩ : ByteArray)] : List ByteArray)) hu hs (by omega) (by omega) (by simp) (by omega)
  obtain ⟨v3, e3, a3, b3⟩ := pick_eq (s := s) (q := 0 + 1 + 1) (n := 9) (k := k) hu hs (by omega) (by omega) (by omega) (by omega)
  obtain ⟨v4, e4, a4, b4⟩ := pick_eq (s := s) (q := 0 + 1 + 1 + 1) (n := 20) (k := k) hu hs (by omega) (by omega) (by omega) (by omega)
  obtain ⟨d, e5, m5⟩ := of_eq (s := s) (q := 0 + 1 + 1 + 1 + 1) (k := k) (l := ([(⟨#[]⟩ : ByteArray), (⟨#[98, 111, 100, 121]⟩ : ByteArray), (⟨#[97, 32, 108, 111, 110, 103, 101, 114, 32, 98, 111, 100, 121]⟩ : ByteArray), (⟨#[32]⟩ : ByteArray)] : List ByteArray)) hu hs (by omega) (by omega) (by simp) (by omega)
  obtain ⟨v6, e6, a6, b6⟩ := pick_eq (s := s) (q := 0 + 1 + 1 + 1 + 1 + 1) (n := 3) (k := k) hu hs (by omega) (by omega) (by omega) (by omega)
  obtain ⟨n, rfl⟩ : ∃ n : Nat, v6 = n := ⟨v6.toNat, by omega⟩
  have ha : a.size ≤ 100 := by
    simp only [List.mem_cons, List.not_mem_nil, or_false] at m1
    rcases m1 with rfl | rfl | rfl <;> decide
  have hb : b.size ≤ 100 := by
    simp only [List.mem_cons, List.not_mem_nil, or_false] at m2
    rcases m2 with rfl | rfl | rfl | rfl <;> decide
  have hd : d.size ≤ 100 := by
    simp only [List.mem_cons, List.not_mem_nil, or_false] at m5
    rcases m5 with rfl | rfl | rfl | rfl <;> decide
  obtain ⟨g, l', q', er, r1, r2, r3⟩ := thing_l0 hu hs a b (wrap64 (1 + v3)) (wrap64 (1 + v4)) d n [] (0 + 1 + 1 + 1 + 1 + 1 + 1) k (by omega) ⟨by simp, fun x hx => by cases hx⟩ (by omega) (by omega) (by omega)
  refine ⟨a, b, wrap64 (1 + v3), wrap64 (1 + v4), g, l', d, q', ?_, ⟨ha, hb, r1, hd⟩, r2, by omega⟩
  unfold spec_l13Thing.f
  rw [e1]
  simp only [Option.bind_some, spec_l13Names.f, e2, e3, e4, e5, e6]
  exact er
theorem anyThing_eq (hu : U8 s) (hs : s.length ≤ 2000) {k : Nat} (hk : 100 < k) : ∃ a b u r g l d q, spec_l13AnyThing.f k s 0 = some (a, b, u, r, g, l, d, q) ∧ SmT a b l d := by
  obtain ⟨a, b, u, r, g, l, d, q, e, ⟨h1, h2, h3, h4⟩, q0, q1⟩ := thing_eq hu hs hk
  obtain ⟨v, ev, va, vb⟩ := pick_eq (s := s) (q := q) (n := 20) (k := k) hu hs q0 (by omega) (by omega) (by omega)
  unfold spec_l13AnyThing.f
  rw [e]
  simp only [Option.bind_some, ev]
  by_cases c0 : v = 0
  · obtain ⟨w, ew, wa, wb⟩ := pick_eq (s := s) (q := q + 1) (n := 2) (k := k) hu hs (by omega) (by omega) (by omega) (by omega)
    rw [if_pos c0, ew, Option.bind_some, if_pos wa, if_pos (by simp; omega)]
    exact ⟨_, _, _, _, _, _, _, _, rfl, h1, h2, h3, h4⟩
  rw [if_neg c0]
  by_cases c1 : v = 1
  · obtain ⟨o, eo, mo⟩ := of_eq (s := s) (q := q + 1) (k := k) (l := ([(⟨#[]⟩ : ByteArray), (⟨#[65]⟩ : ByteArray), (⟨#[116, 111, 111, 108, 111, 110, 103]⟩ : ByteArray)] : List ByteArray)) hu hs (by omega) (by omega) (by simp) (by omega)
    have ho : o.size ≤ 100 := by
      simp only [List.mem_cons, List.not_mem_nil, or_false] at mo
      rcases mo with rfl | rfl | rfl <;> decide
    rw [if_pos c1, eo, Option.bind_some]
    exact ⟨_, _, _, _, _, _, _, _, rfl, h1, ho, h3, h4⟩
  rw [if_neg c1]
  by_cases c2 : v = 2
  · rw [if_pos c2]
    refine ⟨_, _, _, _, _, _, _, _, rfl, h1, h2, ⟨by simp, fun x hx => ?_⟩, h4⟩
    simp only [List.mem_cons, List.not_mem_nil, or_false] at hx
    rcases hx with rfl | rfl <;> decide
  rw [if_neg c2]
  by_cases c3 : v = 3
  · obtain ⟨w, ew, wa, wb⟩ := pick_eq (s := s) (q := q + 1) (n := 2) (k := k) hu hs (by omega) (by omega) (by omega) (by omega)
    have hmany : ∃ t, spec_l1Many.f k (⟨#[98]⟩ : ByteArray) 41 = some t ∧ t.size ≤ 100 := by
      obtain ⟨k', rfl⟩ : ∃ k', k = 10 + k' := ⟨k - 10, by omega⟩
      refine ⟨⟨(List.replicate 41 98).toArray⟩, ?_, by decide⟩
      clear hk ev e ew
      induction k' with
      | zero => kernel_rfl
      | succ k' ih => exact spec_l1Many.mono _ _ _ _ ih
    obtain ⟨t, et, ht⟩ := hmany
    have hr : (rdOf ByteArray.empty [(⟨#[10]⟩ : ByteArray), t] w).size ≤ 100 := by
      rcases (show w = 0 ∨ w = 1 by omega) with rfl | rfl
      · show (⟨#[10]⟩ : ByteArray).size ≤ 100
        decide
      · exact ht
    rw [if_pos c3, et, Option.bind_some, ew, Option.bind_some, if_pos wa, if_pos (by simp; omega)]
    exact ⟨_, _, _, _, _, _, _, _, rfl, h1, h2, h3, hr⟩
  rw [if_neg c3]
  by_cases c4 : v = 4
  · rw [if_pos c4]
    exact ⟨_, _, _, _, _, _, _, _, rfl, h1, h2, ⟨by simp, fun x hx => by cases hx⟩, h4⟩
  rw [if_neg c4]
  by_cases c5 : v = 5
  · rw [if_pos c5]
    refine ⟨_, _, _, _, _, _, _, _, rfl, h1, h2, ⟨by simp, fun x hx => ?_⟩, h4⟩
    simp only [List.mem_cons, List.not_mem_nil, or_false] at hx
    rcases hx with rfl | rfl | rfl <;> decide
  rw [if_neg c5]
  by_cases c6 : v = 6
  · rw [if_pos c6]
    exact ⟨_, _, _, _, _, _, _, _, rfl, h1, h2, h3, h4⟩
  rw [if_neg c6]
  exact ⟨_, _, _, _, _, _, _, _, rfl, h1, h2, h3, h4⟩
end
end Go.Proofs.YtgkgkpoeiojmeaaDoor.V
/- The plain statement of FnThingCost. -/
namespace Go.Proofs.YtgkgkpoeiojmeaaDoor.Pure
open Go.RowKit Go.Proofs.YtgkgkpoeiojmeaaDoor.P Go.Proofs.YtgkgkpoeiojmeaaDoor.V Go.Proofs.YtgkgkpoeiojmeaaDoorW.PrintWords Go.Proofs.YtgkgkpoeiojmeaaDoorW.PrintMore
def cost (a b : ByteArray) (u r : Int) (g : Bool) (l : List ByteArray) (d : ByteArray) : Int := if tOk a b u r g l d = true then wrap64 (1 + (d.size : Int)) else 0
theorem Cost_eq (a b : ByteArray) (u r : Int) (g : Bool) (l : List ByteArray) (d : ByteArray) (k : Nat) (h : impl_isThing.f k a b u r g l d = some (tOk a b u r g l d)) : impl_ThingCost.f k a b u r g l d = some (cost a b u r g l d) := by
  unfold impl_ThingCost.f impl_costOf.f cost
  rw [h, Option.bind_some]
  by_cases h1 : tOk a b u r g l d = true
  · rw [if_pos h1, if_pos h1, Option.bind_some]
  · rw [if_neg h1, if_neg h1]
theorem sCost_eq (a b : ByteArray) (u r : Int) (g : Bool) (l : List ByteArray) (d : ByteArray) (k : Nat) (h : spec_ThingOk.f k a b u r g l d = some (tOk a b u r g l d)) : spec_ThingCost.f k a b u r g l d = some (cost a b u r g l d) := by
  unfold spec_ThingCost.f cost
  rw [h, Option.bind_some]
  by_cases h1 : tOk a b u r g l d = true
  · rw [if_pos h1, if_pos h1]
  · rw [if_neg h1, if_neg h1]
theorem body_x {d : ByteArray} (h : bodyB d = true) (hd : d.size + 1 ≤ 40) : bodyB (d ++ (⟨#[120]⟩ : ByteArray)) = true := by
  unfold bodyB at h ⊢
  simp only [Bool.and_eq_true, decide_eq_true_eq] at h ⊢
  have hs : (d ++ (⟨#[120]⟩ : ByteArray)).size = d.size + 1 := by rw [ByteArray.size_append]; rfl
  refine ⟨?_, by omega⟩
  rw [bAll_iff] at h ⊢
  intro j _ hj
  rw [hs] at hj
  rw [bt_nat _ j (by omega)]
  by_cases hlt : j < d.size
  · have h2 := h.1 j (by omega) (by omega)
    rw [bt_nat d j hlt] at h2
    have e : ((d ++ (⟨#[120]⟩ : ByteArray)).data.toList[j]'(by rw [← size_list]; omega)) = (d.data.toList[j]'(by rw [← size_list]; omega)) := by
      simp only [ByteArray.data_append, Array.toList_append]
      exact List.getElem_append_left _
    rw [e]; exact h2
  · obtain rfl : j = d.size := by omega
    have e : ((d ++ (⟨#[120]⟩ : ByteArray)).data.toList[d.size]'(by rw [← size_list]; omega)) = 120 := by
      have hz := size_list d
      simp only [ByteArray.data_append, Array.toList_append]
      rw [List.getElem_append_right (by omega)]
      simp only [hz, Nat.sub_self]
      rfl
    rw [e]; decide
theorem tOk_x {a b : ByteArray} {u r : Int} {g : Bool} {l : List ByteArray} {d : ByteArray} (h : tOk a b u r g l d = true) (hd : d.size + 1 ≤ 40) : tOk a b u r g l (d ++ (⟨#[120]⟩ : ByteArray)) = true := by
  unfold tOk at h ⊢
  simp only [Bool.and_eq_true] at h ⊢
  exact ⟨⟨h.1.1, body_x h.1.2 hd⟩, h.2⟩
theorem FnThingCost : laws_FnThingCost.Pure := by
  intro n hn
  obtain ⟨K, hK⟩ : ∃ K, K = 1060000 := ⟨_, rfl⟩
  refine ⟨K + 1, ?_⟩
  unfold laws_FnThingCost.f
  by_cases hc : (n.length : Int) > 1048576
  · rw [if_pos hc]
  rw [if_neg hc]
  obtain ⟨s, hs, hu, hl⟩ := open_eq (U8_of hn.2)
  obtain ⟨a, b, u, r, g, l, d, q, e, h1, h2, h3, h4⟩ := anyThing_eq (s := s) (k := K + 1) hu hl (by omega)
  have hd : spec_DrawThingCost.f (K + 1) n = some (a, b, u, r, g, l, d) := by
    unfold spec_DrawThingCost.f
    simp only [hs, Option.bind_some, e]
  have hll := h3.1
  have t1 : ∀ (k : Nat) (d : ByteArray), 400 < k → d.size ≤ 101 → impl_isThing.f k a b u r g l d = some (tOk a b u r g l d) := fun k d hk hd => isThing_eq a b u r g l d k 102 (by omega) (by omega) (by omega) (by omega) (by omega) (by omega)
  have t2 : ∀ (k : Nat), 400 < k → spec_ThingOk.f k a b u r g l d = some (tOk a b u r g l d) := fun k hk => sThingOk_eq a b u r g l d k 102 (by omega) (by omega) (by omega) (fun x hx => by have := h3.2 x hx; omega) (by omega) (by omega) (by omega)
  have t3 : impl_ThingOk.f (K + 1) a b u r g l d = some (tOk a b u r g l d) := ThingOk_eq a b u r g l d (K + 1) 102 (by omega) (by omega) (by omega) (by omega) (by omega) (by omega)
  rw [hd, Option.bind_some]
  show ((impl_ThingCost.f (K + 1) a b u r g l d).bind _) = _
  rw [Cost_eq a b u r g l d (K + 1) (t1 _ d (by omega) (by omega)), Option.bind_some]
  show ((spec_ThingCost.f (K + 1) a b u r g l d).bind _) = _
  rw [sCost_eq a b u r g l d (K + 1) (t2 _ (by omega)), Option.bind_some, if_pos rfl]
  show ((impl_ThingOk.f (K + 1) a b u r g l d).bind _) = _
  rw [t3, Option.bind_some]
  show ((spec_ThingOk.f (K + 1) a b u r g l d).bind _) = _
  rw [t2 _ (by omega), Option.bind_some]
  show laws_FnThingCost.j0 (K + 1) (cost a b u r g l d) (tOk a b u r g l d != tOk a b u r g l d) a b u r g l d = _
  rw [bne_self_eq_false, laws_FnThingCost.j0, if_neg (by simp), t2 _ (by omega), Option.bind_some]
  by_cases hok : tOk a b u r g l d = true
  · have hcost : cost a b u r g l d = 1 + (d.size : Int) := by
      unfold cost
      rw [if_pos hok, wrap_id (by omega) (by omega)]
    have hd40 : d.size ≤ 40 := by
      unfold tOk bodyB at hok
      simp only [Bool.and_eq_true, decide_eq_true_eq] at hok
      exact hok.1.2.2
    have hw : laws_wmIn.f (cost a b u r g l d) 1 41 = some true := by
      unfold laws_wmIn.f
      rw [hcost, if_pos (by omega), decide_eq_true (by omega)]
    have hsx : (d ++ (⟨#[120]⟩ : ByteArray)).size = d.size + 1 := by rw [ByteArray.size_append]; rfl
    rw [if_pos hok, if_pos (by omega), hw, Option.bind_some, if_pos rfl, Cost_eq a b u r g l _ K (t1 _ _ (by omega) (by omega)), Option.bind_some]
    by_cases h40 : d.size + 1 ≤ 40
    · have hx := tOk_x hok h40
      have : cost a b u r g l (d ++ (⟨#[120]⟩ : ByteArray)) = wrap64 (cost a b u r g l d + 1) := by
        rw [hcost]
        unfold cost
        rw [if_pos hx, hsx, wrap_id (by omega) (by omega), wrap_id (by omega) (by omega)]
        omega
      rw [if_pos this]
    · by_cases hq : cost a b u r g l (d ++ (⟨#[120]⟩ : ByteArray)) = wrap64 (cost a b u r g l d + 1)
      · rw [if_pos hq]
      · rw [if_neg hq, decide_eq_true (by omega)]
  · have : cost a b u r g l d = 0 := by unfold cost; rw [if_neg hok]
    rw [if_neg hok, this]; rfl
end Go.Proofs.YtgkgkpoeiojmeaaDoor.Pure
