/- The plain statement of the law FnExactReqWrite, proved. -/
import Derived.Test.YtgkgkpoeiojmeaaDoorZFnExactReqWriteW0
import Derived.Test.YtgkgkpoeiojmeaaDoorZFnExactReqWrite0
import Derived.Lib.ItoaLen
import Derived.Test.YtgkgkpoeiojmeaaDoorZFnExactReqWrite1
import Derived.Test.YtgkgkpoeiojmeaaDoorZFnExactReqWrite3
import Derived.Test.YtgkgkpoeiojmeaaDoorZFnExactReqWrite2
import Derived.Lib.ItoaNum
/- Plain lemmas on lists, numbers and strings, for the laws' plain statements. -/
namespace Go.Proofs.YtgkgkpoeiojmeaaDoor.V
open Go.RowKit Go.Proofs.YtgkgkpoeiojmeaaDoorW.PrintWords Go.Proofs.YtgkgkpoeiojmeaaDoorW.PrintMore
theorem succ_of {d k : Nat} (h : d < k) : ∃ m, k = m + 1 := ⟨k - 1, by omega⟩
theorem wrap_id {i : Int} (h : -9223372036854775808 ≤ i) (h' : i ≤ 9223372036854775807) : wrap64 i = i := by unfold wrap64; omega
theorem tl_iff (a b : ByteArray) : a.toList = b.toList ↔ a = b := by
  rw [ByteArray.toList_eq, ByteArray.toList_eq]
  constructor
  · intro h
    cases a; cases b
    simp at h
    simp [h]
  · rintro rfl; rfl
section
variable {α : Type} {pre suf : List α} {x y : α}
end
theorem nat_le0 (n : Nat) : (0 : Int) ≤ (n : Int) := Int.natCast_nonneg n
end Go.Proofs.YtgkgkpoeiojmeaaDoor.V
/- Numerals: the reference's and strconv's. -/
namespace Go.Proofs.YtgkgkpoeiojmeaaDoor.V
open Go.RowKit Go.Proofs.YtgkgkpoeiojmeaaDoor.P Go.Proofs.YtgkgkpoeiojmeaaDoorW.PrintWords Go.Proofs.YtgkgkpoeiojmeaaDoorW.PrintMore
theorem one_num {n : Nat} (h : n < 10) : strOfNums [(wrap64 (48 + (n : Int))) % 256] = (⟨#[UInt8.ofNat (48 + n)]⟩ : ByteArray) := by
  rw [wrap_id (by omega) (by omega)]
  have : (48 + (n : Int)) % 256 = ((48 + n : Nat) : Int) := by omega
  rw [this]
  have h2 : (((48 + n : Nat) : Int)).toNat = 48 + n := by omega
  simp only [strOfNums, List.map_cons, List.map_nil, h2]
theorem dec_size : ∀ (d u : Nat), u < 10 ^ (d + 1) → (Lib.decDigits u).length ≤ d + 1
  | 0, u, h => by rw [Lib.decDigits, dif_pos (by simpa using h)]; simp
  | d + 1, u, h => by
    rw [Lib.decDigits]
    by_cases h1 : u < 10
    · rw [dif_pos h1]; simp
    · rw [dif_neg h1]
      have := dec_size d (u / 10) (by rw [Nat.pow_succ] at h; omega)
      simp; omega
/-- The reference's numeral. -/
theorem l1Dec_eq : ∀ (d k : Nat) (u : Nat), u ≤ 9223372036854775807 → u < 10 ^ (d + 1) → d < 25 → d < k → spec_l1Dec.f k (u : Int) = some ⟨(Lib.decDigits u).toArray⟩ := by
  intro d
  induction d with
  | zero =>
    intro k u h9 hd _ hk
    obtain ⟨k, rfl⟩ := succ_of hk
    have hu : u < 10 := by simpa using hd
    rw [spec_l1Dec.f, if_neg (by omega), if_neg (by omega), if_pos (by omega), one_num hu, Lib.decDigits, dif_pos hu]
  | succ d ih =>
    intro k u h9 hd h25 hk
    obtain ⟨k, rfl⟩ := succ_of hk
    rw [spec_l1Dec.f, if_neg (by omega), if_neg (by omega)]
    by_cases hu : u < 10
    · rw [if_pos (by omega), one_num hu, Lib.decDigits, dif_pos hu]
    · have e1 : wrap64 (Int.tdiv (u : Int) 10) = ((u / 10 : Nat) : Int) := by
        rw [Int.tdiv_eq_ediv_of_nonneg (by omega), wrap_id (by omega) (by omega)]; rfl
      have e2 : Int.tmod (u : Int) 10 = ((u % 10 : Nat) : Int) := by
        rw [Int.tmod_eq_emod_of_nonneg (by omega)]; rfl
      have hs := dec_size d (u / 10) (by rw [Nat.pow_succ] at hd; omega)
      rw [if_neg (by omega), e1, ih k (u / 10) (by omega) (by rw [Nat.pow_succ] at hd; omega) (by omega) (by omega), e2]
      simp only [Option.bind_some]
      rw [one_num (Nat.mod_lt _ (by decide))]
      rw [if_pos (by show (Lib.decDigits (u / 10)).toArray.size + 1 ≤ _; rw [List.size_toArray]; omega)]
      rw [show Lib.decDigits u = Lib.decDigits (u / 10) ++ [UInt8.ofNat (48 + u % 10)] by rw [Lib.decDigits, dif_neg hu]]
      first | done | congr 1
      try first | done | (apply ByteArray.ext; simp)
/-- A number that is not below nothing, in figures. -/
def itoaB (n : Int) : ByteArray := ⟨(Lib.itoa n).toArray⟩
theorem sDec_eq {n : Int} {k : Nat} (h0 : 0 ≤ n) (h9 : n ≤ 9223372036854775807) (hk : 30 ≤ k) : spec_l1Dec.f k n = some (itoaB n) := by
  obtain ⟨u, rfl⟩ : ∃ u : Nat, n = u := ⟨n.toNat, by omega⟩
  rw [l1Dec_eq 20 k u (by omega) (by omega) (by omega) (by omega), itoaB, Lib.itoa, if_neg (by omega)]
  rfl
theorem itoaB_size {n : Int} (h0 : -9223372036854775808 ≤ n) (h9 : n ≤ 9223372036854775807) : (itoaB n).size ≤ 21 := by
  show (Lib.itoa n).toArray.size ≤ 21
  rw [List.size_toArray]
  exact Lib.itoa_length_le n h0 h9
end Go.Proofs.YtgkgkpoeiojmeaaDoor.V
/- What holds of all bytes of a string, counted from a place on; the order of strings. -/
namespace Go.Proofs.YtgkgkpoeiojmeaaDoor.V
open Go.RowKit Go.Proofs.YtgkgkpoeiojmeaaDoor.P Go.Proofs.YtgkgkpoeiojmeaaDoorW.PrintWords Go.Proofs.YtgkgkpoeiojmeaaDoorW.PrintMore
/-- All of d bytes from i on. -/
def bAll (P : Int → Bool) (s : ByteArray) : Nat → Nat → Bool
  | 0, _ => true
  | d + 1, i => P (bt s i) && bAll P s d (i + 1)
theorem bt_nat (s : ByteArray) (j : Nat) (h : j < s.size) : bt s (j : Nat) = ((s.data.toList[j]'(by simpa using h)).toNat : Int) := by
  unfold bt
  rw [dif_pos (by simpa using h)]
  rfl
end Go.Proofs.YtgkgkpoeiojmeaaDoor.V
/- Names: what the program's test and the reference's tell. -/
namespace Go.Proofs.YtgkgkpoeiojmeaaDoor.V
open Go.RowKit Go.Proofs.YtgkgkpoeiojmeaaDoor.P Go.Proofs.YtgkgkpoeiojmeaaDoorW.PrintWords Go.Proofs.YtgkgkpoeiojmeaaDoorW.PrintMore
def letB (b : UInt8) : Bool := decide (97 ≤ b.toNat ∧ b.toNat ≤ 122)
/-- A name: one letter to six. -/
def nameB (s : ByteArray) : Bool := decide (1 ≤ s.size) && decide (s.size ≤ 6) && s.data.toList.all letB
def abc : ByteArray := (⟨#[97, 98, 99, 100, 101, 102, 103, 104, 105, 106, 107, 108, 109, 110, 111, 112, 113, 114, 115, 116, 117, 118, 119, 120, 121, 122]⟩ : ByteArray)
theorem abc_eq (b : UInt8) : abc.data.toList.contains b = letB b := by
  have h : ∀ n : Fin 256, abc.data.toList.contains (UInt8.ofNat n.1) = letB (UInt8.ofNat n.1) := by decide +kernel
  have := h ⟨b.toNat, b.toNat_lt⟩
  simpa using this
theorem drop_nil {P : UInt8 → Bool} : ∀ l : List UInt8, l.dropWhile P = [] ↔ l.all P = true
  | [] => by simp
  | x :: l => by
    by_cases h : P x = true
    · simp [List.dropWhile, h, drop_nil l]
    · simp [List.dropWhile, h]
theorem take_all {P : UInt8 → Bool} : ∀ l : List UInt8, (l.takeWhile P).all P = true
  | [] => rfl
  | x :: l => by
    by_cases h : P x = true
    · simp only [List.takeWhile, h, List.all_cons, take_all l, Bool.true_and]
    · simp only [List.takeWhile, h]; rfl
theorem size_list (s : ByteArray) : s.size = s.data.toList.length := by rw [Array.length_toList]; rfl
theorem trim_nil (l cs : List UInt8) : Lib.trimS l cs = [] ↔ l.all (fun b => cs.contains b) = true := by
  unfold Lib.trimS Lib.trimLeftS Lib.trimRightS
  rw [drop_nil, List.all_reverse]
  constructor
  · intro h
    have e := List.takeWhile_append_dropWhile (p := fun b => cs.contains b) (l := l.reverse)
    have h2 : l.reverse.all (fun b => cs.contains b) = true := by
      rw [← e, List.all_append, Bool.and_eq_true]
      exact ⟨take_all _, h⟩
    rwa [List.all_reverse] at h2
  · intro h
    have h2 : l.reverse.all (fun b => cs.contains b) = true := by rwa [List.all_reverse]
    rw [(drop_nil l.reverse).2 h2]
    rfl
theorem isName_eq (s : ByteArray) : impl_isName.f s = some (nameB s) := by
  unfold impl_isName.f nameB
  by_cases h1 : 1 ≤ s.size
  · rw [if_pos (by omega)]
    by_cases h2 : s.size ≤ 6
    · rw [if_pos (by omega)]
      unfold strings_Trim.f
      rw [if_pos ⟨by omega, by decide +kernel, by decide +kernel⟩]
      simp only [Option.bind_some, Option.some.injEq]
      rw [decide_eq_true h1, decide_eq_true h2, Bool.true_and, Bool.true_and]
      have e : (⟨(Lib.trimS s.data.toList abc.data.toList).toArray⟩ : ByteArray).toList = Lib.trimS s.data.toList abc.data.toList := by rw [ByteArray.toList_eq]
      show ((⟨(Lib.trimS s.data.toList abc.data.toList).toArray⟩ : ByteArray).toList == []) = _
      rw [e, Bool.eq_iff_iff, beq_iff_eq, trim_nil]
      simp only [abc_eq]
    · rw [if_neg (by omega), decide_eq_false h2]; simp
  · rw [if_neg (by omega), decide_eq_false h1]; simp
theorem sNameOk_l0 : ∀ (suf pre : List UInt8) (s : ByteArray) (k : Nat), s.data.toList = pre ++ suf → s.size ≤ 9223372036854775806 → suf.length < k →
    spec_NameOk.l0 k s (pre.length : Int) = some (suf.all letB && decide (1 ≤ s.size) && decide (s.size ≤ 6)) := by
  intro suf
  induction suf with
  | nil =>
    intro pre s k he hs hk
    obtain ⟨k, rfl⟩ := succ_of hk
    have hz : s.size = pre.length := by rw [size_list, he]; simp
    rw [spec_NameOk.l0, if_neg (by omega)]
    unfold spec_l1In.f
    by_cases h1 : 1 ≤ s.size
    · rw [if_pos (by omega), decide_eq_true h1]
      simp only [List.all_nil, Bool.true_and, Option.bind_some]
      congr 1
      rw [decide_eq_decide]
      omega
    · rw [if_neg (by omega), decide_eq_false h1]; rfl
  | cons x suf ih =>
    intro pre s k he hs hk
    obtain ⟨k, rfl⟩ := succ_of hk
    have hz : s.size = pre.length + (suf.length + 1) := by rw [size_list, he]; simp
    have hb : bt s (pre.length : Int) = (x.toNat : Int) := by
      rw [bt_nat s pre.length (by omega)]
      congr 2
      simp [he]
    have hn := ih (pre ++ [x]) s k (by simp [he]) hs (by simpa using hk)
    rw [spec_NameOk.l0, if_pos (by omega), if_pos (by omega), hb, wrap_id (by omega) (by omega)]
    have e : ((pre.length : Int) + 1) = ((pre ++ [x]).length : Int) := by simp
    rw [e, hn]
    by_cases h1 : (x.toNat : Int) < 97
    · rw [if_pos h1]
      have : letB x = false := by unfold letB; rw [decide_eq_false (by omega)]
      simp [this]
    · rw [if_neg h1]
      by_cases h2 : (x.toNat : Int) > 122
      · rw [if_pos h2]
        have : letB x = false := by unfold letB; rw [decide_eq_false (by omega)]
        simp [this]
      · rw [if_neg h2]
        have : letB x = true := by unfold letB; rw [decide_eq_true (by omega)]
        simp [this]
theorem sNameOk_eq (s : ByteArray) (k : Nat) (hs : s.size ≤ 9223372036854775806) (hk : s.size < k) : spec_NameOk.f k s = some (nameB s) := by
  unfold spec_NameOk.f
  have := sNameOk_l0 s.data.toList [] s k rfl hs (by rw [← size_list]; exact hk)
  rw [show ((([] : List UInt8).length : Nat) : Int) = 0 from rfl] at this
  rw [this, nameB]
  congr 1
  ac_rfl
end Go.Proofs.YtgkgkpoeiojmeaaDoor.V
/- Texts of things: the program's test and the reference's. -/
namespace Go.Proofs.YtgkgkpoeiojmeaaDoor.V
open Go.RowKit Go.Proofs.YtgkgkpoeiojmeaaDoor.P Go.Proofs.YtgkgkpoeiojmeaaDoorW.PrintWords Go.Proofs.YtgkgkpoeiojmeaaDoorW.PrintMore
theorem l1In_eq (a b c : Int) : spec_l1In.f a b c = some (decide (b ≤ a ∧ a ≤ c)) := by
  unfold spec_l1In.f
  by_cases h : a ≥ b
  · rw [if_pos h]; simp [show b ≤ a from h]
  · rw [if_neg h]; simp [show ¬ b ≤ a from h]
def VB (b : Int) : Bool := decide (32 ≤ b) && decide (b ≤ 126)
def valOk (s : ByteArray) : Bool := bAll VB s s.size 0 && decide (s.size ≤ 80)
theorem l4Value_l0 : ∀ (d i : Nat) (s : ByteArray) (k : Nat), i + d = s.size → d < k → s.size ≤ 4611686018427387904 → spec_l4Value.l0 k s (i : Int) = some (bAll VB s d i && decide (s.size ≤ 80)) := by
  intro d
  induction d with
  | zero =>
    intro i s k hi hk hb
    obtain ⟨k, rfl⟩ := succ_of hk
    rw [spec_l4Value.l0, if_neg (by omega)]
    simp only [bAll, Bool.true_and]
    congr 1
    exact decide_eq_decide.2 (by omega)
  | succ d ih =>
    intro i s k hi hk hb
    obtain ⟨k, rfl⟩ := succ_of hk
    rw [spec_l4Value.l0, if_pos (by omega), if_pos (nat_le0 _), bAll]
    have hr : -9223372036854775808 ≤ (i : Int) + 1 := by omega
    by_cases h1 : bt s i < 32
    · rw [if_pos h1]; simp [VB, show ¬ 32 ≤ bt s i by omega]
    · rw [if_neg h1]
      by_cases h2 : bt s i > 126
      · rw [if_pos h2]; simp [VB, show ¬ bt s i ≤ 126 by omega]
      · rw [if_neg h2, wrap_id hr (by omega), show (i : Int) + 1 = ((i + 1 : Nat) : Int) by omega, ih (i + 1) s k (by omega) (by omega) hb]
        simp [VB, show 32 ≤ bt s i by omega, show bt s i ≤ 126 by omega]
theorem l4Value_eq (s : ByteArray) (k : Nat) (hk : s.size < k) (hb : s.size ≤ 4611686018427387904) : spec_l4Value.f k s = some (valOk s) := l4Value_l0 s.size 0 s k (by omega) hk hb
theorem isBetween_l0 : ∀ (d i : Nat) (s : ByteArray) (lo hi : Int) (k : Nat), i + d = s.size → d < k → s.size ≤ 4611686018427387904 → impl_isBetween.l0 k s lo hi (s.size : Int) (i : Int) = some (bAll (fun b => decide (lo ≤ b) && decide (b ≤ hi)) s d i) := by
  intro d
  induction d with
  | zero =>
    intro i s lo hi k hi' hk hb
    obtain ⟨k, rfl⟩ := succ_of hk
    rw [impl_isBetween.l0, if_neg (by omega)]; rfl
  | succ d ih =>
    intro i s lo hi k hi' hk hb
    obtain ⟨k, rfl⟩ := succ_of hk
    rw [impl_isBetween.l0, if_pos (by omega), if_pos (nat_le0 _), if_pos (by omega), bAll]
    by_cases h1 : bt s i < lo
    · rw [if_pos h1]; simp [show ¬ lo ≤ bt s i by omega]
    · rw [if_neg h1]
      by_cases h2 : bt s i > hi
      · rw [if_pos h2]; simp [show ¬ bt s i ≤ hi by omega]
      · rw [if_neg h2, wrap_id (by omega) (by omega), show (i : Int) + 1 = ((i + 1 : Nat) : Int) by omega, ih (i + 1) s lo hi k (by omega) (by omega) hb]
        simp [show lo ≤ bt s i by omega, show bt s i ≤ hi by omega]
theorem isBetween_eq (s : ByteArray) (lo hi : Int) (k : Nat) (hk : s.size < k) (hb : s.size ≤ 4611686018427387904) : impl_isBetween.f k s lo hi = some (bAll (fun b => decide (lo ≤ b) && decide (b ≤ hi)) s s.size 0) := isBetween_l0 s.size 0 s lo hi k (by omega) hk hb
def bodyB (s : ByteArray) : Bool := bAll VB s s.size 0 && decide (s.size ≤ 40)
theorem isBody_eq (s : ByteArray) (k : Nat) (hk : s.size < k) (hb : s.size ≤ 4611686018427387904) : impl_isBody.f k s = some (bodyB s) := by
  unfold impl_isBody.f bodyB
  by_cases h : s.size ≤ 40
  · rw [if_pos (by omega), isBetween_eq s 32 126 k hk hb, Option.bind_some, decide_eq_true h, Bool.and_true]
    rfl
  · rw [if_neg (by omega), decide_eq_false h, Bool.and_false]
theorem l7Body_eq (s : ByteArray) (k : Nat) (hk : s.size < k) (hb : s.size ≤ 4611686018427387904) : spec_l7Body.f k s = some (bodyB s) := by
  unfold spec_l7Body.f bodyB
  rw [l4Value_eq s k hk hb, Option.bind_some]
  unfold valOk
  by_cases h : bAll VB s s.size 0 = true
  · rw [h]
    by_cases h2 : s.size ≤ 80
    · rw [if_pos (by simp [h2])]
      simp only [Bool.true_and]
      congr 1
      exact decide_eq_decide.2 (by omega)
    · rw [if_neg (by simp [h2]), decide_eq_false (by omega)]; rfl
  · rw [Bool.eq_false_iff.2 h, if_neg (by simp)]; rfl
end Go.Proofs.YtgkgkpoeiojmeaaDoor.V
/- When requests are ok: the program's test and the reference's. -/
namespace Go.Proofs.YtgkgkpoeiojmeaaDoor.V
open Go.RowKit Go.Proofs.YtgkgkpoeiojmeaaDoor.P Go.Proofs.YtgkgkpoeiojmeaaDoorW.PrintWords Go.Proofs.YtgkgkpoeiojmeaaDoorW.PrintMore
def E (s : ByteArray) : Bool := decide (s.toList = ([] : List UInt8))
theorem E_iff (s : ByteArray) : E s = true ↔ s = ⟨#[]⟩ := by
  have en : (⟨#[]⟩ : ByteArray).toList = ([] : List UInt8) := by rw [ByteArray.toList_eq]
  unfold E
  rw [decide_eq_true_iff]
  exact ⟨fun h => (tl_iff s ⟨#[]⟩).1 (h.trans en.symm), fun h => by rw [h]; exact en⟩
theorem E_name {s : ByteArray} (h : E s = true) : nameB s = false := by rw [(E_iff s).1 h]; decide
theorem E_body {s : ByteArray} (h : E s = true) : bodyB s = true := by rw [(E_iff s).1 h]; decide
def endB (c : Int) (t : ByteArray) : Bool := if c = 6 ∨ c = 7 then nameB t else bodyB t
def numB (c n : Int) : Bool := !(decide (n < -1)) && !(decide (n > 99999)) && !(decide (n < 0) && (decide (c = 5) || decide (c = 11)))
section
variable {k : Nat} {c n : Int} {a b t : ByteArray} {x : Bool}
theorem ij3 (h : t.size < k) (hb : t.size ≤ 4611686018427387904) : impl_isReq.j3 (k + 1) x c a b n t = some (if x = true then nameB t else bodyB t) := by
  rw [impl_isReq.j3]
  cases x
  · rw [if_neg (by decide), if_neg (by decide), isBody_eq t k h hb, Option.bind_some]
  · rw [if_pos rfl, if_pos rfl, isName_eq, Option.bind_some]
theorem ij2 (h : t.size < k) (hb : t.size ≤ 4611686018427387904) : impl_isReq.j2 (k + 1 + 1) x c a b n t = some (!x && endB c t) := by
  rw [impl_isReq.j2]
  simp only [ij3 h hb]
  cases x <;> by_cases h6 : c = 6 <;> by_cases h7 : c = 7 <;> simp [endB, h6, h7]
theorem ij1 (h : t.size < k) (hb : t.size ≤ 4611686018427387904) : impl_isReq.j1 (k + 1 + 1 + 1) x c a b n t = some (!x && (numB c n && endB c t)) := by
  rw [impl_isReq.j1]
  simp only [ij2 h hb]
  cases x <;> by_cases lo : n < -1 <;> by_cases hi : n > 99999 <;> by_cases ng : n < 0 <;> by_cases h5 : c = 5 <;> by_cases h11 : c = 11 <;> simp [numB, lo, hi, ng, h5, h11]
theorem ij0 {w : ByteArray} {sp nm nu tx : Bool} (h : t.size < k) (hb : t.size ≤ 4611686018427387904) : impl_isReq.j0 (k + 1 + 1 + 1 + 1) x c a b n t w sp nm nu tx = some (!x && ((sp || E a) && (nm || E b) && (nu || decide (n = 0)) && (tx || E t) && (numB c n && endB c t))) := by
  rw [impl_isReq.j0]
  simp only [ij1 h hb, E]
  cases x
  · by_cases ea : a.toList = ([] : List UInt8) <;> by_cases eb : b.toList = ([] : List UInt8) <;> by_cases z : n = 0 <;> by_cases et : t.toList = ([] : List UInt8) <;> cases sp <;> cases nm <;> cases nu <;> cases tx <;> simp [ea, eb, z, et]
  · simp
def reqV (sp nm nu tx : Bool) (c : Int) (a b : ByteArray) (n : Int) (t : ByteArray) : Bool :=
  (!sp || nameB a) && (!nm || nameB b) && ((sp || E a) && (nm || E b) && (nu || decide (n = 0)) && (tx || E t) && (numB c n && endB c t))
theorem isReq_of {w : ByteArray} {sp nm nu tx : Bool} (hf : impl_formOf.f c = some (w, sp, nm, nu, tx, true)) (h : t.size < k) (hb : t.size ≤ 4611686018427387904) : impl_isReq.f (k + 1 + 1 + 1 + 1) c a b n t = some (reqV sp nm nu tx c a b n t) := by
  unfold impl_isReq.f
  rw [hf, Option.bind_some]
  simp only [isName_eq, Option.bind_some, ij0 h hb, if_true]
  unfold reqV
  cases sp <;> cases nm <;> cases nameB a <;> cases nameB b <;> simp
theorem isReq_no {w : ByteArray} {sp nm nu tx : Bool} (hf : impl_formOf.f c = some (w, sp, nm, nu, tx, false)) (h : t.size < k) (hb : t.size ≤ 4611686018427387904) : impl_isReq.f (k + 1 + 1 + 1 + 1) c a b n t = some false := by
  unfold impl_isReq.f
  rw [hf, Option.bind_some]
  simp only [ij0 h hb]
  simp
theorem sj2 (h : t.size < k) (hb : t.size ≤ 4611686018427387904) : spec_ReqOk.j2 (k + 1) x c a b n t = some (if x = true then nameB t else bodyB t) := by
  rw [spec_ReqOk.j2]
  cases x
  · rw [if_neg (by decide), if_neg (by decide), l7Body_eq t k h hb, Option.bind_some]
  · rw [if_pos rfl, if_pos rfl, sNameOk_eq t k (by omega) h, Option.bind_some]
theorem sj1 {d : Int} (h : t.size < k) (hb : t.size ≤ 4611686018427387904) : spec_ReqOk.j1 (k + 1 + 1) d x c a b n t = some (if x = true then decide (n ≥ 0) && bodyB t else endB d t) := by
  rw [spec_ReqOk.j1]
  simp only [sj2 h hb, l7Body_eq t (k + 1) (by omega) hb, Option.bind_some]
  cases x <;> by_cases h6 : d = 6 <;> by_cases h7 : d = 7 <;> by_cases ng : n ≥ 0 <;> simp [endB, h6, h7, ng]
theorem sj0 (h : t.size < k) (hb : t.size ≤ 4611686018427387904) : spec_ReqOk.j0 (k + 1 + 1 + 1) x c a b n t = some (!x && (if c = 5 ∨ c = 11 then decide (n ≥ 0) && bodyB t else endB c t)) := by
  rw [spec_ReqOk.j0]
  simp only [sj1 h hb]
  cases x <;> by_cases h5 : c = 5 <;> by_cases h11 : c = 11 <;> simp [h5, h11]
def sreqV (hn hm ht : Bool) (c : Int) (a b : ByteArray) (n : Int) (t : ByteArray) : Bool :=
  nameB a && (hn == !(E b)) && (!hn || nameB b) && (hm || decide (n = 0)) && (ht || E t) && decide (-1 ≤ n ∧ n ≤ 99999) && (if c = 5 ∨ c = 11 then decide (n ≥ 0) && bodyB t else endB c t)
theorem sReq_of {hn hm ht : Bool} (h1 : 1 ≤ c) (h2 : c ≤ 11) (hf : spec_l9Has.f (k + 1 + 1 + 1) c = some (hn, hm, ht)) (h : t.size < k) (hb : t.size ≤ 4611686018427387904) (ha : a.size < k) (hbz : b.size < k) (hk : k ≤ 9223372036854775806) : spec_ReqOk.f (k + 1 + 1 + 1) c a b n t = some (sreqV hn hm ht c a b n t) := by
  unfold spec_ReqOk.f
  rw [l1In_eq, Option.bind_some, if_pos (by rw [decide_eq_true_iff]; omega), hf, Option.bind_some, if_neg (by omega)]
  simp only [sNameOk_eq a (k + 1 + 1 + 1) (by omega) (by omega), sNameOk_eq b (k + 1 + 1 + 1) (by omega) (by omega), l1In_eq, Option.bind_some, sj0 h hb]
  unfold sreqV E
  generalize (if c = 5 ∨ c = 11 then decide (n ≥ 0) && bodyB t else endB c t) = v
  generalize decide (-1 ≤ n ∧ n ≤ 99999) = u
  by_cases eb : b.toList = ([] : List UInt8) <;> by_cases z : n = 0 <;> by_cases et : t.toList = ([] : List UInt8) <;> cases hn <;> cases hm <;> cases ht <;> cases nameB a <;> cases nameB b <;> simp [eb, z, et]
theorem sReq_step (h : t.size < k) : spec_ReqOk.f (k + 1 + 1 + 1) 12 a b n t = some (E a && E b && decide (n = 0) && E t) := by
  unfold spec_ReqOk.f
  rw [l1In_eq, Option.bind_some, if_pos (by decide)]
  have : spec_l9Has.f (k + 1 + 1 + 1) 12 = some (false, false, false) := by
    simp [spec_l9Has.f, spec_l9Has.j0, spec_l9Has.j1]
  rw [this, Option.bind_some, if_pos rfl]
  unfold E
  by_cases ea : a.toList = ([] : List UInt8) <;> by_cases eb : b.toList = ([] : List UInt8) <;> by_cases z : n = 0 <;> by_cases et : t.toList = ([] : List UInt8) <;> simp [ea, eb, z, et]
theorem sReq_out (hc : ¬ (1 ≤ c ∧ c ≤ 12)) : spec_ReqOk.f k c a b n t = some false := by
  unfold spec_ReqOk.f
  rw [l1In_eq, Option.bind_some, if_neg (by rw [decide_eq_true_iff]; exact hc)]
theorem numB_in (h : -1 ≤ n ∧ n ≤ 99999) : numB c n = !(decide (n < 0) && (decide (c = 5) || decide (c = 11))) := by
  unfold numB
  rw [decide_eq_false (by omega), decide_eq_false (by omega)]; simp
theorem numB_out (h : ¬ (-1 ≤ n ∧ n ≤ 99999)) : numB c n = false := by
  unfold numB
  by_cases h1 : n < -1
  · rw [decide_eq_true h1]; simp
  · rw [decide_eq_true (show n > 99999 by omega)]; simp
theorem V_eq {hn hm ht : Bool} (h5 : c = 5 ∨ c = 11 → ¬ (c = 6 ∨ c = 7)) : reqV true hn hm ht c a b n t = sreqV hn hm ht c a b n t := by
  unfold reqV sreqV
  by_cases hr : -1 ≤ n ∧ n ≤ 99999
  · rw [numB_in hr, decide_eq_true hr]
    by_cases h : c = 5 ∨ c = 11
    · rw [if_pos h, endB, if_neg (h5 h)]
      have hd : (decide (c = 5) || decide (c = 11)) = true := by rcases h with h | h <;> simp [h]
      rw [hd]
      by_cases ng : n < 0
      · rw [decide_eq_true ng, decide_eq_false (show ¬ n ≥ 0 by omega)]; simp
      · rw [decide_eq_false ng, decide_eq_true (show n ≥ 0 by omega)]
        cases hb : E b with
        | true => rw [E_name hb]; cases hn <;> cases hm <;> cases ht <;> cases nameB a <;> cases E t <;> simp
        | false => cases hn <;> cases hm <;> cases ht <;> cases nameB a <;> cases E t <;> simp [Bool.and_assoc]
    · rw [if_neg h]
      have hd : (decide (c = 5) || decide (c = 11)) = false := by
        rw [decide_eq_false (fun e => h (.inl e)), decide_eq_false (fun e => h (.inr e))]; rfl
      rw [hd]
      generalize endB c t = v
      cases hb : E b with
      | true => rw [E_name hb]; cases hn <;> cases hm <;> cases ht <;> cases nameB a <;> cases E t <;> simp
      | false => cases hn <;> cases hm <;> cases ht <;> cases nameB a <;> cases E t <;> simp [Bool.and_assoc]
  · rw [numB_out hr, decide_eq_false hr]; simp
theorem V_step : reqV false false false false 12 a b n t = (E a && E b && decide (n = 0) && E t) := by
  unfold reqV
  by_cases z : n = 0
  · rw [z, numB_in (by decide), endB, if_neg (by decide)]
    cases ht : E t with
    | true => rw [E_body ht]; simp
    | false => simp
  · rw [decide_eq_false z]; simp
def reqB (c : Int) (a b : ByteArray) (n : Int) (t : ByteArray) : Bool :=
  if c = 1 then sreqV true true false c a b n t else if c = 2 then sreqV false true false c a b n t else if c = 3 then sreqV false false false c a b n t else if c = 4 then sreqV true false true c a b n t
  else if c = 5 then sreqV true true true c a b n t else if c = 6 then sreqV true false true c a b n t else if c = 7 then sreqV true false true c a b n t else if c = 8 then sreqV true false false c a b n t
  else if c = 9 then sreqV true false false c a b n t else if c = 10 then sreqV false false false c a b n t else if c = 11 then sreqV false true false c a b n t else if c = 12 then (E a && E b && decide (n = 0) && E t) else false
theorem kinds (h1 : 1 ≤ c) (h2 : c ≤ 12) : c = 1 ∨ c = 2 ∨ c = 3 ∨ c = 4 ∨ c = 5 ∨ c = 6 ∨ c = 7 ∨ c = 8 ∨ c = 9 ∨ c = 10 ∨ c = 11 ∨ c = 12 := by omega
theorem form_out (hc : ¬ (1 ≤ c ∧ c ≤ 12)) : impl_formOf.f c = some ((⟨#[]⟩ : ByteArray), false, false, false, false, false) := by
  unfold impl_formOf.f
  rw [if_neg (by omega), if_neg (by omega), if_neg (by omega), if_neg (by omega), if_neg (by omega), if_neg (by omega), if_neg (by omega), if_neg (by omega), if_neg (by omega), if_neg (by omega), if_neg (by omega), if_neg (by omega)]
theorem isReq_eq (h : t.size < k) (hb : t.size ≤ 4611686018427387904) : impl_isReq.f (k + 1 + 1 + 1 + 1) c a b n t = some (reqB c a b n t) := by
  by_cases hc : 1 ≤ c ∧ c ≤ 12
  · rcases kinds hc.1 hc.2 with rfl | rfl | rfl | rfl | rfl | rfl | rfl | rfl | rfl | rfl | rfl | rfl
    · rw [isReq_of (w := (⟨#[115, 112, 97, 99, 101]⟩ : ByteArray)) (sp := true) (nm := true) (nu := true) (tx := false) rfl h hb, V_eq (by decide)]; rfl
    · rw [isReq_of (w := (⟨#[108, 105, 109, 105, 116]⟩ : ByteArray)) (sp := true) (nm := false) (nu := true) (tx := false) rfl h hb, V_eq (by decide)]; rfl
    · rw [isReq_of (w := (⟨#[99, 108, 111, 115, 101]⟩ : ByteArray)) (sp := true) (nm := false) (nu := false) (tx := false) rfl h hb, V_eq (by decide)]; rfl
    · rw [isReq_of (w := (⟨#[112, 117, 116]⟩ : ByteArray)) (sp := true) (nm := true) (nu := false) (tx := true) rfl h hb, V_eq (by decide)]; rfl
    · rw [isReq_of (w := (⟨#[115, 101, 116]⟩ : ByteArray)) (sp := true) (nm := true) (nu := true) (tx := true) rfl h hb, V_eq (by decide)]; rfl
    · rw [isReq_of (w := (⟨#[109, 97, 114, 107]⟩ : ByteArray)) (sp := true) (nm := true) (nu := false) (tx := true) rfl h hb, V_eq (by decide)]; rfl
    · rw [isReq_of (w := (⟨#[117, 110, 109, 97, 114, 107]⟩ : ByteArray)) (sp := true) (nm := true) (nu := false) (tx := true) rfl h hb, V_eq (by decide)]; rfl
    · rw [isReq_of (w := (⟨#[100, 114, 111, 112]⟩ : ByteArray)) (sp := true) (nm := true) (nu := false) (tx := false) rfl h hb, V_eq (by decide)]; rfl
    · rw [isReq_of (w := (⟨#[103, 101, 116]⟩ : ByteArray)) (sp := true) (nm := true) (nu := false) (tx := false) rfl h hb, V_eq (by decide)]; rfl
    · rw [isReq_of (w := (⟨#[108, 105, 115, 116]⟩ : ByteArray)) (sp := true) (nm := false) (nu := false) (tx := false) rfl h hb, V_eq (by decide)]; rfl
    · rw [isReq_of (w := (⟨#[119, 97, 116, 99, 104]⟩ : ByteArray)) (sp := true) (nm := false) (nu := true) (tx := false) rfl h hb, V_eq (by decide)]; rfl
    · rw [isReq_of (w := (⟨#[115, 116, 101, 112]⟩ : ByteArray)) (sp := false) (nm := false) (nu := false) (tx := false) rfl h hb, V_step]; rfl
  · rw [isReq_no (form_out hc) h hb]
    unfold reqB
    rw [if_neg (by omega), if_neg (by omega), if_neg (by omega), if_neg (by omega), if_neg (by omega), if_neg (by omega), if_neg (by omega), if_neg (by omega), if_neg (by omega), if_neg (by omega), if_neg (by omega), if_neg (by omega)]
theorem sReq_eq (h : t.size < k) (hb : t.size ≤ 4611686018427387904) (ha : a.size < k) (hbz : b.size < k) (hk : k ≤ 9223372036854775806) : spec_ReqOk.f (k + 1 + 1 + 1) c a b n t = some (reqB c a b n t) := by
  by_cases hc : 1 ≤ c ∧ c ≤ 12
  · rcases kinds hc.1 hc.2 with rfl | rfl | rfl | rfl | rfl | rfl | rfl | rfl | rfl | rfl | rfl | rfl
    · rw [sReq_of (hn := true) (hm := true) (ht := false) (by decide) (by decide) rfl h hb ha hbz hk]; rfl
    · rw [sReq_of (hn := false) (hm := true) (ht := false) (by decide) (by decide) rfl h hb ha hbz hk]; rfl
    · rw [sReq_of (hn := false) (hm := false) (ht := false) (by decide) (by decide) rfl h hb ha hbz hk]; rfl
    · rw [sReq_of (hn := true) (hm := false) (ht := true) (by decide) (by decide) rfl h hb ha hbz hk]; rfl
    · rw [sReq_of (hn := true) (hm := true) (ht := true) (by decide) (by decide) rfl h hb ha hbz hk]; rfl
    · rw [sReq_of (hn := true) (hm := false) (ht := true) (by decide) (by decide) rfl h hb ha hbz hk]; rfl
    · rw [sReq_of (hn := true) (hm := false) (ht := true) (by decide) (by decide) rfl h hb ha hbz hk]; rfl
    · rw [sReq_of (hn := true) (hm := false) (ht := false) (by decide) (by decide) rfl h hb ha hbz hk]; rfl
    · rw [sReq_of (hn := true) (hm := false) (ht := false) (by decide) (by decide) rfl h hb ha hbz hk]; rfl
    · rw [sReq_of (hn := false) (hm := false) (ht := false) (by decide) (by decide) rfl h hb ha hbz hk]; rfl
    · rw [sReq_of (hn := false) (hm := true) (ht := false) (by decide) (by decide) rfl h hb ha hbz hk]; rfl
    · rw [sReq_step h]; rfl
  · rw [sReq_out hc]
    unfold reqB
    rw [if_neg (by omega), if_neg (by omega), if_neg (by omega), if_neg (by omega), if_neg (by omega), if_neg (by omega), if_neg (by omega), if_neg (by omega), if_neg (by omega), if_neg (by omega), if_neg (by omega), if_neg (by omega)]
end
end Go.Proofs.YtgkgkpoeiojmeaaDoor.V
/- Requests as_ texts: the program's and the reference's. -/
namespace Go.Proofs.YtgkgkpoeiojmeaaDoor.V
open Go.RowKit Go.Proofs.YtgkgkpoeiojmeaaDoor.P Go.Proofs.YtgkgkpoeiojmeaaDoorW.PrintWords Go.Proofs.YtgkgkpoeiojmeaaDoorW.PrintMore
/-- One more part, if there is one. -/
def addT (f : Bool) (s o : ByteArray) : ByteArray := if f = true then o ++ ((⟨#[32]⟩ : ByteArray) ++ s) else o
theorem addT_size (f : Bool) (s o : ByteArray) : o.size ≤ (addT f s o).size ∧ (addT f s o).size ≤ o.size + 1 + s.size := by
  unfold addT
  cases f
  · rw [if_neg (by decide)]; omega
  · rw [if_pos rfl]
    simp only [ByteArray.size_append]
    have : (⟨#[32]⟩ : ByteArray).size = 1 := rfl
    omega
section
variable {k : Nat} {c n : Int} {a b t w o : ByteArray} {sp nm nu tx : Bool}
theorem itoa_at (h0 : -9223372036854775808 ≤ n) (h9 : n ≤ 9223372036854775807) : strconv_Itoa_64.f n = some (itoaB n) := by
  unfold strconv_Itoa_64.f
  rw [if_pos ⟨h0, h9⟩]; rfl
theorem rt_j1 (ho : o.size ≤ 1000000000) (ht : t.size ≤ 1000000000) (h0 : -9223372036854775808 ≤ n) (h9 : n ≤ 9223372036854775807) :
    impl_reqText.j1 (k + 1) o c a b n t w sp nm nu tx = some (addT tx t (addT nu (itoaB n) o)) := by
  have hi := itoaB_size h0 h9
  rw [impl_reqText.j1, itoa_at h0 h9, Option.bind_some]
  cases nu
  · rw [if_neg (by decide)]
    cases tx
    · rw [if_neg (by decide)]; rfl
    · rw [if_pos rfl, if_pos (by omega), if_pos (by omega)]; rfl
  · rw [if_pos rfl, if_pos (by omega), if_pos (by omega)]
    cases tx
    · rw [if_neg (by decide)]; rfl
    · rw [if_pos rfl, if_pos (by omega), if_pos (by omega)]; rfl
theorem rt_j0 (ho : o.size ≤ 100000000) (hb : b.size ≤ 100000000) (ht : t.size ≤ 1000000000) (h0 : -9223372036854775808 ≤ n) (h9 : n ≤ 9223372036854775807) :
    impl_reqText.j0 (k + 1 + 1) o c a b n t w sp nm nu tx = some (addT tx t (addT nu (itoaB n) (addT nm b o))) := by
  have hz := addT_size nm b o
  rw [impl_reqText.j0]
  cases nm
  · rw [if_neg (by decide), rt_j1 (by omega) ht h0 h9]; rfl
  · rw [if_pos rfl, if_pos (by omega), if_pos (by omega), show o ++ ((⟨#[32]⟩ : ByteArray) ++ b) = addT true b o from rfl, rt_j1 (by omega) ht h0 h9]
theorem reqText_of {ok : Bool} (hf : impl_formOf.f c = some (w, sp, nm, nu, tx, ok)) (hw : w.size ≤ 100) (ha : a.size ≤ 10000000) (hb : b.size ≤ 100000000) (ht : t.size ≤ 1000000000) (h0 : -9223372036854775808 ≤ n) (h9 : n ≤ 9223372036854775807) :
    impl_reqText.f (k + 1 + 1) c a b n t = some (addT tx t (addT nu (itoaB n) (addT nm b (addT sp a w)))) := by
  have hz := addT_size sp a w
  unfold impl_reqText.f
  rw [hf, Option.bind_some]
  cases sp
  · rw [if_neg (by simp), rt_j0 (by dsimp only; omega) hb ht h0 h9]; rfl
  · rw [if_pos rfl]
    dsimp only
    rw [if_pos (by omega), if_pos (by omega), show w ++ ((⟨#[32]⟩ : ByteArray) ++ a) = addT true a w from rfl, rt_j0 (by omega) hb ht h0 h9]
theorem dec_m1 (hk : 40 < k) : spec_l1Dec.f k (-1) = some (itoaB (-1)) := by
  obtain ⟨k, rfl⟩ := succ_of hk
  have h1 := sDec_eq (n := 1) (k := k) (by decide) (by decide) (by omega)
  rw [spec_l1Dec.f, if_neg (by decide), if_pos (by decide), show wrap64 (-(-1)) = 1 from (wrap_id (i := -(-1)) (by decide) (by decide)).trans (by decide), h1, Option.bind_some]
  have e1 : itoaB 1 = ⟨#[49]⟩ := by
    unfold itoaB Lib.itoa
    rw [if_neg (by decide), show (1 : Int).toNat = 1 from rfl, Lib.decDigits_one (by decide)]; rfl
  have e2 : itoaB (-1) = ⟨#[45, 49]⟩ := by
    unfold itoaB Lib.itoa
    rw [if_pos (by decide), show (-1 : Int).natAbs = 1 from rfl, Lib.decDigits_one (by decide)]; rfl
  rw [e1, e2, if_pos (by decide)]; rfl
theorem dec_any (h0 : -1 ≤ n) (h9 : n ≤ 99999) (hk : 40 < k) : spec_l1Dec.f k n = some (itoaB n) := by
  by_cases h : n = -1
  · rw [h]; exact dec_m1 hk
  · exact sDec_eq (by omega) (by omega) (by omega)
theorem app3 (x y z : ByteArray) : (x ++ y) ++ z = x ++ (y ++ z) := ByteArray.append_assoc ..
theorem sw_j1 (ho : o.size ≤ 1000000000) (ht : t.size ≤ 1000000000) (h0 : -1 ≤ n) (h9 : n ≤ 99999) (hk : 40 < k) :
    spec_l9Write.j1 (k + 1) nu tx o c a b n t = some (addT tx t (addT nu (itoaB n) o)) := by
  have hi := itoaB_size (n := n) (by omega) (by omega)
  rw [spec_l9Write.j1, dec_any h0 h9 hk, Option.bind_some]
  cases nu
  · rw [if_neg (by decide)]
    cases tx
    · rw [if_neg (by decide)]; rfl
    · rw [if_pos rfl, if_pos (by omega), if_pos (by omega), app3]; rfl
  · rw [if_pos rfl, if_pos (by omega), if_pos (by omega)]
    cases tx
    · rw [if_neg (by decide), app3]; rfl
    · rw [if_pos rfl, if_pos (by omega), if_pos (by omega), app3 _ _ t, app3 o]; rfl
theorem sw_j0 (ho : o.size ≤ 100000000) (hb : b.size ≤ 100000000) (ht : t.size ≤ 1000000000) (h0 : -1 ≤ n) (h9 : n ≤ 99999) (hk : 40 < k) :
    spec_l9Write.j0 (k + 1 + 1) nm nu tx o c a b n t = some (addT tx t (addT nu (itoaB n) (addT nm b o))) := by
  have hz := addT_size nm b o
  rw [spec_l9Write.j0]
  cases nm
  · rw [if_neg (by decide), sw_j1 (by omega) ht h0 h9 hk]; rfl
  · rw [if_pos rfl, if_pos (by omega), if_pos (by omega), app3, show o ++ ((⟨#[32]⟩ : ByteArray) ++ b) = addT true b o from rfl, sw_j1 (by omega) ht h0 h9 hk]
/-- The words of kinds. -/
def wordsL : List ByteArray := (spec_l9Words.f).getD []
theorem words_eq : spec_l9Words.f = some wordsL := rfl
theorem write_of {hn hm ht' : Bool} (hc0 : 1 ≤ c) (hc : c ≤ 11) (hf : spec_l9Has.f (k + 1 + 1) c = some (hn, hm, ht')) (hw : rdOf ByteArray.empty wordsL c = w) (hws : w.size ≤ 100) (ha : a.size ≤ 10000000) (hb : b.size ≤ 100000000) (ht : t.size ≤ 1000000000) (h0 : -1 ≤ n) (h9 : n ≤ 99999) (hk : 40 < k) :
    spec_l9Write.f (k + 1 + 1) c a b n t = some (addT ht' t (addT hm (itoaB n) (addT hn b (addT true a w)))) := by
  have hz := addT_size true a w
  unfold spec_l9Write.f
  rw [hf, Option.bind_some, words_eq, Option.bind_some, hw, if_pos (by omega), if_pos (by show c < 13; omega), if_neg (by omega), if_pos (by omega), if_pos (by omega), app3, show w ++ ((⟨#[32]⟩ : ByteArray) ++ a) = addT true a w from rfl, sw_j0 (by omega) hb ht h0 h9 hk]
theorem write_step (hb : b.size ≤ 100000000) (ht : t.size ≤ 1000000000) (h0 : -1 ≤ n) (h9 : n ≤ 99999) (hk : 40 < k) :
    spec_l9Write.f (k + 1 + 1) 12 a b n t = some (⟨#[115, 116, 101, 112]⟩ : ByteArray) := by
  unfold spec_l9Write.f
  have : spec_l9Has.f (k + 1 + 1) 12 = some (false, false, false) := by
    simp [spec_l9Has.f, spec_l9Has.j0, spec_l9Has.j1]
  rw [this, Option.bind_some, words_eq, Option.bind_some, if_pos (by decide), if_pos (by decide), if_pos rfl, show rdOf ByteArray.empty wordsL 12 = (⟨#[115, 116, 101, 112]⟩ : ByteArray) from rfl, sw_j0 (by decide) hb ht h0 h9 hk]; rfl
/-- The text of a request that is ok. -/
def reqT (c : Int) (a b : ByteArray) (n : Int) (t : ByteArray) : ByteArray :=
  match impl_formOf.f c with
  | some (w, sp, nm, nu, tx, _) => addT tx t (addT nu (itoaB n) (addT nm b (addT sp a w)))
  | none => ⟨#[]⟩
theorem sreqV_n {hn hm ht : Bool} (h : sreqV hn hm ht c a b n t = true) : -1 ≤ n ∧ n ≤ 99999 := by
  unfold sreqV at h
  simp only [Bool.and_eq_true, decide_eq_true_eq] at h
  exact h.1.2
theorem reqB_in (h : reqB c a b n t = true) : (1 ≤ c ∧ c ≤ 12) ∧ -1 ≤ n ∧ n ≤ 99999 := by
  unfold reqB at h
  by_cases h1 : c = 1
  · rw [if_pos h1] at h; exact ⟨by omega, sreqV_n h⟩
  rw [if_neg h1] at h
  by_cases h1 : c = 2
  · rw [if_pos h1] at h; exact ⟨by omega, sreqV_n h⟩
  rw [if_neg h1] at h
  by_cases h1 : c = 3
  · rw [if_pos h1] at h; exact ⟨by omega, sreqV_n h⟩
  rw [if_neg h1] at h
  by_cases h1 : c = 4
  · rw [if_pos h1] at h; exact ⟨by omega, sreqV_n h⟩
  rw [if_neg h1] at h
  by_cases h1 : c = 5
  · rw [if_pos h1] at h; exact ⟨by omega, sreqV_n h⟩
  rw [if_neg h1] at h
  by_cases h1 : c = 6
  · rw [if_pos h1] at h; exact ⟨by omega, sreqV_n h⟩
  rw [if_neg h1] at h
  by_cases h1 : c = 7
  · rw [if_pos h1] at h; exact ⟨by omega, sreqV_n h⟩
  rw [if_neg h1] at h
  by_cases h1 : c = 8
  · rw [if_pos h1] at h; exact ⟨by omega, sreqV_n h⟩
  rw [if_neg h1] at h
  by_cases h1 : c = 9
  · rw [if_pos h1] at h; exact ⟨by omega, sreqV_n h⟩
  rw [if_neg h1] at h
  by_cases h1 : c = 10
  · rw [if_pos h1] at h; exact ⟨by omega, sreqV_n h⟩
  rw [if_neg h1] at h
  by_cases h1 : c = 11
  · rw [if_pos h1] at h; exact ⟨by omega, sreqV_n h⟩
  rw [if_neg h1] at h
  by_cases h1 : c = 12
  · rw [if_pos h1] at h
    simp only [Bool.and_eq_true, decide_eq_true_eq] at h
    exact ⟨by omega, by omega, by omega⟩
  rw [if_neg h1] at h; cases h
theorem iText_eq (hc : 1 ≤ c ∧ c ≤ 12) (ha : a.size ≤ 10000000) (hb : b.size ≤ 100000000) (ht : t.size ≤ 1000000000) (h0 : -9223372036854775808 ≤ n) (h9 : n ≤ 9223372036854775807) : impl_reqText.f (k + 1 + 1) c a b n t = some (reqT c a b n t) := by
  rcases kinds hc.1 hc.2 with rfl | rfl | rfl | rfl | rfl | rfl | rfl | rfl | rfl | rfl | rfl | rfl
  · exact reqText_of (w := (⟨#[115, 112, 97, 99, 101]⟩ : ByteArray)) rfl (by decide) ha hb ht h0 h9
  · exact reqText_of (w := (⟨#[108, 105, 109, 105, 116]⟩ : ByteArray)) rfl (by decide) ha hb ht h0 h9
  · exact reqText_of (w := (⟨#[99, 108, 111, 115, 101]⟩ : ByteArray)) rfl (by decide) ha hb ht h0 h9
  · exact reqText_of (w := (⟨#[112, 117, 116]⟩ : ByteArray)) rfl (by decide) ha hb ht h0 h9
  · exact reqText_of (w := (⟨#[115, 101, 116]⟩ : ByteArray)) rfl (by decide) ha hb ht h0 h9
  · exact reqText_of (w := (⟨#[109, 97, 114, 107]⟩ : ByteArray)) rfl (by decide) ha hb ht h0 h9
  · exact reqText_of (w := (⟨#[117, 110, 109, 97, 114, 107]⟩ : ByteArray)) rfl (by decide) ha hb ht h0 h9
  · exact reqText_of (w := (⟨#[100, 114, 111, 112]⟩ : ByteArray)) rfl (by decide) ha hb ht h0 h9
  · exact reqText_of (w := (⟨#[103, 101, 116]⟩ : ByteArray)) rfl (by decide) ha hb ht h0 h9
  · exact reqText_of (w := (⟨#[108, 105, 115, 116]⟩ : ByteArray)) rfl (by decide) ha hb ht h0 h9
  · exact reqText_of (w := (⟨#[119, 97, 116, 99, 104]⟩ : ByteArray)) rfl (by decide) ha hb ht h0 h9
  · exact reqText_of (w := (⟨#[115, 116, 101, 112]⟩ : ByteArray)) rfl (by decide) ha hb ht h0 h9
theorem sText_eq (hc : 1 ≤ c ∧ c ≤ 12) (ha : a.size ≤ 10000000) (hb : b.size ≤ 100000000) (ht : t.size ≤ 1000000000) (h0 : -1 ≤ n) (h9 : n ≤ 99999) (hk : 40 < k) : spec_l9Write.f (k + 1 + 1) c a b n t = some (reqT c a b n t) := by
  rcases kinds hc.1 hc.2 with rfl | rfl | rfl | rfl | rfl | rfl | rfl | rfl | rfl | rfl | rfl | rfl
  · exact write_of (hn := true) (hm := true) (ht' := false) (by decide) (by decide) rfl (w := (⟨#[115, 112, 97, 99, 101]⟩ : ByteArray)) rfl (by decide) ha hb ht h0 h9 hk
  · exact write_of (hn := false) (hm := true) (ht' := false) (by decide) (by decide) rfl (w := (⟨#[108, 105, 109, 105, 116]⟩ : ByteArray)) rfl (by decide) ha hb ht h0 h9 hk
  · exact write_of (hn := false) (hm := false) (ht' := false) (by decide) (by decide) rfl (w := (⟨#[99, 108, 111, 115, 101]⟩ : ByteArray)) rfl (by decide) ha hb ht h0 h9 hk
  · exact write_of (hn := true) (hm := false) (ht' := true) (by decide) (by decide) rfl (w := (⟨#[112, 117, 116]⟩ : ByteArray)) rfl (by decide) ha hb ht h0 h9 hk
  · exact write_of (hn := true) (hm := true) (ht' := true) (by decide) (by decide) rfl (w := (⟨#[115, 101, 116]⟩ : ByteArray)) rfl (by decide) ha hb ht h0 h9 hk
  · exact write_of (hn := true) (hm := false) (ht' := true) (by decide) (by decide) rfl (w := (⟨#[109, 97, 114, 107]⟩ : ByteArray)) rfl (by decide) ha hb ht h0 h9 hk
  · exact write_of (hn := true) (hm := false) (ht' := true) (by decide) (by decide) rfl (w := (⟨#[117, 110, 109, 97, 114, 107]⟩ : ByteArray)) rfl (by decide) ha hb ht h0 h9 hk
  · exact write_of (hn := true) (hm := false) (ht' := false) (by decide) (by decide) rfl (w := (⟨#[100, 114, 111, 112]⟩ : ByteArray)) rfl (by decide) ha hb ht h0 h9 hk
  · exact write_of (hn := true) (hm := false) (ht' := false) (by decide) (by decide) rfl (w := (⟨#[103, 101, 116]⟩ : ByteArray)) rfl (by decide) ha hb ht h0 h9 hk
  · exact write_of (hn := false) (hm := false) (ht' := false) (by decide) (by decide) rfl (w := (⟨#[108, 105, 115, 116]⟩ : ByteArray)) rfl (by decide) ha hb ht h0 h9 hk
  · exact write_of (hn := false) (hm := true) (ht' := false) (by decide) (by decide) rfl (w := (⟨#[119, 97, 116, 99, 104]⟩ : ByteArray)) rfl (by decide) ha hb ht h0 h9 hk
  · exact write_step hb ht h0 h9 hk
end
end Go.Proofs.YtgkgkpoeiojmeaaDoor.V
/- The plain statement of FnExactReqWrite. -/
namespace Go.Proofs.YtgkgkpoeiojmeaaDoor.Pure
open Go.RowKit Go.Proofs.YtgkgkpoeiojmeaaDoor.P Go.Proofs.YtgkgkpoeiojmeaaDoor.V Go.Proofs.YtgkgkpoeiojmeaaDoorW.PrintWords Go.Proofs.YtgkgkpoeiojmeaaDoorW.PrintMore
theorem szReq_smallW (c : Int) (a b : ByteArray) (n : Int) (t : ByteArray) (ha : a.size ≤ 9223372036854775807) (hb : b.size ≤ 9223372036854775807) (ht : t.size ≤ 9223372036854775807) :
    ∃ v, laws_szReq.f c a b n t 1048576 = some v ∧ (0 ≤ v → a.size ≤ 1048576 ∧ b.size ≤ 1048576 ∧ t.size ≤ 1048576) := by
  unfold laws_szReq.f
  rw [wrap_id (i := 1048576 - (a.size : Int)) (by omega) (by omega)]
  by_cases h1 : 1048576 - (a.size : Int) < 0
  · rw [if_pos h1]; exact ⟨-1, rfl, fun h => by omega⟩
  rw [if_neg h1, wrap_id (i := 1048576 - (a.size : Int) - (b.size : Int)) (by omega) (by omega)]
  by_cases h2 : 1048576 - (a.size : Int) - (b.size : Int) < 0
  · rw [if_pos h2]; exact ⟨-1, rfl, fun h => by omega⟩
  rw [if_neg h2, wrap_id (i := 1048576 - (a.size : Int) - (b.size : Int) - (t.size : Int)) (by omega) (by omega)]
  by_cases h3 : 1048576 - (a.size : Int) - (b.size : Int) - (t.size : Int) < 0
  · rw [if_pos h3]; exact ⟨-1, rfl, fun h => by omega⟩
  rw [if_neg h3]
  exact ⟨_, rfl, fun h => by omega⟩
theorem FnExactReqWrite : laws_FnExactReqWrite.Pure := by
  intro c a b n t _ ha hb hn ht
  obtain ⟨K, hK⟩ : ∃ K, K = 1048580 := ⟨_, rfl⟩
  refine ⟨K + 1 + 1 + 1 + 1, ?_⟩
  unfold laws_FnExactReqWrite.f
  obtain ⟨v, hv, hv2⟩ := szReq_smallW c a b n t ha hb ht
  rw [hv, Option.bind_some]
  by_cases h : v < 0
  · rw [if_pos h]
  rw [if_neg h]
  obtain ⟨q1, q2, q3⟩ := hv2 (by omega)
  have e1 : impl_ReqWrite.f (K + 1 + 1 + 1 + 1) c a b n t = some (if reqB c a b n t = true then reqT c a b n t else ⟨#[]⟩) := by
    unfold impl_ReqWrite.f
    rw [isReq_eq (by omega) (by omega), Option.bind_some]
    by_cases hr : reqB c a b n t = true
    · obtain ⟨hc, h0, h9⟩ := reqB_in hr
      rw [if_pos hr, if_pos hr, iText_eq (k := K + 1 + 1) hc (by omega) (by omega) (by omega) (by omega) (by omega)]; rfl
    · rw [if_neg hr, if_neg hr]
  have e2 : spec_ReqWrite.f (K + 1 + 1 + 1 + 1) c a b n t = some (if reqB c a b n t = true then reqT c a b n t else ⟨#[]⟩) := by
    unfold spec_ReqWrite.f
    rw [sReq_eq (k := K + 1) (by omega) (by omega) (by omega) (by omega) (by omega), Option.bind_some]
    by_cases hr : reqB c a b n t = true
    · obtain ⟨hc, h0, h9⟩ := reqB_in hr
      rw [if_pos hr, if_pos hr, sText_eq (k := K + 1 + 1) hc (by omega) (by omega) (by omega) (by omega) (by omega) (by omega)]; rfl
    · rw [if_neg hr, if_neg hr]
  simp only [laws_toReq.f, Option.bind_some, e1, e2]
  simp
end Go.Proofs.YtgkgkpoeiojmeaaDoor.Pure
