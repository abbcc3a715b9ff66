/- The plain statement of the law FnExactThingKey, proved. -/
import Derived.Test.YtgkgkpoeiojmeaaDoorZFnExactThingKeyW0
import Derived.Test.YtgkgkpoeiojmeaaDoorZFnExactThingKey0
/- Plain lemmas on lists, numbers and strings, for the laws' plain statements. -/
namespace Go.Proofs.YtgkgkpoeiojmeaaDoor.V
open Go.RowKit Go.Proofs.YtgkgkpoeiojmeaaDoorW.PrintWords Go.Proofs.YtgkgkpoeiojmeaaDoorW.PrintMore
theorem succ_of {d k : Nat} (h : d < k) : ∃ m, k = m + 1 := ⟨k - 1, by omega⟩
theorem wrap_id {i : Int} (h : -9223372036854775808 ≤ i) (h' : i ≤ 9223372036854775807) : wrap64 i = i := by unfold wrap64; omega
section
variable {α : Type} {pre suf : List α} {x y : α}
end
end Go.Proofs.YtgkgkpoeiojmeaaDoor.V
/- What holds of all bytes of a string, counted from a place on; the order of strings. -/
namespace Go.Proofs.YtgkgkpoeiojmeaaDoor.V
open Go.RowKit Go.Proofs.YtgkgkpoeiojmeaaDoor.P Go.Proofs.YtgkgkpoeiojmeaaDoorW.PrintWords Go.Proofs.YtgkgkpoeiojmeaaDoorW.PrintMore
theorem bt_nat (s : ByteArray) (j : Nat) (h : j < s.size) : bt s (j : Nat) = ((s.data.toList[j]'(by simpa using h)).toNat : Int) := by
  unfold bt
  rw [dif_pos (by simpa using h)]
  rfl
end Go.Proofs.YtgkgkpoeiojmeaaDoor.V
/- Names: what the program's test and the reference's tell. -/
namespace Go.Proofs.YtgkgkpoeiojmeaaDoor.V
open Go.RowKit Go.Proofs.YtgkgkpoeiojmeaaDoor.P Go.Proofs.YtgkgkpoeiojmeaaDoorW.PrintWords Go.Proofs.YtgkgkpoeiojmeaaDoorW.PrintMore
def letB (b : UInt8) : Bool := decide (97 ≤ b.toNat ∧ b.toNat ≤ 122)
/-- A name: one letter to six. -/
def nameB (s : ByteArray) : Bool := decide (1 ≤ s.size) && decide (s.size ≤ 6) && s.data.toList.all letB
def abc : ByteArray := (⟨#[97, 98, 99, 100, 101, 102, 103, 104, 105, 106, 107, 108, 109, 110, 111, 112, 113, 114, 115, 116, 117, 118, 119, 120, 121, 122]⟩ : ByteArray)
theorem abc_eq (b : UInt8) : abc.data.toList.contains b = letB b := by
  have h : ∀ n : Fin 256, abc.data.toList.contains (UInt8.ofNat n.1) = letB (UInt8.ofNat n.1) := by decide +kernel
  have := h ⟨b.toNat, b.toNat_lt⟩
  simpa using this
theorem drop_nil {P : UInt8 → Bool} : ∀ l : List UInt8, l.dropWhile P = [] ↔ l.all P = true
  | [] => by simp
  | x :: l => by
    by_cases h : P x = true
    · simp [List.dropWhile, h, drop_nil l]
    · simp [List.dropWhile, h]
theorem take_all {P : UInt8 → Bool} : ∀ l : List UInt8, (l.takeWhile P).all P = true
  | [] => rfl
  | x :: l => by
    by_cases h : P x = true
    · simp only [List.takeWhile, h, List.all_cons, take_all l, Bool.true_and]
    · simp only [List.takeWhile, h]; rfl
theorem size_list (s : ByteArray) : s.size = s.data.toList.length := by rw [Array.length_toList]; rfl
theorem trim_nil (l cs : List UInt8) : Lib.trimS l cs = [] ↔ l.all (fun b => cs.contains b) = true := by
  unfold Lib.trimS Lib.trimLeftS Lib.trimRightS
  rw [drop_nil, List.all_reverse]
  constructor
  · intro h
    have e := List.takeWhile_append_dropWhile (p := fun b => cs.contains b) (l := l.reverse)
    have h2 : l.reverse.all (fun b => cs.contains b) = true := by
      rw [← e, List.all_append, Bool.and_eq_true]
      exact ⟨take_all _, h⟩
    rwa [List.all_reverse] at h2
  · intro h
    have h2 : l.reverse.all (fun b => cs.contains b) = true := by rwa [List.all_reverse]
    rw [(drop_nil l.reverse).2 h2]
    rfl
theorem isName_eq (s : ByteArray) : impl_isName.f s = some (nameB s) := by
  unfold impl_isName.f nameB
  by_cases h1 : 1 ≤ s.size
  · rw [if_pos (by omega)]
    by_cases h2 : s.size ≤ 6
    · rw [if_pos (by omega)]
      unfold strings_Trim.f
      rw [if_pos ⟨by omega, by decide +kernel, by decide +kernel⟩]
      simp only [Option.bind_some, Option.some.injEq]
      rw [decide_eq_true h1, decide_eq_true h2, Bool.true_and, Bool.true_and]
      have e : (⟨(Lib.trimS s.data.toList abc.data.toList).toArray⟩ : ByteArray).toList = Lib.trimS s.data.toList abc.data.toList := by rw [ByteArray.toList_eq]
      show ((⟨(Lib.trimS s.data.toList abc.data.toList).toArray⟩ : ByteArray).toList == []) = _
      rw [e, Bool.eq_iff_iff, beq_iff_eq, trim_nil]
      simp only [abc_eq]
    · rw [if_neg (by omega), decide_eq_false h2]; simp
  · rw [if_neg (by omega), decide_eq_false h1]; simp
theorem sNameOk_l0 : ∀ (suf pre : List UInt8) (s : ByteArray) (k : Nat), s.data.toList = pre ++ suf → s.size ≤ 9223372036854775806 → suf.length < k →
    spec_NameOk.l0 k s (pre.length : Int) = some (suf.all letB && decide (1 ≤ s.size) && decide (s.size ≤ 6)) := by
  intro suf
  induction suf with
  | nil =>
    intro pre s k he hs hk
    obtain ⟨k, rfl⟩ := succ_of hk
    have hz : s.size = pre.length := by rw [size_list, he]; simp
    rw [spec_NameOk.l0, if_neg (by omega)]
    unfold spec_l1In.f
    by_cases h1 : 1 ≤ s.size
    · rw [if_pos (by omega), decide_eq_true h1]
      simp only [List.all_nil, Bool.true_and, Option.bind_some]
      congr 1
      rw [decide_eq_decide]
      omega
    · rw [if_neg (by omega), decide_eq_false h1]; rfl
  | cons x suf ih =>
    intro pre s k he hs hk
    obtain ⟨k, rfl⟩ := succ_of hk
    have hz : s.size = pre.length + (suf.length + 1) := by rw [size_list, he]; simp
    have hb : bt s (pre.length : Int) = (x.toNat : Int) := by
      rw [bt_nat s pre.length (by omega)]
      congr 2
      simp [he]
    have hn := ih (pre ++ [x]) s k (by simp [he]) hs (by simpa using hk)
    rw [spec_NameOk.l0, if_pos (by omega), if_pos (by omega), hb, wrap_id (by omega) (by omega)]
    have e : ((pre.length : Int) + 1) = ((pre ++ [x]).length : Int) := by simp
    rw [e, hn]
    by_cases h1 : (x.toNat : Int) < 97
    · rw [if_pos h1]
      have : letB x = false := by unfold letB; rw [decide_eq_false (by omega)]
      simp [this]
    · rw [if_neg h1]
      by_cases h2 : (x.toNat : Int) > 122
      · rw [if_pos h2]
        have : letB x = false := by unfold letB; rw [decide_eq_false (by omega)]
        simp [this]
      · rw [if_neg h2]
        have : letB x = true := by unfold letB; rw [decide_eq_true (by omega)]
        simp [this]
theorem sNameOk_eq (s : ByteArray) (k : Nat) (hs : s.size ≤ 9223372036854775806) (hk : s.size < k) : spec_NameOk.f k s = some (nameB s) := by
  unfold spec_NameOk.f
  have := sNameOk_l0 s.data.toList [] s k rfl hs (by rw [← size_list]; exact hk)
  rw [show ((([] : List UInt8).length : Nat) : Int) = 0 from rfl] at this
  rw [this, nameB]
  congr 1
  ac_rfl
theorem nameB_size {s : ByteArray} (h : nameB s = true) : 1 ≤ s.size ∧ s.size ≤ 6 := by
  unfold nameB at h
  simp only [Bool.and_eq_true, decide_eq_true_eq] at h
  exact h.1
end Go.Proofs.YtgkgkpoeiojmeaaDoor.V
/- Keys of things. -/
namespace Go.Proofs.YtgkgkpoeiojmeaaDoor.V
open Go.RowKit Go.Proofs.YtgkgkpoeiojmeaaDoor.P Go.Proofs.YtgkgkpoeiojmeaaDoorW.PrintWords Go.Proofs.YtgkgkpoeiojmeaaDoorW.PrintMore
def keyT (a b : ByteArray) : ByteArray := if nameB a = true ∧ nameB b = true then ((((⟨#[116, 46]⟩ : ByteArray) ++ a) ++ (⟨#[46]⟩ : ByteArray)) ++ b) else (⟨#[]⟩ : ByteArray)
theorem ThingKey_eq (a b : ByteArray) : impl_ThingKey.f a b = some (keyT a b) := by
  unfold impl_ThingKey.f keyT
  rw [isName_eq, Option.bind_some]
  by_cases h1 : nameB a = true
  · rw [if_pos h1, isName_eq, Option.bind_some]
    by_cases h2 : nameB b = true
    · have := nameB_size h1; have := nameB_size h2
      rw [if_pos h2, if_pos (by omega), if_pos (by omega), if_pos (by omega), if_pos ⟨h1, h2⟩]
    · rw [if_neg h2, if_neg (fun h => h2 h.2)]
  · rw [if_neg h1, if_neg (fun h => h1 h.1)]
theorem sThingKey_eq (a b : ByteArray) (k : Nat) (ha : a.size ≤ 9223372036854775806) (hb : b.size ≤ 9223372036854775806) (hka : a.size < k) (hkb : b.size < k) : spec_ThingKey.f k a b = some (keyT a b) := by
  unfold spec_ThingKey.f keyT
  rw [sNameOk_eq a k ha hka, Option.bind_some]
  by_cases h1 : nameB a = true
  · rw [if_pos h1, sNameOk_eq b k hb hkb, Option.bind_some]
    by_cases h2 : nameB b = true
    · have := nameB_size h1; have := nameB_size h2
      rw [if_pos h2, if_pos (by omega), if_pos (by omega), if_pos (by omega), if_pos ⟨h1, h2⟩]
    · rw [if_neg h2, if_neg (fun h => h2 h.2)]
  · rw [if_neg h1, if_neg (fun h => h1 h.1)]
end Go.Proofs.YtgkgkpoeiojmeaaDoor.V
/- The plain statement of FnExactThingKey. -/
namespace Go.Proofs.YtgkgkpoeiojmeaaDoor.Pure
open Go.RowKit Go.Proofs.YtgkgkpoeiojmeaaDoor.P Go.Proofs.YtgkgkpoeiojmeaaDoor.V Go.Proofs.YtgkgkpoeiojmeaaDoorW.PrintWords Go.Proofs.YtgkgkpoeiojmeaaDoorW.PrintMore
theorem FnExactThingKey : laws_FnExactThingKey.Pure := by
  intro s t _ _
  obtain ⟨K, hK⟩ : ∃ K, K = 1060000 := ⟨_, rfl⟩
  refine ⟨K + 1, ?_⟩
  unfold laws_FnExactThingKey.f
  by_cases hc : (s.size : Int) > 1048576
  · rw [if_pos hc]
  by_cases hd : (t.size : Int) > 1048576
  · rw [if_neg hc, if_pos hd]
  rw [if_neg hc, if_neg hd, sThingKey_eq s t (K + 1) (by omega) (by omega) (by omega) (by omega), ThingKey_eq]
  simp
end Go.Proofs.YtgkgkpoeiojmeaaDoor.Pure
