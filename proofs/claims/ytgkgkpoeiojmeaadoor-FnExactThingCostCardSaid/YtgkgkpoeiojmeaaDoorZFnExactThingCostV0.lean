/- The plain statement of the law FnExactThingCost, proved. -/
import Derived.Test.YtgkgkpoeiojmeaaDoorZFnExactThingCostW0
import Derived.Test.YtgkgkpoeiojmeaaDoorZFnExactThingCost0
import Derived.Test.YtgkgkpoeiojmeaaDoorZFnExactThingCost1
/- Plain lemmas on lists, numbers and strings, for the laws' plain statements. -/
namespace Go.Proofs.YtgkgkpoeiojmeaaDoor.V
open Go.RowKit Go.Proofs.YtgkgkpoeiojmeaaDoorW.PrintWords Go.Proofs.YtgkgkpoeiojmeaaDoorW.PrintMore
theorem succ_of {d k : Nat} (h : d < k) : ∃ m, k = m + 1 := ⟨k - 1, by omega⟩
theorem wrap_id {i : Int} (h : -9223372036854775808 ≤ i) (h' : i ≤ 9223372036854775807) : wrap64 i = i := by unfold wrap64; omega
theorem tl_iff (a b : ByteArray) : a.toList = b.toList ↔ a = b := by
  rw [ByteArray.toList_eq, ByteArray.toList_eq]
  constructor
  · intro h
    cases a; cases b
    simp at h
    simp [h]
  · rintro rfl; rfl
section
variable {α : Type} {pre suf : List α} {x y : α}
theorem mid_lt : ((pre.length : Int) < ((pre ++ x :: suf).length : Int)) := by simp; omega
theorem end_not_lt : ¬ ((pre.length : Int) < ((pre ++ ([] : List α)).length : Int)) := by simp
theorem rdOf_mid (d : α) : rdOf d (pre ++ x :: suf) (pre.length : Int) = x := by simp [rdOf]
theorem set_mid : (pre ++ x :: suf).set ((pre.length : Int)).toNat y = pre ++ y :: suf := by simp
theorem wrap_snoc (h : pre.length < 9223372036854775807) : wrap64 ((pre.length : Int) + 1) = ((pre ++ [x]).length : Int) := by
  rw [wrap_id (by omega) (by omega)]; simp
theorem snoc_app : pre ++ x :: suf = (pre ++ [x]) ++ suf := by simp
end
theorem nat_le0 (n : Nat) : (0 : Int) ≤ (n : Int) := Int.natCast_nonneg n
end Go.Proofs.YtgkgkpoeiojmeaaDoor.V
/- What holds of all bytes of a string, counted from a place on; the order of strings. -/
namespace Go.Proofs.YtgkgkpoeiojmeaaDoor.V
open Go.RowKit Go.Proofs.YtgkgkpoeiojmeaaDoor.P Go.Proofs.YtgkgkpoeiojmeaaDoorW.PrintWords Go.Proofs.YtgkgkpoeiojmeaaDoorW.PrintMore
/-- All of d bytes from i on. -/
def bAll (P : Int → Bool) (s : ByteArray) : Nat → Nat → Bool
  | 0, _ => true
  | d + 1, i => P (bt s i) && bAll P s d (i + 1)
theorem bt_nat (s : ByteArray) (j : Nat) (h : j < s.size) : bt s (j : Nat) = ((s.data.toList[j]'(by simpa using h)).toNat : Int) := by
  unfold bt
  rw [dif_pos (by simpa using h)]
  rfl
end Go.Proofs.YtgkgkpoeiojmeaaDoor.V
/- Names: what the program's test and the reference's tell. -/
namespace Go.Proofs.YtgkgkpoeiojmeaaDoor.V
open Go.RowKit Go.Proofs.YtgkgkpoeiojmeaaDoor.P Go.Proofs.YtgkgkpoeiojmeaaDoorW.PrintWords Go.Proofs.YtgkgkpoeiojmeaaDoorW.PrintMore
def letB (b : UInt8) : Bool := decide (97 ≤ b.toNat ∧ b.toNat ≤ 122)
/-- A name: one letter to six. -/
def nameB (s : ByteArray) : Bool := decide (1 ≤ s.size) && decide (s.size ≤ 6) && s.data.toList.all letB
def abc : ByteArray := (⟨#[97, 98, 99, 100, 101, 102, 103, 104, 105, 106, 107, 108, 109, 110, 111, 112, 113, 114, 115, 116, 117, 118, 119, 120, 121, 122]⟩ : ByteArray)
theorem abc_eq (b : UInt8) : abc.data.toList.contains b = letB b := by
  have h : ∀ n : Fin 256, abc.data.toList.contains (UInt8.ofNat n.1) = letB (UInt8.ofNat n.1) := by decide +kernel
  have := h ⟨b.toNat, b.toNat_lt⟩
  simpa using this
theorem drop_nil {P : UInt8 → Bool} : ∀ l : List UInt8, l.dropWhile P = [] ↔ l.all P = true
  | [] => by simp
  | x :: l => by
    by_cases h : P x = true
    · simp [List.dropWhile, h, drop_nil l]
    · simp [List.dropWhile, h]
theorem take_all {P : UInt8 → Bool} : ∀ l : List UInt8, (l.takeWhile P).all P = true
  | [] => rfl
  | x :: l => by
    by_cases h : P x = true
    · simp only [List.takeWhile, h, List.all_cons, take_all l, Bool.true_and]
    · simp only [List.takeWhile, h]; rfl
theorem size_list (s : ByteArray) : s.size = s.data.toList.length := by rw [Array.length_toList]; rfl
theorem trim_nil (l cs : List UInt8) : Lib.trimS l cs = [] ↔ l.all (fun b => cs.contains b) = true := by
  unfold Lib.trimS Lib.trimLeftS Lib.trimRightS
  rw [drop_nil, List.all_reverse]
  constructor
  · intro h
    have e := List.takeWhile_append_dropWhile (p := fun b => cs.contains b) (l := l.reverse)
    have h2 : l.reverse.all (fun b => cs.contains b) = true := by
      rw [← e, List.all_append, Bool.and_eq_true]
      exact ⟨take_all _, h⟩
    rwa [List.all_reverse] at h2
  · intro h
    have h2 : l.reverse.all (fun b => cs.contains b) = true := by rwa [List.all_reverse]
    rw [(drop_nil l.reverse).2 h2]
    rfl
theorem isName_eq (s : ByteArray) : impl_isName.f s = some (nameB s) := by
  unfold impl_isName.f nameB
  by_cases h1 : 1 ≤ s.size
  · rw [if_pos (by omega)]
    by_cases h2 : s.size ≤ 6
    · rw [if_pos (by omega)]
      unfold strings_Trim.f
      rw [if_pos ⟨by omega, by decide +kernel, by decide +kernel⟩]
      simp only [Option.bind_some, Option.some.injEq]
      rw [decide_eq_true h1, decide_eq_true h2, Bool.true_and, Bool.true_and]
      have e : (⟨(Lib.trimS s.data.toList abc.data.toList).toArray⟩ : ByteArray).toList = Lib.trimS s.data.toList abc.data.toList := by rw [ByteArray.toList_eq]
      show ((⟨(Lib.trimS s.data.toList abc.data.toList).toArray⟩ : ByteArray).toList == []) = _
      rw [e, Bool.eq_iff_iff, beq_iff_eq, trim_nil]
      simp only [abc_eq]
    · rw [if_neg (by omega), decide_eq_false h2]; simp
  · rw [if_neg (by omega), decide_eq_false h1]; simp
theorem sNameOk_l0 : ∀ (suf pre : List UInt8) (s : ByteArray) (k : Nat), s.data.toList = pre ++ suf → s.size ≤ 9223372036854775806 → suf.length < k →
    spec_NameOk.l0 k s (pre.length : Int) = some (suf.all letB && decide (1 ≤ s.size) && decide (s.size ≤ 6)) := by
  intro suf
  induction suf with
  | nil =>
    intro pre s k he hs hk
    obtain ⟨k, rfl⟩ := succ_of hk
    have hz : s.size = pre.length := by rw [size_list, he]; simp
    rw [spec_NameOk.l0, if_neg (by omega)]
    unfold spec_l1In.f
    by_cases h1 : 1 ≤ s.size
    · rw [if_pos (by omega), decide_eq_true h1]
      simp only [List.all_nil, Bool.true_and, Option.bind_some]
      congr 1
      rw [decide_eq_decide]
      omega
    · rw [if_neg (by omega), decide_eq_false h1]; rfl
  | cons x suf ih =>
    intro pre s k he hs hk
    obtain ⟨k, rfl⟩ := succ_of hk
    have hz : s.size = pre.length + (suf.length + 1) := by rw [size_list, he]; simp
    have hb : bt s (pre.length : Int) = (x.toNat : Int) := by
      rw [bt_nat s pre.length (by omega)]
      congr 2
      simp [he]
    have hn := ih (pre ++ [x]) s k (by simp [he]) hs (by simpa using hk)
    rw [spec_NameOk.l0, if_pos (by omega), if_pos (by omega), hb, wrap_id (by omega) (by omega)]
    have e : ((pre.length : Int) + 1) = ((pre ++ [x]).length : Int) := by simp
    rw [e, hn]
    by_cases h1 : (x.toNat : Int) < 97
    · rw [if_pos h1]
      have : letB x = false := by unfold letB; rw [decide_eq_false (by omega)]
      simp [this]
    · rw [if_neg h1]
      by_cases h2 : (x.toNat : Int) > 122
      · rw [if_pos h2]
        have : letB x = false := by unfold letB; rw [decide_eq_false (by omega)]
        simp [this]
      · rw [if_neg h2]
        have : letB x = true := by unfold letB; rw [decide_eq_true (by omega)]
        simp [this]
theorem sNameOk_eq (s : ByteArray) (k : Nat) (hs : s.size ≤ 9223372036854775806) (hk : s.size < k) : spec_NameOk.f k s = some (nameB s) := by
  unfold spec_NameOk.f
  have := sNameOk_l0 s.data.toList [] s k rfl hs (by rw [← size_list]; exact hk)
  rw [show ((([] : List UInt8).length : Nat) : Int) = 0 from rfl] at this
  rw [this, nameB]
  congr 1
  ac_rfl
end Go.Proofs.YtgkgkpoeiojmeaaDoor.V
/- Texts of things: the program's test and the reference's. -/
namespace Go.Proofs.YtgkgkpoeiojmeaaDoor.V
open Go.RowKit Go.Proofs.YtgkgkpoeiojmeaaDoor.P Go.Proofs.YtgkgkpoeiojmeaaDoorW.PrintWords Go.Proofs.YtgkgkpoeiojmeaaDoorW.PrintMore
theorem l1In_eq (a b c : Int) : spec_l1In.f a b c = some (decide (b ≤ a ∧ a ≤ c)) := by
  unfold spec_l1In.f
  by_cases h : a ≥ b
  · rw [if_pos h]; simp [show b ≤ a from h]
  · rw [if_neg h]; simp [show ¬ b ≤ a from h]
def VB (b : Int) : Bool := decide (32 ≤ b) && decide (b ≤ 126)
def valOk (s : ByteArray) : Bool := bAll VB s s.size 0 && decide (s.size ≤ 80)
theorem l4Value_l0 : ∀ (d i : Nat) (s : ByteArray) (k : Nat), i + d = s.size → d < k → s.size ≤ 4611686018427387904 → spec_l4Value.l0 k s (i : Int) = some (bAll VB s d i && decide (s.size ≤ 80)) := by
  intro d
  induction d with
  | zero =>
    intro i s k hi hk hb
    obtain ⟨k, rfl⟩ := succ_of hk
    rw [spec_l4Value.l0, if_neg (by omega)]
    simp only [bAll, Bool.true_and]
    congr 1
    exact decide_eq_decide.2 (by omega)
  | succ d ih =>
    intro i s k hi hk hb
    obtain ⟨k, rfl⟩ := succ_of hk
    rw [spec_l4Value.l0, if_pos (by omega), if_pos (nat_le0 _), bAll]
    have hr : -9223372036854775808 ≤ (i : Int) + 1 := by omega
    by_cases h1 : bt s i < 32
    · rw [if_pos h1]; simp [VB, show ¬ 32 ≤ bt s i by omega]
    · rw [if_neg h1]
      by_cases h2 : bt s i > 126
      · rw [if_pos h2]; simp [VB, show ¬ bt s i ≤ 126 by omega]
      · rw [if_neg h2, wrap_id hr (by omega), show (i : Int) + 1 = ((i + 1 : Nat) : Int) by omega, ih (i + 1) s k (by omega) (by omega) hb]
        simp [VB, show 32 ≤ bt s i by omega, show bt s i ≤ 126 by omega]
theorem l4Value_eq (s : ByteArray) (k : Nat) (hk : s.size < k) (hb : s.size ≤ 4611686018427387904) : spec_l4Value.f k s = some (valOk s) := l4Value_l0 s.size 0 s k (by omega) hk hb
theorem isBetween_l0 : ∀ (d i : Nat) (s : ByteArray) (lo hi : Int) (k : Nat), i + d = s.size → d < k → s.size ≤ 4611686018427387904 → impl_isBetween.l0 k s lo hi (s.size : Int) (i : Int) = some (bAll (fun b => decide (lo ≤ b) && decide (b ≤ hi)) s d i) := by
  intro d
  induction d with
  | zero =>
    intro i s lo hi k hi' hk hb
    obtain ⟨k, rfl⟩ := succ_of hk
    rw [impl_isBetween.l0, if_neg (by omega)]; rfl
  | succ d ih =>
    intro i s lo hi k hi' hk hb
    obtain ⟨k, rfl⟩ := succ_of hk
    rw [impl_isBetween.l0, if_pos (by omega), if_pos (nat_le0 _), if_pos (by omega), bAll]
    by_cases h1 : bt s i < lo
    · rw [if_pos h1]; simp [show ¬ lo ≤ bt s i by omega]
    · rw [if_neg h1]
      by_cases h2 : bt s i > hi
      · rw [if_pos h2]; simp [show ¬ bt s i ≤ hi by omega]
      · rw [if_neg h2, wrap_id (by omega) (by omega), show (i : Int) + 1 = ((i + 1 : Nat) : Int) by omega, ih (i + 1) s lo hi k (by omega) (by omega) hb]
        simp [show lo ≤ bt s i by omega, show bt s i ≤ hi by omega]
theorem isBetween_eq (s : ByteArray) (lo hi : Int) (k : Nat) (hk : s.size < k) (hb : s.size ≤ 4611686018427387904) : impl_isBetween.f k s lo hi = some (bAll (fun b => decide (lo ≤ b) && decide (b ≤ hi)) s s.size 0) := isBetween_l0 s.size 0 s lo hi k (by omega) hk hb
def bodyB (s : ByteArray) : Bool := bAll VB s s.size 0 && decide (s.size ≤ 40)
theorem isBody_eq (s : ByteArray) (k : Nat) (hk : s.size < k) (hb : s.size ≤ 4611686018427387904) : impl_isBody.f k s = some (bodyB s) := by
  unfold impl_isBody.f bodyB
  by_cases h : s.size ≤ 40
  · rw [if_pos (by omega), isBetween_eq s 32 126 k hk hb, Option.bind_some, decide_eq_true h, Bool.and_true]
    rfl
  · rw [if_neg (by omega), decide_eq_false h, Bool.and_false]
theorem l7Body_eq (s : ByteArray) (k : Nat) (hk : s.size < k) (hb : s.size ≤ 4611686018427387904) : spec_l7Body.f k s = some (bodyB s) := by
  unfold spec_l7Body.f bodyB
  rw [l4Value_eq s k hk hb, Option.bind_some]
  unfold valOk
  by_cases h : bAll VB s s.size 0 = true
  · rw [h]
    by_cases h2 : s.size ≤ 80
    · rw [if_pos (by simp [h2])]
      simp only [Bool.true_and]
      congr 1
      exact decide_eq_decide.2 (by omega)
    · rw [if_neg (by simp [h2]), decide_eq_false (by omega)]; rfl
  · rw [Bool.eq_false_iff.2 h, if_neg (by simp)]; rfl
end Go.Proofs.YtgkgkpoeiojmeaaDoor.V
/- When things are ok. -/
namespace Go.Proofs.YtgkgkpoeiojmeaaDoor.V
open Go.RowKit Go.Proofs.YtgkgkpoeiojmeaaDoor.P Go.Proofs.YtgkgkpoeiojmeaaDoorW.PrintWords Go.Proofs.YtgkgkpoeiojmeaaDoorW.PrintMore
def mGo : Option ByteArray → List ByteArray → Bool
  | _, [] => true
  | none, x :: l => nameB x && mGo (some x) l
  | some p, x :: l => nameB x && Op.bytesLess p.toList x.toList && mGo (some x) l
theorem last_rd {pre suf : List ByteArray} {y : ByteArray} : rdOf ByteArray.empty ((pre ++ [y]) ++ suf) (((pre ++ [y]).length : Int) - 1) = y := by
  have : (((pre ++ [y]).length : Int) - 1) = (pre.length : Int) := by simp
  rw [this, List.append_assoc]
  exact rdOf_mid _
theorem l7Marks_l0 : ∀ (suf pre : List ByteArray) (k N : Nat), N + suf.length + 1 < k → (∀ s ∈ suf, s.size < N ∧ s.size ≤ 4611686018427387904) → (pre ++ suf).length ≤ 4611686018427387904 →
    spec_l7Marks.l0 k (pre ++ suf) (pre.length : Int) = some (mGo pre.getLast? suf && decide ((pre ++ suf).length ≤ 2)) := by
  intro suf
  induction suf with
  | nil =>
    intro pre k N hk hs hb
    obtain ⟨k, rfl⟩ := succ_of hk
    rw [spec_l7Marks.l0, if_neg end_not_lt]
    have : mGo pre.getLast? [] = true := by cases pre.getLast? <;> rfl
    rw [this, Bool.true_and]
    congr 1
    exact decide_eq_decide.2 (by omega)
  | cons x suf ih =>
    intro pre k N hk hs hb
    obtain ⟨k, rfl⟩ := succ_of hk
    have hx := hs x (by simp)
    have hlen : pre.length < 4611686018427387904 := by simp at hb; omega
    have hn := ih (pre ++ [x]) k N (by simp at hk; omega) (fun s h => hs s (by simp [h])) (by simpa using hb)
    rw [← snoc_app] at hn
    rw [List.getLast?_concat] at hn
    rw [spec_l7Marks.l0, if_pos mid_lt, if_pos (nat_le0 _), rdOf_mid, sNameOk_eq x k (by omega) (by omega), Option.bind_some, wrap_snoc (x := x) (by omega), hn]
    rcases List.eq_nil_or_concat pre with rfl | ⟨pre', y, rfl⟩
    · cases h : nameB x
      · simp [mGo, h]
      · rw [if_pos rfl, if_neg (by simp)]
        simp [mGo, h]
    · rw [List.concat_eq_append] at *
      cases h : nameB x
      · rw [if_neg (by simp), List.getLast?_concat]; simp [mGo, h]
      · have hp : 0 < (pre' ++ [y]).length := by simp
        rw [if_pos rfl, if_pos (by omega), wrap_id (i := ((pre' ++ [y]).length : Int) - 1) (by omega) (by omega), if_pos (by omega), if_pos (by have := mid_lt (pre := pre' ++ [y]) (suf := suf) (x := x); omega), last_rd, List.getLast?_concat]
        cases h2 : Op.bytesLess y.toList x.toList
        · rw [if_neg (by simp)]; simp [mGo, h, h2]
        · rw [if_pos rfl]; simp [mGo, h, h2]
/-- A thing is ok. -/
def tOk (a b : ByteArray) (u r : Int) (g : Bool) (l : List ByteArray) (d : ByteArray) : Bool := nameB a && nameB b && decide (1 ≤ u ∧ u ≤ 99999) && decide (1 ≤ r ∧ r ≤ 99999) && (mGo none l && decide (l.length ≤ 2)) && bodyB d && (!g || decide (0 < l.length))
theorem sThingOk_eq (a b : ByteArray) (u r : Int) (g : Bool) (l : List ByteArray) (d : ByteArray) (k N : Nat) (hk : N + l.length + 1 < k) (ha : a.size < N) (hb : b.size < N) (hl : ∀ s ∈ l, s.size < N) (hd : d.size < N) (hN : N ≤ 4611686018427387904) (hll : l.length ≤ 4611686018427387904) :
    spec_ThingOk.f k a b u r g l d = some (tOk a b u r g l d) := by
  have hm := l7Marks_l0 l [] k N (by omega) (fun s h => ⟨hl s h, by have := hl s h; omega⟩) (by simpa using hll)
  rw [List.nil_append, show ((([] : List ByteArray).length : Nat) : Int) = 0 from rfl] at hm
  unfold spec_ThingOk.f tOk
  rw [sNameOk_eq a k (by omega) (by omega), Option.bind_some, sNameOk_eq b k (by omega) (by omega), Option.bind_some, l1In_eq, l1In_eq, Option.bind_some, Option.bind_some]
  unfold spec_l7Marks.f
  rw [hm, Option.bind_some, l7Body_eq d k (by omega) (by omega), Option.bind_some]
  show _ = some (nameB a && nameB b && decide (1 ≤ u ∧ u ≤ 99999) && decide (1 ≤ r ∧ r ≤ 99999) && (mGo ([] : List ByteArray).getLast? l && decide (l.length ≤ 2)) && bodyB d && (!g || decide (0 < l.length)))
  cases nameB a
  · rfl
  cases nameB b
  · rfl
  cases h1 : decide (1 ≤ u ∧ u ≤ 99999)
  · rfl
  cases h2 : decide (1 ≤ r ∧ r ≤ 99999)
  · rfl
  cases h3 : (mGo ([] : List ByteArray).getLast? l && decide (l.length ≤ 2))
  · rfl
  cases bodyB d
  · rfl
  cases g
  · rfl
  · simp only [if_true, Bool.true_and, Bool.not_true, Bool.false_or]
    congr 1
    exact decide_eq_decide.2 (by omega)
theorem isThing_l0 (a b : ByteArray) (u r : Int) (g : Bool) (d : ByteArray) (N : Nat) (hN : N ≤ 4611686018427387904) (ha : a.size < N) (hb : b.size < N) (hd : d.size < N) : ∀ (suf pre : List ByteArray) (k : Nat), N + suf.length + 1 < k → (pre ++ suf).length ≤ 4611686018427387904 →
    impl_isThing.l0 k (pre ++ suf) ((pre ++ suf).length : Int) (pre.length : Int) a b u r g (pre ++ suf) d = some (nameB a && nameB b && decide (1 ≤ u ∧ u ≤ 99999) && decide (1 ≤ r ∧ r ≤ 99999) && (mGo pre.getLast? suf && decide ((pre ++ suf).length ≤ 2)) && bodyB d && (!g || decide (0 < (pre ++ suf).length))) := by
  intro suf
  induction suf with
  | nil =>
    intro pre k hk hl
    obtain ⟨k, rfl⟩ := succ_of hk
    rw [impl_isThing.l0, if_neg (by simp), isName_eq, Option.bind_some, isName_eq, Option.bind_some, isBody_eq d k (by omega) (by omega)]
    simp only [Option.bind_some]
    have : mGo pre.getLast? [] = true := by cases pre.getLast? <;> rfl
    rw [this, Bool.true_and, List.append_nil] at *
    generalize pre.length = n at *
    cases nameB a
    · rfl
    cases nameB b
    · rfl
    by_cases h3 : n ≤ 2
    · rw [if_pos rfl, if_pos rfl, if_neg (by omega), decide_eq_true h3]
      by_cases h1 : 1 ≤ u ∧ u ≤ 99999
      · rw [if_pos h1.1, if_pos h1.2, decide_eq_true h1]
        by_cases h2 : 1 ≤ r ∧ r ≤ 99999
        · rw [if_pos h2.1, if_pos h2.2, decide_eq_true h2]
          cases g
          · simp
          · by_cases h4 : 0 < n
            · rw [if_pos rfl, if_neg (by omega), decide_eq_true h4]; simp
            · rw [if_pos rfl, if_pos (by omega), decide_eq_false h4]; simp
        · rw [decide_eq_false h2]
          by_cases h5 : r ≥ 1
          · rw [if_pos h5, if_neg (fun h => h2 ⟨h5, h⟩)]; simp
          · rw [if_neg h5]; simp
      · rw [decide_eq_false h1]
        by_cases h5 : u ≥ 1
        · rw [if_pos h5, if_neg (fun h => h1 ⟨h5, h⟩)]; simp
        · rw [if_neg h5]; simp
    · rw [if_pos rfl, if_pos rfl, if_pos (by omega), decide_eq_false h3]; simp
  | cons x suf ih =>
    intro pre k hk hl
    obtain ⟨k, rfl⟩ := succ_of hk
    have hlen : pre.length < 4611686018427387904 := by simp at hl; omega
    have hn := ih (pre ++ [x]) k (by simp at hk; omega) (by simpa using hl)
    rw [← snoc_app, List.getLast?_concat] at hn
    rw [impl_isThing.l0, if_pos mid_lt, if_pos (nat_le0 _), if_pos mid_lt, rdOf_mid, isName_eq, Option.bind_some, wrap_snoc (x := x) (by omega), hn]
    rcases List.eq_nil_or_concat pre with rfl | ⟨pre', y, rfl⟩
    · cases h : nameB x
      · simp [mGo, h]
      · rw [if_pos rfl, if_neg (by simp)]
        simp [mGo, h]
    · rw [List.concat_eq_append] at *
      cases h : nameB x
      · rw [if_neg (by simp), List.getLast?_concat]; simp [mGo, h]
      · have hp : 0 < (pre' ++ [y]).length := by simp
        rw [if_pos rfl, if_pos (by omega), wrap_id (i := ((pre' ++ [y]).length : Int) - 1) (by omega) (by omega), if_pos (by omega), if_pos (by have := mid_lt (pre := pre' ++ [y]) (suf := suf) (x := x); omega), last_rd, List.getLast?_concat]
        cases h2 : Op.bytesLess y.toList x.toList
        · rw [if_neg (by simp)]; simp [mGo, h, h2]
        · rw [if_pos rfl]; simp [mGo, h, h2]
theorem isThing_eq (a b : ByteArray) (u r : Int) (g : Bool) (l : List ByteArray) (d : ByteArray) (k N : Nat) (hk : N + l.length + 1 < k) (ha : a.size < N) (hb : b.size < N) (hd : d.size < N) (hN : N ≤ 4611686018427387904) (hll : l.length ≤ 4611686018427387904) :
    impl_isThing.f k a b u r g l d = some (tOk a b u r g l d) := by
  have := isThing_l0 a b u r g d N hN ha hb hd l [] k hk (by simpa using hll)
  rw [List.nil_append, show ((([] : List ByteArray).length : Nat) : Int) = 0 from rfl] at this
  unfold impl_isThing.f
  rw [this]; rfl
end Go.Proofs.YtgkgkpoeiojmeaaDoor.V
/- What the helpers over lists of strings tell: equality, sizes, copies. -/
namespace Go.Proofs.YtgkgkpoeiojmeaaDoor.V
open Go.RowKit Go.Proofs.YtgkgkpoeiojmeaaDoor.P Go.Proofs.YtgkgkpoeiojmeaaDoorW.PrintWords Go.Proofs.YtgkgkpoeiojmeaaDoorW.PrintMore
theorem eqStringS_l0 : ∀ (sa sb pa pb : List ByteArray) (k : Nat), pa.length = pb.length → sa.length = sb.length → sa.length < k → (pa ++ sa).length < 9223372036854775807 →
    laws_eqStringS.l0 k (pa ++ sa) (pb ++ sb) (pa.length : Int) = some (decide (sa = sb)) := by
  intro sa
  induction sa with
  | nil =>
    intro sb pa pb k hp hs hk hb
    obtain ⟨k, rfl⟩ := succ_of hk
    obtain rfl : sb = [] := List.eq_nil_of_length_eq_zero hs.symm
    rw [laws_eqStringS.l0, if_neg end_not_lt]; rfl
  | cons x sa ih =>
    intro sb pa pb k hp hs hk hb
    obtain ⟨k, rfl⟩ := succ_of hk
    cases sb with
    | nil => simp at hs
    | cons y sb =>
      rw [laws_eqStringS.l0, if_pos mid_lt, if_pos (nat_le0 _), if_pos (by rw [hp]; exact mid_lt), rdOf_mid, hp, rdOf_mid, ← hp]
      by_cases hxy : x = y
      · subst hxy
        rw [if_pos rfl, wrap_snoc (x := x) (by simp at hb; omega), snoc_app, snoc_app (pre := pb), ih sb (pa ++ [x]) (pb ++ [x]) k (by simp [hp]) (by simpa using hs) (by simpa using hk) (by simpa using hb)]
        simp
      · rw [if_neg (by rw [tl_iff]; exact hxy)]
        simp [hxy]
theorem eqStringS_eq (a b : List ByteArray) (k : Nat) (hk : a.length < k) (hb : a.length < 9223372036854775807) : laws_eqStringS.f k a b = some (decide (a = b)) := by
  unfold laws_eqStringS.f
  by_cases h : a.length = b.length
  · rw [if_pos (by rw [h])]
    exact eqStringS_l0 a b [] [] k rfl h hk hb
  · rw [if_neg (by omega)]
    have : a ≠ b := fun e => h (by rw [e])
    simp [this]
/-- What is left of a size, -1 for less than nothing. -/
def szS : List ByteArray → Int → Int
  | [], left => left
  | s :: r, left => if left - s.size < 0 then -1 else szS r (left - s.size)
theorem szStringS_l0 : ∀ (suf pre : List ByteArray) (left : Int) (k : Nat), suf.length < k → 0 ≤ left → left ≤ 4611686018427387904 → (∀ s ∈ suf, s.size ≤ 9223372036854775807) → (pre ++ suf).length < 9223372036854775807 →
    laws_szStringS.l0 k (pre ++ suf) left (pre.length : Int) = some (szS suf left) := by
  intro suf
  induction suf with
  | nil =>
    intro pre left k hk h0 h1 hs hb
    obtain ⟨k, rfl⟩ := succ_of hk
    rw [laws_szStringS.l0, if_neg end_not_lt]; rfl
  | cons x suf ih =>
    intro pre left k hk h0 h1 hs hb
    obtain ⟨k, rfl⟩ := succ_of hk
    have hx := hs x (by simp)
    rw [laws_szStringS.l0, if_pos mid_lt, if_pos (nat_le0 _), rdOf_mid, wrap_id (i := left - x.size) (by omega) (by omega), szS]
    by_cases hl : left - x.size < 0
    · rw [if_pos hl, if_pos hl]
    · rw [if_neg hl, if_neg hl, wrap_snoc (x := x) (by simp at hb; omega), snoc_app, ih (pre ++ [x]) _ k (by simpa using hk) (by omega) (by omega) (fun s h => hs s (by simp [h])) (by simpa using hb)]
/-- The size of strings, where it is enough. -/
theorem szS_pos : ∀ (l : List ByteArray) (left : Int), 0 ≤ szS l left → szS l left ≤ left
  | [], left, _ => by simp [szS]
  | s :: r, left, h => by
    rw [szS] at h ⊢
    by_cases hl : left - s.size < 0
    · rw [if_pos hl] at h; omega
    · rw [if_neg hl] at h ⊢
      have := szS_pos r _ h
      omega
theorem szStringS_eq (l : List ByteArray) (left : Int) (k : Nat) (hk : l.length < k) (h0 : 0 ≤ left) (h1 : left ≤ 4611686018427387904) (hs : ∀ s ∈ l, s.size ≤ 9223372036854775807) (hb : l.length ≤ 9223372036854775807) :
    laws_szStringS.f k l left = some (if left - l.length < 0 then -1 else szS l (left - l.length)) := by
  unfold laws_szStringS.f
  rw [wrap_id (by omega) (by omega)]
  by_cases hl : left - l.length < 0
  · rw [if_pos hl, if_pos hl]
  · rw [if_neg hl, if_neg hl]
    exact szStringS_l0 l [] _ k hk (by omega) (by omega) hs (by simp; omega)
theorem toStringS_l0 : ∀ (suf pre zs : List ByteArray) (k : Nat), zs.length = suf.length → suf.length < k → (pre ++ suf).length < 9223372036854775807 →
    laws_toStringS.l0 k (pre ++ suf) (pre ++ zs) (pre.length : Int) = some (pre ++ suf) := by
  intro suf
  induction suf with
  | nil =>
    intro pre zs k hz hk hb
    obtain ⟨k, rfl⟩ := succ_of hk
    obtain rfl : zs = [] := List.eq_nil_of_length_eq_zero hz
    rw [laws_toStringS.l0, if_neg end_not_lt]
  | cons x suf ih =>
    intro pre zs k hz hk hb
    obtain ⟨k, rfl⟩ := succ_of hk
    cases zs with
    | nil => simp at hz
    | cons z zs =>
      rw [laws_toStringS.l0, if_pos mid_lt, if_pos (nat_le0 _), if_pos mid_lt, rdOf_mid, set_mid, wrap_snoc (x := x) (by simp at hb; omega), snoc_app, snoc_app (suf := zs), ih (pre ++ [x]) zs k (by simpa using hz) (by simpa using hk) (by simpa using hb)]
theorem toStringS_eq (l : List ByteArray) (k : Nat) (hk : l.length < k) (hb : l.length ≤ 1000000000000) : laws_toStringS.f k l = some l := by
  unfold laws_toStringS.f
  rw [if_pos (nat_le0 _), if_pos (by omega)]
  have h := toStringS_l0 l [] (List.replicate ((l.length : Int)).toNat (⟨#[]⟩ : ByteArray)) k (by simp) hk (by simp; omega)
  simpa using h
end Go.Proofs.YtgkgkpoeiojmeaaDoor.V
/- The laws' own helpers over things. -/
namespace Go.Proofs.YtgkgkpoeiojmeaaDoor.V
open Go.RowKit Go.Proofs.YtgkgkpoeiojmeaaDoor.P Go.Proofs.YtgkgkpoeiojmeaaDoorW.PrintWords Go.Proofs.YtgkgkpoeiojmeaaDoorW.PrintMore
theorem szS_all : ∀ (l : List ByteArray) (left : Int), 0 ≤ szS l left → ∀ s ∈ l, (s.size : Int) ≤ left
  | [], left, _, s, h => by cases h
  | t :: r, left, h, s, hs => by
    rw [szS] at h
    by_cases hl : left - t.size < 0
    · rw [if_pos hl] at h; omega
    · rw [if_neg hl] at h
      rcases List.mem_cons.1 hs with rfl | hs
      · omega
      · have := szS_all r _ h s hs; omega
theorem szThing_eq (a b : ByteArray) (u r : Int) (g : Bool) (l : List ByteArray) (d : ByteArray) (left : Int) (k : Nat) (hk : left < k) (h0 : 0 ≤ left) (h9 : left ≤ 4611686018427387904) (ha : a.size ≤ 9223372036854775807) (hb : b.size ≤ 9223372036854775807) (hl : l.length ≤ 9223372036854775807) (hls : ∀ s ∈ l, s.size ≤ 9223372036854775807) (hd : d.size ≤ 9223372036854775807) :
    ∃ k' ≥ k, ∀ K ≥ k', ∃ v, laws_szThing.f K a b u r g l d left = some v ∧ (0 ≤ v → v ≤ left ∧ (a.size : Int) ≤ left ∧ (b.size : Int) ≤ left ∧ (l.length : Int) ≤ left ∧ (∀ s ∈ l, (s.size : Int) ≤ left) ∧ (d.size : Int) ≤ left) := by
  refine ⟨k + l.length + 1, by omega, fun K hK => ?_⟩
  unfold laws_szThing.f
  rw [wrap_id (i := left - (a.size : Int)) (by omega) (by omega)]
  by_cases h1 : left - (a.size : Int) < 0
  · rw [if_pos h1]; exact ⟨-1, rfl, fun h => by omega⟩
  rw [if_neg h1, wrap_id (i := left - (a.size : Int) - (b.size : Int)) (by omega) (by omega)]
  by_cases h2 : left - (a.size : Int) - (b.size : Int) < 0
  · rw [if_pos h2]; exact ⟨-1, rfl, fun h => by omega⟩
  rw [if_neg h2, szStringS_eq l _ K (by omega) (by omega) (by omega) hls hl, Option.bind_some]
  by_cases h3 : left - (a.size : Int) - (b.size : Int) - (l.length : Int) < 0
  · rw [if_pos h3, if_pos (by omega)]; exact ⟨-1, rfl, fun h => by omega⟩
  rw [if_neg h3]
  by_cases h4 : szS l (left - (a.size : Int) - (b.size : Int) - (l.length : Int)) < 0
  · rw [if_pos h4]; exact ⟨-1, rfl, fun h => by omega⟩
  have h5 := szS_pos l (left - (a.size : Int) - (b.size : Int) - (l.length : Int)) (by omega)
  have h6 := szS_all l (left - (a.size : Int) - (b.size : Int) - (l.length : Int)) (by omega)
  rw [if_neg h4, wrap_id (by omega) (by omega)]
  by_cases h7 : szS l (left - (a.size : Int) - (b.size : Int) - (l.length : Int)) - (d.size : Int) < 0
  · rw [if_pos h7]; exact ⟨-1, rfl, fun h => by omega⟩
  · rw [if_neg h7]
    exact ⟨_, rfl, fun h => ⟨by omega, by omega, by omega, by omega, fun s hs => by have := h6 s hs; omega, by omega⟩⟩
theorem toThing_eq (a b : ByteArray) (u r : Int) (g : Bool) (l : List ByteArray) (d : ByteArray) (k : Nat) (hk : l.length < k) (hb : l.length ≤ 1000000000000) : laws_toThing.f k a b u r g l d = some (a, b, u, r, g, l, d) := by
  unfold laws_toThing.f
  rw [toStringS_eq l k hk hb]; rfl
theorem eqThing_refl (a b : ByteArray) (u r : Int) (g : Bool) (l : List ByteArray) (d : ByteArray) (k : Nat) (hk : l.length < k) (hb : l.length < 9223372036854775807) : laws_eqThing.f k a b u r g l d a b u r g l d = some true := by
  unfold laws_eqThing.f
  rw [if_pos rfl, if_pos rfl, if_pos rfl, if_pos rfl, if_neg (by simp), eqStringS_eq l l k hk hb]
  simp
end Go.Proofs.YtgkgkpoeiojmeaaDoor.V
/- The plain statement of FnExactThingCost. -/
namespace Go.Proofs.YtgkgkpoeiojmeaaDoor.Pure
open Go.RowKit Go.Proofs.YtgkgkpoeiojmeaaDoor.P Go.Proofs.YtgkgkpoeiojmeaaDoor.V Go.Proofs.YtgkgkpoeiojmeaaDoorW.PrintWords Go.Proofs.YtgkgkpoeiojmeaaDoorW.PrintMore
theorem ThingCost_eq (a b : ByteArray) (u r : Int) (g : Bool) (l : List ByteArray) (d : ByteArray) (k : Nat) (h : impl_isThing.f k a b u r g l d = some (tOk a b u r g l d)) : impl_ThingCost.f k a b u r g l d = some (if tOk a b u r g l d = true then wrap64 (1 + (d.size : Int)) else 0) := by
  unfold impl_ThingCost.f impl_costOf.f
  rw [h, Option.bind_some]
  by_cases h1 : tOk a b u r g l d = true
  · rw [if_pos h1, if_pos h1, Option.bind_some]
  · rw [if_neg h1, if_neg h1]
theorem sThingCost_eq (a b : ByteArray) (u r : Int) (g : Bool) (l : List ByteArray) (d : ByteArray) (k : Nat) (h : spec_ThingOk.f k a b u r g l d = some (tOk a b u r g l d)) : spec_ThingCost.f k a b u r g l d = some (if tOk a b u r g l d = true then wrap64 (1 + (d.size : Int)) else 0) := by
  unfold spec_ThingCost.f
  rw [h, Option.bind_some]
  by_cases h1 : tOk a b u r g l d = true
  · rw [if_pos h1, if_pos h1]
  · rw [if_neg h1, if_neg h1]
theorem FnExactThingCost : laws_FnExactThingCost.Pure := by
  intro a b u r g l d ha hb _ _ hl hd
  obtain ⟨K0, hK0⟩ : ∃ K, K = 4000000 := ⟨_, rfl⟩
  obtain ⟨k', hk', hsz⟩ := szThing_eq a b u r g l d 1048576 K0 (by omega) (by omega) (by omega) ha hb hl.1 hl.2 hd
  refine ⟨k', ?_⟩
  obtain ⟨v, hv, hv2⟩ := hsz k' (Nat.le_refl _)
  unfold laws_FnExactThingCost.f
  rw [hv, Option.bind_some]
  by_cases h : v < 0
  · rw [if_pos h]
  obtain ⟨-, q1, q2, q3, q4, q5⟩ := hv2 (by omega)
  rw [if_neg h]
  have h1 := ThingCost_eq a b u r g l d k' (isThing_eq a b u r g l d k' 1048577 (by omega) (by omega) (by omega) (by omega) (by omega) (by omega))
  have h2 := sThingCost_eq a b u r g l d k' (sThingOk_eq a b u r g l d k' 1048577 (by omega) (by omega) (by omega) (fun s hs => by have := q4 s hs; omega) (by omega) (by omega) (by omega))
  generalize (if tOk a b u r g l d = true then wrap64 (1 + (d.size : Int)) else 0) = z at h1 h2
  simp only [toThing_eq a b u r g l d k' (by omega) (by omega), Option.bind_some, h1, h2, eqThing_refl a b u r g l d k' (by omega) (by omega), if_true]
end Go.Proofs.YtgkgkpoeiojmeaaDoor.Pure
