/- The plain statement of the law FnExactWireGet, proved. -/
import Derived.Test.YtgkgkpoeiojmeaaDoorZFnExactWireGetW0
import Derived.Test.YtgkgkpoeiojmeaaDoorZFnExactWireGet0
import Derived.Lib.Atoi
/- Plain lemmas on lists, numbers and strings, for the laws' plain statements. -/
namespace Go.Proofs.YtgkgkpoeiojmeaaDoor.V
open Go.RowKit Go.Proofs.YtgkgkpoeiojmeaaDoorW.PrintWords Go.Proofs.YtgkgkpoeiojmeaaDoorW.PrintMore
theorem succ_of {d k : Nat} (h : d < k) : ∃ m, k = m + 1 := ⟨k - 1, by omega⟩
theorem wrap_id {i : Int} (h : -9223372036854775808 ≤ i) (h' : i ≤ 9223372036854775807) : wrap64 i = i := by unfold wrap64; omega
theorem tl_iff (a b : ByteArray) : a.toList = b.toList ↔ a = b := by
  rw [ByteArray.toList_eq, ByteArray.toList_eq]
  constructor
  · intro h
    cases a; cases b
    simp at h
    simp [h]
  · rintro rfl; rfl
section
variable {α : Type} {pre suf : List α} {x y : α}
theorem mid_lt : ((pre.length : Int) < ((pre ++ x :: suf).length : Int)) := by simp; omega
theorem end_not_lt : ¬ ((pre.length : Int) < ((pre ++ ([] : List α)).length : Int)) := by simp
theorem rdOf_mid (d : α) : rdOf d (pre ++ x :: suf) (pre.length : Int) = x := by simp [rdOf]
theorem set_mid : (pre ++ x :: suf).set ((pre.length : Int)).toNat y = pre ++ y :: suf := by simp
theorem wrap_snoc (h : pre.length < 9223372036854775807) : wrap64 ((pre.length : Int) + 1) = ((pre ++ [x]).length : Int) := by
  rw [wrap_id (by omega) (by omega)]; simp
theorem snoc_app : pre ++ x :: suf = (pre ++ [x]) ++ suf := by simp
end
theorem nat_le0 (n : Nat) : (0 : Int) ≤ (n : Int) := Int.natCast_nonneg n
end Go.Proofs.YtgkgkpoeiojmeaaDoor.V
/- The text of a mark. -/
namespace Go.Proofs.YtgkgkpoeiojmeaaDoor.V
open Go.RowKit Go.Proofs.YtgkgkpoeiojmeaaDoor.P Go.Proofs.YtgkgkpoeiojmeaaDoorW.PrintWords Go.Proofs.YtgkgkpoeiojmeaaDoorW.PrintMore
theorem strOfNums_one (n : Int) : (strOfNums [n]).size = 1 := by simp [strOfNums, ByteArray.size]
theorem markText_l0 : ∀ (d k : Nat) (n : Int) (s : ByteArray), 0 ≤ n → n ≤ 9223372036854775807 → n < 10 ^ d → d < k → s.size + d + 1 ≤ 9223372036854775807 →
    ∃ r : ByteArray, laws_markText.l0 k n s = some r := by
  intro d
  induction d with
  | zero =>
    intro k n s h0 h9 h1 hk hs
    obtain ⟨k, rfl⟩ := succ_of hk
    exact ⟨(⟨#[109]⟩ : ByteArray) ++ s, by rw [laws_markText.l0, if_neg (by simp at h1; omega), if_pos (by omega)]⟩
  | succ d ih =>
    intro k n s h0 h9 h1 hk hs
    obtain ⟨k, rfl⟩ := succ_of hk
    by_cases hn : n > 0
    · have hd : Int.tdiv n 10 = n / 10 := Int.tdiv_eq_ediv_of_nonneg h0
      have h2 : wrap64 (Int.tdiv n 10) = n / 10 := by rw [hd, wrap_id (by omega) (by omega)]
      have hp : (10 : Int) ^ (d + 1) = 10 ^ d * 10 := Int.pow_succ 10 d
      rw [hp] at h1
      obtain ⟨r, hr⟩ := ih k (n / 10) (strOfNums [(wrap64 (48 + (Int.tmod n 10))) % 256] ++ s) (by omega) (by omega) (by omega) (by omega) (by simp only [ByteArray.size_append, strOfNums_one]; omega)
      exact ⟨r, by rw [laws_markText.l0, if_pos hn, Option.bind_some, if_pos (by rw [strOfNums_one]; omega), h2]; exact hr⟩
    · exact ⟨(⟨#[109]⟩ : ByteArray) ++ s, by rw [laws_markText.l0, if_neg hn, if_pos (by omega)]⟩
/-- The text of a mark. -/
def mt (n : Int) : ByteArray := (laws_markText.f 25 n).getD ⟨#[]⟩
theorem markText_eq {n : Int} (h9 : n ≤ 9223372036854775807) {k : Nat} (hk : 25 ≤ k) : laws_markText.f k n = some (mt n) := by
  have h : ∃ r, laws_markText.f 25 n = some r := by
    unfold laws_markText.f
    by_cases hn : n ≤ 0
    · exact ⟨_, by rw [if_pos hn]⟩
    · rw [if_neg hn]
      exact markText_l0 20 25 n _ (by omega) h9 (by omega) (by omega) (by decide)
  obtain ⟨r, hr⟩ := h
  have : mt n = r := by unfold mt; rw [hr]; rfl
  rw [this]
  exact at_rounds (g := fun k => laws_markText.f k n) (fun k => laws_markText.mono n k) hk hr
end Go.Proofs.YtgkgkpoeiojmeaaDoor.V
/- Marks that the laws lay on strings. -/
namespace Go.Proofs.YtgkgkpoeiojmeaaDoor.V
open Go.RowKit Go.Proofs.YtgkgkpoeiojmeaaDoor.P Go.Proofs.YtgkgkpoeiojmeaaDoorW.PrintWords Go.Proofs.YtgkgkpoeiojmeaaDoorW.PrintMore
def markedS : Nat → Int → List ByteArray
  | 0, _ => []
  | n + 1, m => mt m :: markedS n (m + 1)
theorem markStringS_l0 : ∀ (suf pre : List ByteArray) (m : Int) (k : Nat), suf.length + 25 < k → 0 ≤ m → m + suf.length ≤ 4611686018427387904 → (pre ++ suf).length < 9223372036854775807 →
    laws_markStringS.l0 k (pre ++ suf) m (pre.length : Int) = some (m + suf.length, pre ++ markedS suf.length m) := by
  intro suf
  induction suf with
  | nil =>
    intro pre m k hk h0 hm hb
    obtain ⟨k, rfl⟩ := succ_of hk
    rw [laws_markStringS.l0, if_neg end_not_lt]; simp [markedS]
  | cons x suf ih =>
    intro pre m k hk h0 hm hb
    obtain ⟨k, rfl⟩ := succ_of hk
    simp only [List.length_cons, Int.natCast_add, Int.natCast_one] at hk hm
    rw [laws_markStringS.l0, if_pos mid_lt, markText_eq (by omega) (by omega), Option.bind_some, if_pos (nat_le0 _), set_mid, wrap_snoc (x := mt m) (by simp at hb; omega), wrap_id (i := m + 1) (by omega) (by omega), snoc_app,
      ih (pre ++ [mt m]) (m + 1) k (by omega) (by omega) (by omega) (by simpa using hb)]
    simp [markedS]; omega
theorem markStringS_eq (l : List ByteArray) (m : Int) (k : Nat) (hk : l.length + 25 < k) (h0 : 0 ≤ m) (hm : m + l.length ≤ 4611686018427387904) : laws_markStringS.f k l m = some (m + l.length, markedS l.length m) := by
  have h := markStringS_l0 l [] m k hk h0 hm (by simp; omega)
  simpa [laws_markStringS.f] using h
theorem heldStringS_l0 : ∀ (n : Nat) (pre : List ByteArray) (m : Int) (k : Nat), n + 25 < k → 0 ≤ m → m + n ≤ 4611686018427387904 → pre.length + n < 9223372036854775807 →
    laws_heldStringS.l0 k (pre ++ markedS n m) m (pre.length : Int) = some (m + n) := by
  intro n
  induction n with
  | zero =>
    intro pre m k hk h0 hm hb
    obtain ⟨k, rfl⟩ := succ_of hk
    rw [laws_heldStringS.l0, markedS, if_neg end_not_lt]; simp
  | succ n ih =>
    intro pre m k hk h0 hm hb
    obtain ⟨k, rfl⟩ := succ_of hk
    rw [laws_heldStringS.l0, markedS, if_pos mid_lt, if_pos (nat_le0 _), markText_eq (by omega) (by omega), Option.bind_some, rdOf_mid, if_pos rfl, wrap_snoc (x := mt m) (by omega), wrap_id (i := m + 1) (by omega) (by omega), snoc_app,
      ih (pre ++ [mt m]) (m + 1) k (by omega) (by omega) (by omega) (by simp; omega)]
    congr 1; omega
theorem heldStringS_eq (n : Nat) (m : Int) (k : Nat) (hk : n + 25 < k) (h0 : 0 ≤ m) (hm : m + n ≤ 4611686018427387904) : laws_heldStringS.f k (markedS n m) m = some (m + n) := by
  have h := heldStringS_l0 n [] m k hk h0 hm (by simp; omega)
  simpa [laws_heldStringS.f] using h
end Go.Proofs.YtgkgkpoeiojmeaaDoor.V
/- What the helpers over lists of strings tell: equality, sizes, copies. -/
namespace Go.Proofs.YtgkgkpoeiojmeaaDoor.V
open Go.RowKit Go.Proofs.YtgkgkpoeiojmeaaDoor.P Go.Proofs.YtgkgkpoeiojmeaaDoorW.PrintWords Go.Proofs.YtgkgkpoeiojmeaaDoorW.PrintMore
theorem eqStringS_l0 : ∀ (sa sb pa pb : List ByteArray) (k : Nat), pa.length = pb.length → sa.length = sb.length → sa.length < k → (pa ++ sa).length < 9223372036854775807 →
    laws_eqStringS.l0 k (pa ++ sa) (pb ++ sb) (pa.length : Int) = some (decide (sa = sb)) := by
  intro sa
  induction sa with
  | nil =>
    intro sb pa pb k hp hs hk hb
    obtain ⟨k, rfl⟩ := succ_of hk
    obtain rfl : sb = [] := List.eq_nil_of_length_eq_zero hs.symm
    rw [laws_eqStringS.l0, if_neg end_not_lt]; rfl
  | cons x sa ih =>
    intro sb pa pb k hp hs hk hb
    obtain ⟨k, rfl⟩ := succ_of hk
    cases sb with
    | nil => simp at hs
    | cons y sb =>
      rw [laws_eqStringS.l0, if_pos mid_lt, if_pos (nat_le0 _), if_pos (by rw [hp]; exact mid_lt), rdOf_mid, hp, rdOf_mid, ← hp]
      by_cases hxy : x = y
      · subst hxy
        rw [if_pos rfl, wrap_snoc (x := x) (by simp at hb; omega), snoc_app, snoc_app (pre := pb), ih sb (pa ++ [x]) (pb ++ [x]) k (by simp [hp]) (by simpa using hs) (by simpa using hk) (by simpa using hb)]
        simp
      · rw [if_neg (by rw [tl_iff]; exact hxy)]
        simp [hxy]
theorem eqStringS_eq (a b : List ByteArray) (k : Nat) (hk : a.length < k) (hb : a.length < 9223372036854775807) : laws_eqStringS.f k a b = some (decide (a = b)) := by
  unfold laws_eqStringS.f
  by_cases h : a.length = b.length
  · rw [if_pos (by rw [h])]
    exact eqStringS_l0 a b [] [] k rfl h hk hb
  · rw [if_neg (by omega)]
    have : a ≠ b := fun e => h (by rw [e])
    simp [this]
end Go.Proofs.YtgkgkpoeiojmeaaDoor.V
/- What holds of all bytes of a string, counted from a place on; the order of strings. -/
namespace Go.Proofs.YtgkgkpoeiojmeaaDoor.V
open Go.RowKit Go.Proofs.YtgkgkpoeiojmeaaDoor.P Go.Proofs.YtgkgkpoeiojmeaaDoorW.PrintWords Go.Proofs.YtgkgkpoeiojmeaaDoorW.PrintMore
theorem bt_nat (s : ByteArray) (j : Nat) (h : j < s.size) : bt s (j : Nat) = ((s.data.toList[j]'(by simpa using h)).toNat : Int) := by
  unfold bt
  rw [dif_pos (by simpa using h)]
  rfl
end Go.Proofs.YtgkgkpoeiojmeaaDoor.V
/- Names: what the program's test and the reference's tell. -/
namespace Go.Proofs.YtgkgkpoeiojmeaaDoor.V
open Go.RowKit Go.Proofs.YtgkgkpoeiojmeaaDoor.P Go.Proofs.YtgkgkpoeiojmeaaDoorW.PrintWords Go.Proofs.YtgkgkpoeiojmeaaDoorW.PrintMore
theorem drop_nil {P : UInt8 → Bool} : ∀ l : List UInt8, l.dropWhile P = [] ↔ l.all P = true
  | [] => by simp
  | x :: l => by
    by_cases h : P x = true
    · simp [List.dropWhile, h, drop_nil l]
    · simp [List.dropWhile, h]
theorem take_all {P : UInt8 → Bool} : ∀ l : List UInt8, (l.takeWhile P).all P = true
  | [] => rfl
  | x :: l => by
    by_cases h : P x = true
    · simp only [List.takeWhile, h, List.all_cons, take_all l, Bool.true_and]
    · simp only [List.takeWhile, h]; rfl
theorem size_list (s : ByteArray) : s.size = s.data.toList.length := by rw [Array.length_toList]; rfl
theorem trim_nil (l cs : List UInt8) : Lib.trimS l cs = [] ↔ l.all (fun b => cs.contains b) = true := by
  unfold Lib.trimS Lib.trimLeftS Lib.trimRightS
  rw [drop_nil, List.all_reverse]
  constructor
  · intro h
    have e := List.takeWhile_append_dropWhile (p := fun b => cs.contains b) (l := l.reverse)
    have h2 : l.reverse.all (fun b => cs.contains b) = true := by
      rw [← e, List.all_append, Bool.and_eq_true]
      exact ⟨take_all _, h⟩
    rwa [List.all_reverse] at h2
  · intro h
    have h2 : l.reverse.all (fun b => cs.contains b) = true := by rwa [List.all_reverse]
    rw [(drop_nil l.reverse).2 h2]
    rfl
end Go.Proofs.YtgkgkpoeiojmeaaDoor.V
/- Counts: a number out of figures, by the reference and by the program. -/
namespace Go.Proofs.YtgkgkpoeiojmeaaDoor.V
open Go.RowKit Go.Proofs.YtgkgkpoeiojmeaaDoor.P Go.Proofs.YtgkgkpoeiojmeaaDoorW.PrintWords Go.Proofs.YtgkgkpoeiojmeaaDoorW.PrintMore
def digB (b : UInt8) : Bool := decide (48 ≤ b.toNat ∧ b.toNat ≤ 57)
/-- The number that figures spell. -/
def num (acc : Nat) (l : List UInt8) : Nat := l.foldl (fun a b => a * 10 + (b.toNat - 48)) acc
/-- Figures of a count. -/
def cntB (s : ByteArray) : Bool := decide (1 ≤ s.size ∧ s.size ≤ 8) && (decide (s.size ≤ 1) || !(bt s 0 == 48)) && s.data.toList.all digB
def figs : ByteArray := (⟨#[48, 49, 50, 51, 52, 53, 54, 55, 56, 57]⟩ : ByteArray)
theorem figs_eq (b : UInt8) : figs.data.toList.contains b = digB b := by
  have h : ∀ n : Fin 256, figs.data.toList.contains (UInt8.ofNat n.1) = digB (UInt8.ofNat n.1) := by decide +kernel
  have := h ⟨b.toNat, b.toNat_lt⟩
  simpa using this
theorem dig_val (b : UInt8) : digB b = true → Lib.digitVal b = some (b.toNat - 48) := by
  have h : ∀ n : Fin 256, digB (UInt8.ofNat n.1) = true → Lib.digitVal (UInt8.ofNat n.1) = some ((UInt8.ofNat n.1).toNat - 48) := by decide +kernel
  have := h ⟨b.toNat, b.toNat_lt⟩
  simpa using this
theorem decFrom_num : ∀ (l : List UInt8) (acc : Nat), l.all digB = true → Lib.decFrom acc l = some (num acc l)
  | [], acc, _ => rfl
  | b :: r, acc, h => by
    simp only [List.all_cons, Bool.and_eq_true] at h
    rw [Lib.decFrom, dig_val b h.1]
    show Lib.decFrom (acc * 10 + (b.toNat - 48)) r = _
    rw [decFrom_num r _ h.2]; rfl
theorem atoi_num (l : List UInt8) (h : l.all digB = true) (hn : l ≠ []) : Lib.atoi l = some ((num 0 l : Nat) : Int) := by
  cases l with
  | nil => exact absurd rfl hn
  | cons b r =>
    have hb : digB b = true := by simp only [List.all_cons, Bool.and_eq_true] at h; exact h.1
    have h1 : (b == 45) = false := by
      rw [Bool.eq_false_iff]; intro e; rw [beq_iff_eq.1 e] at hb; exact absurd hb (by decide)
    have h2 : (b == 43) = false := by
      rw [Bool.eq_false_iff]; intro e; rw [beq_iff_eq.1 e] at hb; exact absurd hb (by decide)
    rw [Lib.atoi, h1, h2]
    simp only [Bool.false_eq_true, if_false]
    rw [Lib.decNat, decFrom_num _ 0 h]
    rfl
theorem l3Num_l0 : ∀ (suf pre : List UInt8) (s : ByteArray) (acc k : Nat), s.data.toList = pre ++ suf → s.size ≤ 8 → (acc + 1) * 10 ^ suf.length ≤ 100000000 → suf.length < k →
    spec_l3Num.l0 k s (acc : Int) (pre.length : Int) = some (if suf.all digB = true then ((num acc suf : Nat) : Int) else -1) := by
  intro suf
  induction suf with
  | nil =>
    intro pre s acc k he hs ha hk
    obtain ⟨k, rfl⟩ := succ_of hk
    have hz : s.size = pre.length := by rw [size_list, he]; simp
    rw [spec_l3Num.l0, if_neg (by omega)]; rfl
  | cons x suf ih =>
    intro pre s acc k he hs ha hk
    obtain ⟨k, rfl⟩ := succ_of hk
    have hz : s.size = pre.length + (suf.length + 1) := by rw [size_list, he]; simp
    have hb : bt s (pre.length : Int) = (x.toNat : Int) := by
      rw [bt_nat s pre.length (by omega)]
      congr 2
      simp [he]
    rw [List.length_cons, Nat.pow_succ] at ha
    have hp : 1 ≤ 10 ^ suf.length := Nat.one_le_pow _ _ (by decide)
    generalize hP : 10 ^ suf.length = P at ha hp
    have ha2 : (acc + 1) * 10 ≤ 100000000 := Nat.le_trans (Nat.mul_le_mul_left (acc + 1) (show 10 ≤ P * 10 by omega)) ha
    have hle : x.toNat ≤ 57 → (acc * 10 + (x.toNat - 48) + 1) * 10 ^ suf.length ≤ 100000000 := by
      intro hx
      rw [hP]
      have hx2 : acc * 10 + (x.toNat - 48) + 1 ≤ (acc + 1) * 10 := by clear ha ha2; omega
      refine Nat.le_trans (Nat.mul_le_mul_right P hx2) ?_
      rw [Nat.mul_assoc, Nat.mul_comm 10 P]
      exact ha
    clear ha hP hp
    rw [spec_l3Num.l0, if_pos (by clear hle; omega), if_pos (by clear hle; omega), hb]
    by_cases h1 : (x.toNat : Int) < 48
    · have : digB x = false := by unfold digB; rw [decide_eq_false (by clear hle; omega)]
      rw [if_pos h1]; simp [this]
    · rw [if_neg h1]
      by_cases h2 : (x.toNat : Int) > 57
      · have : digB x = false := by unfold digB; rw [decide_eq_false (by clear hle; omega)]
        rw [if_pos h2]; simp [this]
      · have hd : digB x = true := by unfold digB; rw [decide_eq_true (by clear hle; omega)]
        have hx57 : x.toNat ≤ 57 := by clear hle; omega
        have hle2 := hle hx57
        clear hle
        rw [if_neg h2, wrap_id (i := (acc : Int) * 10) (by clear hle2; omega) (by clear hle2; omega)]
        have e1 : ((x.toNat : Int) - 48) % 256 = ((x.toNat - 48 : Nat) : Int) := by clear hle2; omega
        have e2 : wrap64 ((acc : Int) * 10 + ((x.toNat - 48 : Nat) : Int)) = ((acc * 10 + (x.toNat - 48) : Nat) : Int) := by
          rw [wrap_id (by clear hle2; omega) (by clear hle2; omega)]; clear hle2; omega
        have e3 : wrap64 ((pre.length : Int) + 1) = ((pre ++ [x]).length : Int) := by rw [wrap_id (by clear hle2; omega) (by clear hle2; omega)]; simp
        rw [e1, e2, e3, ih (pre ++ [x]) s (acc * 10 + (x.toNat - 48)) k (by simp [he]) hs hle2 (by simpa using hk)]
        simp [hd, num]
theorem l3Num_eq (s : ByteArray) (k : Nat) (hk : 20 < k) : spec_l3Num.f k s = some (if cntB s = true then ((num 0 s.data.toList : Nat) : Int) else -1) := by
  have hj : s.size ≤ 8 → ∀ b, spec_l3Num.j0 k s b = some (if b = true then -1 else if s.data.toList.all digB = true then ((num 0 s.data.toList : Nat) : Int) else -1) := by
    intro hs b
    obtain ⟨k, rfl⟩ := succ_of hk
    rw [spec_l3Num.j0]
    cases b with
    | true => rw [if_pos rfl, if_pos rfl]
    | false =>
      have hsz : s.data.toList.length ≤ 8 := by rw [← size_list]; exact hs
      have hlt : s.data.toList.length < k := by omega
      have hpow := Nat.pow_le_pow_right (n := 10) (by decide) hsz
      rw [show (10 : Nat) ^ 8 = 100000000 from rfl] at hpow
      have h0 := l3Num_l0 s.data.toList [] s 0 k rfl hs (by rw [Nat.zero_add, Nat.one_mul]; exact hpow) hlt
      rw [show ((([] : List UInt8).length : Nat) : Int) = 0 from rfl, show ((0 : Nat) : Int) = 0 from rfl] at h0
      rw [if_neg (by simp), if_neg (by simp)]
      exact h0
  have hjt : spec_l3Num.j0 k s true = some (-1) := by
    obtain ⟨k, rfl⟩ := succ_of hk
    rw [spec_l3Num.j0, if_pos rfl]
  have hin : spec_l1In.f (s.size : Int) 1 8 = some (decide (1 ≤ s.size ∧ s.size ≤ 8)) := by
    unfold spec_l1In.f
    by_cases h : 1 ≤ s.size
    · rw [if_pos (by omega)]; congr 1; exact decide_eq_decide.2 (by omega)
    · rw [if_neg (by omega), decide_eq_false (by omega)]
  unfold spec_l3Num.f cntB
  rw [hin, Option.bind_some, hjt]
  by_cases h1 : 1 ≤ s.size ∧ s.size ≤ 8
  · rw [decide_eq_true h1, if_pos rfl]
    by_cases h2 : (s.size : Int) > 1
    · rw [if_pos h2, if_pos (by omega), hj h1.2, decide_eq_false (show ¬ s.size ≤ 1 by omega)]
      cases bt s 0 == 48 <;> simp
    · rw [if_neg h2, hj h1.2, decide_eq_true (show s.size ≤ 1 by omega)]
      simp
  · rw [decide_eq_false h1, if_neg (by simp)]; simp
theorem readCount_eq (s : ByteArray) : impl_readCount.f s = some (if cntB s = true then (((num 0 s.data.toList : Nat) : Int), true) else (0, false)) := by
  have hin : 1 ≤ s.size → s.size ≤ 8 → ((strings_Trim.f s (⟨#[48, 49, 50, 51, 52, 53, 54, 55, 56, 57]⟩ : ByteArray)).bind fun t602 => (if t602.toList = ([] : List UInt8) then ((strconv_Atoi_86.f s).bind fun bt603 => (if bt603.2.isNone = true then (some (bt603.1, true)) else (some (bt603.1, false)))) else (some (0, false)))) = some (if s.data.toList.all digB = true then (((num 0 s.data.toList : Nat) : Int), true) else ((0 : Int), false)) := by
    intro h1 h8
    unfold strings_Trim.f
    rw [if_pos ⟨by omega, by decide +kernel, by decide +kernel⟩, Option.bind_some]
    have e : (⟨(Lib.trimS s.data.toList figs.data.toList).toArray⟩ : ByteArray).toList = Lib.trimS s.data.toList figs.data.toList := by rw [ByteArray.toList_eq]
    have hiff : (⟨(Lib.trimS s.data.toList figs.data.toList).toArray⟩ : ByteArray).toList = [] ↔ s.data.toList.all digB = true := by
      rw [e, trim_nil]; simp only [figs_eq]
    show (if (⟨(Lib.trimS s.data.toList figs.data.toList).toArray⟩ : ByteArray).toList = [] then ((strconv_Atoi_86.f s).bind fun bt603 => (if bt603.2.isNone = true then (some (bt603.1, true)) else (some (bt603.1, false)))) else (some (0, false))) = _
    by_cases hd : s.data.toList.all digB = true
    · rw [if_pos (hiff.2 hd), if_pos hd]
      unfold strconv_Atoi_86.f
      rw [if_pos (by omega), atoi_num _ hd (fun h => by rw [size_list, h] at h1; simp at h1)]
      rfl
    · rw [if_neg (fun h => hd (hiff.1 h)), if_neg hd]
  unfold impl_readCount.f cntB
  by_cases h1 : 1 ≤ s.size
  · rw [if_neg (by omega)]
    by_cases h8 : s.size ≤ 8
    · rw [if_neg (by omega), decide_eq_true (show 1 ≤ s.size ∧ s.size ≤ 8 from ⟨h1, h8⟩)]
      by_cases h2 : (s.size : Int) > 1
      · rw [if_pos h2, if_pos (by omega), decide_eq_false (show ¬ s.size ≤ 1 by omega)]
        by_cases h3 : bt s 0 = 48
        · rw [if_pos h3]; simp [h3]
        · rw [if_neg h3, hin h1 h8]
          have : (bt s 0 == 48) = false := beq_eq_false_iff_ne.mpr h3
          simp [this]
      · rw [if_neg h2, hin h1 h8, decide_eq_true (show s.size ≤ 1 by omega)]; simp
    · rw [if_pos (by omega), decide_eq_false (by omega)]; simp
  · rw [if_pos (by omega), decide_eq_false (by omega)]; simp
end Go.Proofs.YtgkgkpoeiojmeaaDoor.V
/- Words read out of bytes: by the reference, by places in the whole text; by the program, by what is left of it. -/
namespace Go.Proofs.YtgkgkpoeiojmeaaDoor.V
open Go.RowKit Go.Proofs.YtgkgkpoeiojmeaaDoor.P Go.Proofs.YtgkgkpoeiojmeaaDoorW.PrintWords Go.Proofs.YtgkgkpoeiojmeaaDoorW.PrintMore
theorem ext_list' (s : ByteArray) (i j : Nat) : (s.extract i j).data.toList = (s.data.toList.drop i).take (j - i) := by
  rw [ByteArray.data_extract, Array.toList_extract, List.extract_eq_take_drop]
theorem ba_ext {a b : ByteArray} (h : a.data.toList = b.data.toList) : a = b := by
  cases a with
  | mk x =>
    cases b with
    | mk y =>
      cases x; cases y
      simpa using h
theorem ex_size (s : ByteArray) (i j : Nat) (h : j ≤ s.size) : (s.extract i j).size = j - i := by
  rw [size_list, ext_list', List.length_take, List.length_drop, ← size_list]; omega
theorem ex_cong {s : ByteArray} {i j a b : Nat} (hi : i = a) (hj : j = b) : s.extract i j = s.extract a b := by rw [hi, hj]
theorem ex_all (s : ByteArray) (p : Nat) : (s.extract p s.size).data.toList = s.data.toList.drop p := by
  rw [ext_list', List.take_of_length_le]
  rw [List.length_drop, ← size_list]; exact Nat.le_refl _
theorem ex_ex (s : ByteArray) (p a b : Nat) (_ : p + b ≤ s.size) : (s.extract p s.size).extract a b = s.extract (p + a) (p + b) := by
  apply ba_ext
  rw [ext_list', ex_all, ext_list', List.drop_drop]
  congr 1
  omega
theorem bt_ex (s : ByteArray) (p j : Nat) (h : p + j < s.size) : bt (s.extract p s.size) (j : Int) = bt s ((p + j : Nat) : Int) := by
  rw [bt_nat _ j (by rw [ex_size _ _ _ (Nat.le_refl _)]; omega), bt_nat s (p + j) h]
  congr 2
  simp only [ex_all, List.getElem_drop]
/-- The first colon from a place on; the end for none. -/
def fc (s : ByteArray) : Nat → Nat → Nat
  | 0, p => p
  | d + 1, p => if bt s (p : Int) = 58 then p else fc s d (p + 1)
theorem fc_ge (s : ByteArray) : ∀ (d p : Nat), p ≤ fc s d p
  | 0, p => Nat.le_refl _
  | d + 1, p => by
    rw [fc]
    split
    · exact Nat.le_refl _
    · have := fc_ge s d (p + 1); omega
theorem fc_le (s : ByteArray) : ∀ (d p : Nat), fc s d p ≤ p + d
  | 0, p => Nat.le_refl _
  | d + 1, p => by
    rw [fc]
    split
    · omega
    · have := fc_le s d (p + 1); omega
theorem fc_colon (s : ByteArray) : ∀ (d p : Nat), fc s d p < p + d → bt s (fc s d p : Nat) = 58
  | 0, p, h => by rw [fc] at h; omega
  | d + 1, p, h => by
    rw [fc] at h ⊢
    split
    · assumption
    · rename_i hc
      rw [if_neg hc] at h
      exact fc_colon s d (p + 1) (by omega)
theorem idx_fc (s : ByteArray) : ∀ (d p : Nat), p + d = s.size → Lib.indexByte (s.data.toList.drop p) 58 = if fc s d p = s.size then -1 else ((fc s d p - p : Nat) : Int)
  | 0, p, h => by
    rw [List.drop_of_length_le (by rw [← size_list]; omega), fc, if_pos (by omega)]; rfl
  | d + 1, p, h => by
    have hp : p < s.data.toList.length := by rw [← size_list]; omega
    have hb := bt_nat s p (by omega)
    rw [List.drop_eq_getElem_cons hp, Lib.indexByte, fc, hb]
    have hge := fc_ge s d (p + 1)
    by_cases hc : s.data.toList[p] = 58
    · have h1 : (s.data.toList[p] == 58) = true := by rw [hc]; rfl
      have hfc : (if (s.data.toList[p].toNat : Int) = 58 then p else fc s d (p + 1)) = p := if_pos (by rw [hc]; rfl)
      rw [hfc, h1, if_pos (rfl : true = true), if_neg (by omega)]; simp
    · have h1 : (s.data.toList[p] == 58) = false := beq_eq_false_iff_ne.mpr hc
      have h2 : ¬ ((s.data.toList[p].toNat : Int) = 58) := fun e => hc (UInt8.toNat_inj.1 (by rw [show (58 : UInt8).toNat = 58 from rfl]; omega))
      rw [h1, if_neg (by simp), if_neg h2, idx_fc s d (p + 1) (by omega)]
      by_cases hs : fc s d (p + 1) = s.size
      · rw [if_pos hs, if_pos hs]; rfl
      · rw [if_neg hs, if_neg hs]
        have h3 : ((((fc s d (p + 1) - (p + 1) : Nat) : Int)) == -1) = false := beq_eq_false_iff_ne.mpr (by omega)
        rw [h3, if_neg (by simp)]; omega
theorem num_lt : ∀ (l : List UInt8) (acc : Nat), l.all digB = true → num acc l < (acc + 1) * 10 ^ l.length
  | [], acc, _ => by show acc < (acc + 1) * 1; omega
  | b :: r, acc, h => by
    simp only [List.all_cons, Bool.and_eq_true] at h
    have hb : b.toNat ≤ 57 := by
      have := h.1
      unfold digB at this
      rw [decide_eq_true_eq] at this
      exact this.2
    have h1 := num_lt r (acc * 10 + (b.toNat - 48)) h.2
    have e : num acc (b :: r) = num (acc * 10 + (b.toNat - 48)) r := rfl
    rw [e, List.length_cons, Nat.pow_succ]
    refine Nat.lt_of_lt_of_le h1 ?_
    rw [Nat.mul_comm (10 ^ r.length) 10, ← Nat.mul_assoc]
    exact Nat.mul_le_mul_right _ (by omega)
theorem num_cnt {s : ByteArray} (h : cntB s = true) : num 0 s.data.toList < 100000000 := by
  unfold cntB at h
  simp only [Bool.and_eq_true, decide_eq_true_eq] at h
  have h1 := num_lt s.data.toList 0 h.2
  have h2 : s.data.toList.length ≤ 8 := by rw [← size_list]; exact h.1.1.2
  have h3 := Nat.pow_le_pow_right (n := 10) (by decide) h2
  rw [show (10 : Nat) ^ 8 = 100000000 from rfl] at h3
  omega
/-- The words from a place on. -/
def wgF (s : ByteArray) : Nat → Nat → List ByteArray → List ByteArray × Bool
  | 0, _, out => (out, true)
  | d + 1, p, out => if p < s.size then
      (if fc s (s.size - p) p = s.size then ([], false) else if cntB (s.extract p (fc s (s.size - p) p)) = true then
        (if fc s (s.size - p) p + 1 + num 0 (s.extract p (fc s (s.size - p) p)).data.toList < s.size ∧ bt s ((fc s (s.size - p) p + 1 + num 0 (s.extract p (fc s (s.size - p) p)).data.toList : Nat) : Int) = 44 then
          wgF s d (fc s (s.size - p) p + num 0 (s.extract p (fc s (s.size - p) p)).data.toList + 2) (out ++ [s.extract (fc s (s.size - p) p + 1) (fc s (s.size - p) p + 1 + num 0 (s.extract p (fc s (s.size - p) p)).data.toList)])
        else ([], false)) else ([], false)) else (out, true)
theorem wgF_len (s : ByteArray) : ∀ (d p : Nat) (out : List ByteArray), (wgF s d p out).1.length ≤ out.length + d
  | 0, p, out => Nat.le_refl _
  | d + 1, p, out => by
    rw [wgF]
    split
    · split
      · simp
      · split
        · split
          · refine Nat.le_trans (wgF_len s d _ _) ?_
            simp; omega
          · simp
        · simp
    · show out.length ≤ _; omega
theorem l1_skip (s : ByteArray) (hs : s.size ≤ 1000000) (out : List ByteArray) (from_ : Int) : ∀ (e at_ k : Nat), at_ + e = s.size → e < k → spec_WireGet.l1 k s out (at_ : Int) from_ = spec_WireGet.l1 (k - (fc s e at_ - at_)) s out ((fc s e at_ : Nat) : Int) from_ := by
  intro e
  induction e with
  | zero => intro at_ k h hk; rw [fc, Nat.sub_self]; rfl
  | succ e ih =>
    intro at_ k h hk
    obtain ⟨k, rfl⟩ := succ_of hk
    rw [fc]
    by_cases hc : bt s (at_ : Int) = 58
    · rw [if_pos hc, Nat.sub_self]; rfl
    · have hge := fc_ge s e (at_ + 1)
      rw [if_neg hc, spec_WireGet.l1, if_pos (by omega), if_pos (by omega), if_neg hc, show wrap64 ((at_ : Int) + 1) = ((at_ + 1 : Nat) : Int) by rw [wrap_id (by omega) (by omega)]; omega, ih (at_ + 1) k (by omega) (by omega)]
      congr 1
      omega
theorem sGet_l0 (s : ByteArray) (hs : s.size ≤ 2000) : ∀ (d p : Nat) (out : List ByteArray) (k : Nat), s.size ≤ p + d → out.length + d ≤ 1000000 → 3 * (s.size - p) + 60 < k → (d = 0 ∨ p ≤ s.size) → d ≤ 2100 →
    spec_WireGet.l0 k s out (p : Int) = some (wgF s d p out) := by
  intro d
  induction d with
  | zero =>
    intro p out k h1 h2 hk _ _
    obtain ⟨k, rfl⟩ := succ_of hk
    rw [spec_WireGet.l0, if_neg (by omega)]; rfl
  | succ d ih =>
    intro p out k h1 h2 hk _ hd
    have hp : p ≤ s.size := by omega
    obtain ⟨k, rfl⟩ := succ_of (show 0 < k by omega)
    rw [spec_WireGet.l0, wgF]
    by_cases hlt : p < s.size
    · rw [if_pos (by omega), if_pos hlt]
      have hge := fc_ge s (s.size - p) p
      have hle := fc_le s (s.size - p) p
      have hcol := fc_colon s (s.size - p) p
      have hskip := l1_skip s (by omega) out (p : Int) (s.size - p) p k (by omega) (by omega)
      rw [hskip]
      generalize fc s (s.size - p) p = j at hge hle hcol
      have hk2 : ∃ k', k - (j - p) = k' + 1 ∧ k' + (j - p) + 1 = k := ⟨k - (j - p) - 1, by omega, by omega⟩
      obtain ⟨k', e, hk'⟩ := hk2
      rw [e, spec_WireGet.l1]
      have hw := l3Num_eq (s.extract p j) k' (by omega)
      have hext : s.extract (p : Int).toNat (j : Int).toNat = s.extract p j := by simp
      by_cases hj : j = s.size
      · rw [if_neg (by omega), if_pos (by omega), if_pos (by omega), if_pos (by omega), hext, hw, Option.bind_some, if_pos (by omega), if_pos hj]
      · have hjl : j < s.size := by omega
        have hc58 := hcol (by omega)
        rw [if_pos (by omega), if_pos (by omega), if_pos hc58, if_pos (by omega), if_pos (by omega), if_pos (by omega), hext, hw, Option.bind_some, if_neg (by omega), if_neg hj]
        by_cases hcn : cntB (s.extract p j) = true
        · have hn := num_cnt hcn
          simp only [if_pos hcn]
          generalize num 0 (s.extract p j).data.toList = n at hn
          have W : Aside0 (wrap64 ((j : Int) + 1) = ((j + 1 : Nat) : Int) ∧ wrap64 (((j + 1 : Nat) : Int) + (n : Int)) = ((j + 1 + n : Nat) : Int) ∧ wrap64 (wrap64 ((j : Int) + (n : Int)) + 2) = ((j + n + 2 : Nat) : Int)) :=
            ⟨by rw [wrap_id (by omega) (by omega)]; omega, by rw [wrap_id (by omega) (by omega)]; omega, by rw [wrap_id (i := (j : Int) + n) (by omega) (by omega), wrap_id (by omega) (by omega)]; omega⟩
          rw [if_neg (by omega), W.out.1, W.out.2.1, W.out.2.2]
          by_cases h3 : j + 1 + n < s.size
          · rw [if_neg (by omega), if_pos (by omega), if_pos (by omega)]
            by_cases h4 : bt s ((j + 1 + n : Nat) : Int) = 44
            · rw [if_pos h4, if_pos (by omega), if_pos (by omega), if_pos (by omega), if_pos (by omega), if_pos ⟨h3, h4⟩]
              have hx : s.extract (((j + 1 : Nat) : Int)).toNat (((j + 1 + n : Nat) : Int)).toNat = s.extract (j + 1) (j + 1 + n) := by rw [Int.toNat_natCast, Int.toNat_natCast]
              rw [hx]
              exact ih (j + n + 2) _ k' (by omega) (by simp; omega) (by omega) (by omega) (by omega)
            · rw [if_neg h4, if_neg (fun h => h4 h.2)]
          · rw [if_pos (by omega), if_neg (fun h => h3 h.1)]
        · simp only [if_neg hcn]
          rw [if_pos (by omega)]
    · rw [if_neg (by omega), if_neg hlt]
theorem sGet_eq (s : ByteArray) (k : Nat) (hk : 10000 < k) : spec_WireGet.f k s = some (if s.size ≤ 2000 then wgF s s.size 0 [] else ([], false)) := by
  unfold spec_WireGet.f
  rw [Option.bind_some]
  by_cases h : s.size ≤ 2000
  · rw [if_neg (by omega), if_pos h]
    exact sGet_l0 s h s.size 0 [] k (by omega) (by simp; omega) (by omega) (.inr (Nat.zero_le _)) (by omega)
  · rw [if_pos (by omega), if_neg h]
theorem iCut_eq (s : ByteArray) (p : Nat) (hp : p ≤ s.size) (hs : s.size ≤ 2000) : strings_Cut.f (s.extract p s.size) (⟨#[58]⟩ : ByteArray) = some (if fc s (s.size - p) p = s.size then (s.extract p s.size, ⟨#[]⟩, false) else (s.extract p (fc s (s.size - p) p), s.extract (fc s (s.size - p) p + 1) s.size, true)) := by
  unfold strings_Cut.f stringslite_Cut.f stringslite_Index.f
  have hd : (⟨#[58]⟩ : ByteArray).data.toList = [58] := rfl
  have h1 : (⟨#[58]⟩ : ByteArray).size = 1 := rfl
  have hsz := ex_size s p s.size (Nat.le_refl _)
  rw [hd]
  dsimp only
  rw [Option.bind_some, ex_all, idx_fc s (s.size - p) p (by omega), h1, hsz]
  have hge := fc_ge s (s.size - p) p
  have hle := fc_le s (s.size - p) p
  generalize fc s (s.size - p) p = j at hge hle
  by_cases hj : j = s.size
  · rw [if_pos hj, if_neg (by omega), if_pos hj]; rfl
  · rw [if_neg hj, if_neg hj, if_pos (by omega), if_pos (by omega), if_pos (by omega), show wrap64 (((j - p : Nat) : Int) + ((1 : Nat) : Int)) = ((j - p + 1 : Nat) : Int) by rw [wrap_id (by omega) (by omega)]; omega, if_pos (by omega), if_pos (by omega), Option.bind_some]
    have e1 : (s.extract p s.size).extract 0 ((j - p : Nat) : Int).toNat = s.extract p j := by
      rw [Int.toNat_natCast]; exact (ex_ex _ _ _ _ (by omega)).trans (ex_cong (by omega) (by omega))
    have e2 : (s.extract p s.size).extract ((j - p + 1 : Nat) : Int).toNat (s.size - p) = s.extract (j + 1) s.size := by
      rw [Int.toNat_natCast]; exact (ex_ex _ _ _ _ (by omega)).trans (ex_cong (by omega) (by omega))
    rw [e1, e2]
theorem iGet_l0 (s : ByteArray) (hs : s.size ≤ 2000) : ∀ (d p : Nat) (out : List ByteArray) (k : Nat), s.size ≤ p + d → out.length + d ≤ 1000000 → d + 60 < k → p ≤ s.size →
    impl_wireGet.l0 k (s.extract p s.size) out = some (wgF s d p out) := by
  intro d
  induction d with
  | zero =>
    intro p out k h1 h2 hk hp
    obtain ⟨k, rfl⟩ := succ_of hk
    have : (s.extract p s.size).toList = [] := by rw [ByteArray.toList_eq, ex_all, List.drop_of_length_le (by rw [← size_list]; omega)]
    rw [impl_wireGet.l0, if_pos this]; rfl
  | succ d ih =>
    intro p out k h1 h2 hk hp
    obtain ⟨k, rfl⟩ := succ_of (show 0 < k by omega)
    rw [impl_wireGet.l0, wgF]
    by_cases hlt : p < s.size
    · have hne : ¬ (s.extract p s.size).toList = [] := by
        rw [ByteArray.toList_eq, ex_all, List.drop_eq_nil_iff, ← size_list]; omega
      rw [if_neg hne, if_pos hlt, iCut_eq s p hp hs, Option.bind_some]
      have hge := fc_ge s (s.size - p) p
      have hle := fc_le s (s.size - p) p
      generalize fc s (s.size - p) p = j at hge hle
      by_cases hj : j = s.size
      · simp only [if_pos hj]
        rw [readCount_eq, Option.bind_some, if_neg (by simp)]
      · simp only [if_neg hj]
        rw [readCount_eq, Option.bind_some, if_pos trivial]
        by_cases hcn : cntB (s.extract p j) = true
        · have hn := num_cnt hcn
          simp only [if_pos hcn, if_true]
          generalize num 0 (s.extract p j).data.toList = n at hn
          have hsz := ex_size s (j + 1) s.size (Nat.le_refl _)
          rw [hsz]
          by_cases h3 : j + 1 + n < s.size
          · have W : Aside0 (wrap64 ((n : Int) + 1) = ((n + 1 : Nat) : Int)) := ⟨by rw [wrap_id (by omega) (by omega)]; omega⟩
            rw [if_neg (by omega), if_pos (by omega), if_pos (by omega), bt_ex s (j + 1) n h3, W.out]
            by_cases h4 : bt s ((j + 1 + n : Nat) : Int) = 44
            · rw [if_pos h4, if_pos (by omega), if_pos (by omega), if_pos (by omega), if_pos (by omega), if_pos ⟨h3, h4⟩]
              have e1 : (s.extract (j + 1) s.size).extract 0 ((n : Nat) : Int).toNat = s.extract (j + 1) (j + 1 + n) := by
                rw [Int.toNat_natCast]; exact (ex_ex _ _ _ _ (by omega)).trans (ex_cong (by omega) (by omega))
              have e2 : (s.extract (j + 1) s.size).extract ((n + 1 : Nat) : Int).toNat (s.size - (j + 1)) = s.extract (j + n + 2) s.size := by
                rw [Int.toNat_natCast]; exact (ex_ex _ _ _ _ (by omega)).trans (ex_cong (by omega) (by omega))
              rw [e1, e2]
              exact ih (j + n + 2) _ k (by omega) (by simp; omega) (by omega) (by omega)
            · rw [if_neg h4, if_neg (fun h => h4 h.2)]
          · rw [if_pos (by omega), if_neg (fun h => h3 h.1)]
        · simp only [if_neg hcn]
          rw [if_neg (by simp)]
    · have he : (s.extract p s.size).toList = [] := by rw [ByteArray.toList_eq, ex_all, List.drop_of_length_le (by rw [← size_list]; omega)]
      rw [if_pos he, if_neg hlt]
theorem iGet_eq (s : ByteArray) (k : Nat) (hk : 10000 < k) : impl_WireGet.f k s = some (if s.size ≤ 2000 then wgF s s.size 0 [] else ([], false)) := by
  unfold impl_WireGet.f impl_wireGet.f
  by_cases h : s.size ≤ 2000
  · have e : s.extract 0 s.size = s := ba_ext (by rw [ex_all, List.drop_zero])
    have h0 := iGet_l0 s h s.size 0 [] k (by omega) (by simp; omega) (by omega) (Nat.zero_le _)
    rw [e] at h0
    rw [if_neg (by omega), h0, if_pos h, Option.bind_some]
  · rw [if_pos (by omega), if_neg h, Option.bind_some]
end Go.Proofs.YtgkgkpoeiojmeaaDoor.V
/- The plain statement of FnExactWireGet: the program reads words as_ the reference does, into memory of its own. -/
namespace Go.Proofs.YtgkgkpoeiojmeaaDoor.Pure
open Go.RowKit Go.Proofs.YtgkgkpoeiojmeaaDoor.P Go.Proofs.YtgkgkpoeiojmeaaDoor.V Go.Proofs.YtgkgkpoeiojmeaaDoorW.PrintWords Go.Proofs.YtgkgkpoeiojmeaaDoorW.PrintLast
theorem FnExactWireGet : laws_FnExactWireGet.Pure := by
  intro s _
  obtain ⟨K, hK⟩ : ∃ K, K = 1060000 := ⟨_, rfl⟩
  refine ⟨K + 1 + 1, ?_⟩
  unfold laws_FnExactWireGet.f
  by_cases hc : (s.size : Int) > 1048576
  · rw [if_pos hc]
  rw [if_neg hc]
  have hsp := sGet_eq s (K + 1 + 1) (by omega)
  have him := fun k (hk : 1000000 < k) => iGet_eq s k (by omega)
  have hD : (if s.size ≤ 2000 then wgF s s.size 0 [] else (([] : List ByteArray), false)).1.length ≤ 2000 := by
    by_cases h : s.size ≤ 2000
    · rw [if_pos h]
      have := wgF_len s s.size 0 []
      simp at this; omega
    · rw [if_neg h]; simp
  generalize (if s.size ≤ 2000 then wgF s s.size 0 [] else (([] : List ByteArray), false)) = d at hsp him hD
  obtain ⟨d, b⟩ := d
  dsimp only at hD
  have e1 := fun k (hk : 1000000 < k) => eqStringS_eq d d k (by omega) (by omega)
  have m2 := fun k (hk : 1000000 < k) => markStringS_eq d 1 k (by omega) (by omega) (by omega)
  have h2 := fun k (hk : 1000000 < k) => heldStringS_eq d.length 1 k (by omega) (by omega) (by omega)
  have hn : ¬ (1 + (d.length : Int) < 0) := by omega
  have hbb : (b != b) = false := by simp
  have k2 : 1000000 < K + 1 + 1 := by omega
  have k1 : 1000000 < K + 1 := by omega
  have k0 : 1000000 < K := by omega
  simp only [hsp, him _ k2, e1 _ k2, Option.bind_some, decide_true, if_true, hbb]
  rw [laws_FnExactWireGet.j0]
  simp only [Bool.false_eq_true, if_false, m2 _ k1, h2 _ k1, him _ k1, e1 _ k1, Option.bind_some, if_true, hn, decide_true, hbb]
  rw [laws_FnExactWireGet.j1]
  simp only [Bool.false_eq_true, if_false, h2 _ k0, Option.bind_some, if_true, hn]
end Go.Proofs.YtgkgkpoeiojmeaaDoor.Pure
