/- The plain statement of the law FnExactUseAdd, proved. -/
import Derived.Test.YtlmpmlcjlioeaaaDoorZFnExactUseAddW0
import Derived.Test.YtlmpmlcjlioeaaaDoorZFnExactUseAdd0
import Derived.Test.YtlmpmlcjlioeaaaDoorZFnExactUseAdd2
import Derived.Test.YtlmpmlcjlioeaaaDoorZFnExactUseAdd1
import Derived.Test.YtlmpmlcjlioeaaaDoorZFnExactUseAdd3
/- Plain lemmas on lists, numbers and strings, for the laws' plain statements. -/
namespace Go.Proofs.YtlmpmlcjlioeaaaDoor.V
open Go.RowKit Go.Proofs.YtlmpmlcjlioeaaaDoorW.PrintWords Go.Proofs.YtlmpmlcjlioeaaaDoorW.PrintMore
theorem succ_of {d k : Nat} (h : d < k) : ∃ m, k = m + 1 := ⟨k - 1, by omega⟩
theorem wrap_id {i : Int} (h : -9223372036854775808 ≤ i) (h' : i ≤ 9223372036854775807) : wrap64 i = i := by unfold wrap64; omega
theorem tl_iff (a b : ByteArray) : a.toList = b.toList ↔ a = b := by
  rw [ByteArray.toList_eq, ByteArray.toList_eq]
  constructor
  · intro h
    cases a; cases b
    simp at h
    simp [h]
  · rintro rfl; rfl
section
variable {α : Type} {pre suf : List α} {x y : α}
theorem mid_lt : ((pre.length : Int) < ((pre ++ x :: suf).length : Int)) := by simp; omega
theorem end_not_lt : ¬ ((pre.length : Int) < ((pre ++ ([] : List α)).length : Int)) := by simp
theorem rdOf_mid (d : α) : rdOf d (pre ++ x :: suf) (pre.length : Int) = x := by simp [rdOf]
theorem set_mid : (pre ++ x :: suf).set ((pre.length : Int)).toNat y = pre ++ y :: suf := by simp
theorem wrap_snoc (h : pre.length < 9223372036854775807) : wrap64 ((pre.length : Int) + 1) = ((pre ++ [x]).length : Int) := by
  rw [wrap_id (by omega) (by omega)]; simp
theorem snoc_app : pre ++ x :: suf = (pre ++ [x]) ++ suf := by simp
end
theorem nat_le0 (n : Nat) : (0 : Int) ≤ (n : Int) := Int.natCast_nonneg n
end Go.Proofs.YtlmpmlcjlioeaaaDoor.V
/- The text of a mark. -/
namespace Go.Proofs.YtlmpmlcjlioeaaaDoor.V
open Go.RowKit Go.Proofs.YtlmpmlcjlioeaaaDoor.P Go.Proofs.YtlmpmlcjlioeaaaDoorW.PrintWords Go.Proofs.YtlmpmlcjlioeaaaDoorW.PrintMore
theorem strOfNums_one (n : Int) : (strOfNums [n]).size = 1 := by simp [strOfNums, ByteArray.size]
theorem markText_l0 : ∀ (d k : Nat) (n : Int) (s : ByteArray), 0 ≤ n → n ≤ 9223372036854775807 → n < 10 ^ d → d < k → s.size + d + 1 ≤ 9223372036854775807 →
    ∃ r : ByteArray, laws_markText.l0 k n s = some r := by
  intro d
  induction d with
  | zero =>
    intro k n s h0 h9 h1 hk hs
    obtain ⟨k, rfl⟩ := succ_of hk
    exact ⟨(⟨#[109]⟩ : ByteArray) ++ s, by rw [laws_markText.l0, if_neg (by simp at h1; omega), if_pos (by omega)]⟩
  | succ d ih =>
    intro k n s h0 h9 h1 hk hs
    obtain ⟨k, rfl⟩ := succ_of hk
    by_cases hn : n > 0
    · have hd : Int.tdiv n 10 = n / 10 := Int.tdiv_eq_ediv_of_nonneg h0
      have h2 : wrap64 (Int.tdiv n 10) = n / 10 := by rw [hd, wrap_id (by omega) (by omega)]
      have hp : (10 : Int) ^ (d + 1) = 10 ^ d * 10 := Int.pow_succ 10 d
      rw [hp] at h1
      obtain ⟨r, hr⟩ := ih k (n / 10) (strOfNums [(wrap64 (48 + (Int.tmod n 10))) % 256] ++ s) (by omega) (by omega) (by omega) (by omega) (by simp only [ByteArray.size_append, strOfNums_one]; omega)
      exact ⟨r, by rw [laws_markText.l0, if_pos hn, Option.bind_some, if_pos (by rw [strOfNums_one]; omega), h2]; exact hr⟩
    · exact ⟨(⟨#[109]⟩ : ByteArray) ++ s, by rw [laws_markText.l0, if_neg hn, if_pos (by omega)]⟩
/-- The text of a mark. -/
def mt (n : Int) : ByteArray := (laws_markText.f 25 n).getD ⟨#[]⟩
theorem markText_eq {n : Int} (h9 : n ≤ 9223372036854775807) {k : Nat} (hk : 25 ≤ k) : laws_markText.f k n = some (mt n) := by
  have h : ∃ r, laws_markText.f 25 n = some r := by
    unfold laws_markText.f
    by_cases hn : n ≤ 0
    · exact ⟨_, by rw [if_pos hn]⟩
    · rw [if_neg hn]
      exact markText_l0 20 25 n _ (by omega) h9 (by omega) (by omega) (by decide)
  obtain ⟨r, hr⟩ := h
  have : mt n = r := by unfold mt; rw [hr]; rfl
  rw [this]
  exact at_rounds (g := fun k => laws_markText.f k n) (fun k => laws_markText.mono n k) hk hr
end Go.Proofs.YtlmpmlcjlioeaaaDoor.V
/- What holds of all bytes of a string, counted from a place on; the order of strings. -/
namespace Go.Proofs.YtlmpmlcjlioeaaaDoor.V
open Go.RowKit Go.Proofs.YtlmpmlcjlioeaaaDoor.P Go.Proofs.YtlmpmlcjlioeaaaDoorW.PrintWords Go.Proofs.YtlmpmlcjlioeaaaDoorW.PrintMore
theorem bt_nat (s : ByteArray) (j : Nat) (h : j < s.size) : bt s (j : Nat) = ((s.data.toList[j]'(by simpa using h)).toNat : Int) := by
  unfold bt
  rw [dif_pos (by simpa using h)]
  rfl
theorem bl_irrefl : ∀ a : List UInt8, Op.bytesLess a a = false
  | [] => rfl
  | x :: a => by simp [Op.bytesLess, bl_irrefl a]
theorem bl_trans : ∀ {a b c : List UInt8}, Op.bytesLess a b = true → Op.bytesLess b c = true → Op.bytesLess a c = true
  | [], _, [], _, h => by cases ‹List UInt8› <;> simp [Op.bytesLess] at h
  | [], _, _ :: _, _, _ => rfl
  | _ :: _, [], _, h, _ => by simp [Op.bytesLess] at h
  | _ :: _, _ :: _, [], _, h => by simp [Op.bytesLess] at h
  | x :: a, y :: b, z :: c, h1, h2 => by
    simp only [Op.bytesLess, Bool.or_eq_true, Bool.and_eq_true, decide_eq_true_eq, beq_iff_eq] at h1 h2 ⊢
    rcases h1 with h1 | ⟨rfl, h1⟩
    · rcases h2 with h2 | ⟨rfl, h2⟩
      · left; rw [UInt8.lt_iff_toNat_lt] at *; omega
      · exact .inl h1
    · rcases h2 with h2 | ⟨rfl, h2⟩
      · exact .inl h2
      · exact .inr ⟨rfl, bl_trans h1 h2⟩
end Go.Proofs.YtlmpmlcjlioeaaaDoor.V
/- Names: what the program's test and the reference's tell. -/
namespace Go.Proofs.YtlmpmlcjlioeaaaDoor.V
open Go.RowKit Go.Proofs.YtlmpmlcjlioeaaaDoor.P Go.Proofs.YtlmpmlcjlioeaaaDoorW.PrintWords Go.Proofs.YtlmpmlcjlioeaaaDoorW.PrintMore
def letB (b : UInt8) : Bool := decide (97 ≤ b.toNat ∧ b.toNat ≤ 122)
/-- A name: one letter to six. -/
def nameB (s : ByteArray) : Bool := decide (1 ≤ s.size) && decide (s.size ≤ 6) && s.data.toList.all letB
def abc : ByteArray := (⟨#[97, 98, 99, 100, 101, 102, 103, 104, 105, 106, 107, 108, 109, 110, 111, 112, 113, 114, 115, 116, 117, 118, 119, 120, 121, 122]⟩ : ByteArray)
theorem abc_eq (b : UInt8) : abc.data.toList.contains b = letB b := by
  have h : ∀ n : Fin 256, abc.data.toList.contains (UInt8.ofNat n.1) = letB (UInt8.ofNat n.1) := by decide +kernel
  have := h ⟨b.toNat, b.toNat_lt⟩
  simpa using this
theorem drop_nil {P : UInt8 → Bool} : ∀ l : List UInt8, l.dropWhile P = [] ↔ l.all P = true
  | [] => by simp
  | x :: l => by
    by_cases h : P x = true
    · simp [List.dropWhile, h, drop_nil l]
    · simp [List.dropWhile, h]
theorem take_all {P : UInt8 → Bool} : ∀ l : List UInt8, (l.takeWhile P).all P = true
  | [] => rfl
  | x :: l => by
    by_cases h : P x = true
    · simp only [List.takeWhile, h, List.all_cons, take_all l, Bool.true_and]
    · simp only [List.takeWhile, h]; rfl
theorem size_list (s : ByteArray) : s.size = s.data.toList.length := by rw [Array.length_toList]; rfl
theorem trim_nil (l cs : List UInt8) : Lib.trimS l cs = [] ↔ l.all (fun b => cs.contains b) = true := by
  unfold Lib.trimS Lib.trimLeftS Lib.trimRightS
  rw [drop_nil, List.all_reverse]
  constructor
  · intro h
    have e := List.takeWhile_append_dropWhile (p := fun b => cs.contains b) (l := l.reverse)
    have h2 : l.reverse.all (fun b => cs.contains b) = true := by
      rw [← e, List.all_append, Bool.and_eq_true]
      exact ⟨take_all _, h⟩
    rwa [List.all_reverse] at h2
  · intro h
    have h2 : l.reverse.all (fun b => cs.contains b) = true := by rwa [List.all_reverse]
    rw [(drop_nil l.reverse).2 h2]
    rfl
theorem isName_eq (s : ByteArray) : impl_isName.f s = some (nameB s) := by
  unfold impl_isName.f nameB
  by_cases h1 : 1 ≤ s.size
  · rw [if_pos (by omega)]
    by_cases h2 : s.size ≤ 6
    · rw [if_pos (by omega)]
      unfold strings_Trim.f
      rw [if_pos ⟨by omega, by decide +kernel, by decide +kernel⟩]
      simp only [Option.bind_some, Option.some.injEq]
      rw [decide_eq_true h1, decide_eq_true h2, Bool.true_and, Bool.true_and]
      have e : (⟨(Lib.trimS s.data.toList abc.data.toList).toArray⟩ : ByteArray).toList = Lib.trimS s.data.toList abc.data.toList := by rw [ByteArray.toList_eq]
      show ((⟨(Lib.trimS s.data.toList abc.data.toList).toArray⟩ : ByteArray).toList == []) = _
      rw [e, Bool.eq_iff_iff, beq_iff_eq, trim_nil]
      simp only [abc_eq]
    · rw [if_neg (by omega), decide_eq_false h2]; simp
  · rw [if_neg (by omega), decide_eq_false h1]; simp
theorem sNameOk_l0 : ∀ (suf pre : List UInt8) (s : ByteArray) (k : Nat), s.data.toList = pre ++ suf → s.size ≤ 9223372036854775806 → suf.length < k →
    spec_NameOk.l0 k s (pre.length : Int) = some (suf.all letB && decide (1 ≤ s.size) && decide (s.size ≤ 6)) := by
  intro suf
  induction suf with
  | nil =>
    intro pre s k he hs hk
    obtain ⟨k, rfl⟩ := succ_of hk
    have hz : s.size = pre.length := by rw [size_list, he]; simp
    rw [spec_NameOk.l0, if_neg (by omega)]
    unfold spec_l1In.f
    by_cases h1 : 1 ≤ s.size
    · rw [if_pos (by omega), decide_eq_true h1]
      simp only [List.all_nil, Bool.true_and, Option.bind_some]
      congr 1
      rw [decide_eq_decide]
      omega
    · rw [if_neg (by omega), decide_eq_false h1]; rfl
  | cons x suf ih =>
    intro pre s k he hs hk
    obtain ⟨k, rfl⟩ := succ_of hk
    have hz : s.size = pre.length + (suf.length + 1) := by rw [size_list, he]; simp
    have hb : bt s (pre.length : Int) = (x.toNat : Int) := by
      rw [bt_nat s pre.length (by omega)]
      congr 2
      simp [he]
    have hn := ih (pre ++ [x]) s k (by simp [he]) hs (by simpa using hk)
    rw [spec_NameOk.l0, if_pos (by omega), if_pos (by omega), hb, wrap_id (by omega) (by omega)]
    have e : ((pre.length : Int) + 1) = ((pre ++ [x]).length : Int) := by simp
    rw [e, hn]
    by_cases h1 : (x.toNat : Int) < 97
    · rw [if_pos h1]
      have : letB x = false := by unfold letB; rw [decide_eq_false (by omega)]
      simp [this]
    · rw [if_neg h1]
      by_cases h2 : (x.toNat : Int) > 122
      · rw [if_pos h2]
        have : letB x = false := by unfold letB; rw [decide_eq_false (by omega)]
        simp [this]
      · rw [if_neg h2]
        have : letB x = true := by unfold letB; rw [decide_eq_true (by omega)]
        simp [this]
theorem sNameOk_eq (s : ByteArray) (k : Nat) (hs : s.size ≤ 9223372036854775806) (hk : s.size < k) : spec_NameOk.f k s = some (nameB s) := by
  unfold spec_NameOk.f
  have := sNameOk_l0 s.data.toList [] s k rfl hs (by rw [← size_list]; exact hk)
  rw [show ((([] : List UInt8).length : Nat) : Int) = 0 from rfl] at this
  rw [this, nameB]
  congr 1
  ac_rfl
end Go.Proofs.YtlmpmlcjlioeaaaDoor.V
/- Spaces, one in the other: chains from the inside out. -/
namespace Go.Proofs.YtlmpmlcjlioeaaaDoor.V
open Go.RowKit Go.Proofs.YtlmpmlcjlioeaaaDoor.P Go.Proofs.YtlmpmlcjlioeaaaDoorW.PrintWords Go.Proofs.YtlmpmlcjlioeaaaDoorW.PrintMore
theorem nodup_len {α : Type} [DecidableEq α] : ∀ (a b : List α), a.Nodup → (∀ x ∈ a, x ∈ b) → a.length ≤ b.length
  | [], _, _, _ => Nat.zero_le _
  | x :: r, b, h, hs => by
    have h1 := List.nodup_cons.1 h
    have h2 := nodup_len r (b.erase x) h1.2 (fun y hy => (List.mem_erase_of_ne (fun e : y = x => h1.1 (by rw [← e]; exact hy))).2 (hs y (by simp [hy])))
    have h3 := List.length_erase_of_mem (hs x (by simp))
    have h4 : 0 < b.length := List.length_pos_of_mem (hs x (by simp))
    rw [List.length_cons]; omega
/-- The space of a name. -/
def fnd (l : List S_impl_Space) (s : ByteArray) : Option S_impl_Space := l.find? (fun x => decide (x.f0 = s))
/-- A space and all that it is in, so many at most. -/
def up : Nat → List S_impl_Space → ByteArray → List S_impl_Space
  | 0, _, _ => []
  | n + 1, l, s => match fnd l s with
    | none => []
    | some x => x :: up n l x.f1
section
variable {l : List S_impl_Space} {s t : ByteArray} {x y z : S_impl_Space} {n m : Nat}
theorem fnd_name (h : fnd l s = some x) : x.f0 = s := by simpa using List.find?_some h
theorem fnd_mem (h : fnd l s = some x) : x ∈ l := List.mem_of_find?_eq_some h
theorem fnd_self (h : fnd l s = some x) : fnd l x.f0 = some x := by rw [fnd_name h]; exact h
theorem up_none (h : fnd l s = none) : up (n + 1) l s = [] := by rw [up, h]
theorem up_some (h : fnd l s = some x) : up (n + 1) l s = x :: up n l x.f1 := by rw [up, h]
theorem up_take : ∀ (n m : Nat) (s : ByteArray), n ≤ m → up n l s = (up m l s).take n
  | 0, m, s, _ => by simp [up]
  | n + 1, m, s, h => by
    obtain ⟨m, rfl⟩ : ∃ q, m = q + 1 := ⟨m - 1, by omega⟩
    cases hf : fnd l s with
    | none => rw [up_none hf, up_none hf]; rfl
    | some x => rw [up_some hf, up_some hf, List.take_succ_cons, up_take n m x.f1 (by omega)]
theorem up_le : ∀ (n : Nat) (s : ByteArray), (up n l s).length ≤ n
  | 0, s => by simp [up]
  | n + 1, s => by
    cases hf : fnd l s with
    | none => rw [up_none hf]; simp
    | some x => rw [up_some hf]; have := up_le n x.f1; simp; omega
theorem up_more : ∀ (n : Nat) (s : ByteArray), (up n l s).length < n → up (n + 1) l s = up n l s
  | 0, s, h => by omega
  | n + 1, s, h => by
    cases hf : fnd l s with
    | none => rw [up_none hf, up_none hf]
    | some x =>
      rw [up_some hf] at h
      rw [up_some hf, up_some hf, up_more n x.f1 (by simpa using h)]
theorem up_far (h : (up n l s).length < n) : ∀ d, up (n + d) l s = up n l s
  | 0 => rfl
  | d + 1 => by
    have ih := up_far h d
    rw [← Nat.add_assoc, up_more (n + d) s (by rw [ih]; omega), ih]
theorem up_ge (h : (up n l s).length < n) (hm : n ≤ m) : up m l s = up n l s := by
  obtain ⟨d, rfl⟩ := Nat.le.dest hm
  exact up_far h d
theorem up_mem : ∀ (n : Nat) (s : ByteArray), ∀ y ∈ up n l s, fnd l y.f0 = some y
  | 0, _, _, hy => by simp [up] at hy
  | n + 1, s, y, hy => by
    cases hf : fnd l s with
    | none => rw [up_none hf] at hy; cases hy
    | some x =>
      rw [up_some hf] at hy
      rcases List.mem_cons.1 hy with rfl | hy
      · exact fnd_self hf
      · exact up_mem n x.f1 y hy
/-- It ends within eight. -/
def En (l : List S_impl_Space) (s : ByteArray) : Prop := (up 9 l s).length < 9
theorem en_next (h : En l s) (hf : fnd l s = some x) : En l x.f1 ∧ up 9 l s = x :: up 9 l x.f1 := by
  have h1 : up 9 l s = x :: up 8 l x.f1 := up_some hf
  unfold En at *
  rw [h1] at h
  have h2 : (up 8 l x.f1).length < 8 := by simp at h; omega
  have h3 := up_more 8 x.f1 h2
  rw [h1, h3]
  exact ⟨by omega, rfl⟩
theorem en_none (h : fnd l s = none) : En l s := by unfold En; rw [up_none h]; decide
theorem up_suffix : ∀ (n : Nat) (s : ByteArray), En l s → (up 9 l s).length ≤ n → ∀ y ∈ up 9 l s, En l y.f0 ∧ ∃ pre, up 9 l s = pre ++ up 9 l y.f0
  | 0, s, _, hn, y, hy => by
    have : up 9 l s = [] := List.eq_nil_of_length_eq_zero (by omega)
    rw [this] at hy; cases hy
  | n + 1, s, he, hn, y, hy => by
    cases hf : fnd l s with
    | none => rw [up_none hf] at hy; cases hy
    | some x =>
      obtain ⟨h1, h2⟩ := en_next he hf
      rw [h2] at hy hn
      rcases List.mem_cons.1 hy with rfl | hy
      · rw [fnd_name hf]; exact ⟨he, [], rfl⟩
      · obtain ⟨h3, pre, h4⟩ := up_suffix n x.f1 h1 (by simpa using hn) y hy
        exact ⟨h3, x :: pre, by rw [h2, h4]; rfl⟩
theorem up_nodup : ∀ (n : Nat) (s : ByteArray), En l s → (up 9 l s).length ≤ n → ((up 9 l s).map (·.f0)).Nodup
  | 0, s, _, hn => by
    have : up 9 l s = [] := List.eq_nil_of_length_eq_zero (by omega)
    rw [this]; exact List.nodup_nil
  | n + 1, s, he, hn => by
    cases hf : fnd l s with
    | none => rw [up_none hf]; exact List.nodup_nil
    | some x =>
      obtain ⟨h1, h2⟩ := en_next he hf
      rw [h2] at hn ⊢
      rw [List.map_cons, List.nodup_cons]
      refine ⟨fun hm => ?_, up_nodup n x.f1 h1 (by simpa using hn)⟩
      obtain ⟨y, hy, e⟩ := List.mem_map.1 hm
      obtain ⟨-, pre, h4⟩ := up_suffix _ x.f1 h1 (Nat.le_refl _) y hy
      rw [e, fnd_name hf, h2] at h4
      have := congrArg List.length h4
      simp at this
      omega
theorem up_short (he : En l s) : (up 9 l s).length ≤ l.length := by
  have h := nodup_len ((up 9 l s).map (·.f0)) (l.map (·.f0)) (up_nodup _ s he (Nat.le_refl _)) (fun n hn => by
    obtain ⟨y, hy, rfl⟩ := List.mem_map.1 hn
    exact List.mem_map.2 ⟨y, fnd_mem (up_mem 9 s y hy), rfl⟩)
  simpa using h
theorem en_of (h : (up n l s).length < n) (hn : n ≤ 9) : En l s := by
  unfold En
  rw [up_ge h hn]
  omega
def step (l : List S_impl_Space) (x : S_impl_Space) : S_impl_Space := (fnd l x.f1).getD x
def its (l : List S_impl_Space) : Nat → S_impl_Space → S_impl_Space
  | 0, x => x
  | n + 1, x => its l n (step l x)
theorem its_fix (h : fnd l x.f1 = none) : ∀ n, its l n x = x
  | 0 => rfl
  | n + 1 => by
    have : step l x = x := by unfold step; rw [h]; rfl
    rw [its, this, its_fix h n]
theorem its_last : ∀ (n : Nat) (x : S_impl_Space), fnd l x.f0 = some x → (up (n + 1) l x.f0).getLast? = some (its l n x)
  | 0, x, h => by rw [up_some h]; rfl
  | n + 1, x, h => by
    rw [up_some h]
    cases hf : fnd l x.f1 with
    | none => rw [up_none hf, its_fix hf]; rfl
    | some y =>
      have h1 : step l x = y := by unfold step; rw [hf]; rfl
      have ih := its_last n y (fnd_self hf)
      rw [fnd_name hf] at ih
      rw [its, h1, List.getLast?_cons, ih]; rfl
theorem up_stop : ∀ (n : Nat) (s : ByteArray) (z : S_impl_Space), (up (n + 1) l s).getLast? = some z → fnd l z.f1 = none → up (n + 2) l s = up (n + 1) l s
  | 0, s, z, h, hz => by
    cases hf : fnd l s with
    | none => rw [up_none hf, up_none hf]
    | some x =>
      rw [up_some hf] at h
      have : x = z := by simpa [up] using h
      subst this
      rw [up_some hf, up_some hf, up_none hz]; rfl
  | n + 1, s, z, h, hz => by
    cases hf : fnd l s with
    | none => rw [up_none hf, up_none hf]
    | some x =>
      rw [up_some hf] at h
      cases hg : fnd l x.f1 with
      | none => rw [up_some hf, up_some hf, up_none hg, up_none hg]
      | some y =>
        have h2 : (up (n + 1) l x.f1).getLast? = some z := by
          rw [up_some hg] at h ⊢
          simpa using h
        rw [up_some hf, up_some hf, up_stop n x.f1 z h2 hz]
/-- Both ways to see that a space is at last in one that is in none. -/
theorem at_last (hx : fnd l x.f0 = some x) (hl : l.length ≤ 7) {nm : ByteArray} (htop : ∀ z ∈ l, z.f0 = nm → fnd l z.f1 = none) :
    ((up 8 l x.f0).length ≤ l.length ∧ ∃ z, (up 8 l x.f0).getLast? = some z ∧ z.f0 = nm) ↔ (its l l.length x).f0 = nm := by
  have hlast := its_last (l := l) l.length x hx
  constructor
  · rintro ⟨h1, z, h2, h3⟩
    rw [up_take (l.length + 1) 8 _ (by omega), List.take_of_length_le (by omega), h2] at hlast
    rw [← Option.some.inj hlast]; exact h3
  · intro h
    have hm : its l l.length x ∈ l := fnd_mem (up_mem _ _ _ (List.mem_of_getLast? hlast))
    have hstop := up_stop l.length x.f0 _ hlast (htop _ hm h)
    have h4 : ∀ d, up (l.length + 1 + d) l x.f0 = up (l.length + 1) l x.f0 := by
      intro d
      by_cases hlt : (up (l.length + 1) l x.f0).length < l.length + 1
      · exact up_far hlt d
      · have h5 : (up (l.length + 2) l x.f0).length < l.length + 2 := by rw [hstop]; have := up_le (l := l) (l.length + 1) x.f0; omega
        cases d with
        | zero => rfl
        | succ d => rw [show l.length + 1 + (d + 1) = l.length + 2 + d by omega, up_far h5 d, hstop]
    have h8 : up 8 l x.f0 = up (l.length + 1) l x.f0 := by
      have := h4 (7 - l.length)
      rwa [show l.length + 1 + (7 - l.length) = 8 by omega] at this
    have h9 : up 9 l x.f0 = up (l.length + 1) l x.f0 := by
      have := h4 (8 - l.length)
      rwa [show l.length + 1 + (8 - l.length) = 9 by omega] at this
    have hen : En l x.f0 := by unfold En; rw [h9]; have := up_le (l := l) (l.length + 1) x.f0; omega
    have hs := up_short hen
    rw [h9] at hs
    rw [h8]
    exact ⟨hs, _, hlast, h⟩
end
end Go.Proofs.YtlmpmlcjlioeaaaDoor.V
/- Spaces: what the program and the reference tell, in the words of chains. -/
namespace Go.Proofs.YtlmpmlcjlioeaaaDoor.V
open Go.RowKit Go.Proofs.YtlmpmlcjlioeaaaDoor.P Go.Proofs.YtlmpmlcjlioeaaaDoorW.PrintWords Go.Proofs.YtlmpmlcjlioeaaaDoorW.PrintMore
theorem rdS_mid {pre suf : List S_impl_Space} {x : S_impl_Space} : rd_impl_Space (pre ++ x :: suf) (pre.length : Int) = x := by simp [rd_impl_Space]
theorem l1In_eq (a b c : Int) : spec_l1In.f a b c = some (decide (b ≤ a ∧ a ≤ c)) := by
  unfold spec_l1In.f
  by_cases h : a ≥ b
  · rw [if_pos h]; simp [show b ≤ a from h]
  · rw [if_neg h]; simp [show ¬ b ≤ a from h]
/-- The place of a name; -1 for none. -/
def ix (l : List S_impl_Space) (s : ByteArray) : Int := fsp.idx (fsp.p s) l 0
theorem p_iff (s : ByteArray) (x : S_impl_Space) : fsp.p s x = true ↔ x.f0 = s := by unfold fsp.p; rw [beq_iff_eq, tl_iff]
theorem idx_spec (s : ByteArray) : ∀ (suf pre : List S_impl_Space), (fnd suf s = none ∧ fsp.idx (fsp.p s) suf (pre.length : Int) = -1) ∨ (∃ x, fnd suf s = some x ∧ (pre.length : Int) ≤ fsp.idx (fsp.p s) suf (pre.length : Int) ∧ fsp.idx (fsp.p s) suf (pre.length : Int) < ((pre ++ suf).length : Int) ∧ rd_impl_Space (pre ++ suf) (fsp.idx (fsp.p s) suf (pre.length : Int)) = x)
  | [], pre => Or.inl ⟨rfl, rfl⟩
  | x :: suf, pre => by
    by_cases h : x.f0 = s
    · right
      have h1 : fsp.idx (fsp.p s) (x :: suf) (pre.length : Int) = (pre.length : Int) := by rw [fsp.idx, if_pos ((p_iff s x).2 h)]
      refine ⟨x, by unfold fnd; rw [List.find?_cons_of_pos (by simpa using h)], ?_⟩
      rw [h1]
      exact ⟨Int.le_refl _, mid_lt, rdS_mid⟩
    · have h1 : fsp.idx (fsp.p s) (x :: suf) (pre.length : Int) = fsp.idx (fsp.p s) suf ((pre ++ [x]).length : Int) := by
        rw [fsp.idx, if_neg (fun e => h ((p_iff s x).1 e))]; simp
      have h2 : fnd (x :: suf) s = fnd suf s := by unfold fnd; rw [List.find?_cons_of_neg (by simpa using h)]
      rw [h1, h2]
      rcases idx_spec s suf (pre ++ [x]) with ⟨a, b⟩ | ⟨y, a, b, c, d⟩
      · exact Or.inl ⟨a, b⟩
      · right
        have e : (pre ++ [x]) ++ suf = pre ++ x :: suf := by simp
        rw [e] at c d
        exact ⟨y, a, by simp at b ⊢; omega, c, d⟩
section
variable {l : List S_impl_Space} {s : ByteArray} {x : S_impl_Space}
theorem ix_none (h : fnd l s = none) : ix l s = -1 := by
  rcases idx_spec s l [] with ⟨-, b⟩ | ⟨y, a, -⟩
  · exact b
  · rw [h] at a; cases a
theorem ix_some (h : fnd l s = some x) : 0 ≤ ix l s ∧ ix l s < (l.length : Int) ∧ rd_impl_Space l (ix l s) = x := by
  rcases idx_spec s l [] with ⟨a, -⟩ | ⟨y, a, b, c, d⟩
  · rw [h] at a; cases a
  · rw [h] at a
    obtain rfl := Option.some.inj a
    unfold ix
    exact ⟨by simpa using b, by simpa using c, by simpa using d⟩
end
theorem findSpace_eq (l : List S_impl_Space) (s : ByteArray) : impl_findSpace.f l s = some (ix l s) := by
  unfold impl_findSpace.f impl_Space.f ix; rfl
theorem l8At_l0 (s : ByteArray) : ∀ (suf pre : List S_impl_Space) (k : Nat), suf.length < k → (pre ++ suf).length ≤ 4611686018427387904 → spec_l8At.l0 k (pre ++ suf) s (pre.length : Int) = some (fsp.idx (fsp.p s) suf (pre.length : Int)) := by
  intro suf
  induction suf with
  | nil =>
    intro pre k hk hb
    obtain ⟨k, rfl⟩ := succ_of hk
    rw [spec_l8At.l0, if_neg end_not_lt]; rfl
  | cons x suf ih =>
    intro pre k hk hb
    obtain ⟨k, rfl⟩ := succ_of hk
    rw [spec_l8At.l0, if_pos mid_lt, if_pos (nat_le0 _), rdS_mid, fsp.idx]
    by_cases h : x.f0 = s
    · rw [if_pos ((tl_iff _ _).2 h), if_pos ((p_iff s x).2 h)]
    · rw [if_neg (fun e => h ((tl_iff _ _).1 e)), if_neg (fun e => h ((p_iff s x).1 e)), wrap_snoc (x := x) (by simp at hb; omega), snoc_app, ih (pre ++ [x]) k (by simpa using hk) (by simpa using hb)]
      simp
theorem l8At_eq (l : List S_impl_Space) (s : ByteArray) (k : Nat) (hk : l.length < k) (hb : l.length ≤ 4611686018427387904) : spec_l8At.f k l s = some (ix l s) := l8At_l0 s l [] k hk hb
/-- Names of a chain. -/
def nms (c : List S_impl_Space) : List ByteArray := c.map (·.f0)
theorem l8Up_l0 (l : List S_impl_Space) (hb : l.length ≤ 4611686018427387904) : ∀ (n : Nat) (s : ByteArray) (out : List ByteArray) (k : Nat), out.length + n = 8 → n + l.length + 1 < k → spec_l8Up.l0 k l out (ix l s) = some (out ++ nms (up n l s)) := by
  intro n
  induction n with
  | zero =>
    intro s out k ho hk
    obtain ⟨k, rfl⟩ := succ_of hk
    rw [spec_l8Up.l0]
    by_cases h : ix l s ≥ 0
    · rw [if_pos h, if_neg (by omega)]; simp [up, nms]
    · rw [if_neg h]; simp [up, nms]
  | succ n ih =>
    intro s out k ho hk
    obtain ⟨k, rfl⟩ := succ_of hk
    rw [spec_l8Up.l0]
    cases hf : fnd l s with
    | none => rw [ix_none hf, if_neg (by decide), up_none hf]; simp [nms]
    | some x =>
      obtain ⟨h1, h2, h3⟩ := ix_some hf
      rw [if_pos h1, if_pos (by omega), if_pos h1, if_pos h2, if_pos (by omega), h3, l8At_eq l _ k (by omega) hb, Option.bind_some, ih x.f1 (out ++ [x.f0]) k (by simp; omega) (by omega), up_some hf]
      simp [nms]
theorem l8Up_eq (l : List S_impl_Space) (s : ByteArray) (k : Nat) (hk : l.length + 9 < k) (hb : l.length ≤ 4611686018427387904) : spec_l8Up.f k l s = some (nms (up 8 l s)) := by
  unfold spec_l8Up.f
  rw [l8At_eq l s k (by omega) hb, Option.bind_some, l8Up_l0 l hb 8 s [] k rfl (by omega)]
  rfl
theorem spaceUp_l0 (l : List S_impl_Space) : ∀ (n : Nat) (s : ByteArray) (out : List ByteArray) (k : Nat), (up n l s).length < n → n < k → out.length + n ≤ 1000000 → impl_spaceUp.l0 k l out (ix l s) = some (out ++ nms (up n l s)) := by
  intro n
  induction n with
  | zero => intro s out k h; omega
  | succ n ih =>
    intro s out k hl hk ho
    obtain ⟨k, rfl⟩ := succ_of hk
    rw [impl_spaceUp.l0]
    cases hf : fnd l s with
    | none => rw [ix_none hf, if_neg (by decide), up_none hf]; simp [nms]
    | some x =>
      rw [up_some hf] at hl
      obtain ⟨h1, h2, h3⟩ := ix_some hf
      rw [if_pos h1, if_pos h1, if_pos h2, if_pos (by omega), h3, findSpace_eq, Option.bind_some, ih x.f1 (out ++ [x.f0]) k (by simpa using hl) (by omega) (by simp; omega), up_some hf]
      simp [nms]
theorem spaceUp_eq (l : List S_impl_Space) (s : ByteArray) (k : Nat) (hk : 9 < k) (he : En l s) : impl_spaceUp.f k l s = some (nms (up 9 l s)) := by
  unfold impl_spaceUp.f
  rw [findSpace_eq, Option.bind_some, spaceUp_l0 l 9 s [] k he hk (by decide)]
  rfl
def allN : ByteArray := ⟨#[97, 108, 108]⟩
theorem all_iff (s : ByteArray) : s.toList = ([97, 108, 108] : List UInt8) ↔ s = allN := by
  rw [← tl_iff s allN, ByteArray.toList_eq allN]; rfl
theorem nil_iff (s : ByteArray) : s.toList = ([] : List UInt8) ↔ s = ⟨#[]⟩ := by
  rw [← tl_iff s ⟨#[]⟩, ByteArray.toList_eq ⟨#[]⟩]
theorem nameB_nil : nameB ⟨#[]⟩ = false := by decide
def spOk (x : S_impl_Space) : Bool := nameB x.f0 && decide (-1 ≤ x.f2 ∧ x.f2 ≤ 99999) && decide (0 ≤ x.f4 ∧ x.f4 ≤ 99999) && (if x.f0 = allN then decide (x.f1 = ⟨#[]⟩) && !x.f3 else nameB x.f1)
theorem isSpace_eq (x : S_impl_Space) (k : Nat) (hk : 0 < k) : impl_isSpace.f k x.f0 x.f1 x.f2 x.f3 x.f4 = some (spOk x) := by
  obtain ⟨k, rfl⟩ := succ_of hk
  have hj : ∀ b, impl_isSpace.j0 (k + 1) b x.f0 x.f1 x.f2 x.f3 x.f4 = some (!b && (if x.f0 = allN then decide (x.f1 = ⟨#[]⟩) && !x.f3 else nameB x.f1)) := by
    intro b
    rw [impl_isSpace.j0]
    cases b
    · rw [if_neg (by simp)]
      by_cases h : x.f0 = allN
      · rw [if_pos ((all_iff _).2 h), if_pos h]
        by_cases h2 : x.f1 = ⟨#[]⟩
        · rw [if_pos ((nil_iff _).2 h2), decide_eq_true h2]; simp
        · rw [if_neg (fun e => h2 ((nil_iff _).1 e)), decide_eq_false h2]; simp
      · rw [if_neg (fun e => h ((all_iff _).1 e)), if_neg h, isName_eq]; simp
    · rw [if_pos rfl]; simp
  unfold impl_isSpace.f spOk
  rw [isName_eq, Option.bind_some]
  simp only [hj]
  generalize (if x.f0 = allN then decide (x.f1 = ⟨#[]⟩) && !x.f3 else nameB x.f1) = z
  cases nameB x.f0
  · simp
  · rw [if_pos rfl]
    by_cases h1 : x.f2 < -1
    · rw [if_pos h1, decide_eq_false (by omega)]; simp
    · rw [if_neg h1]
      by_cases h2 : x.f2 > 99999
      · rw [if_pos h2, decide_eq_false (by omega)]; simp
      · rw [if_neg h2, decide_eq_true (show -1 ≤ x.f2 ∧ x.f2 ≤ 99999 by omega)]
        by_cases h3 : x.f4 < 0
        · rw [if_pos h3, decide_eq_false (by omega)]; simp
        · rw [if_neg h3]
          by_cases h4 : x.f4 > 99999
          · rw [decide_eq_true h4, decide_eq_false (by omega)]; simp
          · rw [decide_eq_false h4, decide_eq_true (show 0 ≤ x.f4 ∧ x.f4 ≤ 99999 by omega)]; simp
theorem l8Ok_eq (x : S_impl_Space) (k : Nat) (h0 : x.f0.size < k) (h1 : x.f1.size < k) (hb0 : x.f0.size ≤ 9223372036854775806) (hb1 : x.f1.size ≤ 9223372036854775806) : spec_l8Ok.f k x.f0 x.f1 x.f2 x.f3 x.f4 = some (spOk x) := by
  unfold spec_l8Ok.f spOk
  rw [sNameOk_eq _ k hb0 h0, Option.bind_some]
  cases hn : nameB x.f0
  · simp
  · rw [if_pos rfl]
    simp only [l1In_eq, Option.bind_some, nil_iff]
    have ha : (x.f0.toList == ([97, 108, 108] : List UInt8)) = decide (x.f0 = allN) := by
      rw [Bool.eq_iff_iff, beq_iff_eq, all_iff, decide_eq_true_iff]
    have hz : (x.f1.toList == ([] : List UInt8)) = decide (x.f1 = ⟨#[]⟩) := by
      rw [Bool.eq_iff_iff, beq_iff_eq, nil_iff, decide_eq_true_iff]
    rw [ha, hz]
    by_cases h2 : x.f1 = ⟨#[]⟩
    · rw [if_pos h2, decide_eq_true h2]
      by_cases h3 : x.f0 = allN
      · rw [decide_eq_true h3, if_pos (by decide), if_pos h3]
        by_cases h4 : -1 ≤ x.f2 ∧ x.f2 ≤ 99999
        · rw [decide_eq_true h4, if_pos rfl]
          by_cases h5 : 0 ≤ x.f4 ∧ x.f4 ≤ 99999
          · rw [decide_eq_true h5, if_pos rfl]; simp
          · rw [decide_eq_false h5]; simp
        · rw [decide_eq_false h4]; simp
      · rw [decide_eq_false h3, if_neg (by decide), if_neg h3, h2, nameB_nil]; simp
    · rw [if_neg h2, decide_eq_false h2, sNameOk_eq _ k hb1 h1, Option.bind_some]
      by_cases h3 : x.f0 = allN
      · rw [decide_eq_true h3, if_pos h3]
        cases nameB x.f1 <;> simp
      · rw [decide_eq_false h3, if_neg h3]
        cases hm : nameB x.f1
        · simp
        · rw [if_pos rfl, if_pos (by decide)]
          by_cases h4 : -1 ≤ x.f2 ∧ x.f2 ≤ 99999
          · rw [decide_eq_true h4, if_pos rfl]
            by_cases h5 : 0 ≤ x.f4 ∧ x.f4 ≤ 99999
            · rw [decide_eq_true h5, if_pos rfl]; simp
            · rw [decide_eq_false h5]; simp
          · rw [decide_eq_false h4]; simp
end Go.Proofs.YtlmpmlcjlioeaaaDoor.V
/- Marks that the laws lay on strings, spaces and uses. -/
namespace Go.Proofs.YtlmpmlcjlioeaaaDoor.V
open Go.RowKit Go.Proofs.YtlmpmlcjlioeaaaDoor.P Go.Proofs.YtlmpmlcjlioeaaaDoorW.PrintWords Go.Proofs.YtlmpmlcjlioeaaaDoorW.PrintMore
theorem markSpaceS_l0 : ∀ (n i : Nat) (L : List S_impl_Space) (m : Int) (k : Nat), i + n = L.length → n + 30 < k → 0 ≤ m → m + 5 * n ≤ 4611686018427387904 → L.length < 9223372036854775807 → ∃ L', laws_markSpaceS.l0 k L m (i : Int) = some (m + 5 * n, L') := by
  intro n
  induction n with
  | zero =>
    intro i L m k hi hk h0 hm hb
    obtain ⟨k, rfl⟩ := succ_of hk
    rw [laws_markSpaceS.l0, if_neg (by omega)]
    exact ⟨L, by simp⟩
  | succ n ih =>
    intro i L m k hi hk h0 hm hb
    obtain ⟨k, rfl⟩ := succ_of hk
    rw [laws_markSpaceS.l0, if_pos (by omega), markText_eq (by omega) (by omega), Option.bind_some, if_pos (by omega), Option.bind_some, wrap_id (i := m + 1) (by omega) (by omega), markText_eq (by omega) (by omega), Option.bind_some, Option.bind_some, Option.bind_some, Option.bind_some,
      wrap_id (i := m + 1 + 1) (by omega) (by omega), wrap_id (i := m + 1 + 1 + 1) (by omega) (by omega), wrap_id (i := m + 1 + 1 + 1 + 1) (by omega) (by omega), wrap_id (i := m + 1 + 1 + 1 + 1 + 1) (by omega) (by omega), wrap_id (i := (i : Int) + 1) (by omega) (by omega)]
    have e : (i : Int) + 1 = ((i + 1 : Nat) : Int) := rfl
    have e2 : m + 5 * ((n + 1 : Nat) : Int) = (m + 1 + 1 + 1 + 1 + 1) + 5 * (n : Int) := by omega
    rw [e, e2]
    exact ih (i + 1) _ _ k (by simp; omega) (by omega) (by omega) (by omega) (by simpa using hb)
theorem markSpaceS_eq (L : List S_impl_Space) (m : Int) (k : Nat) (hk : L.length + 30 < k) (h0 : 0 ≤ m) (hm : m + 5 * L.length ≤ 4611686018427387904) : ∃ L', laws_markSpaceS.f k L m = some (m + 5 * L.length, L') :=
  markSpaceS_l0 L.length 0 L m k (by omega) hk h0 hm (by omega)
theorem rdU_mid {pre suf : List S_impl_Use} {x : S_impl_Use} : rd_impl_Use (pre ++ x :: suf) (pre.length : Int) = x := by simp [rd_impl_Use]
def markedU : Nat → Int → List S_impl_Use
  | 0, _ => []
  | n + 1, m => ⟨mt m, m + 1⟩ :: markedU n (m + 2)
theorem markUseS_l0 : ∀ (suf pre : List S_impl_Use) (m : Int) (k : Nat), suf.length + 25 < k → 0 ≤ m → m + 2 * suf.length ≤ 4611686018427387904 → (pre ++ suf).length < 9223372036854775807 →
    laws_markUseS.l0 k (pre ++ suf) m (pre.length : Int) = some (m + 2 * suf.length, pre ++ markedU suf.length m) := by
  intro suf
  induction suf with
  | nil =>
    intro pre m k hk h0 hm hb
    obtain ⟨k, rfl⟩ := succ_of hk
    rw [laws_markUseS.l0, if_neg end_not_lt]; simp [markedU]
  | cons x suf ih =>
    intro pre m k hk h0 hm hb
    obtain ⟨k, rfl⟩ := succ_of hk
    simp only [List.length_cons, Int.natCast_add, Int.natCast_one] at hk hm
    rw [laws_markUseS.l0, if_pos mid_lt, markText_eq (by omega) (by omega), Option.bind_some, if_pos (nat_le0 _), Option.bind_some, rdU_mid, set_mid, rdU_mid, set_mid, wrap_id (i := m + 1) (by omega) (by omega), wrap_id (i := m + 1 + 1) (by omega) (by omega), wrap_snoc (x := (⟨mt m, m + 1⟩ : S_impl_Use)) (by simp at hb; omega), snoc_app]
    have := ih (pre ++ [⟨mt m, m + 1⟩]) (m + 1 + 1) k (by omega) (by omega) (by omega) (by simpa using hb)
    rw [this]
    have e : m + 1 + 1 = m + 2 := by omega
    simp [markedU, e]; omega
theorem markUseS_eq (l : List S_impl_Use) (m : Int) (k : Nat) (hk : l.length + 25 < k) (h0 : 0 ≤ m) (hm : m + 2 * l.length ≤ 4611686018427387904) : laws_markUseS.f k l m = some (m + 2 * l.length, markedU l.length m) := by
  have h := markUseS_l0 l [] m k hk h0 hm (by simp; omega)
  simpa [laws_markUseS.f] using h
theorem heldUseS_l0 : ∀ (n : Nat) (pre : List S_impl_Use) (m : Int) (k : Nat), n + 25 < k → 0 ≤ m → m + 2 * n ≤ 4611686018427387904 → pre.length + n < 9223372036854775807 →
    laws_heldUseS.l0 k (pre ++ markedU n m) m (pre.length : Int) = some (m + 2 * n) := by
  intro n
  induction n with
  | zero =>
    intro pre m k hk h0 hm hb
    obtain ⟨k, rfl⟩ := succ_of hk
    rw [laws_heldUseS.l0, markedU, if_neg end_not_lt]; simp
  | succ n ih =>
    intro pre m k hk h0 hm hb
    obtain ⟨k, rfl⟩ := succ_of hk
    rw [laws_heldUseS.l0, markedU, if_pos mid_lt, if_pos (nat_le0 _), markText_eq (by omega) (by omega), Option.bind_some, rdU_mid, if_pos rfl, wrap_id (i := m + 1) (by omega) (by omega), if_pos rfl, wrap_id (i := m + 1 + 1) (by omega) (by omega), wrap_snoc (x := (⟨mt m, m + 1⟩ : S_impl_Use)) (by omega), snoc_app]
    have e : m + 1 + 1 = m + 2 := by omega
    have h7 := ih (pre ++ [(⟨mt m, m + 1⟩ : S_impl_Use)]) (m + 2) k (by omega) (by omega) (by omega) (by simp; omega)
    rw [e, h7]
    congr 1; omega
theorem heldUseS_eq (n : Nat) (m : Int) (k : Nat) (hk : n + 25 < k) (h0 : 0 ≤ m) (hm : m + 2 * n ≤ 4611686018427387904) : laws_heldUseS.f k (markedU n m) m = some (m + 2 * n) := by
  have h := heldUseS_l0 n [] m k hk h0 hm (by simp; omega)
  simpa [laws_heldUseS.f] using h
end Go.Proofs.YtlmpmlcjlioeaaaDoor.V
/- The laws' own helpers over spaces. -/
namespace Go.Proofs.YtlmpmlcjlioeaaaDoor.V
open Go.RowKit Go.Proofs.YtlmpmlcjlioeaaaDoor.P Go.Proofs.YtlmpmlcjlioeaaaDoorW.PrintWords Go.Proofs.YtlmpmlcjlioeaaaDoorW.PrintMore
theorem rdLS_mid {pre suf : List S_laws_Space} {x : S_laws_Space} : rd_laws_Space (pre ++ x :: suf) (pre.length : Int) = x := by simp [rd_laws_Space]
def szSp : List S_laws_Space → Int → Int
  | [], left => left
  | x :: r, left => if left - x.f0.size - x.f1.size < 0 then -1 else szSp r (left - x.f0.size - x.f1.size)
theorem szSpaceS_l0 : ∀ (suf pre : List S_laws_Space) (left : Int) (k : Nat), suf.length < k → 0 ≤ left → left ≤ 4611686018427387904 → (∀ x ∈ suf, x.f0.size ≤ 9223372036854775807 ∧ x.f1.size ≤ 9223372036854775807) → (pre ++ suf).length < 9223372036854775807 →
    laws_szSpaceS.l0 k (pre ++ suf) left (pre.length : Int) = some (szSp suf left) := by
  intro suf
  induction suf with
  | nil =>
    intro pre left k hk h0 h1 hs hb
    obtain ⟨k, rfl⟩ := succ_of hk
    rw [laws_szSpaceS.l0, if_neg end_not_lt]; rfl
  | cons x suf ih =>
    intro pre left k hk h0 h1 hs hb
    obtain ⟨k, rfl⟩ := succ_of hk
    have hx := hs x (by simp)
    rw [laws_szSpaceS.l0, if_pos mid_lt, if_pos (nat_le0 _), rdLS_mid, laws_szSpace.f, wrap_id (i := left - (x.f0.size : Int)) (by omega) (by omega), szSp]
    by_cases ha : left - (x.f0.size : Int) < 0
    · rw [if_pos ha, Option.bind_some, if_pos (by omega), if_pos (by omega)]
    · rw [if_neg ha, wrap_id (i := left - (x.f0.size : Int) - (x.f1.size : Int)) (by omega) (by omega)]
      by_cases hc : left - (x.f0.size : Int) - (x.f1.size : Int) < 0
      · rw [if_pos hc, Option.bind_some, if_pos (by omega), if_pos hc]
      · rw [if_neg hc, Option.bind_some, if_neg hc, if_neg hc, wrap_snoc (x := x) (by simp at hb; omega), snoc_app]
        exact ih (pre ++ [x]) _ k (by simpa using hk) (by omega) (by omega) (fun s h => hs s (by simp [h])) (by simpa using hb)
theorem szSp_pos : ∀ (l : List S_laws_Space) (left : Int), 0 ≤ szSp l left → szSp l left ≤ left ∧ ∀ x ∈ l, (x.f0.size : Int) ≤ left ∧ (x.f1.size : Int) ≤ left
  | [], left, _ => ⟨by simp [szSp], fun x h => by cases h⟩
  | x :: r, left, h => by
    rw [szSp] at h ⊢
    by_cases hl : left - x.f0.size - x.f1.size < 0
    · rw [if_pos hl] at h; omega
    · rw [if_neg hl] at h ⊢
      obtain ⟨h1, h2⟩ := szSp_pos r _ h
      refine ⟨by omega, fun y hy => ?_⟩
      rcases List.mem_cons.1 hy with rfl | hy
      · omega
      · have := h2 y hy; omega
theorem szSpaceS_eq (l : List S_laws_Space) (left : Int) (k : Nat) (hk : l.length < k) (h0 : 0 ≤ left) (h1 : left ≤ 4611686018427387904) (hs : ∀ x ∈ l, x.f0.size ≤ 9223372036854775807 ∧ x.f1.size ≤ 9223372036854775807) (hb : l.length ≤ 9223372036854775807) :
    ∃ v, laws_szSpaceS.f k l left = some v ∧ (0 ≤ v → v ≤ left ∧ (l.length : Int) ≤ left ∧ ∀ x ∈ l, (x.f0.size : Int) ≤ left ∧ (x.f1.size : Int) ≤ left) := by
  unfold laws_szSpaceS.f
  rw [wrap_id (by omega) (by omega)]
  by_cases hl : left - l.length < 0
  · rw [if_pos hl]; exact ⟨-1, rfl, fun h => by omega⟩
  · rw [if_neg hl]
    have h2 := szSpaceS_l0 l [] (left - l.length) k hk (by omega) (by omega) hs (by simp; omega)
    rw [List.nil_append, show ((([] : List S_laws_Space).length : Nat) : Int) = 0 from rfl] at h2
    rw [h2]
    refine ⟨_, rfl, fun h => ?_⟩
    obtain ⟨h3, h4⟩ := szSp_pos l _ h
    exact ⟨by omega, by omega, fun x hx => by have := h4 x hx; omega⟩
def cSp (x : S_laws_Space) : S_impl_Space := ⟨x.f0, x.f1, x.f2, x.f3, x.f4⟩
theorem toSpaceS_l0 : ∀ (suf pre : List S_laws_Space) (zs : List S_impl_Space) (k : Nat), zs.length = suf.length → suf.length < k → (pre ++ suf).length < 9223372036854775807 →
    laws_toSpaceS.l0 k (pre ++ suf) (pre.map cSp ++ zs) (pre.length : Int) = some ((pre ++ suf).map cSp) := by
  intro suf
  induction suf with
  | nil =>
    intro pre zs k hz hk hb
    obtain ⟨k, rfl⟩ := succ_of hk
    obtain rfl : zs = [] := List.eq_nil_of_length_eq_zero hz
    rw [laws_toSpaceS.l0, if_neg end_not_lt]; simp
  | cons x suf ih =>
    intro pre zs k hz hk hb
    obtain ⟨k, rfl⟩ := succ_of hk
    cases zs with
    | nil => simp at hz
    | cons z zs =>
      have hset : (pre.map cSp ++ z :: zs).set ((pre.length : Int)).toNat (cSp x) = (pre ++ [x]).map cSp ++ zs := by
        have := set_mid (pre := pre.map cSp) (suf := zs) (x := z) (y := cSp x)
        rw [List.length_map] at this
        rw [this]; simp
      rw [laws_toSpaceS.l0, if_pos mid_lt, if_pos (nat_le0 _), rdLS_mid, laws_toSpace.f, Option.bind_some, if_pos (by simp; omega)]
      show laws_toSpaceS.l0 k (pre ++ x :: suf) ((pre.map cSp ++ z :: zs).set ((pre.length : Int)).toNat (cSp x)) (wrap64 ((pre.length : Int) + 1)) = _
      rw [hset, wrap_snoc (x := x) (by simp at hb; omega), snoc_app]
      exact ih (pre ++ [x]) zs k (by simpa using hz) (by simpa using hk) (by simpa using hb)
theorem toSpaceS_eq (l : List S_laws_Space) (k : Nat) (hk : l.length < k) (hb : l.length ≤ 1000000000000) : laws_toSpaceS.f k l = some (l.map cSp) := by
  unfold laws_toSpaceS.f
  rw [if_pos (nat_le0 _), if_pos (by omega)]
  exact toSpaceS_l0 l [] _ k (by simp) hk (by simp; omega)
theorem eqSpaceS_l0 : ∀ (suf pre : List S_impl_Space) (k : Nat), suf.length < k → (pre ++ suf).length < 9223372036854775807 → laws_eqSpaceS.l0 k (pre ++ suf) (pre ++ suf) (pre.length : Int) = some true := by
  intro suf
  induction suf with
  | nil =>
    intro pre k hk hb
    obtain ⟨k, rfl⟩ := succ_of hk
    rw [laws_eqSpaceS.l0, if_neg end_not_lt]
  | cons x suf ih =>
    intro pre k hk hb
    obtain ⟨k, rfl⟩ := succ_of hk
    have hx : laws_eqSpace.f x.f0 x.f1 x.f2 x.f3 x.f4 x.f0 x.f1 x.f2 x.f3 x.f4 = some true := by
      unfold laws_eqSpace.f
      rw [if_pos rfl, if_pos rfl, if_pos rfl, if_neg (by simp), if_pos rfl]
    rw [laws_eqSpaceS.l0, if_pos mid_lt, if_pos (nat_le0 _), if_pos mid_lt, rdS_mid, hx, Option.bind_some, if_pos rfl, wrap_snoc (x := x) (by simp at hb; omega), snoc_app]
    exact ih (pre ++ [x]) k (by simpa using hk) (by simpa using hb)
theorem eqSpaceS_refl (l : List S_impl_Space) (k : Nat) (hk : l.length < k) (hb : l.length < 9223372036854775807) : laws_eqSpaceS.f k l l = some true := by
  unfold laws_eqSpaceS.f
  rw [if_pos rfl]
  exact eqSpaceS_l0 l [] k hk hb
theorem good_sizes {l : List S_laws_Space} (h : ∀ y ∈ l, Good_laws_Space y) : ∀ x ∈ l, x.f0.size ≤ 9223372036854775807 ∧ x.f1.size ≤ 9223372036854775807 := fun x hx => ⟨(h x hx).1, (h x hx).2.1⟩
end Go.Proofs.YtlmpmlcjlioeaaaDoor.V
/- When spaces are ok: the program's test and the reference's are one. -/
namespace Go.Proofs.YtlmpmlcjlioeaaaDoor.V
open Go.RowKit Go.Proofs.YtlmpmlcjlioeaaaDoor.P Go.Proofs.YtlmpmlcjlioeaaaDoorW.PrintWords Go.Proofs.YtlmpmlcjlioeaaaDoorW.PrintMore
def spGo : Option S_impl_Space → List S_impl_Space → Bool
  | _, [] => true
  | none, x :: l => spOk x && spGo (some x) l
  | some p, x :: l => spOk x && Op.bytesLess p.f0.toList x.f0.toList && spGo (some x) l
theorem lastS_rd {pre suf : List S_impl_Space} {y : S_impl_Space} : rd_impl_Space ((pre ++ [y]) ++ suf) (((pre ++ [y]).length : Int) - 1) = y := by
  have : (((pre ++ [y]).length : Int) - 1) = (pre.length : Int) := by simp
  rw [this, List.append_assoc]
  exact rdS_mid
/-- All names in order and each space ok. -/
theorem spGo_all : ∀ (l : List S_impl_Space) (p : Option S_impl_Space), spGo p l = true → (∀ x ∈ l, spOk x = true) ∧ l.Pairwise (fun x y => Op.bytesLess x.f0.toList y.f0.toList = true) ∧ (∀ q, p = some q → ∀ x ∈ l, Op.bytesLess q.f0.toList x.f0.toList = true)
  | [], p, _ => ⟨fun x h => by (cases h), List.Pairwise.nil, fun q _ x h => by (cases h)⟩
  | x :: l, none, h => by
    simp only [spGo, Bool.and_eq_true] at h
    obtain ⟨h1, h2, h3⟩ := spGo_all l (some x) h.2
    refine ⟨fun y hy => ?_, List.Pairwise.cons (h3 x rfl) h2, fun q e => by cases e⟩
    rcases List.mem_cons.1 hy with rfl | hy
    · exact h.1
    · exact h1 y hy
  | x :: l, some p, h => by
    simp only [spGo, Bool.and_eq_true] at h
    obtain ⟨h1, h2, h3⟩ := spGo_all l (some x) h.2
    refine ⟨fun y hy => ?_, List.Pairwise.cons (h3 x rfl) h2, fun q e y hy => ?_⟩
    · rcases List.mem_cons.1 hy with rfl | hy
      · exact h.1.1
      · exact h1 y hy
    · obtain rfl := Option.some.inj e
      rcases List.mem_cons.1 hy with rfl | hy
      · exact h.1.2
      · exact bl_trans h.1.2 (h3 x rfl y hy)
theorem fnd_of_mem {l : List S_impl_Space} (hp : l.Pairwise (fun x y => Op.bytesLess x.f0.toList y.f0.toList = true)) {x : S_impl_Space} (hx : x ∈ l) : fnd l x.f0 = some x := by
  induction l with
  | nil => cases hx
  | cons y l ih =>
    rw [List.pairwise_cons] at hp
    unfold fnd
    rcases List.mem_cons.1 hx with rfl | hx
    · rw [List.find?_cons_of_pos (by simp)]
    · have : y.f0 ≠ x.f0 := fun e => by
        have := hp.1 x hx
        rw [e, bl_irrefl] at this
        cases this
      rw [List.find?_cons_of_neg (by simpa using this)]
      exact ih hp.2 hx
theorem fnd_nil {l : List S_impl_Space} (h : ∀ x ∈ l, spOk x = true) : fnd l ⟨#[]⟩ = none := by
  unfold fnd
  rw [List.find?_eq_none]
  intro x hx hn
  have h1 := h x hx
  unfold spOk at h1
  rw [show x.f0 = ⟨#[]⟩ by simpa using hn, nameB_nil] at h1
  simp at h1
/-- What is at last in the one that has all. -/
def inAll (l : List S_impl_Space) (x : S_impl_Space) : Bool := decide ((its l l.length x).f0 = allN)
def areS (l : List S_impl_Space) : Bool := decide (1 ≤ l.length ∧ l.length ≤ 7) && spGo none l && l.all (inAll l)
theorem areSpaces_l12 (l : List S_impl_Space) (hl : l.length ≤ 7) : ∀ (suf pre : List S_impl_Space) (k : Nat), pre ++ suf = l → 20 * (suf.length + 1) < k →
    impl_areSpaces.l1 k l l (l.length : Int) (pre.length : Int) = some (suf.all (inAll l)) := by
  intro suf
  induction suf with
  | nil =>
    intro pre k he hk
    obtain ⟨k, rfl⟩ := succ_of hk
    rw [impl_areSpaces.l1, if_neg (by rw [← he]; simp)]; rfl
  | cons x suf ih =>
    intro pre k he hk
    obtain ⟨k, rfl⟩ := succ_of hk
    have hpl : pre.length < l.length := by rw [← he]; simp
    have hrd : rd_impl_Space l (pre.length : Int) = x := by rw [← he]; exact rdS_mid
    rw [impl_areSpaces.l1, if_pos (by omega), if_pos (by omega), if_pos (by omega), hrd]
    -- the inner steps
    have inner : ∀ (d i : Nat) (y : S_impl_Space) (k : Nat), i + d = l.length → 20 * (suf.length + 1) + d + 1 < k → impl_areSpaces.l2 k l l (l.length : Int) (pre.length : Int) (l.length : Int) (i : Int) y.f0 y.f1 y.f2 y.f3 y.f4 = some (decide ((its l d y).f0 = allN) && suf.all (inAll l)) := by
      intro d
      induction d with
      | zero =>
        intro i y k hi hk
        obtain ⟨k, rfl⟩ := succ_of hk
        rw [impl_areSpaces.l2, if_neg (by omega)]
        show _ = some (decide (y.f0 = allN) && suf.all (inAll l))
        by_cases h : y.f0 = allN
        · rw [if_pos ((all_iff _).2 h), decide_eq_true h, wrap_id (by omega) (by omega)]
          have e : (pre.length : Int) + 1 = ((pre ++ [x]).length : Int) := by simp
          rw [e, ih (pre ++ [x]) k (by simp [← he]) (by omega)]; simp
        · rw [if_neg (fun e => h ((all_iff _).1 e)), decide_eq_false h]; simp
      | succ d ihd =>
        intro i y k hi hk
        obtain ⟨k, rfl⟩ := succ_of hk
        have e : wrap64 ((i : Int) + 1) = ((i + 1 : Nat) : Int) := by rw [wrap_id (by omega) (by omega)]; rfl
        rw [impl_areSpaces.l2, if_pos (by omega), findSpace_eq, Option.bind_some, e]
        cases hf : fnd l y.f1 with
        | none =>
          rw [ix_none hf, if_neg (by decide), ihd (i + 1) y k (by omega) (by omega)]
          have : step l y = y := by unfold step; rw [hf]; rfl
          rw [its, this]
        | some z =>
          obtain ⟨h1, h2, h3⟩ := ix_some hf
          rw [if_pos h1, if_pos h1, if_pos h2, h3, ihd (i + 1) z k (by omega) (by omega)]
          have : step l y = z := by unfold step; rw [hf]; rfl
          rw [its, this]
    have h0 := inner l.length 0 x k (by omega) (by simp at hk ⊢; omega)
    rw [show ((0 : Nat) : Int) = 0 from rfl] at h0
    rw [h0]
    rfl
theorem areSpaces_l0 (l : List S_impl_Space) (hl : l.length ≤ 7) : ∀ (suf pre : List S_impl_Space) (k : Nat), pre ++ suf = l → 300 + suf.length < k →
    impl_areSpaces.l0 k l l (l.length : Int) (pre.length : Int) = some (spGo pre.getLast? suf && l.all (inAll l)) := by
  intro suf
  induction suf with
  | nil =>
    intro pre k he hk
    obtain ⟨k, rfl⟩ := succ_of hk
    have h0 := areSpaces_l12 l hl l [] k rfl (by omega)
    rw [show ((([] : List S_impl_Space).length : Nat) : Int) = 0 from rfl] at h0
    rw [impl_areSpaces.l0, if_neg (by rw [← he]; simp), h0]
    have : spGo pre.getLast? [] = true := by cases pre.getLast? <;> rfl
    rw [this, Bool.true_and]
  | cons x suf ih =>
    intro pre k he hk
    obtain ⟨k, rfl⟩ := succ_of hk
    have hpl : pre.length < l.length := by rw [← he]; simp
    have hrd : rd_impl_Space l (pre.length : Int) = x := by rw [← he]; exact rdS_mid
    have hn := ih (pre ++ [x]) k (by simp [← he]) (by simp at hk; omega)
    rw [List.getLast?_concat] at hn
    have e : wrap64 ((pre.length : Int) + 1) = ((pre ++ [x]).length : Int) := by rw [wrap_id (by omega) (by omega)]; simp
    rw [impl_areSpaces.l0, if_pos (by omega), if_pos (by omega), if_pos (by omega), hrd, isSpace_eq x k (by omega), Option.bind_some, e, hn]
    rcases List.eq_nil_or_concat pre with rfl | ⟨pre', y, rfl⟩
    · cases h : spOk x
      · simp [spGo, h]
      · rw [if_pos rfl, if_neg (by simp)]
        simp [spGo, h]
    · rw [List.concat_eq_append] at *
      have hrl : rd_impl_Space l (((pre' ++ [y]).length : Int) - 1) = y := by rw [← he]; exact lastS_rd
      cases h : spOk x
      · rw [if_neg (by simp), List.getLast?_concat]; simp [spGo, h]
      · have hp : 0 < (pre' ++ [y]).length := by simp
        rw [if_pos rfl, if_pos (by omega), wrap_id (i := ((pre' ++ [y]).length : Int) - 1) (by omega) (by omega), if_pos (by omega), if_pos (by omega), hrl, List.getLast?_concat]
        cases h2 : Op.bytesLess y.f0.toList x.f0.toList
        · rw [if_neg (by simp)]; simp [spGo, h, h2]
        · rw [if_pos rfl]; simp [spGo, h, h2]
theorem areSpaces_eq (l : List S_impl_Space) (k : Nat) (hk : 400 < k) : impl_areSpaces.f k l = some (areS l) := by
  obtain ⟨k, rfl⟩ := succ_of hk
  unfold impl_areSpaces.f areS
  simp only [impl_areSpaces.j0]
  by_cases h1 : (l.length : Int) < 1
  · rw [if_pos h1, if_pos trivial, decide_eq_false (by omega)]; simp
  · rw [if_neg h1]
    by_cases h2 : (l.length : Int) > 7
    · rw [decide_eq_true h2, if_pos rfl, decide_eq_false (by omega)]; simp
    · have h0 := areSpaces_l0 l (by omega) l [] k rfl (by omega)
      rw [show ((([] : List S_impl_Space).length : Nat) : Int) = 0 from rfl] at h0
      rw [decide_eq_false h2, if_neg (by simp), h0, decide_eq_true (show 1 ≤ l.length ∧ l.length ≤ 7 by omega)]
      simp
/-- The chain of a space ends, soon enough, in the one that has all. -/
def chOk (l : List S_impl_Space) (x : S_impl_Space) : Bool := decide ((up 8 l x.f0).length ≤ l.length) && (match (up 8 l x.f0).getLast? with | some z => decide (z.f0 = allN) | none => false)
theorem chOk_iff {l : List S_impl_Space} {x : S_impl_Space} : chOk l x = true ↔ ((up 8 l x.f0).length ≤ l.length ∧ ∃ z, (up 8 l x.f0).getLast? = some z ∧ z.f0 = allN) := by
  unfold chOk
  rw [Bool.and_eq_true, decide_eq_true_iff]
  cases h : (up 8 l x.f0).getLast? with
  | none => simp
  | some z => simp
def specS (l : List S_impl_Space) : Bool := spGo none l && (l.all (chOk l) && (decide (1 ≤ l.length ∧ l.length ≤ 7) && decide (0 ≤ ix l allN)))
theorem sSpaces_l1 (l : List S_impl_Space) (hb : l.length ≤ 1000000000) (hf : ∀ x ∈ l, fnd l x.f0 = some x) : ∀ (suf pre : List S_impl_Space) (k : Nat), pre ++ suf = l → suf.length + l.length + 10 < k →
    spec_SpacesOk.l1 k l (pre.length : Int) = some (suf.all (chOk l) && (decide (1 ≤ l.length ∧ l.length ≤ 7) && decide (0 ≤ ix l allN))) := by
  intro suf
  induction suf with
  | nil =>
    intro pre k he hk
    obtain ⟨k, rfl⟩ := succ_of hk
    rw [spec_SpacesOk.l1, if_neg (by rw [← he]; simp), l1In_eq, Option.bind_some]
    by_cases h : 1 ≤ l.length ∧ l.length ≤ 7
    · rw [decide_eq_true (show (1 : Int) ≤ (l.length : Int) ∧ (l.length : Int) ≤ 7 by omega), if_pos rfl]
      show (spec_l8At.f k l allN).bind _ = _
      rw [l8At_eq l allN k (by omega) (by omega), Option.bind_some, decide_eq_true h]
      simp
    · rw [decide_eq_false (show ¬ ((1 : Int) ≤ (l.length : Int) ∧ (l.length : Int) ≤ 7) by omega), if_neg (by simp), decide_eq_false h]
      simp
  | cons x suf ih =>
    intro pre k he hk
    obtain ⟨k, rfl⟩ := succ_of hk
    have hpl : pre.length < l.length := by rw [← he]; simp
    have hrd : rd_impl_Space l (pre.length : Int) = x := by rw [← he]; exact rdS_mid
    have hx := hf x (by rw [← he]; simp)
    have hn := ih (pre ++ [x]) k (by simp [← he]) (by simp at hk; omega)
    have e : wrap64 ((pre.length : Int) + 1) = ((pre ++ [x]).length : Int) := by rw [wrap_id (by omega) (by omega)]; simp
    rw [spec_SpacesOk.l1, if_pos (by omega), if_pos (by omega), hrd, l8Up_eq l _ k (by omega) (by omega), Option.bind_some, e, hn]
    obtain ⟨c, y, hc⟩ : ∃ c y, up 8 l x.f0 = c ++ [y] := by
      rcases List.eq_nil_or_concat (up 8 l x.f0) with h | ⟨c, y, h⟩
      · rw [up_some hx] at h; cases h
      · exact ⟨c, y, by rw [h, List.concat_eq_append]⟩
    have hlen : (nms (up 8 l x.f0)).length = (up 8 l x.f0).length := by unfold nms; simp
    have h8 := up_le (l := l) 8 x.f0
    have hlc : (up 8 l x.f0).length = c.length + 1 := by rw [hc]; simp
    rw [List.all_cons]
    by_cases h1 : (up 8 l x.f0).length ≤ l.length
    · have hlast : rdOf ByteArray.empty (nms (up 8 l x.f0)) (((nms (up 8 l x.f0)).length : Int) - 1) = y.f0 := by
        rw [hlen, hlc, hc]
        have : (((c.length + 1 : Nat) : Int) - 1) = ((nms c).length : Int) := by unfold nms; simp
        rw [this]
        unfold nms
        rw [List.map_append]
        exact rdOf_mid _
      rw [if_neg (by omega), wrap_id (i := ((nms (up 8 l x.f0)).length : Int) - 1) (by omega) (by omega), if_pos (by omega), if_pos (by omega), hlast]
      by_cases h2 : y.f0 = allN
      · have : chOk l x = true := chOk_iff.2 ⟨h1, y, by rw [hc]; simp, h2⟩
        rw [if_pos ((all_iff _).2 h2), this]; simp
      · have : chOk l x = false := by
          rw [Bool.eq_false_iff]
          intro h
          obtain ⟨-, z, hz, hz2⟩ := chOk_iff.1 h
          rw [hc] at hz
          have : y = z := by simpa using hz
          exact h2 (this ▸ hz2)
        rw [if_neg (fun e => h2 ((all_iff _).1 e)), this]; simp
    · have : chOk l x = false := by
        rw [Bool.eq_false_iff]
        intro h
        exact h1 (chOk_iff.1 h).1
      rw [if_pos (by omega), this]; simp
theorem sSpaces_l0 (l : List S_impl_Space) (hb : l.length ≤ 1000000000) (N : Nat) (hN : N ≤ 1000000000) (hs : ∀ x ∈ l, x.f0.size < N ∧ x.f1.size < N) : ∀ (suf pre : List S_impl_Space) (k : Nat), pre ++ suf = l → spGo none pre = true → suf.length + 2 * l.length + N + 12 < k →
    spec_SpacesOk.l0 k l (pre.length : Int) = some (spGo pre.getLast? suf && (l.all (chOk l) && (decide (1 ≤ l.length ∧ l.length ≤ 7) && decide (0 ≤ ix l allN)))) := by
  intro suf
  induction suf with
  | nil =>
    intro pre k he hp hk
    obtain ⟨k, rfl⟩ := succ_of hk
    have hpl : pre = l := by rw [← he]; simp
    have hf : ∀ x ∈ l, fnd l x.f0 = some x := fun x hx => fnd_of_mem (spGo_all l none (hpl ▸ hp)).2.1 hx
    have h0 := sSpaces_l1 l hb hf l [] k rfl (by omega)
    rw [show ((([] : List S_impl_Space).length : Nat) : Int) = 0 from rfl] at h0
    rw [spec_SpacesOk.l0, if_neg (by rw [← he]; simp), h0]
    have : spGo pre.getLast? [] = true := by cases pre.getLast? <;> rfl
    rw [this, Bool.true_and]
  | cons x suf ih =>
    intro pre k he hp hk
    obtain ⟨k, rfl⟩ := succ_of hk
    have hpl : pre.length < l.length := by rw [← he]; simp
    have hrd : rd_impl_Space l (pre.length : Int) = x := by rw [← he]; exact rdS_mid
    have hxs := hs x (by rw [← he]; simp)
    have hn : spGo none (pre ++ [x]) = true → _ := fun h => ih (pre ++ [x]) k (by simp [← he]) h (by simp at hk; omega)
    rw [List.getLast?_concat] at hn
    have e : wrap64 ((pre.length : Int) + 1) = ((pre ++ [x]).length : Int) := by rw [wrap_id (by omega) (by omega)]; simp
    have happ : ∀ (a : List S_impl_Space) (p : Option S_impl_Space), spGo p a = true → spGo (a.getLast?.or p) [x] = true → spGo p (a ++ [x]) = true := by
      intro a
      induction a with
      | nil => intro p _ h; simpa using h
      | cons y a iha =>
        intro p h1 h2
        have e2 : (y :: a).getLast?.or p = a.getLast?.or (some y) := by
          cases a with
          | nil => rfl
          | cons z a => rw [List.getLast?_cons_cons]; cases h : (z :: a).getLast? <;> simp_all
        rw [e2] at h2
        cases p with
        | none =>
          simp only [spGo, Bool.and_eq_true, List.cons_append] at h1 ⊢
          exact ⟨h1.1, iha (some y) h1.2 h2⟩
        | some q =>
          simp only [spGo, Bool.and_eq_true, List.cons_append] at h1 ⊢
          exact ⟨h1.1, iha (some y) h1.2 h2⟩
    rw [spec_SpacesOk.l0, if_pos (by omega), if_pos (by omega), hrd, l8Ok_eq x k (by omega) (by omega) (by omega) (by omega), Option.bind_some, e]
    rcases List.eq_nil_or_concat pre with rfl | ⟨pre', y, rfl⟩
    · cases h : spOk x
      · simp [spGo, h]
      · rw [if_pos rfl, if_neg (by simp), hn (happ [] none rfl (by simp [spGo, h]))]
        simp [spGo, h]
    · rw [List.concat_eq_append] at *
      have hrl : rd_impl_Space l (((pre' ++ [y]).length : Int) - 1) = y := by rw [← he]; exact lastS_rd
      cases h : spOk x
      · rw [if_neg (by simp), List.getLast?_concat]; simp [spGo, h]
      · have hp0 : 0 < (pre' ++ [y]).length := by simp
        rw [if_pos rfl, if_pos (by omega), wrap_id (i := ((pre' ++ [y]).length : Int) - 1) (by omega) (by omega), if_pos (by omega), if_pos (by omega), hrl, List.getLast?_concat]
        cases h2 : Op.bytesLess y.f0.toList x.f0.toList
        · rw [if_neg (by simp)]; simp [spGo, h, h2]
        · rw [if_pos rfl, hn (happ (pre' ++ [y]) none hp (by rw [List.getLast?_concat]; simp [spGo, h, h2]))]; simp [spGo, h, h2]
theorem top_none {l : List S_impl_Space} (h : spGo none l = true) : ∀ z ∈ l, z.f0 = allN → fnd l z.f1 = none := by
  intro z hz e
  have h1 := (spGo_all l none h).1
  have h2 := h1 z hz
  unfold spOk at h2
  rw [if_pos e] at h2
  simp only [Bool.and_eq_true, decide_eq_true_eq] at h2
  rw [h2.2.1]
  exact fnd_nil h1
theorem specS_eq (l : List S_impl_Space) : specS l = areS l := by
  unfold specS areS
  cases hg : spGo none l
  · simp
  by_cases hl : 1 ≤ l.length ∧ l.length ≤ 7
  · rw [decide_eq_true hl]
    have hiff : ∀ x ∈ l, (chOk l x = true ↔ inAll l x = true) := by
      intro x hx
      rw [chOk_iff, inAll, decide_eq_true_iff]
      exact at_last (fnd_of_mem (spGo_all l none hg).2.1 hx) hl.2 (top_none hg)
    have hall : l.all (chOk l) = l.all (inAll l) := by
      rw [Bool.eq_iff_iff, List.all_eq_true, List.all_eq_true]
      exact ⟨fun h x hx => (hiff x hx).1 (h x hx), fun h x hx => (hiff x hx).2 (h x hx)⟩
    rw [hall]
    cases ha : l.all (inAll l)
    · simp
    · obtain ⟨x, hx⟩ : ∃ x, x ∈ l := List.exists_mem_of_length_pos (by omega)
      rw [← hall] at ha
      obtain ⟨-, z, hz, hz2⟩ := chOk_iff.1 (List.all_eq_true.1 ha x hx)
      have hz3 := up_mem 8 x.f0 z (List.mem_of_getLast? hz)
      rw [hz2] at hz3
      have := (ix_some hz3).1
      rw [decide_eq_true this]; rfl
  · rw [decide_eq_false hl]; simp
theorem sSpacesOk_eq (l : List S_impl_Space) (k N : Nat) (hb : l.length ≤ 1000000000) (hN : N ≤ 1000000000) (hs : ∀ x ∈ l, x.f0.size < N ∧ x.f1.size < N) (hk : 3 * l.length + N + 12 < k) : spec_SpacesOk.f k l = some (areS l) := by
  have h0 := sSpaces_l0 l hb N hN hs l [] k rfl rfl (by omega)
  rw [show ((([] : List S_impl_Space).length : Nat) : Int) = 0 from rfl] at h0
  unfold spec_SpacesOk.f
  rw [h0, ← specS_eq]; rfl
/-- Chains of spaces that are ok end. -/
theorem areS_en {l : List S_impl_Space} (h : areS l = true) (s : ByteArray) : En l s := by
  have h1 := specS_eq l
  rw [h] at h1
  unfold specS at h1
  simp only [Bool.and_eq_true, decide_eq_true_eq] at h1
  cases hf : fnd l s with
  | none => exact en_none hf
  | some x =>
    have h2 := chOk_iff.1 (List.all_eq_true.1 h1.2.1 x (fnd_mem hf))
    rw [fnd_name hf] at h2
    exact en_of (n := 8) (by have := h1.2.2.1.2; omega) (by omega)
end Go.Proofs.YtlmpmlcjlioeaaaDoor.V
/- SpaceUp, SpaceIn, SpaceGoing in the words of chains. -/
namespace Go.Proofs.YtlmpmlcjlioeaaaDoor.V
open Go.RowKit Go.Proofs.YtlmpmlcjlioeaaaDoor.P Go.Proofs.YtlmpmlcjlioeaaaDoorW.PrintWords Go.Proofs.YtlmpmlcjlioeaaaDoorW.PrintMore
/-- A space and all that it is in. -/
def chain (l : List S_impl_Space) (s : ByteArray) : List S_impl_Space := up 9 l s
theorem areS_len {l : List S_impl_Space} (h : areS l = true) : 1 ≤ l.length ∧ l.length ≤ 7 := by
  unfold areS at h
  simp only [Bool.and_eq_true, decide_eq_true_eq] at h
  exact h.1.1
theorem areS_go {l : List S_impl_Space} (h : areS l = true) : spGo none l = true := by
  unfold areS at h
  simp only [Bool.and_eq_true, decide_eq_true_eq] at h
  exact h.1.2
theorem chain_len {l : List S_impl_Space} (h : areS l = true) (s : ByteArray) : (chain l s).length ≤ 7 := by
  have h1 := up_short (areS_en h s)
  have h2 := areS_len h
  unfold chain
  omega
theorem up8 {l : List S_impl_Space} (h : areS l = true) (s : ByteArray) : up 8 l s = chain l s := by
  have h1 := chain_len h s
  unfold chain at h1 ⊢
  rw [up_take 8 9 s (by omega), List.take_of_length_le (by omega)]
/-- All sizes are small. -/
def SmSp (N : Nat) (l : List S_impl_Space) : Prop := l.length ≤ 1000000000 ∧ N ≤ 1000000000 ∧ ∀ x ∈ l, x.f0.size < N ∧ x.f1.size < N
section
variable {l : List S_impl_Space} {N k : Nat}
theorem sSpaces (h : SmSp N l) (hk : 3 * l.length + N + 12 < k) : spec_SpacesOk.f k l = some (areS l) := sSpacesOk_eq l k N h.1 h.2.1 h.2.2 hk
end
def has (l : List ByteArray) (o : ByteArray) : Bool := l.any (fun x => decide (x = o))
theorem has_iff (l : List ByteArray) (o : ByteArray) : has l o = true ↔ o ∈ l := by
  unfold has
  rw [List.any_eq_true]
  constructor
  · rintro ⟨x, hx, h⟩
    rw [decide_eq_true_iff] at h
    exact h ▸ hx
  · intro h
    exact ⟨o, h, by simp⟩
theorem l8In_l0 (o : ByteArray) : ∀ (suf pre : List ByteArray) (k : Nat), suf.length < k → (pre ++ suf).length ≤ 1000000 → spec_l8In.l0 k o (pre ++ suf) (pre.length : Int) = some (has suf o) := by
  intro suf
  induction suf with
  | nil =>
    intro pre k hk hb
    obtain ⟨k, rfl⟩ := succ_of hk
    rw [spec_l8In.l0, if_neg end_not_lt]; rfl
  | cons x suf ih =>
    intro pre k hk hb
    obtain ⟨k, rfl⟩ := succ_of hk
    rw [spec_l8In.l0, if_pos mid_lt, if_pos (nat_le0 _), rdOf_mid]
    by_cases h : x = o
    · rw [if_pos ((tl_iff _ _).2 h), h]; simp [has]
    · rw [if_neg (fun e => h ((tl_iff _ _).1 e)), wrap_snoc (x := x) (by simp at hb; omega), snoc_app, ih (pre ++ [x]) k (by simpa using hk) (by simpa using hb)]
      simp [has, h]
theorem nms_len (c : List S_impl_Space) : (nms c).length = c.length := by unfold nms; simp
section
variable {l : List S_impl_Space} {N k : Nat}
theorem l8In_eq (ha : areS l = true) (hk : l.length + 10 < k) (s o : ByteArray) : spec_l8In.f k l s o = some (has (nms (chain l s)) o) := by
  have h7 := areS_len ha
  have hc := chain_len ha s
  unfold spec_l8In.f
  rw [l8Up_eq l s k (by omega) (by omega), Option.bind_some, up8 ha]
  exact l8In_l0 o (nms (chain l s)) [] k (by rw [nms_len]; omega) (by rw [List.nil_append, nms_len]; omega)
end
section
variable {l : List S_impl_Space} {N k : Nat}
end
end Go.Proofs.YtlmpmlcjlioeaaaDoor.V
/- Uses of spaces: UseMay, UseAdd. -/
namespace Go.Proofs.YtlmpmlcjlioeaaaDoor.V
open Go.RowKit Go.Proofs.YtlmpmlcjlioeaaaDoor.P Go.Proofs.YtlmpmlcjlioeaaaDoorW.PrintWords Go.Proofs.YtlmpmlcjlioeaaaDoorW.PrintMore
theorem rdUs_mid {pre suf : List S_impl_Use} {x : S_impl_Use} : rd_impl_Use (pre ++ x :: suf) (pre.length : Int) = x := by simp [rd_impl_Use]
/-- One use for each space, in order, within limits. -/
def usB : List S_impl_Space → List S_impl_Use → Bool
  | [], [] => true
  | x :: l, u :: us => decide (u.f0 = x.f0) && decide (0 ≤ u.f1 ∧ u.f1 ≤ 99999) && usB l us
  | _, _ => false
theorem usB_len : ∀ {l : List S_impl_Space} {us : List S_impl_Use}, usB l us = true → l.length = us.length
  | [], [], _ => rfl
  | x :: l, u :: us, h => by
    simp only [usB, Bool.and_eq_true] at h
    simp [usB_len h.2]
  | [], _ :: _, h => by simp [usB] at h
  | _ :: _, [], h => by simp [usB] at h
theorem l8Uses_l0 : ∀ (us : List S_impl_Use) (l pre : List S_impl_Space) (pu : List S_impl_Use) (k : Nat), pre.length = pu.length → l.length = us.length → us.length < k → (pu ++ us).length ≤ 1000000000 →
    spec_l8Uses.l0 k (pre ++ l) (pu ++ us) (pu.length : Int) = some (usB l us) := by
  intro us
  induction us with
  | nil =>
    intro l pre pu k hp hl hk hb
    obtain ⟨k, rfl⟩ := succ_of hk
    obtain rfl : l = [] := List.eq_nil_of_length_eq_zero (by simpa using hl)
    rw [spec_l8Uses.l0, if_neg end_not_lt]; rfl
  | cons u us ih =>
    intro l pre pu k hp hl hk hb
    obtain ⟨k, rfl⟩ := succ_of hk
    cases l with
    | nil => simp at hl
    | cons x l =>
      have hrx : rd_impl_Space (pre ++ x :: l) (pu.length : Int) = x := by rw [← hp]; exact rdS_mid
      have hn := ih l (pre ++ [x]) (pu ++ [u]) k (by simp [hp]) (by simpa using hl) (by simpa using hk) (by simpa using hb)
      rw [List.append_assoc, List.append_assoc] at hn
      rw [spec_l8Uses.l0, if_pos mid_lt, if_pos (nat_le0 _), if_pos (by simp; omega), rdUs_mid, hrx, l1In_eq, Option.bind_some, wrap_snoc (x := u) (by simp at hb; omega)]
      simp only [List.cons_append, List.nil_append] at hn
      rw [hn, usB]
      by_cases h1 : u.f0 = x.f0
      · rw [if_pos ((tl_iff _ _).2 h1), decide_eq_true h1]
        by_cases h2 : 0 ≤ u.f1 ∧ u.f1 ≤ 99999
        · rw [decide_eq_true h2, if_pos rfl]; simp
        · rw [decide_eq_false h2, if_neg (by simp)]; simp
      · rw [if_neg (fun e => h1 ((tl_iff _ _).1 e)), decide_eq_false h1]; simp
theorem l8Uses_eq (l : List S_impl_Space) (us : List S_impl_Use) (k : Nat) (hk : us.length < k) (hb : us.length ≤ 1000000000) : spec_l8Uses.f k l us = some (usB l us) := by
  unfold spec_l8Uses.f
  by_cases h : us.length = l.length
  · rw [if_pos (by omega)]
    exact l8Uses_l0 us l [] [] k rfl h.symm hk hb
  · rw [if_neg (by omega)]
    cases hu : usB l us with
    | false => rfl
    | true => exact absurd (usB_len hu).symm h
theorem areUses_l0 (L : List S_impl_Space) (U : List S_impl_Use) (hbl : L.length ≤ 1000000000) : ∀ (us : List S_impl_Use) (l pre : List S_impl_Space) (pu : List S_impl_Use) (k : Nat), pre ++ l = L → pu ++ us = U → pre.length = pu.length → us.length < k → U.length ≤ 1000000000 →
    impl_areUses.l0 k L U U (U.length : Int) (pu.length : Int) = some (usB l us) := by
  intro us
  induction us with
  | nil =>
    intro l pre pu k hL hU hp hk hb
    obtain ⟨k, rfl⟩ := succ_of hk
    have h1 : U.length = pu.length := by rw [← hU]; simp
    have h2 : L.length = pre.length + l.length := by rw [← hL]; simp
    rw [impl_areUses.l0, if_neg (by omega)]
    cases l with
    | nil =>
      have : (U.length : Int) = (L.length : Int) := by simp at h2; omega
      rw [this]; simp [usB]
    | cons x l =>
      have : ¬ (U.length : Int) = (L.length : Int) := by simp at h2; omega
      simp [usB]; omega
  | cons u us ih =>
    intro l pre pu k hL hU hp hk hb
    obtain ⟨k, rfl⟩ := succ_of hk
    have h1 : U.length = pu.length + (us.length + 1) := by rw [← hU]; simp
    have h2 : L.length = pre.length + l.length := by rw [← hL]; simp
    have hru : rd_impl_Use U (pu.length : Int) = u := by rw [← hU]; exact rdUs_mid
    rw [impl_areUses.l0, if_pos (by omega), if_pos (by omega), if_pos (by omega)]
    cases l with
    | nil =>
      simp at h2
      rw [if_pos (by omega)]; rfl
    | cons x l =>
      simp at h2
      have hrx : rd_impl_Space L (pu.length : Int) = x := by rw [← hp, ← hL]; exact rdS_mid
      have hn := ih l (pre ++ [x]) (pu ++ [u]) k (by simp [hL]) (by simp [hU]) (by simp [hp]) (by simpa using hk) hb
      have e : wrap64 ((pu.length : Int) + 1) = ((pu ++ [u]).length : Int) := by rw [wrap_id (by omega) (by omega)]; simp
      rw [if_neg (by omega), if_pos (by omega), hru, hrx, e, hn, usB]
      by_cases h3 : u.f0 = x.f0
      · rw [if_pos ((tl_iff _ _).2 h3), decide_eq_true h3]
        by_cases h4 : u.f1 < 0
        · rw [if_pos h4, decide_eq_false (by omega)]; simp
        · rw [if_neg h4]
          by_cases h5 : u.f1 > 99999
          · rw [if_pos h5, decide_eq_false (by omega)]; simp
          · rw [if_neg h5, decide_eq_true (show 0 ≤ u.f1 ∧ u.f1 ≤ 99999 by omega)]; simp
      · rw [if_neg (fun e => h3 ((tl_iff _ _).1 e)), decide_eq_false h3]; simp
theorem areUses_eq (l : List S_impl_Space) (us : List S_impl_Use) (k : Nat) (hk : us.length < k) (hb : us.length ≤ 1000000000) (hbl : l.length ≤ 1000000000) : impl_areUses.f k l us = some (usB l us) :=
  areUses_l0 l us hbl us l [] [] k rfl rfl rfl hk hb
/-- How much a space uses. -/
def use (us : List S_impl_Use) (s : ByteArray) : Int := match us.find? (fun u => decide (u.f0 = s)) with | some u => u.f1 | none => 0
def may (us : List S_impl_Use) (m : Int) : List S_impl_Space → ByteArray
  | [] => ⟨#[]⟩
  | x :: c => if 0 ≤ x.f2 ∧ x.f2 < use us x.f0 + m then x.f0 else may us m c
section
variable {l : List S_impl_Space} {us : List S_impl_Use} {N k : Nat}
end
end Go.Proofs.YtlmpmlcjlioeaaaDoor.V
/- UseAdd. -/
namespace Go.Proofs.YtlmpmlcjlioeaaaDoor.V
open Go.RowKit Go.Proofs.YtlmpmlcjlioeaaaDoor.P Go.Proofs.YtlmpmlcjlioeaaaDoorW.PrintWords Go.Proofs.YtlmpmlcjlioeaaaDoorW.PrintMore
def addU (m : Int) (u : S_impl_Use) : S_impl_Use := ⟨u.f0, wrap64 (u.f1 + m)⟩
/-- More at all these names. -/
def adds (m : Int) (P : List ByteArray) (u : S_impl_Use) : S_impl_Use := if has P u.f0 = true then addU m u else u
theorem usB_mem : ∀ {l : List S_impl_Space} {us : List S_impl_Use}, usB l us = true → ∀ u ∈ us, ∃ y ∈ l, y.f0 = u.f0
  | [], [], _, u, h => by cases h
  | x :: l, u :: us, h, v, hv => by
    simp only [usB, Bool.and_eq_true, decide_eq_true_eq] at h
    rcases List.mem_cons.1 hv with rfl | hv
    · exact ⟨x, by simp, h.1.1.symm⟩
    · obtain ⟨y, hy, e⟩ := usB_mem h.2 v hv
      exact ⟨y, by simp [hy], e⟩
  | [], _ :: _, h, _, _ => by simp [usB] at h
  | _ :: _, [], h, _, _ => by simp [usB] at h
theorem set_at (m : Int) (g : S_impl_Use → S_impl_Use) : ∀ (suf : List S_impl_Space) (us pu : List S_impl_Use) (s : ByteArray) (x : S_impl_Space), usB suf us = true → suf.Pairwise (fun x y => Op.bytesLess x.f0.toList y.f0.toList = true) → fnd suf s = some x →
    (pu ++ us.map g).set (fsp.idx (fsp.p s) suf (pu.length : Int)).toNat (addU m (rd_impl_Use (pu ++ us.map g) (fsp.idx (fsp.p s) suf (pu.length : Int)))) = pu ++ us.map (fun u => if u.f0 = s then addU m (g u) else g u)
  | [], _, _, _, _, _, _, h => by cases h
  | y :: suf, [], _, _, _, h, _, _ => by simp [usB] at h
  | y :: suf, u :: us, pu, s, x, h, hp, hf => by
    have h' := h
    simp only [usB, Bool.and_eq_true, decide_eq_true_eq] at h
    rw [List.pairwise_cons] at hp
    by_cases hy : y.f0 = s
    · have h1 : fsp.idx (fsp.p s) (y :: suf) (pu.length : Int) = (pu.length : Int) := by rw [fsp.idx, if_pos ((p_iff s y).2 hy)]
      have hu : u.f0 = s := by rw [h.1.1, hy]
      have hrest : us.map (fun u => if u.f0 = s then addU m (g u) else g u) = us.map g := by
        apply List.map_congr_left
        intro v hv
        obtain ⟨z, hz, e⟩ := usB_mem h.2 v hv
        have h2 := hp.1 z hz
        have : v.f0 ≠ s := fun e2 => by
          rw [e, e2, hy, bl_irrefl] at h2
          cases h2
        rw [if_neg this]
      rw [h1, List.map_cons, rdUs_mid, set_mid, List.map_cons, hrest, if_pos hu]
    · have h1 : fsp.idx (fsp.p s) (y :: suf) (pu.length : Int) = fsp.idx (fsp.p s) suf ((pu ++ [g u]).length : Int) := by
        rw [fsp.idx, if_neg (fun e => hy ((p_iff s y).1 e))]; simp
      have h2 : fnd suf s = some x := by unfold fnd at hf ⊢; rwa [List.find?_cons_of_neg (by simpa using hy)] at hf
      have ih := set_at m g suf us (pu ++ [g u]) s x h.2 hp.2 h2
      have hu : u.f0 ≠ s := by rw [h.1.1]; exact hy
      have e : ∀ t : List S_impl_Use, (pu ++ [g u]) ++ t = pu ++ g u :: t := fun t => by simp
      rw [e, e] at ih
      rw [h1, List.map_cons, List.map_cons, if_neg hu]
      exact ih
theorem adds_step (m : Int) (P : List ByteArray) (n : ByteArray) (hn : n ∉ P) : (fun u => if u.f0 = n then addU m (adds m P u) else adds m P u) = adds m (P ++ [n]) := by
  funext u
  by_cases h : u.f0 = n
  · rw [if_pos h]
    have h1 : has P u.f0 = false := by rw [Bool.eq_false_iff]; intro e; rw [h] at e; exact hn ((has_iff P n).1 e)
    have h2 : has (P ++ [n]) u.f0 = true := (has_iff _ _).2 (by simp [h])
    unfold adds
    rw [h1, h2, if_neg (by simp), if_pos rfl]
  · rw [if_neg h]
    have h2 : has (P ++ [n]) u.f0 = has P u.f0 := by
      rw [Bool.eq_iff_iff, has_iff, has_iff]
      simp [h]
    unfold adds
    rw [h2]
theorem useAdd_l0 (l : List S_impl_Space) (us : List S_impl_Use) (m : Int) (hB : usB l us = true) (hp : l.Pairwise (fun x y => Op.bytesLess x.f0.toList y.f0.toList = true)) (hl : l.length ≤ 1000000) (C : List ByteArray) (hC : C.length ≤ 1000000) (hnd : C.Nodup) : ∀ (suf : List S_impl_Space) (pre : List ByteArray) (k : Nat), pre ++ nms suf = C → (∀ y ∈ suf, fnd l y.f0 = some y) → suf.length < k →
    impl_useAdd.l0 k l m (us.map (adds m pre)) C (C.length : Int) (pre.length : Int) = some (us.map (adds m C)) := by
  intro suf
  induction suf with
  | nil =>
    intro pre k he hf hk
    obtain ⟨k, rfl⟩ := succ_of hk
    have : pre = C := by rw [← he]; simp [nms]
    rw [impl_useAdd.l0, if_neg (by rw [this]; simp), this]
  | cons x suf ih =>
    intro pre k he hf hk
    obtain ⟨k, rfl⟩ := succ_of hk
    have he' : pre ++ x.f0 :: nms suf = C := he
    have hpl : pre.length < C.length := by rw [← he']; simp
    have hrd : rdOf ByteArray.empty C (pre.length : Int) = x.f0 := by rw [← he']; exact rdOf_mid _
    have hx := hf x (by simp)
    obtain ⟨h1, h2, h3⟩ := ix_some hx
    have h4 := usB_len hB
    have hnp : x.f0 ∉ pre := by
      rw [← he'] at hnd
      have := List.nodup_append.1 hnd
      intro hm
      exact this.2.2 _ hm _ (by simp) rfl
    have hset := set_at m (adds m pre) l us [] x.f0 x hB hp hx
    simp only [List.nil_append] at hset
    rw [show ((([] : List S_impl_Use).length : Nat) : Int) = 0 from rfl, adds_step m pre x.f0 hnp] at hset
    have hn := ih (pre ++ [x.f0]) k (by rw [← he']; simp) (fun y hy => hf y (by simp [hy])) (by simpa using hk)
    have e : wrap64 ((pre.length : Int) + 1) = ((pre ++ [x.f0]).length : Int) := by rw [wrap_id (by omega) (by omega)]; simp
    rw [impl_useAdd.l0, if_pos (by omega), if_pos (by omega), if_pos (by omega), hrd, findSpace_eq, Option.bind_some, if_pos h1, if_pos (by simp; omega), e]
    show impl_useAdd.l0 k l m ((us.map (adds m pre)).set (fsp.idx (fsp.p x.f0) l 0).toNat (addU m (rd_impl_Use (us.map (adds m pre)) (fsp.idx (fsp.p x.f0) l 0)))) C (C.length : Int) _ = _
    rw [hset]
    exact hn
theorem l8Add_l0 (l : List S_impl_Space) (s : ByteArray) (m : Int) (ha : areS l = true) : ∀ (suf pre : List S_impl_Use) (k : Nat), suf.length + 40 < k → (pre ++ suf).length ≤ 1000000000 →
    spec_l8Add.l0 k l s m (pre.map (adds m (nms (chain l s))) ++ suf) (pre.length : Int) = some ((pre ++ suf).map (adds m (nms (chain l s)))) := by
  intro suf
  induction suf with
  | nil =>
    intro pre k hk hb
    obtain ⟨k, rfl⟩ := succ_of hk
    rw [spec_l8Add.l0, if_neg (by simp)]; simp
  | cons x suf ih =>
    intro pre k hk hb
    obtain ⟨k, rfl⟩ := succ_of hk
    have h7 := areS_len ha
    have hml : (pre.map (adds m (nms (chain l s)))).length = pre.length := by simp
    have hrd : rd_impl_Use (pre.map (adds m (nms (chain l s))) ++ x :: suf) (pre.length : Int) = x := by
      have := rdUs_mid (pre := pre.map (adds m (nms (chain l s)))) (suf := suf) (x := x)
      rwa [hml] at this
    have hset : ∀ y : S_impl_Use, (pre.map (adds m (nms (chain l s))) ++ x :: suf).set ((pre.length : Int)).toNat y = pre.map (adds m (nms (chain l s))) ++ y :: suf := by
      intro y
      have := set_mid (pre := pre.map (adds m (nms (chain l s)))) (suf := suf) (x := x) (y := y)
      rwa [hml] at this
    have hn := ih (pre ++ [x]) k (by simp at hk; omega) (by simpa using hb)
    have e : wrap64 ((pre.length : Int) + 1) = ((pre ++ [x]).length : Int) := by rw [wrap_id (by omega) (by simp at hb; omega)]; simp
    rw [List.map_append, List.append_assoc] at hn
    simp only [List.map_cons, List.map_nil, List.cons_append, List.nil_append, List.append_assoc] at hn
    rw [spec_l8Add.l0, if_pos (by simp; omega), if_pos (by omega), hrd, l8In_eq ha (by simp at hk; omega), Option.bind_some, e]
    by_cases h : has (nms (chain l s)) x.f0 = true
    · have ea : adds m (nms (chain l s)) x = addU m x := by unfold adds; rw [if_pos h]
      rw [if_pos h, hset]
      rw [ea] at hn
      exact hn
    · have ea : adds m (nms (chain l s)) x = x := by unfold adds; rw [if_neg h]
      rw [if_neg h]
      rw [ea] at hn
      exact hn
def addS (l : List S_impl_Space) (us : List S_impl_Use) (s : ByteArray) (m : Int) : List S_impl_Use :=
  if areS l = true ∧ usB l us = true ∧ -99999 ≤ m ∧ m ≤ 99999 then (if usB l (us.map (adds m (nms (chain l s)))) = true then us.map (adds m (nms (chain l s))) else []) else []
section
variable {l : List S_impl_Space} {us : List S_impl_Use} {N k : Nat}
theorem sAdd_eq (h : SmSp N l) (hu : us.length ≤ 1000000000) (hk : 3 * l.length + us.length + N + 60 < k) (s : ByteArray) (m : Int) : spec_UseAdd.f k l us s m = some (addS l us s m) := by
  have hl := h.1
  obtain ⟨k, rfl⟩ := succ_of hk
  have hj : spec_UseAdd.j0 (k + 1) l us s m true = some [] := by rw [spec_UseAdd.j0, if_pos rfl]
  unfold spec_UseAdd.f addS
  rw [sSpaces h (by omega), Option.bind_some, l8Uses_eq l us (k + 1) (by omega) hu, Option.bind_some, l1In_eq, Option.bind_some, hj]
  by_cases ha : areS l = true
  · rw [if_pos ha]
    by_cases hB : usB l us = true
    · rw [if_pos hB]
      by_cases hm : -99999 ≤ m ∧ m ≤ 99999
      · rw [decide_eq_true hm, if_pos ⟨ha, hB, hm⟩, spec_UseAdd.j0, if_neg (by simp), spec_l8Add.f, Option.bind_some, if_pos (by simp; omega)]
        have h0 := l8Add_l0 l s m ha us [] k (by omega) (by simpa using hu)
        rw [show ((([] : List S_impl_Use).length : Nat) : Int) = 0 from rfl] at h0
        simp only [List.map_nil, List.nil_append] at h0 ⊢
        rw [h0, Option.bind_some, l8Uses_eq l _ k (by simp; omega) (by simp; omega), Option.bind_some]
        by_cases h5 : usB l (us.map (adds m (nms (chain l s)))) = true
        · rw [if_pos h5, if_pos h5]
        · rw [if_neg h5, if_neg h5]
      · rw [decide_eq_false hm, if_neg (fun h => hm h.2.2)]; exact hj
    · rw [if_neg hB, if_neg (fun h => hB h.2.1)]
  · rw [if_neg ha, if_neg (fun h => ha h.1)]
theorem Add_eq (hl : l.length ≤ 1000000000) (hu : us.length ≤ 1000000000) (hk : us.length + 500 < k) (s : ByteArray) (m : Int) : impl_UseAdd.f k l us s m = some (addS l us s m) := by
  obtain ⟨k, rfl⟩ := succ_of hk
  have hj : impl_UseAdd.j0 (k + 1) l us s m true = some [] := by rw [impl_UseAdd.j0, if_pos rfl]
  unfold impl_UseAdd.f addS
  rw [areSpaces_eq l (k + 1) (by omega), Option.bind_some, areUses_eq l us (k + 1) (by omega) hu hl, Option.bind_some, hj]
  by_cases ha : areS l = true
  · rw [if_pos ha]
    by_cases hB : usB l us = true
    · rw [if_pos hB]
      by_cases h0 : m < -99999
      · rw [if_pos h0, if_neg (fun h => by omega)]
      · rw [if_neg h0]
        by_cases h9 : m > 99999
        · rw [decide_eq_true h9, hj, if_neg (fun h => by omega)]
        · have h7 := areS_len ha
          have hc := chain_len ha s
          have hul := usB_len hB
          rw [decide_eq_false h9, if_pos ⟨ha, hB, by omega, by omega⟩, impl_UseAdd.j0, if_neg (by simp), impl_useAdd.f, Option.bind_some, if_pos (by simp; omega), spaceUp_eq l s k (by omega) (areS_en ha s), Option.bind_some]
          have hnd : (nms (chain l s)).Nodup := up_nodup _ s (areS_en ha s) (Nat.le_refl _)
          have h0 := useAdd_l0 l us m hB (spGo_all l none (areS_go ha)).2.1 (by omega) (nms (chain l s)) (by rw [nms_len]; omega) hnd (chain l s) [] k rfl (fun y hy => up_mem 9 s y hy) (by omega)
          have hm0 : us.map (adds m []) = us := by
            have : adds m [] = id := by funext u; unfold adds has; simp
            rw [this, List.map_id]
          rw [hm0, show ((([] : List ByteArray).length : Nat) : Int) = 0 from rfl] at h0
          show ((impl_useAdd.l0 k l m ([] ++ us) (nms (chain l s)) ((nms (chain l s)).length : Int) 0).bind _) = _
          rw [List.nil_append, h0, Option.bind_some, areUses_eq l _ k (by simp; omega) (by simp; omega) hl, Option.bind_some]
          by_cases h5 : usB l (us.map (adds m (nms (chain l s)))) = true
          · rw [if_pos h5, if_pos h5]
          · rw [if_neg h5, if_neg h5]
    · rw [if_neg hB, if_neg (fun h => hB h.2.1)]
  · rw [if_neg ha, if_neg (fun h => ha h.1)]
end
end Go.Proofs.YtlmpmlcjlioeaaaDoor.V
/- The laws' own helpers over uses. -/
namespace Go.Proofs.YtlmpmlcjlioeaaaDoor.V
open Go.RowKit Go.Proofs.YtlmpmlcjlioeaaaDoor.P Go.Proofs.YtlmpmlcjlioeaaaDoorW.PrintWords Go.Proofs.YtlmpmlcjlioeaaaDoorW.PrintMore
theorem rdLU_mid {pre suf : List S_laws_Use} {x : S_laws_Use} : rd_laws_Use (pre ++ x :: suf) (pre.length : Int) = x := by simp [rd_laws_Use]
def szU : List S_laws_Use → Int → Int
  | [], left => left
  | x :: r, left => if left - x.f0.size < 0 then -1 else szU r (left - x.f0.size)
theorem szUseS_l0 : ∀ (suf pre : List S_laws_Use) (left : Int) (k : Nat), suf.length < k → 0 ≤ left → left ≤ 4611686018427387904 → (∀ x ∈ suf, x.f0.size ≤ 9223372036854775807) → (pre ++ suf).length < 9223372036854775807 →
    laws_szUseS.l0 k (pre ++ suf) left (pre.length : Int) = some (szU suf left) := by
  intro suf
  induction suf with
  | nil =>
    intro pre left k hk h0 h1 hs hb
    obtain ⟨k, rfl⟩ := succ_of hk
    rw [laws_szUseS.l0, if_neg end_not_lt]; rfl
  | cons x suf ih =>
    intro pre left k hk h0 h1 hs hb
    obtain ⟨k, rfl⟩ := succ_of hk
    have hx := hs x (by simp)
    rw [laws_szUseS.l0, if_pos mid_lt, if_pos (nat_le0 _), rdLU_mid, laws_szUse.f, wrap_id (i := left - (x.f0.size : Int)) (by omega) (by omega), szU]
    by_cases hc : left - (x.f0.size : Int) < 0
    · rw [if_pos hc, Option.bind_some, if_pos (by omega), if_pos hc]
    · rw [if_neg hc, Option.bind_some, if_neg hc, if_neg hc, wrap_snoc (x := x) (by simp at hb; omega), snoc_app]
      exact ih (pre ++ [x]) _ k (by simpa using hk) (by omega) (by omega) (fun s h => hs s (by simp [h])) (by simpa using hb)
theorem szU_pos : ∀ (l : List S_laws_Use) (left : Int), 0 ≤ szU l left → szU l left ≤ left ∧ ∀ x ∈ l, (x.f0.size : Int) ≤ left
  | [], left, _ => ⟨by simp [szU], fun x h => by cases h⟩
  | x :: r, left, h => by
    rw [szU] at h ⊢
    by_cases hl : left - x.f0.size < 0
    · rw [if_pos hl] at h; omega
    · rw [if_neg hl] at h ⊢
      obtain ⟨h1, h2⟩ := szU_pos r _ h
      refine ⟨by omega, fun y hy => ?_⟩
      rcases List.mem_cons.1 hy with rfl | hy
      · omega
      · have := h2 y hy; omega
theorem szUseS_eq (l : List S_laws_Use) (left : Int) (k : Nat) (hk : l.length < k) (h0 : 0 ≤ left) (h1 : left ≤ 4611686018427387904) (hs : ∀ x ∈ l, x.f0.size ≤ 9223372036854775807) (hb : l.length ≤ 9223372036854775807) :
    ∃ v, laws_szUseS.f k l left = some v ∧ (0 ≤ v → v ≤ left ∧ (l.length : Int) ≤ left ∧ ∀ x ∈ l, (x.f0.size : Int) ≤ left) := by
  unfold laws_szUseS.f
  rw [wrap_id (by omega) (by omega)]
  by_cases hl : left - l.length < 0
  · rw [if_pos hl]; exact ⟨-1, rfl, fun h => by omega⟩
  · rw [if_neg hl]
    have h2 := szUseS_l0 l [] (left - l.length) k hk (by omega) (by omega) hs (by simp; omega)
    rw [List.nil_append, show ((([] : List S_laws_Use).length : Nat) : Int) = 0 from rfl] at h2
    rw [h2]
    refine ⟨_, rfl, fun h => ?_⟩
    obtain ⟨h3, h4⟩ := szU_pos l _ h
    exact ⟨by omega, by omega, fun x hx => by have := h4 x hx; omega⟩
def cU (x : S_laws_Use) : S_impl_Use := ⟨x.f0, x.f1⟩
theorem toUseS_l0 : ∀ (suf pre : List S_laws_Use) (zs : List S_impl_Use) (k : Nat), zs.length = suf.length → suf.length < k → (pre ++ suf).length < 9223372036854775807 →
    laws_toUseS.l0 k (pre ++ suf) (pre.map cU ++ zs) (pre.length : Int) = some ((pre ++ suf).map cU) := by
  intro suf
  induction suf with
  | nil =>
    intro pre zs k hz hk hb
    obtain ⟨k, rfl⟩ := succ_of hk
    obtain rfl : zs = [] := List.eq_nil_of_length_eq_zero hz
    rw [laws_toUseS.l0, if_neg end_not_lt]; simp
  | cons x suf ih =>
    intro pre zs k hz hk hb
    obtain ⟨k, rfl⟩ := succ_of hk
    cases zs with
    | nil => simp at hz
    | cons z zs =>
      have hset : (pre.map cU ++ z :: zs).set ((pre.length : Int)).toNat (cU x) = (pre ++ [x]).map cU ++ zs := by
        have := set_mid (pre := pre.map cU) (suf := zs) (x := z) (y := cU x)
        rw [List.length_map] at this
        rw [this]; simp
      rw [laws_toUseS.l0, if_pos mid_lt, if_pos (nat_le0 _), rdLU_mid, laws_toUse.f, Option.bind_some, if_pos (by simp; omega)]
      show laws_toUseS.l0 k (pre ++ x :: suf) ((pre.map cU ++ z :: zs).set ((pre.length : Int)).toNat (cU x)) (wrap64 ((pre.length : Int) + 1)) = _
      rw [hset, wrap_snoc (x := x) (by simp at hb; omega), snoc_app]
      exact ih (pre ++ [x]) zs k (by simpa using hz) (by simpa using hk) (by simpa using hb)
theorem toUseS_eq (l : List S_laws_Use) (k : Nat) (hk : l.length < k) (hb : l.length ≤ 1000000000000) : laws_toUseS.f k l = some (l.map cU) := by
  unfold laws_toUseS.f
  rw [if_pos (nat_le0 _), if_pos (by omega)]
  exact toUseS_l0 l [] _ k (by simp) hk (by simp; omega)
theorem eqUseS_l0 : ∀ (suf pre : List S_impl_Use) (k : Nat), suf.length < k → (pre ++ suf).length < 9223372036854775807 → laws_eqUseS.l0 k (pre ++ suf) (pre ++ suf) (pre.length : Int) = some true := by
  intro suf
  induction suf with
  | nil =>
    intro pre k hk hb
    obtain ⟨k, rfl⟩ := succ_of hk
    rw [laws_eqUseS.l0, if_neg end_not_lt]
  | cons x suf ih =>
    intro pre k hk hb
    obtain ⟨k, rfl⟩ := succ_of hk
    have hx : laws_eqUse.f x.f0 x.f1 x.f0 x.f1 = some true := by
      unfold laws_eqUse.f
      rw [if_pos rfl, if_pos rfl]
    rw [laws_eqUseS.l0, if_pos mid_lt, if_pos (nat_le0 _), if_pos mid_lt, rdUs_mid, hx, Option.bind_some, if_pos rfl, wrap_snoc (x := x) (by simp at hb; omega), snoc_app]
    exact ih (pre ++ [x]) k (by simpa using hk) (by simpa using hb)
theorem eqUseS_refl (l : List S_impl_Use) (k : Nat) (hk : l.length < k) (hb : l.length < 9223372036854775807) : laws_eqUseS.f k l l = some true := by
  unfold laws_eqUseS.f
  rw [if_pos rfl]
  exact eqUseS_l0 l [] k hk hb
theorem good_sizesU {l : List S_laws_Use} (h : ∀ y ∈ l, Good_laws_Use y) : ∀ x ∈ l, x.f0.size ≤ 9223372036854775807 := fun x hx => (h x hx).1
end Go.Proofs.YtlmpmlcjlioeaaaDoor.V
/- The plain statement of FnExactUseAdd. -/
namespace Go.Proofs.YtlmpmlcjlioeaaaDoor.Pure
open Go.RowKit Go.Proofs.YtlmpmlcjlioeaaaDoor.P Go.Proofs.YtlmpmlcjlioeaaaDoor.V Go.Proofs.YtlmpmlcjlioeaaaDoorW.PrintWords Go.Proofs.YtlmpmlcjlioeaaaDoorW.PrintMore
theorem addS_len {l : List S_impl_Space} {us : List S_impl_Use} {s : ByteArray} {m : Int} : (addS l us s m).length ≤ us.length := by
  unfold addS
  split
  · split
    · simp
    · simp
  · simp
theorem FnExactUseAdd : laws_FnExactUseAdd.Pure := by
  intro l us s m hl hu _ _
  by_cases hc0 : (s.size : Int) > 1048576
  · exact ⟨0, by unfold laws_FnExactUseAdd.f; rw [if_pos hc0]⟩
  obtain ⟨K0, hK0⟩ : ∃ K, K = 9000000 := ⟨_, rfl⟩
  obtain ⟨K, hK⟩ : ∃ K, K = K0 + l.length + us.length := ⟨_, rfl⟩
  obtain ⟨v, hv, hv2⟩ := szSpaceS_eq l 1048576 (K + 1) (by omega) (by omega) (by omega) (good_sizes hl.2) hl.1
  refine ⟨K + 1, ?_⟩
  unfold laws_FnExactUseAdd.f
  rw [if_neg hc0, hv, Option.bind_some]
  by_cases h : v < 0
  · rw [if_pos h]
  obtain ⟨q0, q1, q2⟩ := hv2 (by omega)
  obtain ⟨v2, hw, hw2⟩ := szUseS_eq us v (K + 1) (by omega) (by omega) (by omega) (good_sizesU hu.2) hu.1
  rw [if_neg h, hw, Option.bind_some]
  by_cases h2 : v2 < 0
  · rw [if_pos h2]
  obtain ⟨-, r1, r2⟩ := hw2 (by omega)
  have hsm : SmSp 1048577 (l.map cSp) := ⟨by simp; omega, by omega, fun x hx => by
    obtain ⟨y, hy, rfl⟩ := List.mem_map.1 hx
    have := q2 y hy
    show y.f0.size < _ ∧ y.f1.size < _
    omega⟩
  have hlen : (l.map cSp).length = l.length := by simp
  have hlenu : (us.map cU).length = us.length := by simp
  obtain ⟨L', hL'⟩ := markSpaceS_eq (l.map cSp) 1 (K + 1) (by omega) (by omega) (by omega)
  have h1 := sAdd_eq (us := us.map cU) (k := K + 1) hsm (by omega) (by omega) s m
  have h3 := Add_eq (l := l.map cSp) (us := us.map cU) (k := K + 1) (by omega) (by omega) (by omega) s m
  have h4 := Add_eq (l := l.map cSp) (us := us.map cU) (k := K) (by omega) (by omega) (by omega) s m
  have hol := addS_len (l := l.map cSp) (us := us.map cU) (s := s) (m := m)
  generalize addS (l.map cSp) (us.map cU) s m = o at *
  have e0 := eqUseS_refl o (K + 1) (by omega) (by omega)
  have e1 := eqUseS_refl o K (by omega) (by omega)
  rw [if_neg h2]
  have hmu := markUseS_eq (us.map cU) (1 + 5 * ((l.map cSp).length : Int)) (K + 1) (by omega) (by omega) (by omega)
  simp only [toSpaceS_eq l (K + 1) (by omega) (by omega), toUseS_eq us (K + 1) (by omega) (by omega), Option.bind_some, h1, h3, e0, if_true, eqSpaceS_refl (l.map cSp) (K + 1) (by omega) (by omega), eqUseS_refl (us.map cU) (K + 1) (by omega) (by omega), hL', hmu]
  rw [if_neg (by omega), laws_FnExactUseAdd.j0, if_neg (by simp), markUseS_eq o 1 K (by omega) (by omega) (by omega), Option.bind_some]
  have hh := heldUseS_eq o.length 1 K (by omega) (by omega) (by omega)
  simp only [hh, Option.bind_some]
  rw [if_neg (by omega), if_pos trivial, toSpaceS_eq l K (by omega) (by omega), Option.bind_some, toUseS_eq us K (by omega) (by omega), Option.bind_some, h4, Option.bind_some, e1, Option.bind_some]
  simp only [if_true]
  rw [if_neg (by omega)]
end Go.Proofs.YtlmpmlcjlioeaaaDoor.Pure
