/- The plain statement of the law FnUseMay, proved. -/
import Derived.Test.YtlmpmlcjlioeaaaDoorZFnUseMayW0
import Derived.Test.YtlmpmlcjlioeaaaDoorZFnUseMay0
import Derived.Test.YtlmpmlcjlioeaaaDoorZFnUseMay1
import Derived.Test.YtlmpmlcjlioeaaaDoorZFnUseMay6
import Derived.Test.YtlmpmlcjlioeaaaDoorZFnUseMay5
import Derived.Laws.Bits64
import Derived.Test.YtlmpmlcjlioeaaaDoorZFnUseMay2
import Derived.Test.YtlmpmlcjlioeaaaDoorZFnUseMay4
/- Plain lemmas on lists, numbers and strings, for the laws' plain statements. -/
namespace Go.Proofs.YtlmpmlcjlioeaaaDoor.V
open Go.RowKit Go.Proofs.YtlmpmlcjlioeaaaDoorW.PrintWords Go.Proofs.YtlmpmlcjlioeaaaDoorW.PrintMore
theorem succ_of {d k : Nat} (h : d < k) : ∃ m, k = m + 1 := ⟨k - 1, by omega⟩
theorem wrap_id {i : Int} (h : -9223372036854775808 ≤ i) (h' : i ≤ 9223372036854775807) : wrap64 i = i := by unfold wrap64; omega
theorem tl_iff (a b : ByteArray) : a.toList = b.toList ↔ a = b := by
 rw [ByteArray.toList_eq, ByteArray.toList_eq]
 constructor
 · intro h
   cases a; cases b
   simp at h
   simp [h]
 · rintro rfl; rfl
section
variable {α : Type} {pre suf : List α} {x y : α}
theorem mid_lt : ((pre.length : Int) < ((pre ++ x :: suf).length : Int)) := by simp; omega
theorem end_not_lt : ¬ ((pre.length : Int) < ((pre ++ ([] : List α)).length : Int)) := by simp
theorem rdOf_mid (d : α) : rdOf d (pre ++ x :: suf) (pre.length : Int) = x := by simp [rdOf]
theorem set_mid : (pre ++ x :: suf).set ((pre.length : Int)).toNat y = pre ++ y :: suf := by simp
theorem wrap_snoc (h : pre.length < 9223372036854775807) : wrap64 ((pre.length : Int) + 1) = ((pre ++ [x]).length : Int) := by
 rw [wrap_id (by omega) (by omega)]; simp
theorem snoc_app : pre ++ x :: suf = (pre ++ [x]) ++ suf := by simp
end
theorem nat_le0 (n : Nat) : (0 : Int) ≤ (n : Int) := Int.natCast_nonneg n
end Go.Proofs.YtlmpmlcjlioeaaaDoor.V
/- What holds of all bytes of a string, counted from a place on; the order of strings. -/
namespace Go.Proofs.YtlmpmlcjlioeaaaDoor.V
open Go.RowKit Go.Proofs.YtlmpmlcjlioeaaaDoor.P Go.Proofs.YtlmpmlcjlioeaaaDoorW.PrintWords Go.Proofs.YtlmpmlcjlioeaaaDoorW.PrintMore
theorem bt_nat (s : ByteArray) (j : Nat) (h : j < s.size) : bt s (j : Nat) = ((s.data.toList[j]'(by simpa using h)).toNat : Int) := by
 unfold bt
 rw [dif_pos (by simpa using h)]
 rfl
theorem bl_irrefl : ∀ a : List UInt8, Op.bytesLess a a = false
 | [] => rfl
 | x :: a => by simp [Op.bytesLess, bl_irrefl a]
theorem bl_trans : ∀ {a b c : List UInt8}, Op.bytesLess a b = true → Op.bytesLess b c = true → Op.bytesLess a c = true
 | [], _, [], _, h => by cases ‹List UInt8› <;> simp [Op.bytesLess] at h
 | [], _, _ :: _, _, _ => rfl
 | _ :: _, [], _, h, _ => by simp [Op.bytesLess] at h
 | _ :: _, _ :: _, [], _, h => by simp [Op.bytesLess] at h
 | x :: a, y :: b, z :: c, h1, h2 => by
  simp only [Op.bytesLess, Bool.or_eq_true, Bool.and_eq_true, decide_eq_true_eq, beq_iff_eq] at h1 h2 ⊢
  rcases h1 with h1 | ⟨rfl, h1⟩
  · rcases h2 with h2 | ⟨rfl, h2⟩
    · left; rw [UInt8.lt_iff_toNat_lt] at *; omega
    · exact .inl h1
  · rcases h2 with h2 | ⟨rfl, h2⟩
    · exact .inl h2
    · exact .inr ⟨rfl, bl_trans h1 h2⟩
end Go.Proofs.YtlmpmlcjlioeaaaDoor.V
/- Names: what the program's test and the reference's tell. -/
namespace Go.Proofs.YtlmpmlcjlioeaaaDoor.V
open Go.RowKit Go.Proofs.YtlmpmlcjlioeaaaDoor.P Go.Proofs.YtlmpmlcjlioeaaaDoorW.PrintWords Go.Proofs.YtlmpmlcjlioeaaaDoorW.PrintMore
def letB (b : UInt8) : Bool := decide (97 ≤ b.toNat ∧ b.toNat ≤ 122)
/-- A name: one letter to six. -/
def nameB (s : ByteArray) : Bool := decide (1 ≤ s.size) && decide (s.size ≤ 6) && s.data.toList.all letB
def abc : ByteArray := (⟨#[97, 98, 99, 100, 101, 102, 103, 104, 105, 106, 107, 108, 109, 110, 111, 112, 113, 114, 115, 116, 117, 118, 119, 120, 121, 122]⟩ : ByteArray)
theorem abc_eq (b : UInt8) : abc.data.toList.contains b = letB b := by
 have h : ∀ n : Fin 256, abc.data.toList.contains (UInt8.ofNat n.1) = letB (UInt8.ofNat n.1) := by decide +kernel
 have := h ⟨b.toNat, b.toNat_lt⟩
 simpa using this
theorem drop_nil {P : UInt8 → Bool} : ∀ l : List UInt8, l.dropWhile P = [] ↔ l.all P = true
 | [] => by simp
 | x :: l => by
  by_cases h : P x = true
  · simp [List.dropWhile, h, drop_nil l]
  · simp [List.dropWhile, h]
theorem take_all {P : UInt8 → Bool} : ∀ l : List UInt8, (l.takeWhile P).all P = true
 | [] => rfl
 | x :: l => by
  by_cases h : P x = true
  · simp only [List.takeWhile, h, List.all_cons, take_all l, Bool.true_and]
  · simp only [List.takeWhile, h]; rfl
theorem size_list (s : ByteArray) : s.size = s.data.toList.length := by rw [Array.length_toList]; rfl
theorem trim_nil (l cs : List UInt8) : Lib.trimS l cs = [] ↔ l.all (fun b => cs.contains b) = true := by
 unfold Lib.trimS Lib.trimLeftS Lib.trimRightS
 rw [drop_nil, List.all_reverse]
 constructor
 · intro h
   have e := List.takeWhile_append_dropWhile (p := fun b => cs.contains b) (l := l.reverse)
   have h2 : l.reverse.all (fun b => cs.contains b) = true := by
    rw [← e, List.all_append, Bool.and_eq_true]
    exact ⟨take_all _, h⟩
   rwa [List.all_reverse] at h2
 · intro h
   have h2 : l.reverse.all (fun b => cs.contains b) = true := by rwa [List.all_reverse]
   rw [(drop_nil l.reverse).2 h2]
   rfl
theorem isName_eq (s : ByteArray) : impl_isName.f s = some (nameB s) := by
 unfold impl_isName.f nameB
 by_cases h1 : 1 ≤ s.size
 · rw [if_pos (by omega)]
   by_cases h2 : s.size ≤ 6
   · rw [if_pos (by omega)]
     unfold strings_Trim.f
     rw [if_pos ⟨by omega, by decide +kernel, by decide +kernel⟩]
     simp only [Option.bind_some, Option.some.injEq]
     rw [decide_eq_true h1, decide_eq_true h2, Bool.true_and, Bool.true_and]
     have e : (⟨(Lib.trimS s.data.toList abc.data.toList).toArray⟩ : ByteArray).toList = Lib.trimS s.data.toList abc.data.toList := by rw [ByteArray.toList_eq]
     show ((⟨(Lib.trimS s.data.toList abc.data.toList).toArray⟩ : ByteArray).toList == []) = _
     rw [e, Bool.eq_iff_iff, beq_iff_eq, trim_nil]
     simp only [abc_eq]
   · rw [if_neg (by omega), decide_eq_false h2]; simp
 · rw [if_neg (by omega), decide_eq_false h1]; simp
theorem sNameOk_l0 : ∀ (suf pre : List UInt8) (s : ByteArray) (k : Nat), s.data.toList = pre ++ suf → s.size ≤ 9223372036854775806 → suf.length < k →
 spec_NameOk.l0 k s (pre.length : Int) = some (suf.all letB && decide (1 ≤ s.size) && decide (s.size ≤ 6)) := by
 intro suf
 induction suf with
 | nil =>
  intro pre s k he hs hk
  obtain ⟨k, rfl⟩ := succ_of hk
  have hz : s.size = pre.length := by rw [size_list, he]; simp
  rw [spec_NameOk.l0, if_neg (by omega)]
  unfold spec_l1In.f
  by_cases h1 : 1 ≤ s.size
  · rw [if_pos (by omega), decide_eq_true h1]
    simp only [List.all_nil, Bool.true_and, Option.bind_some]
    congr 1
    rw [decide_eq_decide]
    omega
  · rw [if_neg (by omega), decide_eq_false h1]; rfl
 | cons x suf ih =>
  intro pre s k he hs hk
  obtain ⟨k, rfl⟩ := succ_of hk
  have hz : s.size = pre.length + (suf.length + 1) := by rw [size_list, he]; simp
  have hb : bt s (pre.length : Int) = (x.toNat : Int) := by
   rw [bt_nat s pre.length (by omega)]
   congr 2
   simp [he]
  have hn := ih (pre ++ [x]) s k (by simp [he]) hs (by simpa using hk)
  rw [spec_NameOk.l0, if_pos (by omega), if_pos (by omega), hb, wrap_id (by omega) (by omega)]
  have e : ((pre.length : Int) + 1) = ((pre ++ [x]).length : Int) := by simp
  rw [e, hn]
  by_cases h1 : (x.toNat : Int) < 97
  · rw [if_pos h1]
    have : letB x = false := by unfold letB; rw [decide_eq_false (by omega)]
    simp [this]
  · rw [if_neg h1]
    by_cases h2 : (x.toNat : Int) > 122
    · rw [if_pos h2]
      have : letB x = false := by unfold letB; rw [decide_eq_false (by omega)]
      simp [this]
    · rw [if_neg h2]
      have : letB x = true := by unfold letB; rw [decide_eq_true (by omega)]
      simp [this]
theorem sNameOk_eq (s : ByteArray) (k : Nat) (hs : s.size ≤ 9223372036854775806) (hk : s.size < k) : spec_NameOk.f k s = some (nameB s) := by
 unfold spec_NameOk.f
 have := sNameOk_l0 s.data.toList [] s k rfl hs (by rw [← size_list]; exact hk)
 rw [show ((([] : List UInt8).length : Nat) : Int) = 0 from rfl] at this
 rw [this, nameB]
 congr 1
 ac_rfl
end Go.Proofs.YtlmpmlcjlioeaaaDoor.V
/- Spaces, one in the other: chains from the inside out. -/
namespace Go.Proofs.YtlmpmlcjlioeaaaDoor.V
open Go.RowKit Go.Proofs.YtlmpmlcjlioeaaaDoor.P Go.Proofs.YtlmpmlcjlioeaaaDoorW.PrintWords Go.Proofs.YtlmpmlcjlioeaaaDoorW.PrintMore
theorem nodup_len {α : Type} [DecidableEq α] : ∀ (a b : List α), a.Nodup → (∀ x ∈ a, x ∈ b) → a.length ≤ b.length
 | [], _, _, _ => Nat.zero_le _
 | x :: r, b, h, hs => by
  have h1 := List.nodup_cons.1 h
  have h2 := nodup_len r (b.erase x) h1.2 (fun y hy => (List.mem_erase_of_ne (fun e : y = x => h1.1 (by rw [← e]; exact hy))).2 (hs y (by simp [hy])))
  have h3 := List.length_erase_of_mem (hs x (by simp))
  have h4 : 0 < b.length := List.length_pos_of_mem (hs x (by simp))
  rw [List.length_cons]; omega
/-- The space of a name. -/
def fnd (l : List SiS23) (s : ByteArray) : Option SiS23 := l.find? (fun x => decide (x.f0 = s))
/-- A space and all that it is in, so many at most. -/
def up : Nat → List SiS23 → ByteArray → List SiS23
 | 0, _, _ => []
 | n + 1, l, s => match fnd l s with
  | none => []
  | some x => x :: up n l x.f1
section
variable {l : List SiS23} {s t : ByteArray} {x y z : SiS23} {n m : Nat}
theorem fnd_name (h : fnd l s = some x) : x.f0 = s := by simpa using List.find?_some h
theorem fnd_mem (h : fnd l s = some x) : x ∈ l := List.mem_of_find?_eq_some h
theorem fnd_self (h : fnd l s = some x) : fnd l x.f0 = some x := by rw [fnd_name h]; exact h
theorem up_none (h : fnd l s = none) : up (n + 1) l s = [] := by rw [up, h]
theorem up_some (h : fnd l s = some x) : up (n + 1) l s = x :: up n l x.f1 := by rw [up, h]
theorem up_take : ∀ (n m : Nat) (s : ByteArray), n ≤ m → up n l s = (up m l s).take n
 | 0, m, s, _ => by simp [up]
 | n + 1, m, s, h => by
  obtain ⟨m, rfl⟩ : ∃ q, m = q + 1 := ⟨m - 1, by omega⟩
  cases hf : fnd l s with
  | none => rw [up_none hf, up_none hf]; rfl
  | some x => rw [up_some hf, up_some hf, List.take_succ_cons, up_take n m x.f1 (by omega)]
theorem up_le : ∀ (n : Nat) (s : ByteArray), (up n l s).length ≤ n
 | 0, s => by simp [up]
 | n + 1, s => by
  cases hf : fnd l s with
  | none => rw [up_none hf]; simp
  | some x => rw [up_some hf]; have := up_le n x.f1; simp; omega
theorem up_more : ∀ (n : Nat) (s : ByteArray), (up n l s).length < n → up (n + 1) l s = up n l s
 | 0, s, h => by omega
 | n + 1, s, h => by
  cases hf : fnd l s with
  | none => rw [up_none hf, up_none hf]
  | some x =>
   rw [up_some hf] at h
   rw [up_some hf, up_some hf, up_more n x.f1 (by simpa using h)]
theorem up_far (h : (up n l s).length < n) : ∀ d, up (n + d) l s = up n l s
 | 0 => rfl
 | d + 1 => by
  have ih := up_far h d
  rw [← Nat.add_assoc, up_more (n + d) s (by rw [ih]; omega), ih]
theorem up_ge (h : (up n l s).length < n) (hm : n ≤ m) : up m l s = up n l s := by
 obtain ⟨d, rfl⟩ := Nat.le.dest hm
 exact up_far h d
theorem up_mem : ∀ (n : Nat) (s : ByteArray), ∀ y ∈ up n l s, fnd l y.f0 = some y
 | 0, _, _, hy => by simp [up] at hy
 | n + 1, s, y, hy => by
  cases hf : fnd l s with
  | none => rw [up_none hf] at hy; cases hy
  | some x =>
   rw [up_some hf] at hy
   rcases List.mem_cons.1 hy with rfl | hy
   · exact fnd_self hf
   · exact up_mem n x.f1 y hy
/-- It ends within eight. -/
def En (l : List SiS23) (s : ByteArray) : Prop := (up 9 l s).length < 9
theorem en_next (h : En l s) (hf : fnd l s = some x) : En l x.f1 ∧ up 9 l s = x :: up 9 l x.f1 := by
 have h1 : up 9 l s = x :: up 8 l x.f1 := up_some hf
 unfold En at *
 rw [h1] at h
 have h2 : (up 8 l x.f1).length < 8 := by simp at h; omega
 have h3 := up_more 8 x.f1 h2
 rw [h1, h3]
 exact ⟨by omega, rfl⟩
theorem en_none (h : fnd l s = none) : En l s := by unfold En; rw [up_none h]; decide
theorem up_suffix : ∀ (n : Nat) (s : ByteArray), En l s → (up 9 l s).length ≤ n → ∀ y ∈ up 9 l s, En l y.f0 ∧ ∃ pre, up 9 l s = pre ++ up 9 l y.f0
 | 0, s, _, hn, y, hy => by
  have : up 9 l s = [] := List.eq_nil_of_length_eq_zero (by omega)
  rw [this] at hy; cases hy
 | n + 1, s, he, hn, y, hy => by
  cases hf : fnd l s with
  | none => rw [up_none hf] at hy; cases hy
  | some x =>
   obtain ⟨h1, h2⟩ := en_next he hf
   rw [h2] at hy hn
   rcases List.mem_cons.1 hy with rfl | hy
   · rw [fnd_name hf]; exact ⟨he, [], rfl⟩
   · obtain ⟨h3, pre, h4⟩ := up_suffix n x.f1 h1 (by simpa using hn) y hy
     exact ⟨h3, x :: pre, by rw [h2, h4]; rfl⟩
theorem up_nodup : ∀ (n : Nat) (s : ByteArray), En l s → (up 9 l s).length ≤ n → ((up 9 l s).map (·.f0)).Nodup
 | 0, s, _, hn => by
  have : up 9 l s = [] := List.eq_nil_of_length_eq_zero (by omega)
  rw [this]; exact List.nodup_nil
 | n + 1, s, he, hn => by
  cases hf : fnd l s with
  | none => rw [up_none hf]; exact List.nodup_nil
  | some x =>
   obtain ⟨h1, h2⟩ := en_next he hf
   rw [h2] at hn ⊢
   rw [List.map_cons, List.nodup_cons]
   refine ⟨fun hm => ?_, up_nodup n x.f1 h1 (by simpa using hn)⟩
   obtain ⟨y, hy, e⟩ := List.mem_map.1 hm
   obtain ⟨-, pre, h4⟩ := up_suffix _ x.f1 h1 (Nat.le_refl _) y hy
   rw [e, fnd_name hf, h2] at h4
   have := congrArg List.length h4
   simp at this
   omega
theorem up_short (he : En l s) : (up 9 l s).length ≤ l.length := by
 have h := nodup_len ((up 9 l s).map (·.f0)) (l.map (·.f0)) (up_nodup _ s he (Nat.le_refl _)) (fun n hn => by
  obtain ⟨y, hy, rfl⟩ := List.mem_map.1 hn
  exact List.mem_map.2 ⟨y, fnd_mem (up_mem 9 s y hy), rfl⟩)
 simpa using h
theorem en_of (h : (up n l s).length < n) (hn : n ≤ 9) : En l s := by
 unfold En
 rw [up_ge h hn]
 omega
def step (l : List SiS23) (x : SiS23) : SiS23 := (fnd l x.f1).getD x
def its (l : List SiS23) : Nat → SiS23 → SiS23
 | 0, x => x
 | n + 1, x => its l n (step l x)
theorem its_fix (h : fnd l x.f1 = none) : ∀ n, its l n x = x
 | 0 => rfl
 | n + 1 => by
  have : step l x = x := by unfold step; rw [h]; rfl
  rw [its, this, its_fix h n]
theorem its_last : ∀ (n : Nat) (x : SiS23), fnd l x.f0 = some x → (up (n + 1) l x.f0).getLast? = some (its l n x)
 | 0, x, h => by rw [up_some h]; rfl
 | n + 1, x, h => by
  rw [up_some h]
  cases hf : fnd l x.f1 with
  | none => rw [up_none hf, its_fix hf]; rfl
  | some y =>
   have h1 : step l x = y := by unfold step; rw [hf]; rfl
   have ih := its_last n y (fnd_self hf)
   rw [fnd_name hf] at ih
   rw [its, h1, List.getLast?_cons, ih]; rfl
theorem up_stop : ∀ (n : Nat) (s : ByteArray) (z : SiS23), (up (n + 1) l s).getLast? = some z → fnd l z.f1 = none → up (n + 2) l s = up (n + 1) l s
 | 0, s, z, h, hz => by
  cases hf : fnd l s with
  | none => rw [up_none hf, up_none hf]
  | some x =>
   rw [up_some hf] at h
   have : x = z := by simpa [up] using h
   subst this
   rw [up_some hf, up_some hf, up_none hz]; rfl
 | n + 1, s, z, h, hz => by
  cases hf : fnd l s with
  | none => rw [up_none hf, up_none hf]
  | some x =>
   rw [up_some hf] at h
   cases hg : fnd l x.f1 with
   | none => rw [up_some hf, up_some hf, up_none hg, up_none hg]
   | some y =>
    have h2 : (up (n + 1) l x.f1).getLast? = some z := by
     rw [up_some hg] at h ⊢
     simpa using h
    rw [up_some hf, up_some hf, up_stop n x.f1 z h2 hz]
/-- Both ways to see that a space is at last in one that is in none. -/
theorem at_last (hx : fnd l x.f0 = some x) (hl : l.length ≤ 7) {nm : ByteArray} (htop : ∀ z ∈ l, z.f0 = nm → fnd l z.f1 = none) :
 ((up 8 l x.f0).length ≤ l.length ∧ ∃ z, (up 8 l x.f0).getLast? = some z ∧ z.f0 = nm) ↔ (its l l.length x).f0 = nm := by
 have hlast := its_last (l := l) l.length x hx
 constructor
 · rintro ⟨h1, z, h2, h3⟩
   rw [up_take (l.length + 1) 8 _ (by omega), List.take_of_length_le (by omega), h2] at hlast
   rw [← Option.some.inj hlast]; exact h3
 · intro h
   have hm : its l l.length x ∈ l := fnd_mem (up_mem _ _ _ (List.mem_of_getLast? hlast))
   have hstop := up_stop l.length x.f0 _ hlast (htop _ hm h)
   have h4 : ∀ d, up (l.length + 1 + d) l x.f0 = up (l.length + 1) l x.f0 := by
    intro d
    by_cases hlt : (up (l.length + 1) l x.f0).length < l.length + 1
    · exact up_far hlt d
    · have h5 : (up (l.length + 2) l x.f0).length < l.length + 2 := by rw [hstop]; have := up_le (l := l) (l.length + 1) x.f0; omega
      cases d with
      | zero => rfl
      | succ d => rw [show l.length + 1 + (d + 1) = l.length + 2 + d by omega, up_far h5 d, hstop]
   have h8 : up 8 l x.f0 = up (l.length + 1) l x.f0 := by
    have := h4 (7 - l.length)
    rwa [show l.length + 1 + (7 - l.length) = 8 by omega] at this
   have h9 : up 9 l x.f0 = up (l.length + 1) l x.f0 := by
    have := h4 (8 - l.length)
    rwa [show l.length + 1 + (8 - l.length) = 9 by omega] at this
   have hen : En l x.f0 := by unfold En; rw [h9]; have := up_le (l := l) (l.length + 1) x.f0; omega
   have hs := up_short hen
   rw [h9] at hs
   rw [h8]
   exact ⟨hs, _, hlast, h⟩
end
end Go.Proofs.YtlmpmlcjlioeaaaDoor.V
/- Spaces: what the program and the reference tell, in the words of chains. -/
namespace Go.Proofs.YtlmpmlcjlioeaaaDoor.V
open Go.RowKit Go.Proofs.YtlmpmlcjlioeaaaDoor.P Go.Proofs.YtlmpmlcjlioeaaaDoorW.PrintWords Go.Proofs.YtlmpmlcjlioeaaaDoorW.PrintMore
theorem rdS_mid {pre suf : List SiS23} {x : SiS23} : riS26 (pre ++ x :: suf) (pre.length : Int) = x := by simp [riS26]
theorem l1In_eq (a b c : Int) : spec_l1In.f a b c = some (decide (b ≤ a ∧ a ≤ c)) := by
 unfold spec_l1In.f
 by_cases h : a ≥ b
 · rw [if_pos h]; simp [show b ≤ a from h]
 · rw [if_neg h]; simp [show ¬ b ≤ a from h]
/-- The place of a name; -1 for none. -/
def ix (l : List SiS23) (s : ByteArray) : Int := fsp.idx (fsp.p s) l 0
theorem p_iff (s : ByteArray) (x : SiS23) : fsp.p s x = true ↔ x.f0 = s := by unfold fsp.p; rw [beq_iff_eq, tl_iff]
theorem idx_spec (s : ByteArray) : ∀ (suf pre : List SiS23), (fnd suf s = none ∧ fsp.idx (fsp.p s) suf (pre.length : Int) = -1) ∨ (∃ x, fnd suf s = some x ∧ (pre.length : Int) ≤ fsp.idx (fsp.p s) suf (pre.length : Int) ∧ fsp.idx (fsp.p s) suf (pre.length : Int) < ((pre ++ suf).length : Int) ∧ riS26 (pre ++ suf) (fsp.idx (fsp.p s) suf (pre.length : Int)) = x)
 | [], pre => Or.inl ⟨rfl, rfl⟩
 | x :: suf, pre => by
  by_cases h : x.f0 = s
  · right
    have h1 : fsp.idx (fsp.p s) (x :: suf) (pre.length : Int) = (pre.length : Int) := by rw [fsp.idx, if_pos ((p_iff s x).2 h)]
    refine ⟨x, by unfold fnd; rw [List.find?_cons_of_pos (by simpa using h)], ?_⟩
    rw [h1]
    exact ⟨Int.le_refl _, mid_lt, rdS_mid⟩
  · have h1 : fsp.idx (fsp.p s) (x :: suf) (pre.length : Int) = fsp.idx (fsp.p s) suf ((pre ++ [x]).length : Int) := by
     rw [fsp.idx, if_neg (fun e => h ((p_iff s x).1 e))]; simp
    have h2 : fnd (x :: suf) s = fnd suf s := by unfold fnd; rw [List.find?_cons_of_neg (by simpa using h)]
    rw [h1, h2]
    rcases idx_spec s suf (pre ++ [x]) with ⟨a, b⟩ | ⟨y, a, b, c, d⟩
    · exact Or.inl ⟨a, b⟩
    · right
      have e : (pre ++ [x]) ++ suf = pre ++ x :: suf := by simp
      rw [e] at c d
      exact ⟨y, a, by simp at b ⊢; omega, c, d⟩
section
variable {l : List SiS23} {s : ByteArray} {x : SiS23}
theorem ix_none (h : fnd l s = none) : ix l s = -1 := by
 rcases idx_spec s l [] with ⟨-, b⟩ | ⟨y, a, -⟩
 · exact b
 · rw [h] at a; cases a
theorem ix_some (h : fnd l s = some x) : 0 ≤ ix l s ∧ ix l s < (l.length : Int) ∧ riS26 l (ix l s) = x := by
 rcases idx_spec s l [] with ⟨a, -⟩ | ⟨y, a, b, c, d⟩
 · rw [h] at a; cases a
 · rw [h] at a
   obtain rfl := Option.some.inj a
   unfold ix
   exact ⟨by simpa using b, by simpa using c, by simpa using d⟩
end
theorem findSpace_eq (l : List SiS23) (s : ByteArray) : impl_findSpace.f l s = some (ix l s) := by
 unfold impl_findSpace.f impl_Space.f ix; rfl
theorem l8At_l0 (s : ByteArray) : ∀ (suf pre : List SiS23) (k : Nat), suf.length < k → (pre ++ suf).length ≤ 4611686018427387904 → spec_l8At.l0 k (pre ++ suf) s (pre.length : Int) = some (fsp.idx (fsp.p s) suf (pre.length : Int)) := by
 intro suf
 induction suf with
 | nil =>
  intro pre k hk hb
  obtain ⟨k, rfl⟩ := succ_of hk
  rw [spec_l8At.l0, if_neg end_not_lt]; rfl
 | cons x suf ih =>
  intro pre k hk hb
  obtain ⟨k, rfl⟩ := succ_of hk
  rw [spec_l8At.l0, if_pos mid_lt, if_pos (nat_le0 _), rdS_mid, fsp.idx]
  by_cases h : x.f0 = s
  · rw [if_pos ((tl_iff _ _).2 h), if_pos ((p_iff s x).2 h)]
  · rw [if_neg (fun e => h ((tl_iff _ _).1 e)), if_neg (fun e => h ((p_iff s x).1 e)), wrap_snoc (x := x) (by simp at hb; omega), snoc_app, ih (pre ++ [x]) k (by simpa using hk) (by simpa using hb)]
    simp
theorem l8At_eq (l : List SiS23) (s : ByteArray) (k : Nat) (hk : l.length < k) (hb : l.length ≤ 4611686018427387904) : spec_l8At.f k l s = some (ix l s) := l8At_l0 s l [] k hk hb
/-- Names of a chain. -/
def nms (c : List SiS23) : List ByteArray := c.map (·.f0)
theorem l8Up_l0 (l : List SiS23) (hb : l.length ≤ 4611686018427387904) : ∀ (n : Nat) (s : ByteArray) (out : List ByteArray) (k : Nat), out.length + n = 8 → n + l.length + 1 < k → spec_l8Up.l0 k l out (ix l s) = some (out ++ nms (up n l s)) := by
 intro n
 induction n with
 | zero =>
  intro s out k ho hk
  obtain ⟨k, rfl⟩ := succ_of hk
  rw [spec_l8Up.l0]
  by_cases h : ix l s ≥ 0
  · rw [if_pos h, if_neg (by omega)]; simp [up, nms]
  · rw [if_neg h]; simp [up, nms]
 | succ n ih =>
  intro s out k ho hk
  obtain ⟨k, rfl⟩ := succ_of hk
  rw [spec_l8Up.l0]
  cases hf : fnd l s with
  | none => rw [ix_none hf, if_neg (by decide), up_none hf]; simp [nms]
  | some x =>
   obtain ⟨h1, h2, h3⟩ := ix_some hf
   rw [if_pos h1, if_pos (by omega), if_pos h1, if_pos h2, if_pos (by omega), h3, l8At_eq l _ k (by omega) hb, Option.bind_some, ih x.f1 (out ++ [x.f0]) k (by simp; omega) (by omega), up_some hf]
   simp [nms]
theorem l8Up_eq (l : List SiS23) (s : ByteArray) (k : Nat) (hk : l.length + 9 < k) (hb : l.length ≤ 4611686018427387904) : spec_l8Up.f k l s = some (nms (up 8 l s)) := by
 unfold spec_l8Up.f
 rw [l8At_eq l s k (by omega) hb, Option.bind_some, l8Up_l0 l hb 8 s [] k rfl (by omega)]
 rfl
theorem spaceUp_l0 (l : List SiS23) : ∀ (n : Nat) (s : ByteArray) (out : List ByteArray) (k : Nat), (up n l s).length < n → n < k → out.length + n ≤ 1000000 → impl_spaceUp.l0 k l out (ix l s) = some (out ++ nms (up n l s)) := by
 intro n
 induction n with
 | zero => intro s out k h; omega
 | succ n ih =>
  intro s out k hl hk ho
  obtain ⟨k, rfl⟩ := succ_of hk
  rw [impl_spaceUp.l0]
  cases hf : fnd l s with
  | none => rw [ix_none hf, if_neg (by decide), up_none hf]; simp [nms]
  | some x =>
   rw [up_some hf] at hl
   obtain ⟨h1, h2, h3⟩ := ix_some hf
   rw [if_pos h1, if_pos h1, if_pos h2, if_pos (by omega), h3, findSpace_eq, Option.bind_some, ih x.f1 (out ++ [x.f0]) k (by simpa using hl) (by omega) (by simp; omega), up_some hf]
   simp [nms]
theorem spaceUp_eq (l : List SiS23) (s : ByteArray) (k : Nat) (hk : 9 < k) (he : En l s) : impl_spaceUp.f k l s = some (nms (up 9 l s)) := by
 unfold impl_spaceUp.f
 rw [findSpace_eq, Option.bind_some, spaceUp_l0 l 9 s [] k he hk (by decide)]
 rfl
def allN : ByteArray := ⟨#[97, 108, 108]⟩
theorem all_iff (s : ByteArray) : s.toList = ([97, 108, 108] : List UInt8) ↔ s = allN := by
 rw [← tl_iff s allN, ByteArray.toList_eq allN]; rfl
theorem nil_iff (s : ByteArray) : s.toList = ([] : List UInt8) ↔ s = ⟨#[]⟩ := by
 rw [← tl_iff s ⟨#[]⟩, ByteArray.toList_eq ⟨#[]⟩]
theorem nameB_nil : nameB ⟨#[]⟩ = false := by decide
def spOk (x : SiS23) : Bool := nameB x.f0 && decide (-1 ≤ x.f2 ∧ x.f2 ≤ 99999) && decide (0 ≤ x.f4 ∧ x.f4 ≤ 99999) && (if x.f0 = allN then decide (x.f1 = ⟨#[]⟩) && !x.f3 else nameB x.f1)
theorem isSpace_eq (x : SiS23) (k : Nat) (hk : 0 < k) : impl_isSpace.f k x.f0 x.f1 x.f2 x.f3 x.f4 = some (spOk x) := by
 obtain ⟨k, rfl⟩ := succ_of hk
 have hj : ∀ b, impl_isSpace.j0 (k + 1) b x.f0 x.f1 x.f2 x.f3 x.f4 = some (!b && (if x.f0 = allN then decide (x.f1 = ⟨#[]⟩) && !x.f3 else nameB x.f1)) := by
  intro b
  rw [impl_isSpace.j0]
  cases b
  · rw [if_neg (by simp)]
    by_cases h : x.f0 = allN
    · rw [if_pos ((all_iff _).2 h), if_pos h]
      by_cases h2 : x.f1 = ⟨#[]⟩
      · rw [if_pos ((nil_iff _).2 h2), decide_eq_true h2]; simp
      · rw [if_neg (fun e => h2 ((nil_iff _).1 e)), decide_eq_false h2]; simp
    · rw [if_neg (fun e => h ((all_iff _).1 e)), if_neg h, isName_eq]; simp
  · rw [if_pos rfl]; simp
 unfold impl_isSpace.f spOk
 rw [isName_eq, Option.bind_some]
 simp only [hj]
 generalize (if x.f0 = allN then decide (x.f1 = ⟨#[]⟩) && !x.f3 else nameB x.f1) = z
 cases nameB x.f0
 · simp
 · rw [if_pos rfl]
   by_cases h1 : x.f2 < -1
   · rw [if_pos h1, decide_eq_false (by omega)]; simp
   · rw [if_neg h1]
     by_cases h2 : x.f2 > 99999
     · rw [if_pos h2, decide_eq_false (by omega)]; simp
     · rw [if_neg h2, decide_eq_true (show -1 ≤ x.f2 ∧ x.f2 ≤ 99999 by omega)]
       by_cases h3 : x.f4 < 0
       · rw [if_pos h3, decide_eq_false (by omega)]; simp
       · rw [if_neg h3]
         by_cases h4 : x.f4 > 99999
         · rw [decide_eq_true h4, decide_eq_false (by omega)]; simp
         · rw [decide_eq_false h4, decide_eq_true (show 0 ≤ x.f4 ∧ x.f4 ≤ 99999 by omega)]; simp
theorem l8Ok_eq (x : SiS23) (k : Nat) (h0 : x.f0.size < k) (h1 : x.f1.size < k) (hb0 : x.f0.size ≤ 9223372036854775806) (hb1 : x.f1.size ≤ 9223372036854775806) : spec_l8Ok.f k x.f0 x.f1 x.f2 x.f3 x.f4 = some (spOk x) := by
 unfold spec_l8Ok.f spOk
 rw [sNameOk_eq _ k hb0 h0, Option.bind_some]
 cases hn : nameB x.f0
 · simp
 · rw [if_pos rfl]
   simp only [l1In_eq, Option.bind_some, nil_iff]
   have ha : (x.f0.toList == ([97, 108, 108] : List UInt8)) = decide (x.f0 = allN) := by
    rw [Bool.eq_iff_iff, beq_iff_eq, all_iff, decide_eq_true_iff]
   have hz : (x.f1.toList == ([] : List UInt8)) = decide (x.f1 = ⟨#[]⟩) := by
    rw [Bool.eq_iff_iff, beq_iff_eq, nil_iff, decide_eq_true_iff]
   rw [ha, hz]
   by_cases h2 : x.f1 = ⟨#[]⟩
   · rw [if_pos h2, decide_eq_true h2]
     by_cases h3 : x.f0 = allN
     · rw [decide_eq_true h3, if_pos (by decide), if_pos h3]
       by_cases h4 : -1 ≤ x.f2 ∧ x.f2 ≤ 99999
       · rw [decide_eq_true h4, if_pos rfl]
         by_cases h5 : 0 ≤ x.f4 ∧ x.f4 ≤ 99999
         · rw [decide_eq_true h5, if_pos rfl]; simp
         · rw [decide_eq_false h5]; simp
       · rw [decide_eq_false h4]; simp
     · rw [decide_eq_false h3, if_neg (by decide), if_neg h3, h2, nameB_nil]; simp
   · rw [if_neg h2, decide_eq_false h2, sNameOk_eq _ k hb1 h1, Option.bind_some]
     by_cases h3 : x.f0 = allN
     · rw [decide_eq_true h3, if_pos h3]
       cases nameB x.f1 <;> simp
     · rw [decide_eq_false h3, if_neg h3]
       cases hm : nameB x.f1
       · simp
       · rw [if_pos rfl, if_pos (by decide)]
         by_cases h4 : -1 ≤ x.f2 ∧ x.f2 ≤ 99999
         · rw [decide_eq_true h4, if_pos rfl]
           by_cases h5 : 0 ≤ x.f4 ∧ x.f4 ≤ 99999
           · rw [decide_eq_true h5, if_pos rfl]; simp
           · rw [decide_eq_false h5]; simp
         · rw [decide_eq_false h4]; simp
end Go.Proofs.YtlmpmlcjlioeaaaDoor.V
/- When spaces are ok: the program's test and the reference's are one. -/
namespace Go.Proofs.YtlmpmlcjlioeaaaDoor.V
open Go.RowKit Go.Proofs.YtlmpmlcjlioeaaaDoor.P Go.Proofs.YtlmpmlcjlioeaaaDoorW.PrintWords Go.Proofs.YtlmpmlcjlioeaaaDoorW.PrintMore
def spGo : Option SiS23 → List SiS23 → Bool
 | _, [] => true
 | none, x :: l => spOk x && spGo (some x) l
 | some p, x :: l => spOk x && Op.bytesLess p.f0.toList x.f0.toList && spGo (some x) l
theorem lastS_rd {pre suf : List SiS23} {y : SiS23} : riS26 ((pre ++ [y]) ++ suf) (((pre ++ [y]).length : Int) - 1) = y := by
 have : (((pre ++ [y]).length : Int) - 1) = (pre.length : Int) := by simp
 rw [this, List.append_assoc]
 exact rdS_mid
/-- All names in order and each space ok. -/
theorem spGo_all : ∀ (l : List SiS23) (p : Option SiS23), spGo p l = true → (∀ x ∈ l, spOk x = true) ∧ l.Pairwise (fun x y => Op.bytesLess x.f0.toList y.f0.toList = true) ∧ (∀ q, p = some q → ∀ x ∈ l, Op.bytesLess q.f0.toList x.f0.toList = true)
 | [], p, _ => ⟨fun x h => by (cases h), List.Pairwise.nil, fun q _ x h => by (cases h)⟩
 | x :: l, none, h => by
  simp only [spGo, Bool.and_eq_true] at h
  obtain ⟨h1, h2, h3⟩ := spGo_all l (some x) h.2
  refine ⟨fun y hy => ?_, List.Pairwise.cons (h3 x rfl) h2, fun q e => by cases e⟩
  rcases List.mem_cons.1 hy with rfl | hy
  · exact h.1
  · exact h1 y hy
 | x :: l, some p, h => by
  simp only [spGo, Bool.and_eq_true] at h
  obtain ⟨h1, h2, h3⟩ := spGo_all l (some x) h.2
  refine ⟨fun y hy => ?_, List.Pairwise.cons (h3 x rfl) h2, fun q e y hy => ?_⟩
  · rcases List.mem_cons.1 hy with rfl | hy
    · exact h.1.1
    · exact h1 y hy
  · obtain rfl := Option.some.inj e
    rcases List.mem_cons.1 hy with rfl | hy
    · exact h.1.2
    · exact bl_trans h.1.2 (h3 x rfl y hy)
theorem fnd_of_mem {l : List SiS23} (hp : l.Pairwise (fun x y => Op.bytesLess x.f0.toList y.f0.toList = true)) {x : SiS23} (hx : x ∈ l) : fnd l x.f0 = some x := by
 induction l with
 | nil => cases hx
 | cons y l ih =>
  rw [List.pairwise_cons] at hp
  unfold fnd
  rcases List.mem_cons.1 hx with rfl | hx
  · rw [List.find?_cons_of_pos (by simp)]
  · have : y.f0 ≠ x.f0 := fun e => by
     have := hp.1 x hx
     rw [e, bl_irrefl] at this
     cases this
    rw [List.find?_cons_of_neg (by simpa using this)]
    exact ih hp.2 hx
theorem fnd_nil {l : List SiS23} (h : ∀ x ∈ l, spOk x = true) : fnd l ⟨#[]⟩ = none := by
 unfold fnd
 rw [List.find?_eq_none]
 intro x hx hn
 have h1 := h x hx
 unfold spOk at h1
 rw [show x.f0 = ⟨#[]⟩ by simpa using hn, nameB_nil] at h1
 simp at h1
/-- What is at last in the one that has all. -/
def inAll (l : List SiS23) (x : SiS23) : Bool := decide ((its l l.length x).f0 = allN)
def areS (l : List SiS23) : Bool := decide (1 ≤ l.length ∧ l.length ≤ 7) && spGo none l && l.all (inAll l)
theorem areSpaces_l12 (l : List SiS23) (hl : l.length ≤ 7) : ∀ (suf pre : List SiS23) (k : Nat), pre ++ suf = l → 20 * (suf.length + 1) < k →
 impl_areSpaces.l1 k l l (l.length : Int) (pre.length : Int) = some (suf.all (inAll l)) := by
 intro suf
 induction suf with
 | nil =>
  intro pre k he hk
  obtain ⟨k, rfl⟩ := succ_of hk
  rw [impl_areSpaces.l1, if_neg (by rw [← he]; simp)]; rfl
 | cons x suf ih =>
  intro pre k he hk
  obtain ⟨k, rfl⟩ := succ_of hk
  have hpl : pre.length < l.length := by rw [← he]; simp
  have hrd : riS26 l (pre.length : Int) = x := by rw [← he]; exact rdS_mid
  rw [impl_areSpaces.l1, if_pos (by omega), if_pos (by omega), if_pos (by omega), hrd]
  -- the inner steps
  have inner : ∀ (d i : Nat) (y : SiS23) (k : Nat), i + d = l.length → 20 * (suf.length + 1) + d + 1 < k → impl_areSpaces.l2 k l l (l.length : Int) (pre.length : Int) (l.length : Int) (i : Int) y.f0 y.f1 y.f2 y.f3 y.f4 = some (decide ((its l d y).f0 = allN) && suf.all (inAll l)) := by
   intro d
   induction d with
   | zero =>
    intro i y k hi hk
    obtain ⟨k, rfl⟩ := succ_of hk
    rw [impl_areSpaces.l2, if_neg (by omega)]
    show _ = some (decide (y.f0 = allN) && suf.all (inAll l))
    by_cases h : y.f0 = allN
    · rw [if_pos ((all_iff _).2 h), decide_eq_true h, wrap_id (by omega) (by omega)]
      have e : (pre.length : Int) + 1 = ((pre ++ [x]).length : Int) := by simp
      rw [e, ih (pre ++ [x]) k (by simp [← he]) (by omega)]; simp
    · rw [if_neg (fun e => h ((all_iff _).1 e)), decide_eq_false h]; simp
   | succ d ihd =>
    intro i y k hi hk
    obtain ⟨k, rfl⟩ := succ_of hk
    have e : wrap64 ((i : Int) + 1) = ((i + 1 : Nat) : Int) := by rw [wrap_id (by omega) (by omega)]; rfl
    rw [impl_areSpaces.l2, if_pos (by omega), findSpace_eq, Option.bind_some, e]
    cases hf : fnd l y.f1 with
    | none =>
     rw [ix_none hf, if_neg (by decide), ihd (i + 1) y k (by omega) (by omega)]
     have : step l y = y := by unfold step; rw [hf]; rfl
     rw [its, this]
    | some z =>
     obtain ⟨h1, h2, h3⟩ := ix_some hf
     rw [if_pos h1, if_pos h1, if_pos h2, h3, ihd (i + 1) z k (by omega) (by omega)]
     have : step l y = z := by unfold step; rw [hf]; rfl
     rw [its, this]
  have h0 := inner l.length 0 x k (by omega) (by simp at hk ⊢; omega)
  rw [show ((0 : Nat) : Int) = 0 from rfl] at h0
  rw [h0]
  rfl
theorem areSpaces_l0 (l : List SiS23) (hl : l.length ≤ 7) : ∀ (suf pre : List SiS23) (k : Nat), pre ++ suf = l → 300 + suf.length < k →
 impl_areSpaces.l0 k l l (l.length : Int) (pre.length : Int) = some (spGo pre.getLast? suf && l.all (inAll l)) := by
 intro suf
 induction suf with
 | nil =>
  intro pre k he hk
  obtain ⟨k, rfl⟩ := succ_of hk
  have h0 := areSpaces_l12 l hl l [] k rfl (by omega)
  rw [show ((([] : List SiS23).length : Nat) : Int) = 0 from rfl] at h0
  rw [impl_areSpaces.l0, if_neg (by rw [← he]; simp), h0]
  have : spGo pre.getLast? [] = true := by cases pre.getLast? <;> rfl
  rw [this, Bool.true_and]
 | cons x suf ih =>
  intro pre k he hk
  obtain ⟨k, rfl⟩ := succ_of hk
  have hpl : pre.length < l.length := by rw [← he]; simp
  have hrd : riS26 l (pre.length : Int) = x := by rw [← he]; exact rdS_mid
  have hn := ih (pre ++ [x]) k (by simp [← he]) (by simp at hk; omega)
  rw [List.getLast?_concat] at hn
  have e : wrap64 ((pre.length : Int) + 1) = ((pre ++ [x]).length : Int) := by rw [wrap_id (by omega) (by omega)]; simp
  rw [impl_areSpaces.l0, if_pos (by omega), if_pos (by omega), if_pos (by omega), hrd, isSpace_eq x k (by omega), Option.bind_some, e, hn]
  rcases List.eq_nil_or_concat pre with rfl | ⟨pre', y, rfl⟩
  · cases h : spOk x
    · simp [spGo, h]
    · rw [if_pos rfl, if_neg (by simp)]
      simp [spGo, h]
  · rw [List.concat_eq_append] at *
    have hrl : riS26 l (((pre' ++ [y]).length : Int) - 1) = y := by rw [← he]; exact lastS_rd
    cases h : spOk x
    · rw [if_neg (by simp), List.getLast?_concat]; simp [spGo, h]
    · have hp : 0 < (pre' ++ [y]).length := by simp
      rw [if_pos rfl, if_pos (by omega), wrap_id (i := ((pre' ++ [y]).length : Int) - 1) (by omega) (by omega), if_pos (by omega), if_pos (by omega), hrl, List.getLast?_concat]
      cases h2 : Op.bytesLess y.f0.toList x.f0.toList
      · rw [if_neg (by simp)]; simp [spGo, h, h2]
      · rw [if_pos rfl]; simp [spGo, h, h2]
theorem areSpaces_eq (l : List SiS23) (k : Nat) (hk : 400 < k) : impl_areSpaces.f k l = some (areS l) := by
 obtain ⟨k, rfl⟩ := succ_of hk
 unfold impl_areSpaces.f areS
 simp only [impl_areSpaces.j0]
 by_cases h1 : (l.length : Int) < 1
 · rw [if_pos h1, if_pos trivial, decide_eq_false (by omega)]; simp
 · rw [if_neg h1]
   by_cases h2 : (l.length : Int) > 7
   · rw [decide_eq_true h2, if_pos rfl, decide_eq_false (by omega)]; simp
   · have h0 := areSpaces_l0 l (by omega) l [] k rfl (by omega)
     rw [show ((([] : List SiS23).length : Nat) : Int) = 0 from rfl] at h0
     rw [decide_eq_false h2, if_neg (by simp), h0, decide_eq_true (show 1 ≤ l.length ∧ l.length ≤ 7 by omega)]
     simp
theorem SpacesOk_eq (l : List SiS23) (k : Nat) (hk : 400 < k) : impl_SpacesOk.f k l = some (areS l) := by
 unfold impl_SpacesOk.f
 rw [areSpaces_eq l k hk]; rfl
/-- The chain of a space ends, soon enough, in the one that has all. -/
def chOk (l : List SiS23) (x : SiS23) : Bool := decide ((up 8 l x.f0).length ≤ l.length) && (match (up 8 l x.f0).getLast? with | some z => decide (z.f0 = allN) | none => false)
theorem chOk_iff {l : List SiS23} {x : SiS23} : chOk l x = true ↔ ((up 8 l x.f0).length ≤ l.length ∧ ∃ z, (up 8 l x.f0).getLast? = some z ∧ z.f0 = allN) := by
 unfold chOk
 rw [Bool.and_eq_true, decide_eq_true_iff]
 cases h : (up 8 l x.f0).getLast? with
 | none => simp
 | some z => simp
def specS (l : List SiS23) : Bool := spGo none l && (l.all (chOk l) && (decide (1 ≤ l.length ∧ l.length ≤ 7) && decide (0 ≤ ix l allN)))
theorem sSpaces_l1 (l : List SiS23) (hb : l.length ≤ 1000000000) (hf : ∀ x ∈ l, fnd l x.f0 = some x) : ∀ (suf pre : List SiS23) (k : Nat), pre ++ suf = l → suf.length + l.length + 10 < k →
 spec_SpacesOk.l1 k l (pre.length : Int) = some (suf.all (chOk l) && (decide (1 ≤ l.length ∧ l.length ≤ 7) && decide (0 ≤ ix l allN))) := by
 intro suf
 induction suf with
 | nil =>
  intro pre k he hk
  obtain ⟨k, rfl⟩ := succ_of hk
  rw [spec_SpacesOk.l1, if_neg (by rw [← he]; simp), l1In_eq, Option.bind_some]
  by_cases h : 1 ≤ l.length ∧ l.length ≤ 7
  · rw [decide_eq_true (show (1 : Int) ≤ (l.length : Int) ∧ (l.length : Int) ≤ 7 by omega), if_pos rfl]
    show (spec_l8At.f k l allN).bind _ = _
    rw [l8At_eq l allN k (by omega) (by omega), Option.bind_some, decide_eq_true h]
    simp
  · rw [decide_eq_false (show ¬ ((1 : Int) ≤ (l.length : Int) ∧ (l.length : Int) ≤ 7) by omega), if_neg (by simp), decide_eq_false h]
    simp
 | cons x suf ih =>
  intro pre k he hk
  obtain ⟨k, rfl⟩ := succ_of hk
  have hpl : pre.length < l.length := by rw [← he]; simp
  have hrd : riS26 l (pre.length : Int) = x := by rw [← he]; exact rdS_mid
  have hx := hf x (by rw [← he]; simp)
  have hn := ih (pre ++ [x]) k (by simp [← he]) (by simp at hk; omega)
  have e : wrap64 ((pre.length : Int) + 1) = ((pre ++ [x]).length : Int) := by rw [wrap_id (by omega) (by omega)]; simp
  rw [spec_SpacesOk.l1, if_pos (by omega), if_pos (by omega), hrd, l8Up_eq l _ k (by omega) (by omega), Option.bind_some, e, hn]
  obtain ⟨c, y, hc⟩ : ∃ c y, up 8 l x.f0 = c ++ [y] := by
   rcases List.eq_nil_or_concat (up 8 l x.f0) with h | ⟨c, y, h⟩
   · rw [up_some hx] at h; cases h
   · exact ⟨c, y, by rw [h, List.concat_eq_append]⟩
  have hlen : (nms (up 8 l x.f0)).length = (up 8 l x.f0).length := by unfold nms; simp
  have h8 := up_le (l := l) 8 x.f0
  have hlc : (up 8 l x.f0).length = c.length + 1 := by rw [hc]; simp
  rw [List.all_cons]
  by_cases h1 : (up 8 l x.f0).length ≤ l.length
  · have hlast : rdOf ByteArray.empty (nms (up 8 l x.f0)) (((nms (up 8 l x.f0)).length : Int) - 1) = y.f0 := by
     rw [hlen, hlc, hc]
     have : (((c.length + 1 : Nat) : Int) - 1) = ((nms c).length : Int) := by unfold nms; simp
     rw [this]
     unfold nms
     rw [List.map_append]
     exact rdOf_mid _
    rw [if_neg (by omega), wrap_id (i := ((nms (up 8 l x.f0)).length : Int) - 1) (by omega) (by omega), if_pos (by omega), if_pos (by omega), hlast]
    by_cases h2 : y.f0 = allN
    · have : chOk l x = true := chOk_iff.2 ⟨h1, y, by rw [hc]; simp, h2⟩
      rw [if_pos ((all_iff _).2 h2), this]; simp
    · have : chOk l x = false := by
       rw [Bool.eq_false_iff]
       intro h
       obtain ⟨-, z, hz, hz2⟩ := chOk_iff.1 h
       rw [hc] at hz
       have : y = z := by simpa using hz
       exact h2 (this ▸ hz2)
      rw [if_neg (fun e => h2 ((all_iff _).1 e)), this]; simp
  · have : chOk l x = false := by
     rw [Bool.eq_false_iff]
     intro h
     exact h1 (chOk_iff.1 h).1
    rw [if_pos (by omega), this]; simp
theorem sSpaces_l0 (l : List SiS23) (hb : l.length ≤ 1000000000) (N : Nat) (hN : N ≤ 1000000000) (hs : ∀ x ∈ l, x.f0.size < N ∧ x.f1.size < N) : ∀ (suf pre : List SiS23) (k : Nat), pre ++ suf = l → spGo none pre = true → suf.length + 2 * l.length + N + 12 < k →
 spec_SpacesOk.l0 k l (pre.length : Int) = some (spGo pre.getLast? suf && (l.all (chOk l) && (decide (1 ≤ l.length ∧ l.length ≤ 7) && decide (0 ≤ ix l allN)))) := by
 intro suf
 induction suf with
 | nil =>
  intro pre k he hp hk
  obtain ⟨k, rfl⟩ := succ_of hk
  have hpl : pre = l := by rw [← he]; simp
  have hf : ∀ x ∈ l, fnd l x.f0 = some x := fun x hx => fnd_of_mem (spGo_all l none (hpl ▸ hp)).2.1 hx
  have h0 := sSpaces_l1 l hb hf l [] k rfl (by omega)
  rw [show ((([] : List SiS23).length : Nat) : Int) = 0 from rfl] at h0
  rw [spec_SpacesOk.l0, if_neg (by rw [← he]; simp), h0]
  have : spGo pre.getLast? [] = true := by cases pre.getLast? <;> rfl
  rw [this, Bool.true_and]
 | cons x suf ih =>
  intro pre k he hp hk
  obtain ⟨k, rfl⟩ := succ_of hk
  have hpl : pre.length < l.length := by rw [← he]; simp
  have hrd : riS26 l (pre.length : Int) = x := by rw [← he]; exact rdS_mid
  have hxs := hs x (by rw [← he]; simp)
  have hn : spGo none (pre ++ [x]) = true → _ := fun h => ih (pre ++ [x]) k (by simp [← he]) h (by simp at hk; omega)
  rw [List.getLast?_concat] at hn
  have e : wrap64 ((pre.length : Int) + 1) = ((pre ++ [x]).length : Int) := by rw [wrap_id (by omega) (by omega)]; simp
  have happ : ∀ (a : List SiS23) (p : Option SiS23), spGo p a = true → spGo (a.getLast?.or p) [x] = true → spGo p (a ++ [x]) = true := by
   intro a
   induction a with
   | nil => intro p _ h; simpa using h
   | cons y a iha =>
    intro p h1 h2
    have e2 : (y :: a).getLast?.or p = a.getLast?.or (some y) := by
     cases a with
     | nil => rfl
     | cons z a => rw [List.getLast?_cons_cons]; cases h : (z :: a).getLast? <;> simp_all
    rw [e2] at h2
    cases p with
    | none =>
     simp only [spGo, Bool.and_eq_true, List.cons_append] at h1 ⊢
     exact ⟨h1.1, iha (some y) h1.2 h2⟩
    | some q =>
     simp only [spGo, Bool.and_eq_true, List.cons_append] at h1 ⊢
     exact ⟨h1.1, iha (some y) h1.2 h2⟩
  rw [spec_SpacesOk.l0, if_pos (by omega), if_pos (by omega), hrd, l8Ok_eq x k (by omega) (by omega) (by omega) (by omega), Option.bind_some, e]
  rcases List.eq_nil_or_concat pre with rfl | ⟨pre', y, rfl⟩
  · cases h : spOk x
    · simp [spGo, h]
    · rw [if_pos rfl, if_neg (by simp), hn (happ [] none rfl (by simp [spGo, h]))]
      simp [spGo, h]
  · rw [List.concat_eq_append] at *
    have hrl : riS26 l (((pre' ++ [y]).length : Int) - 1) = y := by rw [← he]; exact lastS_rd
    cases h : spOk x
    · rw [if_neg (by simp), List.getLast?_concat]; simp [spGo, h]
    · have hp0 : 0 < (pre' ++ [y]).length := by simp
      rw [if_pos rfl, if_pos (by omega), wrap_id (i := ((pre' ++ [y]).length : Int) - 1) (by omega) (by omega), if_pos (by omega), if_pos (by omega), hrl, List.getLast?_concat]
      cases h2 : Op.bytesLess y.f0.toList x.f0.toList
      · rw [if_neg (by simp)]; simp [spGo, h, h2]
      · rw [if_pos rfl, hn (happ (pre' ++ [y]) none hp (by rw [List.getLast?_concat]; simp [spGo, h, h2]))]; simp [spGo, h, h2]
theorem top_none {l : List SiS23} (h : spGo none l = true) : ∀ z ∈ l, z.f0 = allN → fnd l z.f1 = none := by
 intro z hz e
 have h1 := (spGo_all l none h).1
 have h2 := h1 z hz
 unfold spOk at h2
 rw [if_pos e] at h2
 simp only [Bool.and_eq_true, decide_eq_true_eq] at h2
 rw [h2.2.1]
 exact fnd_nil h1
theorem specS_eq (l : List SiS23) : specS l = areS l := by
 unfold specS areS
 cases hg : spGo none l
 · simp
 by_cases hl : 1 ≤ l.length ∧ l.length ≤ 7
 · rw [decide_eq_true hl]
   have hiff : ∀ x ∈ l, (chOk l x = true ↔ inAll l x = true) := by
    intro x hx
    rw [chOk_iff, inAll, decide_eq_true_iff]
    exact at_last (fnd_of_mem (spGo_all l none hg).2.1 hx) hl.2 (top_none hg)
   have hall : l.all (chOk l) = l.all (inAll l) := by
    rw [Bool.eq_iff_iff, List.all_eq_true, List.all_eq_true]
    exact ⟨fun h x hx => (hiff x hx).1 (h x hx), fun h x hx => (hiff x hx).2 (h x hx)⟩
   rw [hall]
   cases ha : l.all (inAll l)
   · simp
   · obtain ⟨x, hx⟩ : ∃ x, x ∈ l := List.exists_mem_of_length_pos (by omega)
     rw [← hall] at ha
     obtain ⟨-, z, hz, hz2⟩ := chOk_iff.1 (List.all_eq_true.1 ha x hx)
     have hz3 := up_mem 8 x.f0 z (List.mem_of_getLast? hz)
     rw [hz2] at hz3
     have := (ix_some hz3).1
     rw [decide_eq_true this]; rfl
 · rw [decide_eq_false hl]; simp
theorem sSpacesOk_eq (l : List SiS23) (k N : Nat) (hb : l.length ≤ 1000000000) (hN : N ≤ 1000000000) (hs : ∀ x ∈ l, x.f0.size < N ∧ x.f1.size < N) (hk : 3 * l.length + N + 12 < k) : spec_SpacesOk.f k l = some (areS l) := by
 have h0 := sSpaces_l0 l hb N hN hs l [] k rfl rfl (by omega)
 rw [show ((([] : List SiS23).length : Nat) : Int) = 0 from rfl] at h0
 unfold spec_SpacesOk.f
 rw [h0, ← specS_eq]; rfl
/-- Chains of spaces that are ok end. -/
theorem areS_en {l : List SiS23} (h : areS l = true) (s : ByteArray) : En l s := by
 have h1 := specS_eq l
 rw [h] at h1
 unfold specS at h1
 simp only [Bool.and_eq_true, decide_eq_true_eq] at h1
 cases hf : fnd l s with
 | none => exact en_none hf
 | some x =>
  have h2 := chOk_iff.1 (List.all_eq_true.1 h1.2.1 x (fnd_mem hf))
  rw [fnd_name hf] at h2
  exact en_of (n := 8) (by have := h1.2.2.1.2; omega) (by omega)
end Go.Proofs.YtlmpmlcjlioeaaaDoor.V
/- SpaceUp, SpaceIn, SpaceGoing in the words of chains. -/
namespace Go.Proofs.YtlmpmlcjlioeaaaDoor.V
open Go.RowKit Go.Proofs.YtlmpmlcjlioeaaaDoor.P Go.Proofs.YtlmpmlcjlioeaaaDoorW.PrintWords Go.Proofs.YtlmpmlcjlioeaaaDoorW.PrintMore
/-- A space and all that it is in. -/
def chain (l : List SiS23) (s : ByteArray) : List SiS23 := up 9 l s
theorem areS_len {l : List SiS23} (h : areS l = true) : 1 ≤ l.length ∧ l.length ≤ 7 := by
 unfold areS at h
 simp only [Bool.and_eq_true, decide_eq_true_eq] at h
 exact h.1.1
theorem areS_go {l : List SiS23} (h : areS l = true) : spGo none l = true := by
 unfold areS at h
 simp only [Bool.and_eq_true, decide_eq_true_eq] at h
 exact h.1.2
theorem chain_len {l : List SiS23} (h : areS l = true) (s : ByteArray) : (chain l s).length ≤ 7 := by
 have h1 := up_short (areS_en h s)
 have h2 := areS_len h
 unfold chain
 omega
theorem up8 {l : List SiS23} (h : areS l = true) (s : ByteArray) : up 8 l s = chain l s := by
 have h1 := chain_len h s
 unfold chain at h1 ⊢
 rw [up_take 8 9 s (by omega), List.take_of_length_le (by omega)]
/-- All sizes are small. -/
def SmSp (N : Nat) (l : List SiS23) : Prop := l.length ≤ 1000000000 ∧ N ≤ 1000000000 ∧ ∀ x ∈ l, x.f0.size < N ∧ x.f1.size < N
section
variable {l : List SiS23} {N k : Nat}
theorem sSpaces (h : SmSp N l) (hk : 3 * l.length + N + 12 < k) : spec_SpacesOk.f k l = some (areS l) := sSpacesOk_eq l k N h.1 h.2.1 h.2.2 hk
theorem Up_eq (hk : 400 < k) (s : ByteArray) : impl_SpaceUp.f k l s = some (if areS l = true then nms (chain l s) else []) := by
 unfold impl_SpaceUp.f
 rw [areSpaces_eq l k hk, Option.bind_some]
 by_cases ha : areS l = true
 · rw [if_pos ha, if_pos ha, spaceUp_eq l s k (by omega) (areS_en ha s)]; rfl
 · rw [if_neg ha, if_neg ha]
end
def has (l : List ByteArray) (o : ByteArray) : Bool := l.any (fun x => decide (x = o))
theorem has_iff (l : List ByteArray) (o : ByteArray) : has l o = true ↔ o ∈ l := by
 unfold has
 rw [List.any_eq_true]
 constructor
 · rintro ⟨x, hx, h⟩
   rw [decide_eq_true_iff] at h
   exact h ▸ hx
 · intro h
   exact ⟨o, h, by simp⟩
theorem nms_len (c : List SiS23) : (nms c).length = c.length := by unfold nms; simp
section
variable {l : List SiS23} {N k : Nat}
end
theorem fnd_chain {l : List SiS23} {s : ByteArray} {y : SiS23} (h : y ∈ chain l s) : fnd l y.f0 = some y := up_mem 9 s y h
section
variable {l : List SiS23} {N k : Nat}
end
end Go.Proofs.YtlmpmlcjlioeaaaDoor.V
/- Uses of spaces: UseMay, UseAdd. -/
namespace Go.Proofs.YtlmpmlcjlioeaaaDoor.V
open Go.RowKit Go.Proofs.YtlmpmlcjlioeaaaDoor.P Go.Proofs.YtlmpmlcjlioeaaaDoorW.PrintWords Go.Proofs.YtlmpmlcjlioeaaaDoorW.PrintMore
theorem rdUs_mid {pre suf : List SiU25} {x : SiU25} : riU27 (pre ++ x :: suf) (pre.length : Int) = x := by simp [riU27]
/-- One use for each space, in order, within limits. -/
def usB : List SiS23 → List SiU25 → Bool
 | [], [] => true
 | x :: l, u :: us => decide (u.f0 = x.f0) && decide (0 ≤ u.f1 ∧ u.f1 ≤ 99999) && usB l us
 | _, _ => false
theorem usB_len : ∀ {l : List SiS23} {us : List SiU25}, usB l us = true → l.length = us.length
 | [], [], _ => rfl
 | x :: l, u :: us, h => by
  simp only [usB, Bool.and_eq_true] at h
  simp [usB_len h.2]
 | [], _ :: _, h => by simp [usB] at h
 | _ :: _, [], h => by simp [usB] at h
theorem l8Uses_l0 : ∀ (us : List SiU25) (l pre : List SiS23) (pu : List SiU25) (k : Nat), pre.length = pu.length → l.length = us.length → us.length < k → (pu ++ us).length ≤ 1000000000 →
 spec_l8Uses.l0 k (pre ++ l) (pu ++ us) (pu.length : Int) = some (usB l us) := by
 intro us
 induction us with
 | nil =>
  intro l pre pu k hp hl hk hb
  obtain ⟨k, rfl⟩ := succ_of hk
  obtain rfl : l = [] := List.eq_nil_of_length_eq_zero (by simpa using hl)
  rw [spec_l8Uses.l0, if_neg end_not_lt]; rfl
 | cons u us ih =>
  intro l pre pu k hp hl hk hb
  obtain ⟨k, rfl⟩ := succ_of hk
  cases l with
  | nil => simp at hl
  | cons x l =>
   have hrx : riS26 (pre ++ x :: l) (pu.length : Int) = x := by rw [← hp]; exact rdS_mid
   have hn := ih l (pre ++ [x]) (pu ++ [u]) k (by simp [hp]) (by simpa using hl) (by simpa using hk) (by simpa using hb)
   rw [List.append_assoc, List.append_assoc] at hn
   rw [spec_l8Uses.l0, if_pos mid_lt, if_pos (nat_le0 _), if_pos (by simp; omega), rdUs_mid, hrx, l1In_eq, Option.bind_some, wrap_snoc (x := u) (by simp at hb; omega)]
   simp only [List.cons_append, List.nil_append] at hn
   rw [hn, usB]
   by_cases h1 : u.f0 = x.f0
   · rw [if_pos ((tl_iff _ _).2 h1), decide_eq_true h1]
     by_cases h2 : 0 ≤ u.f1 ∧ u.f1 ≤ 99999
     · rw [decide_eq_true h2, if_pos rfl]; simp
     · rw [decide_eq_false h2, if_neg (by simp)]; simp
   · rw [if_neg (fun e => h1 ((tl_iff _ _).1 e)), decide_eq_false h1]; simp
theorem l8Uses_eq (l : List SiS23) (us : List SiU25) (k : Nat) (hk : us.length < k) (hb : us.length ≤ 1000000000) : spec_l8Uses.f k l us = some (usB l us) := by
 unfold spec_l8Uses.f
 by_cases h : us.length = l.length
 · rw [if_pos (by omega)]
   exact l8Uses_l0 us l [] [] k rfl h.symm hk hb
 · rw [if_neg (by omega)]
   cases hu : usB l us with
   | false => rfl
   | true => exact absurd (usB_len hu).symm h
theorem areUses_l0 (L : List SiS23) (U : List SiU25) (hbl : L.length ≤ 1000000000) : ∀ (us : List SiU25) (l pre : List SiS23) (pu : List SiU25) (k : Nat), pre ++ l = L → pu ++ us = U → pre.length = pu.length → us.length < k → U.length ≤ 1000000000 →
 impl_areUses.l0 k L U U (U.length : Int) (pu.length : Int) = some (usB l us) := by
 intro us
 induction us with
 | nil =>
  intro l pre pu k hL hU hp hk hb
  obtain ⟨k, rfl⟩ := succ_of hk
  have h1 : U.length = pu.length := by rw [← hU]; simp
  have h2 : L.length = pre.length + l.length := by rw [← hL]; simp
  rw [impl_areUses.l0, if_neg (by omega)]
  cases l with
  | nil =>
   have : (U.length : Int) = (L.length : Int) := by simp at h2; omega
   rw [this]; simp [usB]
  | cons x l =>
   have : ¬ (U.length : Int) = (L.length : Int) := by simp at h2; omega
   simp [usB]; omega
 | cons u us ih =>
  intro l pre pu k hL hU hp hk hb
  obtain ⟨k, rfl⟩ := succ_of hk
  have h1 : U.length = pu.length + (us.length + 1) := by rw [← hU]; simp
  have h2 : L.length = pre.length + l.length := by rw [← hL]; simp
  have hru : riU27 U (pu.length : Int) = u := by rw [← hU]; exact rdUs_mid
  rw [impl_areUses.l0, if_pos (by omega), if_pos (by omega), if_pos (by omega)]
  cases l with
  | nil =>
   simp at h2
   rw [if_pos (by omega)]; rfl
  | cons x l =>
   simp at h2
   have hrx : riS26 L (pu.length : Int) = x := by rw [← hp, ← hL]; exact rdS_mid
   have hn := ih l (pre ++ [x]) (pu ++ [u]) k (by simp [hL]) (by simp [hU]) (by simp [hp]) (by simpa using hk) hb
   have e : wrap64 ((pu.length : Int) + 1) = ((pu ++ [u]).length : Int) := by rw [wrap_id (by omega) (by omega)]; simp
   rw [if_neg (by omega), if_pos (by omega), hru, hrx, e, hn, usB]
   by_cases h3 : u.f0 = x.f0
   · rw [if_pos ((tl_iff _ _).2 h3), decide_eq_true h3]
     by_cases h4 : u.f1 < 0
     · rw [if_pos h4, decide_eq_false (by omega)]; simp
     · rw [if_neg h4]
       by_cases h5 : u.f1 > 99999
       · rw [if_pos h5, decide_eq_false (by omega)]; simp
       · rw [if_neg h5, decide_eq_true (show 0 ≤ u.f1 ∧ u.f1 ≤ 99999 by omega)]; simp
   · rw [if_neg (fun e => h3 ((tl_iff _ _).1 e)), decide_eq_false h3]; simp
theorem areUses_eq (l : List SiS23) (us : List SiU25) (k : Nat) (hk : us.length < k) (hb : us.length ≤ 1000000000) (hbl : l.length ≤ 1000000000) : impl_areUses.f k l us = some (usB l us) :=
 areUses_l0 l us hbl us l [] [] k rfl rfl rfl hk hb
/-- The use at the place of a space is the use of its name. -/
theorem use_at : ∀ (suf : List SiS23) (us : List SiU25) (pu : List SiU25) (s : ByteArray) (x : SiS23), usB suf us = true → fnd suf s = some x →
 (riU27 (pu ++ us) (fsp.idx (fsp.p s) suf (pu.length : Int))).f0 = s ∧ us.find? (fun u => decide (u.f0 = s)) = some (riU27 (pu ++ us) (fsp.idx (fsp.p s) suf (pu.length : Int))) ∧ riU27 (pu ++ us) (fsp.idx (fsp.p s) suf (pu.length : Int)) ∈ us
 | [], _, _, _, _, _, h => by cases h
 | y :: suf, [], _, _, _, h, _ => by simp [usB] at h
 | y :: suf, u :: us, pu, s, x, h, hf => by
  simp only [usB, Bool.and_eq_true, decide_eq_true_eq] at h
  by_cases hy : y.f0 = s
  · have h1 : fsp.idx (fsp.p s) (y :: suf) (pu.length : Int) = (pu.length : Int) := by rw [fsp.idx, if_pos ((p_iff s y).2 hy)]
    rw [h1, rdUs_mid]
    have hu : u.f0 = s := by rw [h.1.1, hy]
    exact ⟨hu, by rw [List.find?_cons_of_pos (by simpa using hu)], by simp⟩
  · have h1 : fsp.idx (fsp.p s) (y :: suf) (pu.length : Int) = fsp.idx (fsp.p s) suf ((pu ++ [u]).length : Int) := by
     rw [fsp.idx, if_neg (fun e => hy ((p_iff s y).1 e))]; simp
    have h2 : fnd suf s = some x := by unfold fnd at hf ⊢; rwa [List.find?_cons_of_neg (by simpa using hy)] at hf
    obtain ⟨i1, i2, i3⟩ := use_at suf us (pu ++ [u]) s x h.2 h2
    have e : (pu ++ [u]) ++ us = pu ++ u :: us := by simp
    rw [e] at i1 i2 i3
    have hu : u.f0 ≠ s := by rw [h.1.1]; exact hy
    rw [h1]
    exact ⟨i1, by rw [List.find?_cons_of_neg (by simpa using hu)]; exact i2, List.mem_cons_of_mem _ i3⟩
/-- How much a space uses. -/
def use (us : List SiU25) (s : ByteArray) : Int := match us.find? (fun u => decide (u.f0 = s)) with | some u => u.f1 | none => 0
theorem l8Use_l0 (s : ByteArray) : ∀ (suf pre : List SiU25) (k : Nat), suf.length < k → (pre ++ suf).length ≤ 1000000000 → spec_l8Use.l0 k (pre ++ suf) s (pre.length : Int) = some (use suf s) := by
 intro suf
 induction suf with
 | nil =>
  intro pre k hk hb
  obtain ⟨k, rfl⟩ := succ_of hk
  rw [spec_l8Use.l0, if_neg end_not_lt]; rfl
 | cons x suf ih =>
  intro pre k hk hb
  obtain ⟨k, rfl⟩ := succ_of hk
  rw [spec_l8Use.l0, if_pos mid_lt, if_pos (nat_le0 _), rdUs_mid]
  by_cases h : x.f0 = s
  · rw [if_pos ((tl_iff _ _).2 h)]
    unfold use
    rw [List.find?_cons_of_pos (by simpa using h)]
  · rw [if_neg (fun e => h ((tl_iff _ _).1 e)), wrap_snoc (x := x) (by simp at hb; omega), snoc_app, ih (pre ++ [x]) k (by simpa using hk) (by simpa using hb)]
    unfold use
    rw [List.find?_cons_of_neg (by simpa using h)]
theorem l8Use_eq (us : List SiU25) (s : ByteArray) (k : Nat) (hk : us.length < k) (hb : us.length ≤ 1000000000) : spec_l8Use.f k us s = some (use us s) := l8Use_l0 s us [] k hk hb
theorem usB_rng : ∀ {l : List SiS23} {us : List SiU25}, usB l us = true → ∀ u ∈ us, 0 ≤ u.f1 ∧ u.f1 ≤ 99999
 | [], [], _, u, h => by cases h
 | x :: l, u :: us, h, v, hv => by
  simp only [usB, Bool.and_eq_true, decide_eq_true_eq] at h
  rcases List.mem_cons.1 hv with rfl | hv
  · exact h.1.2
  · exact usB_rng h.2 v hv
 | [], _ :: _, h, _, _ => by simp [usB] at h
 | _ :: _, [], h, _, _ => by simp [usB] at h
theorem use_rng {l : List SiS23} {us : List SiU25} (h : usB l us = true) (s : ByteArray) : 0 ≤ use us s ∧ use us s ≤ 99999 := by
 unfold use
 cases hf : us.find? (fun u => decide (u.f0 = s)) with
 | none => simp
 | some u => exact usB_rng h u (List.mem_of_find?_eq_some hf)
theorem use_place {l : List SiS23} {us : List SiU25} (h : usB l us = true) {s : ByteArray} {x : SiS23} (hf : fnd l s = some x) : (riU27 us (ix l s)).f1 = use us s ∧ ix l s < (us.length : Int) := by
 obtain ⟨-, h2, -⟩ := use_at l us [] s x h hf
 have h3 := ix_some hf
 have h4 := usB_len h
 refine ⟨?_, by omega⟩
 unfold use
 rw [h2]
 rfl
def may (us : List SiU25) (m : Int) : List SiS23 → ByteArray
 | [] => ⟨#[]⟩
 | x :: c => if 0 ≤ x.f2 ∧ x.f2 < use us x.f0 + m then x.f0 else may us m c
theorem l8May_l0 (l : List SiS23) (us : List SiU25) (m : Int) (hl : l.length ≤ 1000000) (hu : us.length ≤ 1000000) (hB : usB l us = true) (h0 : 0 ≤ m) (h9 : m ≤ 99999) : ∀ (suf : List SiS23) (pre : List ByteArray) (k : Nat), (∀ y ∈ suf, fnd l y.f0 = some y) → suf.length + l.length + us.length + 1 < k → (pre ++ nms suf).length ≤ 1000000 →
 spec_l8May.l0 k l us m (pre ++ nms suf) (pre.length : Int) = some (may us m suf) := by
 intro suf
 induction suf with
 | nil =>
  intro pre k hf hk hb
  obtain ⟨k, rfl⟩ := succ_of hk
  show spec_l8May.l0 (k + 1) l us m (pre ++ []) _ = _
  rw [spec_l8May.l0, if_neg end_not_lt]; rfl
 | cons x suf ih =>
  intro pre k hf hk hb
  obtain ⟨k, rfl⟩ := succ_of hk
  obtain ⟨h1, h2, h3⟩ := ix_some (hf x (by simp))
  have hr := use_rng hB x.f0
  have hn := ih (pre ++ [x.f0]) k (fun y hy => hf y (by simp [hy])) (by simp at hk; omega) (by simpa [nms] using hb)
  rw [← snoc_app] at hn
  show spec_l8May.l0 (k + 1) l us m (pre ++ x.f0 :: nms suf) _ = _
  rw [spec_l8May.l0, if_pos mid_lt, if_pos (nat_le0 _), rdOf_mid, l8At_eq l _ k (by simp at hk; omega) (by omega), Option.bind_some, if_pos h1, if_pos h2, h3, l8Use_eq us _ k (by simp at hk; omega) (by omega), Option.bind_some, wrap_id (i := use us x.f0 + m) (by omega) (by omega), wrap_snoc (x := x.f0) (by simp [nms] at hb; omega), hn, may]
  by_cases h4 : x.f2 ≥ 0
  · rw [if_pos h4]
    by_cases h5 : use us x.f0 + m > x.f2
    · rw [if_pos h5, if_pos ⟨h4, h5⟩]
    · rw [if_neg h5, if_neg (fun h => h5 h.2)]
  · rw [if_neg h4, if_neg (fun h => h4 h.1)]
theorem useMay_l0 (l : List SiS23) (us : List SiU25) (m : Int) (hok : ∀ x ∈ l, -1 ≤ x.f2) (hB : usB l us = true) (h0 : 0 ≤ m) (h9 : m ≤ 99999) (C : List ByteArray) (hC : C.length ≤ 1000000) : ∀ (suf : List SiS23) (pre : List ByteArray) (k : Nat), pre ++ nms suf = C → (∀ y ∈ suf, fnd l y.f0 = some y) → suf.length < k →
 impl_useMay.l0 k l us m C (C.length : Int) (pre.length : Int) = some (may us m suf) := by
 intro suf
 induction suf with
 | nil =>
  intro pre k he hf hk
  obtain ⟨k, rfl⟩ := succ_of hk
  rw [impl_useMay.l0, if_neg (by rw [← he]; simp [nms])]; rfl
 | cons x suf ih =>
  intro pre k he hf hk
  obtain ⟨k, rfl⟩ := succ_of hk
  have he' : pre ++ x.f0 :: nms suf = C := he
  have hpl : pre.length < C.length := by rw [← he']; simp
  have hrd : rdOf ByteArray.empty C (pre.length : Int) = x.f0 := by rw [← he']; exact rdOf_mid _
  obtain ⟨h1, h2, h3⟩ := ix_some (hf x (by simp))
  obtain ⟨h4, h5⟩ := use_place hB (hf x (by simp))
  have hr := use_rng hB x.f0
  have hx := hok x (fnd_mem (hf x (by simp)))
  have hn := ih (pre ++ [x.f0]) k (by rw [← he']; simp) (fun y hy => hf y (by simp [hy])) (by simpa using hk)
  have e : wrap64 ((pre.length : Int) + 1) = ((pre ++ [x.f0]).length : Int) := by rw [wrap_id (by omega) (by omega)]; simp
  rw [impl_useMay.l0, if_pos (by omega), if_pos (by omega), if_pos (by omega), hrd, findSpace_eq, Option.bind_some, if_pos h1, if_pos h2, h3, e, hn, h4, wrap_id (i := use us x.f0 + m) (by omega) (by omega), may]
  by_cases h6 : x.f2 = -1
  · rw [if_pos h6, if_neg (fun h => by omega)]
  · rw [if_neg h6, if_pos h5]
    by_cases h7 : use us x.f0 + m > x.f2
    · rw [if_pos h7, if_pos ⟨by omega, h7⟩]
    · rw [if_neg h7, if_neg (fun h => h7 h.2)]
theorem areS_lim {l : List SiS23} (h : areS l = true) : ∀ x ∈ l, -1 ≤ x.f2 ∧ x.f2 ≤ 99999 := by
 intro x hx
 have h1 := (spGo_all l none (areS_go h)).1 x hx
 unfold spOk at h1
 simp only [Bool.and_eq_true, decide_eq_true_eq] at h1
 exact h1.1.1.2
/-- The answer of UseMay. -/
def mayS (l : List SiS23) (us : List SiU25) (s : ByteArray) (m : Int) : ByteArray := if areS l = true ∧ usB l us = true ∧ 0 ≤ ix l s ∧ 0 ≤ m ∧ m ≤ 99999 then may us m (chain l s) else s
section
variable {l : List SiS23} {us : List SiU25} {N k : Nat}
theorem sMay_eq (h : SmSp N l) (hu : us.length ≤ 1000000000) (hk : 3 * l.length + us.length + N + 40 < k) (s : ByteArray) (m : Int) : spec_UseMay.f k l us s m = some (mayS l us s m) := by
 have hl := h.1
 unfold spec_UseMay.f mayS
 rw [sSpaces h (by omega), Option.bind_some, l8Uses_eq l us k (by omega) hu, Option.bind_some, l8At_eq l s k (by omega) (by omega), Option.bind_some, l1In_eq, Option.bind_some]
 by_cases ha : areS l = true
 · rw [if_pos ha]
   by_cases hB : usB l us = true
   · rw [if_pos hB]
     by_cases hi : ix l s < 0
     · rw [if_pos hi, if_neg (fun h => by omega)]
     · rw [if_neg hi]
       by_cases hm : 0 ≤ m ∧ m ≤ 99999
       · have h7 := areS_len ha
         have hul := usB_len hB
         have hc := chain_len ha s
         rw [decide_eq_true hm, if_pos rfl, if_pos ⟨ha, hB, by omega, hm⟩, spec_l8May.f, l8Up_eq l s k (by omega) (by omega), Option.bind_some, up8 ha]
         have h0 := l8May_l0 l us m (by omega) (by omega) hB hm.1 hm.2 (chain l s) [] k (fun y hy => up_mem 9 s y hy) (by omega) (by rw [List.nil_append, nms_len]; omega)
         rw [List.nil_append, show ((([] : List ByteArray).length : Nat) : Int) = 0 from rfl] at h0
         rw [h0]; rfl
       · rw [decide_eq_false hm, if_neg (by simp), if_neg (fun h => hm h.2.2.2)]
   · rw [if_neg hB, if_neg (fun h => hB h.2.1)]
 · rw [if_neg ha, if_neg (fun h => ha h.1)]
theorem May_eq (hl : l.length ≤ 1000000000) (hu : us.length ≤ 1000000000) (hk : us.length + 400 < k) (s : ByteArray) (m : Int) : impl_UseMay.f k l us s m = some (mayS l us s m) := by
 unfold impl_UseMay.f mayS
 rw [areSpaces_eq l k (by omega), Option.bind_some, areUses_eq l us k (by omega) hu hl, Option.bind_some, findSpace_eq, Option.bind_some]
 by_cases ha : areS l = true
 · rw [if_pos ha]
   by_cases hB : usB l us = true
   · rw [if_pos hB]
     by_cases hi : ix l s < 0
     · rw [if_pos hi, if_neg (fun h => by omega)]
     · rw [if_neg hi]
       by_cases h0 : m < 0
       · rw [if_pos h0, if_neg (fun h => by omega)]
       · rw [if_neg h0]
         by_cases h9 : m > 99999
         · rw [if_pos h9, if_neg (fun h => by omega)]
         · have hc := chain_len ha s
           rw [if_neg h9, if_pos ⟨ha, hB, by omega, by omega, by omega⟩, impl_useMay.f, spaceUp_eq l s k (by omega) (areS_en ha s), Option.bind_some]
           have h0 := useMay_l0 l us m (fun x hx => (areS_lim ha x hx).1) hB (by omega) (by omega) (nms (chain l s)) (by rw [nms_len]; omega) (chain l s) [] k rfl (fun y hy => up_mem 9 s y hy) (by omega)
           rw [show ((([] : List ByteArray).length : Nat) : Int) = 0 from rfl] at h0
           show (impl_useMay.l0 k l us m (nms (chain l s)) ((nms (chain l s)).length : Int) 0).bind _ = _
           rw [h0]; rfl
   · rw [if_neg hB, if_neg (fun h => hB h.2.1)]
 · rw [if_neg ha, if_neg (fun h => ha h.1)]
end
end Go.Proofs.YtlmpmlcjlioeaaaDoor.V
/- UseAdd. -/
namespace Go.Proofs.YtlmpmlcjlioeaaaDoor.V
open Go.RowKit Go.Proofs.YtlmpmlcjlioeaaaDoor.P Go.Proofs.YtlmpmlcjlioeaaaDoorW.PrintWords Go.Proofs.YtlmpmlcjlioeaaaDoorW.PrintMore
def addU (m : Int) (u : SiU25) : SiU25 := ⟨u.f0, wrap64 (u.f1 + m)⟩
/-- More at all these names. -/
def adds (m : Int) (P : List ByteArray) (u : SiU25) : SiU25 := if has P u.f0 = true then addU m u else u
theorem usB_mem : ∀ {l : List SiS23} {us : List SiU25}, usB l us = true → ∀ u ∈ us, ∃ y ∈ l, y.f0 = u.f0
 | [], [], _, u, h => by cases h
 | x :: l, u :: us, h, v, hv => by
  simp only [usB, Bool.and_eq_true, decide_eq_true_eq] at h
  rcases List.mem_cons.1 hv with rfl | hv
  · exact ⟨x, by simp, h.1.1.symm⟩
  · obtain ⟨y, hy, e⟩ := usB_mem h.2 v hv
    exact ⟨y, by simp [hy], e⟩
 | [], _ :: _, h, _, _ => by simp [usB] at h
 | _ :: _, [], h, _, _ => by simp [usB] at h
theorem set_at (m : Int) (g : SiU25 → SiU25) : ∀ (suf : List SiS23) (us pu : List SiU25) (s : ByteArray) (x : SiS23), usB suf us = true → suf.Pairwise (fun x y => Op.bytesLess x.f0.toList y.f0.toList = true) → fnd suf s = some x →
 (pu ++ us.map g).set (fsp.idx (fsp.p s) suf (pu.length : Int)).toNat (addU m (riU27 (pu ++ us.map g) (fsp.idx (fsp.p s) suf (pu.length : Int)))) = pu ++ us.map (fun u => if u.f0 = s then addU m (g u) else g u)
 | [], _, _, _, _, _, _, h => by cases h
 | y :: suf, [], _, _, _, h, _, _ => by simp [usB] at h
 | y :: suf, u :: us, pu, s, x, h, hp, hf => by
  have h' := h
  simp only [usB, Bool.and_eq_true, decide_eq_true_eq] at h
  rw [List.pairwise_cons] at hp
  by_cases hy : y.f0 = s
  · have h1 : fsp.idx (fsp.p s) (y :: suf) (pu.length : Int) = (pu.length : Int) := by rw [fsp.idx, if_pos ((p_iff s y).2 hy)]
    have hu : u.f0 = s := by rw [h.1.1, hy]
    have hrest : us.map (fun u => if u.f0 = s then addU m (g u) else g u) = us.map g := by
     apply List.map_congr_left
     intro v hv
     obtain ⟨z, hz, e⟩ := usB_mem h.2 v hv
     have h2 := hp.1 z hz
     have : v.f0 ≠ s := fun e2 => by
      rw [e, e2, hy, bl_irrefl] at h2
      cases h2
     rw [if_neg this]
    rw [h1, List.map_cons, rdUs_mid, set_mid, List.map_cons, hrest, if_pos hu]
  · have h1 : fsp.idx (fsp.p s) (y :: suf) (pu.length : Int) = fsp.idx (fsp.p s) suf ((pu ++ [g u]).length : Int) := by
     rw [fsp.idx, if_neg (fun e => hy ((p_iff s y).1 e))]; simp
    have h2 : fnd suf s = some x := by unfold fnd at hf ⊢; rwa [List.find?_cons_of_neg (by simpa using hy)] at hf
    have ih := set_at m g suf us (pu ++ [g u]) s x h.2 hp.2 h2
    have hu : u.f0 ≠ s := by rw [h.1.1]; exact hy
    have e : ∀ t : List SiU25, (pu ++ [g u]) ++ t = pu ++ g u :: t := fun t => by simp
    rw [e, e] at ih
    rw [h1, List.map_cons, List.map_cons, if_neg hu]
    exact ih
theorem adds_step (m : Int) (P : List ByteArray) (n : ByteArray) (hn : n ∉ P) : (fun u => if u.f0 = n then addU m (adds m P u) else adds m P u) = adds m (P ++ [n]) := by
 funext u
 by_cases h : u.f0 = n
 · rw [if_pos h]
   have h1 : has P u.f0 = false := by rw [Bool.eq_false_iff]; intro e; rw [h] at e; exact hn ((has_iff P n).1 e)
   have h2 : has (P ++ [n]) u.f0 = true := (has_iff _ _).2 (by simp [h])
   unfold adds
   rw [h1, h2, if_neg (by simp), if_pos rfl]
 · rw [if_neg h]
   have h2 : has (P ++ [n]) u.f0 = has P u.f0 := by
    rw [Bool.eq_iff_iff, has_iff, has_iff]
    simp [h]
   unfold adds
   rw [h2]
theorem useAdd_l0 (l : List SiS23) (us : List SiU25) (m : Int) (hB : usB l us = true) (hp : l.Pairwise (fun x y => Op.bytesLess x.f0.toList y.f0.toList = true)) (hl : l.length ≤ 1000000) (C : List ByteArray) (hC : C.length ≤ 1000000) (hnd : C.Nodup) : ∀ (suf : List SiS23) (pre : List ByteArray) (k : Nat), pre ++ nms suf = C → (∀ y ∈ suf, fnd l y.f0 = some y) → suf.length < k →
 impl_useAdd.l0 k l m (us.map (adds m pre)) C (C.length : Int) (pre.length : Int) = some (us.map (adds m C)) := by
 intro suf
 induction suf with
 | nil =>
  intro pre k he hf hk
  obtain ⟨k, rfl⟩ := succ_of hk
  have : pre = C := by rw [← he]; simp [nms]
  rw [impl_useAdd.l0, if_neg (by rw [this]; simp), this]
 | cons x suf ih =>
  intro pre k he hf hk
  obtain ⟨k, rfl⟩ := succ_of hk
  have he' : pre ++ x.f0 :: nms suf = C := he
  have hpl : pre.length < C.length := by rw [← he']; simp
  have hrd : rdOf ByteArray.empty C (pre.length : Int) = x.f0 := by rw [← he']; exact rdOf_mid _
  have hx := hf x (by simp)
  obtain ⟨h1, h2, h3⟩ := ix_some hx
  have h4 := usB_len hB
  have hnp : x.f0 ∉ pre := by
   rw [← he'] at hnd
   have := List.nodup_append.1 hnd
   intro hm
   exact this.2.2 _ hm _ (by simp) rfl
  have hset := set_at m (adds m pre) l us [] x.f0 x hB hp hx
  simp only [List.nil_append] at hset
  rw [show ((([] : List SiU25).length : Nat) : Int) = 0 from rfl, adds_step m pre x.f0 hnp] at hset
  have hn := ih (pre ++ [x.f0]) k (by rw [← he']; simp) (fun y hy => hf y (by simp [hy])) (by simpa using hk)
  have e : wrap64 ((pre.length : Int) + 1) = ((pre ++ [x.f0]).length : Int) := by rw [wrap_id (by omega) (by omega)]; simp
  rw [impl_useAdd.l0, if_pos (by omega), if_pos (by omega), if_pos (by omega), hrd, findSpace_eq, Option.bind_some, if_pos h1, if_pos (by simp; omega), e]
  show impl_useAdd.l0 k l m ((us.map (adds m pre)).set (fsp.idx (fsp.p x.f0) l 0).toNat (addU m (riU27 (us.map (adds m pre)) (fsp.idx (fsp.p x.f0) l 0)))) C (C.length : Int) _ = _
  rw [hset]
  exact hn
def addS (l : List SiS23) (us : List SiU25) (s : ByteArray) (m : Int) : List SiU25 :=
 if areS l = true ∧ usB l us = true ∧ -99999 ≤ m ∧ m ≤ 99999 then (if usB l (us.map (adds m (nms (chain l s)))) = true then us.map (adds m (nms (chain l s))) else []) else []
section
variable {l : List SiS23} {us : List SiU25} {N k : Nat}
theorem Add_eq (hl : l.length ≤ 1000000000) (hu : us.length ≤ 1000000000) (hk : us.length + 500 < k) (s : ByteArray) (m : Int) : impl_UseAdd.f k l us s m = some (addS l us s m) := by
 obtain ⟨k, rfl⟩ := succ_of hk
 have hj : impl_UseAdd.j0 (k + 1) l us s m true = some [] := by rw [impl_UseAdd.j0, if_pos rfl]
 unfold impl_UseAdd.f addS
 rw [areSpaces_eq l (k + 1) (by omega), Option.bind_some, areUses_eq l us (k + 1) (by omega) hu hl, Option.bind_some, hj]
 by_cases ha : areS l = true
 · rw [if_pos ha]
   by_cases hB : usB l us = true
   · rw [if_pos hB]
     by_cases h0 : m < -99999
     · rw [if_pos h0, if_neg (fun h => by omega)]
     · rw [if_neg h0]
       by_cases h9 : m > 99999
       · rw [decide_eq_true h9, hj, if_neg (fun h => by omega)]
       · have h7 := areS_len ha
         have hc := chain_len ha s
         have hul := usB_len hB
         rw [decide_eq_false h9, if_pos ⟨ha, hB, by omega, by omega⟩, impl_UseAdd.j0, if_neg (by simp), impl_useAdd.f, Option.bind_some, if_pos (by simp; omega), spaceUp_eq l s k (by omega) (areS_en ha s), Option.bind_some]
         have hnd : (nms (chain l s)).Nodup := up_nodup _ s (areS_en ha s) (Nat.le_refl _)
         have h0 := useAdd_l0 l us m hB (spGo_all l none (areS_go ha)).2.1 (by omega) (nms (chain l s)) (by rw [nms_len]; omega) hnd (chain l s) [] k rfl (fun y hy => up_mem 9 s y hy) (by omega)
         have hm0 : us.map (adds m []) = us := by
          have : adds m [] = id := by funext u; unfold adds has; simp
          rw [this, List.map_id]
         rw [hm0, show ((([] : List ByteArray).length : Nat) : Int) = 0 from rfl] at h0
         show ((impl_useAdd.l0 k l m ([] ++ us) (nms (chain l s)) ((nms (chain l s)).length : Int) 0).bind _) = _
         rw [List.nil_append, h0, Option.bind_some, areUses_eq l _ k (by simp; omega) (by simp; omega) hl, Option.bind_some]
         by_cases h5 : usB l (us.map (adds m (nms (chain l s)))) = true
         · rw [if_pos h5, if_pos h5]
         · rw [if_neg h5, if_neg h5]
   · rw [if_neg hB, if_neg (fun h => hB h.2.1)]
 · rw [if_neg ha, if_neg (fun h => ha h.1)]
end
end Go.Proofs.YtlmpmlcjlioeaaaDoor.V
/- What the reader of the drawn input answers: always something, and in bounds. -/
namespace Go.Proofs.YtlmpmlcjlioeaaaDoor.V
open Go.RowKit Go.Proofs.YtlmpmlcjlioeaaaDoor.P Go.Proofs.YtlmpmlcjlioeaaaDoorW.PrintWords Go.Proofs.YtlmpmlcjlioeaaaDoorW.PrintMore
def U8 (s : List Int) : Prop := ∀ x ∈ s, 0 ≤ x ∧ x ≤ 255
theorem U8_of {s : List Int} (h : ∀ x ∈ s, (Lit.int .u8 x).wf = true) : U8 s := fun x hx => by
 have := h x hx
 simp [Lit.wf, IntKind.max, IntKind.min, IntKind.signed, IntKind.bits] at this
 omega
theorem rd_u8 {s : List Int} (h : U8 s) (i : Int) : 0 ≤ rd s i ∧ rd s i ≤ 255 := by
 unfold rd
 rw [List.getD_eq_getElem?_getD]
 cases hx : s[i.toNat]? with
 | none => simp
 | some x => exact h x (List.mem_of_getElem? hx)
theorem xor_i64 {a b : Int} (h0 : 0 ≤ a) (h1 : a ≤ 4611686018427387903) (h2 : 0 ≤ b) (h3 : b ≤ 4611686018427387903) : 0 ≤ Go.bits .xor .i64 a b ∧ Go.bits .xor .i64 a b ≤ 9223372036854775807 := by
 obtain ⟨x, rfl⟩ := Int.eq_ofNat_of_zero_le h0
 obtain ⟨y, rfl⟩ := Int.eq_ofNat_of_zero_le h2
 have hx : x ^^^ y < 2 ^ 62 := Nat.xor_lt_two_pow (by omega) (by omega)
 have e1 : (BitVec.ofInt 64 (x : Int)).toNat = x := by
  rw [BitVec.ofInt_natCast, BitVec.toNat_ofNat]; exact Nat.mod_eq_of_lt (by omega)
 have e2 : (BitVec.ofInt 64 (y : Int)).toNat = y := by
  rw [BitVec.ofInt_natCast, BitVec.toNat_ofNat]; exact Nat.mod_eq_of_lt (by omega)
 have e : Go.bits .xor .i64 (x : Int) (y : Int) = IntKind.i64.wrap ((BitVec.ofInt 64 (x : Int) ^^^ BitVec.ofInt 64 (y : Int)).toNat : Int) := rfl
 rw [e, BitVec.toNat_xor, e1, e2, IntKind.wrap_i64]
 omega
theorem tmod_bd {a n : Int} (h0 : 0 ≤ a) (hn : 1 ≤ n) : 0 ≤ Int.tmod a n ∧ Int.tmod a n < n := by
 rw [Int.tmod_eq_emod_of_nonneg h0]
 exact ⟨Int.emod_nonneg _ (by omega), Int.emod_lt_of_pos _ (by omega)⟩
theorem tdiv_bd {a n : Int} (h0 : 0 ≤ a) (hn : 1 ≤ n) : 0 ≤ Int.tdiv a n ∧ Int.tdiv a n ≤ a := by
 rw [Int.tdiv_eq_ediv_of_nonneg h0]
 exact ⟨Int.ediv_nonneg h0 (by omega), Int.ediv_le_self _ h0⟩
/-- One number below n. -/
theorem pick_eq {s : List Int} {q n : Int} {k : Nat} (hs : U8 s) (hl : s.length ≤ 2000) (h0 : 0 ≤ q) (h1 : q ≤ 1000000) (hn : 1 ≤ n) (hk : 0 < k) : ∃ v, spec_l1Rd_pick.f k s q n = some (v, q + 1) ∧ 0 ≤ v ∧ v < n := by
 obtain ⟨k, rfl⟩ := succ_of hk
 unfold spec_l1Rd_pick.f
 rw [if_neg (by omega), wrap_id (i := q + 1) (by omega) (by omega), spec_l1Rd_pick.j0]
 by_cases hz : s.length = 0
 · rw [if_pos (by rw [beq_iff_eq]; omega)]
   exact ⟨0, rfl, by omega, by omega⟩
 · rw [if_neg (by rw [beq_iff_eq]; omega), show q + 1 - 1 = q by omega, wrap_id (i := q) (by omega) (by omega)]
   by_cases h2 : q < (s.length : Int)
   · have hb := rd_u8 hs q
     rw [if_pos h2, if_pos h0, if_neg (by omega), wrap_id (i := rd s q) (by omega) (by omega)]
     exact ⟨_, rfl, tmod_bd hb.1 hn⟩
   · have b1 := tmod_bd (a := q) (n := s.length) h0 (by omega)
     rw [if_neg h2, if_neg (by omega), if_pos b1.1, if_pos b1.2, wrap_id (i := q * 7) (by omega) (by omega), wrap_id (i := q * 7 + 3) (by omega) (by omega)]
     have b2 := tmod_bd (a := q * 7 + 3) (n := s.length) (by omega) (by omega)
     rw [if_pos b2.1, if_pos b2.2, if_neg (by omega)]
     have c1 := rd_u8 hs (Int.tmod q s.length)
     have c2 := rd_u8 hs (Int.tmod (q * 7 + 3) s.length)
     have c3 := tdiv_bd (a := q) (n := s.length) h0 (by omega)
     generalize rd s (Int.tmod q s.length) = A at c1 ⊢
     generalize rd s (Int.tmod (q * 7 + 3) s.length) = B at c2 ⊢
     generalize Int.tdiv q s.length = D at c3 ⊢
     rw [wrap_id (i := A) (by omega) (by omega), wrap_id (i := B) (by omega) (by omega), wrap_id (i := D) (by omega) (by omega), wrap_id (i := A * 131) (by omega) (by omega), wrap_id (i := B * 1117) (by omega) (by omega), wrap_id (i := q * 29) (by omega) (by omega), wrap_id (i := D * 53) (by omega) (by omega),
      wrap_id (i := A * 131 + B * 1117) (by omega) (by omega), wrap_id (i := A * 131 + B * 1117 + q * 29) (by omega) (by omega), wrap_id (i := A * 131 + B * 1117 + q * 29 + D * 53) (by omega) (by omega)]
     have c4 : 0 ≤ A * 131 + B * 1117 + q * 29 + D * 53 ∧ A * 131 + B * 1117 + q * 29 + D * 53 ≤ 1000000000 := by omega
     generalize A * 131 + B * 1117 + q * 29 + D * 53 = X at c4 ⊢
     have c5 := tdiv_bd (a := X) (n := 64) c4.1 (by omega)
     rw [wrap_id (i := Int.tdiv X 64) (by omega) (by omega)]
     have c6 := xor_i64 (a := X) (b := Int.tdiv X 64) (by omega) (by omega) (by omega) (by omega)
     exact ⟨_, rfl, tmod_bd c6.1 hn⟩
/-- One of a list. -/
theorem of_eq {s : List Int} {q : Int} {k : Nat} {l : List ByteArray} (hs : U8 s) (hl : s.length ≤ 2000) (h0 : 0 ≤ q) (h1 : q ≤ 1000000) (hn : 1 ≤ l.length) (hk : 0 < k) : ∃ x, spec_l1Rd_of.f k s q l = some (x, q + 1) ∧ x ∈ l := by
 obtain ⟨v, hv, b0, b1⟩ := pick_eq (n := (l.length : Int)) hs hl h0 h1 (by omega) hk
 unfold spec_l1Rd_of.f
 rw [hv, Option.bind_some, if_pos b0, if_pos b1]
 refine ⟨_, rfl, ?_⟩
 show rdOf ByteArray.empty l v ∈ l
 unfold rdOf
 rw [List.getD_eq_getElem?_getD, List.getElem?_eq_getElem (by omega)]
 exact List.getElem_mem _
theorem open_eq {l : List Int} (h : U8 l) : ∃ s, spec_l1Open.f l = some (s, 0) ∧ U8 s ∧ s.length ≤ 2000 := by
 unfold spec_l1Open.f
 by_cases h1 : (l.length : Int) > 2000
 · rw [if_pos h1, if_pos (by omega)]
   exact ⟨_, rfl, fun x hx => h x (List.mem_of_mem_take hx), by simp; omega⟩
 · rw [if_neg h1]
   exact ⟨_, rfl, h, by omega⟩
end Go.Proofs.YtlmpmlcjlioeaaaDoor.V
/- Drawn spaces: always some, and small. -/
namespace Go.Proofs.YtlmpmlcjlioeaaaDoor.V
open Go.RowKit Go.Proofs.YtlmpmlcjlioeaaaDoor.P Go.Proofs.YtlmpmlcjlioeaaaDoorW.PrintWords Go.Proofs.YtlmpmlcjlioeaaaDoorW.PrintMore
def SzS (l : List SiS23) : Prop := ∀ x ∈ l, x.f0.size ≤ 10 ∧ x.f1.size ≤ 10
section
variable {s : List Int}
theorem rdS_in {l : List SiS23} {i : Int} (h0 : 0 ≤ i) (h1 : i < (l.length : Int)) : riS26 l i ∈ l := by
 unfold riS26
 rw [List.getD_eq_getElem?_getD, List.getElem?_eq_getElem (by omega)]
 exact List.getElem_mem _
/-- What the rest of the draws tells, from a list on. -/
def Goes (s : List Int) (n : Nat) : Prop := ∀ (l : List SiS23) (q : Int) (k : Nat), 1 ≤ l.length → l.length + n ≤ 20 → SzS l → 0 ≤ q → q + 6 * n ≤ 1000 → 30 * (n + 1) < k → ∃ r q', spec_l13Spaces.l0 k l (n : Int) s q = some (r, q') ∧ 1 ≤ r.length ∧ r.length ≤ 20 ∧ SzS r ∧ 0 ≤ q' ∧ q' ≤ q + 6 * n
theorem put_in {l : List SiS23} (x : SiS23) (i : Nat) (hi : i ≤ l.length) (hl : SzS l) (hx : x.f0.size ≤ 10 ∧ x.f1.size ≤ 10) : SzS ((l.take i ++ [x]) ++ l.drop i) ∧ ((l.take i ++ [x]) ++ l.drop i).length = l.length + 1 := by
 refine ⟨fun y hy => ?_, by simp; omega⟩
 rcases List.mem_append.1 hy with hy | hy
 · rcases List.mem_append.1 hy with hy | hy
   · exact hl y (List.mem_of_mem_take hy)
   · rw [List.mem_singleton.1 hy]; exact hx
 · exact hl y (List.mem_of_mem_drop hy)
theorem l13_l1 (n : Nat) (ih : Goes s n) (x : SiS23) (hx : x.f0.size ≤ 10 ∧ x.f1.size ≤ 10) (l : List SiS23) (h1 : 1 ≤ l.length) (h2 : l.length + 1 + n ≤ 20) (hl : SzS l) (q : Int) (hq0 : 0 ≤ q) (hq : q + 6 * n ≤ 1000) : ∀ (d i : Nat) (k : Nat), i + d = l.length → 30 * (n + 1) + d + 1 < k →
 ∃ r q', spec_l13Spaces.l1 k l ((n : Int) + 1) (i : Int) s q x.f0 x.f1 x.f2 x.f3 x.f4 = some (r, q') ∧ 1 ≤ r.length ∧ r.length ≤ 20 ∧ SzS r ∧ 0 ≤ q' ∧ q' ≤ q + 6 * n := by
 have fin : ∀ (i k : Nat), i ≤ l.length → 30 * (n + 1) < k → ∃ r q', spec_l13Spaces.l0 k (([] ++ l.take i ++ [x]) ++ l.drop i) (n : Int) s q = some (r, q') ∧ 1 ≤ r.length ∧ r.length ≤ 20 ∧ SzS r ∧ 0 ≤ q' ∧ q' ≤ q + 6 * n := by
  intro i k hi hk
  obtain ⟨p1, p2⟩ := put_in x i hi hl hx
  rw [List.nil_append]
  exact ih _ q k (by omega) (by omega) p1 hq0 hq hk
 have wn : wrap64 ((n : Int) + 1 - 1) = (n : Int) := by rw [wrap_id (by omega) (by omega)]; omega
 intro d
 induction d with
 | zero =>
  intro i k hi hk
  obtain ⟨k, rfl⟩ := succ_of hk
  have e : ((i : Int)).toNat = i := by omega
  rw [spec_l13Spaces.l1, if_neg (by omega)]
  simp only [Option.bind_some, e, wn]
  rw [if_pos (by omega), if_pos (by omega), if_pos (by simp; omega), if_pos (by simp; omega), if_pos (by simp; omega)]
  exact fin i k (by omega) (by omega)
 | succ d ihd =>
  intro i k hi hk
  obtain ⟨k, rfl⟩ := succ_of hk
  have e : ((i : Int)).toNat = i := by omega
  rw [spec_l13Spaces.l1, if_pos (by omega), if_pos (by omega)]
  simp only [Option.bind_some, e, wn]
  by_cases hb : Op.bytesLess ((riS26 l (i : Int)).f0).toList x.f0.toList = true
  · rw [if_pos hb, wrap_id (by omega) (by omega)]
    exact ihd (i + 1) k (by omega) (by omega)
  · rw [if_neg hb, if_pos (by omega), if_pos (by simp; omega), if_pos (by simp; omega), if_pos (by simp; omega)]
    exact fin i k (by omega) (by omega)
theorem l13_goes (hu : U8 s) (hs : s.length ≤ 2000) : ∀ n, Goes s n := by
 intro n
 induction n with
 | zero =>
  intro l q k h1 h2 hl hq0 hq hk
  obtain ⟨k, rfl⟩ := succ_of hk
  rw [spec_l13Spaces.l0, if_neg (by omega)]
  exact ⟨l, q, rfl, h1, by omega, hl, hq0, by omega⟩
 | succ n ih =>
  intro l q k h1 h2 hl hq0 hq hk
  obtain ⟨k, rfl⟩ := succ_of hk
  have hq' : q + 6 * (n : Int) + 6 ≤ 1000 := by simp at hq; omega
  obtain ⟨nm, e1, m1⟩ := of_eq (s := s) (q := q) (k := k) (l := ([(⟨#[97]⟩ : ByteArray), (⟨#[98]⟩ : ByteArray), (⟨#[99]⟩ : ByteArray), (⟨#[100]⟩ : ByteArray), (⟨#[101]⟩ : ByteArray)] : List ByteArray)) hu hs hq0 (by omega) (by decide) (by omega)
  obtain ⟨v2, e2, a2, b2⟩ := pick_eq (s := s) (q := q + 1) (n := (l.length : Int)) (k := k) hu hs (by omega) (by omega) (by omega) (by omega)
  obtain ⟨v3, e3, a3, b3⟩ := pick_eq (s := s) (q := q + 1 + 1) (n := 30) (k := k) hu hs (by omega) (by omega) (by omega) (by omega)
  obtain ⟨v4, e4, a4, b4⟩ := pick_eq (s := s) (q := q + 1 + 1 + 1) (n := 3) (k := k) hu hs (by omega) (by omega) (by omega) (by omega)
  obtain ⟨v5, e5, a5, b5⟩ := pick_eq (s := s) (q := q + 1 + 1 + 1 + 1) (n := 6) (k := k) hu hs (by omega) (by omega) (by omega) (by omega)
  obtain ⟨v6, e6, a6, b6⟩ := pick_eq (s := s) (q := q + 1 + 1 + 1 + 1 + 1) (n := 9) (k := k) hu hs (by omega) (by omega) (by omega) (by omega)
  have hnm : nm.size ≤ 10 := by
   simp only [List.mem_cons, List.not_mem_nil, or_false] at m1
   rcases m1 with rfl | rfl | rfl | rfl | rfl <;> decide
  have hov := (hl _ (rdS_in a2 b2)).1
  have wn : wrap64 (((n + 1 : Nat) : Int) - 1) = (n : Int) := by rw [wrap_id (by omega) (by omega)]; omega
  rw [spec_l13Spaces.l0, if_pos (by omega), e1]
  simp only [Option.bind_some, e2]
  rw [if_pos a2, if_pos b2]
  simp only [Option.bind_some, e3, e4]
  rw [if_pos a4, if_pos (by simp; omega)]
  simp only [Option.bind_some, e5, e6, l8At_eq l nm k (by omega) (by omega), wn]
  by_cases hi : ix l nm < 0
  · rw [if_pos hi]
    obtain ⟨r, q', er, r1, r2, r3, r4, r5⟩ := l13_l1 n ih ⟨nm, (riS26 l v2).f0, rd [-1, v3, 9] v4, v5 == 0, wrap64 (1 + v6)⟩ ⟨hnm, hov⟩ l h1 (by omega) hl (q + 1 + 1 + 1 + 1 + 1 + 1) (by omega) (by omega) l.length 0 k (by omega) (by omega)
    refine ⟨r, q', ?_, r1, r2, r3, r4, by simp; omega⟩
    exact er
  · rw [if_neg hi]
    obtain ⟨r, q', er, r1, r2, r3, r4, r5⟩ := ih l (q + 1 + 1 + 1 + 1 + 1 + 1) k h1 (by omega) hl (by omega) (by omega) (by omega)
    exact ⟨r, q', er, r1, r2, r3, r4, by simp; omega⟩
theorem l13Spaces_eq (hu : U8 s) (hs : s.length ≤ 2000) {q : Int} (hq0 : 0 ≤ q) (hq : q ≤ 100) {k : Nat} (hk : 300 < k) : ∃ r q', spec_l13Spaces.f k s q = some (r, q') ∧ 1 ≤ r.length ∧ r.length ≤ 20 ∧ SzS r ∧ 0 ≤ q' ∧ q' ≤ q + 40 := by
 obtain ⟨v, e, a, b⟩ := pick_eq (s := s) (q := q) (n := 5) (k := k) hu hs hq0 (by omega) (by omega) (by omega)
 obtain ⟨n, rfl⟩ : ∃ n : Nat, v = n := ⟨v.toNat, by omega⟩
 unfold spec_l13Spaces.f
 rw [show spec_ModelNew.f = some (0, 0, 0, [(⟨(⟨#[97, 108, 108]⟩ : ByteArray), (⟨#[]⟩ : ByteArray), (-1), false, 0⟩ : SiS23)], [(⟨(⟨#[97, 108, 108]⟩ : ByteArray), 0⟩ : SiU25)], [], []) from rfl, Option.bind_some, e, Option.bind_some]
 obtain ⟨r, q', er, r1, r2, r3, r4, r5⟩ := l13_goes hu hs n [(⟨(⟨#[97, 108, 108]⟩ : ByteArray), (⟨#[]⟩ : ByteArray), (-1), false, 0⟩ : SiS23)] (q + 1) k (by simp) (by simp; omega) (fun x hx => by rw [List.mem_singleton.1 hx]; decide) (by omega) (by omega) (by omega)
 exact ⟨r, q', er, r1, r2, r3, r4, by omega⟩
theorem szS_set {l : List SiS23} (h : SzS l) (i : Nat) (x : SiS23) (hx : x.f0.size ≤ 10 ∧ x.f1.size ≤ 10) : SzS (l.set i x) := by
 intro y hy
 rcases List.mem_or_eq_of_mem_set hy with hy | rfl
 · exact h y hy
 · exact hx
theorem spoil_eq (hu : U8 s) (hs : s.length ≤ 2000) {q : Int} (hq0 : 0 ≤ q) (hq : q ≤ 1000) {k : Nat} (hk : 0 < k) {l : List SiS23} (h1 : 1 ≤ l.length) (h2 : l.length ≤ 20) (hl : SzS l) : ∃ r q', spec_l13SpoilSpaces.f k s q l = some (r, q') ∧ r.length ≤ 21 ∧ SzS r ∧ 0 ≤ q' ∧ q' ≤ q + 3 := by
 obtain ⟨v, e, a, b⟩ := pick_eq (s := s) (q := q) (n := (l.length : Int)) (k := k) hu hs hq0 (by omega) (by omega) (by omega)
 obtain ⟨u, e2, a2, b2⟩ := pick_eq (s := s) (q := q + 1) (n := 6) (k := k) hu hs (by omega) (by omega) (by omega) (by omega)
 have hx := hl _ (rdS_in a b)
 unfold spec_l13SpoilSpaces.f
 simp only [Option.bind_some, List.nil_append, List.length_nil, Nat.zero_add]
 rw [if_pos (by omega)]
 simp only [Option.bind_some, e, e2]
 by_cases c0 : u = 0
 · obtain ⟨o, eo, mo⟩ := of_eq (s := s) (q := q + 1 + 1) (k := k) (l := ([(⟨#[]⟩ : ByteArray), (⟨#[122, 122]⟩ : ByteArray), (riS26 l v).f0, (⟨#[65]⟩ : ByteArray)] : List ByteArray)) hu hs (by omega) (by omega) (by simp) hk
   have ho : o.size ≤ 10 := by
    simp only [List.mem_cons, List.not_mem_nil, or_false] at mo
    rcases mo with rfl | rfl | rfl | rfl
    · decide
    · decide
    · exact hx.1
    · decide
   rw [if_pos c0, if_pos a, if_pos b, eo, Option.bind_some]
   exact ⟨_, _, rfl, by simp; omega, szS_set hl _ _ ⟨hx.1, ho⟩, by omega, by omega⟩
 rw [if_neg c0]
 by_cases c1 : u = 1
 · obtain ⟨o, eo, ao, bo⟩ := pick_eq (s := s) (q := q + 1 + 1) (n := 2) (k := k) hu hs (by omega) (by omega) (by omega) hk
   rw [if_pos c1, eo, Option.bind_some, if_pos ao, if_pos (by simp; omega), if_pos a, if_pos b]
   exact ⟨_, _, rfl, by simp; omega, szS_set hl _ _ hx, by omega, by omega⟩
 rw [if_neg c1]
 by_cases c2 : u = 2
 · rw [if_pos c2, if_pos a, if_pos b, if_pos (by omega)]
   refine ⟨_, _, rfl, by simp; omega, fun y hy => ?_, by omega, by omega⟩
   rcases List.mem_append.1 hy with hy | hy
   · exact hl y hy
   · rw [List.mem_singleton.1 hy]; exact hx
 rw [if_neg c2]
 by_cases c3 : u = 3
 · obtain ⟨o, eo, mo⟩ := of_eq (s := s) (q := q + 1 + 1) (k := k) (l := ([(⟨#[]⟩ : ByteArray), (⟨#[65]⟩ : ByteArray)] : List ByteArray)) hu hs (by omega) (by omega) (by simp) hk
   have ho : o.size ≤ 10 := by
    simp only [List.mem_cons, List.not_mem_nil, or_false] at mo
    rcases mo with rfl | rfl <;> decide
   rw [if_pos c3, eo, Option.bind_some, if_pos a, if_pos b]
   exact ⟨_, _, rfl, by simp; omega, szS_set hl _ _ ⟨ho, hx.2⟩, by omega, by omega⟩
 rw [if_neg c3]
 by_cases c4 : u = 4
 · rw [if_pos c4, if_pos a, if_pos (by omega), wrap_id (i := v + 1) (by omega) (by omega), if_pos (by omega), if_pos (by omega)]
   refine ⟨_, _, rfl, ?_, fun y hy => hl y (List.mem_of_mem_eraseIdx hy), by omega, by omega⟩
   have := List.length_eraseIdx_le l v.toNat
   omega
 rw [if_neg c4, if_pos a, if_pos b]
 exact ⟨_, _, rfl, by simp; omega, szS_set hl _ _ hx, by omega, by omega⟩
/-- Any drawn spaces. -/
theorem any_eq (hu : U8 s) (hs : s.length ≤ 2000) {k : Nat} (hk : 300 < k) : ∃ r q', spec_l13AnySpaces.f k s 0 = some (r, q') ∧ r.length ≤ 21 ∧ SzS r ∧ 0 ≤ q' ∧ q' ≤ 60 := by
 obtain ⟨l, q, e, h1, h2, hl, q0, q1⟩ := l13Spaces_eq (s := s) (q := 0) (k := k) hu hs (by omega) (by omega) hk
 obtain ⟨v, ev, a, b⟩ := pick_eq (s := s) (q := q) (n := 12) (k := k) hu hs q0 (by omega) (by omega) (by omega)
 unfold spec_l13AnySpaces.f
 rw [e, Option.bind_some, ev, Option.bind_some]
 by_cases c : v = 0
 · obtain ⟨r, q', er, r1, r2, r3, r4⟩ := spoil_eq (s := s) (q := q + 1) (k := k) hu hs (by omega) (by omega) (by omega) h1 h2 hl
   rw [if_pos c]
   exact ⟨r, q', by show (spec_l13SpoilSpaces.f k s (q + 1) l).bind _ = _; rw [er]; rfl, r1, r2, r3, by omega⟩
 · rw [if_neg c]
   exact ⟨l, q + 1, rfl, by omega, hl, by omega, by omega⟩
theorem sm_of {l : List SiS23} (h2 : l.length ≤ 21) (hl : SzS l) : SmSp 11 l := ⟨by omega, by omega, fun x hx => by have := hl x hx; omega⟩
end
end Go.Proofs.YtlmpmlcjlioeaaaDoor.V
/- The plain statement of FnUseMay. -/
namespace Go.Proofs.YtlmpmlcjlioeaaaDoor.Pure
open Go.RowKit Go.Proofs.YtlmpmlcjlioeaaaDoor.P Go.Proofs.YtlmpmlcjlioeaaaDoor.V Go.Proofs.YtlmpmlcjlioeaaaDoorW.PrintWords Go.Proofs.YtlmpmlcjlioeaaaDoorW.PrintMore
theorem uses_l0 (s : List Int) (hu : U8 s) (hs : s.length ≤ 2000) (l : List SiS23) (hl : l.length ≤ 21) : ∀ (d i : Nat) (o : List SiU25) (q : Int) (k : Nat), i + d = l.length → o.length = i → 0 ≤ q → q + d ≤ 900 → d + 5 < k → ∃ r q', spec_l13Uses.l0 k l o (i : Int) s q = some (r, q') ∧ r.length ≤ 21 ∧ 0 ≤ q' ∧ q' ≤ q + d + 1 := by
 intro d
 induction d with
 | zero =>
  intro i o q k hi ho q0 q1 hk
  obtain ⟨k, rfl⟩ := succ_of hk
  rw [spec_l13Uses.l0, if_neg (by omega)]
  by_cases h : (o.length : Int) > 0
  · obtain ⟨v, e, a, b⟩ := pick_eq (s := s) (q := q) (n := 16) (k := k) hu hs q0 (by omega) (by omega) (by omega)
    rw [if_pos h, e, Option.bind_some]
    by_cases h2 : v = 0
    · rw [if_pos h2, if_pos (by omega)]
      exact ⟨_, _, rfl, by simp; omega, by omega, by omega⟩
    · rw [if_neg h2]
      exact ⟨_, _, rfl, by omega, by omega, by omega⟩
  · rw [if_neg h]
    exact ⟨_, _, rfl, by omega, by omega, by omega⟩
 | succ d ih =>
  intro i o q k hi ho q0 q1 hk
  obtain ⟨k, rfl⟩ := succ_of hk
  obtain ⟨v, e, a, b⟩ := pick_eq (s := s) (q := q) (n := 25) (k := k) hu hs q0 (by omega) (by omega) (by omega)
  have e2 : wrap64 ((i : Int) + 1) = ((i + 1 : Nat) : Int) := by rw [wrap_id (by omega) (by omega)]; rfl
  rw [spec_l13Uses.l0, if_pos (by omega), if_pos (by omega), e, Option.bind_some, if_pos (by omega), e2]
  obtain ⟨r, q', er, r1, r2, r3⟩ := ih (i + 1) (o ++ [(⟨(riS26 l (i : Int)).f0, v⟩ : SiU25)]) (q + 1) k (by omega) (by simp; omega) (by omega) (by omega) (by omega)
  exact ⟨r, q', er, r1, r2, by omega⟩
theorem drawM_eq (l : List Int) (h : U8 l) (k : Nat) (hk : 300 < k) : ∃ r us a m, spec_DrawUseMay.f k l = some (r, us, a, m) ∧ r.length ≤ 21 ∧ SzS r ∧ us.length ≤ 21 := by
 obtain ⟨s, hs, hu, hl⟩ := open_eq h
 obtain ⟨r, q, e, r1, r2, q0, q1⟩ := any_eq (s := s) (k := k) hu hl hk
 obtain ⟨us, q2, e2, u1, p0, p1⟩ := uses_l0 s hu hl r r1 r.length 0 [] q k (by omega) rfl q0 (by omega) (by omega)
 obtain ⟨a, e3, -⟩ := of_eq (s := s) (q := q2) (k := k) (l := ([(⟨#[97, 108, 108]⟩ : ByteArray), (⟨#[97]⟩ : ByteArray), (⟨#[98]⟩ : ByteArray), (⟨#[99]⟩ : ByteArray), (⟨#[120]⟩ : ByteArray)] : List ByteArray)) hu hl p0 (by omega) (by simp) (by omega)
 obtain ⟨v, e4, a4, b4⟩ := pick_eq (s := s) (q := q2 + 1) (n := 20) (k := k) hu hl (by omega) (by omega) (by omega) (by omega)
 obtain ⟨v2, e5, a5, b5⟩ := pick_eq (s := s) (q := q2 + 1 + 1) (n := 12) (k := k) hu hl (by omega) (by omega) (by omega) (by omega)
 have av : wrap64 (Int.tdiv (wrap64 (v2 * 4)) 12) = v2 * 4 / 12 := by
  rw [wrap_id (i := v2 * 4) (by omega) (by omega), Int.tdiv_eq_ediv_of_nonneg (by omega), wrap_id (by omega) (by omega)]
 have e2' : spec_l13Uses.f k s q r = some (us, q2) := e2
 refine ⟨r, us, a, rd [v, 0, -1, 99999] (v2 * 4 / 12), ?_, r1, r2, u1⟩
 unfold spec_DrawUseMay.f
 simp only [hs, Option.bind_some, e, e2', e3, e4, e5, av]
 rw [if_pos (by omega), if_pos (by simp; omega)]
theorem idx_mid (s : ByteArray) (y : SiS23) (suf : List SiS23) (hy : y.f0 = s) : ∀ (pre : List SiS23) (i : Int), (∀ z ∈ pre, z.f0 ≠ s) → fsp.idx (fsp.p s) (pre ++ y :: suf) i = i + pre.length
 | [], i, _ => by
  rw [List.nil_append, fsp.idx, if_pos ((p_iff s y).2 hy)]; simp
 | z :: pre, i, h => by
  rw [List.cons_append, fsp.idx, if_neg (fun e => h z (by simp) ((p_iff s z).1 e)), idx_mid s y suf hy pre (i + 1) (fun w hw => h w (by simp [hw]))]
  simp; omega
theorem rd_map {us : List SiU25} {g : SiU25 → SiU25} {i : Nat} (hi : i < us.length) : riU27 (us.map g) (i : Int) = g (riU27 us (i : Int)) := by
 unfold riU27
 rw [List.getD_eq_getElem?_getD, List.getD_eq_getElem?_getD, show ((i : Int)).toNat = i by omega, List.getElem?_eq_getElem (by simpa using hi), List.getElem?_eq_getElem hi]
 simp
/-- What is used at a place, once more is put in. -/
theorem at_place {l : List SiS23} {us : List SiU25} {s : ByteArray} {m : Int} (ha : areS l = true) (hB : usB l us = true) (hm : -99999 ≤ m ∧ m ≤ 99999) {pre suf : List SiS23} {y : SiS23} (he : pre ++ y :: suf = l) (hin : y.f0 ∈ nms (chain l s)) :
 (riU27 (us.map (adds m (nms (chain l s)))) (pre.length : Int)).f1 = use us y.f0 + m ∧ pre.length < us.length := by
 have hp := (spGo_all l none (areS_go ha)).2.1
 have hy : y ∈ l := by rw [← he]; simp
 have hf := fnd_of_mem hp hy
 have hpre : ∀ z ∈ pre, z.f0 ≠ y.f0 := by
  intro z hz e
  rw [← he] at hp
  have := (List.pairwise_append.1 hp).2.2 z hz y (by simp)
  rw [e, bl_irrefl] at this
  cases this
 have hix : ix l y.f0 = (pre.length : Int) := by
  unfold ix
  rw [← he, idx_mid y.f0 y suf rfl pre 0 hpre]; simp
 obtain ⟨h1, h2⟩ := use_place hB hf
 obtain ⟨h3, -, -⟩ := use_at l us [] y.f0 y hB hf
 have h4 := use_rng hB y.f0
 change (riU27 us (ix l y.f0)).f0 = y.f0 at h3
 rw [hix] at h1 h2 h3
 refine ⟨?_, by omega⟩
 rw [rd_map (by omega)]
 unfold adds
 rw [if_pos (by rw [h3]; exact (has_iff _ _).2 hin)]
 unfold addU
 show wrap64 ((riU27 us (pre.length : Int)).f1 + m) = _
 rw [h1, wrap_id (by omega) (by omega)]
theorem may_l1 (l : List SiS23) (us : List SiU25) (s r : ByteArray) (m : Int) (ha : areS l = true) (hB : usB l us = true) (hm : -99999 ≤ m ∧ m ≤ 99999) (C : List ByteArray) (hC : C = nms (chain l s)) (i : Nat) (hi : i < C.length) (n : ByteArray) (hn : rdOf ByteArray.empty C (i : Int) = n) (hmem : n ∈ C) (K : Nat)
 (hit : ∀ z ∈ l, z.f0 = n → 0 ≤ z.f2 → z.f2 < use us z.f0 + m → r = n) (hgo : (∀ z ∈ l, z.f0 = n → ¬ (0 ≤ z.f2 ∧ z.f2 < use us z.f0 + m)) → ∀ k, K ≤ k → laws_FnUseMay.l0 k l r (us.map (adds m C)) C ((i + 1 : Nat) : Int) = some true) (hCl : C.length ≤ 7) :
 ∀ (suf pre : List SiS23) (k : Nat), pre ++ suf = l → (∀ z ∈ pre, z.f0 = n → ¬ (0 ≤ z.f2 ∧ z.f2 < use us z.f0 + m)) → K + suf.length < k → laws_FnUseMay.l1 k l r (us.map (adds m C)) C (i : Int) (pre.length : Int) = some true := by
 have h7 := areS_len ha
 intro suf
 induction suf with
 | nil =>
  intro pre k he hno hk
  obtain ⟨k, rfl⟩ := succ_of hk
  have e : wrap64 ((i : Int) + 1) = ((i + 1 : Nat) : Int) := by rw [wrap_id (by omega) (by omega)]; rfl
  have hpl : pre = l := by rw [← he]; simp
  rw [laws_FnUseMay.l1, if_neg (by rw [hpl]; omega), e]
  exact hgo (hpl ▸ hno) k (by simp at hk; omega)
 | cons z suf ih =>
  intro pre k he hno hk
  obtain ⟨k, rfl⟩ := succ_of hk
  have hpl : pre.length < l.length := by rw [← he]; simp
  have hrd : riS26 l (pre.length : Int) = z := by rw [← he]; exact rdS_mid
  have e : wrap64 ((pre.length : Int) + 1) = ((pre ++ [z]).length : Int) := by rw [wrap_id (by omega) (by omega)]; simp
  have next : (z.f0 = n → ¬ (0 ≤ z.f2 ∧ z.f2 < use us z.f0 + m)) → laws_FnUseMay.l1 k l r (us.map (adds m C)) C (i : Int) ((pre ++ [z]).length : Int) = some true := by
   intro hz
   refine ih (pre ++ [z]) k (by simp [← he]) (fun w hw => ?_) (by simp at hk; omega)
   rcases List.mem_append.1 hw with hw | hw
   · exact hno w hw
   · rw [List.mem_singleton.1 hw]; exact hz
  rw [laws_FnUseMay.l1, if_pos (by omega), if_pos (by omega), if_pos (by omega), if_pos (by omega), hrd, hn, e]
  by_cases h1 : z.f0 = n
  · obtain ⟨g1, g2⟩ := at_place (s := s) (m := m) ha hB hm he (by rw [h1, ← hC]; exact hmem)
    rw [← hC] at g1
    rw [if_pos ((tl_iff _ _).2 h1)]
    by_cases h2 : z.f2 ≥ 0
    · rw [if_pos h2, if_pos (by simp; omega), g1]
      by_cases h3 : use us z.f0 + m > z.f2
      · rw [if_pos h3, hit z (by rw [← he]; simp) h1 h2 h3]; simp
      · rw [if_neg h3]; exact next (fun _ h => h3 h.2)
    · rw [if_neg h2]; exact next (fun _ h => h2 h.1)
  · rw [if_neg (fun h => h1 ((tl_iff _ _).1 h))]
    exact next (fun h => absurd h h1)
theorem may_l0 (l : List SiS23) (us : List SiU25) (s r : ByteArray) (m : Int) (ha : areS l = true) (hB : usB l us = true) (hm : -99999 ≤ m ∧ m ≤ 99999) (C : List ByteArray) (hC : C = nms (chain l s)) (hCl : C.length ≤ 7) : ∀ (suf : List SiS23) (pre : List ByteArray) (k : Nat), pre ++ nms suf = C → (∀ y ∈ suf, fnd l y.f0 = some y) → r = may us m suf → 30 * suf.length + 20 < k →
 laws_FnUseMay.l0 k l r (us.map (adds m C)) C (pre.length : Int) = some true := by
 have h7 := areS_len ha
 have hp := (spGo_all l none (areS_go ha)).2.1
 intro suf
 induction suf with
 | nil =>
  intro pre k he hf hr hk
  obtain ⟨k, rfl⟩ := succ_of hk
  rw [laws_FnUseMay.l0, if_neg (by rw [← he]; simp [nms]), if_pos (by rw [hr]; exact (nil_iff _).2 rfl)]
 | cons y suf ih =>
  intro pre k he hf hr hk
  obtain ⟨k, rfl⟩ := succ_of hk
  have he' : pre ++ y.f0 :: nms suf = C := he
  have hpl : pre.length < C.length := by rw [← he']; simp
  have hrd : rdOf ByteArray.empty C (pre.length : Int) = y.f0 := by rw [← he']; exact rdOf_mid _
  have hyl := fnd_mem (hf y (by simp))
  have one : ∀ z ∈ l, z.f0 = y.f0 → z = y := by
   intro z hz e
   have h1 := fnd_of_mem hp hz
   rw [e, hf y (by simp)] at h1
   exact (Option.some.inj h1).symm
  rw [laws_FnUseMay.l0, if_pos (by omega)]
  have := may_l1 l us s r m ha hB hm C hC pre.length hpl y.f0 hrd (by rw [← he']; simp) (30 * suf.length + 21)
   (fun z hz e1 e2 e3 => by
    obtain rfl := one z hz e1
    rw [hr, may, if_pos ⟨e2, e3⟩])
   (fun hno k hk => by
    have hc := hno y hyl rfl
    have hr2 : r = may us m suf := by rw [hr, may, if_neg hc]
    have := ih (pre ++ [y.f0]) k (by rw [← he']; simp) (fun w hw => hf w (by simp [hw])) hr2 (by omega)
    have e : (((pre ++ [y.f0]).length : Nat) : Int) = ((pre.length + 1 : Nat) : Int) := by simp
    rw [e] at this
    exact this)
   hCl l [] k rfl (fun z hz => by cases hz) (by simp at hk; omega)
  exact this
theorem may_j (l : List SiS23) (us : List SiU25) (s : ByteArray) (m : Int) (k : Nat) (hk : 2000 < k) (hl : l.length ≤ 21) (hs : SmSp 11 l) (hul : us.length ≤ 21) : laws_FnUseMay.j0 k l us s m (mayS l us s m) false = some true := by
 obtain ⟨k, rfl⟩ := succ_of hk
 obtain ⟨k, rfl⟩ := succ_of (show 1 < k by omega)
 have jt : ∀ x, laws_FnUseMay.j1 (k + 1) l s (mayS l us s m) x true = some true := fun x => by rw [laws_FnUseMay.j1, if_pos rfl]
 rw [laws_FnUseMay.j0, if_neg (by simp), Add_eq (by omega) (by omega) (by omega), Option.bind_some, sSpaces hs (by omega), Option.bind_some, jt]
 by_cases h0 : ((addS l us s m).length : Int) = 0
 · rw [if_pos h0]
 rw [if_neg h0]
 by_cases ha : areS l = true
 · rw [if_pos ha]
   by_cases hm0 : m < 0
   · rw [decide_eq_true hm0, jt]
   · rw [decide_eq_false hm0, laws_FnUseMay.j1, if_neg (by simp), Up_eq (by omega), Option.bind_some, if_pos ha]
     have hx : usB l us = true ∧ (-99999 ≤ m ∧ m ≤ 99999) ∧ addS l us s m = us.map (adds m (nms (chain l s))) := by
      unfold addS at h0 ⊢
      by_cases h1 : areS l = true ∧ usB l us = true ∧ -99999 ≤ m ∧ m ≤ 99999
      · rw [if_pos h1] at h0 ⊢
        by_cases h2 : usB l (us.map (adds m (nms (chain l s)))) = true
        · rw [if_pos h2]; exact ⟨h1.2.1, h1.2.2, rfl⟩
        · rw [if_neg h2] at h0; exact absurd rfl h0
      · rw [if_neg h1] at h0; exact absurd rfl h0
     obtain ⟨hB, hm, hadd⟩ := hx
     rw [hadd]
     have hc := chain_len ha s
     cases hf : fnd l s with
     | none =>
      have : chain l s = [] := up_none hf
      rw [this]
      obtain ⟨k, rfl⟩ := succ_of (show 1 < k by omega)
      show laws_FnUseMay.l0 (k + 1) l _ _ ([] : List ByteArray) 0 = _
      rw [laws_FnUseMay.l0, if_neg (by simp)]
      by_cases hr : (mayS l us s m).toList = []
      · rw [if_pos hr]
      · rw [if_neg hr]; simp
     | some x =>
      have hi := (ix_some hf).1
      have hr : mayS l us s m = may us m (chain l s) := by
       unfold mayS
       rw [if_pos ⟨ha, hB, hi, by omega, hm.2⟩]
      have := may_l0 l us s (mayS l us s m) m ha hB hm (nms (chain l s)) rfl (by rw [nms_len]; exact hc) (chain l s) [] k rfl (fun y hy => fnd_chain hy) hr (by omega)
      rwa [show ((([] : List ByteArray).length : Nat) : Int) = 0 from rfl] at this
 · rw [if_neg ha]
theorem FnUseMay : laws_FnUseMay.Pure := by
 intro n hn
 obtain ⟨K, hK⟩ : ∃ K, K = 1060000 := ⟨_, rfl⟩
 refine ⟨K + 1, ?_⟩
 unfold laws_FnUseMay.f
 by_cases hc : (n.length : Int) > 1048576
 · rw [if_pos hc]
 rw [if_neg hc]
 obtain ⟨l, us, s, m, e, h1, h2, h3⟩ := drawM_eq n (U8_of hn.2) (K + 1) (by omega)
 have hs := sm_of h1 h2
 rw [e, Option.bind_some]
 show ((impl_UseMay.f (K + 1) l us s m).bind _) = _
 rw [May_eq (by omega) (by omega) (by omega), Option.bind_some]
 show ((spec_UseMay.f (K + 1) l us s m).bind _) = _
 rw [sMay_eq hs (by omega) (by omega), Option.bind_some, if_pos rfl]
 show ((impl_SpacesOk.f (K + 1) l).bind _) = _
 rw [SpacesOk_eq l (K + 1) (by omega), Option.bind_some]
 show ((spec_SpacesOk.f (K + 1) l).bind _) = _
 rw [sSpaces hs (by omega), Option.bind_some]
 show laws_FnUseMay.j0 (K + 1) l us s m (mayS l us s m) (areS l != areS l) = _
 rw [bne_self_eq_false]
 exact may_j l us s m (K + 1) (by omega) h1 hs h3
end Go.Proofs.YtlmpmlcjlioeaaaDoor.Pure
