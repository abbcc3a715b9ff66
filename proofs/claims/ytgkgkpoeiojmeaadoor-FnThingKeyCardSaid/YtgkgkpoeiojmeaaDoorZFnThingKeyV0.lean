/- The plain statement of the law FnThingKey, proved. -/
import Derived.Test.YtgkgkpoeiojmeaaDoorZFnThingKeyW0
import Derived.Test.YtgkgkpoeiojmeaaDoorZFnThingKey0
import Derived.Laws.Bits64
/- Plain lemmas on lists, numbers and strings, for the laws' plain statements. -/
namespace Go.Proofs.YtgkgkpoeiojmeaaDoor.V
open Go.RowKit Go.Proofs.YtgkgkpoeiojmeaaDoorW.PrintWords Go.Proofs.YtgkgkpoeiojmeaaDoorW.PrintMore
theorem succ_of {d k : Nat} (h : d < k) : ∃ m, k = m + 1 := ⟨k - 1, by omega⟩
theorem wrap_id {i : Int} (h : -9223372036854775808 ≤ i) (h' : i ≤ 9223372036854775807) : wrap64 i = i := by unfold wrap64; omega
section
variable {α : Type} {pre suf : List α} {x y : α}
end
end Go.Proofs.YtgkgkpoeiojmeaaDoor.V
/- What the reader of the drawn input answers: always something, and in bounds. -/
namespace Go.Proofs.YtgkgkpoeiojmeaaDoor.V
open Go.RowKit Go.Proofs.YtgkgkpoeiojmeaaDoor.P Go.Proofs.YtgkgkpoeiojmeaaDoorW.PrintWords Go.Proofs.YtgkgkpoeiojmeaaDoorW.PrintMore
def U8 (s : List Int) : Prop := ∀ x ∈ s, 0 ≤ x ∧ x ≤ 255
theorem U8_of {s : List Int} (h : ∀ x ∈ s, (Lit.int .u8 x).wf = true) : U8 s := fun x hx => by
  have := h x hx
  simp [Lit.wf, IntKind.max, IntKind.min, IntKind.signed, IntKind.bits] at this
  omega
theorem rd_u8 {s : List Int} (h : U8 s) (i : Int) : 0 ≤ rd s i ∧ rd s i ≤ 255 := by
  unfold rd
  rw [List.getD_eq_getElem?_getD]
  cases hx : s[i.toNat]? with
  | none => simp
  | some x => exact h x (List.mem_of_getElem? hx)
theorem xor_i64 {a b : Int} (h0 : 0 ≤ a) (h1 : a ≤ 4611686018427387903) (h2 : 0 ≤ b) (h3 : b ≤ 4611686018427387903) : 0 ≤ Go.bits .xor .i64 a b ∧ Go.bits .xor .i64 a b ≤ 9223372036854775807 := by
  obtain ⟨x, rfl⟩ := Int.eq_ofNat_of_zero_le h0
  obtain ⟨y, rfl⟩ := Int.eq_ofNat_of_zero_le h2
  have hx : x ^^^ y < 2 ^ 62 := Nat.xor_lt_two_pow (by omega) (by omega)
  have e1 : (BitVec.ofInt 64 (x : Int)).toNat = x := by
    rw [BitVec.ofInt_natCast, BitVec.toNat_ofNat]; exact Nat.mod_eq_of_lt (by omega)
  have e2 : (BitVec.ofInt 64 (y : Int)).toNat = y := by
    rw [BitVec.ofInt_natCast, BitVec.toNat_ofNat]; exact Nat.mod_eq_of_lt (by omega)
  have e : Go.bits .xor .i64 (x : Int) (y : Int) = IntKind.i64.wrap ((BitVec.ofInt 64 (x : Int) ^^^ BitVec.ofInt 64 (y : Int)).toNat : Int) := rfl
  rw [e, BitVec.toNat_xor, e1, e2, IntKind.wrap_i64]
  omega
theorem tmod_bd {a n : Int} (h0 : 0 ≤ a) (hn : 1 ≤ n) : 0 ≤ Int.tmod a n ∧ Int.tmod a n < n := by
  rw [Int.tmod_eq_emod_of_nonneg h0]
  exact ⟨Int.emod_nonneg _ (by omega), Int.emod_lt_of_pos _ (by omega)⟩
theorem tdiv_bd {a n : Int} (h0 : 0 ≤ a) (hn : 1 ≤ n) : 0 ≤ Int.tdiv a n ∧ Int.tdiv a n ≤ a := by
  rw [Int.tdiv_eq_ediv_of_nonneg h0]
  exact ⟨Int.ediv_nonneg h0 (by omega), Int.ediv_le_self _ h0⟩
/-- One number below n. -/
theorem pick_eq {s : List Int} {q n : Int} {k : Nat} (hs : U8 s) (hl : s.length ≤ 2000) (h0 : 0 ≤ q) (h1 : q ≤ 1000000) (hn : 1 ≤ n) (hk : 0 < k) : ∃ v, spec_l1Rd_pick.f k s q n = some (v, q + 1) ∧ 0 ≤ v ∧ v < n := by
  obtain ⟨k, rfl⟩ := succ_of hk
  unfold spec_l1Rd_pick.f
  rw [if_neg (by omega), wrap_id (i := q + 1) (by omega) (by omega), spec_l1Rd_pick.j0]
  by_cases hz : s.length = 0
  · rw [if_pos (by rw [beq_iff_eq]; omega)]
    exact ⟨0, rfl, by omega, by omega⟩
  · rw [if_neg (by rw [beq_iff_eq]; omega), show q + 1 - 1 = q by omega, wrap_id (i := q) (by omega) (by omega)]
    by_cases h2 : q < (s.length : Int)
    · have hb := rd_u8 hs q
      rw [if_pos h2, if_pos h0, if_neg (by omega), wrap_id (i := rd s q) (by omega) (by omega)]
      exact ⟨_, rfl, tmod_bd hb.1 hn⟩
    · have b1 := tmod_bd (a := q) (n := s.length) h0 (by omega)
      rw [if_neg h2, if_neg (by omega), if_pos b1.1, if_pos b1.2, wrap_id (i := q * 7) (by omega) (by omega), wrap_id (i := q * 7 + 3) (by omega) (by omega)]
      have b2 := tmod_bd (a := q * 7 + 3) (n := s.length) (by omega) (by omega)
      rw [if_pos b2.1, if_pos b2.2, if_neg (by omega)]
      have c1 := rd_u8 hs (Int.tmod q s.length)
      have c2 := rd_u8 hs (Int.tmod (q * 7 + 3) s.length)
      have c3 := tdiv_bd (a := q) (n := s.length) h0 (by omega)
      generalize rd s (Int.tmod q s.length) = A at c1 ⊢
      generalize rd s (Int.tmod (q * 7 + 3) s.length) = B at c2 ⊢
      generalize Int.tdiv q s.length = D at c3 ⊢
      rw [wrap_id (i := A) (by omega) (by omega), wrap_id (i := B) (by omega) (by omega), wrap_id (i := D) (by omega) (by omega), wrap_id (i := A * 131) (by omega) (by omega), wrap_id (i := B * 1117) (by omega) (by omega), wrap_id (i := q * 29) (by omega) (by omega), wrap_id (i := D * 53) (by omega) (by omega),
        wrap_id (i := A * 131 + B * 1117) (by omega) (by omega), wrap_id (i := A * 131 + B * 1117 + q * 29) (by omega) (by omega), wrap_id (i := A * 131 + B * 1117 + q * 29 + D * 53) (by omega) (by omega)]
      have c4 : 0 ≤ A * 131 + B * 1117 + q * 29 + D * 53 ∧ A * 131 + B * 1117 + q * 29 + D * 53 ≤ 1000000000 := by omega
      generalize A * 131 + B * 1117 + q * 29 + D * 53 = X at c4 ⊢
      have c5 := tdiv_bd (a := X) (n := 64) c4.1 (by omega)
      rw [wrap_id (i := Int.tdiv X 64) (by omega) (by omega)]
      have c6 := xor_i64 (a := X) (b := Int.tdiv X 64) (by omega) (by omega) (by omega) (by omega)
      exact ⟨_, rfl, tmod_bd c6.1 hn⟩
theorem open_eq {l : List Int} (h : U8 l) : ∃ s, spec_l1Open.f l = some (s, 0) ∧ U8 s ∧ s.length ≤ 2000 := by
  unfold spec_l1Open.f
  by_cases h1 : (l.length : Int) > 2000
  · rw [if_pos h1, if_pos (by omega)]
    exact ⟨_, rfl, fun x hx => h x (List.mem_of_mem_take hx), by simp; omega⟩
  · rw [if_neg h1]
    exact ⟨_, rfl, h, by omega⟩
end Go.Proofs.YtgkgkpoeiojmeaaDoor.V
/- What holds of all bytes of a string, counted from a place on; the order of strings. -/
namespace Go.Proofs.YtgkgkpoeiojmeaaDoor.V
open Go.RowKit Go.Proofs.YtgkgkpoeiojmeaaDoor.P Go.Proofs.YtgkgkpoeiojmeaaDoorW.PrintWords Go.Proofs.YtgkgkpoeiojmeaaDoorW.PrintMore
theorem bt_nat (s : ByteArray) (j : Nat) (h : j < s.size) : bt s (j : Nat) = ((s.data.toList[j]'(by simpa using h)).toNat : Int) := by
  unfold bt
  rw [dif_pos (by simpa using h)]
  rfl
end Go.Proofs.YtgkgkpoeiojmeaaDoor.V
/- Names: what the program's test and the reference's tell. -/
namespace Go.Proofs.YtgkgkpoeiojmeaaDoor.V
open Go.RowKit Go.Proofs.YtgkgkpoeiojmeaaDoor.P Go.Proofs.YtgkgkpoeiojmeaaDoorW.PrintWords Go.Proofs.YtgkgkpoeiojmeaaDoorW.PrintMore
def letB (b : UInt8) : Bool := decide (97 ≤ b.toNat ∧ b.toNat ≤ 122)
/-- A name: one letter to six. -/
def nameB (s : ByteArray) : Bool := decide (1 ≤ s.size) && decide (s.size ≤ 6) && s.data.toList.all letB
def abc : ByteArray := (⟨#[97, 98, 99, 100, 101, 102, 103, 104, 105, 106, 107, 108, 109, 110, 111, 112, 113, 114, 115, 116, 117, 118, 119, 120, 121, 122]⟩ : ByteArray)
theorem abc_eq (b : UInt8) : abc.data.toList.contains b = letB b := by
  have h : ∀ n : Fin 256, abc.data.toList.contains (UInt8.ofNat n.1) = letB (UInt8.ofNat n.1) := by decide +kernel
  have := h ⟨b.toNat, b.toNat_lt⟩
  simpa using this
theorem drop_nil {P : UInt8 → Bool} : ∀ l : List UInt8, l.dropWhile P = [] ↔ l.all P = true
  | [] => by simp
  | x :: l => by
    by_cases h : P x = true
    · simp [List.dropWhile, h, drop_nil l]
    · simp [List.dropWhile, h]
theorem take_all {P : UInt8 → Bool} : ∀ l : List UInt8, (l.takeWhile P).all P = true
  | [] => rfl
  | x :: l => by
    by_cases h : P x = true
    · simp only [List.takeWhile, h, List.all_cons, take_all l, Bool.true_and]
    · simp only [List.takeWhile, h]; rfl
theorem size_list (s : ByteArray) : s.size = s.data.toList.length := by rw [Array.length_toList]; rfl
theorem trim_nil (l cs : List UInt8) : Lib.trimS l cs = [] ↔ l.all (fun b => cs.contains b) = true := by
  unfold Lib.trimS Lib.trimLeftS Lib.trimRightS
  rw [drop_nil, List.all_reverse]
  constructor
  · intro h
    have e := List.takeWhile_append_dropWhile (p := fun b => cs.contains b) (l := l.reverse)
    have h2 : l.reverse.all (fun b => cs.contains b) = true := by
      rw [← e, List.all_append, Bool.and_eq_true]
      exact ⟨take_all _, h⟩
    rwa [List.all_reverse] at h2
  · intro h
    have h2 : l.reverse.all (fun b => cs.contains b) = true := by rwa [List.all_reverse]
    rw [(drop_nil l.reverse).2 h2]
    rfl
theorem isName_eq (s : ByteArray) : impl_isName.f s = some (nameB s) := by
  unfold impl_isName.f nameB
  by_cases h1 : 1 ≤ s.size
  · rw [if_pos (by omega)]
    by_cases h2 : s.size ≤ 6
    · rw [if_pos (by omega)]
      unfold strings_Trim.f
      rw [if_pos ⟨by omega, by decide +kernel, by decide +kernel⟩]
      simp only [Option.bind_some, Option.some.injEq]
      rw [decide_eq_true h1, decide_eq_true h2, Bool.true_and, Bool.true_and]
      have e : (⟨(Lib.trimS s.data.toList abc.data.toList).toArray⟩ : ByteArray).toList = Lib.trimS s.data.toList abc.data.toList := by rw [ByteArray.toList_eq]
      show ((⟨(Lib.trimS s.data.toList abc.data.toList).toArray⟩ : ByteArray).toList == []) = _
      rw [e, Bool.eq_iff_iff, beq_iff_eq, trim_nil]
      simp only [abc_eq]
    · rw [if_neg (by omega), decide_eq_false h2]; simp
  · rw [if_neg (by omega), decide_eq_false h1]; simp
theorem NameOk_eq (s : ByteArray) : impl_NameOk.f s = some (nameB s) := by
  unfold impl_NameOk.f
  rw [isName_eq]; rfl
theorem sNameOk_l0 : ∀ (suf pre : List UInt8) (s : ByteArray) (k : Nat), s.data.toList = pre ++ suf → s.size ≤ 9223372036854775806 → suf.length < k →
    spec_NameOk.l0 k s (pre.length : Int) = some (suf.all letB && decide (1 ≤ s.size) && decide (s.size ≤ 6)) := by
  intro suf
  induction suf with
  | nil =>
    intro pre s k he hs hk
    obtain ⟨k, rfl⟩ := succ_of hk
    have hz : s.size = pre.length := by rw [size_list, he]; simp
    rw [spec_NameOk.l0, if_neg (by omega)]
    unfold spec_l1In.f
    by_cases h1 : 1 ≤ s.size
    · rw [if_pos (by omega), decide_eq_true h1]
      simp only [List.all_nil, Bool.true_and, Option.bind_some]
      congr 1
      rw [decide_eq_decide]
      omega
    · rw [if_neg (by omega), decide_eq_false h1]; rfl
  | cons x suf ih =>
    intro pre s k he hs hk
    obtain ⟨k, rfl⟩ := succ_of hk
    have hz : s.size = pre.length + (suf.length + 1) := by rw [size_list, he]; simp
    have hb : bt s (pre.length : Int) = (x.toNat : Int) := by
      rw [bt_nat s pre.length (by omega)]
      congr 2
      simp [he]
    have hn := ih (pre ++ [x]) s k (by simp [he]) hs (by simpa using hk)
    rw [spec_NameOk.l0, if_pos (by omega), if_pos (by omega), hb, wrap_id (by omega) (by omega)]
    have e : ((pre.length : Int) + 1) = ((pre ++ [x]).length : Int) := by simp
    rw [e, hn]
    by_cases h1 : (x.toNat : Int) < 97
    · rw [if_pos h1]
      have : letB x = false := by unfold letB; rw [decide_eq_false (by omega)]
      simp [this]
    · rw [if_neg h1]
      by_cases h2 : (x.toNat : Int) > 122
      · rw [if_pos h2]
        have : letB x = false := by unfold letB; rw [decide_eq_false (by omega)]
        simp [this]
      · rw [if_neg h2]
        have : letB x = true := by unfold letB; rw [decide_eq_true (by omega)]
        simp [this]
theorem sNameOk_eq (s : ByteArray) (k : Nat) (hs : s.size ≤ 9223372036854775806) (hk : s.size < k) : spec_NameOk.f k s = some (nameB s) := by
  unfold spec_NameOk.f
  have := sNameOk_l0 s.data.toList [] s k rfl hs (by rw [← size_list]; exact hk)
  rw [show ((([] : List UInt8).length : Nat) : Int) = 0 from rfl] at this
  rw [this, nameB]
  congr 1
  ac_rfl
theorem nameB_size {s : ByteArray} (h : nameB s = true) : 1 ≤ s.size ∧ s.size ≤ 6 := by
  unfold nameB at h
  simp only [Bool.and_eq_true, decide_eq_true_eq] at h
  exact h.1
end Go.Proofs.YtgkgkpoeiojmeaaDoor.V
/- Keys of things. -/
namespace Go.Proofs.YtgkgkpoeiojmeaaDoor.V
open Go.RowKit Go.Proofs.YtgkgkpoeiojmeaaDoor.P Go.Proofs.YtgkgkpoeiojmeaaDoorW.PrintWords Go.Proofs.YtgkgkpoeiojmeaaDoorW.PrintMore
def keyT (a b : ByteArray) : ByteArray := if nameB a = true ∧ nameB b = true then ((((⟨#[116, 46]⟩ : ByteArray) ++ a) ++ (⟨#[46]⟩ : ByteArray)) ++ b) else (⟨#[]⟩ : ByteArray)
theorem ThingKey_eq (a b : ByteArray) : impl_ThingKey.f a b = some (keyT a b) := by
  unfold impl_ThingKey.f keyT
  rw [isName_eq, Option.bind_some]
  by_cases h1 : nameB a = true
  · rw [if_pos h1, isName_eq, Option.bind_some]
    by_cases h2 : nameB b = true
    · have := nameB_size h1; have := nameB_size h2
      rw [if_pos h2, if_pos (by omega), if_pos (by omega), if_pos (by omega), if_pos ⟨h1, h2⟩]
    · rw [if_neg h2, if_neg (fun h => h2 h.2)]
  · rw [if_neg h1, if_neg (fun h => h1 h.1)]
theorem sThingKey_eq (a b : ByteArray) (k : Nat) (ha : a.size ≤ 9223372036854775806) (hb : b.size ≤ 9223372036854775806) (hka : a.size < k) (hkb : b.size < k) : spec_ThingKey.f k a b = some (keyT a b) := by
  unfold spec_ThingKey.f keyT
  rw [sNameOk_eq a k ha hka, Option.bind_some]
  by_cases h1 : nameB a = true
  · rw [if_pos h1, sNameOk_eq b k hb hkb, Option.bind_some]
    by_cases h2 : nameB b = true
    · have := nameB_size h1; have := nameB_size h2
      rw [if_pos h2, if_pos (by omega), if_pos (by omega), if_pos (by omega), if_pos ⟨h1, h2⟩]
    · rw [if_neg h2, if_neg (fun h => h2 h.2)]
  · rw [if_neg h1, if_neg (fun h => h1 h.1)]
end Go.Proofs.YtgkgkpoeiojmeaaDoor.V
/- Drawn names and keys; single letters; keys are told apart. -/
namespace Go.Proofs.YtgkgkpoeiojmeaaDoor.V
open Go.RowKit Go.Proofs.YtgkgkpoeiojmeaaDoor.P Go.Proofs.YtgkgkpoeiojmeaaDoorW.PrintWords Go.Proofs.YtgkgkpoeiojmeaaDoorW.PrintMore
theorem rdOf_mem {l : List ByteArray} {i : Int} (h0 : 0 ≤ i) (h1 : i < (l.length : Int)) : rdOf ByteArray.empty l i ∈ l := by
  unfold rdOf
  rw [List.getD_eq_getElem?_getD, List.getElem?_eq_getElem (by omega)]
  exact List.getElem_mem _
theorem drawThingKey_eq {l : List Int} (h : U8 l) {k : Nat} (hk : 0 < k) : ∃ a b, spec_DrawThingKey.f k l = some (a, b) ∧ a.size ≤ 10 ∧ b.size ≤ 10 := by
  obtain ⟨s, hs, hu, hl⟩ := open_eq h
  obtain ⟨v, hv, v0, v1⟩ := pick_eq (s := s) (q := 0) (n := 11) hu hl (by omega) (by omega) (by omega) hk
  obtain ⟨u, hu2, u0, u1⟩ := pick_eq (s := s) (q := 0 + 1) (n := 11) hu hl (by omega) (by omega) (by omega) hk
  have av : wrap64 (Int.tdiv (wrap64 (v * 5)) 11) = v * 5 / 11 := by
    rw [wrap_id (i := v * 5) (by omega) (by omega), Int.tdiv_eq_ediv_of_nonneg (by omega), wrap_id (by omega) (by omega)]
  have au : wrap64 (Int.tdiv (wrap64 (u * 5)) 11) = u * 5 / 11 := by
    rw [wrap_id (i := u * 5) (by omega) (by omega), Int.tdiv_eq_ediv_of_nonneg (by omega), wrap_id (by omega) (by omega)]
  unfold spec_DrawThingKey.f
  rw [hs, Option.bind_some, Option.bind_some, hv, Option.bind_some]
  simp only [av]
  rw [if_pos (by omega), if_pos (by simp; omega), Option.bind_some, hu2, Option.bind_some]
  simp only [au]
  rw [if_pos (by omega), if_pos (by simp; omega)]
  refine ⟨_, _, rfl, ?_, ?_⟩
  · have : ∀ y ∈ ([(⟨#[97]⟩ : ByteArray), (⟨#[97, 108, 108]⟩ : ByteArray), (⟨#[98]⟩ : ByteArray), (⟨#[]⟩ : ByteArray), (⟨#[65]⟩ : ByteArray)] : List ByteArray), y.size ≤ 10 := by
      intro y hy
      simp only [List.mem_cons, List.not_mem_nil, or_false] at hy
      rcases hy with rfl | rfl | rfl | rfl | rfl <;> decide
    exact this _ (rdOf_mem (by omega) (by simp; omega))
  · have : ∀ y ∈ ([(⟨#[120]⟩ : ByteArray), (⟨#[121]⟩ : ByteArray), (⟨#[97, 98]⟩ : ByteArray), (⟨#[]⟩ : ByteArray), (⟨#[116, 111, 111, 108, 111, 110, 103]⟩ : ByteArray)] : List ByteArray), y.size ≤ 10 := by
      intro y hy
      simp only [List.mem_cons, List.not_mem_nil, or_false] at hy
      rcases hy with rfl | rfl | rfl | rfl | rfl <;> decide
    exact this _ (rdOf_mem (by omega) (by simp; omega))
theorem let_dot : letB 46 = false := by decide
theorem cut_eq : ∀ {a c b d : List UInt8}, a.all letB = true → c.all letB = true → a ++ 46 :: b = c ++ 46 :: d → a = c ∧ b = d
  | [], [], _, _, _, _, h => ⟨rfl, by simpa using h⟩
  | [], y :: c, _, _, _, hc, h => by
    simp only [List.nil_append, List.cons_append, List.cons.injEq] at h
    rw [← h.1] at hc
    simp [let_dot] at hc
  | x :: a, [], _, _, ha, _, h => by
    simp only [List.nil_append, List.cons_append, List.cons.injEq] at h
    rw [h.1] at ha
    simp [let_dot] at ha
  | x :: a, y :: c, _, _, ha, hc, h => by
    simp only [List.cons_append, List.cons.injEq] at h
    simp only [List.all_cons, Bool.and_eq_true] at ha hc
    obtain ⟨rfl, hbd⟩ := cut_eq ha.2 hc.2 h.2
    exact ⟨by rw [h.1], hbd⟩
theorem keyT_nil (a b : ByteArray) : (keyT a b).toList = [] ↔ ¬ (nameB a = true ∧ nameB b = true) := by
  unfold keyT
  by_cases h : nameB a = true ∧ nameB b = true
  · rw [if_pos h, ByteArray.toList_eq]
    simp [h]
  · rw [if_neg h, ByteArray.toList_eq]
    simp [h]
theorem keyT_inj {a b c d : ByteArray} (h : (keyT a b).toList = (keyT c d).toList) (hn : (keyT a b).toList ≠ []) : a.toList = c.toList ∧ b.toList = d.toList := by
  have h1 : nameB a = true ∧ nameB b = true := Classical.byContradiction fun x => hn ((keyT_nil a b).2 x)
  have h2 : nameB c = true ∧ nameB d = true := Classical.byContradiction fun x => by rw [h] at hn; exact hn ((keyT_nil c d).2 x)
  unfold keyT at h
  rw [if_pos h1, if_pos h2] at h
  simp only [ByteArray.toList_eq, ByteArray.data_append, Array.toList_append, List.append_assoc] at h ⊢
  have h3 := List.append_cancel_left h
  have q1 := h1.1; have q2 := h2.1
  unfold nameB at q1 q2
  simp only [Bool.and_eq_true] at q1 q2
  exact cut_eq q1.2 q2.2 h3
end Go.Proofs.YtgkgkpoeiojmeaaDoor.V
/- The plain statement of FnThingKey. -/
namespace Go.Proofs.YtgkgkpoeiojmeaaDoor.Pure
open Go.RowKit Go.Proofs.YtgkgkpoeiojmeaaDoor.P Go.Proofs.YtgkgkpoeiojmeaaDoor.V Go.Proofs.YtgkgkpoeiojmeaaDoorW.PrintWords Go.Proofs.YtgkgkpoeiojmeaaDoorW.PrintMore
theorem thingKey_j0 (l m : List Int) (hl : U8 l) (hm : U8 m) (x : Bool) (k : Nat) (hk : 100 < k) : laws_FnThingKey.j0 k l m x = some true := by
  obtain ⟨k, rfl⟩ := succ_of hk
  rw [laws_FnThingKey.j0]
  by_cases hx : x = true
  · rw [if_pos hx]
  rw [if_neg hx]
  obtain ⟨a, b, e, ha, hb⟩ := drawThingKey_eq hl (k := k) (by omega)
  obtain ⟨c, d, e2, hc, hd⟩ := drawThingKey_eq hm (k := k) (by omega)
  rw [e, Option.bind_some, e2, Option.bind_some]
  simp only [ThingKey_eq, NameOk_eq, sThingKey_eq a b k (by omega) (by omega) (by omega) (by omega), Option.bind_some, if_true]
  have hn := keyT_nil a b
  have hfin : (if (keyT a b).toList = (keyT c d).toList then (if (keyT a b).toList = ([] : List UInt8) then (some true) else (if a.toList = c.toList then (some (b.toList == d.toList)) else (some false))) else (some true)) = some true := by
    by_cases h1 : (keyT a b).toList = (keyT c d).toList
    · rw [if_pos h1]
      by_cases h2 : (keyT a b).toList = []
      · rw [if_pos h2]
      · obtain ⟨q1, q2⟩ := keyT_inj h1 h2
        rw [if_neg h2, if_pos q1, q2]
        simp
    · rw [if_neg h1]
  by_cases h1 : nameB a = true
  · rw [if_pos h1, if_pos, hfin]
    by_cases h2 : nameB b = true
    · have : (keyT a b).toList ≠ [] := fun h => hn.1 h ⟨h1, h2⟩
      rw [beq_iff_eq, h2, Bool.eq_iff_iff, beq_iff_eq]
      simp [this]
    · rw [beq_iff_eq, Bool.eq_false_iff.2 h2, Bool.eq_iff_iff, beq_iff_eq, hn]
      simp [h2]
  · rw [if_neg h1, if_pos, hfin]
    rw [beq_iff_eq, Bool.eq_iff_iff, beq_iff_eq, hn]
    simp [h1]
theorem FnThingKey : laws_FnThingKey.Pure := by
  intro l m hl hm
  obtain ⟨K, hK⟩ : ∃ K, K = 1060000 := ⟨_, rfl⟩
  refine ⟨K + 1, ?_⟩
  unfold laws_FnThingKey.f
  by_cases hc : (l.length : Int) > 1048576
  · rw [if_pos hc, thingKey_j0 l m (U8_of hl.2) (U8_of hm.2) _ _ (by omega)]
  · rw [if_neg hc, thingKey_j0 l m (U8_of hl.2) (U8_of hm.2) _ _ (by omega)]
end Go.Proofs.YtgkgkpoeiojmeaaDoor.Pure
