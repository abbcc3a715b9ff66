/- The plain statement of the law FnExactModelWatch, proved. -/
import Derived.Test.YtclgmogfkoinbaaGreatDoorZFnExactModelWatchW0
import Derived.Test.YtclgmogfkoinbaaGreatDoorZFnExactModelWatch2
import Derived.Test.YtclgmogfkoinbaaGreatDoorZFnExactModelWatch0
import Derived.Test.YtclgmogfkoinbaaGreatDoorZFnExactModelWatch3
import Derived.Test.YtclgmogfkoinbaaGreatDoorZFnExactModelWatch5
import Derived.Test.YtclgmogfkoinbaaGreatDoorZFnExactModelWatch4
import Derived.Test.YtclgmogfkoinbaaGreatDoorZFnExactModelWatch6
import Derived.Test.YtclgmogfkoinbaaGreatDoorZFnExactModelWatch7
import Derived.Test.YtclgmogfkoinbaaGreatDoorZFnExactModelWatch1
import Derived.Test.YtclgmogfkoinbaaGreatDoorZFnExactModelWatch8
set_option linter.unusedVariables false
set_option linter.unusedSimpArgs false
/- Plain lemmas on lists, numbers and strings, for the laws' plain statements. -/
namespace Go.Proofs.YtclgmogfkoinbaaGreatDoor.V
open Go.RowKit Go.Proofs.YtclgmogfkoinbaaGreatDoorW.PrintWords Go.Proofs.YtclgmogfkoinbaaGreatDoorW.PrintMore
theorem succ_of {d k:Nat} (h:d < k):∃ m,k = m + 1:=⟨k - 1,by omega⟩
theorem wrap_id {i:Int} (h:-9223372036854775808 ≤ i) (h':i ≤ 9223372036854775807):wrap64 i = i:=by unfold wrap64;omega
theorem tl_iff (a b:ByteArray):a.toList = b.toList ↔ a = b:=by
 rw [ByteArray.toList_eq,ByteArray.toList_eq]
 constructor
 · intro h
   cases a;cases b
   simp at h
   simp [h]
 · rintro rfl;rfl
section
variable {α:Type} {pre suf:List α} {x y:α}
theorem mid_lt:((pre.length:Int) < ((pre ++ x :: suf).length:Int)):=by simp;omega
theorem end_not_lt:¬ ((pre.length:Int) < ((pre ++ ([]:List α)).length:Int)):=by simp
theorem rdOf_mid (d:α):rdOf d (pre ++ x :: suf) (pre.length:Int) = x:=by simp [rdOf]
theorem set_mid:(pre ++ x :: suf).set ((pre.length:Int)).toNat y = pre ++ y :: suf:=by simp
theorem wrap_snoc (h:pre.length < 9223372036854775807):wrap64 ((pre.length:Int) + 1) = ((pre ++ [x]).length:Int):=by
 rw [wrap_id (by omega) (by omega)];simp
theorem snoc_app:pre ++ x :: suf = (pre ++ [x]) ++ suf:=by simp
end
theorem nat_le0 (n:Nat):(0:Int) ≤ (n:Int):=Int.natCast_nonneg n
end Go.Proofs.YtclgmogfkoinbaaGreatDoor.V
/- The text of a mark. -/
namespace Go.Proofs.YtclgmogfkoinbaaGreatDoor.V
open Go.RowKit Go.Proofs.YtclgmogfkoinbaaGreatDoor.P Go.Proofs.YtclgmogfkoinbaaGreatDoorW.PrintWords Go.Proofs.YtclgmogfkoinbaaGreatDoorW.PrintMore
theorem strOfNums_one (n:Int):(strOfNums [n]).size = 1:=by simp [strOfNums,ByteArray.size]
theorem markText_l0:∀ (d k:Nat) (n:Int) (s:ByteArray),0 ≤ n → n ≤ 9223372036854775807 → n < 10 ^ d → d < k → s.size + d + 1 ≤ 9223372036854775807 →
 ∃ r:ByteArray,laws_markText.l0 k n s = some r:=by
 intro d
 induction d with
 |zero=>
  intro k n s h0 h9 h1 hk hs
  obtain ⟨k,rfl⟩:=succ_of hk
  exact ⟨(⟨#[109]⟩:ByteArray) ++ s,by rw [laws_markText.l0,if_neg (by simp at h1;omega),if_pos (by omega)]⟩
 |succ d ih=>
  intro k n s h0 h9 h1 hk hs
  obtain ⟨k,rfl⟩:=succ_of hk
  by_cases hn:n > 0
  · have hd:Int.tdiv n 10 = n / 10:=Int.tdiv_eq_ediv_of_nonneg h0
    have h2:wrap64 (Int.tdiv n 10) = n / 10:=by rw [hd,wrap_id (by omega) (by omega)]
    have hp:(10:Int) ^ (d + 1) = 10 ^ d * 10:=Int.pow_succ 10 d
    rw [hp] at h1
    obtain ⟨r,hr⟩:=ih k (n / 10) (strOfNums [(wrap64 (48 + (Int.tmod n 10))) % 256] ++ s) (by omega) (by omega) (by omega) (by omega) (by simp only [ByteArray.size_append,strOfNums_one];omega)
    exact ⟨r,by rw [laws_markText.l0,if_pos hn,Option.bind_some,if_pos (by rw [strOfNums_one];omega),h2];exact hr⟩
  · exact ⟨(⟨#[109]⟩:ByteArray) ++ s,by rw [laws_markText.l0,if_neg hn,if_pos (by omega)]⟩
def mt (n:Int):ByteArray:=(laws_markText.f 25 n).getD ⟨#[]⟩
theorem markText_eq {n:Int} (h9:n ≤ 9223372036854775807) {k:Nat} (hk:25 ≤ k):laws_markText.f k n = some (mt n):=by
 have h:∃ r,laws_markText.f 25 n = some r:=by
  unfold laws_markText.f
  by_cases hn:n ≤ 0
  · exact ⟨_,by rw [if_pos hn]⟩
  · rw [if_neg hn]
    exact markText_l0 20 25 n _ (by omega) h9 (by omega) (by omega) (by decide)
 obtain ⟨r,hr⟩:=h
 have:mt n = r:=by unfold mt;rw [hr];rfl
 rw [this]
 exact at_rounds (g:=fun k=>laws_markText.f k n) (fun k=>laws_markText.mono n k) hk hr
end Go.Proofs.YtclgmogfkoinbaaGreatDoor.V
/- What holds of all bytes of a string, counted from a place on; the order of strings. -/
namespace Go.Proofs.YtclgmogfkoinbaaGreatDoor.V
open Go.RowKit Go.Proofs.YtclgmogfkoinbaaGreatDoor.P Go.Proofs.YtclgmogfkoinbaaGreatDoorW.PrintWords Go.Proofs.YtclgmogfkoinbaaGreatDoorW.PrintMore
def bAll (P:Int → Bool) (s:ByteArray):Nat → Nat → Bool
 |0,_=>true
 |d + 1,i=>P (bt s i) && bAll P s d (i + 1)
theorem bt_nat (s:ByteArray) (j:Nat) (h:j < s.size):bt s (j:Nat) = ((s.data.toList[j]'(by simpa using h)).toNat:Int):=by
 unfold bt
 rw [dif_pos (by simpa using h)]
 rfl
theorem bl_irrefl:∀ a:List UInt8,Op.bytesLess a a = false
 |[]=>rfl
 |x :: a=>by simp [Op.bytesLess,bl_irrefl a]
theorem bl_trans:∀ {a b c:List UInt8},Op.bytesLess a b = true → Op.bytesLess b c = true → Op.bytesLess a c = true
 |[],_,[],_,h=>by cases ‹List UInt8› <;> simp [Op.bytesLess] at h
 |[],_,_ :: _,_,_=>rfl
 |_ :: _,[],_,h,_=>by simp [Op.bytesLess] at h
 |_ :: _,_ :: _,[],_,h=>by simp [Op.bytesLess] at h
 |x :: a,y :: b,z :: c,h1,h2=>by
  simp only [Op.bytesLess,Bool.or_eq_true,Bool.and_eq_true,decide_eq_true_eq,beq_iff_eq] at h1 h2 ⊢
  rcases h1 with h1|⟨rfl,h1⟩
  · rcases h2 with h2|⟨rfl,h2⟩
    · left;rw [UInt8.lt_iff_toNat_lt] at *;omega
    · exact .inl h1
  · rcases h2 with h2|⟨rfl,h2⟩
    · exact .inl h2
    · exact .inr ⟨rfl,bl_trans h1 h2⟩
theorem bl_total {a b:List UInt8} (h:Op.bytesLess a b = false) (h':a ≠ b):Op.bytesLess b a = true:=by
 rw [← Opens.bytesLess_not,h];simp [h']
end Go.Proofs.YtclgmogfkoinbaaGreatDoor.V
/- Names: what the program's test and the reference's tell. -/
namespace Go.Proofs.YtclgmogfkoinbaaGreatDoor.V
open Go.RowKit Go.Proofs.YtclgmogfkoinbaaGreatDoor.P Go.Proofs.YtclgmogfkoinbaaGreatDoorW.PrintWords Go.Proofs.YtclgmogfkoinbaaGreatDoorW.PrintMore
def letB (b:UInt8):Bool:=decide (97 ≤ b.toNat ∧ b.toNat ≤ 122)
def nameB (s:ByteArray):Bool:=decide (1 ≤ s.size) && decide (s.size ≤ 6) && s.data.toList.all letB
def abc:ByteArray:=(⟨#[97,98,99,100,101,102,103,104,105,106,107,108,109,110,111,112,113,114,115,116,117,118,119,120,121,122]⟩:ByteArray)
theorem abc_eq (b:UInt8):abc.data.toList.contains b = letB b:=by
 have h:∀ n:Fin 256,abc.data.toList.contains (UInt8.ofNat n.1) = letB (UInt8.ofNat n.1):=by decide +kernel
 have:=h ⟨b.toNat,b.toNat_lt⟩
 simpa using this
theorem drop_nil {P:UInt8 → Bool}:∀ l:List UInt8,l.dropWhile P = [] ↔ l.all P = true
 |[]=>by simp
 |x :: l=>by
  by_cases h:P x = true
  · simp [List.dropWhile,h,drop_nil l]
  · simp [List.dropWhile,h]
theorem take_all {P:UInt8 → Bool}:∀ l:List UInt8,(l.takeWhile P).all P = true
 |[]=>rfl
 |x :: l=>by
  by_cases h:P x = true
  · simp only [List.takeWhile,h,List.all_cons,take_all l,Bool.true_and]
  · simp only [List.takeWhile,h];rfl
theorem size_list (s:ByteArray):s.size = s.data.toList.length:=by rw [Array.length_toList];rfl
theorem trim_nil (l cs:List UInt8):Lib.trimS l cs = [] ↔ l.all (fun b=>cs.contains b) = true:=by
 unfold Lib.trimS Lib.trimLeftS Lib.trimRightS
 rw [drop_nil,List.all_reverse]
 constructor
 · intro h
   have e:=List.takeWhile_append_dropWhile (p:=fun b=>cs.contains b) (l:=l.reverse)
   have h2:l.reverse.all (fun b=>cs.contains b) = true:=by
    rw [← e,List.all_append,Bool.and_eq_true]
    exact ⟨take_all _,h⟩
   rwa [List.all_reverse] at h2
 · intro h
   have h2:l.reverse.all (fun b=>cs.contains b) = true:=by rwa [List.all_reverse]
   rw [(drop_nil l.reverse).2 h2]
   rfl
theorem isName_eq (s:ByteArray):impl_isName.f s = some (nameB s):=by
 unfold impl_isName.f nameB
 by_cases h1:1 ≤ s.size
 · rw [if_pos (by omega)]
   by_cases h2:s.size ≤ 6
   · rw [if_pos (by omega)]
     unfold strings_Trim.f
     rw [if_pos ⟨by omega,by decide +kernel,by decide +kernel⟩]
     simp only [Option.bind_some,Option.some.injEq]
     rw [decide_eq_true h1,decide_eq_true h2,Bool.true_and,Bool.true_and]
     have e:(⟨(Lib.trimS s.data.toList abc.data.toList).toArray⟩:ByteArray).toList = Lib.trimS s.data.toList abc.data.toList:=by rw [ByteArray.toList_eq]
     show ((⟨(Lib.trimS s.data.toList abc.data.toList).toArray⟩:ByteArray).toList == []) = _
     rw [e,Bool.eq_iff_iff,beq_iff_eq,trim_nil]
     simp only [abc_eq]
   · rw [if_neg (by omega),decide_eq_false h2];simp
 · rw [if_neg (by omega),decide_eq_false h1];simp
theorem sNameOk_l0:∀ (suf pre:List UInt8) (s:ByteArray) (k:Nat),s.data.toList = pre ++ suf → s.size ≤ 9223372036854775806 → suf.length < k →
 spec_NameOk.l0 k s (pre.length:Int) = some (suf.all letB && decide (1 ≤ s.size) && decide (s.size ≤ 6)):=by
 intro suf
 induction suf with
 |nil=>
  intro pre s k he hs hk
  obtain ⟨k,rfl⟩:=succ_of hk
  have hz:s.size = pre.length:=by rw [size_list,he];simp
  rw [spec_NameOk.l0,if_neg (by omega)]
  unfold spec_l1In.f
  by_cases h1:1 ≤ s.size
  · rw [if_pos (by omega),decide_eq_true h1]
    simp only [List.all_nil,Bool.true_and,Option.bind_some]
    congr 1
    rw [decide_eq_decide]
    omega
  · rw [if_neg (by omega),decide_eq_false h1];rfl
 |cons x suf ih=>
  intro pre s k he hs hk
  obtain ⟨k,rfl⟩:=succ_of hk
  have hz:s.size = pre.length + (suf.length + 1):=by rw [size_list,he];simp
  have hb:bt s (pre.length:Int) = (x.toNat:Int):=by
   rw [bt_nat s pre.length (by omega)]
   congr 2
   simp [he]
  have hn:=ih (pre ++ [x]) s k (by simp [he]) hs (by simpa using hk)
  rw [spec_NameOk.l0,if_pos (by omega),if_pos (by omega),hb,wrap_id (by omega) (by omega)]
  have e:((pre.length:Int) + 1) = ((pre ++ [x]).length:Int):=by simp
  rw [e,hn]
  by_cases h1:(x.toNat:Int) < 97
  · rw [if_pos h1]
    have:letB x = false:=by unfold letB;rw [decide_eq_false (by omega)]
    simp [this]
  · rw [if_neg h1]
    by_cases h2:(x.toNat:Int) > 122
    · rw [if_pos h2]
      have:letB x = false:=by unfold letB;rw [decide_eq_false (by omega)]
      simp [this]
    · rw [if_neg h2]
      have:letB x = true:=by unfold letB;rw [decide_eq_true (by omega)]
      simp [this]
theorem sNameOk_eq (s:ByteArray) (k:Nat) (hs:s.size ≤ 9223372036854775806) (hk:s.size < k):spec_NameOk.f k s = some (nameB s):=by
 unfold spec_NameOk.f
 have:=sNameOk_l0 s.data.toList [] s k rfl hs (by rw [← size_list];exact hk)
 rw [show ((([]:List UInt8).length:Nat):Int) = 0 from rfl] at this
 rw [this,nameB]
 congr 1
 ac_rfl
end Go.Proofs.YtclgmogfkoinbaaGreatDoor.V
/- Spaces, one in the other: chains from the inside out. -/
namespace Go.Proofs.YtclgmogfkoinbaaGreatDoor.V
open Go.RowKit Go.Proofs.YtclgmogfkoinbaaGreatDoor.P Go.Proofs.YtclgmogfkoinbaaGreatDoorW.PrintWords Go.Proofs.YtclgmogfkoinbaaGreatDoorW.PrintMore
theorem nodup_len {α:Type} [DecidableEq α]:∀ (a b:List α),a.Nodup → (∀ x ∈ a,x ∈ b) → a.length ≤ b.length
 |[],_,_,_=>Nat.zero_le _
 |x :: r,b,h,hs=>by
  have h1:=List.nodup_cons.1 h
  have h2:=nodup_len r (b.erase x) h1.2 (fun y hy=>(List.mem_erase_of_ne (fun e:y = x=>h1.1 (by rw [← e];exact hy))).2 (hs y (by simp [hy])))
  have h3:=List.length_erase_of_mem (hs x (by simp))
  have h4:0 < b.length:=List.length_pos_of_mem (hs x (by simp))
  rw [List.length_cons];omega
def fnd (l:List SiS28) (s:ByteArray):Option SiS28:=l.find? (fun x=>decide (x.f0 = s))
def up:Nat → List SiS28 → ByteArray → List SiS28
 |0,_,_=>[]
 |n + 1,l,s=>match fnd l s with
  |none=>[]
  |some x=>x :: up n l x.f1
section
variable {l:List SiS28} {s t:ByteArray} {x y z:SiS28} {n m:Nat}
theorem fnd_name (h:fnd l s = some x):x.f0 = s:=by simpa using List.find?_some h
theorem fnd_mem (h:fnd l s = some x):x ∈ l:=List.mem_of_find?_eq_some h
theorem fnd_self (h:fnd l s = some x):fnd l x.f0 = some x:=by rw [fnd_name h];exact h
theorem up_none (h:fnd l s = none):up (n + 1) l s = []:=by rw [up,h]
theorem up_some (h:fnd l s = some x):up (n + 1) l s = x :: up n l x.f1:=by rw [up,h]
theorem up_take:∀ (n m:Nat) (s:ByteArray),n ≤ m → up n l s = (up m l s).take n
 |0,m,s,_=>by simp [up]
 |n + 1,m,s,h=>by
  obtain ⟨m,rfl⟩:∃ q,m = q + 1:=⟨m - 1,by omega⟩
  cases hf:fnd l s with
  |none=>rw [up_none hf,up_none hf];rfl
  |some x=>rw [up_some hf,up_some hf,List.take_succ_cons,up_take n m x.f1 (by omega)]
theorem up_le:∀ (n:Nat) (s:ByteArray),(up n l s).length ≤ n
 |0,s=>by simp [up]
 |n + 1,s=>by
  cases hf:fnd l s with
  |none=>rw [up_none hf];simp
  |some x=>rw [up_some hf];have:=up_le n x.f1;simp;omega
theorem up_more:∀ (n:Nat) (s:ByteArray),(up n l s).length < n → up (n + 1) l s = up n l s
 |0,s,h=>by omega
 |n + 1,s,h=>by
  cases hf:fnd l s with
  |none=>rw [up_none hf,up_none hf]
  |some x=>
   rw [up_some hf] at h
   rw [up_some hf,up_some hf,up_more n x.f1 (by simpa using h)]
theorem up_far (h:(up n l s).length < n):∀ d,up (n + d) l s = up n l s
 |0=>rfl
 |d + 1=>by
  have ih:=up_far h d
  rw [← Nat.add_assoc,up_more (n + d) s (by rw [ih];omega),ih]
theorem up_ge (h:(up n l s).length < n) (hm:n ≤ m):up m l s = up n l s:=by
 obtain ⟨d,rfl⟩:=Nat.le.dest hm
 exact up_far h d
theorem up_mem:∀ (n:Nat) (s:ByteArray),∀ y ∈ up n l s,fnd l y.f0 = some y
 |0,_,_,hy=>by simp [up] at hy
 |n + 1,s,y,hy=>by
  cases hf:fnd l s with
  |none=>rw [up_none hf] at hy;cases hy
  |some x=>
   rw [up_some hf] at hy
   rcases List.mem_cons.1 hy with rfl|hy
   · exact fnd_self hf
   · exact up_mem n x.f1 y hy
def En (l:List SiS28) (s:ByteArray):Prop:=(up 9 l s).length < 9
theorem en_next (h:En l s) (hf:fnd l s = some x):En l x.f1 ∧ up 9 l s = x :: up 9 l x.f1:=by
 have h1:up 9 l s = x :: up 8 l x.f1:=up_some hf
 unfold En at *
 rw [h1] at h
 have h2:(up 8 l x.f1).length < 8:=by simp at h;omega
 have h3:=up_more 8 x.f1 h2
 rw [h1,h3]
 exact ⟨by omega,rfl⟩
theorem en_none (h:fnd l s = none):En l s:=by unfold En;rw [up_none h];decide
theorem up_suffix:∀ (n:Nat) (s:ByteArray),En l s → (up 9 l s).length ≤ n → ∀ y ∈ up 9 l s,En l y.f0 ∧ ∃ pre,up 9 l s = pre ++ up 9 l y.f0
 |0,s,_,hn,y,hy=>by
  have:up 9 l s = []:=List.eq_nil_of_length_eq_zero (by omega)
  rw [this] at hy;cases hy
 |n + 1,s,he,hn,y,hy=>by
  cases hf:fnd l s with
  |none=>rw [up_none hf] at hy;cases hy
  |some x=>
   obtain ⟨h1,h2⟩:=en_next he hf
   rw [h2] at hy hn
   rcases List.mem_cons.1 hy with rfl|hy
   · rw [fnd_name hf];exact ⟨he,[],rfl⟩
   · obtain ⟨h3,pre,h4⟩:=up_suffix n x.f1 h1 (by simpa using hn) y hy
     exact ⟨h3,x :: pre,by rw [h2,h4];rfl⟩
theorem up_nodup:∀ (n:Nat) (s:ByteArray),En l s → (up 9 l s).length ≤ n → ((up 9 l s).map (·.f0)).Nodup
 |0,s,_,hn=>by
  have:up 9 l s = []:=List.eq_nil_of_length_eq_zero (by omega)
  rw [this];exact List.nodup_nil
 |n + 1,s,he,hn=>by
  cases hf:fnd l s with
  |none=>rw [up_none hf];exact List.nodup_nil
  |some x=>
   obtain ⟨h1,h2⟩:=en_next he hf
   rw [h2] at hn ⊢
   rw [List.map_cons,List.nodup_cons]
   refine ⟨fun hm=>?_,up_nodup n x.f1 h1 (by simpa using hn)⟩
   obtain ⟨y,hy,e⟩:=List.mem_map.1 hm
   obtain ⟨-,pre,h4⟩:=up_suffix _ x.f1 h1 (Nat.le_refl _) y hy
   rw [e,fnd_name hf,h2] at h4
   have:=congrArg List.length h4
   simp at this
   omega
theorem up_short (he:En l s):(up 9 l s).length ≤ l.length:=by
 have h:=nodup_len ((up 9 l s).map (·.f0)) (l.map (·.f0)) (up_nodup _ s he (Nat.le_refl _)) (fun n hn=>by
  obtain ⟨y,hy,rfl⟩:=List.mem_map.1 hn
  exact List.mem_map.2 ⟨y,fnd_mem (up_mem 9 s y hy),rfl⟩)
 simpa using h
theorem en_of (h:(up n l s).length < n) (hn:n ≤ 9):En l s:=by
 unfold En
 rw [up_ge h hn]
 omega
def step (l:List SiS28) (x:SiS28):SiS28:=(fnd l x.f1).getD x
def its (l:List SiS28):Nat → SiS28 → SiS28
 |0,x=>x
 |n + 1,x=>its l n (step l x)
theorem its_fix (h:fnd l x.f1 = none):∀ n,its l n x = x
 |0=>rfl
 |n + 1=>by
  have:step l x = x:=by unfold step;rw [h];rfl
  rw [its,this,its_fix h n]
theorem its_last:∀ (n:Nat) (x:SiS28),fnd l x.f0 = some x → (up (n + 1) l x.f0).getLast? = some (its l n x)
 |0,x,h=>by rw [up_some h];rfl
 |n + 1,x,h=>by
  rw [up_some h]
  cases hf:fnd l x.f1 with
  |none=>rw [up_none hf,its_fix hf];rfl
  |some y=>
   have h1:step l x = y:=by unfold step;rw [hf];rfl
   have ih:=its_last n y (fnd_self hf)
   rw [fnd_name hf] at ih
   rw [its,h1,List.getLast?_cons,ih];rfl
theorem up_stop:∀ (n:Nat) (s:ByteArray) (z:SiS28),(up (n + 1) l s).getLast? = some z → fnd l z.f1 = none → up (n + 2) l s = up (n + 1) l s
 |0,s,z,h,hz=>by
  cases hf:fnd l s with
  |none=>rw [up_none hf,up_none hf]
  |some x=>
   rw [up_some hf] at h
   have:x = z:=by simpa [up] using h
   subst this
   rw [up_some hf,up_some hf,up_none hz];rfl
 |n + 1,s,z,h,hz=>by
  cases hf:fnd l s with
  |none=>rw [up_none hf,up_none hf]
  |some x=>
   rw [up_some hf] at h
   cases hg:fnd l x.f1 with
   |none=>rw [up_some hf,up_some hf,up_none hg,up_none hg]
   |some y=>
    have h2:(up (n + 1) l x.f1).getLast? = some z:=by
     rw [up_some hg] at h ⊢
     simpa using h
    rw [up_some hf,up_some hf,up_stop n x.f1 z h2 hz]
theorem at_last (hx:fnd l x.f0 = some x) (hl:l.length ≤ 7) {nm:ByteArray} (htop:∀ z ∈ l,z.f0 = nm → fnd l z.f1 = none) :
 ((up 8 l x.f0).length ≤ l.length ∧ ∃ z,(up 8 l x.f0).getLast? = some z ∧ z.f0 = nm) ↔ (its l l.length x).f0 = nm:=by
 have hlast:=its_last (l:=l) l.length x hx
 constructor
 · rintro ⟨h1,z,h2,h3⟩
   rw [up_take (l.length + 1) 8 _ (by omega),List.take_of_length_le (by omega),h2] at hlast
   rw [← Option.some.inj hlast];exact h3
 · intro h
   have hm:its l l.length x ∈ l:=fnd_mem (up_mem _ _ _ (List.mem_of_getLast? hlast))
   have hstop:=up_stop l.length x.f0 _ hlast (htop _ hm h)
   have h4:∀ d,up (l.length + 1 + d) l x.f0 = up (l.length + 1) l x.f0:=by
    intro d
    by_cases hlt:(up (l.length + 1) l x.f0).length < l.length + 1
    · exact up_far hlt d
    · have h5:(up (l.length + 2) l x.f0).length < l.length + 2:=by rw [hstop];have:=up_le (l:=l) (l.length + 1) x.f0;omega
      cases d with
      |zero=>rfl
      |succ d=>rw [show l.length + 1 + (d + 1) = l.length + 2 + d by omega,up_far h5 d,hstop]
   have h8:up 8 l x.f0 = up (l.length + 1) l x.f0:=by
    have:=h4 (7 - l.length)
    rwa [show l.length + 1 + (7 - l.length) = 8 by omega] at this
   have h9:up 9 l x.f0 = up (l.length + 1) l x.f0:=by
    have:=h4 (8 - l.length)
    rwa [show l.length + 1 + (8 - l.length) = 9 by omega] at this
   have hen:En l x.f0:=by unfold En;rw [h9];have:=up_le (l:=l) (l.length + 1) x.f0;omega
   have hs:=up_short hen
   rw [h9] at hs
   rw [h8]
   exact ⟨hs,_,hlast,h⟩
end
end Go.Proofs.YtclgmogfkoinbaaGreatDoor.V
/- Spaces: what the program and the reference tell, in the words of chains. -/
namespace Go.Proofs.YtclgmogfkoinbaaGreatDoor.V
open Go.RowKit Go.Proofs.YtclgmogfkoinbaaGreatDoor.P Go.Proofs.YtclgmogfkoinbaaGreatDoorW.PrintWords Go.Proofs.YtclgmogfkoinbaaGreatDoorW.PrintMore
theorem rdS_mid {pre suf:List SiS28} {x:SiS28}:riS37 (pre ++ x :: suf) (pre.length:Int) = x:=by simp [riS37]
theorem l1In_eqS (a b c:Int):spec_l1In.f a b c = some (decide (b ≤ a ∧ a ≤ c)):=by
 unfold spec_l1In.f
 by_cases h:a ≥ b
 · rw [if_pos h];simp [show b ≤ a from h]
 · rw [if_neg h];simp [show ¬ b ≤ a from h]
def ix (l:List SiS28) (s:ByteArray):Int:=fsp.idx (fsp.p s) l 0
theorem p_iff (s:ByteArray) (x:SiS28):fsp.p s x = true ↔ x.f0 = s:=by unfold fsp.p;rw [beq_iff_eq,tl_iff]
theorem idx_spec (s:ByteArray):∀ (suf pre:List SiS28),(fnd suf s = none ∧ fsp.idx (fsp.p s) suf (pre.length:Int) = -1) ∨ (∃ x,fnd suf s = some x ∧ (pre.length:Int) ≤ fsp.idx (fsp.p s) suf (pre.length:Int) ∧ fsp.idx (fsp.p s) suf (pre.length:Int) < ((pre ++ suf).length:Int) ∧ riS37 (pre ++ suf) (fsp.idx (fsp.p s) suf (pre.length:Int)) = x)
 |[],pre=>Or.inl ⟨rfl,rfl⟩
 |x :: suf,pre=>by
  by_cases h:x.f0 = s
  · right
    have h1:fsp.idx (fsp.p s) (x :: suf) (pre.length:Int) = (pre.length:Int):=by rw [fsp.idx,if_pos ((p_iff s x).2 h)]
    refine ⟨x,by unfold fnd;rw [List.find?_cons_of_pos (by simpa using h)],?_⟩
    rw [h1]
    exact ⟨Int.le_refl _,mid_lt,rdS_mid⟩
  · have h1:fsp.idx (fsp.p s) (x :: suf) (pre.length:Int) = fsp.idx (fsp.p s) suf ((pre ++ [x]).length:Int):=by
     rw [fsp.idx,if_neg (fun e=>h ((p_iff s x).1 e))];simp
    have h2:fnd (x :: suf) s = fnd suf s:=by unfold fnd;rw [List.find?_cons_of_neg (by simpa using h)]
    rw [h1,h2]
    rcases idx_spec s suf (pre ++ [x]) with ⟨a,b⟩|⟨y,a,b,c,d⟩
    · exact Or.inl ⟨a,b⟩
    · right
      have e:(pre ++ [x]) ++ suf = pre ++ x :: suf:=by simp
      rw [e] at c d
      exact ⟨y,a,by simp at b ⊢;omega,c,d⟩
section
variable {l:List SiS28} {s:ByteArray} {x:SiS28}
theorem ix_none (h:fnd l s = none):ix l s = -1:=by
 rcases idx_spec s l [] with ⟨-,b⟩|⟨y,a,-⟩
 · exact b
 · rw [h] at a;cases a
theorem ix_some (h:fnd l s = some x):0 ≤ ix l s ∧ ix l s < (l.length:Int) ∧ riS37 l (ix l s) = x:=by
 rcases idx_spec s l [] with ⟨a,-⟩|⟨y,a,b,c,d⟩
 · rw [h] at a;cases a
 · rw [h] at a
   obtain rfl:=Option.some.inj a
   unfold ix
   exact ⟨by simpa using b,by simpa using c,by simpa using d⟩
end
theorem findSpace_eq (l:List SiS28) (s:ByteArray):impl_findSpace.f l s = some (ix l s):=by
 unfold impl_findSpace.f impl_Space.f ix;rfl
theorem l8At_l0 (s:ByteArray):∀ (suf pre:List SiS28) (k:Nat),suf.length < k → (pre ++ suf).length ≤ 4611686018427387904 → spec_l8At.l0 k (pre ++ suf) s (pre.length:Int) = some (fsp.idx (fsp.p s) suf (pre.length:Int)):=by
 intro suf
 induction suf with
 |nil=>
  intro pre k hk hb
  obtain ⟨k,rfl⟩:=succ_of hk
  rw [spec_l8At.l0,if_neg end_not_lt];rfl
 |cons x suf ih=>
  intro pre k hk hb
  obtain ⟨k,rfl⟩:=succ_of hk
  rw [spec_l8At.l0,if_pos mid_lt,if_pos (nat_le0 _),rdS_mid,fsp.idx]
  by_cases h:x.f0 = s
  · rw [if_pos ((tl_iff _ _).2 h),if_pos ((p_iff s x).2 h)]
  · rw [if_neg (fun e=>h ((tl_iff _ _).1 e)),if_neg (fun e=>h ((p_iff s x).1 e)),wrap_snoc (x:=x) (by simp at hb;omega),snoc_app,ih (pre ++ [x]) k (by simpa using hk) (by simpa using hb)]
    simp
theorem l8At_eq (l:List SiS28) (s:ByteArray) (k:Nat) (hk:l.length < k) (hb:l.length ≤ 4611686018427387904):spec_l8At.f k l s = some (ix l s):=l8At_l0 s l [] k hk hb
def nms (c:List SiS28):List ByteArray:=c.map (·.f0)
theorem l8Up_l0 (l:List SiS28) (hb:l.length ≤ 4611686018427387904):∀ (n:Nat) (s:ByteArray) (out:List ByteArray) (k:Nat),out.length + n = 8 → n + l.length + 1 < k → spec_l8Up.l0 k l out (ix l s) = some (out ++ nms (up n l s)):=by
 intro n
 induction n with
 |zero=>
  intro s out k ho hk
  obtain ⟨k,rfl⟩:=succ_of hk
  rw [spec_l8Up.l0]
  by_cases h:ix l s ≥ 0
  · rw [if_pos h,if_neg (by omega)];simp [up,nms]
  · rw [if_neg h];simp [up,nms]
 |succ n ih=>
  intro s out k ho hk
  obtain ⟨k,rfl⟩:=succ_of hk
  rw [spec_l8Up.l0]
  cases hf:fnd l s with
  |none=>rw [ix_none hf,if_neg (by decide),up_none hf];simp [nms]
  |some x=>
   obtain ⟨h1,h2,h3⟩:=ix_some hf
   rw [if_pos h1,if_pos (by omega),if_pos h1,if_pos h2,if_pos (by omega),h3,l8At_eq l _ k (by omega) hb,Option.bind_some,ih x.f1 (out ++ [x.f0]) k (by simp;omega) (by omega),up_some hf]
   simp [nms]
theorem l8Up_eq (l:List SiS28) (s:ByteArray) (k:Nat) (hk:l.length + 9 < k) (hb:l.length ≤ 4611686018427387904):spec_l8Up.f k l s = some (nms (up 8 l s)):=by
 unfold spec_l8Up.f
 rw [l8At_eq l s k (by omega) hb,Option.bind_some,l8Up_l0 l hb 8 s [] k rfl (by omega)]
 rfl
theorem spaceUp_l0 (l:List SiS28):∀ (n:Nat) (s:ByteArray) (out:List ByteArray) (k:Nat),(up n l s).length < n → n < k → out.length + n ≤ 1000000 → impl_spaceUp.l0 k l out (ix l s) = some (out ++ nms (up n l s)):=by
 intro n
 induction n with
 |zero=>intro s out k h;omega
 |succ n ih=>
  intro s out k hl hk ho
  obtain ⟨k,rfl⟩:=succ_of hk
  rw [impl_spaceUp.l0]
  cases hf:fnd l s with
  |none=>rw [ix_none hf,if_neg (by decide),up_none hf];simp [nms]
  |some x=>
   rw [up_some hf] at hl
   obtain ⟨h1,h2,h3⟩:=ix_some hf
   rw [if_pos h1,if_pos h1,if_pos h2,if_pos (by omega),h3,findSpace_eq,Option.bind_some,ih x.f1 (out ++ [x.f0]) k (by simpa using hl) (by omega) (by simp;omega),up_some hf]
   simp [nms]
theorem spaceUp_eq (l:List SiS28) (s:ByteArray) (k:Nat) (hk:9 < k) (he:En l s):impl_spaceUp.f k l s = some (nms (up 9 l s)):=by
 unfold impl_spaceUp.f
 rw [findSpace_eq,Option.bind_some,spaceUp_l0 l 9 s [] k he hk (by decide)]
 rfl
def allN:ByteArray:=⟨#[97,108,108]⟩
theorem all_iff (s:ByteArray):s.toList = ([97,108,108]:List UInt8) ↔ s = allN:=by
 rw [← tl_iff s allN,ByteArray.toList_eq allN];rfl
theorem nil_iff (s:ByteArray):s.toList = ([]:List UInt8) ↔ s = ⟨#[]⟩:=by
 rw [← tl_iff s ⟨#[]⟩,ByteArray.toList_eq ⟨#[]⟩]
theorem nameB_nil:nameB ⟨#[]⟩ = false:=by decide
def spOk (x:SiS28):Bool:=nameB x.f0 && decide (-1 ≤ x.f2 ∧ x.f2 ≤ 99999) && decide (0 ≤ x.f4 ∧ x.f4 ≤ 99999) && (if x.f0 = allN then decide (x.f1 = ⟨#[]⟩) && !x.f3 else nameB x.f1)
theorem isSpace_eq (x:SiS28) (k:Nat) (hk:0 < k):impl_isSpace.f k x.f0 x.f1 x.f2 x.f3 x.f4 = some (spOk x):=by
 obtain ⟨k,rfl⟩:=succ_of hk
 have hj:∀ b,impl_isSpace.j0 (k + 1) b x.f0 x.f1 x.f2 x.f3 x.f4 = some (!b && (if x.f0 = allN then decide (x.f1 = ⟨#[]⟩) && !x.f3 else nameB x.f1)):=by
  intro b
  rw [impl_isSpace.j0]
  cases b
  · rw [if_neg (by simp)]
    by_cases h:x.f0 = allN
    · rw [if_pos ((all_iff _).2 h),if_pos h]
      by_cases h2:x.f1 = ⟨#[]⟩
      · rw [if_pos ((nil_iff _).2 h2),decide_eq_true h2];simp
      · rw [if_neg (fun e=>h2 ((nil_iff _).1 e)),decide_eq_false h2];simp
    · rw [if_neg (fun e=>h ((all_iff _).1 e)),if_neg h,isName_eq];simp
  · rw [if_pos rfl];simp
 unfold impl_isSpace.f spOk
 rw [isName_eq,Option.bind_some]
 simp only [hj]
 generalize (if x.f0 = allN then decide (x.f1 = ⟨#[]⟩) && !x.f3 else nameB x.f1) = z
 cases nameB x.f0
 · simp
 · rw [if_pos rfl]
   by_cases h1:x.f2 < -1
   · rw [if_pos h1,decide_eq_false (by omega)];simp
   · rw [if_neg h1]
     by_cases h2:x.f2 > 99999
     · rw [if_pos h2,decide_eq_false (by omega)];simp
     · rw [if_neg h2,decide_eq_true (show -1 ≤ x.f2 ∧ x.f2 ≤ 99999 by omega)]
       by_cases h3:x.f4 < 0
       · rw [if_pos h3,decide_eq_false (by omega)];simp
       · rw [if_neg h3]
         by_cases h4:x.f4 > 99999
         · rw [decide_eq_true h4,decide_eq_false (by omega)];simp
         · rw [decide_eq_false h4,decide_eq_true (show 0 ≤ x.f4 ∧ x.f4 ≤ 99999 by omega)];simp
theorem l8Ok_eq (x:SiS28) (k:Nat) (h0:x.f0.size < k) (h1:x.f1.size < k) (hb0:x.f0.size ≤ 9223372036854775806) (hb1:x.f1.size ≤ 9223372036854775806):spec_l8Ok.f k x.f0 x.f1 x.f2 x.f3 x.f4 = some (spOk x):=by
 unfold spec_l8Ok.f spOk
 rw [sNameOk_eq _ k hb0 h0,Option.bind_some]
 cases hn:nameB x.f0
 · simp
 · rw [if_pos rfl]
   simp only [l1In_eqS,Option.bind_some,nil_iff]
   have ha:(x.f0.toList == ([97,108,108]:List UInt8)) = decide (x.f0 = allN):=by
    rw [Bool.eq_iff_iff,beq_iff_eq,all_iff,decide_eq_true_iff]
   have hz:(x.f1.toList == ([]:List UInt8)) = decide (x.f1 = ⟨#[]⟩):=by
    rw [Bool.eq_iff_iff,beq_iff_eq,nil_iff,decide_eq_true_iff]
   rw [ha,hz]
   by_cases h2:x.f1 = ⟨#[]⟩
   · rw [if_pos h2,decide_eq_true h2]
     by_cases h3:x.f0 = allN
     · rw [decide_eq_true h3,if_pos (by decide),if_pos h3]
       by_cases h4:-1 ≤ x.f2 ∧ x.f2 ≤ 99999
       · rw [decide_eq_true h4,if_pos rfl]
         by_cases h5:0 ≤ x.f4 ∧ x.f4 ≤ 99999
         · rw [decide_eq_true h5,if_pos rfl];simp
         · rw [decide_eq_false h5];simp
       · rw [decide_eq_false h4];simp
     · rw [decide_eq_false h3,if_neg (by decide),if_neg h3,h2,nameB_nil];simp
   · rw [if_neg h2,decide_eq_false h2,sNameOk_eq _ k hb1 h1,Option.bind_some]
     by_cases h3:x.f0 = allN
     · rw [decide_eq_true h3,if_pos h3]
       cases nameB x.f1 <;> simp
     · rw [decide_eq_false h3,if_neg h3]
       cases hm:nameB x.f1
       · simp
       · rw [if_pos rfl,if_pos (by decide)]
         by_cases h4:-1 ≤ x.f2 ∧ x.f2 ≤ 99999
         · rw [decide_eq_true h4,if_pos rfl]
           by_cases h5:0 ≤ x.f4 ∧ x.f4 ≤ 99999
           · rw [decide_eq_true h5,if_pos rfl];simp
           · rw [decide_eq_false h5];simp
         · rw [decide_eq_false h4];simp
end Go.Proofs.YtclgmogfkoinbaaGreatDoor.V
/- When spaces are ok: the program's test and the reference's are one. -/
namespace Go.Proofs.YtclgmogfkoinbaaGreatDoor.V
open Go.RowKit Go.Proofs.YtclgmogfkoinbaaGreatDoor.P Go.Proofs.YtclgmogfkoinbaaGreatDoorW.PrintWords Go.Proofs.YtclgmogfkoinbaaGreatDoorW.PrintMore
def spGo:Option SiS28 → List SiS28 → Bool
 |_,[]=>true
 |none,x :: l=>spOk x && spGo (some x) l
 |some p,x :: l=>spOk x && Op.bytesLess p.f0.toList x.f0.toList && spGo (some x) l
theorem lastS_rd {pre suf:List SiS28} {y:SiS28}:riS37 ((pre ++ [y]) ++ suf) (((pre ++ [y]).length:Int) - 1) = y:=by
 have:(((pre ++ [y]).length:Int) - 1) = (pre.length:Int):=by simp
 rw [this,List.append_assoc]
 exact rdS_mid
theorem spGo_all:∀ (l:List SiS28) (p:Option SiS28),spGo p l = true → (∀ x ∈ l,spOk x = true) ∧ l.Pairwise (fun x y=>Op.bytesLess x.f0.toList y.f0.toList = true) ∧ (∀ q,p = some q → ∀ x ∈ l,Op.bytesLess q.f0.toList x.f0.toList = true)
 |[],p,_=>⟨fun x h=>by (cases h),List.Pairwise.nil,fun q _ x h=>by (cases h)⟩
 |x :: l,none,h=>by
  simp only [spGo,Bool.and_eq_true] at h
  obtain ⟨h1,h2,h3⟩:=spGo_all l (some x) h.2
  refine ⟨fun y hy=>?_,List.Pairwise.cons (h3 x rfl) h2,fun q e=>by cases e⟩
  rcases List.mem_cons.1 hy with rfl|hy
  · exact h.1
  · exact h1 y hy
 |x :: l,some p,h=>by
  simp only [spGo,Bool.and_eq_true] at h
  obtain ⟨h1,h2,h3⟩:=spGo_all l (some x) h.2
  refine ⟨fun y hy=>?_,List.Pairwise.cons (h3 x rfl) h2,fun q e y hy=>?_⟩
  · rcases List.mem_cons.1 hy with rfl|hy
    · exact h.1.1
    · exact h1 y hy
  · obtain rfl:=Option.some.inj e
    rcases List.mem_cons.1 hy with rfl|hy
    · exact h.1.2
    · exact bl_trans h.1.2 (h3 x rfl y hy)
theorem fnd_of_mem {l:List SiS28} (hp:l.Pairwise (fun x y=>Op.bytesLess x.f0.toList y.f0.toList = true)) {x:SiS28} (hx:x ∈ l):fnd l x.f0 = some x:=by
 induction l with
 |nil=>cases hx
 |cons y l ih=>
  rw [List.pairwise_cons] at hp
  unfold fnd
  rcases List.mem_cons.1 hx with rfl|hx
  · rw [List.find?_cons_of_pos (by simp)]
  · have:y.f0 ≠ x.f0:=fun e=>by
     have:=hp.1 x hx
     rw [e,bl_irrefl] at this
     cases this
    rw [List.find?_cons_of_neg (by simpa using this)]
    exact ih hp.2 hx
theorem fnd_nil {l:List SiS28} (h:∀ x ∈ l,spOk x = true):fnd l ⟨#[]⟩ = none:=by
 unfold fnd
 rw [List.find?_eq_none]
 intro x hx hn
 have h1:=h x hx
 unfold spOk at h1
 rw [show x.f0 = ⟨#[]⟩ by simpa using hn,nameB_nil] at h1
 simp at h1
def inAll (l:List SiS28) (x:SiS28):Bool:=decide ((its l l.length x).f0 = allN)
def areS (l:List SiS28):Bool:=decide (1 ≤ l.length ∧ l.length ≤ 7) && spGo none l && l.all (inAll l)
theorem areSpaces_l12 (l:List SiS28) (hl:l.length ≤ 7):∀ (suf pre:List SiS28) (k:Nat),pre ++ suf = l → 20 * (suf.length + 1) < k →
 impl_areSpaces.l1 k l l (l.length:Int) (pre.length:Int) = some (suf.all (inAll l)):=by
 intro suf
 induction suf with
 |nil=>
  intro pre k he hk
  obtain ⟨k,rfl⟩:=succ_of hk
  rw [impl_areSpaces.l1,if_neg (by rw [← he];simp)];rfl
 |cons x suf ih=>
  intro pre k he hk
  obtain ⟨k,rfl⟩:=succ_of hk
  have hpl:pre.length < l.length:=by rw [← he];simp
  have hrd:riS37 l (pre.length:Int) = x:=by rw [← he];exact rdS_mid
  rw [impl_areSpaces.l1,if_pos (by omega),if_pos (by omega),if_pos (by omega),hrd]
  -- the inner steps
  have inner:∀ (d i:Nat) (y:SiS28) (k:Nat),i + d = l.length → 20 * (suf.length + 1) + d + 1 < k → impl_areSpaces.l2 k l l (l.length:Int) (pre.length:Int) (l.length:Int) (i:Int) y.f0 y.f1 y.f2 y.f3 y.f4 = some (decide ((its l d y).f0 = allN) && suf.all (inAll l)):=by
   intro d
   induction d with
   |zero=>
    intro i y k hi hk
    obtain ⟨k,rfl⟩:=succ_of hk
    rw [impl_areSpaces.l2,if_neg (by omega)]
    show _ = some (decide (y.f0 = allN) && suf.all (inAll l))
    by_cases h:y.f0 = allN
    · rw [if_pos ((all_iff _).2 h),decide_eq_true h,wrap_id (by omega) (by omega)]
      have e:(pre.length:Int) + 1 = ((pre ++ [x]).length:Int):=by simp
      rw [e,ih (pre ++ [x]) k (by simp [← he]) (by omega)];simp
    · rw [if_neg (fun e=>h ((all_iff _).1 e)),decide_eq_false h];simp
   |succ d ihd=>
    intro i y k hi hk
    obtain ⟨k,rfl⟩:=succ_of hk
    have e:wrap64 ((i:Int) + 1) = ((i + 1:Nat):Int):=by rw [wrap_id (by omega) (by omega)];rfl
    rw [impl_areSpaces.l2,if_pos (by omega),findSpace_eq,Option.bind_some,e]
    cases hf:fnd l y.f1 with
    |none=>
     rw [ix_none hf,if_neg (by decide),ihd (i + 1) y k (by omega) (by omega)]
     have:step l y = y:=by unfold step;rw [hf];rfl
     rw [its,this]
    |some z=>
     obtain ⟨h1,h2,h3⟩:=ix_some hf
     rw [if_pos h1,if_pos h1,if_pos h2,h3,ihd (i + 1) z k (by omega) (by omega)]
     have:step l y = z:=by unfold step;rw [hf];rfl
     rw [its,this]
  have h0:=inner l.length 0 x k (by omega) (by simp at hk ⊢;omega)
  rw [show ((0:Nat):Int) = 0 from rfl] at h0
  rw [h0]
  rfl
theorem areSpaces_l0 (l:List SiS28) (hl:l.length ≤ 7):∀ (suf pre:List SiS28) (k:Nat),pre ++ suf = l → 300 + suf.length < k →
 impl_areSpaces.l0 k l l (l.length:Int) (pre.length:Int) = some (spGo pre.getLast? suf && l.all (inAll l)):=by
 intro suf
 induction suf with
 |nil=>
  intro pre k he hk
  obtain ⟨k,rfl⟩:=succ_of hk
  have h0:=areSpaces_l12 l hl l [] k rfl (by omega)
  rw [show ((([]:List SiS28).length:Nat):Int) = 0 from rfl] at h0
  rw [impl_areSpaces.l0,if_neg (by rw [← he];simp),h0]
  have:spGo pre.getLast? [] = true:=by cases pre.getLast? <;> rfl
  rw [this,Bool.true_and]
 |cons x suf ih=>
  intro pre k he hk
  obtain ⟨k,rfl⟩:=succ_of hk
  have hpl:pre.length < l.length:=by rw [← he];simp
  have hrd:riS37 l (pre.length:Int) = x:=by rw [← he];exact rdS_mid
  have hn:=ih (pre ++ [x]) k (by simp [← he]) (by simp at hk;omega)
  rw [List.getLast?_concat] at hn
  have e:wrap64 ((pre.length:Int) + 1) = ((pre ++ [x]).length:Int):=by rw [wrap_id (by omega) (by omega)];simp
  rw [impl_areSpaces.l0,if_pos (by omega),if_pos (by omega),if_pos (by omega),hrd,isSpace_eq x k (by omega),Option.bind_some,e,hn]
  rcases List.eq_nil_or_concat pre with rfl|⟨pre',y,rfl⟩
  · cases h:spOk x
    · simp [spGo,h]
    · rw [if_pos rfl,if_neg (by simp)]
      simp [spGo,h]
  · rw [List.concat_eq_append] at *
    have hrl:riS37 l (((pre' ++ [y]).length:Int) - 1) = y:=by rw [← he];exact lastS_rd
    cases h:spOk x
    · rw [if_neg (by simp),List.getLast?_concat];simp [spGo,h]
    · have hp:0 < (pre' ++ [y]).length:=by simp
      rw [if_pos rfl,if_pos (by omega),wrap_id (i:=((pre' ++ [y]).length:Int) - 1) (by omega) (by omega),if_pos (by omega),if_pos (by omega),hrl,List.getLast?_concat]
      cases h2:Op.bytesLess y.f0.toList x.f0.toList
      · rw [if_neg (by simp)];simp [spGo,h,h2]
      · rw [if_pos rfl];simp [spGo,h,h2]
theorem areSpaces_eq (l:List SiS28) (k:Nat) (hk:400 < k):impl_areSpaces.f k l = some (areS l):=by
 obtain ⟨k,rfl⟩:=succ_of hk
 unfold impl_areSpaces.f areS
 simp only [impl_areSpaces.j0]
 by_cases h1:(l.length:Int) < 1
 · rw [if_pos h1,if_pos trivial,decide_eq_false (by omega)];simp
 · rw [if_neg h1]
   by_cases h2:(l.length:Int) > 7
   · rw [decide_eq_true h2,if_pos rfl,decide_eq_false (by omega)];simp
   · have h0:=areSpaces_l0 l (by omega) l [] k rfl (by omega)
     rw [show ((([]:List SiS28).length:Nat):Int) = 0 from rfl] at h0
     rw [decide_eq_false h2,if_neg (by simp),h0,decide_eq_true (show 1 ≤ l.length ∧ l.length ≤ 7 by omega)]
     simp
def chOk (l:List SiS28) (x:SiS28):Bool:=decide ((up 8 l x.f0).length ≤ l.length) && (match (up 8 l x.f0).getLast? with|some z=>decide (z.f0 = allN)|none=>false)
theorem chOk_iff {l:List SiS28} {x:SiS28}:chOk l x = true ↔ ((up 8 l x.f0).length ≤ l.length ∧ ∃ z,(up 8 l x.f0).getLast? = some z ∧ z.f0 = allN):=by
 unfold chOk
 rw [Bool.and_eq_true,decide_eq_true_iff]
 cases h:(up 8 l x.f0).getLast? with
 |none=>simp
 |some z=>simp
def specS (l:List SiS28):Bool:=spGo none l && (l.all (chOk l) && (decide (1 ≤ l.length ∧ l.length ≤ 7) && decide (0 ≤ ix l allN)))
theorem sSpaces_l1 (l:List SiS28) (hb:l.length ≤ 1000000000) (hf:∀ x ∈ l,fnd l x.f0 = some x):∀ (suf pre:List SiS28) (k:Nat),pre ++ suf = l → suf.length + l.length + 10 < k →
 spec_SpacesOk.l1 k l (pre.length:Int) = some (suf.all (chOk l) && (decide (1 ≤ l.length ∧ l.length ≤ 7) && decide (0 ≤ ix l allN))):=by
 intro suf
 induction suf with
 |nil=>
  intro pre k he hk
  obtain ⟨k,rfl⟩:=succ_of hk
  rw [spec_SpacesOk.l1,if_neg (by rw [← he];simp),l1In_eqS,Option.bind_some]
  by_cases h:1 ≤ l.length ∧ l.length ≤ 7
  · rw [decide_eq_true (show (1:Int) ≤ (l.length:Int) ∧ (l.length:Int) ≤ 7 by omega),if_pos rfl]
    show (spec_l8At.f k l allN).bind _ = _
    rw [l8At_eq l allN k (by omega) (by omega),Option.bind_some,decide_eq_true h]
    simp
  · rw [decide_eq_false (show ¬ ((1:Int) ≤ (l.length:Int) ∧ (l.length:Int) ≤ 7) by omega),if_neg (by simp),decide_eq_false h]
    simp
 |cons x suf ih=>
  intro pre k he hk
  obtain ⟨k,rfl⟩:=succ_of hk
  have hpl:pre.length < l.length:=by rw [← he];simp
  have hrd:riS37 l (pre.length:Int) = x:=by rw [← he];exact rdS_mid
  have hx:=hf x (by rw [← he];simp)
  have hn:=ih (pre ++ [x]) k (by simp [← he]) (by simp at hk;omega)
  have e:wrap64 ((pre.length:Int) + 1) = ((pre ++ [x]).length:Int):=by rw [wrap_id (by omega) (by omega)];simp
  rw [spec_SpacesOk.l1,if_pos (by omega),if_pos (by omega),hrd,l8Up_eq l _ k (by omega) (by omega),Option.bind_some,e,hn]
  obtain ⟨c,y,hc⟩:∃ c y,up 8 l x.f0 = c ++ [y]:=by
   rcases List.eq_nil_or_concat (up 8 l x.f0) with h|⟨c,y,h⟩
   · rw [up_some hx] at h;cases h
   · exact ⟨c,y,by rw [h,List.concat_eq_append]⟩
  have hlen:(nms (up 8 l x.f0)).length = (up 8 l x.f0).length:=by unfold nms;simp
  have h8:=up_le (l:=l) 8 x.f0
  have hlc:(up 8 l x.f0).length = c.length + 1:=by rw [hc];simp
  rw [List.all_cons]
  by_cases h1:(up 8 l x.f0).length ≤ l.length
  · have hlast:rdOf ByteArray.empty (nms (up 8 l x.f0)) (((nms (up 8 l x.f0)).length:Int) - 1) = y.f0:=by
     rw [hlen,hlc,hc]
     have:(((c.length + 1:Nat):Int) - 1) = ((nms c).length:Int):=by unfold nms;simp
     rw [this]
     unfold nms
     rw [List.map_append]
     exact rdOf_mid _
    rw [if_neg (by omega),wrap_id (i:=((nms (up 8 l x.f0)).length:Int) - 1) (by omega) (by omega),if_pos (by omega),if_pos (by omega),hlast]
    by_cases h2:y.f0 = allN
    · have:chOk l x = true:=chOk_iff.2 ⟨h1,y,by rw [hc];simp,h2⟩
      rw [if_pos ((all_iff _).2 h2),this];simp
    · have:chOk l x = false:=by
       rw [Bool.eq_false_iff]
       intro h
       obtain ⟨-,z,hz,hz2⟩:=chOk_iff.1 h
       rw [hc] at hz
       have:y = z:=by simpa using hz
       exact h2 (this ▸ hz2)
      rw [if_neg (fun e=>h2 ((all_iff _).1 e)),this];simp
  · have:chOk l x = false:=by
     rw [Bool.eq_false_iff]
     intro h
     exact h1 (chOk_iff.1 h).1
    rw [if_pos (by omega),this];simp
theorem sSpaces_l0 (l:List SiS28) (hb:l.length ≤ 1000000000) (N:Nat) (hN:N ≤ 1000000000) (hs:∀ x ∈ l,x.f0.size < N ∧ x.f1.size < N):∀ (suf pre:List SiS28) (k:Nat),pre ++ suf = l → spGo none pre = true → suf.length + 2 * l.length + N + 12 < k →
 spec_SpacesOk.l0 k l (pre.length:Int) = some (spGo pre.getLast? suf && (l.all (chOk l) && (decide (1 ≤ l.length ∧ l.length ≤ 7) && decide (0 ≤ ix l allN)))):=by
 intro suf
 induction suf with
 |nil=>
  intro pre k he hp hk
  obtain ⟨k,rfl⟩:=succ_of hk
  have hpl:pre = l:=by rw [← he];simp
  have hf:∀ x ∈ l,fnd l x.f0 = some x:=fun x hx=>fnd_of_mem (spGo_all l none (hpl ▸ hp)).2.1 hx
  have h0:=sSpaces_l1 l hb hf l [] k rfl (by omega)
  rw [show ((([]:List SiS28).length:Nat):Int) = 0 from rfl] at h0
  rw [spec_SpacesOk.l0,if_neg (by rw [← he];simp),h0]
  have:spGo pre.getLast? [] = true:=by cases pre.getLast? <;> rfl
  rw [this,Bool.true_and]
 |cons x suf ih=>
  intro pre k he hp hk
  obtain ⟨k,rfl⟩:=succ_of hk
  have hpl:pre.length < l.length:=by rw [← he];simp
  have hrd:riS37 l (pre.length:Int) = x:=by rw [← he];exact rdS_mid
  have hxs:=hs x (by rw [← he];simp)
  have hn:spGo none (pre ++ [x]) = true → _:=fun h=>ih (pre ++ [x]) k (by simp [← he]) h (by simp at hk;omega)
  rw [List.getLast?_concat] at hn
  have e:wrap64 ((pre.length:Int) + 1) = ((pre ++ [x]).length:Int):=by rw [wrap_id (by omega) (by omega)];simp
  have happ:∀ (a:List SiS28) (p:Option SiS28),spGo p a = true → spGo (a.getLast?.or p) [x] = true → spGo p (a ++ [x]) = true:=by
   intro a
   induction a with
   |nil=>intro p _ h;simpa using h
   |cons y a iha=>
    intro p h1 h2
    have e2:(y :: a).getLast?.or p = a.getLast?.or (some y):=by
     cases a with
     |nil=>rfl
     |cons z a=>rw [List.getLast?_cons_cons];cases h:(z :: a).getLast? <;> simp_all
    rw [e2] at h2
    cases p with
    |none=>
     simp only [spGo,Bool.and_eq_true,List.cons_append] at h1 ⊢
     exact ⟨h1.1,iha (some y) h1.2 h2⟩
    |some q=>
     simp only [spGo,Bool.and_eq_true,List.cons_append] at h1 ⊢
     exact ⟨h1.1,iha (some y) h1.2 h2⟩
  rw [spec_SpacesOk.l0,if_pos (by omega),if_pos (by omega),hrd,l8Ok_eq x k (by omega) (by omega) (by omega) (by omega),Option.bind_some,e]
  rcases List.eq_nil_or_concat pre with rfl|⟨pre',y,rfl⟩
  · cases h:spOk x
    · simp [spGo,h]
    · rw [if_pos rfl,if_neg (by simp),hn (happ [] none rfl (by simp [spGo,h]))]
      simp [spGo,h]
  · rw [List.concat_eq_append] at *
    have hrl:riS37 l (((pre' ++ [y]).length:Int) - 1) = y:=by rw [← he];exact lastS_rd
    cases h:spOk x
    · rw [if_neg (by simp),List.getLast?_concat];simp [spGo,h]
    · have hp0:0 < (pre' ++ [y]).length:=by simp
      rw [if_pos rfl,if_pos (by omega),wrap_id (i:=((pre' ++ [y]).length:Int) - 1) (by omega) (by omega),if_pos (by omega),if_pos (by omega),hrl,List.getLast?_concat]
      cases h2:Op.bytesLess y.f0.toList x.f0.toList
      · rw [if_neg (by simp)];simp [spGo,h,h2]
      · rw [if_pos rfl,hn (happ (pre' ++ [y]) none hp (by rw [List.getLast?_concat];simp [spGo,h,h2]))];simp [spGo,h,h2]
theorem top_none {l:List SiS28} (h:spGo none l = true):∀ z ∈ l,z.f0 = allN → fnd l z.f1 = none:=by
 intro z hz e
 have h1:=(spGo_all l none h).1
 have h2:=h1 z hz
 unfold spOk at h2
 rw [if_pos e] at h2
 simp only [Bool.and_eq_true,decide_eq_true_eq] at h2
 rw [h2.2.1]
 exact fnd_nil h1
theorem specS_eq (l:List SiS28):specS l = areS l:=by
 unfold specS areS
 cases hg:spGo none l
 · simp
 by_cases hl:1 ≤ l.length ∧ l.length ≤ 7
 · rw [decide_eq_true hl]
   have hiff:∀ x ∈ l,(chOk l x = true ↔ inAll l x = true):=by
    intro x hx
    rw [chOk_iff,inAll,decide_eq_true_iff]
    exact at_last (fnd_of_mem (spGo_all l none hg).2.1 hx) hl.2 (top_none hg)
   have hall:l.all (chOk l) = l.all (inAll l):=by
    rw [Bool.eq_iff_iff,List.all_eq_true,List.all_eq_true]
    exact ⟨fun h x hx=>(hiff x hx).1 (h x hx),fun h x hx=>(hiff x hx).2 (h x hx)⟩
   rw [hall]
   cases ha:l.all (inAll l)
   · simp
   · obtain ⟨x,hx⟩:∃ x,x ∈ l:=List.exists_mem_of_length_pos (by omega)
     rw [← hall] at ha
     obtain ⟨-,z,hz,hz2⟩:=chOk_iff.1 (List.all_eq_true.1 ha x hx)
     have hz3:=up_mem 8 x.f0 z (List.mem_of_getLast? hz)
     rw [hz2] at hz3
     have:=(ix_some hz3).1
     rw [decide_eq_true this];rfl
 · rw [decide_eq_false hl];simp
theorem sSpacesOk_eq (l:List SiS28) (k N:Nat) (hb:l.length ≤ 1000000000) (hN:N ≤ 1000000000) (hs:∀ x ∈ l,x.f0.size < N ∧ x.f1.size < N) (hk:3 * l.length + N + 12 < k):spec_SpacesOk.f k l = some (areS l):=by
 have h0:=sSpaces_l0 l hb N hN hs l [] k rfl rfl (by omega)
 rw [show ((([]:List SiS28).length:Nat):Int) = 0 from rfl] at h0
 unfold spec_SpacesOk.f
 rw [h0,← specS_eq];rfl
theorem areS_en {l:List SiS28} (h:areS l = true) (s:ByteArray):En l s:=by
 have h1:=specS_eq l
 rw [h] at h1
 unfold specS at h1
 simp only [Bool.and_eq_true,decide_eq_true_eq] at h1
 cases hf:fnd l s with
 |none=>exact en_none hf
 |some x=>
  have h2:=chOk_iff.1 (List.all_eq_true.1 h1.2.1 x (fnd_mem hf))
  rw [fnd_name hf] at h2
  exact en_of (n:=8) (by have:=h1.2.2.1.2;omega) (by omega)
end Go.Proofs.YtclgmogfkoinbaaGreatDoor.V
/- SpaceUp, SpaceIn, SpaceGoing in the words of chains. -/
namespace Go.Proofs.YtclgmogfkoinbaaGreatDoor.V
open Go.RowKit Go.Proofs.YtclgmogfkoinbaaGreatDoor.P Go.Proofs.YtclgmogfkoinbaaGreatDoorW.PrintWords Go.Proofs.YtclgmogfkoinbaaGreatDoorW.PrintMore
def chain (l:List SiS28) (s:ByteArray):List SiS28:=up 9 l s
theorem areS_len {l:List SiS28} (h:areS l = true):1 ≤ l.length ∧ l.length ≤ 7:=by
 unfold areS at h
 simp only [Bool.and_eq_true,decide_eq_true_eq] at h
 exact h.1.1
theorem chain_len {l:List SiS28} (h:areS l = true) (s:ByteArray):(chain l s).length ≤ 7:=by
 have h1:=up_short (areS_en h s)
 have h2:=areS_len h
 unfold chain
 omega
theorem up8 {l:List SiS28} (h:areS l = true) (s:ByteArray):up 8 l s = chain l s:=by
 have h1:=chain_len h s
 unfold chain at h1 ⊢
 rw [up_take 8 9 s (by omega),List.take_of_length_le (by omega)]
def SmSp (N:Nat) (l:List SiS28):Prop:=l.length ≤ 1000000000 ∧ N ≤ 1000000000 ∧ ∀ x ∈ l,x.f0.size < N ∧ x.f1.size < N
section
variable {l:List SiS28} {N k:Nat}
theorem sSpaces (h:SmSp N l) (hk:3 * l.length + N + 12 < k):spec_SpacesOk.f k l = some (areS l):=sSpacesOk_eq l k N h.1 h.2.1 h.2.2 hk
end
def has (l:List ByteArray) (o:ByteArray):Bool:=l.any (fun x=>decide (x = o))
theorem has_iff (l:List ByteArray) (o:ByteArray):has l o = true ↔ o ∈ l:=by
 unfold has
 rw [List.any_eq_true]
 constructor
 · rintro ⟨x,hx,h⟩
   rw [decide_eq_true_iff] at h
   exact h ▸ hx
 · intro h
   exact ⟨o,h,by simp⟩
theorem l8In_l0 (o:ByteArray):∀ (suf pre:List ByteArray) (k:Nat),suf.length < k → (pre ++ suf).length ≤ 1000000 → spec_l8In.l0 k o (pre ++ suf) (pre.length:Int) = some (has suf o):=by
 intro suf
 induction suf with
 |nil=>
  intro pre k hk hb
  obtain ⟨k,rfl⟩:=succ_of hk
  rw [spec_l8In.l0,if_neg end_not_lt];rfl
 |cons x suf ih=>
  intro pre k hk hb
  obtain ⟨k,rfl⟩:=succ_of hk
  rw [spec_l8In.l0,if_pos mid_lt,if_pos (nat_le0 _),rdOf_mid]
  by_cases h:x = o
  · rw [if_pos ((tl_iff _ _).2 h),h];simp [has]
  · rw [if_neg (fun e=>h ((tl_iff _ _).1 e)),wrap_snoc (x:=x) (by simp at hb;omega),snoc_app,ih (pre ++ [x]) k (by simpa using hk) (by simpa using hb)]
    simp [has,h]
theorem index_l0 (o:ByteArray):∀ (suf pre:List ByteArray) (k:Nat),suf.length < k → (pre ++ suf).length ≤ 1000000 → ∃ i,slices_Index_string_string.l0 k (pre ++ suf) o ((pre ++ suf).length:Int) (pre.length:Int) = some i ∧ (0 ≤ i ↔ o ∈ suf):=by
 intro suf
 induction suf with
 |nil=>
  intro pre k hk hb
  obtain ⟨k,rfl⟩:=succ_of hk
  rw [slices_Index_string_string.l0,if_neg (by simp)]
  exact ⟨-1,rfl,by simp⟩
 |cons x suf ih=>
  intro pre k hk hb
  obtain ⟨k,rfl⟩:=succ_of hk
  rw [slices_Index_string_string.l0,if_pos mid_lt,if_pos (nat_le0 _),if_pos mid_lt,rdOf_mid]
  by_cases h:o = x
  · rw [if_pos ((tl_iff _ _).2 h)]
    exact ⟨_,rfl,by simp [h]⟩
  · obtain ⟨i,hi,h2⟩:=ih (pre ++ [x]) k (by simpa using hk) (by simpa using hb)
    rw [if_neg (fun e=>h ((tl_iff _ _).1 e)),wrap_snoc (x:=x) (by simp at hb;omega),snoc_app]
    exact ⟨i,hi,by rw [h2];simp [h]⟩
theorem Contains_eq (l:List ByteArray) (o:ByteArray) (k:Nat) (hk:l.length < k) (hb:l.length ≤ 1000000):slices_Contains_string_string.f k l o = some (has l o):=by
 obtain ⟨i,hi,h2⟩:=index_l0 o l [] k hk hb
 unfold slices_Contains_string_string.f slices_Index_string_string.f
 rw [List.nil_append,show ((([]:List ByteArray).length:Nat):Int) = 0 from rfl] at hi
 rw [hi,Option.bind_some]
 congr 1
 rw [Bool.eq_iff_iff,decide_eq_true_iff,has_iff]
 exact h2
theorem nms_len (c:List SiS28):(nms c).length = c.length:=by unfold nms;simp
section
variable {l:List SiS28} {N k:Nat}
theorem l8In_eq (ha:areS l = true) (hk:l.length + 10 < k) (s o:ByteArray):spec_l8In.f k l s o = some (has (nms (chain l s)) o):=by
 have h7:=areS_len ha
 have hc:=chain_len ha s
 unfold spec_l8In.f
 rw [l8Up_eq l s k (by omega) (by omega),Option.bind_some,up8 ha]
 exact l8In_l0 o (nms (chain l s)) [] k (by rw [nms_len];omega) (by rw [List.nil_append,nms_len];omega)
end
end Go.Proofs.YtclgmogfkoinbaaGreatDoor.V
/- Uses of spaces: UseMay, UseAdd. -/
namespace Go.Proofs.YtclgmogfkoinbaaGreatDoor.V
open Go.RowKit Go.Proofs.YtclgmogfkoinbaaGreatDoor.P Go.Proofs.YtclgmogfkoinbaaGreatDoorW.PrintWords Go.Proofs.YtclgmogfkoinbaaGreatDoorW.PrintMore
theorem rdUs_mid {pre suf:List SiU30} {x:SiU30}:riU39 (pre ++ x :: suf) (pre.length:Int) = x:=by simp [riU39]
def usB:List SiS28 → List SiU30 → Bool
 |[],[]=>true
 |x :: l,u :: us=>decide (u.f0 = x.f0) && decide (0 ≤ u.f1 ∧ u.f1 ≤ 99999) && usB l us
 |_,_=>false
theorem usB_len:∀ {l:List SiS28} {us:List SiU30},usB l us = true → l.length = us.length
 |[],[],_=>rfl
 |x :: l,u :: us,h=>by
  simp only [usB,Bool.and_eq_true] at h
  simp [usB_len h.2]
 |[],_ :: _,h=>by simp [usB] at h
 |_ :: _,[],h=>by simp [usB] at h
theorem l8Uses_l0:∀ (us:List SiU30) (l pre:List SiS28) (pu:List SiU30) (k:Nat),pre.length = pu.length → l.length = us.length → us.length < k → (pu ++ us).length ≤ 1000000000 →
 spec_l8Uses.l0 k (pre ++ l) (pu ++ us) (pu.length:Int) = some (usB l us):=by
 intro us
 induction us with
 |nil=>
  intro l pre pu k hp hl hk hb
  obtain ⟨k,rfl⟩:=succ_of hk
  obtain rfl:l = []:=List.eq_nil_of_length_eq_zero (by simpa using hl)
  rw [spec_l8Uses.l0,if_neg end_not_lt];rfl
 |cons u us ih=>
  intro l pre pu k hp hl hk hb
  obtain ⟨k,rfl⟩:=succ_of hk
  cases l with
  |nil=>simp at hl
  |cons x l=>
   have hrx:riS37 (pre ++ x :: l) (pu.length:Int) = x:=by rw [← hp];exact rdS_mid
   have hn:=ih l (pre ++ [x]) (pu ++ [u]) k (by simp [hp]) (by simpa using hl) (by simpa using hk) (by simpa using hb)
   rw [List.append_assoc,List.append_assoc] at hn
   rw [spec_l8Uses.l0,if_pos mid_lt,if_pos (nat_le0 _),if_pos (by simp;omega),rdUs_mid,hrx,l1In_eqS,Option.bind_some,wrap_snoc (x:=u) (by simp at hb;omega)]
   simp only [List.cons_append,List.nil_append] at hn
   rw [hn,usB]
   by_cases h1:u.f0 = x.f0
   · rw [if_pos ((tl_iff _ _).2 h1),decide_eq_true h1]
     by_cases h2:0 ≤ u.f1 ∧ u.f1 ≤ 99999
     · rw [decide_eq_true h2,if_pos rfl];simp
     · rw [decide_eq_false h2,if_neg (by simp)];simp
   · rw [if_neg (fun e=>h1 ((tl_iff _ _).1 e)),decide_eq_false h1];simp
theorem l8Uses_eq (l:List SiS28) (us:List SiU30) (k:Nat) (hk:us.length < k) (hb:us.length ≤ 1000000000):spec_l8Uses.f k l us = some (usB l us):=by
 unfold spec_l8Uses.f
 by_cases h:us.length = l.length
 · rw [if_pos (by omega)]
   exact l8Uses_l0 us l [] [] k rfl h.symm hk hb
 · rw [if_neg (by omega)]
   cases hu:usB l us with
   |false=>rfl
   |true=>exact absurd (usB_len hu).symm h
theorem areUses_l1 (L:List SiS28) (U:List SiU30):∀ (us:List SiU30) (l pre:List SiS28) (pu:List SiU30),pre ++ l = L → pu ++ us = U → pre.length = pu.length →
 impl_areUses.l1 L U us.length (pu.length:Int) = some (usB l us):=by
 intro us
 induction us with
 |nil=>
  intro l pre pu hL hU hp
  have h1:U.length = pu.length:=by rw [← hU];simp
  have h2:L.length = pre.length + l.length:=by rw [← hL];simp
  rw [List.length_nil,impl_areUses.l1]
  cases l with
  |nil=>
   have:(U.length:Int) = (L.length:Int):=by simp at h2;omega
   rw [this];simp [usB]
  |cons x l=>
   have:¬ (U.length:Int) = (L.length:Int):=by simp at h2;omega
   simp [usB];omega
 |cons u us ih=>
  intro l pre pu hL hU hp
  have h2:L.length = pre.length + l.length:=by rw [← hL];simp
  have hru:riU39 U (pu.length:Int) = u:=by rw [← hU];exact rdUs_mid
  rw [List.length_cons,impl_areUses.l1]
  cases l with
  |nil=>
   simp at h2
   rw [if_pos (by omega)];rfl
  |cons x l=>
   simp at h2
   have hrx:riS37 L (pu.length:Int) = x:=by rw [← hp,← hL];exact rdS_mid
   have hn:=ih l (pre ++ [x]) (pu ++ [u]) (by simp [hL]) (by simp [hU]) (by simp [hp])
   rw [if_neg (by omega),hru,hrx,show (pu.length:Int) + 1 = ((pu ++ [u]).length:Int) by simp,hn,usB]
   by_cases h3:u.f0 = x.f0
   · rw [if_pos ((tl_iff _ _).2 h3),decide_eq_true h3]
     by_cases h4:u.f1 < 0
     · rw [if_pos h4,decide_eq_false (by omega)];simp
     · rw [if_neg h4]
       by_cases h5:99999 < u.f1
       · rw [if_pos h5,decide_eq_false (by omega)];simp
       · rw [if_neg h5,decide_eq_true (show 0 ≤ u.f1 ∧ u.f1 ≤ 99999 by omega)];simp
   · rw [if_neg (fun e=>h3 ((tl_iff _ _).1 e)),decide_eq_false h3];simp
theorem areUses_eq (l:List SiS28) (us:List SiU30) (k:Nat) (_hk:us.length < k) (_hb:us.length ≤ 1000000000) (_hbl:l.length ≤ 1000000000):impl_areUses.f k l us = some (usB l us):=
 areUses_l1 l us us l [] [] rfl rfl rfl
end Go.Proofs.YtclgmogfkoinbaaGreatDoor.V
/- The laws' own helpers over uses. -/
namespace Go.Proofs.YtclgmogfkoinbaaGreatDoor.V
open Go.RowKit Go.Proofs.YtclgmogfkoinbaaGreatDoor.P Go.Proofs.YtclgmogfkoinbaaGreatDoorW.PrintWords Go.Proofs.YtclgmogfkoinbaaGreatDoorW.PrintMore
theorem rdLU_mid {pre suf:List SlU35} {x:SlU35}:rlU43 (pre ++ x :: suf) (pre.length:Int) = x:=by simp [rlU43]
def szU:List SlU35 → Int → Int
 |[],left=>left
 |x :: r,left=>if left - x.f0.size < 0 then -1 else szU r (left - x.f0.size)
theorem szUseS_l0:∀ (suf pre:List SlU35) (left:Int) (k:Nat),suf.length < k → 0 ≤ left → left ≤ 4611686018427387904 → (∀ x ∈ suf,x.f0.size ≤ 9223372036854775807) → (pre ++ suf).length < 9223372036854775807 →
 laws_szUseS.l0 k (pre ++ suf) left (pre.length:Int) = some (szU suf left):=by
 intro suf
 induction suf with
 |nil=>
  intro pre left k hk h0 h1 hs hb
  obtain ⟨k,rfl⟩:=succ_of hk
  rw [laws_szUseS.l0,if_neg end_not_lt];rfl
 |cons x suf ih=>
  intro pre left k hk h0 h1 hs hb
  obtain ⟨k,rfl⟩:=succ_of hk
  have hx:=hs x (by simp)
  rw [laws_szUseS.l0,if_pos mid_lt,if_pos (nat_le0 _),rdLU_mid,laws_szUse.f,wrap_id (i:=left - (x.f0.size:Int)) (by omega) (by omega),szU]
  by_cases hc:left - (x.f0.size:Int) < 0
  · rw [if_pos hc,Option.bind_some,if_pos (by omega),if_pos hc]
  · rw [if_neg hc,Option.bind_some,if_neg hc,if_neg hc,wrap_snoc (x:=x) (by simp at hb;omega),snoc_app]
    exact ih (pre ++ [x]) _ k (by simpa using hk) (by omega) (by omega) (fun s h=>hs s (by simp [h])) (by simpa using hb)
theorem szU_pos:∀ (l:List SlU35) (left:Int),0 ≤ szU l left → szU l left ≤ left ∧ ∀ x ∈ l,(x.f0.size:Int) ≤ left
 |[],left,_=>⟨by simp [szU],fun x h=>by cases h⟩
 |x :: r,left,h=>by
  rw [szU] at h ⊢
  by_cases hl:left - x.f0.size < 0
  · rw [if_pos hl] at h;omega
  · rw [if_neg hl] at h ⊢
    obtain ⟨h1,h2⟩:=szU_pos r _ h
    refine ⟨by omega,fun y hy=>?_⟩
    rcases List.mem_cons.1 hy with rfl|hy
    · omega
    · have:=h2 y hy;omega
theorem szUseS_eq (l:List SlU35) (left:Int) (k:Nat) (hk:l.length < k) (h0:0 ≤ left) (h1:left ≤ 4611686018427387904) (hs:∀ x ∈ l,x.f0.size ≤ 9223372036854775807) (hb:l.length ≤ 9223372036854775807) :
 ∃ v,laws_szUseS.f k l left = some v ∧ (0 ≤ v → v ≤ left ∧ (l.length:Int) ≤ left ∧ ∀ x ∈ l,(x.f0.size:Int) ≤ left):=by
 unfold laws_szUseS.f
 rw [wrap_id (by omega) (by omega)]
 by_cases hl:left - l.length < 0
 · rw [if_pos hl];exact ⟨-1,rfl,fun h=>by omega⟩
 · rw [if_neg hl]
   have h2:=szUseS_l0 l [] (left - l.length) k hk (by omega) (by omega) hs (by simp;omega)
   rw [List.nil_append,show ((([]:List SlU35).length:Nat):Int) = 0 from rfl] at h2
   rw [h2]
   refine ⟨_,rfl,fun h=>?_⟩
   obtain ⟨h3,h4⟩:=szU_pos l _ h
   exact ⟨by omega,by omega,fun x hx=>by have:=h4 x hx;omega⟩
def cU (x:SlU35):SiU30:=⟨x.f0,x.f1⟩
theorem toUseS_l0:∀ (suf pre:List SlU35) (zs:List SiU30) (k:Nat),zs.length = suf.length → suf.length < k → (pre ++ suf).length < 9223372036854775807 →
 laws_toUseS.l0 k (pre ++ suf) (pre.map cU ++ zs) (pre.length:Int) = some ((pre ++ suf).map cU):=by
 intro suf
 induction suf with
 |nil=>
  intro pre zs k hz hk hb
  obtain ⟨k,rfl⟩:=succ_of hk
  obtain rfl:zs = []:=List.eq_nil_of_length_eq_zero hz
  rw [laws_toUseS.l0,if_neg end_not_lt];simp
 |cons x suf ih=>
  intro pre zs k hz hk hb
  obtain ⟨k,rfl⟩:=succ_of hk
  cases zs with
  |nil=>simp at hz
  |cons z zs=>
   have hset:(pre.map cU ++ z :: zs).set ((pre.length:Int)).toNat (cU x) = (pre ++ [x]).map cU ++ zs:=by
    have:=set_mid (pre:=pre.map cU) (suf:=zs) (x:=z) (y:=cU x)
    rw [List.length_map] at this
    rw [this];simp
   rw [laws_toUseS.l0,if_pos mid_lt,if_pos (nat_le0 _),rdLU_mid,laws_toUse.f,Option.bind_some,if_pos (by simp;omega)]
   show laws_toUseS.l0 k (pre ++ x :: suf) ((pre.map cU ++ z :: zs).set ((pre.length:Int)).toNat (cU x)) (wrap64 ((pre.length:Int) + 1)) = _
   rw [hset,wrap_snoc (x:=x) (by simp at hb;omega),snoc_app]
   exact ih (pre ++ [x]) zs k (by simpa using hz) (by simpa using hk) (by simpa using hb)
theorem toUseS_eq (l:List SlU35) (k:Nat) (hk:l.length < k) (hb:l.length ≤ 1000000000000):laws_toUseS.f k l = some (l.map cU):=by
 unfold laws_toUseS.f
 rw [if_pos (nat_le0 _),if_pos (by omega)]
 exact toUseS_l0 l [] _ k (by simp) hk (by simp;omega)
theorem eqUseS_l0:∀ (suf pre:List SiU30) (k:Nat),suf.length < k → (pre ++ suf).length < 9223372036854775807 → laws_eqUseS.l0 k (pre ++ suf) (pre ++ suf) (pre.length:Int) = some true:=by
 intro suf
 induction suf with
 |nil=>
  intro pre k hk hb
  obtain ⟨k,rfl⟩:=succ_of hk
  rw [laws_eqUseS.l0,if_neg end_not_lt]
 |cons x suf ih=>
  intro pre k hk hb
  obtain ⟨k,rfl⟩:=succ_of hk
  have hx:laws_eqUse.f x.f0 x.f1 x.f0 x.f1 = some true:=by
   unfold laws_eqUse.f
   rw [if_pos rfl,if_pos rfl]
  rw [laws_eqUseS.l0,if_pos mid_lt,if_pos (nat_le0 _),if_pos mid_lt,rdUs_mid,hx,Option.bind_some,if_pos rfl,wrap_snoc (x:=x) (by simp at hb;omega),snoc_app]
  exact ih (pre ++ [x]) k (by simpa using hk) (by simpa using hb)
theorem eqUseS_refl (l:List SiU30) (k:Nat) (hk:l.length < k) (hb:l.length < 9223372036854775807):laws_eqUseS.f k l l = some true:=by
 unfold laws_eqUseS.f
 rw [if_pos rfl]
 exact eqUseS_l0 l [] k hk hb
theorem good_sizesU {l:List SlU35} (h:∀ y ∈ l,GlU26 y):∀ x ∈ l,x.f0.size ≤ 9223372036854775807:=fun x hx=>(h x hx).1
end Go.Proofs.YtclgmogfkoinbaaGreatDoor.V
/- The laws' own helpers over pasts. -/
namespace Go.Proofs.YtclgmogfkoinbaaGreatDoor.V
open Go.RowKit Go.Proofs.YtclgmogfkoinbaaGreatDoor.P Go.Proofs.YtclgmogfkoinbaaGreatDoorW.PrintWords Go.Proofs.YtclgmogfkoinbaaGreatDoorW.PrintMore
theorem rdLP_mid {pre suf:List SlP32} {x:SlP32}:rlP40 (pre ++ x :: suf) (pre.length:Int) = x:=by simp [rlP40]
theorem rdP_mid {pre suf:List SiP27} {x:SiP27}:riP36 (pre ++ x :: suf) (pre.length:Int) = x:=by simp [riP36]
def szPa:List SlP32 → Int → Int
 |[],left=>left
 |x :: r,left=>if left - x.f1.size < 0 then -1 else if left - x.f1.size - x.f2.size < 0 then -1 else if left - x.f1.size - x.f2.size - x.f3.size < 0 then -1 else szPa r (left - x.f1.size - x.f2.size - x.f3.size)
def GdPa (x:SlP32):Prop:=x.f1.size ≤ 9223372036854775807 ∧ x.f2.size ≤ 9223372036854775807 ∧ x.f3.size ≤ 9223372036854775807
theorem szPastS_l0:∀ (suf pre:List SlP32) (left:Int) (k:Nat),suf.length < k → 0 ≤ left → left ≤ 4611686018427387904 → (∀ x ∈ suf,GdPa x) → (pre ++ suf).length < 9223372036854775807 →
 laws_szPastS.l0 k (pre ++ suf) left (pre.length:Int) = some (szPa suf left):=by
 intro suf
 induction suf with
 |nil=>
  intro pre left k hk h0 h1 hs hb
  obtain ⟨k,rfl⟩:=succ_of hk
  rw [laws_szPastS.l0,if_neg end_not_lt];rfl
 |cons x suf ih=>
  intro pre left k hk h0 h1 hs hb
  obtain ⟨k,rfl⟩:=succ_of hk
  obtain ⟨g1,g2,g3⟩:=hs x (by simp)
  rw [laws_szPastS.l0,if_pos mid_lt,if_pos (nat_le0 _),rdLP_mid,laws_szPast.f,wrap_id (i:=left - (x.f1.size:Int)) (by omega) (by omega),szPa]
  by_cases hc:left - (x.f1.size:Int) < 0
  · rw [if_pos hc,Option.bind_some,if_pos (by omega),if_pos hc]
  rw [if_neg hc,if_neg hc,wrap_id (i:=left - (x.f1.size:Int) - (x.f2.size:Int)) (by omega) (by omega)]
  by_cases hc2:left - (x.f1.size:Int) - (x.f2.size:Int) < 0
  · rw [if_pos hc2,Option.bind_some,if_pos (by omega),if_pos hc2]
  rw [if_neg hc2,if_neg hc2,wrap_id (i:=left - (x.f1.size:Int) - (x.f2.size:Int) - (x.f3.size:Int)) (by omega) (by omega)]
  by_cases hc3:left - (x.f1.size:Int) - (x.f2.size:Int) - (x.f3.size:Int) < 0
  · rw [if_pos hc3,Option.bind_some,if_pos (by omega),if_pos hc3]
  rw [if_neg hc3,Option.bind_some,if_neg hc3,if_neg hc3,wrap_snoc (x:=x) (by simp at hb;omega),snoc_app]
  exact ih (pre ++ [x]) _ k (by simpa using hk) (by omega) (by omega) (fun s h=>hs s (by simp [h])) (by simpa using hb)
def SzPa (x:SlP32) (n:Int):Prop:=(x.f1.size:Int) ≤ n ∧ (x.f2.size:Int) ≤ n ∧ (x.f3.size:Int) ≤ n
theorem szPa_pos:∀ (l:List SlP32) (left:Int),0 ≤ szPa l left → szPa l left ≤ left ∧ ∀ x ∈ l,SzPa x left
 |[],left,_=>⟨by simp [szPa],fun x h=>by cases h⟩
 |x :: r,left,h=>by
  rw [szPa] at h ⊢
  by_cases hl:left - x.f1.size < 0
  · rw [if_pos hl] at h;omega
  rw [if_neg hl] at h ⊢
  by_cases hl2:left - x.f1.size - x.f2.size < 0
  · rw [if_pos hl2] at h;omega
  rw [if_neg hl2] at h ⊢
  by_cases hl3:left - x.f1.size - x.f2.size - x.f3.size < 0
  · rw [if_pos hl3] at h;omega
  rw [if_neg hl3] at h ⊢
  obtain ⟨h1,h2⟩:=szPa_pos r _ h
  refine ⟨by omega,fun y hy=>?_⟩
  rcases List.mem_cons.1 hy with rfl|hy
  · exact ⟨by omega,by omega,by omega⟩
  · obtain ⟨a,b,c⟩:=h2 y hy;exact ⟨by omega,by omega,by omega⟩
theorem szPastS_eq (l:List SlP32) (left:Int) (k:Nat) (hk:l.length < k) (h0:0 ≤ left) (h1:left ≤ 4611686018427387904) (hs:∀ x ∈ l,GdPa x) (hb:l.length ≤ 9223372036854775807) :
 ∃ v,laws_szPastS.f k l left = some v ∧ (0 ≤ v → v ≤ left ∧ (l.length:Int) ≤ left ∧ ∀ x ∈ l,SzPa x left):=by
 unfold laws_szPastS.f
 rw [wrap_id (by omega) (by omega)]
 by_cases hl:left - l.length < 0
 · rw [if_pos hl];exact ⟨-1,rfl,fun h=>by omega⟩
 · rw [if_neg hl]
   have h2:=szPastS_l0 l [] (left - l.length) k hk (by omega) (by omega) hs (by simp;omega)
   rw [List.nil_append,show ((([]:List SlP32).length:Nat):Int) = 0 from rfl] at h2
   rw [h2]
   refine ⟨_,rfl,fun h=>?_⟩
   obtain ⟨h3,h4⟩:=szPa_pos l _ h
   exact ⟨by omega,by omega,fun x hx=>by obtain ⟨a,b,c⟩:=h4 x hx;exact ⟨by omega,by omega,by omega⟩⟩
def cPa (x:SlP32):SiP27:=⟨x.f0,x.f1,x.f2,x.f3⟩
theorem toPastS_l0:∀ (suf pre:List SlP32) (zs:List SiP27) (k:Nat),zs.length = suf.length → suf.length < k → (pre ++ suf).length < 9223372036854775807 →
 laws_toPastS.l0 k (pre ++ suf) (pre.map cPa ++ zs) (pre.length:Int) = some ((pre ++ suf).map cPa):=by
 intro suf
 induction suf with
 |nil=>
  intro pre zs k hz hk hb
  obtain ⟨k,rfl⟩:=succ_of hk
  obtain rfl:zs = []:=List.eq_nil_of_length_eq_zero hz
  rw [laws_toPastS.l0,if_neg end_not_lt];simp
 |cons x suf ih=>
  intro pre zs k hz hk hb
  obtain ⟨k,rfl⟩:=succ_of hk
  cases zs with
  |nil=>simp at hz
  |cons z zs=>
   have hset:(pre.map cPa ++ z :: zs).set ((pre.length:Int)).toNat (cPa x) = (pre ++ [x]).map cPa ++ zs:=by
    have:=set_mid (pre:=pre.map cPa) (suf:=zs) (x:=z) (y:=cPa x)
    rw [List.length_map] at this
    rw [this];simp
   rw [laws_toPastS.l0,if_pos mid_lt,if_pos (nat_le0 _),rdLP_mid,laws_toPast.f,Option.bind_some,if_pos (by simp;omega)]
   show laws_toPastS.l0 k (pre ++ x :: suf) ((pre.map cPa ++ z :: zs).set ((pre.length:Int)).toNat (cPa x)) (wrap64 ((pre.length:Int) + 1)) = _
   rw [hset,wrap_snoc (x:=x) (by simp at hb;omega),snoc_app]
   exact ih (pre ++ [x]) zs k (by simpa using hz) (by simpa using hk) (by simpa using hb)
theorem toPastS_eq (l:List SlP32) (k:Nat) (hk:l.length < k) (hb:l.length ≤ 1000000000000):laws_toPastS.f k l = some (l.map cPa):=by
 unfold laws_toPastS.f
 rw [if_pos (nat_le0 _),if_pos (by omega)]
 exact toPastS_l0 l [] _ k (by simp) hk (by simp;omega)
theorem eqPastS_l0:∀ (suf pre:List SiP27) (k:Nat),suf.length < k → (pre ++ suf).length < 9223372036854775807 → laws_eqPastS.l0 k (pre ++ suf) (pre ++ suf) (pre.length:Int) = some true:=by
 intro suf
 induction suf with
 |nil=>
  intro pre k hk hb
  obtain ⟨k,rfl⟩:=succ_of hk
  rw [laws_eqPastS.l0,if_neg end_not_lt]
 |cons x suf ih=>
  intro pre k hk hb
  obtain ⟨k,rfl⟩:=succ_of hk
  have hx:laws_eqPast.f x.f0 x.f1 x.f2 x.f3 x.f0 x.f1 x.f2 x.f3 = some true:=by
   unfold laws_eqPast.f
   rw [if_pos rfl,if_pos rfl,if_pos rfl,if_pos rfl]
  rw [laws_eqPastS.l0,if_pos mid_lt,if_pos (nat_le0 _),if_pos mid_lt,rdP_mid,hx,Option.bind_some,if_pos rfl,wrap_snoc (x:=x) (by simp at hb;omega),snoc_app]
  exact ih (pre ++ [x]) k (by simpa using hk) (by simpa using hb)
theorem eqPastS_refl (l:List SiP27) (k:Nat) (hk:l.length < k) (hb:l.length < 9223372036854775807):laws_eqPastS.f k l l = some true:=by
 unfold laws_eqPastS.f
 rw [if_pos rfl]
 exact eqPastS_l0 l [] k hk hb
end Go.Proofs.YtclgmogfkoinbaaGreatDoor.V
/- Marks that the laws lay on models, and on what they hand back. -/
namespace Go.Proofs.YtclgmogfkoinbaaGreatDoor.V
open Go.RowKit Go.Proofs.YtclgmogfkoinbaaGreatDoor.P Go.Proofs.YtclgmogfkoinbaaGreatDoorW.PrintWords Go.Proofs.YtclgmogfkoinbaaGreatDoorW.PrintMore
theorem markSpaceS_l0:∀ (n i:Nat) (L:List SiS28) (m:Int) (k:Nat),i + n = L.length → n + 30 < k → 0 ≤ m → m + 5 * n ≤ 4611686018427387904 → L.length < 9223372036854775807 → ∃ L',laws_markSpaceS.l0 k L m (i:Int) = some (m + 5 * n,L'):=by
 intro n
 induction n with
 |zero=>
  intro i L m k hi hk h0 hm hb
  obtain ⟨k,rfl⟩:=succ_of hk
  rw [laws_markSpaceS.l0,if_neg (by omega)]
  exact ⟨L,by simp⟩
 |succ n ih=>
  intro i L m k hi hk h0 hm hb
  obtain ⟨k,rfl⟩:=succ_of hk
  rw [laws_markSpaceS.l0,if_pos (by omega),markText_eq (by omega) (by omega),Option.bind_some,if_pos (by omega),Option.bind_some,wrap_id (i:=m + 1) (by omega) (by omega),markText_eq (by omega) (by omega),Option.bind_some,Option.bind_some,Option.bind_some,Option.bind_some,
   wrap_id (i:=m + 1 + 1) (by omega) (by omega),wrap_id (i:=m + 1 + 1 + 1) (by omega) (by omega),wrap_id (i:=m + 1 + 1 + 1 + 1) (by omega) (by omega),wrap_id (i:=m + 1 + 1 + 1 + 1 + 1) (by omega) (by omega),wrap_id (i:=(i:Int) + 1) (by omega) (by omega)]
  have e:(i:Int) + 1 = ((i + 1:Nat):Int):=rfl
  have e2:m + 5 * ((n + 1:Nat):Int) = (m + 1 + 1 + 1 + 1 + 1) + 5 * (n:Int):=by omega
  rw [e,e2]
  exact ih (i + 1) _ _ k (by simp;omega) (by omega) (by omega) (by omega) (by simpa using hb)
theorem markSpaceS_eq (L:List SiS28) (m:Int) (k:Nat) (hk:L.length + 30 < k) (h0:0 ≤ m) (hm:m + 5 * L.length ≤ 4611686018427387904):∃ L',laws_markSpaceS.f k L m = some (m + 5 * L.length,L'):=
 markSpaceS_l0 L.length 0 L m k (by omega) hk h0 hm (by omega)
theorem rdU_mid {pre suf:List SiU30} {x:SiU30}:riU39 (pre ++ x :: suf) (pre.length:Int) = x:=by simp [riU39]
def markedU:Nat → Int → List SiU30
 |0,_=>[]
 |n + 1,m=>⟨mt m,m + 1⟩ :: markedU n (m + 2)
theorem markUseS_l0:∀ (suf pre:List SiU30) (m:Int) (k:Nat),suf.length + 25 < k → 0 ≤ m → m + 2 * suf.length ≤ 4611686018427387904 → (pre ++ suf).length < 9223372036854775807 →
 laws_markUseS.l0 k (pre ++ suf) m (pre.length:Int) = some (m + 2 * suf.length,pre ++ markedU suf.length m):=by
 intro suf
 induction suf with
 |nil=>
  intro pre m k hk h0 hm hb
  obtain ⟨k,rfl⟩:=succ_of hk
  rw [laws_markUseS.l0,if_neg end_not_lt];simp [markedU]
 |cons x suf ih=>
  intro pre m k hk h0 hm hb
  obtain ⟨k,rfl⟩:=succ_of hk
  simp only [List.length_cons,Int.natCast_add,Int.natCast_one] at hk hm
  rw [laws_markUseS.l0,if_pos mid_lt,markText_eq (by omega) (by omega),Option.bind_some,if_pos (nat_le0 _),Option.bind_some,rdU_mid,set_mid,rdU_mid,set_mid,wrap_id (i:=m + 1) (by omega) (by omega),wrap_id (i:=m + 1 + 1) (by omega) (by omega),wrap_snoc (x:=(⟨mt m,m + 1⟩:SiU30)) (by simp at hb;omega),snoc_app]
  have:=ih (pre ++ [⟨mt m,m + 1⟩]) (m + 1 + 1) k (by omega) (by omega) (by omega) (by simpa using hb)
  rw [this]
  have e:m + 1 + 1 = m + 2:=by omega
  simp [markedU,e];omega
theorem markUseS_eq (l:List SiU30) (m:Int) (k:Nat) (hk:l.length + 25 < k) (h0:0 ≤ m) (hm:m + 2 * l.length ≤ 4611686018427387904):laws_markUseS.f k l m = some (m + 2 * l.length,markedU l.length m):=by
 have h:=markUseS_l0 l [] m k hk h0 hm (by simp;omega)
 simpa [laws_markUseS.f] using h
def markedP:Nat → Int → List SiP27
 |0,_=>[]
 |n + 1,m=>⟨m,mt (m + 1),mt (m + 2),mt (m + 3)⟩ :: markedP n (m + 4)
theorem markPastS_l0:∀ (suf pre:List SiP27) (m:Int) (k:Nat),suf.length + 25 < k → 0 ≤ m → m + 4 * suf.length ≤ 4611686018427387904 → (pre ++ suf).length < 9223372036854775807 →
 laws_markPastS.l0 k (pre ++ suf) m (pre.length:Int) = some (m + 4 * suf.length,pre ++ markedP suf.length m):=by
 intro suf
 induction suf with
 |nil=>
  intro pre m k hk h0 hm hb
  obtain ⟨k,rfl⟩:=succ_of hk
  rw [laws_markPastS.l0,if_neg end_not_lt];simp [markedP]
 |cons x suf ih=>
  intro pre m k hk h0 hm hb
  obtain ⟨k,rfl⟩:=succ_of hk
  simp only [List.length_cons,Int.natCast_add,Int.natCast_one] at hk hm
  have e1:wrap64 (m + 1) = m + 1:=wrap_id (by omega) (by omega)
  have e2:wrap64 (m + 1 + 1) = m + 2:=by rw [wrap_id (by omega) (by omega)];omega
  have e3:wrap64 (m + 2 + 1) = m + 3:=by rw [wrap_id (by omega) (by omega)];omega
  have e4:wrap64 (m + 3 + 1) = m + 4:=by rw [wrap_id (by omega) (by omega)];omega
  rw [laws_markPastS.l0,if_pos mid_lt,if_pos (nat_le0 _)]
  simp only [e1,e2,e3,e4,Option.bind_some,markText_eq (n:=m + 1) (by omega) (show 25 ≤ k by omega),markText_eq (n:=m + 2) (by omega) (show 25 ≤ k by omega),markText_eq (n:=m + 3) (by omega) (show 25 ≤ k by omega),rdP_mid,set_mid]
  rw [wrap_snoc (x:=(⟨m,mt (m + 1),mt (m + 2),mt (m + 3)⟩:SiP27)) (by simp at hb;omega),snoc_app]
  have:=ih (pre ++ [⟨m,mt (m + 1),mt (m + 2),mt (m + 3)⟩]) (m + 4) k (by omega) (by omega) (by omega) (by simpa using hb)
  rw [this]
  simp [markedP];omega
theorem markPastS_eq (l:List SiP27) (m:Int) (k:Nat) (hk:l.length + 25 < k) (h0:0 ≤ m) (hm:m + 4 * l.length ≤ 4611686018427387904):laws_markPastS.f k l m = some (m + 4 * l.length,markedP l.length m):=by
 have h:=markPastS_l0 l [] m k hk h0 hm (by simp;omega)
 simpa [laws_markPastS.f] using h
theorem heldPastS_l0:∀ (n:Nat) (pre:List SiP27) (m:Int) (k:Nat),n + 25 < k → 0 ≤ m → m + 4 * n ≤ 4611686018427387904 → pre.length + n < 9223372036854775807 →
 laws_heldPastS.l0 k (pre ++ markedP n m) m (pre.length:Int) = some (m + 4 * n):=by
 intro n
 induction n with
 |zero=>
  intro pre m k hk h0 hm hb
  obtain ⟨k,rfl⟩:=succ_of hk
  rw [laws_heldPastS.l0,markedP,if_neg end_not_lt];simp
 |succ n ih=>
  intro pre m k hk h0 hm hb
  obtain ⟨k,rfl⟩:=succ_of hk
  have e1:wrap64 (m + 1) = m + 1:=wrap_id (by omega) (by omega)
  have e2:wrap64 (m + 1 + 1) = m + 2:=by rw [wrap_id (by omega) (by omega)];omega
  have e3:wrap64 (m + 2 + 1) = m + 3:=by rw [wrap_id (by omega) (by omega)];omega
  have e4:wrap64 (m + 3 + 1) = m + 4:=by rw [wrap_id (by omega) (by omega)];omega
  rw [laws_heldPastS.l0,markedP,if_pos mid_lt,if_pos (nat_le0 _)]
  simp only [e1,e2,e3,e4,Option.bind_some,markText_eq (n:=m + 1) (by omega) (show 25 ≤ k by omega),markText_eq (n:=m + 2) (by omega) (show 25 ≤ k by omega),markText_eq (n:=m + 3) (by omega) (show 25 ≤ k by omega),rdP_mid,if_true]
  rw [wrap_snoc (x:=(⟨m,mt (m + 1),mt (m + 2),mt (m + 3)⟩:SiP27)) (by omega),snoc_app]
  have h7:=ih (pre ++ [(⟨m,mt (m + 1),mt (m + 2),mt (m + 3)⟩:SiP27)]) (m + 4) k (by omega) (by omega) (by omega) (by simp;omega)
  rw [h7]
  congr 1;omega
theorem heldPastS_eq (n:Nat) (m:Int) (k:Nat) (hk:n + 25 < k) (h0:0 ≤ m) (hm:m + 4 * n ≤ 4611686018427387904):laws_heldPastS.f k (markedP n m) m = some (m + 4 * n):=by
 have h:=heldPastS_l0 n [] m k hk h0 hm (by simp;omega)
 simpa [laws_heldPastS.f] using h
theorem up_eq {k:Nat} (hk:25 ≤ k):∀ (n:Nat) (a:Int),0 ≤ a → a + n ≤ 4611686018427387904 → mth.up k n a = some (a + n)
 |0,a,_,_=>by rw [mth.up];simp
 |n + 1,a,h0,h1=>by
  rw [mth.up,markText_eq (by omega) hk,Option.bind_some,wrap_id (by omega) (by omega),up_eq hk n (a + 1) (by omega) (by omega)]
  congr 1;omega
theorem markT_eq {k:Nat} (hk:25 ≤ k):∀ (T:List SiT29) (a:Int),0 ≤ a → a + T.length * 1048583 ≤ 4611686018427387904 → (∀ x ∈ T,x.f5.length < 1048577) → ∃ q,laws_markThingS.f k T a = some q ∧ a ≤ q ∧ q ≤ a + T.length * 1048583
 |[],a,_,_,_=>⟨a,rfl,by omega,by simp⟩
 |x :: r,a,h0,h1,hs=>by
  rw [List.length_cons] at h1
  have hx:=hs x (by simp)
  have e1:wrap64 (a + 1) = a + 1:=wrap_id (by omega) (by omega)
  have e2:wrap64 (a + 1 + 1) = a + 2:=by rw [wrap_id (by omega) (by omega)];omega
  have e3:wrap64 (a + 2 + 1) = a + 3:=by rw [wrap_id (by omega) (by omega)];omega
  have e4:wrap64 (a + 3 + 1) = a + 4:=by rw [wrap_id (by omega) (by omega)];omega
  have e5:wrap64 (a + 4 + 1) = a + 5:=by rw [wrap_id (by omega) (by omega)];omega
  have e6:wrap64 (a + 5 + x.f5.length + 1) = a + 6 + x.f5.length:=by rw [wrap_id (by omega) (by omega)];omega
  obtain ⟨q,hq,h2,h3⟩:=markT_eq hk r (a + 6 + x.f5.length) (by omega) (by omega) (fun y hy=>hs y (by simp [hy]))
  refine ⟨q,?_,by omega,by rw [List.length_cons];omega⟩
  rw [laws_markThingS.f]
  simp only [e1,e2,e3,e4,e5,markText_eq (n:=a) (by omega) hk,markText_eq (n:=a + 1) (by omega) hk,Option.bind_some,up_eq hk x.f5.length (a + 5) (by omega) (by omega)]
  rw [markText_eq (by omega) hk,Option.bind_some,e6,hq]
theorem markModel_eq (sp:List SiS28) (us:List SiU30) (T:List SiT29) (P:List SiP27) (k:Nat) (hk:sp.length + us.length + T.length + P.length + 40 < k) (h3:sp.length ≤ 1048576) (h4:us.length ≤ 1048576) (h5:T.length ≤ 1048576) (h6:P.length ≤ 1048576) (hs:∀ x ∈ T,x.f5.length < 1048577) :
 ∃ q,laws_markModel.f k sp us T P 1 = some q ∧ 0 ≤ q:=by
 obtain ⟨L',hL⟩:=markSpaceS_eq sp 1 k (by omega) (by omega) (by omega)
 have hU:=markUseS_eq us (1 + 5 * sp.length) k (by omega) (by omega) (by omega)
 obtain ⟨q,hq,h7,h8⟩:=markT_eq (k:=k) (by omega) T (1 + 5 * sp.length + 2 * us.length) (by omega) (by omega) hs
 have hP:=markPastS_eq P q k (by omega) (by omega) (by omega)
 refine ⟨q + 4 * P.length,?_,by omega⟩
 unfold laws_markModel.f
 rw [hL,Option.bind_some,hU,Option.bind_some,hq,Option.bind_some,hP,Option.bind_some]
end Go.Proofs.YtclgmogfkoinbaaGreatDoor.V
/- Texts of things: the program's test and the reference's. -/
namespace Go.Proofs.YtclgmogfkoinbaaGreatDoor.V
open Go.RowKit Go.Proofs.YtclgmogfkoinbaaGreatDoor.P Go.Proofs.YtclgmogfkoinbaaGreatDoorW.PrintWords Go.Proofs.YtclgmogfkoinbaaGreatDoorW.PrintMore
theorem l1In_eq (a b c:Int):spec_l1In.f a b c = some (decide (b ≤ a ∧ a ≤ c)):=by
 unfold spec_l1In.f
 by_cases h:a ≥ b
 · rw [if_pos h];simp [show b ≤ a from h]
 · rw [if_neg h];simp [show ¬ b ≤ a from h]
def VB (b:Int):Bool:=decide (32 ≤ b) && decide (b ≤ 126)
def valOk (s:ByteArray):Bool:=bAll VB s s.size 0 && decide (s.size ≤ 80)
theorem l4Value_l0:∀ (d i:Nat) (s:ByteArray) (k:Nat),i + d = s.size → d < k → s.size ≤ 4611686018427387904 → spec_l4Value.l0 k s (i:Int) = some (bAll VB s d i && decide (s.size ≤ 80)):=by
 intro d
 induction d with
 |zero=>
  intro i s k hi hk hb
  obtain ⟨k,rfl⟩:=succ_of hk
  rw [spec_l4Value.l0,if_neg (by omega)]
  simp only [bAll,Bool.true_and]
  congr 1
  exact decide_eq_decide.2 (by omega)
 |succ d ih=>
  intro i s k hi hk hb
  obtain ⟨k,rfl⟩:=succ_of hk
  rw [spec_l4Value.l0,if_pos (by omega),if_pos (nat_le0 _),bAll]
  have hr:-9223372036854775808 ≤ (i:Int) + 1:=by omega
  by_cases h1:bt s i < 32
  · rw [if_pos h1];simp [VB,show ¬ 32 ≤ bt s i by omega]
  · rw [if_neg h1]
    by_cases h2:bt s i > 126
    · rw [if_pos h2];simp [VB,show ¬ bt s i ≤ 126 by omega]
    · rw [if_neg h2,wrap_id hr (by omega),show (i:Int) + 1 = ((i + 1:Nat):Int) by omega,ih (i + 1) s k (by omega) (by omega) hb]
      simp [VB,show 32 ≤ bt s i by omega,show bt s i ≤ 126 by omega]
theorem l4Value_eq (s:ByteArray) (k:Nat) (hk:s.size < k) (hb:s.size ≤ 4611686018427387904):spec_l4Value.f k s = some (valOk s):=l4Value_l0 s.size 0 s k (by omega) hk hb
theorem isBetween_l0:∀ (d i:Nat) (s:ByteArray) (lo hi:Int) (k:Nat),i + d = s.size → d < k → s.size ≤ 4611686018427387904 → impl_isBetween.l0 k s lo hi (s.size:Int) (i:Int) = some (bAll (fun b=>decide (lo ≤ b) && decide (b ≤ hi)) s d i):=by
 intro d
 induction d with
 |zero=>
  intro i s lo hi k hi' hk hb
  obtain ⟨k,rfl⟩:=succ_of hk
  rw [impl_isBetween.l0,if_neg (by omega)];rfl
 |succ d ih=>
  intro i s lo hi k hi' hk hb
  obtain ⟨k,rfl⟩:=succ_of hk
  rw [impl_isBetween.l0,if_pos (by omega),if_pos (nat_le0 _),if_pos (by omega),bAll]
  by_cases h1:bt s i < lo
  · rw [if_pos h1];simp [show ¬ lo ≤ bt s i by omega]
  · rw [if_neg h1]
    by_cases h2:bt s i > hi
    · rw [if_pos h2];simp [show ¬ bt s i ≤ hi by omega]
    · rw [if_neg h2,wrap_id (by omega) (by omega),show (i:Int) + 1 = ((i + 1:Nat):Int) by omega,ih (i + 1) s lo hi k (by omega) (by omega) hb]
      simp [show lo ≤ bt s i by omega,show bt s i ≤ hi by omega]
theorem isBetween_eq (s:ByteArray) (lo hi:Int) (k:Nat) (hk:s.size < k) (hb:s.size ≤ 4611686018427387904):impl_isBetween.f k s lo hi = some (bAll (fun b=>decide (lo ≤ b) && decide (b ≤ hi)) s s.size 0):=isBetween_l0 s.size 0 s lo hi k (by omega) hk hb
def bodyB (s:ByteArray):Bool:=bAll VB s s.size 0 && decide (s.size ≤ 40)
theorem isBody_eq (s:ByteArray) (k:Nat) (hk:s.size < k) (hb:s.size ≤ 4611686018427387904):impl_isBody.f k s = some (bodyB s):=by
 unfold impl_isBody.f bodyB
 by_cases h:s.size ≤ 40
 · rw [if_pos (by omega),isBetween_eq s 32 126 k hk hb,Option.bind_some,decide_eq_true h,Bool.and_true]
   rfl
 · rw [if_neg (by omega),decide_eq_false h,Bool.and_false]
theorem l7Body_eq (s:ByteArray) (k:Nat) (hk:s.size < k) (hb:s.size ≤ 4611686018427387904):spec_l7Body.f k s = some (bodyB s):=by
 unfold spec_l7Body.f bodyB
 rw [l4Value_eq s k hk hb,Option.bind_some]
 unfold valOk
 by_cases h:bAll VB s s.size 0 = true
 · rw [h]
   by_cases h2:s.size ≤ 80
   · rw [if_pos (by simp [h2])]
     simp only [Bool.true_and]
     congr 1
     exact decide_eq_decide.2 (by omega)
   · rw [if_neg (by simp [h2]),decide_eq_false (by omega)];rfl
 · rw [Bool.eq_false_iff.2 h,if_neg (by simp)];rfl
end Go.Proofs.YtclgmogfkoinbaaGreatDoor.V
/- When things are ok. -/
namespace Go.Proofs.YtclgmogfkoinbaaGreatDoor.V
open Go.RowKit Go.Proofs.YtclgmogfkoinbaaGreatDoor.P Go.Proofs.YtclgmogfkoinbaaGreatDoorW.PrintWords Go.Proofs.YtclgmogfkoinbaaGreatDoorW.PrintMore
def mGo:Option ByteArray → List ByteArray → Bool
 |_,[]=>true
 |none,x :: l=>nameB x && mGo (some x) l
 |some p,x :: l=>nameB x && Op.bytesLess p.toList x.toList && mGo (some x) l
theorem last_rd {pre suf:List ByteArray} {y:ByteArray}:rdOf ByteArray.empty ((pre ++ [y]) ++ suf) (((pre ++ [y]).length:Int) - 1) = y:=by
 have:(((pre ++ [y]).length:Int) - 1) = (pre.length:Int):=by simp
 rw [this,List.append_assoc]
 exact rdOf_mid _
theorem l7Marks_l0:∀ (suf pre:List ByteArray) (k N:Nat),N + suf.length + 1 < k → (∀ s ∈ suf,s.size < N ∧ s.size ≤ 4611686018427387904) → (pre ++ suf).length ≤ 4611686018427387904 →
 spec_l7Marks.l0 k (pre ++ suf) (pre.length:Int) = some (mGo pre.getLast? suf && decide ((pre ++ suf).length ≤ 2)):=by
 intro suf
 induction suf with
 |nil=>
  intro pre k N hk hs hb
  obtain ⟨k,rfl⟩:=succ_of hk
  rw [spec_l7Marks.l0,if_neg end_not_lt]
  have:mGo pre.getLast? [] = true:=by cases pre.getLast? <;> rfl
  rw [this,Bool.true_and]
  congr 1
  exact decide_eq_decide.2 (by omega)
 |cons x suf ih=>
  intro pre k N hk hs hb
  obtain ⟨k,rfl⟩:=succ_of hk
  have hx:=hs x (by simp)
  have hlen:pre.length < 4611686018427387904:=by simp at hb;omega
  have hn:=ih (pre ++ [x]) k N (by simp at hk;omega) (fun s h=>hs s (by simp [h])) (by simpa using hb)
  rw [← snoc_app] at hn
  rw [List.getLast?_concat] at hn
  rw [spec_l7Marks.l0,if_pos mid_lt,if_pos (nat_le0 _),rdOf_mid,sNameOk_eq x k (by omega) (by omega),Option.bind_some,wrap_snoc (x:=x) (by omega),hn]
  rcases List.eq_nil_or_concat pre with rfl|⟨pre',y,rfl⟩
  · cases h:nameB x
    · simp [mGo,h]
    · rw [if_pos rfl,if_neg (by simp)]
      simp [mGo,h]
  · rw [List.concat_eq_append] at *
    cases h:nameB x
    · rw [if_neg (by simp),List.getLast?_concat];simp [mGo,h]
    · have hp:0 < (pre' ++ [y]).length:=by simp
      rw [if_pos rfl,if_pos (by omega),wrap_id (i:=((pre' ++ [y]).length:Int) - 1) (by omega) (by omega),if_pos (by omega),if_pos (by have:=mid_lt (pre:=pre' ++ [y]) (suf:=suf) (x:=x);omega),last_rd,List.getLast?_concat]
      cases h2:Op.bytesLess y.toList x.toList
      · rw [if_neg (by simp)];simp [mGo,h,h2]
      · rw [if_pos rfl];simp [mGo,h,h2]
def tOk (a b:ByteArray) (u r:Int) (g:Bool) (l:List ByteArray) (d:ByteArray):Bool:=nameB a && nameB b && decide (1 ≤ u ∧ u ≤ 99999) && decide (1 ≤ r ∧ r ≤ 99999) && (mGo none l && decide (l.length ≤ 2)) && bodyB d && (!g || decide (0 < l.length))
theorem sThingOk_eq (a b:ByteArray) (u r:Int) (g:Bool) (l:List ByteArray) (d:ByteArray) (k N:Nat) (hk:N + l.length + 1 < k) (ha:a.size < N) (hb:b.size < N) (hl:∀ s ∈ l,s.size < N) (hd:d.size < N) (hN:N ≤ 4611686018427387904) (hll:l.length ≤ 4611686018427387904) :
 spec_ThingOk.f k a b u r g l d = some (tOk a b u r g l d):=by
 have hm:=l7Marks_l0 l [] k N (by omega) (fun s h=>⟨hl s h,by have:=hl s h;omega⟩) (by simpa using hll)
 rw [List.nil_append,show ((([]:List ByteArray).length:Nat):Int) = 0 from rfl] at hm
 unfold spec_ThingOk.f tOk
 rw [sNameOk_eq a k (by omega) (by omega),Option.bind_some,sNameOk_eq b k (by omega) (by omega),Option.bind_some,l1In_eq,l1In_eq,Option.bind_some,Option.bind_some]
 unfold spec_l7Marks.f
 rw [hm,Option.bind_some,l7Body_eq d k (by omega) (by omega),Option.bind_some]
 show _ = some (nameB a && nameB b && decide (1 ≤ u ∧ u ≤ 99999) && decide (1 ≤ r ∧ r ≤ 99999) && (mGo ([]:List ByteArray).getLast? l && decide (l.length ≤ 2)) && bodyB d && (!g || decide (0 < l.length)))
 cases nameB a
 · rfl
 cases nameB b
 · rfl
 cases h1:decide (1 ≤ u ∧ u ≤ 99999)
 · rfl
 cases h2:decide (1 ≤ r ∧ r ≤ 99999)
 · rfl
 cases h3:(mGo ([]:List ByteArray).getLast? l && decide (l.length ≤ 2))
 · rfl
 cases bodyB d
 · rfl
 cases g
 · rfl
 · simp only [if_true,Bool.true_and,Bool.not_true,Bool.false_or]
   congr 1
   exact decide_eq_decide.2 (by omega)
theorem isThing_l0 (a b:ByteArray) (u r:Int) (g:Bool) (d:ByteArray) (N:Nat) (hN:N ≤ 4611686018427387904) (ha:a.size < N) (hb:b.size < N) (hd:d.size < N):∀ (suf pre:List ByteArray) (k:Nat),N + suf.length + 1 < k → (pre ++ suf).length ≤ 4611686018427387904 →
 impl_isThing.l0 k (pre ++ suf) ((pre ++ suf).length:Int) (pre.length:Int) a b u r g (pre ++ suf) d = some (nameB a && nameB b && decide (1 ≤ u ∧ u ≤ 99999) && decide (1 ≤ r ∧ r ≤ 99999) && (mGo pre.getLast? suf && decide ((pre ++ suf).length ≤ 2)) && bodyB d && (!g || decide (0 < (pre ++ suf).length))):=by
 intro suf
 induction suf with
 |nil=>
  intro pre k hk hl
  obtain ⟨k,rfl⟩:=succ_of hk
  rw [impl_isThing.l0,if_neg (by simp),isName_eq,Option.bind_some,isName_eq,Option.bind_some,isBody_eq d k (by omega) (by omega)]
  simp only [Option.bind_some]
  have:mGo pre.getLast? [] = true:=by cases pre.getLast? <;> rfl
  rw [this,Bool.true_and,List.append_nil] at *
  generalize pre.length = n at *
  cases nameB a
  · rfl
  cases nameB b
  · rfl
  by_cases h3:n ≤ 2
  · rw [if_pos rfl,if_pos rfl,if_neg (by omega),decide_eq_true h3]
    by_cases h1:1 ≤ u ∧ u ≤ 99999
    · rw [if_pos h1.1,if_pos h1.2,decide_eq_true h1]
      by_cases h2:1 ≤ r ∧ r ≤ 99999
      · rw [if_pos h2.1,if_pos h2.2,decide_eq_true h2]
        cases g
        · simp
        · by_cases h4:0 < n
          · rw [if_pos rfl,if_neg (by omega),decide_eq_true h4];simp
          · rw [if_pos rfl,if_pos (by omega),decide_eq_false h4];simp
      · rw [decide_eq_false h2]
        by_cases h5:r ≥ 1
        · rw [if_pos h5,if_neg (fun h=>h2 ⟨h5,h⟩)];simp
        · rw [if_neg h5];simp
    · rw [decide_eq_false h1]
      by_cases h5:u ≥ 1
      · rw [if_pos h5,if_neg (fun h=>h1 ⟨h5,h⟩)];simp
      · rw [if_neg h5];simp
  · rw [if_pos rfl,if_pos rfl,if_pos (by omega),decide_eq_false h3];simp
 |cons x suf ih=>
  intro pre k hk hl
  obtain ⟨k,rfl⟩:=succ_of hk
  have hlen:pre.length < 4611686018427387904:=by simp at hl;omega
  have hn:=ih (pre ++ [x]) k (by simp at hk;omega) (by simpa using hl)
  rw [← snoc_app,List.getLast?_concat] at hn
  rw [impl_isThing.l0,if_pos mid_lt,if_pos (nat_le0 _),if_pos mid_lt,rdOf_mid,isName_eq,Option.bind_some,wrap_snoc (x:=x) (by omega),hn]
  rcases List.eq_nil_or_concat pre with rfl|⟨pre',y,rfl⟩
  · cases h:nameB x
    · simp [mGo,h]
    · rw [if_pos rfl,if_neg (by simp)]
      simp [mGo,h]
  · rw [List.concat_eq_append] at *
    cases h:nameB x
    · rw [if_neg (by simp),List.getLast?_concat];simp [mGo,h]
    · have hp:0 < (pre' ++ [y]).length:=by simp
      rw [if_pos rfl,if_pos (by omega),wrap_id (i:=((pre' ++ [y]).length:Int) - 1) (by omega) (by omega),if_pos (by omega),if_pos (by have:=mid_lt (pre:=pre' ++ [y]) (suf:=suf) (x:=x);omega),last_rd,List.getLast?_concat]
      cases h2:Op.bytesLess y.toList x.toList
      · rw [if_neg (by simp)];simp [mGo,h,h2]
      · rw [if_pos rfl];simp [mGo,h,h2]
theorem isThing_eq (a b:ByteArray) (u r:Int) (g:Bool) (l:List ByteArray) (d:ByteArray) (k N:Nat) (hk:N + l.length + 1 < k) (ha:a.size < N) (hb:b.size < N) (hd:d.size < N) (hN:N ≤ 4611686018427387904) (hll:l.length ≤ 4611686018427387904) :
 impl_isThing.f k a b u r g l d = some (tOk a b u r g l d):=by
 have:=isThing_l0 a b u r g d N hN ha hb hd l [] k hk (by simpa using hll)
 rw [List.nil_append,show ((([]:List ByteArray).length:Nat):Int) = 0 from rfl] at this
 unfold impl_isThing.f
 rw [this];rfl
end Go.Proofs.YtclgmogfkoinbaaGreatDoor.V
/- What the things of a space use in all: the program's sum and the reference's. -/
namespace Go.Proofs.YtclgmogfkoinbaaGreatDoor.V
open Go.RowKit Go.Proofs.YtclgmogfkoinbaaGreatDoor.P Go.Proofs.YtclgmogfkoinbaaGreatDoorW.PrintWords Go.Proofs.YtclgmogfkoinbaaGreatDoorW.PrintMore
theorem rdTh {pre suf:List SiT29} {x:SiT29}:riT38 (pre ++ x :: suf) (pre.length:Int) = x:=by simp [riT38]
def okT (x:SiT29):Bool:=tOk x.f0 x.f1 x.f2 x.f3 x.f4 x.f5 x.f6
def SmT (N:Nat) (x:SiT29):Prop:=x.f0.size < N ∧ x.f1.size < N ∧ x.f5.length < N ∧ (∀ s ∈ x.f5,s.size < N) ∧ x.f6.size < N
def sumT (l:List SiS28) (o:ByteArray):List SiT29 → Nat
 |[]=>0
 |x :: r=>(if has (nms (chain l x.f0)) o = true then 1 + x.f6.size else 0) + sumT l o r
theorem sumT_le (l:List SiS28) (o:ByteArray) (N:Nat):∀ (r:List SiT29),(∀ x ∈ r,SmT N x) → sumT l o r ≤ N * r.length
 |[],_=>Nat.zero_le _
 |x :: r,h=>by
  have h1:=sumT_le l o N r (fun y hy=>h y (List.mem_cons_of_mem _ hy))
  have h2:=(h x List.mem_cons_self).2.2.2.2
  rw [sumT,List.length_cons,Nat.mul_succ]
  split <;> omega
theorem l8Sum_l0 {l:List SiS28} (ha:areS l = true) (o:ByteArray):∀ (suf pre:List SiT29) (n:Nat) (k:Nat),suf.length + 40 < k → (pre ++ suf).length ≤ 1000000000 → n + sumT l o suf ≤ 4611686018427387904 →
 spec_l8Sum.l0 k l (pre ++ suf) o (n:Int) (pre.length:Int) = some ((n + sumT l o suf:Nat):Int):=by
 intro suf
 have h7:=areS_len ha
 induction suf with
 |nil=>
  intro pre n k hk hb hn
  obtain ⟨k,rfl⟩:=succ_of hk
  rw [spec_l8Sum.l0,if_neg end_not_lt];rfl
 |cons x suf ih=>
  intro pre n k hk hb hn
  obtain ⟨k,rfl⟩:=succ_of hk
  rw [sumT] at hn ⊢
  rw [spec_l8Sum.l0,if_pos mid_lt,if_pos (nat_le0 _),rdTh,l8In_eq ha (by omega),Option.bind_some]
  by_cases h:has (nms (chain l x.f0)) o = true
  · rw [if_pos h] at hn ⊢
    rw [if_pos h,wrap_id (i:=(n:Int) + 1) (by omega) (by omega),wrap_id (i:=(n:Int) + 1 + _) (by omega) (by omega),wrap_snoc (x:=x) (by simp at hb;omega),snoc_app,
     show (n:Int) + 1 + (x.f6.size:Int) = ((n + 1 + x.f6.size:Nat):Int) by omega,ih (pre ++ [x]) (n + 1 + x.f6.size) k (by simp at hk;omega) (by simpa using hb) (by omega)]
    congr 2;omega
  · rw [if_neg h] at hn ⊢
    rw [if_neg h,wrap_snoc (x:=x) (by simp at hb;omega),snoc_app,ih (pre ++ [x]) n k (by simp at hk;omega) (by simpa using hb) (by omega)]
    congr 2;omega
theorem useSum_l0 {l:List SiS28} (ha:areS l = true) (o:ByteArray):∀ (suf pre:List SiT29) (n:Nat) (k:Nat),suf.length + 40 < k → (pre ++ suf).length ≤ 1000000000 → n + sumT l o suf ≤ 4611686018427387904 →
 impl_useSum.l0 k l o (n:Int) (pre ++ suf) ((pre ++ suf).length:Int) (pre.length:Int) = some ((n + sumT l o suf:Nat):Int):=by
 intro suf
 have h7:=areS_len ha
 induction suf with
 |nil=>
  intro pre n k hk hb hn
  obtain ⟨k,rfl⟩:=succ_of hk
  rw [impl_useSum.l0,if_neg end_not_lt];rfl
 |cons x suf ih=>
  intro pre n k hk hb hn
  obtain ⟨k,rfl⟩:=succ_of hk
  have hc:=chain_len ha x.f0
  rw [sumT] at hn ⊢
  rw [impl_useSum.l0,if_pos mid_lt,if_pos (nat_le0 _),if_pos mid_lt,rdTh,spaceUp_eq l x.f0 k (by omega) (areS_en ha x.f0),Option.bind_some]
  rw [show nms (up 9 l x.f0) = nms (chain l x.f0) from rfl,Contains_eq _ o k (by rw [nms_len];omega) (by rw [nms_len];omega),Option.bind_some]
  by_cases h:has (nms (chain l x.f0)) o = true
  · rw [if_pos h] at hn ⊢
    rw [if_pos h,impl_costOf.f,Option.bind_some,wrap_id (i:=1 + (x.f6.size:Int)) (by omega) (by omega),wrap_id (i:=(n:Int) + _) (by omega) (by omega),wrap_snoc (x:=x) (by simp at hb;omega),snoc_app,
     show (n:Int) + (1 + (x.f6.size:Int)) = ((n + 1 + x.f6.size:Nat):Int) by omega,ih (pre ++ [x]) (n + 1 + x.f6.size) k (by simp at hk;omega) (by simpa using hb) (by omega)]
    congr 2;omega
  · rw [if_neg h] at hn ⊢
    rw [if_neg h,wrap_snoc (x:=x) (by simp at hb;omega),snoc_app,ih (pre ++ [x]) n k (by simp at hk;omega) (by simpa using hb) (by omega)]
    congr 2;omega
theorem sum_bd {l:List SiS28} {ts:List SiT29} {N:Nat} (ht:∀ x ∈ ts,SmT N x) (hN2:N ≤ 2000000) (hl:ts.length ≤ N) (o:ByteArray):sumT l o ts ≤ 4000000000000:=by
 have hle:=sumT_le l o N ts ht
 have hm:N * ts.length ≤ 2000000 * 2000000:=Nat.mul_le_mul hN2 (by omega)
 omega
end Go.Proofs.YtclgmogfkoinbaaGreatDoor.V
/- What a model must be: the parts of the program's test and of the reference's. -/
namespace Go.Proofs.YtclgmogfkoinbaaGreatDoor.V
open Go.RowKit Go.Proofs.YtclgmogfkoinbaaGreatDoor.P Go.Proofs.YtclgmogfkoinbaaGreatDoorW.PrintWords Go.Proofs.YtclgmogfkoinbaaGreatDoorW.PrintMore
def pB (x:SiP27):Bool:=decide (x.f1.toList = [43] ∨ x.f1.toList = [61] ∨ x.f1.toList = [45]) && (nameB x.f2 && (decide (x.f3.toList = []) || nameB x.f3))
def pasB (fl:Int):Nat → List SiP27 → Bool
 |_,[]=>true
 |i,x :: r=>decide (x.f0 = fl + 1 + i) && (pB x && pasB fl (i + 1) r)
def pasT (fl:Int):Nat → List SiP27 → Bool
 |_,[]=>true
 |i,x :: r=>decide (1 ≤ x.f0 ∧ x.f0 ≤ 99999) && pB x && (decide (x.f0 = fl + 1 + i) && pasT fl (i + 1) r)
theorem pas_eq (fl:Int) (h0:0 ≤ fl):∀ (l:List SiP27) (i:Nat),fl + i + l.length ≤ 99999 → pasT fl i l = pasB fl i l
 |[],_,_=>rfl
 |x :: r,i,h=>by
  rw [List.length_cons] at h
  rw [pasT,pasB,pas_eq fl h0 r (i + 1) (by omega)]
  by_cases he:x.f0 = fl + 1 + i
  · rw [decide_eq_true he,decide_eq_true (show 1 ≤ x.f0 ∧ x.f0 ≤ 99999 by omega)];simp
  · rw [decide_eq_false he];simp
theorem pstep (x:SiP27) (G:Option Bool):impl_arePasts.st x G = if pB x = true then G else some false:=by
 unfold impl_arePasts.st
 simp only [isName_eq,Option.bind_some]
 unfold pB
 by_cases a:x.f1.toList = ([43]:List UInt8) ∨ x.f1.toList = ([61]:List UInt8) ∨ x.f1.toList = ([45]:List UInt8)
 · rw [if_pos a,decide_eq_true a]
   cases nameB x.f2 <;> by_cases c:x.f3.toList = ([]:List UInt8) <;> cases nameB x.f3 <;> simp [c]
 · rw [if_neg a,decide_eq_false a];rfl
theorem arePasts_l1 (fl:Int) (h0:0 ≤ fl) (h9:fl ≤ 99999) (P:List SiP27) (hb:P.length ≤ 1000000000):∀ (suf pre:List SiP27),pre ++ suf = P → impl_arePasts.l1 fl P suf.length (pre.length:Int) = some (pasB fl pre.length suf):=by
 intro suf
 induction suf with
 |nil=>intro pre _;rfl
 |cons x suf ih=>
  intro pre hp
  have hr:riP36 P (pre.length:Int) = x:=by rw [← hp];exact rdP_mid
  have hn:=ih (pre ++ [x]) (by rw [← hp];simp)
  have hl:P.length = pre.length + (suf.length + 1):=by rw [← hp];simp
  rw [List.length_cons,impl_arePasts.l1,hr,pstep x,show (pre.length:Int) + 1 = ((pre ++ [x]).length:Int) by simp,hn,wrap_id (i:=fl + 1) (by omega) (by omega),wrap_id (i:=fl + 1 + (pre.length:Int)) (by omega) (by omega),pasB,show (pre ++ [x]).length = pre.length + 1 by simp]
  by_cases he:x.f0 = fl + 1 + (pre.length:Int)
  · rw [if_pos he,decide_eq_true he]
    cases pB x <;> simp
  · rw [if_neg he,decide_eq_false he];simp
def PB (rev fl:Int) (l:List SiP27):Bool:=decide (l.length ≤ 8) && (decide ((l.length:Int) = rev - fl) && pasB fl 0 l)
theorem arePasts_eq (rev b fl:Int) (h0:0 ≤ fl) (h1:fl ≤ rev) (h9:rev ≤ 99999) (l3:List SiS28) (l4:List SiU30) (l5:List SiT29) (l6:List SiP27) (k:Nat) (hk:20 < k) (hb:l6.length ≤ 1000000000) :
 impl_arePasts.f k rev b fl l3 l4 l5 l6 = some (PB rev fl l6):=by
 unfold impl_arePasts.f PB
 by_cases hl:8 < l6.length
 · rw [if_pos hl,decide_eq_false (by omega)];rfl
 · rw [if_neg hl,wrap_id (i:=rev - fl) (by omega) (by omega),decide_eq_true (show l6.length ≤ 8 by omega)]
   by_cases he:(l6.length:Int) = rev - fl
   · have:=arePasts_l1 fl h0 (by omega) l6 hb l6 [] rfl
     rw [if_pos he,decide_eq_true he,show (0:Int) = (([]:List SiP27).length:Int) from rfl,this];rfl
   · rw [if_neg he,decide_eq_false he];rfl
theorem l10Past_eq (x:SiP27) (k N:Nat) (hk:N < k) (hN:N ≤ 9223372036854775806) (h2:x.f2.size < N) (h3:x.f3.size < N):spec_l10Past.f k x.f0 x.f1 x.f2 x.f3 = some (decide (1 ≤ x.f0 ∧ x.f0 ≤ 99999) && pB x):=by
 unfold spec_l10Past.f spec_l1In.f pB
 simp only [sNameOk_eq x.f2 k (by omega) (by omega),sNameOk_eq x.f3 k (by omega) (by omega),Option.bind_some]
 by_cases g1:x.f0 ≥ 1
 · rw [if_pos g1,Option.bind_some]
   by_cases g2:x.f0 ≤ 99999
   · rw [decide_eq_true g2,if_pos rfl,decide_eq_true (show 1 ≤ x.f0 ∧ x.f0 ≤ 99999 from ⟨g1,g2⟩)]
     by_cases a:x.f1.toList = ([43]:List UInt8)
     · cases nameB x.f2 <;> by_cases c:x.f3.toList = ([]:List UInt8) <;> cases nameB x.f3 <;> simp [a,c]
     by_cases b:x.f1.toList = ([61]:List UInt8)
     · cases nameB x.f2 <;> by_cases c:x.f3.toList = ([]:List UInt8) <;> cases nameB x.f3 <;> simp [b,c]
     by_cases d:x.f1.toList = ([45]:List UInt8)
     · cases nameB x.f2 <;> by_cases c:x.f3.toList = ([]:List UInt8) <;> cases nameB x.f3 <;> simp [d,c]
     · simp [a,b,d]
   · rw [decide_eq_false g2,if_neg (by decide),decide_eq_false (by omega)];rfl
 · rw [if_neg g1,Option.bind_some,if_neg (by decide),decide_eq_false (by omega)];rfl
theorem l10Pasts_l0 (rev b fl:Int) (h0:0 ≤ fl) (h9:fl ≤ 99999) (l3:List SiS28) (l4:List SiU30) (l5:List SiT29) (N:Nat) (hN:N ≤ 1000000000):∀ (suf pre:List SiP27) (k:Nat),N + suf.length + 1 < k → (pre ++ suf).length ≤ 1000000000 → (∀ x ∈ suf,x.f2.size < N ∧ x.f3.size < N) →
 spec_l10Pasts.l0 k (pre.length:Int) rev b fl l3 l4 l5 (pre ++ suf) = some (pasT fl pre.length suf && (decide (fl + ((pre ++ suf).length:Int) = rev) && decide ((pre ++ suf).length ≤ 8))):=by
 intro suf
 induction suf with
 |nil=>
  intro pre k hk hb hs
  obtain ⟨k,rfl⟩:=succ_of (show 0 < k by omega)
  rw [spec_l10Pasts.l0,if_neg end_not_lt,wrap_id (by omega) (by omega),pasT]
  by_cases h:fl + ((pre ++ ([]:List SiP27)).length:Int) = rev
  · rw [if_pos h,decide_eq_true h]
    simp;omega
  · rw [if_neg h,decide_eq_false h];rfl
 |cons x suf ih=>
  intro pre k hk hb hs
  obtain ⟨k,rfl⟩:=succ_of (show 0 < k by omega)
  have hx:=hs x (by simp)
  rw [List.length_cons] at hk
  have hn:=ih (pre ++ [x]) k (by omega) (by simpa using hb) (fun s h=>hs s (by simp [h]))
  rw [show pre ++ [x] ++ suf = pre ++ x :: suf by simp] at hn
  rw [spec_l10Pasts.l0,if_pos mid_lt,if_pos (nat_le0 _)]
  simp only [rdP_mid]
  rw [l10Past_eq x k N (by omega) (by omega) hx.1 hx.2,Option.bind_some,wrap_snoc (x:=x) (by simp at hb;omega),hn,wrap_id (i:=fl + (pre.length:Int)) (by omega) (by simp at hb;omega),wrap_id (i:=fl + (pre.length:Int) + 1) (by omega) (by simp at hb;omega),pasT]
  cases (decide (1 ≤ x.f0 ∧ x.f0 ≤ 99999) && pB x) with
  |false=>simp
  |true=>
   by_cases he:x.f0 = fl + 1 + (pre.length:Int)
   · rw [if_pos rfl,if_pos (by omega),decide_eq_true he];simp
   · rw [if_pos rfl,if_neg (by omega),decide_eq_false he];simp
theorem l10Pasts_eq (rev b fl:Int) (h0:0 ≤ fl) (h1:fl ≤ rev) (h9:rev ≤ 99999) (l3:List SiS28) (l4:List SiU30) (l5:List SiT29) (l6:List SiP27) (k N:Nat) (hN:N ≤ 1000000000) (hk:N + l6.length + 1 < k) (hb:l6.length ≤ 1000000000) (hs:∀ x ∈ l6,x.f2.size < N ∧ x.f3.size < N) :
 spec_l10Pasts.f k rev b fl l3 l4 l5 l6 = some (PB rev fl l6):=by
 unfold spec_l10Pasts.f PB
 have:=l10Pasts_l0 rev b fl h0 (by omega) l3 l4 l5 N hN l6 [] k hk (by simpa using hb) hs
 rw [List.nil_append,show ((([]:List SiP27).length:Nat):Int) = 0 from rfl] at this
 rw [this,show (([]:List SiP27).length) = 0 from rfl]
 by_cases he:fl + (l6.length:Int) = rev
 · rw [pas_eq fl h0 l6 0 (by omega),decide_eq_true he,decide_eq_true (show (l6.length:Int) = rev - fl by omega)]
   cases pasB fl 0 l6 <;> simp
 · rw [decide_eq_false he,decide_eq_false (show ¬ (l6.length:Int) = rev - fl by omega)];simp
def lessT (x y:SiT29):Bool:=Op.bytesLess x.f0.toList y.f0.toList || (decide (x.f0.toList = y.f0.toList) && Op.bytesLess x.f1.toList y.f1.toList)
theorem l10Less_eq (x y:SiT29):spec_l10Less.f x.f0 x.f1 x.f2 x.f3 x.f4 x.f5 x.f6 y.f0 y.f1 y.f2 y.f3 y.f4 y.f5 y.f6 = some (lessT x y):=by
 unfold spec_l10Less.f lessT
 by_cases a:Op.bytesLess x.f0.toList y.f0.toList = true
 · rw [if_pos a,a];rfl
 · rw [if_neg a,Bool.eq_false_iff.2 a]
   by_cases e:x.f0.toList = y.f0.toList
   · rw [if_pos e,decide_eq_true e];simp
   · rw [if_neg e,decide_eq_false e];rfl
def cmpS (a b:ByteArray):Int:=if Op.bytesLess a.toList b.toList = true then -1 else if Op.bytesLess b.toList a.toList = true then 1 else 0
theorem Compare_eq (a b:ByteArray):cmp_Compare_string.f a b = some (cmpS a b):=by
 unfold cmp_Compare_string.f cmp_isNaN_string.f cmpS
 simp only [bne_self_eq_false,Option.bind_some]
 rw [if_neg (by decide),if_neg (by decide)]
 split
 · rfl
 · split <;> rfl
theorem compareThings_eq (x y:SiT29) (k:Nat) (hk:4 ≤ k):∃ c,impl_compareThings.f k x.f0 x.f1 x.f2 x.f3 x.f4 x.f5 x.f6 y.f0 y.f1 y.f2 y.f3 y.f4 y.f5 y.f6 = some c ∧ decide (c ≥ 0) = !lessT x y:=by
 obtain ⟨k,rfl⟩:∃ j,k = j + 1 + 1 + 1:=⟨k - 3,by omega⟩
 unfold impl_compareThings.f
 rw [Compare_eq,Compare_eq,Option.bind_some,Option.bind_some]
 have hor:cmp_Or_int.f (k + 1 + 1 + 1) [cmpS x.f0 y.f0,cmpS x.f1 y.f1] = some (if cmpS x.f0 y.f0 = 0 then cmpS x.f1 y.f1 else cmpS x.f0 y.f0):=by
  unfold cmp_Or_int.f
  rw [cmp_Or_int.l0]
  by_cases h:cmpS x.f0 y.f0 = 0
  · by_cases h':cmpS x.f1 y.f1 = 0
    · simp [cmp_Or_int.l0,rd,h,h',wrap64]
    · simp [cmp_Or_int.l0,rd,h,h',wrap64]
  · simp [rd,h]
 rw [hor,Option.bind_some]
 refine ⟨_,rfl,?_⟩
 unfold lessT
 by_cases a:Op.bytesLess x.f0.toList y.f0.toList = true
 · rw [show cmpS x.f0 y.f0 = -1 by unfold cmpS;rw [if_pos a],a];rfl
 rw [Bool.not_eq_true] at a
 by_cases e:x.f0.toList = y.f0.toList
 · rw [show cmpS x.f0 y.f0 = 0 by unfold cmpS;rw [e,bl_irrefl];rfl,if_pos rfl,a,decide_eq_true e]
   unfold cmpS
   by_cases c:Op.bytesLess x.f1.toList y.f1.toList = true
   · rw [if_pos c,c];rfl
   · rw [if_neg c]
     rw [Bool.not_eq_true] at c
     rw [c]
     by_cases d:Op.bytesLess y.f1.toList x.f1.toList = true
     · rw [if_pos d];rfl
     · rw [if_neg d];rfl
 · rw [show cmpS x.f0 y.f0 = 1 by unfold cmpS;rw [a,bl_total a e];rfl,if_neg (by decide),a,decide_eq_false e];rfl
theorem cth_idx (u:Int):∀ (l:List SiT29) (i:Int),0 ≤ i → decide (0 ≤ cth.idx (cth.p u) l i) = l.any (fun y=>decide (y.f2 = u))
 |[],i,h=>by simp [cth.idx]
 |x :: r,i,h=>by
  rw [cth.idx,List.any_cons]
  by_cases hx:x.f2 = u
  · rw [if_pos (by simp [cth.p,hx]),decide_eq_true hx,decide_eq_true h];rfl
  · rw [if_neg (by simp [cth.p,hx]),decide_eq_false hx,cth_idx u r (i + 1) (by omega)];rfl
theorem cus_idx {l:List SiS28} (ha:areS l = true) (ts:List SiT29) (K:Nat) (hk:ts.length + 41 < K) (hb:ts.length ≤ 1000000000) (hbd:∀ o,sumT l o ts ≤ 4611686018427387904):∀ (us:List SiU30) (i:Int),0 ≤ i →
 ∃ r,cus.idx K l ts us i = some r ∧ decide (0 ≤ r) = !us.all (fun u=>decide (u.f1 = ((sumT l u.f0 ts:Nat):Int)))
 |[],i,h=>⟨-1,by rw [cus.idx],by simp⟩
 |u :: r,i,h=>by
  have hs:impl_useSum.f K l ts u.f0 = some ((sumT l u.f0 ts:Nat):Int):=by
   have h0:=useSum_l0 ha u.f0 ts [] 0 K (by omega) (by simpa using hb) (by have:=hbd u.f0;omega)
   rw [List.nil_append,Nat.zero_add] at h0
   unfold impl_useSum.f
   exact h0
  rw [cus.idx,hs,Option.bind_some,List.all_cons]
  by_cases hx:u.f1 = ((sumT l u.f0 ts:Nat):Int)
  · obtain ⟨q,h1,h2⟩:=cus_idx ha ts K hk hb hbd r (i + 1) (by omega)
    rw [if_pos hx,decide_eq_true hx]
    exact ⟨q,h1,by rw [h2];simp⟩
  · rw [if_neg hx,decide_eq_false hx]
    exact ⟨i,rfl,by simp [h]⟩
end Go.Proofs.YtclgmogfkoinbaaGreatDoor.V
/- The things of a model, and the model as_ a whole: the program's test and the reference's are one. -/
namespace Go.Proofs.YtclgmogfkoinbaaGreatDoor.V
open Go.RowKit Go.Proofs.YtclgmogfkoinbaaGreatDoor.P Go.Proofs.YtclgmogfkoinbaaGreatDoorW.PrintWords Go.Proofs.YtclgmogfkoinbaaGreatDoorW.PrintMore
theorem prevT {q suf:List SiT29} {p:SiT29}:riT38 ((q ++ [p]) ++ suf) (((q ++ [p]).length:Int) - 1) = p:=by
 have h:(((q ++ [p]).length:Int) - 1) = (q.length:Int):=by simp
 rw [h,List.append_assoc]
 exact rdTh
def thX (rev uid:Int) (sp:List SiS28) (pre:List SiT29) (x:SiT29):Bool:=
 okT x && (decide (0 ≤ ix sp x.f0) && (decide (x.f3 ≤ rev) && (decide (x.f2 ≤ uid) && (match pre.getLast? with|none=>true|some p=>lessT p x))))
def thG (rev uid:Int) (sp:List SiS28):List SiT29 → List SiT29 → Bool
 |_,[]=>true
 |pre,x :: r=>thX rev uid sp pre x && (!pre.any (fun y=>decide (y.f2 = x.f2)) && thG rev uid sp (pre ++ [x]) r)
section
variable {rev uid fl:Int} {sp:List SiS28} {us:List SiU30} {T:List SiT29} {P:List SiP27} {N:Nat}
def usA (sp:List SiS28) (us:List SiU30) (T:List SiT29):Bool:=us.all (fun u=>decide (u.f1 = ((sumT sp u.f0 T:Nat):Int)))
theorem isModel_th (hT:T.length ≤ 1000000000) (hN:N ≤ 1000000000) {x:SiT29} (hx:SmT N x) (pre suf:List SiT29) (hp:pre ++ x :: suf = T) (k:Nat) (hk:2 * N + 10 ≤ k) :
 impl_isModel.th k rev uid sp x (if 0 < (pre.length:Int) then some (riT38 T ((pre.length:Int) - 1)) else none) = some (thX rev uid sp pre x):=by
 obtain ⟨s0,s1,s5,s5',s6⟩:=hx
 unfold impl_isModel.th
 rw [isThing_eq x.f0 x.f1 x.f2 x.f3 x.f4 x.f5 x.f6 k N (by omega) s0 s1 s6 (by omega) (by omega),Option.bind_some]
 unfold thX okT
 by_cases h1:tOk x.f0 x.f1 x.f2 x.f3 x.f4 x.f5 x.f6 = true
 · rw [if_pos h1,h1,findSpace_eq,Option.bind_some]
   by_cases h2:ix sp x.f0 < 0
   · rw [if_pos h2,decide_eq_false (show ¬ 0 ≤ ix sp x.f0 by omega)];rfl
   rw [if_neg h2,decide_eq_true (show 0 ≤ ix sp x.f0 by omega)]
   by_cases h3:rev < x.f3
   · rw [if_pos h3,decide_eq_false (show ¬ x.f3 ≤ rev by omega)];rfl
   rw [if_neg h3,decide_eq_true (show x.f3 ≤ rev by omega)]
   by_cases h4:uid < x.f2
   · rw [if_pos h4,decide_eq_false (show ¬ x.f2 ≤ uid by omega)];rfl
   rw [if_neg h4,decide_eq_true (show x.f2 ≤ uid by omega)]
   rcases List.eq_nil_or_concat pre with rfl|⟨q,p,rfl⟩
   · rw [if_neg (by simp)];rfl
   · rw [if_pos (by simp <;> omega)]
     have hpr:riT38 T (((q.concat p).length:Int) - 1) = p:=by
      rw [← hp,List.concat_eq_append];exact prevT
     simp only [hpr]
     obtain ⟨c,hc,hc2⟩:=compareThings_eq p x k (by omega)
     have hd:decide (c < 0) = lessT p x:=by
      rw [show decide (c < 0) = !decide (c ≥ 0) by by_cases e:c < 0 <;> simp [e] <;> omega,hc2,Bool.not_not]
     rw [hc,Option.bind_some,hd,List.concat_eq_append,List.getLast?_concat]
     rfl
 · rw [if_neg h1,Bool.eq_false_iff.2 h1];rfl
theorem isModel_l1 (hT:T.length ≤ 1000000000) (hN:N ≤ 1000000000):∀ (suf pre:List SiT29),pre ++ suf = T → (∀ x ∈ suf,SmT N x) → ∀ k,2 * N + 10 ≤ k →
 impl_isModel.l1 k rev uid sp T suf.length (pre.length:Int) = some (thG rev uid sp pre suf):=by
 intro suf
 induction suf with
 |nil=>intro pre _ _ k _;rfl
 |cons x suf ih=>
  intro pre hp hs k hk
  have hrd:riT38 T (pre.length:Int) = x:=by rw [← hp];exact rdTh
  rw [List.length_cons,impl_isModel.l1]
  simp only [hrd]
  rw [isModel_th hT hN (hs x (by simp)) pre suf hp k hk,Option.bind_some,thG]
  cases hX:thX rev uid sp pre x with
  |false=>rw [if_neg (by decide)];rfl
  |true=>
   rw [if_pos rfl,impl_Thing_67.f,Option.bind_some,cth_idx x.f2 _ 0 (by decide)]
   rw [show T.take ((pre.length:Int)).toNat = pre by rw [← hp];simp]
   cases hA:pre.any (fun y=>decide (y.f2 = x.f2)) with
   |true=>rw [if_pos rfl];rfl
   |false=>
    rw [if_neg (by decide),show (pre.length:Int) + 1 = ((pre ++ [x]).length:Int) by simp,ih (pre ++ [x]) (by simpa using hp) (fun y hy=>hs y (by simp [hy])) k hk]
    rfl
theorem l10Things_th (hT:T.length ≤ 1000000000) (hS:sp.length ≤ 1000000000) (hN:N ≤ 1000000000) {x:SiT29} (hx:SmT N x) (pre suf:List SiT29) (hp:pre ++ x :: suf = T) (k:Nat) (hk:2 * N + sp.length + 10 ≤ k) :
 spec_l10Things.th k rev uid sp x (if 0 < (pre.length:Int) then some (riT38 T ((pre.length:Int) - 1)) else none) = some (thX rev uid sp pre x):=by
 obtain ⟨s0,s1,s5,s5',s6⟩:=hx
 unfold spec_l10Things.th
 rw [sThingOk_eq x.f0 x.f1 x.f2 x.f3 x.f4 x.f5 x.f6 k N (by omega) s0 s1 s5' s6 (by omega) (by omega),Option.bind_some]
 unfold thX okT
 by_cases h1:tOk x.f0 x.f1 x.f2 x.f3 x.f4 x.f5 x.f6 = true
 · rw [if_pos h1,h1,l8At_eq sp x.f0 k (by omega) (by omega),Option.bind_some]
   by_cases h2:ix sp x.f0 < 0
   · rw [if_pos h2,decide_eq_false (show ¬ 0 ≤ ix sp x.f0 by omega)];rfl
   rw [if_neg h2,decide_eq_true (show 0 ≤ ix sp x.f0 by omega)]
   by_cases h3:rev < x.f3
   · rw [if_pos h3,decide_eq_false (show ¬ x.f3 ≤ rev by omega)];rfl
   rw [if_neg h3,decide_eq_true (show x.f3 ≤ rev by omega)]
   by_cases h4:uid < x.f2
   · rw [if_pos h4,decide_eq_false (show ¬ x.f2 ≤ uid by omega)];rfl
   rw [if_neg h4,decide_eq_true (show x.f2 ≤ uid by omega)]
   rcases List.eq_nil_or_concat pre with rfl|⟨q,p,rfl⟩
   · rw [if_neg (by simp)];rfl
   · rw [if_pos (by simp <;> omega)]
     have hpr:riT38 T (((q.concat p).length:Int) - 1) = p:=by
      rw [← hp,List.concat_eq_append];exact prevT
     simp only [hpr]
     rw [l10Less_eq,Option.bind_some,List.concat_eq_append,List.getLast?_concat]
     rfl
 · rw [if_neg h1,Bool.eq_false_iff.2 h1];rfl
theorem l10Things_l1 (hT:T.length ≤ 1000000000) (hS:sp.length ≤ 1000000000) (hN:N ≤ 1000000000):∀ (suf pre:List SiT29),pre ++ suf = T → (∀ x ∈ suf,SmT N x) → ∀ k,2 * N + sp.length + 10 ≤ k →
 spec_l10Things.l1 k rev uid sp T suf.length (pre.length:Int) = some (thG rev uid sp pre suf):=by
 intro suf
 induction suf with
 |nil=>intro pre _ _ k _;rfl
 |cons x suf ih=>
  intro pre hp hs k hk
  have hrd:riT38 T (pre.length:Int) = x:=by rw [← hp];exact rdTh
  rw [List.length_cons,spec_l10Things.l1]
  simp only [hrd]
  rw [l10Things_th hT hS hN (hs x (by simp)) pre suf hp k hk,Option.bind_some,thG]
  cases hX:thX rev uid sp pre x with
  |false=>rw [if_neg (by decide)];rfl
  |true=>
   rw [if_pos rfl,show T.take ((pre.length:Int)).toNat = pre by rw [← hp];simp]
   cases hA:pre.any (fun y=>decide (y.f2 = x.f2)) with
   |true=>rw [if_pos rfl];rfl
   |false=>
    rw [if_neg (by decide),show (pre.length:Int) + 1 = ((pre ++ [x]).length:Int) by simp,ih (pre ++ [x]) (by simpa using hp) (fun y hy=>hs y (by simp [hy])) k hk]
    rfl
theorem l10Things_eq (hT:T.length ≤ 1000000000) (hS:sp.length ≤ 1000000000) (hN:N ≤ 1000000000) (hs:∀ x ∈ T,SmT N x) (k:Nat) (hk:2 * N + sp.length + 10 ≤ k) :
 spec_l10Things.f k rev uid fl sp us T P = some (thG rev uid sp [] T && decide (T.length ≤ 10)):=by
 have h1:=l10Things_l1 (rev:=rev) (uid:=uid) hT hS hN T [] rfl hs k hk
 rw [show (([]:List SiT29).length:Int) = 0 from rfl] at h1
 unfold spec_l10Things.f
 rw [h1,Option.bind_some]
 cases thG rev uid sp [] T <;> rfl
end
end Go.Proofs.YtclgmogfkoinbaaGreatDoor.V
/- A model is ok: the program's test and the reference's say one thing. -/
namespace Go.Proofs.YtclgmogfkoinbaaGreatDoor.V
open Go.RowKit Go.Proofs.YtclgmogfkoinbaaGreatDoor.P Go.Proofs.YtclgmogfkoinbaaGreatDoorW.PrintWords Go.Proofs.YtclgmogfkoinbaaGreatDoorW.PrintMore
def MB (rev uid fl:Int) (sp:List SiS28) (us:List SiU30) (T:List SiT29) (P:List SiP27):Bool:=
 decide (0 ≤ rev ∧ rev ≤ 99999) && (decide (0 ≤ uid ∧ uid ≤ 99999) && (decide (0 ≤ fl ∧ fl ≤ rev) && (areS sp && (usB sp us && (decide (T.length ≤ 10) && (PB rev fl P && (sp.all (fun s=>decide (s.f4 ≤ rev)) && (thG rev uid sp [] T && usA sp us T))))))))
theorem l1In_d (a b c:Int):spec_l1In.f a b c = some (decide (b ≤ a ∧ a ≤ c)):=by
 unfold spec_l1In.f
 by_cases h:a ≥ b
 · rw [if_pos h]
   by_cases h':a ≤ c
   · rw [decide_eq_true h',decide_eq_true (show b ≤ a ∧ a ≤ c from ⟨h,h'⟩)]
   · rw [decide_eq_false h',decide_eq_false (show ¬ (b ≤ a ∧ a ≤ c) from fun e=>h' e.2)]
 · rw [if_neg h,decide_eq_false (show ¬ (b ≤ a ∧ a ≤ c) from fun e=>h e.1)]
section
variable {rev uid fl:Int} {sp:List SiS28} {us:List SiU30} {T:List SiT29} {P:List SiP27} {N:Nat}
theorem any_all (rev:Int):∀ l:List SiS28,l.any (fun s=>decide (rev < s.f4)) = !l.all (fun s=>decide (s.f4 ≤ rev))
 |[]=>rfl
 |x :: r=>by
  rw [List.any_cons,List.all_cons,any_all rev r]
  by_cases h:rev < x.f4
  · rw [decide_eq_true h,decide_eq_false (show ¬ x.f4 ≤ rev by omega)];rfl
  · rw [decide_eq_false h,decide_eq_true (show x.f4 ≤ rev by omega)];rfl
theorem isModel_eq (hS:sp.length ≤ 1000000000) (hu:us.length ≤ 1000000000) (hP:P.length ≤ 1000000000) (hN:N ≤ 2000000) (hl:T.length ≤ N) (ht:∀ x ∈ T,SmT N x) :
 ∃ k0,∀ k,k0 ≤ k → impl_isModel.f k rev uid fl sp us T P = some (MB rev uid fl sp us T P):=by
 have hbd:∀ o,sumT sp o T ≤ 4611686018427387904:=fun o=>by have:=sum_bd (l:=sp) ht hN hl o;omega
 refine ⟨2 * N + us.length + 500,fun k hk=>?_⟩
 unfold impl_isModel.f MB
 by_cases h6:rev < 0 ∨ 99999 < rev ∨ uid < 0 ∨ 99999 < uid ∨ fl < 0 ∨ rev < fl
 · rw [if_pos h6]
   by_cases a1:0 ≤ rev ∧ rev ≤ 99999
   · by_cases a2:0 ≤ uid ∧ uid ≤ 99999
     · rw [decide_eq_false (show ¬ (0 ≤ fl ∧ fl ≤ rev) by omega)];simp
     · rw [decide_eq_false a2];simp
   · rw [decide_eq_false a1];rfl
 rw [if_neg h6,decide_eq_true (show 0 ≤ rev ∧ rev ≤ 99999 by omega),decide_eq_true (show 0 ≤ uid ∧ uid ≤ 99999 by omega),decide_eq_true (show 0 ≤ fl ∧ fl ≤ rev by omega),areSpaces_eq sp k (by omega),Option.bind_some]
 simp only [Bool.true_and]
 cases ha:areS sp with
 |false=>rfl
 |true=>
 rw [if_pos rfl,areUses_eq sp us k (by omega) hu hS,Option.bind_some]
 cases hb:usB sp us with
 |false=>rfl
 |true=>
 rw [if_pos rfl]
 by_cases hc:10 < T.length
 · rw [if_pos hc,decide_eq_false (show ¬ T.length ≤ 10 by omega)];rfl
 rw [if_neg hc,decide_eq_true (show T.length ≤ 10 by omega),arePasts_eq rev uid fl (by omega) (by omega) (by omega) sp us T P k (by omega) hP,Option.bind_some]
 cases hp:PB rev fl P with
 |false=>rfl
 |true=>
 rw [if_pos rfl,any_all]
 cases hall:sp.all (fun s=>decide (s.f4 ≤ rev)) with
 |false=>rfl
 |true=>
 have h1:=isModel_l1 (rev:=rev) (uid:=uid) (sp:=sp) (T:=T) (N:=N) (by omega) (by omega) T [] rfl ht k (by omega)
 rw [show (([]:List SiT29).length:Int) = 0 from rfl] at h1
 rw [show (!true) = false from rfl,if_neg (by decide),impl_isModel.rest,h1,Option.bind_some]
 cases hth:thG rev uid sp [] T with
 |false=>rfl
 |true=>
 obtain ⟨r,hr1,hr2⟩:=cus_idx ha T k (by omega) (by omega) hbd us 0 (by decide)
 rw [if_pos rfl,impl_Use_69.f,hr1,Option.bind_some,Option.bind_some,hr2]
 unfold usA
 simp
theorem modelOk_l1 (ha:areS sp = true) (hS:sp.length ≤ 1000000000) (hT:T.length ≤ 1000000000) (hbd:∀ o,sumT sp o T ≤ 4611686018427387904) (k:Nat) (hk:T.length + 100 < k):∀ (suf pre:List SiS28) (uf ur:List SiU30),pre ++ suf = sp → ur ++ uf = us → ur.length = pre.length → usB suf uf = true →
 spec_ModelOk.l1 k rev sp us T suf.length (pre.length:Int) = some (suf.all (fun s=>decide (s.f4 ≤ rev)) && usA sp uf T):=by
 intro suf
 induction suf with
 |nil=>
  intro pre uf ur hp hq hl hB
  cases uf with
  |cons u uf=>simp [usB] at hB
  |nil=>rfl
 |cons x suf ih=>
  intro pre uf ur hp hq hl hB
  cases uf with
  |nil=>simp [usB] at hB
  |cons u uf=>
   simp only [usB,Bool.and_eq_true,decide_eq_true_eq] at hB
   obtain ⟨⟨hB1,-⟩,hB2⟩:=hB
   have h0:=ih (pre ++ [x]) uf (ur ++ [u]) (by simpa using hp) (by simpa using hq) (by simp [hl]) hB2
   have hl2:pre.length < us.length:=by rw [← hq,← hl];simp
   have hrd:riS37 sp (pre.length:Int) = x:=by rw [← hp];exact rdS_mid
   have hru:riU39 us (pre.length:Int) = u:=by rw [← hq,← hl];exact rdUs_mid
   have hs:spec_l8Sum.f k sp T x.f0 = some ((sumT sp x.f0 T:Nat):Int):=by
    have h1:=l8Sum_l0 ha x.f0 T [] 0 k (by omega) (by simpa using hT) (by have:=hbd x.f0;omega)
    rw [List.nil_append,Nat.zero_add] at h1
    unfold spec_l8Sum.f
    exact h1
   rw [List.length_cons,spec_ModelOk.l1,hrd,hru,List.all_cons]
   unfold usA
   rw [List.all_cons,hB1]
   by_cases h:rev < x.f4
   · rw [if_pos h,decide_eq_false (show ¬ x.f4 ≤ rev by omega)];rfl
   · rw [if_neg h,decide_eq_true (show x.f4 ≤ rev by omega),if_pos (by omega),hs,Option.bind_some]
     by_cases h2:u.f1 = ((sumT sp x.f0 T:Nat):Int)
     · rw [if_pos h2,decide_eq_true h2,show (pre.length:Int) + 1 = ((pre ++ [x]).length:Int) by simp,h0];rfl
     · rw [if_neg h2,decide_eq_false h2];simp
theorem modelOk_eq (hS:SmSp N sp) (hu:us.length ≤ 1000000000) (hP:P.length ≤ 1000000000) (hPs:∀ x ∈ P,x.f2.size < N ∧ x.f3.size < N) (hN:N ≤ 2000000) (hl:T.length ≤ N) (ht:∀ x ∈ T,SmT N x) :
 ∃ k0,∀ k,k0 ≤ k → spec_ModelOk.f k rev uid fl sp us T P = some (MB rev uid fl sp us T P):=by
 have hbd:∀ o,sumT sp o T ≤ 4611686018427387904:=fun o=>by have:=sum_bd (l:=sp) ht hN hl o;omega
 refine ⟨T.length + us.length + P.length + 3 * sp.length + 2 * N + 500,fun k hk=>?_⟩
 unfold spec_ModelOk.f MB
 rw [l1In_d,Option.bind_some]
 cases a1:decide (0 ≤ rev ∧ rev ≤ 99999) with
 |false=>rw [if_neg (by decide)];rfl
 |true=>
 rw [if_pos rfl,l1In_d,Option.bind_some]
 cases a2:decide (0 ≤ uid ∧ uid ≤ 99999) with
 |false=>rw [if_neg (by decide)];rfl
 |true=>
 rw [if_pos rfl,l1In_d,Option.bind_some]
 cases a3:decide (0 ≤ fl ∧ fl ≤ rev) with
 |false=>rw [if_neg (by decide)];rfl
 |true=>
 rw [if_pos rfl,sSpaces hS (by omega),Option.bind_some]
 have a1':=of_decide_eq_true a1
 have a3':=of_decide_eq_true a3
 cases ha:areS sp with
 |false=>rw [if_neg (by decide)];rfl
 |true=>
 rw [if_pos rfl,l8Uses_eq sp us k (by omega) hu,Option.bind_some]
 cases hb:usB sp us with
 |false=>rw [if_neg (by decide)];rfl
 |true=>
 have hth:spec_l10Things.f k rev uid fl sp us T P = some (thG rev uid sp [] T && decide (T.length ≤ 10)):=l10Things_eq (by omega) hS.1 (show N ≤ 1000000000 by omega) ht k (by omega)
 rw [if_pos rfl,hth,Option.bind_some]
 simp only [Bool.true_and]
 cases hc:thG rev uid sp [] T with
 |false=>rw [Bool.false_and,if_neg (by decide)];simp
 |true=>
 cases hd:decide (T.length ≤ 10) with
 |false=>rw [Bool.true_and,if_neg (by decide)];rfl
 |true=>
 rw [Bool.true_and,if_pos rfl,l10Pasts_eq rev uid fl (by omega) (by omega) (by omega) sp us T P k N (by omega) (by omega) hP hPs,Option.bind_some]
 cases hp:PB rev fl P with
 |false=>rfl
 |true=>
  rw [if_pos rfl,show (0:Int) = (([]:List SiS28).length:Int) from rfl,modelOk_l1 (rev:=rev) (us:=us) ha hS.1 (by omega) hbd k (by omega) sp [] us [] rfl rfl rfl hb]
  simp
end
end Go.Proofs.YtclgmogfkoinbaaGreatDoor.V
/- The laws' own helpers over spaces. -/
namespace Go.Proofs.YtclgmogfkoinbaaGreatDoor.V
open Go.RowKit Go.Proofs.YtclgmogfkoinbaaGreatDoor.P Go.Proofs.YtclgmogfkoinbaaGreatDoorW.PrintWords Go.Proofs.YtclgmogfkoinbaaGreatDoorW.PrintMore
theorem rdLS_mid {pre suf:List SlS33} {x:SlS33}:rlS41 (pre ++ x :: suf) (pre.length:Int) = x:=by simp [rlS41]
def szSp:List SlS33 → Int → Int
 |[],left=>left
 |x :: r,left=>if left - x.f0.size - x.f1.size < 0 then -1 else szSp r (left - x.f0.size - x.f1.size)
theorem szSpaceS_l0:∀ (suf pre:List SlS33) (left:Int) (k:Nat),suf.length < k → 0 ≤ left → left ≤ 4611686018427387904 → (∀ x ∈ suf,x.f0.size ≤ 9223372036854775807 ∧ x.f1.size ≤ 9223372036854775807) → (pre ++ suf).length < 9223372036854775807 →
 laws_szSpaceS.l0 k (pre ++ suf) left (pre.length:Int) = some (szSp suf left):=by
 intro suf
 induction suf with
 |nil=>
  intro pre left k hk h0 h1 hs hb
  obtain ⟨k,rfl⟩:=succ_of hk
  rw [laws_szSpaceS.l0,if_neg end_not_lt];rfl
 |cons x suf ih=>
  intro pre left k hk h0 h1 hs hb
  obtain ⟨k,rfl⟩:=succ_of hk
  have hx:=hs x (by simp)
  rw [laws_szSpaceS.l0,if_pos mid_lt,if_pos (nat_le0 _),rdLS_mid,laws_szSpace.f,wrap_id (i:=left - (x.f0.size:Int)) (by omega) (by omega),szSp]
  by_cases ha:left - (x.f0.size:Int) < 0
  · rw [if_pos ha,Option.bind_some,if_pos (by omega),if_pos (by omega)]
  · rw [if_neg ha,wrap_id (i:=left - (x.f0.size:Int) - (x.f1.size:Int)) (by omega) (by omega)]
    by_cases hc:left - (x.f0.size:Int) - (x.f1.size:Int) < 0
    · rw [if_pos hc,Option.bind_some,if_pos (by omega),if_pos hc]
    · rw [if_neg hc,Option.bind_some,if_neg hc,if_neg hc,wrap_snoc (x:=x) (by simp at hb;omega),snoc_app]
      exact ih (pre ++ [x]) _ k (by simpa using hk) (by omega) (by omega) (fun s h=>hs s (by simp [h])) (by simpa using hb)
theorem szSp_pos:∀ (l:List SlS33) (left:Int),0 ≤ szSp l left → szSp l left ≤ left ∧ ∀ x ∈ l,(x.f0.size:Int) ≤ left ∧ (x.f1.size:Int) ≤ left
 |[],left,_=>⟨by simp [szSp],fun x h=>by cases h⟩
 |x :: r,left,h=>by
  rw [szSp] at h ⊢
  by_cases hl:left - x.f0.size - x.f1.size < 0
  · rw [if_pos hl] at h;omega
  · rw [if_neg hl] at h ⊢
    obtain ⟨h1,h2⟩:=szSp_pos r _ h
    refine ⟨by omega,fun y hy=>?_⟩
    rcases List.mem_cons.1 hy with rfl|hy
    · omega
    · have:=h2 y hy;omega
theorem szSpaceS_eq (l:List SlS33) (left:Int) (k:Nat) (hk:l.length < k) (h0:0 ≤ left) (h1:left ≤ 4611686018427387904) (hs:∀ x ∈ l,x.f0.size ≤ 9223372036854775807 ∧ x.f1.size ≤ 9223372036854775807) (hb:l.length ≤ 9223372036854775807) :
 ∃ v,laws_szSpaceS.f k l left = some v ∧ (0 ≤ v → v ≤ left ∧ (l.length:Int) ≤ left ∧ ∀ x ∈ l,(x.f0.size:Int) ≤ left ∧ (x.f1.size:Int) ≤ left):=by
 unfold laws_szSpaceS.f
 rw [wrap_id (by omega) (by omega)]
 by_cases hl:left - l.length < 0
 · rw [if_pos hl];exact ⟨-1,rfl,fun h=>by omega⟩
 · rw [if_neg hl]
   have h2:=szSpaceS_l0 l [] (left - l.length) k hk (by omega) (by omega) hs (by simp;omega)
   rw [List.nil_append,show ((([]:List SlS33).length:Nat):Int) = 0 from rfl] at h2
   rw [h2]
   refine ⟨_,rfl,fun h=>?_⟩
   obtain ⟨h3,h4⟩:=szSp_pos l _ h
   exact ⟨by omega,by omega,fun x hx=>by have:=h4 x hx;omega⟩
def cSp (x:SlS33):SiS28:=⟨x.f0,x.f1,x.f2,x.f3,x.f4⟩
theorem toSpaceS_l0:∀ (suf pre:List SlS33) (zs:List SiS28) (k:Nat),zs.length = suf.length → suf.length < k → (pre ++ suf).length < 9223372036854775807 →
 laws_toSpaceS.l0 k (pre ++ suf) (pre.map cSp ++ zs) (pre.length:Int) = some ((pre ++ suf).map cSp):=by
 intro suf
 induction suf with
 |nil=>
  intro pre zs k hz hk hb
  obtain ⟨k,rfl⟩:=succ_of hk
  obtain rfl:zs = []:=List.eq_nil_of_length_eq_zero hz
  rw [laws_toSpaceS.l0,if_neg end_not_lt];simp
 |cons x suf ih=>
  intro pre zs k hz hk hb
  obtain ⟨k,rfl⟩:=succ_of hk
  cases zs with
  |nil=>simp at hz
  |cons z zs=>
   have hset:(pre.map cSp ++ z :: zs).set ((pre.length:Int)).toNat (cSp x) = (pre ++ [x]).map cSp ++ zs:=by
    have:=set_mid (pre:=pre.map cSp) (suf:=zs) (x:=z) (y:=cSp x)
    rw [List.length_map] at this
    rw [this];simp
   rw [laws_toSpaceS.l0,if_pos mid_lt,if_pos (nat_le0 _),rdLS_mid,laws_toSpace.f,Option.bind_some,if_pos (by simp;omega)]
   show laws_toSpaceS.l0 k (pre ++ x :: suf) ((pre.map cSp ++ z :: zs).set ((pre.length:Int)).toNat (cSp x)) (wrap64 ((pre.length:Int) + 1)) = _
   rw [hset,wrap_snoc (x:=x) (by simp at hb;omega),snoc_app]
   exact ih (pre ++ [x]) zs k (by simpa using hz) (by simpa using hk) (by simpa using hb)
theorem toSpaceS_eq (l:List SlS33) (k:Nat) (hk:l.length < k) (hb:l.length ≤ 1000000000000):laws_toSpaceS.f k l = some (l.map cSp):=by
 unfold laws_toSpaceS.f
 rw [if_pos (nat_le0 _),if_pos (by omega)]
 exact toSpaceS_l0 l [] _ k (by simp) hk (by simp;omega)
theorem eqSpaceS_l0:∀ (suf pre:List SiS28) (k:Nat),suf.length < k → (pre ++ suf).length < 9223372036854775807 → laws_eqSpaceS.l0 k (pre ++ suf) (pre ++ suf) (pre.length:Int) = some true:=by
 intro suf
 induction suf with
 |nil=>
  intro pre k hk hb
  obtain ⟨k,rfl⟩:=succ_of hk
  rw [laws_eqSpaceS.l0,if_neg end_not_lt]
 |cons x suf ih=>
  intro pre k hk hb
  obtain ⟨k,rfl⟩:=succ_of hk
  have hx:laws_eqSpace.f x.f0 x.f1 x.f2 x.f3 x.f4 x.f0 x.f1 x.f2 x.f3 x.f4 = some true:=by
   unfold laws_eqSpace.f
   rw [if_pos rfl,if_pos rfl,if_pos rfl,if_neg (by simp),if_pos rfl]
  rw [laws_eqSpaceS.l0,if_pos mid_lt,if_pos (nat_le0 _),if_pos mid_lt,rdS_mid,hx,Option.bind_some,if_pos rfl,wrap_snoc (x:=x) (by simp at hb;omega),snoc_app]
  exact ih (pre ++ [x]) k (by simpa using hk) (by simpa using hb)
theorem eqSpaceS_refl (l:List SiS28) (k:Nat) (hk:l.length < k) (hb:l.length < 9223372036854775807):laws_eqSpaceS.f k l l = some true:=by
 unfold laws_eqSpaceS.f
 rw [if_pos rfl]
 exact eqSpaceS_l0 l [] k hk hb
theorem good_sizes {l:List SlS33} (h:∀ y ∈ l,GlS24 y):∀ x ∈ l,x.f0.size ≤ 9223372036854775807 ∧ x.f1.size ≤ 9223372036854775807:=fun x hx=>⟨(h x hx).1,(h x hx).2.1⟩
end Go.Proofs.YtclgmogfkoinbaaGreatDoor.V
/- What the helpers over lists of strings tell: equality, sizes, copies. -/
namespace Go.Proofs.YtclgmogfkoinbaaGreatDoor.V
open Go.RowKit Go.Proofs.YtclgmogfkoinbaaGreatDoor.P Go.Proofs.YtclgmogfkoinbaaGreatDoorW.PrintWords Go.Proofs.YtclgmogfkoinbaaGreatDoorW.PrintMore
theorem eqStringS_l0:∀ (sa sb pa pb:List ByteArray) (k:Nat),pa.length = pb.length → sa.length = sb.length → sa.length < k → (pa ++ sa).length < 9223372036854775807 →
 laws_eqStringS.l0 k (pa ++ sa) (pb ++ sb) (pa.length:Int) = some (decide (sa = sb)):=by
 intro sa
 induction sa with
 |nil=>
  intro sb pa pb k hp hs hk hb
  obtain ⟨k,rfl⟩:=succ_of hk
  obtain rfl:sb = []:=List.eq_nil_of_length_eq_zero hs.symm
  rw [laws_eqStringS.l0,if_neg end_not_lt];rfl
 |cons x sa ih=>
  intro sb pa pb k hp hs hk hb
  obtain ⟨k,rfl⟩:=succ_of hk
  cases sb with
  |nil=>simp at hs
  |cons y sb=>
   rw [laws_eqStringS.l0,if_pos mid_lt,if_pos (nat_le0 _),if_pos (by rw [hp];exact mid_lt),rdOf_mid,hp,rdOf_mid,← hp]
   by_cases hxy:x = y
   · subst hxy
     rw [if_pos rfl,wrap_snoc (x:=x) (by simp at hb;omega),snoc_app,snoc_app (pre:=pb),ih sb (pa ++ [x]) (pb ++ [x]) k (by simp [hp]) (by simpa using hs) (by simpa using hk) (by simpa using hb)]
     simp
   · rw [if_neg (by rw [tl_iff];exact hxy)]
     simp [hxy]
theorem eqStringS_eq (a b:List ByteArray) (k:Nat) (hk:a.length < k) (hb:a.length < 9223372036854775807):laws_eqStringS.f k a b = some (decide (a = b)):=by
 unfold laws_eqStringS.f
 by_cases h:a.length = b.length
 · rw [if_pos (by rw [h])]
   exact eqStringS_l0 a b [] [] k rfl h hk hb
 · rw [if_neg (by omega)]
   have:a ≠ b:=fun e=>h (by rw [e])
   simp [this]
def szS:List ByteArray → Int → Int
 |[],left=>left
 |s :: r,left=>if left - s.size < 0 then -1 else szS r (left - s.size)
theorem szStringS_l0:∀ (suf pre:List ByteArray) (left:Int) (k:Nat),suf.length < k → 0 ≤ left → left ≤ 4611686018427387904 → (∀ s ∈ suf,s.size ≤ 9223372036854775807) → (pre ++ suf).length < 9223372036854775807 →
 laws_szStringS.l0 k (pre ++ suf) left (pre.length:Int) = some (szS suf left):=by
 intro suf
 induction suf with
 |nil=>
  intro pre left k hk h0 h1 hs hb
  obtain ⟨k,rfl⟩:=succ_of hk
  rw [laws_szStringS.l0,if_neg end_not_lt];rfl
 |cons x suf ih=>
  intro pre left k hk h0 h1 hs hb
  obtain ⟨k,rfl⟩:=succ_of hk
  have hx:=hs x (by simp)
  rw [laws_szStringS.l0,if_pos mid_lt,if_pos (nat_le0 _),rdOf_mid,wrap_id (i:=left - x.size) (by omega) (by omega),szS]
  by_cases hl:left - x.size < 0
  · rw [if_pos hl,if_pos hl]
  · rw [if_neg hl,if_neg hl,wrap_snoc (x:=x) (by simp at hb;omega),snoc_app,ih (pre ++ [x]) _ k (by simpa using hk) (by omega) (by omega) (fun s h=>hs s (by simp [h])) (by simpa using hb)]
theorem szS_pos:∀ (l:List ByteArray) (left:Int),0 ≤ szS l left → szS l left ≤ left
 |[],left,_=>by simp [szS]
 |s :: r,left,h=>by
  rw [szS] at h ⊢
  by_cases hl:left - s.size < 0
  · rw [if_pos hl] at h;omega
  · rw [if_neg hl] at h ⊢
    have:=szS_pos r _ h
    omega
theorem szStringS_eq (l:List ByteArray) (left:Int) (k:Nat) (hk:l.length < k) (h0:0 ≤ left) (h1:left ≤ 4611686018427387904) (hs:∀ s ∈ l,s.size ≤ 9223372036854775807) (hb:l.length ≤ 9223372036854775807) :
 laws_szStringS.f k l left = some (if left - l.length < 0 then -1 else szS l (left - l.length)):=by
 unfold laws_szStringS.f
 rw [wrap_id (by omega) (by omega)]
 by_cases hl:left - l.length < 0
 · rw [if_pos hl,if_pos hl]
 · rw [if_neg hl,if_neg hl]
   exact szStringS_l0 l [] _ k hk (by omega) (by omega) hs (by simp;omega)
theorem toStringS_l0:∀ (suf pre zs:List ByteArray) (k:Nat),zs.length = suf.length → suf.length < k → (pre ++ suf).length < 9223372036854775807 →
 laws_toStringS.l0 k (pre ++ suf) (pre ++ zs) (pre.length:Int) = some (pre ++ suf):=by
 intro suf
 induction suf with
 |nil=>
  intro pre zs k hz hk hb
  obtain ⟨k,rfl⟩:=succ_of hk
  obtain rfl:zs = []:=List.eq_nil_of_length_eq_zero hz
  rw [laws_toStringS.l0,if_neg end_not_lt]
 |cons x suf ih=>
  intro pre zs k hz hk hb
  obtain ⟨k,rfl⟩:=succ_of hk
  cases zs with
  |nil=>simp at hz
  |cons z zs=>
   rw [laws_toStringS.l0,if_pos mid_lt,if_pos (nat_le0 _),if_pos mid_lt,rdOf_mid,set_mid,wrap_snoc (x:=x) (by simp at hb;omega),snoc_app,snoc_app (suf:=zs),ih (pre ++ [x]) zs k (by simpa using hz) (by simpa using hk) (by simpa using hb)]
theorem toStringS_eq (l:List ByteArray) (k:Nat) (hk:l.length < k) (hb:l.length ≤ 1000000000000):laws_toStringS.f k l = some l:=by
 unfold laws_toStringS.f
 rw [if_pos (nat_le0 _),if_pos (by omega)]
 have h:=toStringS_l0 l [] (List.replicate ((l.length:Int)).toNat (⟨#[]⟩:ByteArray)) k (by simp) hk (by simp;omega)
 simpa using h
end Go.Proofs.YtclgmogfkoinbaaGreatDoor.V
/- The laws' own helpers over things. -/
namespace Go.Proofs.YtclgmogfkoinbaaGreatDoor.V
open Go.RowKit Go.Proofs.YtclgmogfkoinbaaGreatDoor.P Go.Proofs.YtclgmogfkoinbaaGreatDoorW.PrintWords Go.Proofs.YtclgmogfkoinbaaGreatDoorW.PrintMore
theorem szS_all:∀ (l:List ByteArray) (left:Int),0 ≤ szS l left → ∀ s ∈ l,(s.size:Int) ≤ left
 |[],left,_,s,h=>by cases h
 |t :: r,left,h,s,hs=>by
  rw [szS] at h
  by_cases hl:left - t.size < 0
  · rw [if_pos hl] at h;omega
  · rw [if_neg hl] at h
    rcases List.mem_cons.1 hs with rfl|hs
    · omega
    · have:=szS_all r _ h s hs;omega
theorem toThing_eq (a b:ByteArray) (u r:Int) (g:Bool) (l:List ByteArray) (d:ByteArray) (k:Nat) (hk:l.length < k) (hb:l.length ≤ 1000000000000):laws_toThing.f k a b u r g l d = some (a,b,u,r,g,l,d):=by
 unfold laws_toThing.f
 rw [toStringS_eq l k hk hb];rfl
theorem eqThing_refl (a b:ByteArray) (u r:Int) (g:Bool) (l:List ByteArray) (d:ByteArray) (k:Nat) (hk:l.length < k) (hb:l.length < 9223372036854775807):laws_eqThing.f k a b u r g l d a b u r g l d = some true:=by
 unfold laws_eqThing.f
 rw [if_pos rfl,if_pos rfl,if_pos rfl,if_pos rfl,if_neg (by simp),eqStringS_eq l l k hk hb]
 simp
end Go.Proofs.YtclgmogfkoinbaaGreatDoor.V
/- The laws' own helpers over lists of things. -/
namespace Go.Proofs.YtclgmogfkoinbaaGreatDoor.V
open Go.RowKit Go.Proofs.YtclgmogfkoinbaaGreatDoor.P Go.Proofs.YtclgmogfkoinbaaGreatDoorW.PrintWords Go.Proofs.YtclgmogfkoinbaaGreatDoorW.PrintMore
theorem rdLT_mid {pre suf:List SlT34} {x:SlT34}:rlT42 (pre ++ x :: suf) (pre.length:Int) = x:=by simp [rlT42]
theorem rdT_mid {pre suf:List SiT29} {x:SiT29}:riT38 (pre ++ x :: suf) (pre.length:Int) = x:=by simp [riT38]
def SzT (x:SlT34) (n:Int):Prop:=(x.f0.size:Int) ≤ n ∧ (x.f1.size:Int) ≤ n ∧ (x.f5.length:Int) ≤ n ∧ (∀ s ∈ x.f5,(s.size:Int) ≤ n) ∧ (x.f6.size:Int) ≤ n
theorem SzT.le {x:SlT34} {n m:Int} (h:SzT x n) (hm:n ≤ m):SzT x m:=by
 obtain ⟨a,b,c,d,e⟩:=h
 exact ⟨by omega,by omega,by omega,fun s hs=>by have:=d s hs;omega,by omega⟩
def GdT (x:SlT34):Prop:=x.f0.size ≤ 9223372036854775807 ∧ x.f1.size ≤ 9223372036854775807 ∧ x.f5.length ≤ 9223372036854775807 ∧ (∀ s ∈ x.f5,s.size ≤ 9223372036854775807) ∧ x.f6.size ≤ 9223372036854775807
theorem szThing_at (x:SlT34) (g:GdT x) (left:Int) (K:Nat) (hk:x.f5.length + 1 ≤ K) (h0:0 ≤ left) (h9:left ≤ 4611686018427387904) :
 ∃ v,laws_szThing.f K x.f0 x.f1 x.f2 x.f3 x.f4 x.f5 x.f6 left = some v ∧ (0 ≤ v → v ≤ left ∧ SzT x left):=by
 obtain ⟨ha,hb,hl,hls,hd⟩:=g
 unfold SzT laws_szThing.f
 rw [wrap_id (i:=left - (x.f0.size:Int)) (by omega) (by omega)]
 by_cases h1:left - (x.f0.size:Int) < 0
 · rw [if_pos h1];exact ⟨-1,rfl,fun h=>by omega⟩
 rw [if_neg h1,wrap_id (i:=left - (x.f0.size:Int) - (x.f1.size:Int)) (by omega) (by omega)]
 by_cases h2:left - (x.f0.size:Int) - (x.f1.size:Int) < 0
 · rw [if_pos h2];exact ⟨-1,rfl,fun h=>by omega⟩
 rw [if_neg h2,szStringS_eq x.f5 _ K (by omega) (by omega) (by omega) hls hl,Option.bind_some]
 by_cases h3:left - (x.f0.size:Int) - (x.f1.size:Int) - (x.f5.length:Int) < 0
 · rw [if_pos h3,if_pos (by omega)];exact ⟨-1,rfl,fun h=>by omega⟩
 rw [if_neg h3]
 by_cases h4:szS x.f5 (left - (x.f0.size:Int) - (x.f1.size:Int) - (x.f5.length:Int)) < 0
 · rw [if_pos h4];exact ⟨-1,rfl,fun h=>by omega⟩
 have h5:=szS_pos x.f5 (left - (x.f0.size:Int) - (x.f1.size:Int) - (x.f5.length:Int)) (by omega)
 have h6:=szS_all x.f5 (left - (x.f0.size:Int) - (x.f1.size:Int) - (x.f5.length:Int)) (by omega)
 rw [if_neg h4,wrap_id (by omega) (by omega)]
 by_cases h7:szS x.f5 (left - (x.f0.size:Int) - (x.f1.size:Int) - (x.f5.length:Int)) - (x.f6.size:Int) < 0
 · rw [if_pos h7];exact ⟨-1,rfl,fun h=>by omega⟩
 · rw [if_neg h7]
   exact ⟨_,rfl,fun h=>⟨by omega,by omega,by omega,by omega,fun s hs=>by have:=h6 s hs;omega,by omega⟩⟩
theorem szThingS_l0 (N:Nat):∀ (suf pre:List SlT34) (left:Int) (k:Nat),N + suf.length + 1 < k → 0 ≤ left → left ≤ 4611686018427387904 → (∀ x ∈ suf,GdT x ∧ x.f5.length < N) → (pre ++ suf).length < 9223372036854775807 →
 ∃ v,laws_szThingS.l0 k (pre ++ suf) left (pre.length:Int) = some v ∧ (0 ≤ v → v ≤ left ∧ ∀ x ∈ suf,SzT x left):=by
 intro suf
 induction suf with
 |nil=>
  intro pre left k hk h0 h1 hg hb
  obtain ⟨k,rfl⟩:=succ_of hk
  rw [laws_szThingS.l0,if_neg end_not_lt]
  exact ⟨left,rfl,fun _=>⟨Int.le_refl _,fun x hx=>by cases hx⟩⟩
 |cons x suf ih=>
  intro pre left k hk h0 h1 hg hb
  obtain ⟨k,rfl⟩:=succ_of hk
  obtain ⟨g1,g2⟩:=hg x List.mem_cons_self
  obtain ⟨v,hv,hv2⟩:=szThing_at x g1 left k (by omega) h0 h1
  rw [laws_szThingS.l0,if_pos mid_lt,if_pos (nat_le0 _),rdLT_mid,hv,Option.bind_some]
  by_cases hn:v < 0
  · rw [if_pos hn];exact ⟨-1,rfl,fun h=>by omega⟩
  rw [if_neg hn,wrap_snoc (x:=x) (by simp at hb;omega),snoc_app]
  obtain ⟨a1,a2⟩:=hv2 (by omega)
  obtain ⟨u,hu,hu2⟩:=ih (pre ++ [x]) v k (by simp at hk;omega) (by omega) (by omega) (fun y hy=>hg y (List.mem_cons_of_mem _ hy)) (by simpa using hb)
  refine ⟨u,hu,fun h=>⟨Int.le_trans (hu2 h).1 a1,fun y hy=>?_⟩⟩
  rcases List.mem_cons.1 hy with rfl|hy
  · exact a2
  · exact ((hu2 h).2 y hy).le a1
theorem szThingS_le (l:List SlT34) (left:Int) (k N:Nat) (hk:N + l.length + 1 < k) (h0:0 ≤ left) (h1:left ≤ 4611686018427387904) (hg:∀ x ∈ l,GdT x ∧ x.f5.length < N) (hb:l.length ≤ 9223372036854775807) :
 ∃ v,laws_szThingS.f k l left = some v ∧ (0 ≤ v → v ≤ left ∧ (l.length:Int) ≤ left ∧ ∀ x ∈ l,SzT x left):=by
 unfold laws_szThingS.f
 rw [wrap_id (by omega) (by omega)]
 by_cases h:left - (l.length:Int) < 0
 · rw [if_pos h];exact ⟨-1,rfl,fun h=>by omega⟩
 rw [if_neg h]
 obtain ⟨v,hv,hv2⟩:=szThingS_l0 N l [] (left - (l.length:Int)) k hk (by omega) (by omega) hg (by simp;omega)
 exact ⟨v,hv,fun h'=>⟨by have:=(hv2 h').1;omega,by omega,fun x hx=>((hv2 h').2 x hx).le (by omega)⟩⟩
def cTh (x:SlT34):SiT29:=⟨x.f0,x.f1,x.f2,x.f3,x.f4,x.f5,x.f6⟩
theorem toThingS_l0 (N:Nat) (hN:N ≤ 1000000000000):∀ (suf pre:List SlT34) (zs:List SiT29) (k:Nat),zs.length = suf.length → N + suf.length < k → (∀ x ∈ suf,x.f5.length < N) → (pre ++ suf).length < 9223372036854775807 →
 laws_toThingS.l0 k (pre ++ suf) (pre.map cTh ++ zs) (pre.length:Int) = some ((pre ++ suf).map cTh):=by
 intro suf
 induction suf with
 |nil=>
  intro pre zs k hz hk hs hb
  obtain ⟨k,rfl⟩:=succ_of hk
  obtain rfl:zs = []:=List.eq_nil_of_length_eq_zero hz
  rw [laws_toThingS.l0,if_neg end_not_lt];simp
 |cons x suf ih=>
  intro pre zs k hz hk hs hb
  obtain ⟨k,rfl⟩:=succ_of hk
  cases zs with
  |nil=>simp at hz
  |cons z zs=>
   have hset:(pre.map cTh ++ z :: zs).set ((pre.length:Int)).toNat (cTh x) = (pre ++ [x]).map cTh ++ zs:=by
    have:=set_mid (pre:=pre.map cTh) (suf:=zs) (x:=z) (y:=cTh x)
    rw [List.length_map] at this
    rw [this];simp
   have hx:=hs x List.mem_cons_self
   rw [laws_toThingS.l0,if_pos mid_lt,if_pos (nat_le0 _),rdLT_mid,toThing_eq _ _ _ _ _ _ _ k (by simp at hk;omega) (by omega),Option.bind_some,if_pos (by simp;omega)]
   show laws_toThingS.l0 k (pre ++ x :: suf) ((pre.map cTh ++ z :: zs).set ((pre.length:Int)).toNat (cTh x)) (wrap64 ((pre.length:Int) + 1)) = _
   rw [hset,wrap_snoc (x:=x) (by simp at hb;omega),snoc_app]
   exact ih (pre ++ [x]) zs k (by simpa using hz) (by simp at hk;omega) (fun y hy=>hs y (List.mem_cons_of_mem _ hy)) (by simpa using hb)
theorem toThingS_eq (l:List SlT34) (k N:Nat) (hk:N + l.length < k) (hN:N ≤ 1000000000000) (hs:∀ x ∈ l,x.f5.length < N) (hb:l.length ≤ 1000000000000):laws_toThingS.f k l = some (l.map cTh):=by
 unfold laws_toThingS.f
 rw [if_pos (nat_le0 _),if_pos (by omega)]
 exact toThingS_l0 N hN l [] _ k (by simp) hk hs (by simp;omega)
theorem eqThingS_l0 (N:Nat) (hN:N ≤ 1000000000000):∀ (suf pre:List SiT29) (k:Nat),N + suf.length < k → (∀ x ∈ suf,x.f5.length < N) → (pre ++ suf).length < 9223372036854775807 → laws_eqThingS.l0 k (pre ++ suf) (pre ++ suf) (pre.length:Int) = some true:=by
 intro suf
 induction suf with
 |nil=>
  intro pre k hk hs hb
  obtain ⟨k,rfl⟩:=succ_of hk
  rw [laws_eqThingS.l0,if_neg end_not_lt]
 |cons x suf ih=>
  intro pre k hk hs hb
  obtain ⟨k,rfl⟩:=succ_of hk
  have hx:=hs x List.mem_cons_self
  rw [laws_eqThingS.l0,if_pos mid_lt,if_pos (nat_le0 _),if_pos mid_lt,rdT_mid,eqThing_refl _ _ _ _ _ _ _ k (by simp at hk;omega) (by omega),Option.bind_some,if_pos rfl,wrap_snoc (x:=x) (by simp at hb;omega),snoc_app]
  exact ih (pre ++ [x]) k (by simp at hk;omega) (fun y hy=>hs y (List.mem_cons_of_mem _ hy)) (by simpa using hb)
theorem eqThingS_refl (l:List SiT29) (k N:Nat) (hk:N + l.length < k) (hN:N ≤ 1000000000000) (hs:∀ x ∈ l,x.f5.length < N) (hb:l.length < 9223372036854775807):laws_eqThingS.f k l l = some true:=by
 unfold laws_eqThingS.f
 rw [if_pos rfl]
 exact eqThingS_l0 N hN l [] k hk hs hb
end Go.Proofs.YtclgmogfkoinbaaGreatDoor.V
/- What the laws over models share: sizes, copies, and that the two tests of a model agree. -/
namespace Go.Proofs.YtclgmogfkoinbaaGreatDoor.V
open Go.RowKit Go.Proofs.YtclgmogfkoinbaaGreatDoor.P Go.Proofs.YtclgmogfkoinbaaGreatDoorW.PrintWords Go.Proofs.YtclgmogfkoinbaaGreatDoorW.PrintMore
theorem len_bound:∀ (l:List SlT34),∃ N,∀ x ∈ l,x.f5.length < N
 |[]=>⟨0,fun x hx=>by cases hx⟩
 |x :: r=>by
  obtain ⟨N,h⟩:=len_bound r
  refine ⟨N + x.f5.length + 1,fun y hy=>?_⟩
  rcases List.mem_cons.1 hy with rfl|hy
  · omega
  · have:=h y hy;omega
def Facts (sp:List SlS33) (us:List SlU35) (T:List SlT34) (P:List SlP32):Prop:=
 (sp.length ≤ 1048576 ∧ ∀ x ∈ sp,(x.f0.size:Int) ≤ 1048576 ∧ (x.f1.size:Int) ≤ 1048576) ∧ us.length ≤ 1048576 ∧ (T.length ≤ 1048576 ∧ ∀ x ∈ T,SzT x 1048576) ∧ (P.length ≤ 1048576 ∧ ∀ x ∈ P,SzPa x 1048576)
theorem szModel_eq (rev uid fl:Int) (sp:List SlS33) (us:List SlU35) (T:List SlT34) (P:List SlP32) (k N:Nat) (hk:sp.length + us.length + T.length + P.length + N + 1 < k) (h3:sp.length ≤ 9223372036854775807 ∧ ∀ y_ ∈ sp,GlS24 y_) (h4:us.length ≤ 9223372036854775807 ∧ ∀ y_ ∈ us,GlU26 y_) (h5:T.length ≤ 9223372036854775807 ∧ ∀ y_ ∈ T,GlT25 y_) (hN:∀ x ∈ T,x.f5.length < N) (h6:P.length ≤ 9223372036854775807 ∧ ∀ y_ ∈ P,GlP23 y_) :
 ∃ v,laws_szModel.f k rev uid fl sp us T P 1048576 = some v ∧ (0 ≤ v → Facts sp us T P):=by
 unfold laws_szModel.f
 obtain ⟨v,hv,hv2⟩:=szSpaceS_eq sp 1048576 k (by omega) (by omega) (by omega) (good_sizes h3.2) h3.1
 rw [hv,Option.bind_some]
 by_cases c1:v < 0
 · rw [if_pos c1];exact ⟨-1,rfl,fun h=>by omega⟩
 obtain ⟨q0,q1,q2⟩:=hv2 (by omega)
 rw [if_neg c1]
 obtain ⟨u,hu,hu2⟩:=szUseS_eq us v k (by omega) (by omega) (by omega) (good_sizesU h4.2) h4.1
 rw [hu,Option.bind_some]
 by_cases c2:u < 0
 · rw [if_pos c2];exact ⟨-1,rfl,fun h=>by omega⟩
 obtain ⟨r0,r1,r2⟩:=hu2 (by omega)
 rw [if_neg c2]
 have hgd:∀ x ∈ T,GdT x ∧ x.f5.length < N:=fun x hx=>by
  obtain ⟨a,b,_,_,_,c,d⟩:=h5.2 x hx
  exact ⟨⟨a,b,c.1,c.2,d⟩,hN x hx⟩
 obtain ⟨t,hT,hT2⟩:=szThingS_le T u k N (by omega) (by omega) (by omega) hgd h5.1
 rw [hT,Option.bind_some]
 by_cases c3:t < 0
 · rw [if_pos c3];exact ⟨-1,rfl,fun h=>by omega⟩
 obtain ⟨s0,s1,s2⟩:=hT2 (by omega)
 rw [if_neg c3]
 obtain ⟨p,hp,hp2⟩:=szPastS_eq P t k (by omega) (by omega) (by omega) (fun x hx=>⟨(h6.2 x hx).2.1,(h6.2 x hx).2.2.1,(h6.2 x hx).2.2.2⟩) h6.1
 rw [hp,Option.bind_some]
 by_cases c4:p < 0
 · rw [if_pos c4];exact ⟨-1,rfl,fun h=>by omega⟩
 obtain ⟨w0,w1,w2⟩:=hp2 (by omega)
 rw [if_neg c4]
 exact ⟨p,rfl,fun _=>⟨⟨by omega,fun x hx=>by have:=q2 x hx;omega⟩,by omega,⟨by omega,fun x hx=>(s2 x hx).le (by omega)⟩,⟨by omega,fun x hx=>by obtain ⟨a,b,c⟩:=w2 x hx;exact ⟨by omega,by omega,by omega⟩⟩⟩⟩
theorem tests (rev uid fl:Int) (sp:List SlS33) (us:List SlU35) (T:List SlT34) (P:List SlP32) :
 ∃ (M:Bool) (kk:Nat),Facts sp us T P → ∀ k,kk ≤ k → impl_isModel.f k rev uid fl (sp.map cSp) (us.map cU) (T.map cTh) (P.map cPa) = some M ∧ spec_ModelOk.f k rev uid fl (sp.map cSp) (us.map cU) (T.map cTh) (P.map cPa) = some M:=by
 by_cases hF:Facts sp us T P
 · obtain ⟨⟨f1,f2⟩,f3,⟨f4,f5⟩,f6,f7⟩:=hF
   have hsm:SmSp 1048577 (sp.map cSp):=⟨by simp;omega,by omega,fun x hx=>by
    obtain ⟨y,hy,rfl⟩:=List.mem_map.1 hx
    have:=f2 y hy
    show y.f0.size < _ ∧ y.f1.size < _
    omega⟩
   have hst:∀ x ∈ T.map cTh,SmT 1048577 x:=fun x hx=>by
    obtain ⟨y,hy,rfl⟩:=List.mem_map.1 hx
    obtain ⟨a,b,c,d,e⟩:=f5 y hy
    refine ⟨?_,?_,?_,fun s hs=>?_,?_⟩
    · show y.f0.size < _;omega
    · show y.f1.size < _;omega
    · show y.f5.length < _;omega
    · have:=d s hs;omega
    · show y.f6.size < _;omega
   have hps:∀ x ∈ P.map cPa,x.f2.size < 1048577 ∧ x.f3.size < 1048577:=fun x hx=>by
    obtain ⟨y,hy,rfl⟩:=List.mem_map.1 hx
    obtain ⟨a,b,c⟩:=f7 y hy
    show y.f2.size < _ ∧ y.f3.size < _
    omega
   obtain ⟨k0,g0⟩:=isModel_eq (rev:=rev) (uid:=uid) (fl:=fl) (sp:=sp.map cSp) (us:=us.map cU) (T:=T.map cTh) (P:=P.map cPa) (N:=1048577) (by simp;omega) (by simp;omega) (by simp;omega) (by omega) (by simp;omega) hst
   obtain ⟨k1,g1⟩:=modelOk_eq (rev:=rev) (uid:=uid) (fl:=fl) (sp:=sp.map cSp) (us:=us.map cU) (T:=T.map cTh) (P:=P.map cPa) (N:=1048577) hsm (by simp;omega) (by simp;omega) hps (by omega) (by simp;omega) hst
   exact ⟨_,k0 + k1,fun _ k hk=>⟨g0 k (by omega),g1 k (by omega)⟩⟩
 · exact ⟨true,0,fun h=>absurd h hF⟩
theorem copies (rev uid fl:Int) (sp:List SlS33) (us:List SlU35) (T:List SlT34) (P:List SlP32) (K:Nat) (hF:Facts sp us T P) (hK:5000000 + sp.length + us.length + T.length + P.length < K) :
 laws_toModel.f K rev uid fl sp us T P = some (rev,uid,fl,sp.map cSp,us.map cU,T.map cTh,P.map cPa) ∧ laws_eqModel.f K rev uid fl (sp.map cSp) (us.map cU) (T.map cTh) (P.map cPa) rev uid fl (sp.map cSp) (us.map cU) (T.map cTh) (P.map cPa) = some true:=by
 obtain ⟨⟨f1,f2⟩,f3,⟨f4,f5⟩,f6,f7⟩:=hF
 have z5:∀ x ∈ T,x.f5.length < 1048577:=fun x hx=>by have:=(f5 x hx).2.2.1;omega
 have z6:∀ x ∈ T.map cTh,x.f5.length < 1048577:=fun x hx=>by
  obtain ⟨y,hy,rfl⟩:=List.mem_map.1 hx
  exact z5 y hy
 have t1:=toSpaceS_eq sp K (by omega) (by omega)
 have t2:=toUseS_eq us K (by omega) (by omega)
 have t3:=toThingS_eq T K 1048577 (by omega) (by omega) z5 (by omega)
 have t4:=toPastS_eq P K (by omega) (by omega)
 have hto:laws_toModel.f K rev uid fl sp us T P = some (rev,uid,fl,sp.map cSp,us.map cU,T.map cTh,P.map cPa):=by
  unfold laws_toModel.f
  rw [t1,Option.bind_some,t2,Option.bind_some,t3,Option.bind_some,t4,Option.bind_some]
 have u1:=eqSpaceS_refl (sp.map cSp) K (by simp;omega) (by simp;omega)
 have u2:=eqUseS_refl (us.map cU) K (by simp;omega) (by simp;omega)
 have u3:=eqThingS_refl (T.map cTh) K 1048577 (by simp;omega) (by omega) z6 (by simp;omega)
 have u4:=eqPastS_refl (P.map cPa) K (by simp;omega) (by simp;omega)
 have heq:laws_eqModel.f K rev uid fl (sp.map cSp) (us.map cU) (T.map cTh) (P.map cPa) rev uid fl (sp.map cSp) (us.map cU) (T.map cTh) (P.map cPa) = some true:=by
  unfold laws_eqModel.f
  rw [if_pos rfl,if_pos rfl,if_pos rfl,u1,Option.bind_some,if_pos rfl,u2,Option.bind_some,if_pos rfl,u3,Option.bind_some,if_pos rfl,u4,Option.bind_some,if_pos rfl]
 exact ⟨hto,heq⟩
end Go.Proofs.YtclgmogfkoinbaaGreatDoor.V
/- The plain statement of FnExactModelWatch. -/
namespace Go.Proofs.YtclgmogfkoinbaaGreatDoor.Pure
open Go.RowKit Go.Proofs.YtclgmogfkoinbaaGreatDoor.P Go.Proofs.YtclgmogfkoinbaaGreatDoor.V Go.Proofs.YtclgmogfkoinbaaGreatDoorW.PrintWords Go.Proofs.YtclgmogfkoinbaaGreatDoorW.PrintMore
def paIn (s:ByteArray) (since:Int) (P:List SiP27):List SiP27:=P.filter (fun x=>decide (x.f2.toList = s.toList) && decide (x.f0 > since))
theorem paIn_cons (s:ByteArray) (since:Int) (x:SiP27) (r:List SiP27):paIn s since (x :: r) = if x.f2.toList = s.toList then (if x.f0 > since then x :: paIn s since r else paIn s since r) else paIn s since r:=by
 unfold paIn
 by_cases h:x.f2.toList = s.toList <;> by_cases h2:x.f0 > since <;> simp [List.filter_cons,h,h2]
theorem paIn_le (s:ByteArray) (since:Int) (P:List SiP27):(paIn s since P).length ≤ P.length:=List.length_filter_le _ _
theorem watched_l0 (s:ByteArray) (since:Int):∀ (suf pre out:List SiP27) (k:Nat),suf.length < k → (pre ++ suf).length ≤ 1000000000 → out.length ≤ pre.length →
 impl_watched.l0 k s since out (pre ++ suf) ((pre ++ suf).length:Int) (pre.length:Int) = some (out ++ paIn s since suf):=by
 intro suf
 induction suf with
 |nil=>
  intro pre out k hk hb ho
  obtain ⟨k,rfl⟩:=succ_of hk
  rw [impl_watched.l0,if_neg end_not_lt];simp [paIn]
 |cons x suf ih=>
  intro pre out k hk hb ho
  obtain ⟨k,rfl⟩:=succ_of hk
  rw [impl_watched.l0,if_pos mid_lt,if_pos (nat_le0 _),if_pos mid_lt,rdP_mid,paIn_cons,wrap_snoc (x:=x) (by simp at hb;omega)]
  have hlen:out.length < 2513169434916:=by simp at hb;omega
  have h1:=ih (pre ++ [x]) (out ++ [x]) k (by simpa using hk) (by simpa using hb) (by simp;omega)
  have h2:=ih (pre ++ [x]) out k (by simpa using hk) (by simpa using hb) (by simp;omega)
  rw [show pre ++ [x] ++ suf = pre ++ x :: suf by simp] at h1 h2
  by_cases h:x.f2.toList = s.toList
  · rw [if_pos h,if_pos h]
    by_cases g:x.f0 > since
    · rw [if_pos g,if_pos g,if_pos hlen,h1];simp
    · rw [if_neg g,if_neg g,h2]
  · rw [if_neg h,if_neg h,h2]
theorem l10Watch_l0 (s:ByteArray) (since:Int) (rev uid fl:Int) (sp:List SiS28) (us:List SiU30) (T:List SiT29):∀ (suf pre out:List SiP27) (k:Nat),suf.length < k → (pre ++ suf).length ≤ 1000000000 → out.length ≤ pre.length →
 spec_l10Watch.l0 k s since out (pre.length:Int) rev uid fl sp us T (pre ++ suf) = some (out ++ paIn s since suf,true):=by
 intro suf
 induction suf with
 |nil=>
  intro pre out k hk hb ho
  obtain ⟨k,rfl⟩:=succ_of hk
  rw [spec_l10Watch.l0,if_neg end_not_lt];simp [paIn]
 |cons x suf ih=>
  intro pre out k hk hb ho
  obtain ⟨k,rfl⟩:=succ_of hk
  rw [spec_l10Watch.l0,if_pos mid_lt,if_pos (nat_le0 _),rdP_mid,paIn_cons,wrap_snoc (x:=x) (by simp at hb;omega)]
  have hlen:out.length < 2513169434916:=by simp at hb;omega
  have h1:=ih (pre ++ [x]) (out ++ [x]) k (by simpa using hk) (by simpa using hb) (by simp;omega)
  have h2:=ih (pre ++ [x]) out k (by simpa using hk) (by simpa using hb) (by simp;omega)
  rw [show pre ++ [x] ++ suf = pre ++ x :: suf by simp] at h1 h2
  by_cases g:x.f0 > since
  · rw [if_pos g,if_pos g]
    by_cases h:x.f2.toList = s.toList
    · rw [if_pos h,if_pos h,if_pos hlen,h1];simp
    · rw [if_neg h,if_neg h,h2]
  · rw [if_neg g,if_neg g,h2]
    simp
theorem FnExactModelWatch:laws_FnExactModelWatch.Pure:=by
 intro rev uid fl sp us T P s since _ _ _ h3 h4 h5 h6 _ _
 by_cases hc0:1048576 < (s.size:Int)
 · exact Or.inl hc0
 refine Or.inr ?_
 obtain ⟨N0,hN0⟩:=len_bound T
 obtain ⟨M,kk,hkk⟩:=tests rev uid fl sp us T P
 obtain ⟨K,hK⟩:∃ K,K = 20000000 + sp.length + us.length + T.length + P.length + N0 + kk:=⟨_,rfl⟩
 obtain ⟨v,hv,hv2⟩:=szModel_eq rev uid fl sp us T P K N0 (by omega) h3 h4 h5 hN0 h6
 refine ⟨K,v,hv,?_⟩
 by_cases c:v < 0
 · exact .inl c
 have hF:=hv2 (by omega)
 obtain ⟨e1,e2⟩:=hkk hF K (by omega)
 obtain ⟨hto,heq⟩:=copies rev uid fl sp us T P K hF (by omega)
 obtain ⟨⟨f1,f2⟩,f3,⟨f4,f5⟩,f6,f7⟩:=hF
 have z6:∀ x ∈ T.map cTh,x.f5.length < 1048577:=fun x hx=>by
  obtain ⟨y,hy,rfl⟩:=List.mem_map.1 hx
  have:=(f5 y hy).2.2.1
  show y.f5.length < _;omega
 obtain ⟨q,hq,hq0⟩:=markModel_eq (sp.map cSp) (us.map cU) (T.map cTh) (P.map cPa) K (by simp;omega) (by simp;omega) (by simp;omega) (by simp;omega) (by simp;omega) z6
 have n1:impl_watched.f K rev uid fl (sp.map cSp) (us.map cU) (T.map cTh) (P.map cPa) s since = some (paIn s since (P.map cPa)):=by
  have:=watched_l0 s since (P.map cPa) [] [] K (by simp;omega) (by simp;omega) (by simp)
  unfold impl_watched.f;simpa using this
 have n2:spec_l10Watch.l0 K s since [] 0 rev uid fl (sp.map cSp) (us.map cU) (T.map cTh) (P.map cPa) = some (paIn s since (P.map cPa),true):=by
  have:=l10Watch_l0 s since rev uid fl (sp.map cSp) (us.map cU) (T.map cTh) (P.map cPa) [] [] K (by simp;omega) (by simp;omega) (by simp)
  simpa using this
 obtain ⟨wb,hwb⟩:∃ wb,wb = (M && !decide (since < fl)):=⟨_,rfl⟩
 obtain ⟨wl,hwl⟩:∃ wl,wl = if wb = true then paIn s since (P.map cPa) else []:=⟨_,rfl⟩
 have hw:wl.length ≤ 1048576:=by
  have:=paIn_le s since (P.map cPa)
  rw [hwl];cases wb
  · simp
  · simp at this ⊢;omega
 refine .inr ⟨rev,uid,fl,_,_,_,_,wl,wb,q,1 + 4 * wl.length,markedP wl.length 1,hto,?_,?_,?_,heq,hq,hq0,markPastS_eq wl 1 K (by omega) (by omega) (by omega),by omega,heldPastS_eq wl.length 1 K (by omega) (by omega) (by omega)⟩
 · unfold spec_ModelWatch.f spec_l10Watch.f
   rw [e2,Option.bind_some,hwl,hwb]
   cases M
   · rfl
   · by_cases hs:since < fl
     · simp [hs]
     · simp [hs,n2]
 · unfold impl_ModelWatch.f
   rw [e1,Option.bind_some,hwl,hwb]
   cases M
   · rfl
   · by_cases hs:since < fl
     · simp [hs]
     · simp [hs,n1]
 · exact eqPastS_refl wl K (by omega) (by omega)
end Go.Proofs.YtclgmogfkoinbaaGreatDoor.Pure
