/- The plain statement of the law FnUseSum, proved. -/
import Derived.Test.YtlddibclbhhjoaaDoorZFnUseSumW0
import Derived.Test.YtlddibclbhhjoaaDoorZFnUseSum0
import Derived.Laws.Bits64
import Derived.Test.YtlddibclbhhjoaaDoorZFnUseSum4
import Derived.Test.YtlddibclbhhjoaaDoorZFnUseSum5
import Derived.Test.YtlddibclbhhjoaaDoorZFnUseSum6
import Derived.Test.YtlddibclbhhjoaaDoorZFnUseSum1
import Derived.Test.YtlddibclbhhjoaaDoorZFnUseSum2
import Derived.Test.YtlddibclbhhjoaaDoorZFnUseSum3
import Derived.KernelRfl
import Derived.Test.YtlddibclbhhjoaaDoorZFnUseSum7
/- Plain lemmas on lists, numbers and strings, for the laws' plain statements. -/
namespace Go.Proofs.YtlddibclbhhjoaaDoor.V
open Go.RowKit Go.Proofs.YtlddibclbhhjoaaDoorW.PrintWords Go.Proofs.YtlddibclbhhjoaaDoorW.PrintMore
theorem succ_of {d k:Nat} (h:d < k):∃ m,k = m + 1:=⟨k - 1,by omega⟩
theorem wrap_id {i:Int} (h:-9223372036854775808 ≤ i) (h':i ≤ 9223372036854775807):wrap64 i = i:=by unfold wrap64;omega
theorem tl_iff (a b:ByteArray):a.toList = b.toList ↔ a = b:=by
 rw [ByteArray.toList_eq,ByteArray.toList_eq]
 constructor
 · intro h
   cases a;cases b
   simp at h
   simp [h]
 · rintro rfl;rfl
section
variable {α:Type} {pre suf:List α} {x y:α}
theorem mid_lt:((pre.length:Int) < ((pre ++ x :: suf).length:Int)):=by simp;omega
theorem end_not_lt:¬ ((pre.length:Int) < ((pre ++ ([]:List α)).length:Int)):=by simp
theorem rdOf_mid (d:α):rdOf d (pre ++ x :: suf) (pre.length:Int) = x:=by simp [rdOf]
theorem wrap_snoc (h:pre.length < 9223372036854775807):wrap64 ((pre.length:Int) + 1) = ((pre ++ [x]).length:Int):=by
 rw [wrap_id (by omega) (by omega)];simp
theorem snoc_app:pre ++ x :: suf = (pre ++ [x]) ++ suf:=by simp
end
theorem nat_le0 (n:Nat):(0:Int) ≤ (n:Int):=Int.natCast_nonneg n
end Go.Proofs.YtlddibclbhhjoaaDoor.V
/- What the reader of the drawn input answers: always something, and in bounds. -/
namespace Go.Proofs.YtlddibclbhhjoaaDoor.V
open Go.RowKit Go.Proofs.YtlddibclbhhjoaaDoor.P Go.Proofs.YtlddibclbhhjoaaDoorW.PrintWords Go.Proofs.YtlddibclbhhjoaaDoorW.PrintMore
def U8 (s:List Int):Prop:=∀ x ∈ s,0 ≤ x ∧ x ≤ 255
theorem U8_of {s:List Int} (h:∀ x ∈ s,(Lit.int .u8 x).wf = true):U8 s:=fun x hx=>by
 have:=h x hx
 simp [Lit.wf,IntKind.max,IntKind.min,IntKind.signed,IntKind.bits] at this
 omega
theorem rd_u8 {s:List Int} (h:U8 s) (i:Int):0 ≤ rd s i ∧ rd s i ≤ 255:=by
 unfold rd
 rw [List.getD_eq_getElem?_getD]
 cases hx:s[i.toNat]? with
 |none=>simp
 |some x=>exact h x (List.mem_of_getElem? hx)
theorem xor_i64 {a b:Int} (h0:0 ≤ a) (h1:a ≤ 4611686018427387903) (h2:0 ≤ b) (h3:b ≤ 4611686018427387903):0 ≤ Go.bits .xor .i64 a b ∧ Go.bits .xor .i64 a b ≤ 9223372036854775807:=by
 obtain ⟨x,rfl⟩:=Int.eq_ofNat_of_zero_le h0
 obtain ⟨y,rfl⟩:=Int.eq_ofNat_of_zero_le h2
 have hx:x ^^^ y < 2 ^ 62:=Nat.xor_lt_two_pow (by omega) (by omega)
 have e1:(BitVec.ofInt 64 (x:Int)).toNat = x:=by
  rw [BitVec.ofInt_natCast,BitVec.toNat_ofNat];exact Nat.mod_eq_of_lt (by omega)
 have e2:(BitVec.ofInt 64 (y:Int)).toNat = y:=by
  rw [BitVec.ofInt_natCast,BitVec.toNat_ofNat];exact Nat.mod_eq_of_lt (by omega)
 have e:Go.bits .xor .i64 (x:Int) (y:Int) = IntKind.i64.wrap ((BitVec.ofInt 64 (x:Int) ^^^ BitVec.ofInt 64 (y:Int)).toNat:Int):=rfl
 rw [e,BitVec.toNat_xor,e1,e2,IntKind.wrap_i64]
 omega
theorem tmod_bd {a n:Int} (h0:0 ≤ a) (hn:1 ≤ n):0 ≤ Int.tmod a n ∧ Int.tmod a n < n:=by
 rw [Int.tmod_eq_emod_of_nonneg h0]
 exact ⟨Int.emod_nonneg _ (by omega),Int.emod_lt_of_pos _ (by omega)⟩
theorem tdiv_bd {a n:Int} (h0:0 ≤ a) (hn:1 ≤ n):0 ≤ Int.tdiv a n ∧ Int.tdiv a n ≤ a:=by
 rw [Int.tdiv_eq_ediv_of_nonneg h0]
 exact ⟨Int.ediv_nonneg h0 (by omega),Int.ediv_le_self _ h0⟩
theorem pick_eq {s:List Int} {q n:Int} {k:Nat} (hs:U8 s) (hl:s.length ≤ 2000) (h0:0 ≤ q) (h1:q ≤ 1000000) (hn:1 ≤ n) (hk:0 < k):∃ v,spec_l1Rd_pick.f k s q n = some (v,q + 1) ∧ 0 ≤ v ∧ v < n:=by
 obtain ⟨k,rfl⟩:=succ_of hk
 unfold spec_l1Rd_pick.f
 rw [if_neg (by omega),wrap_id (i:=q + 1) (by omega) (by omega),spec_l1Rd_pick.j0]
 by_cases hz:s.length = 0
 · rw [if_pos (by rw [beq_iff_eq];omega)]
   exact ⟨0,rfl,by omega,by omega⟩
 · rw [if_neg (by rw [beq_iff_eq];omega),show q + 1 - 1 = q by omega,wrap_id (i:=q) (by omega) (by omega)]
   by_cases h2:q < (s.length:Int)
   · have hb:=rd_u8 hs q
     rw [if_pos h2,if_pos h0,if_neg (by omega),wrap_id (i:=rd s q) (by omega) (by omega)]
     exact ⟨_,rfl,tmod_bd hb.1 hn⟩
   · have b1:=tmod_bd (a:=q) (n:=s.length) h0 (by omega)
     rw [if_neg h2,if_neg (by omega),if_pos b1.1,if_pos b1.2,wrap_id (i:=q * 7) (by omega) (by omega),wrap_id (i:=q * 7 + 3) (by omega) (by omega)]
     have b2:=tmod_bd (a:=q * 7 + 3) (n:=s.length) (by omega) (by omega)
     rw [if_pos b2.1,if_pos b2.2,if_neg (by omega)]
     have c1:=rd_u8 hs (Int.tmod q s.length)
     have c2:=rd_u8 hs (Int.tmod (q * 7 + 3) s.length)
     have c3:=tdiv_bd (a:=q) (n:=s.length) h0 (by omega)
     generalize rd s (Int.tmod q s.length) = A at c1 ⊢
     generalize rd s (Int.tmod (q * 7 + 3) s.length) = B at c2 ⊢
     generalize Int.tdiv q s.length = D at c3 ⊢
     rw [wrap_id (i:=A) (by omega) (by omega),wrap_id (i:=B) (by omega) (by omega),wrap_id (i:=D) (by omega) (by omega),wrap_id (i:=A * 131) (by omega) (by omega),wrap_id (i:=B * 1117) (by omega) (by omega),wrap_id (i:=q * 29) (by omega) (by omega),wrap_id (i:=D * 53) (by omega) (by omega),
      wrap_id (i:=A * 131 + B * 1117) (by omega) (by omega),wrap_id (i:=A * 131 + B * 1117 + q * 29) (by omega) (by omega),wrap_id (i:=A * 131 + B * 1117 + q * 29 + D * 53) (by omega) (by omega)]
     have c4:0 ≤ A * 131 + B * 1117 + q * 29 + D * 53 ∧ A * 131 + B * 1117 + q * 29 + D * 53 ≤ 1000000000:=by omega
     generalize A * 131 + B * 1117 + q * 29 + D * 53 = X at c4 ⊢
     have c5:=tdiv_bd (a:=X) (n:=64) c4.1 (by omega)
     rw [wrap_id (i:=Int.tdiv X 64) (by omega) (by omega)]
     have c6:=xor_i64 (a:=X) (b:=Int.tdiv X 64) (by omega) (by omega) (by omega) (by omega)
     exact ⟨_,rfl,tmod_bd c6.1 hn⟩
theorem of_eq {s:List Int} {q:Int} {k:Nat} {l:List ByteArray} (hs:U8 s) (hl:s.length ≤ 2000) (h0:0 ≤ q) (h1:q ≤ 1000000) (hn:1 ≤ l.length) (hk:0 < k):∃ x,spec_l1Rd_of.f k s q l = some (x,q + 1) ∧ x ∈ l:=by
 obtain ⟨v,hv,b0,b1⟩:=pick_eq (n:=(l.length:Int)) hs hl h0 h1 (by omega) hk
 unfold spec_l1Rd_of.f
 rw [hv,Option.bind_some,if_pos b0,if_pos b1]
 refine ⟨_,rfl,?_⟩
 show rdOf ByteArray.empty l v ∈ l
 unfold rdOf
 rw [List.getD_eq_getElem?_getD,List.getElem?_eq_getElem (by omega)]
 exact List.getElem_mem _
theorem open_eq {l:List Int} (h:U8 l):∃ s,spec_l1Open.f l = some (s,0) ∧ U8 s ∧ s.length ≤ 2000:=by
 unfold spec_l1Open.f
 by_cases h1:(l.length:Int) > 2000
 · rw [if_pos h1,if_pos (by omega)]
   exact ⟨_,rfl,fun x hx=>h x (List.mem_of_mem_take hx),by simp;omega⟩
 · rw [if_neg h1]
   exact ⟨_,rfl,h,by omega⟩
end Go.Proofs.YtlddibclbhhjoaaDoor.V
/- What holds of all bytes of a string, counted from a place on; the order of strings. -/
namespace Go.Proofs.YtlddibclbhhjoaaDoor.V
open Go.RowKit Go.Proofs.YtlddibclbhhjoaaDoor.P Go.Proofs.YtlddibclbhhjoaaDoorW.PrintWords Go.Proofs.YtlddibclbhhjoaaDoorW.PrintMore
def bAll (P:Int → Bool) (s:ByteArray):Nat → Nat → Bool
 |0,_=>true
 |d + 1,i=>P (bt s i) && bAll P s d (i + 1)
theorem bt_nat (s:ByteArray) (j:Nat) (h:j < s.size):bt s (j:Nat) = ((s.data.toList[j]'(by simpa using h)).toNat:Int):=by
 unfold bt
 rw [dif_pos (by simpa using h)]
 rfl
theorem bl_irrefl:∀ a:List UInt8,Op.bytesLess a a = false
 |[]=>rfl
 |x :: a=>by simp [Op.bytesLess,bl_irrefl a]
theorem bl_trans:∀ {a b c:List UInt8},Op.bytesLess a b = true → Op.bytesLess b c = true → Op.bytesLess a c = true
 |[],_,[],_,h=>by cases ‹List UInt8› <;> simp [Op.bytesLess] at h
 |[],_,_ :: _,_,_=>rfl
 |_ :: _,[],_,h,_=>by simp [Op.bytesLess] at h
 |_ :: _,_ :: _,[],_,h=>by simp [Op.bytesLess] at h
 |x :: a,y :: b,z :: c,h1,h2=>by
  simp only [Op.bytesLess,Bool.or_eq_true,Bool.and_eq_true,decide_eq_true_eq,beq_iff_eq] at h1 h2 ⊢
  rcases h1 with h1|⟨rfl,h1⟩
  · rcases h2 with h2|⟨rfl,h2⟩
    · left;rw [UInt8.lt_iff_toNat_lt] at *;omega
    · exact .inl h1
  · rcases h2 with h2|⟨rfl,h2⟩
    · exact .inl h2
    · exact .inr ⟨rfl,bl_trans h1 h2⟩
end Go.Proofs.YtlddibclbhhjoaaDoor.V
/- Names: what the program's test and the reference's tell. -/
namespace Go.Proofs.YtlddibclbhhjoaaDoor.V
open Go.RowKit Go.Proofs.YtlddibclbhhjoaaDoor.P Go.Proofs.YtlddibclbhhjoaaDoorW.PrintWords Go.Proofs.YtlddibclbhhjoaaDoorW.PrintMore
def letB (b:UInt8):Bool:=decide (97 ≤ b.toNat ∧ b.toNat ≤ 122)
def nameB (s:ByteArray):Bool:=decide (1 ≤ s.size) && decide (s.size ≤ 6) && s.data.toList.all letB
def abc:ByteArray:=(⟨#[97,98,99,100,101,102,103,104,105,106,107,108,109,110,111,112,113,114,115,116,117,118,119,120,121,122]⟩:ByteArray)
theorem abc_eq (b:UInt8):abc.data.toList.contains b = letB b:=by
 have h:∀ n:Fin 256,abc.data.toList.contains (UInt8.ofNat n.1) = letB (UInt8.ofNat n.1):=by decide +kernel
 have:=h ⟨b.toNat,b.toNat_lt⟩
 simpa using this
theorem drop_nil {P:UInt8 → Bool}:∀ l:List UInt8,l.dropWhile P = [] ↔ l.all P = true
 |[]=>by simp
 |x :: l=>by
  by_cases h:P x = true
  · simp [List.dropWhile,h,drop_nil l]
  · simp [List.dropWhile,h]
theorem take_all {P:UInt8 → Bool}:∀ l:List UInt8,(l.takeWhile P).all P = true
 |[]=>rfl
 |x :: l=>by
  by_cases h:P x = true
  · simp only [List.takeWhile,h,List.all_cons,take_all l,Bool.true_and]
  · simp only [List.takeWhile,h];rfl
theorem size_list (s:ByteArray):s.size = s.data.toList.length:=by rw [Array.length_toList];rfl
theorem trim_nil (l cs:List UInt8):Lib.trimS l cs = [] ↔ l.all (fun b=>cs.contains b) = true:=by
 unfold Lib.trimS Lib.trimLeftS Lib.trimRightS
 rw [drop_nil,List.all_reverse]
 constructor
 · intro h
   have e:=List.takeWhile_append_dropWhile (p:=fun b=>cs.contains b) (l:=l.reverse)
   have h2:l.reverse.all (fun b=>cs.contains b) = true:=by
    rw [← e,List.all_append,Bool.and_eq_true]
    exact ⟨take_all _,h⟩
   rwa [List.all_reverse] at h2
 · intro h
   have h2:l.reverse.all (fun b=>cs.contains b) = true:=by rwa [List.all_reverse]
   rw [(drop_nil l.reverse).2 h2]
   rfl
theorem isName_eq (s:ByteArray):impl_isName.f s = some (nameB s):=by
 unfold impl_isName.f nameB
 by_cases h1:1 ≤ s.size
 · rw [if_pos (by omega)]
   by_cases h2:s.size ≤ 6
   · rw [if_pos (by omega)]
     unfold strings_Trim.f
     rw [if_pos ⟨by omega,by decide +kernel,by decide +kernel⟩]
     simp only [Option.bind_some,Option.some.injEq]
     rw [decide_eq_true h1,decide_eq_true h2,Bool.true_and,Bool.true_and]
     have e:(⟨(Lib.trimS s.data.toList abc.data.toList).toArray⟩:ByteArray).toList = Lib.trimS s.data.toList abc.data.toList:=by rw [ByteArray.toList_eq]
     show ((⟨(Lib.trimS s.data.toList abc.data.toList).toArray⟩:ByteArray).toList == []) = _
     rw [e,Bool.eq_iff_iff,beq_iff_eq,trim_nil]
     simp only [abc_eq]
   · rw [if_neg (by omega),decide_eq_false h2];simp
 · rw [if_neg (by omega),decide_eq_false h1];simp
theorem sNameOk_l0:∀ (suf pre:List UInt8) (s:ByteArray) (k:Nat),s.data.toList = pre ++ suf → s.size ≤ 9223372036854775806 → suf.length < k →
 spec_NameOk.l0 k s (pre.length:Int) = some (suf.all letB && decide (1 ≤ s.size) && decide (s.size ≤ 6)):=by
 intro suf
 induction suf with
 |nil=>
  intro pre s k he hs hk
  obtain ⟨k,rfl⟩:=succ_of hk
  have hz:s.size = pre.length:=by rw [size_list,he];simp
  rw [spec_NameOk.l0,if_neg (by omega)]
  unfold spec_l1In.f
  by_cases h1:1 ≤ s.size
  · rw [if_pos (by omega),decide_eq_true h1]
    simp only [List.all_nil,Bool.true_and,Option.bind_some]
    congr 1
    rw [decide_eq_decide]
    omega
  · rw [if_neg (by omega),decide_eq_false h1];rfl
 |cons x suf ih=>
  intro pre s k he hs hk
  obtain ⟨k,rfl⟩:=succ_of hk
  have hz:s.size = pre.length + (suf.length + 1):=by rw [size_list,he];simp
  have hb:bt s (pre.length:Int) = (x.toNat:Int):=by
   rw [bt_nat s pre.length (by omega)]
   congr 2
   simp [he]
  have hn:=ih (pre ++ [x]) s k (by simp [he]) hs (by simpa using hk)
  rw [spec_NameOk.l0,if_pos (by omega),if_pos (by omega),hb,wrap_id (by omega) (by omega)]
  have e:((pre.length:Int) + 1) = ((pre ++ [x]).length:Int):=by simp
  rw [e,hn]
  by_cases h1:(x.toNat:Int) < 97
  · rw [if_pos h1]
    have:letB x = false:=by unfold letB;rw [decide_eq_false (by omega)]
    simp [this]
  · rw [if_neg h1]
    by_cases h2:(x.toNat:Int) > 122
    · rw [if_pos h2]
      have:letB x = false:=by unfold letB;rw [decide_eq_false (by omega)]
      simp [this]
    · rw [if_neg h2]
      have:letB x = true:=by unfold letB;rw [decide_eq_true (by omega)]
      simp [this]
theorem sNameOk_eq (s:ByteArray) (k:Nat) (hs:s.size ≤ 9223372036854775806) (hk:s.size < k):spec_NameOk.f k s = some (nameB s):=by
 unfold spec_NameOk.f
 have:=sNameOk_l0 s.data.toList [] s k rfl hs (by rw [← size_list];exact hk)
 rw [show ((([]:List UInt8).length:Nat):Int) = 0 from rfl] at this
 rw [this,nameB]
 congr 1
 ac_rfl
end Go.Proofs.YtlddibclbhhjoaaDoor.V
/- Spaces, one in the other: chains from the inside out. -/
namespace Go.Proofs.YtlddibclbhhjoaaDoor.V
open Go.RowKit Go.Proofs.YtlddibclbhhjoaaDoor.P Go.Proofs.YtlddibclbhhjoaaDoorW.PrintWords Go.Proofs.YtlddibclbhhjoaaDoorW.PrintMore
theorem nodup_len {α:Type} [DecidableEq α]:∀ (a b:List α),a.Nodup → (∀ x ∈ a,x ∈ b) → a.length ≤ b.length
 |[],_,_,_=>Nat.zero_le _
 |x :: r,b,h,hs=>by
  have h1:=List.nodup_cons.1 h
  have h2:=nodup_len r (b.erase x) h1.2 (fun y hy=>(List.mem_erase_of_ne (fun e:y = x=>h1.1 (by rw [← e];exact hy))).2 (hs y (by simp [hy])))
  have h3:=List.length_erase_of_mem (hs x (by simp))
  have h4:0 < b.length:=List.length_pos_of_mem (hs x (by simp))
  rw [List.length_cons];omega
def fnd (l:List SiS23) (s:ByteArray):Option SiS23:=l.find? (fun x=>decide (x.f0 = s))
def up:Nat → List SiS23 → ByteArray → List SiS23
 |0,_,_=>[]
 |n + 1,l,s=>match fnd l s with
  |none=>[]
  |some x=>x :: up n l x.f1
section
variable {l:List SiS23} {s t:ByteArray} {x y z:SiS23} {n m:Nat}
theorem fnd_name (h:fnd l s = some x):x.f0 = s:=by simpa using List.find?_some h
theorem fnd_mem (h:fnd l s = some x):x ∈ l:=List.mem_of_find?_eq_some h
theorem fnd_self (h:fnd l s = some x):fnd l x.f0 = some x:=by rw [fnd_name h];exact h
theorem fnd_none (h:fnd l s = none):∀ y ∈ l,y.f0 ≠ s:=fun y hy=>by simpa using List.find?_eq_none.1 h y hy
theorem up_none (h:fnd l s = none):up (n + 1) l s = []:=by rw [up,h]
theorem up_some (h:fnd l s = some x):up (n + 1) l s = x :: up n l x.f1:=by rw [up,h]
theorem up_take:∀ (n m:Nat) (s:ByteArray),n ≤ m → up n l s = (up m l s).take n
 |0,m,s,_=>by simp [up]
 |n + 1,m,s,h=>by
  obtain ⟨m,rfl⟩:∃ q,m = q + 1:=⟨m - 1,by omega⟩
  cases hf:fnd l s with
  |none=>rw [up_none hf,up_none hf];rfl
  |some x=>rw [up_some hf,up_some hf,List.take_succ_cons,up_take n m x.f1 (by omega)]
theorem up_le:∀ (n:Nat) (s:ByteArray),(up n l s).length ≤ n
 |0,s=>by simp [up]
 |n + 1,s=>by
  cases hf:fnd l s with
  |none=>rw [up_none hf];simp
  |some x=>rw [up_some hf];have:=up_le n x.f1;simp;omega
theorem up_more:∀ (n:Nat) (s:ByteArray),(up n l s).length < n → up (n + 1) l s = up n l s
 |0,s,h=>by omega
 |n + 1,s,h=>by
  cases hf:fnd l s with
  |none=>rw [up_none hf,up_none hf]
  |some x=>
   rw [up_some hf] at h
   rw [up_some hf,up_some hf,up_more n x.f1 (by simpa using h)]
theorem up_far (h:(up n l s).length < n):∀ d,up (n + d) l s = up n l s
 |0=>rfl
 |d + 1=>by
  have ih:=up_far h d
  rw [← Nat.add_assoc,up_more (n + d) s (by rw [ih];omega),ih]
theorem up_ge (h:(up n l s).length < n) (hm:n ≤ m):up m l s = up n l s:=by
 obtain ⟨d,rfl⟩:=Nat.le.dest hm
 exact up_far h d
theorem up_mem:∀ (n:Nat) (s:ByteArray),∀ y ∈ up n l s,fnd l y.f0 = some y
 |0,_,_,hy=>by simp [up] at hy
 |n + 1,s,y,hy=>by
  cases hf:fnd l s with
  |none=>rw [up_none hf] at hy;cases hy
  |some x=>
   rw [up_some hf] at hy
   rcases List.mem_cons.1 hy with rfl|hy
   · exact fnd_self hf
   · exact up_mem n x.f1 y hy
def En (l:List SiS23) (s:ByteArray):Prop:=(up 9 l s).length < 9
theorem en_next (h:En l s) (hf:fnd l s = some x):En l x.f1 ∧ up 9 l s = x :: up 9 l x.f1:=by
 have h1:up 9 l s = x :: up 8 l x.f1:=up_some hf
 unfold En at *
 rw [h1] at h
 have h2:(up 8 l x.f1).length < 8:=by simp at h;omega
 have h3:=up_more 8 x.f1 h2
 rw [h1,h3]
 exact ⟨by omega,rfl⟩
theorem en_none (h:fnd l s = none):En l s:=by unfold En;rw [up_none h];decide
theorem up_suffix:∀ (n:Nat) (s:ByteArray),En l s → (up 9 l s).length ≤ n → ∀ y ∈ up 9 l s,En l y.f0 ∧ ∃ pre,up 9 l s = pre ++ up 9 l y.f0
 |0,s,_,hn,y,hy=>by
  have:up 9 l s = []:=List.eq_nil_of_length_eq_zero (by omega)
  rw [this] at hy;cases hy
 |n + 1,s,he,hn,y,hy=>by
  cases hf:fnd l s with
  |none=>rw [up_none hf] at hy;cases hy
  |some x=>
   obtain ⟨h1,h2⟩:=en_next he hf
   rw [h2] at hy hn
   rcases List.mem_cons.1 hy with rfl|hy
   · rw [fnd_name hf];exact ⟨he,[],rfl⟩
   · obtain ⟨h3,pre,h4⟩:=up_suffix n x.f1 h1 (by simpa using hn) y hy
     exact ⟨h3,x :: pre,by rw [h2,h4];rfl⟩
theorem up_nodup:∀ (n:Nat) (s:ByteArray),En l s → (up 9 l s).length ≤ n → ((up 9 l s).map (·.f0)).Nodup
 |0,s,_,hn=>by
  have:up 9 l s = []:=List.eq_nil_of_length_eq_zero (by omega)
  rw [this];exact List.nodup_nil
 |n + 1,s,he,hn=>by
  cases hf:fnd l s with
  |none=>rw [up_none hf];exact List.nodup_nil
  |some x=>
   obtain ⟨h1,h2⟩:=en_next he hf
   rw [h2] at hn ⊢
   rw [List.map_cons,List.nodup_cons]
   refine ⟨fun hm=>?_,up_nodup n x.f1 h1 (by simpa using hn)⟩
   obtain ⟨y,hy,e⟩:=List.mem_map.1 hm
   obtain ⟨-,pre,h4⟩:=up_suffix _ x.f1 h1 (Nat.le_refl _) y hy
   rw [e,fnd_name hf,h2] at h4
   have:=congrArg List.length h4
   simp at this
   omega
theorem up_short (he:En l s):(up 9 l s).length ≤ l.length:=by
 have h:=nodup_len ((up 9 l s).map (·.f0)) (l.map (·.f0)) (up_nodup _ s he (Nat.le_refl _)) (fun n hn=>by
  obtain ⟨y,hy,rfl⟩:=List.mem_map.1 hn
  exact List.mem_map.2 ⟨y,fnd_mem (up_mem 9 s y hy),rfl⟩)
 simpa using h
theorem en_of (h:(up n l s).length < n) (hn:n ≤ 9):En l s:=by
 unfold En
 rw [up_ge h hn]
 omega
def step (l:List SiS23) (x:SiS23):SiS23:=(fnd l x.f1).getD x
def its (l:List SiS23):Nat → SiS23 → SiS23
 |0,x=>x
 |n + 1,x=>its l n (step l x)
theorem its_fix (h:fnd l x.f1 = none):∀ n,its l n x = x
 |0=>rfl
 |n + 1=>by
  have:step l x = x:=by unfold step;rw [h];rfl
  rw [its,this,its_fix h n]
theorem its_last:∀ (n:Nat) (x:SiS23),fnd l x.f0 = some x → (up (n + 1) l x.f0).getLast? = some (its l n x)
 |0,x,h=>by rw [up_some h];rfl
 |n + 1,x,h=>by
  rw [up_some h]
  cases hf:fnd l x.f1 with
  |none=>rw [up_none hf,its_fix hf];rfl
  |some y=>
   have h1:step l x = y:=by unfold step;rw [hf];rfl
   have ih:=its_last n y (fnd_self hf)
   rw [fnd_name hf] at ih
   rw [its,h1,List.getLast?_cons,ih];rfl
theorem up_stop:∀ (n:Nat) (s:ByteArray) (z:SiS23),(up (n + 1) l s).getLast? = some z → fnd l z.f1 = none → up (n + 2) l s = up (n + 1) l s
 |0,s,z,h,hz=>by
  cases hf:fnd l s with
  |none=>rw [up_none hf,up_none hf]
  |some x=>
   rw [up_some hf] at h
   have:x = z:=by simpa [up] using h
   subst this
   rw [up_some hf,up_some hf,up_none hz];rfl
 |n + 1,s,z,h,hz=>by
  cases hf:fnd l s with
  |none=>rw [up_none hf,up_none hf]
  |some x=>
   rw [up_some hf] at h
   cases hg:fnd l x.f1 with
   |none=>rw [up_some hf,up_some hf,up_none hg,up_none hg]
   |some y=>
    have h2:(up (n + 1) l x.f1).getLast? = some z:=by
     rw [up_some hg] at h ⊢
     simpa using h
    rw [up_some hf,up_some hf,up_stop n x.f1 z h2 hz]
theorem at_last (hx:fnd l x.f0 = some x) (hl:l.length ≤ 7) {nm:ByteArray} (htop:∀ z ∈ l,z.f0 = nm → fnd l z.f1 = none) :
 ((up 8 l x.f0).length ≤ l.length ∧ ∃ z,(up 8 l x.f0).getLast? = some z ∧ z.f0 = nm) ↔ (its l l.length x).f0 = nm:=by
 have hlast:=its_last (l:=l) l.length x hx
 constructor
 · rintro ⟨h1,z,h2,h3⟩
   rw [up_take (l.length + 1) 8 _ (by omega),List.take_of_length_le (by omega),h2] at hlast
   rw [← Option.some.inj hlast];exact h3
 · intro h
   have hm:its l l.length x ∈ l:=fnd_mem (up_mem _ _ _ (List.mem_of_getLast? hlast))
   have hstop:=up_stop l.length x.f0 _ hlast (htop _ hm h)
   have h4:∀ d,up (l.length + 1 + d) l x.f0 = up (l.length + 1) l x.f0:=by
    intro d
    by_cases hlt:(up (l.length + 1) l x.f0).length < l.length + 1
    · exact up_far hlt d
    · have h5:(up (l.length + 2) l x.f0).length < l.length + 2:=by rw [hstop];have:=up_le (l:=l) (l.length + 1) x.f0;omega
      cases d with
      |zero=>rfl
      |succ d=>rw [show l.length + 1 + (d + 1) = l.length + 2 + d by omega,up_far h5 d,hstop]
   have h8:up 8 l x.f0 = up (l.length + 1) l x.f0:=by
    have:=h4 (7 - l.length)
    rwa [show l.length + 1 + (7 - l.length) = 8 by omega] at this
   have h9:up 9 l x.f0 = up (l.length + 1) l x.f0:=by
    have:=h4 (8 - l.length)
    rwa [show l.length + 1 + (8 - l.length) = 9 by omega] at this
   have hen:En l x.f0:=by unfold En;rw [h9];have:=up_le (l:=l) (l.length + 1) x.f0;omega
   have hs:=up_short hen
   rw [h9] at hs
   rw [h8]
   exact ⟨hs,_,hlast,h⟩
end
end Go.Proofs.YtlddibclbhhjoaaDoor.V
/- Spaces: what the program and the reference tell, in the words of chains. -/
namespace Go.Proofs.YtlddibclbhhjoaaDoor.V
open Go.RowKit Go.Proofs.YtlddibclbhhjoaaDoor.P Go.Proofs.YtlddibclbhhjoaaDoorW.PrintWords Go.Proofs.YtlddibclbhhjoaaDoorW.PrintMore
theorem rdS_mid {pre suf:List SiS23} {x:SiS23}:riS26 (pre ++ x :: suf) (pre.length:Int) = x:=by simp [riS26]
theorem l1In_eqS (a b c:Int):spec_l1In.f a b c = some (decide (b ≤ a ∧ a ≤ c)):=by
 unfold spec_l1In.f
 by_cases h:a ≥ b
 · rw [if_pos h];simp [show b ≤ a from h]
 · rw [if_neg h];simp [show ¬ b ≤ a from h]
def ix (l:List SiS23) (s:ByteArray):Int:=fsp.idx (fsp.p s) l 0
theorem p_iff (s:ByteArray) (x:SiS23):fsp.p s x = true ↔ x.f0 = s:=by unfold fsp.p;rw [beq_iff_eq,tl_iff]
theorem idx_spec (s:ByteArray):∀ (suf pre:List SiS23),(fnd suf s = none ∧ fsp.idx (fsp.p s) suf (pre.length:Int) = -1) ∨ (∃ x,fnd suf s = some x ∧ (pre.length:Int) ≤ fsp.idx (fsp.p s) suf (pre.length:Int) ∧ fsp.idx (fsp.p s) suf (pre.length:Int) < ((pre ++ suf).length:Int) ∧ riS26 (pre ++ suf) (fsp.idx (fsp.p s) suf (pre.length:Int)) = x)
 |[],pre=>Or.inl ⟨rfl,rfl⟩
 |x :: suf,pre=>by
  by_cases h:x.f0 = s
  · right
    have h1:fsp.idx (fsp.p s) (x :: suf) (pre.length:Int) = (pre.length:Int):=by rw [fsp.idx,if_pos ((p_iff s x).2 h)]
    refine ⟨x,by unfold fnd;rw [List.find?_cons_of_pos (by simpa using h)],?_⟩
    rw [h1]
    exact ⟨Int.le_refl _,mid_lt,rdS_mid⟩
  · have h1:fsp.idx (fsp.p s) (x :: suf) (pre.length:Int) = fsp.idx (fsp.p s) suf ((pre ++ [x]).length:Int):=by
     rw [fsp.idx,if_neg (fun e=>h ((p_iff s x).1 e))];simp
    have h2:fnd (x :: suf) s = fnd suf s:=by unfold fnd;rw [List.find?_cons_of_neg (by simpa using h)]
    rw [h1,h2]
    rcases idx_spec s suf (pre ++ [x]) with ⟨a,b⟩|⟨y,a,b,c,d⟩
    · exact Or.inl ⟨a,b⟩
    · right
      have e:(pre ++ [x]) ++ suf = pre ++ x :: suf:=by simp
      rw [e] at c d
      exact ⟨y,a,by simp at b ⊢;omega,c,d⟩
section
variable {l:List SiS23} {s:ByteArray} {x:SiS23}
theorem ix_none (h:fnd l s = none):ix l s = -1:=by
 rcases idx_spec s l [] with ⟨-,b⟩|⟨y,a,-⟩
 · exact b
 · rw [h] at a;cases a
theorem ix_some (h:fnd l s = some x):0 ≤ ix l s ∧ ix l s < (l.length:Int) ∧ riS26 l (ix l s) = x:=by
 rcases idx_spec s l [] with ⟨a,-⟩|⟨y,a,b,c,d⟩
 · rw [h] at a;cases a
 · rw [h] at a
   obtain rfl:=Option.some.inj a
   unfold ix
   exact ⟨by simpa using b,by simpa using c,by simpa using d⟩
end
theorem findSpace_eq (l:List SiS23) (s:ByteArray):impl_findSpace.f l s = some (ix l s):=by
 unfold impl_findSpace.f impl_Space.f ix;rfl
theorem l8At_l0 (s:ByteArray):∀ (suf pre:List SiS23) (k:Nat),suf.length < k → (pre ++ suf).length ≤ 4611686018427387904 → spec_l8At.l0 k (pre ++ suf) s (pre.length:Int) = some (fsp.idx (fsp.p s) suf (pre.length:Int)):=by
 intro suf
 induction suf with
 |nil=>
  intro pre k hk hb
  obtain ⟨k,rfl⟩:=succ_of hk
  rw [spec_l8At.l0,if_neg end_not_lt];rfl
 |cons x suf ih=>
  intro pre k hk hb
  obtain ⟨k,rfl⟩:=succ_of hk
  rw [spec_l8At.l0,if_pos mid_lt,if_pos (nat_le0 _),rdS_mid,fsp.idx]
  by_cases h:x.f0 = s
  · rw [if_pos ((tl_iff _ _).2 h),if_pos ((p_iff s x).2 h)]
  · rw [if_neg (fun e=>h ((tl_iff _ _).1 e)),if_neg (fun e=>h ((p_iff s x).1 e)),wrap_snoc (x:=x) (by simp at hb;omega),snoc_app,ih (pre ++ [x]) k (by simpa using hk) (by simpa using hb)]
    simp
theorem l8At_eq (l:List SiS23) (s:ByteArray) (k:Nat) (hk:l.length < k) (hb:l.length ≤ 4611686018427387904):spec_l8At.f k l s = some (ix l s):=l8At_l0 s l [] k hk hb
def nms (c:List SiS23):List ByteArray:=c.map (·.f0)
theorem l8Up_l0 (l:List SiS23) (hb:l.length ≤ 4611686018427387904):∀ (n:Nat) (s:ByteArray) (out:List ByteArray) (k:Nat),out.length + n = 8 → n + l.length + 1 < k → spec_l8Up.l0 k l out (ix l s) = some (out ++ nms (up n l s)):=by
 intro n
 induction n with
 |zero=>
  intro s out k ho hk
  obtain ⟨k,rfl⟩:=succ_of hk
  rw [spec_l8Up.l0]
  by_cases h:ix l s ≥ 0
  · rw [if_pos h,if_neg (by omega)];simp [up,nms]
  · rw [if_neg h];simp [up,nms]
 |succ n ih=>
  intro s out k ho hk
  obtain ⟨k,rfl⟩:=succ_of hk
  rw [spec_l8Up.l0]
  cases hf:fnd l s with
  |none=>rw [ix_none hf,if_neg (by decide),up_none hf];simp [nms]
  |some x=>
   obtain ⟨h1,h2,h3⟩:=ix_some hf
   rw [if_pos h1,if_pos (by omega),if_pos h1,if_pos h2,if_pos (by omega),h3,l8At_eq l _ k (by omega) hb,Option.bind_some,ih x.f1 (out ++ [x.f0]) k (by simp;omega) (by omega),up_some hf]
   simp [nms]
theorem l8Up_eq (l:List SiS23) (s:ByteArray) (k:Nat) (hk:l.length + 9 < k) (hb:l.length ≤ 4611686018427387904):spec_l8Up.f k l s = some (nms (up 8 l s)):=by
 unfold spec_l8Up.f
 rw [l8At_eq l s k (by omega) hb,Option.bind_some,l8Up_l0 l hb 8 s [] k rfl (by omega)]
 rfl
theorem spaceUp_l0 (l:List SiS23):∀ (n:Nat) (s:ByteArray) (out:List ByteArray) (k:Nat),(up n l s).length < n → n < k → out.length + n ≤ 1000000 → impl_spaceUp.l0 k l out (ix l s) = some (out ++ nms (up n l s)):=by
 intro n
 induction n with
 |zero=>intro s out k h;omega
 |succ n ih=>
  intro s out k hl hk ho
  obtain ⟨k,rfl⟩:=succ_of hk
  rw [impl_spaceUp.l0]
  cases hf:fnd l s with
  |none=>rw [ix_none hf,if_neg (by decide),up_none hf];simp [nms]
  |some x=>
   rw [up_some hf] at hl
   obtain ⟨h1,h2,h3⟩:=ix_some hf
   rw [if_pos h1,if_pos h1,if_pos h2,if_pos (by omega),h3,findSpace_eq,Option.bind_some,ih x.f1 (out ++ [x.f0]) k (by simpa using hl) (by omega) (by simp;omega),up_some hf]
   simp [nms]
theorem spaceUp_eq (l:List SiS23) (s:ByteArray) (k:Nat) (hk:9 < k) (he:En l s):impl_spaceUp.f k l s = some (nms (up 9 l s)):=by
 unfold impl_spaceUp.f
 rw [findSpace_eq,Option.bind_some,spaceUp_l0 l 9 s [] k he hk (by decide)]
 rfl
def allN:ByteArray:=⟨#[97,108,108]⟩
theorem all_iff (s:ByteArray):s.toList = ([97,108,108]:List UInt8) ↔ s = allN:=by
 rw [← tl_iff s allN,ByteArray.toList_eq allN];rfl
theorem nil_iff (s:ByteArray):s.toList = ([]:List UInt8) ↔ s = ⟨#[]⟩:=by
 rw [← tl_iff s ⟨#[]⟩,ByteArray.toList_eq ⟨#[]⟩]
theorem nameB_nil:nameB ⟨#[]⟩ = false:=by decide
def spOk (x:SiS23):Bool:=nameB x.f0 && decide (-1 ≤ x.f2 ∧ x.f2 ≤ 99999) && decide (0 ≤ x.f4 ∧ x.f4 ≤ 99999) && (if x.f0 = allN then decide (x.f1 = ⟨#[]⟩) && !x.f3 else nameB x.f1)
theorem isSpace_eq (x:SiS23) (k:Nat) (hk:0 < k):impl_isSpace.f k x.f0 x.f1 x.f2 x.f3 x.f4 = some (spOk x):=by
 obtain ⟨k,rfl⟩:=succ_of hk
 have hj:∀ b,impl_isSpace.j0 (k + 1) b x.f0 x.f1 x.f2 x.f3 x.f4 = some (!b && (if x.f0 = allN then decide (x.f1 = ⟨#[]⟩) && !x.f3 else nameB x.f1)):=by
  intro b
  rw [impl_isSpace.j0]
  cases b
  · rw [if_neg (by simp)]
    by_cases h:x.f0 = allN
    · rw [if_pos ((all_iff _).2 h),if_pos h]
      by_cases h2:x.f1 = ⟨#[]⟩
      · rw [if_pos ((nil_iff _).2 h2),decide_eq_true h2];simp
      · rw [if_neg (fun e=>h2 ((nil_iff _).1 e)),decide_eq_false h2];simp
    · rw [if_neg (fun e=>h ((all_iff _).1 e)),if_neg h,isName_eq];simp
  · rw [if_pos rfl];simp
 unfold impl_isSpace.f spOk
 rw [isName_eq,Option.bind_some]
 simp only [hj]
 generalize (if x.f0 = allN then decide (x.f1 = ⟨#[]⟩) && !x.f3 else nameB x.f1) = z
 cases nameB x.f0
 · simp
 · rw [if_pos rfl]
   by_cases h1:x.f2 < -1
   · rw [if_pos h1,decide_eq_false (by omega)];simp
   · rw [if_neg h1]
     by_cases h2:x.f2 > 99999
     · rw [if_pos h2,decide_eq_false (by omega)];simp
     · rw [if_neg h2,decide_eq_true (show -1 ≤ x.f2 ∧ x.f2 ≤ 99999 by omega)]
       by_cases h3:x.f4 < 0
       · rw [if_pos h3,decide_eq_false (by omega)];simp
       · rw [if_neg h3]
         by_cases h4:x.f4 > 99999
         · rw [decide_eq_true h4,decide_eq_false (by omega)];simp
         · rw [decide_eq_false h4,decide_eq_true (show 0 ≤ x.f4 ∧ x.f4 ≤ 99999 by omega)];simp
theorem l8Ok_eq (x:SiS23) (k:Nat) (h0:x.f0.size < k) (h1:x.f1.size < k) (hb0:x.f0.size ≤ 9223372036854775806) (hb1:x.f1.size ≤ 9223372036854775806):spec_l8Ok.f k x.f0 x.f1 x.f2 x.f3 x.f4 = some (spOk x):=by
 unfold spec_l8Ok.f spOk
 rw [sNameOk_eq _ k hb0 h0,Option.bind_some]
 cases hn:nameB x.f0
 · simp
 · rw [if_pos rfl]
   simp only [l1In_eqS,Option.bind_some,nil_iff]
   have ha:(x.f0.toList == ([97,108,108]:List UInt8)) = decide (x.f0 = allN):=by
    rw [Bool.eq_iff_iff,beq_iff_eq,all_iff,decide_eq_true_iff]
   have hz:(x.f1.toList == ([]:List UInt8)) = decide (x.f1 = ⟨#[]⟩):=by
    rw [Bool.eq_iff_iff,beq_iff_eq,nil_iff,decide_eq_true_iff]
   rw [ha,hz]
   by_cases h2:x.f1 = ⟨#[]⟩
   · rw [if_pos h2,decide_eq_true h2]
     by_cases h3:x.f0 = allN
     · rw [decide_eq_true h3,if_pos (by decide),if_pos h3]
       by_cases h4:-1 ≤ x.f2 ∧ x.f2 ≤ 99999
       · rw [decide_eq_true h4,if_pos rfl]
         by_cases h5:0 ≤ x.f4 ∧ x.f4 ≤ 99999
         · rw [decide_eq_true h5,if_pos rfl];simp
         · rw [decide_eq_false h5];simp
       · rw [decide_eq_false h4];simp
     · rw [decide_eq_false h3,if_neg (by decide),if_neg h3,h2,nameB_nil];simp
   · rw [if_neg h2,decide_eq_false h2,sNameOk_eq _ k hb1 h1,Option.bind_some]
     by_cases h3:x.f0 = allN
     · rw [decide_eq_true h3,if_pos h3]
       cases nameB x.f1 <;> simp
     · rw [decide_eq_false h3,if_neg h3]
       cases hm:nameB x.f1
       · simp
       · rw [if_pos rfl,if_pos (by decide)]
         by_cases h4:-1 ≤ x.f2 ∧ x.f2 ≤ 99999
         · rw [decide_eq_true h4,if_pos rfl]
           by_cases h5:0 ≤ x.f4 ∧ x.f4 ≤ 99999
           · rw [decide_eq_true h5,if_pos rfl];simp
           · rw [decide_eq_false h5];simp
         · rw [decide_eq_false h4];simp
end Go.Proofs.YtlddibclbhhjoaaDoor.V
/- When spaces are ok: the program's test and the reference's are one. -/
namespace Go.Proofs.YtlddibclbhhjoaaDoor.V
open Go.RowKit Go.Proofs.YtlddibclbhhjoaaDoor.P Go.Proofs.YtlddibclbhhjoaaDoorW.PrintWords Go.Proofs.YtlddibclbhhjoaaDoorW.PrintMore
def spGo:Option SiS23 → List SiS23 → Bool
 |_,[]=>true
 |none,x :: l=>spOk x && spGo (some x) l
 |some p,x :: l=>spOk x && Op.bytesLess p.f0.toList x.f0.toList && spGo (some x) l
theorem lastS_rd {pre suf:List SiS23} {y:SiS23}:riS26 ((pre ++ [y]) ++ suf) (((pre ++ [y]).length:Int) - 1) = y:=by
 have:(((pre ++ [y]).length:Int) - 1) = (pre.length:Int):=by simp
 rw [this,List.append_assoc]
 exact rdS_mid
theorem spGo_all:∀ (l:List SiS23) (p:Option SiS23),spGo p l = true → (∀ x ∈ l,spOk x = true) ∧ l.Pairwise (fun x y=>Op.bytesLess x.f0.toList y.f0.toList = true) ∧ (∀ q,p = some q → ∀ x ∈ l,Op.bytesLess q.f0.toList x.f0.toList = true)
 |[],p,_=>⟨fun x h=>by (cases h),List.Pairwise.nil,fun q _ x h=>by (cases h)⟩
 |x :: l,none,h=>by
  simp only [spGo,Bool.and_eq_true] at h
  obtain ⟨h1,h2,h3⟩:=spGo_all l (some x) h.2
  refine ⟨fun y hy=>?_,List.Pairwise.cons (h3 x rfl) h2,fun q e=>by cases e⟩
  rcases List.mem_cons.1 hy with rfl|hy
  · exact h.1
  · exact h1 y hy
 |x :: l,some p,h=>by
  simp only [spGo,Bool.and_eq_true] at h
  obtain ⟨h1,h2,h3⟩:=spGo_all l (some x) h.2
  refine ⟨fun y hy=>?_,List.Pairwise.cons (h3 x rfl) h2,fun q e y hy=>?_⟩
  · rcases List.mem_cons.1 hy with rfl|hy
    · exact h.1.1
    · exact h1 y hy
  · obtain rfl:=Option.some.inj e
    rcases List.mem_cons.1 hy with rfl|hy
    · exact h.1.2
    · exact bl_trans h.1.2 (h3 x rfl y hy)
theorem fnd_of_mem {l:List SiS23} (hp:l.Pairwise (fun x y=>Op.bytesLess x.f0.toList y.f0.toList = true)) {x:SiS23} (hx:x ∈ l):fnd l x.f0 = some x:=by
 induction l with
 |nil=>cases hx
 |cons y l ih=>
  rw [List.pairwise_cons] at hp
  unfold fnd
  rcases List.mem_cons.1 hx with rfl|hx
  · rw [List.find?_cons_of_pos (by simp)]
  · have:y.f0 ≠ x.f0:=fun e=>by
     have:=hp.1 x hx
     rw [e,bl_irrefl] at this
     cases this
    rw [List.find?_cons_of_neg (by simpa using this)]
    exact ih hp.2 hx
theorem fnd_nil {l:List SiS23} (h:∀ x ∈ l,spOk x = true):fnd l ⟨#[]⟩ = none:=by
 unfold fnd
 rw [List.find?_eq_none]
 intro x hx hn
 have h1:=h x hx
 unfold spOk at h1
 rw [show x.f0 = ⟨#[]⟩ by simpa using hn,nameB_nil] at h1
 simp at h1
def inAll (l:List SiS23) (x:SiS23):Bool:=decide ((its l l.length x).f0 = allN)
def areS (l:List SiS23):Bool:=decide (1 ≤ l.length ∧ l.length ≤ 7) && spGo none l && l.all (inAll l)
theorem areSpaces_l12 (l:List SiS23) (hl:l.length ≤ 7):∀ (suf pre:List SiS23) (k:Nat),pre ++ suf = l → 20 * (suf.length + 1) < k →
 impl_areSpaces.l1 k l l (l.length:Int) (pre.length:Int) = some (suf.all (inAll l)):=by
 intro suf
 induction suf with
 |nil=>
  intro pre k he hk
  obtain ⟨k,rfl⟩:=succ_of hk
  rw [impl_areSpaces.l1,if_neg (by rw [← he];simp)];rfl
 |cons x suf ih=>
  intro pre k he hk
  obtain ⟨k,rfl⟩:=succ_of hk
  have hpl:pre.length < l.length:=by rw [← he];simp
  have hrd:riS26 l (pre.length:Int) = x:=by rw [← he];exact rdS_mid
  rw [impl_areSpaces.l1,if_pos (by omega),if_pos (by omega),if_pos (by omega),hrd]
  -- the inner steps
  have inner:∀ (d i:Nat) (y:SiS23) (k:Nat),i + d = l.length → 20 * (suf.length + 1) + d + 1 < k → impl_areSpaces.l2 k l l (l.length:Int) (pre.length:Int) (l.length:Int) (i:Int) y.f0 y.f1 y.f2 y.f3 y.f4 = some (decide ((its l d y).f0 = allN) && suf.all (inAll l)):=by
   intro d
   induction d with
   |zero=>
    intro i y k hi hk
    obtain ⟨k,rfl⟩:=succ_of hk
    rw [impl_areSpaces.l2,if_neg (by omega)]
    show _ = some (decide (y.f0 = allN) && suf.all (inAll l))
    by_cases h:y.f0 = allN
    · rw [if_pos ((all_iff _).2 h),decide_eq_true h,wrap_id (by omega) (by omega)]
      have e:(pre.length:Int) + 1 = ((pre ++ [x]).length:Int):=by simp
      rw [e,ih (pre ++ [x]) k (by simp [← he]) (by omega)];simp
    · rw [if_neg (fun e=>h ((all_iff _).1 e)),decide_eq_false h];simp
   |succ d ihd=>
    intro i y k hi hk
    obtain ⟨k,rfl⟩:=succ_of hk
    have e:wrap64 ((i:Int) + 1) = ((i + 1:Nat):Int):=by rw [wrap_id (by omega) (by omega)];rfl
    rw [impl_areSpaces.l2,if_pos (by omega),findSpace_eq,Option.bind_some,e]
    cases hf:fnd l y.f1 with
    |none=>
     rw [ix_none hf,if_neg (by decide),ihd (i + 1) y k (by omega) (by omega)]
     have:step l y = y:=by unfold step;rw [hf];rfl
     rw [its,this]
    |some z=>
     obtain ⟨h1,h2,h3⟩:=ix_some hf
     rw [if_pos h1,if_pos h1,if_pos h2,h3,ihd (i + 1) z k (by omega) (by omega)]
     have:step l y = z:=by unfold step;rw [hf];rfl
     rw [its,this]
  have h0:=inner l.length 0 x k (by omega) (by simp at hk ⊢;omega)
  rw [show ((0:Nat):Int) = 0 from rfl] at h0
  rw [h0]
  rfl
theorem areSpaces_l0 (l:List SiS23) (hl:l.length ≤ 7):∀ (suf pre:List SiS23) (k:Nat),pre ++ suf = l → 300 + suf.length < k →
 impl_areSpaces.l0 k l l (l.length:Int) (pre.length:Int) = some (spGo pre.getLast? suf && l.all (inAll l)):=by
 intro suf
 induction suf with
 |nil=>
  intro pre k he hk
  obtain ⟨k,rfl⟩:=succ_of hk
  have h0:=areSpaces_l12 l hl l [] k rfl (by omega)
  rw [show ((([]:List SiS23).length:Nat):Int) = 0 from rfl] at h0
  rw [impl_areSpaces.l0,if_neg (by rw [← he];simp),h0]
  have:spGo pre.getLast? [] = true:=by cases pre.getLast? <;> rfl
  rw [this,Bool.true_and]
 |cons x suf ih=>
  intro pre k he hk
  obtain ⟨k,rfl⟩:=succ_of hk
  have hpl:pre.length < l.length:=by rw [← he];simp
  have hrd:riS26 l (pre.length:Int) = x:=by rw [← he];exact rdS_mid
  have hn:=ih (pre ++ [x]) k (by simp [← he]) (by simp at hk;omega)
  rw [List.getLast?_concat] at hn
  have e:wrap64 ((pre.length:Int) + 1) = ((pre ++ [x]).length:Int):=by rw [wrap_id (by omega) (by omega)];simp
  rw [impl_areSpaces.l0,if_pos (by omega),if_pos (by omega),if_pos (by omega),hrd,isSpace_eq x k (by omega),Option.bind_some,e,hn]
  rcases List.eq_nil_or_concat pre with rfl|⟨pre',y,rfl⟩
  · cases h:spOk x
    · simp [spGo,h]
    · rw [if_pos rfl,if_neg (by simp)]
      simp [spGo,h]
  · rw [List.concat_eq_append] at *
    have hrl:riS26 l (((pre' ++ [y]).length:Int) - 1) = y:=by rw [← he];exact lastS_rd
    cases h:spOk x
    · rw [if_neg (by simp),List.getLast?_concat];simp [spGo,h]
    · have hp:0 < (pre' ++ [y]).length:=by simp
      rw [if_pos rfl,if_pos (by omega),wrap_id (i:=((pre' ++ [y]).length:Int) - 1) (by omega) (by omega),if_pos (by omega),if_pos (by omega),hrl,List.getLast?_concat]
      cases h2:Op.bytesLess y.f0.toList x.f0.toList
      · rw [if_neg (by simp)];simp [spGo,h,h2]
      · rw [if_pos rfl];simp [spGo,h,h2]
theorem areSpaces_eq (l:List SiS23) (k:Nat) (hk:400 < k):impl_areSpaces.f k l = some (areS l):=by
 obtain ⟨k,rfl⟩:=succ_of hk
 unfold impl_areSpaces.f areS
 simp only [impl_areSpaces.j0]
 by_cases h1:(l.length:Int) < 1
 · rw [if_pos h1,if_pos trivial,decide_eq_false (by omega)];simp
 · rw [if_neg h1]
   by_cases h2:(l.length:Int) > 7
   · rw [decide_eq_true h2,if_pos rfl,decide_eq_false (by omega)];simp
   · have h0:=areSpaces_l0 l (by omega) l [] k rfl (by omega)
     rw [show ((([]:List SiS23).length:Nat):Int) = 0 from rfl] at h0
     rw [decide_eq_false h2,if_neg (by simp),h0,decide_eq_true (show 1 ≤ l.length ∧ l.length ≤ 7 by omega)]
     simp
theorem SpacesOk_eq (l:List SiS23) (k:Nat) (hk:400 < k):impl_SpacesOk.f k l = some (areS l):=by
 unfold impl_SpacesOk.f
 rw [areSpaces_eq l k hk];rfl
def chOk (l:List SiS23) (x:SiS23):Bool:=decide ((up 8 l x.f0).length ≤ l.length) && (match (up 8 l x.f0).getLast? with|some z=>decide (z.f0 = allN)|none=>false)
theorem chOk_iff {l:List SiS23} {x:SiS23}:chOk l x = true ↔ ((up 8 l x.f0).length ≤ l.length ∧ ∃ z,(up 8 l x.f0).getLast? = some z ∧ z.f0 = allN):=by
 unfold chOk
 rw [Bool.and_eq_true,decide_eq_true_iff]
 cases h:(up 8 l x.f0).getLast? with
 |none=>simp
 |some z=>simp
def specS (l:List SiS23):Bool:=spGo none l && (l.all (chOk l) && (decide (1 ≤ l.length ∧ l.length ≤ 7) && decide (0 ≤ ix l allN)))
theorem sSpaces_l1 (l:List SiS23) (hb:l.length ≤ 1000000000) (hf:∀ x ∈ l,fnd l x.f0 = some x):∀ (suf pre:List SiS23) (k:Nat),pre ++ suf = l → suf.length + l.length + 10 < k →
 spec_SpacesOk.l1 k l (pre.length:Int) = some (suf.all (chOk l) && (decide (1 ≤ l.length ∧ l.length ≤ 7) && decide (0 ≤ ix l allN))):=by
 intro suf
 induction suf with
 |nil=>
  intro pre k he hk
  obtain ⟨k,rfl⟩:=succ_of hk
  rw [spec_SpacesOk.l1,if_neg (by rw [← he];simp),l1In_eqS,Option.bind_some]
  by_cases h:1 ≤ l.length ∧ l.length ≤ 7
  · rw [decide_eq_true (show (1:Int) ≤ (l.length:Int) ∧ (l.length:Int) ≤ 7 by omega),if_pos rfl]
    show (spec_l8At.f k l allN).bind _ = _
    rw [l8At_eq l allN k (by omega) (by omega),Option.bind_some,decide_eq_true h]
    simp
  · rw [decide_eq_false (show ¬ ((1:Int) ≤ (l.length:Int) ∧ (l.length:Int) ≤ 7) by omega),if_neg (by simp),decide_eq_false h]
    simp
 |cons x suf ih=>
  intro pre k he hk
  obtain ⟨k,rfl⟩:=succ_of hk
  have hpl:pre.length < l.length:=by rw [← he];simp
  have hrd:riS26 l (pre.length:Int) = x:=by rw [← he];exact rdS_mid
  have hx:=hf x (by rw [← he];simp)
  have hn:=ih (pre ++ [x]) k (by simp [← he]) (by simp at hk;omega)
  have e:wrap64 ((pre.length:Int) + 1) = ((pre ++ [x]).length:Int):=by rw [wrap_id (by omega) (by omega)];simp
  rw [spec_SpacesOk.l1,if_pos (by omega),if_pos (by omega),hrd,l8Up_eq l _ k (by omega) (by omega),Option.bind_some,e,hn]
  obtain ⟨c,y,hc⟩:∃ c y,up 8 l x.f0 = c ++ [y]:=by
   rcases List.eq_nil_or_concat (up 8 l x.f0) with h|⟨c,y,h⟩
   · rw [up_some hx] at h;cases h
   · exact ⟨c,y,by rw [h,List.concat_eq_append]⟩
  have hlen:(nms (up 8 l x.f0)).length = (up 8 l x.f0).length:=by unfold nms;simp
  have h8:=up_le (l:=l) 8 x.f0
  have hlc:(up 8 l x.f0).length = c.length + 1:=by rw [hc];simp
  rw [List.all_cons]
  by_cases h1:(up 8 l x.f0).length ≤ l.length
  · have hlast:rdOf ByteArray.empty (nms (up 8 l x.f0)) (((nms (up 8 l x.f0)).length:Int) - 1) = y.f0:=by
     rw [hlen,hlc,hc]
     have:(((c.length + 1:Nat):Int) - 1) = ((nms c).length:Int):=by unfold nms;simp
     rw [this]
     unfold nms
     rw [List.map_append]
     exact rdOf_mid _
    rw [if_neg (by omega),wrap_id (i:=((nms (up 8 l x.f0)).length:Int) - 1) (by omega) (by omega),if_pos (by omega),if_pos (by omega),hlast]
    by_cases h2:y.f0 = allN
    · have:chOk l x = true:=chOk_iff.2 ⟨h1,y,by rw [hc];simp,h2⟩
      rw [if_pos ((all_iff _).2 h2),this];simp
    · have:chOk l x = false:=by
       rw [Bool.eq_false_iff]
       intro h
       obtain ⟨-,z,hz,hz2⟩:=chOk_iff.1 h
       rw [hc] at hz
       have:y = z:=by simpa using hz
       exact h2 (this ▸ hz2)
      rw [if_neg (fun e=>h2 ((all_iff _).1 e)),this];simp
  · have:chOk l x = false:=by
     rw [Bool.eq_false_iff]
     intro h
     exact h1 (chOk_iff.1 h).1
    rw [if_pos (by omega),this];simp
theorem sSpaces_l0 (l:List SiS23) (hb:l.length ≤ 1000000000) (N:Nat) (hN:N ≤ 1000000000) (hs:∀ x ∈ l,x.f0.size < N ∧ x.f1.size < N):∀ (suf pre:List SiS23) (k:Nat),pre ++ suf = l → spGo none pre = true → suf.length + 2 * l.length + N + 12 < k →
 spec_SpacesOk.l0 k l (pre.length:Int) = some (spGo pre.getLast? suf && (l.all (chOk l) && (decide (1 ≤ l.length ∧ l.length ≤ 7) && decide (0 ≤ ix l allN)))):=by
 intro suf
 induction suf with
 |nil=>
  intro pre k he hp hk
  obtain ⟨k,rfl⟩:=succ_of hk
  have hpl:pre = l:=by rw [← he];simp
  have hf:∀ x ∈ l,fnd l x.f0 = some x:=fun x hx=>fnd_of_mem (spGo_all l none (hpl ▸ hp)).2.1 hx
  have h0:=sSpaces_l1 l hb hf l [] k rfl (by omega)
  rw [show ((([]:List SiS23).length:Nat):Int) = 0 from rfl] at h0
  rw [spec_SpacesOk.l0,if_neg (by rw [← he];simp),h0]
  have:spGo pre.getLast? [] = true:=by cases pre.getLast? <;> rfl
  rw [this,Bool.true_and]
 |cons x suf ih=>
  intro pre k he hp hk
  obtain ⟨k,rfl⟩:=succ_of hk
  have hpl:pre.length < l.length:=by rw [← he];simp
  have hrd:riS26 l (pre.length:Int) = x:=by rw [← he];exact rdS_mid
  have hxs:=hs x (by rw [← he];simp)
  have hn:spGo none (pre ++ [x]) = true → _:=fun h=>ih (pre ++ [x]) k (by simp [← he]) h (by simp at hk;omega)
  rw [List.getLast?_concat] at hn
  have e:wrap64 ((pre.length:Int) + 1) = ((pre ++ [x]).length:Int):=by rw [wrap_id (by omega) (by omega)];simp
  have happ:∀ (a:List SiS23) (p:Option SiS23),spGo p a = true → spGo (a.getLast?.or p) [x] = true → spGo p (a ++ [x]) = true:=by
   intro a
   induction a with
   |nil=>intro p _ h;simpa using h
   |cons y a iha=>
    intro p h1 h2
    have e2:(y :: a).getLast?.or p = a.getLast?.or (some y):=by
     cases a with
     |nil=>rfl
     |cons z a=>rw [List.getLast?_cons_cons];cases h:(z :: a).getLast? <;> simp_all
    rw [e2] at h2
    cases p with
    |none=>
     simp only [spGo,Bool.and_eq_true,List.cons_append] at h1 ⊢
     exact ⟨h1.1,iha (some y) h1.2 h2⟩
    |some q=>
     simp only [spGo,Bool.and_eq_true,List.cons_append] at h1 ⊢
     exact ⟨h1.1,iha (some y) h1.2 h2⟩
  rw [spec_SpacesOk.l0,if_pos (by omega),if_pos (by omega),hrd,l8Ok_eq x k (by omega) (by omega) (by omega) (by omega),Option.bind_some,e]
  rcases List.eq_nil_or_concat pre with rfl|⟨pre',y,rfl⟩
  · cases h:spOk x
    · simp [spGo,h]
    · rw [if_pos rfl,if_neg (by simp),hn (happ [] none rfl (by simp [spGo,h]))]
      simp [spGo,h]
  · rw [List.concat_eq_append] at *
    have hrl:riS26 l (((pre' ++ [y]).length:Int) - 1) = y:=by rw [← he];exact lastS_rd
    cases h:spOk x
    · rw [if_neg (by simp),List.getLast?_concat];simp [spGo,h]
    · have hp0:0 < (pre' ++ [y]).length:=by simp
      rw [if_pos rfl,if_pos (by omega),wrap_id (i:=((pre' ++ [y]).length:Int) - 1) (by omega) (by omega),if_pos (by omega),if_pos (by omega),hrl,List.getLast?_concat]
      cases h2:Op.bytesLess y.f0.toList x.f0.toList
      · rw [if_neg (by simp)];simp [spGo,h,h2]
      · rw [if_pos rfl,hn (happ (pre' ++ [y]) none hp (by rw [List.getLast?_concat];simp [spGo,h,h2]))];simp [spGo,h,h2]
theorem top_none {l:List SiS23} (h:spGo none l = true):∀ z ∈ l,z.f0 = allN → fnd l z.f1 = none:=by
 intro z hz e
 have h1:=(spGo_all l none h).1
 have h2:=h1 z hz
 unfold spOk at h2
 rw [if_pos e] at h2
 simp only [Bool.and_eq_true,decide_eq_true_eq] at h2
 rw [h2.2.1]
 exact fnd_nil h1
theorem specS_eq (l:List SiS23):specS l = areS l:=by
 unfold specS areS
 cases hg:spGo none l
 · simp
 by_cases hl:1 ≤ l.length ∧ l.length ≤ 7
 · rw [decide_eq_true hl]
   have hiff:∀ x ∈ l,(chOk l x = true ↔ inAll l x = true):=by
    intro x hx
    rw [chOk_iff,inAll,decide_eq_true_iff]
    exact at_last (fnd_of_mem (spGo_all l none hg).2.1 hx) hl.2 (top_none hg)
   have hall:l.all (chOk l) = l.all (inAll l):=by
    rw [Bool.eq_iff_iff,List.all_eq_true,List.all_eq_true]
    exact ⟨fun h x hx=>(hiff x hx).1 (h x hx),fun h x hx=>(hiff x hx).2 (h x hx)⟩
   rw [hall]
   cases ha:l.all (inAll l)
   · simp
   · obtain ⟨x,hx⟩:∃ x,x ∈ l:=List.exists_mem_of_length_pos (by omega)
     rw [← hall] at ha
     obtain ⟨-,z,hz,hz2⟩:=chOk_iff.1 (List.all_eq_true.1 ha x hx)
     have hz3:=up_mem 8 x.f0 z (List.mem_of_getLast? hz)
     rw [hz2] at hz3
     have:=(ix_some hz3).1
     rw [decide_eq_true this];rfl
 · rw [decide_eq_false hl];simp
theorem sSpacesOk_eq (l:List SiS23) (k N:Nat) (hb:l.length ≤ 1000000000) (hN:N ≤ 1000000000) (hs:∀ x ∈ l,x.f0.size < N ∧ x.f1.size < N) (hk:3 * l.length + N + 12 < k):spec_SpacesOk.f k l = some (areS l):=by
 have h0:=sSpaces_l0 l hb N hN hs l [] k rfl rfl (by omega)
 rw [show ((([]:List SiS23).length:Nat):Int) = 0 from rfl] at h0
 unfold spec_SpacesOk.f
 rw [h0,← specS_eq];rfl
theorem areS_en {l:List SiS23} (h:areS l = true) (s:ByteArray):En l s:=by
 have h1:=specS_eq l
 rw [h] at h1
 unfold specS at h1
 simp only [Bool.and_eq_true,decide_eq_true_eq] at h1
 cases hf:fnd l s with
 |none=>exact en_none hf
 |some x=>
  have h2:=chOk_iff.1 (List.all_eq_true.1 h1.2.1 x (fnd_mem hf))
  rw [fnd_name hf] at h2
  exact en_of (n:=8) (by have:=h1.2.2.1.2;omega) (by omega)
end Go.Proofs.YtlddibclbhhjoaaDoor.V
/- SpaceUp, SpaceIn, SpaceGoing in the words of chains. -/
namespace Go.Proofs.YtlddibclbhhjoaaDoor.V
open Go.RowKit Go.Proofs.YtlddibclbhhjoaaDoor.P Go.Proofs.YtlddibclbhhjoaaDoorW.PrintWords Go.Proofs.YtlddibclbhhjoaaDoorW.PrintMore
def chain (l:List SiS23) (s:ByteArray):List SiS23:=up 9 l s
theorem areS_len {l:List SiS23} (h:areS l = true):1 ≤ l.length ∧ l.length ≤ 7:=by
 unfold areS at h
 simp only [Bool.and_eq_true,decide_eq_true_eq] at h
 exact h.1.1
theorem areS_go {l:List SiS23} (h:areS l = true):spGo none l = true:=by
 unfold areS at h
 simp only [Bool.and_eq_true,decide_eq_true_eq] at h
 exact h.1.2
theorem chain_len {l:List SiS23} (h:areS l = true) (s:ByteArray):(chain l s).length ≤ 7:=by
 have h1:=up_short (areS_en h s)
 have h2:=areS_len h
 unfold chain
 omega
theorem up8 {l:List SiS23} (h:areS l = true) (s:ByteArray):up 8 l s = chain l s:=by
 have h1:=chain_len h s
 unfold chain at h1 ⊢
 rw [up_take 8 9 s (by omega),List.take_of_length_le (by omega)]
def SmSp (N:Nat) (l:List SiS23):Prop:=l.length ≤ 1000000000 ∧ N ≤ 1000000000 ∧ ∀ x ∈ l,x.f0.size < N ∧ x.f1.size < N
section
variable {l:List SiS23} {N k:Nat}
theorem sSpaces (h:SmSp N l) (hk:3 * l.length + N + 12 < k):spec_SpacesOk.f k l = some (areS l):=sSpacesOk_eq l k N h.1 h.2.1 h.2.2 hk
end
def has (l:List ByteArray) (o:ByteArray):Bool:=l.any (fun x=>decide (x = o))
theorem has_iff (l:List ByteArray) (o:ByteArray):has l o = true ↔ o ∈ l:=by
 unfold has
 rw [List.any_eq_true]
 constructor
 · rintro ⟨x,hx,h⟩
   rw [decide_eq_true_iff] at h
   exact h ▸ hx
 · intro h
   exact ⟨o,h,by simp⟩
theorem l8In_l0 (o:ByteArray):∀ (suf pre:List ByteArray) (k:Nat),suf.length < k → (pre ++ suf).length ≤ 1000000 → spec_l8In.l0 k o (pre ++ suf) (pre.length:Int) = some (has suf o):=by
 intro suf
 induction suf with
 |nil=>
  intro pre k hk hb
  obtain ⟨k,rfl⟩:=succ_of hk
  rw [spec_l8In.l0,if_neg end_not_lt];rfl
 |cons x suf ih=>
  intro pre k hk hb
  obtain ⟨k,rfl⟩:=succ_of hk
  rw [spec_l8In.l0,if_pos mid_lt,if_pos (nat_le0 _),rdOf_mid]
  by_cases h:x = o
  · rw [if_pos ((tl_iff _ _).2 h),h];simp [has]
  · rw [if_neg (fun e=>h ((tl_iff _ _).1 e)),wrap_snoc (x:=x) (by simp at hb;omega),snoc_app,ih (pre ++ [x]) k (by simpa using hk) (by simpa using hb)]
    simp [has,h]
theorem index_l0 (o:ByteArray):∀ (suf pre:List ByteArray) (k:Nat),suf.length < k → (pre ++ suf).length ≤ 1000000 → ∃ i,slices_Index_string_string.l0 k (pre ++ suf) o ((pre ++ suf).length:Int) (pre.length:Int) = some i ∧ (0 ≤ i ↔ o ∈ suf):=by
 intro suf
 induction suf with
 |nil=>
  intro pre k hk hb
  obtain ⟨k,rfl⟩:=succ_of hk
  rw [slices_Index_string_string.l0,if_neg (by simp)]
  exact ⟨-1,rfl,by simp⟩
 |cons x suf ih=>
  intro pre k hk hb
  obtain ⟨k,rfl⟩:=succ_of hk
  rw [slices_Index_string_string.l0,if_pos mid_lt,if_pos (nat_le0 _),if_pos mid_lt,rdOf_mid]
  by_cases h:o = x
  · rw [if_pos ((tl_iff _ _).2 h)]
    exact ⟨_,rfl,by simp [h]⟩
  · obtain ⟨i,hi,h2⟩:=ih (pre ++ [x]) k (by simpa using hk) (by simpa using hb)
    rw [if_neg (fun e=>h ((tl_iff _ _).1 e)),wrap_snoc (x:=x) (by simp at hb;omega),snoc_app]
    exact ⟨i,hi,by rw [h2];simp [h]⟩
theorem Contains_eq (l:List ByteArray) (o:ByteArray) (k:Nat) (hk:l.length < k) (hb:l.length ≤ 1000000):slices_Contains_string_string.f k l o = some (has l o):=by
 obtain ⟨i,hi,h2⟩:=index_l0 o l [] k hk hb
 unfold slices_Contains_string_string.f slices_Index_string_string.f
 rw [List.nil_append,show ((([]:List ByteArray).length:Nat):Int) = 0 from rfl] at hi
 rw [hi,Option.bind_some]
 congr 1
 rw [Bool.eq_iff_iff,decide_eq_true_iff,has_iff]
 exact h2
theorem nms_len (c:List SiS23):(nms c).length = c.length:=by unfold nms;simp
section
variable {l:List SiS23} {N k:Nat}
theorem l8In_eq (ha:areS l = true) (hk:l.length + 10 < k) (s o:ByteArray):spec_l8In.f k l s o = some (has (nms (chain l s)) o):=by
 have h7:=areS_len ha
 have hc:=chain_len ha s
 unfold spec_l8In.f
 rw [l8Up_eq l s k (by omega) (by omega),Option.bind_some,up8 ha]
 exact l8In_l0 o (nms (chain l s)) [] k (by rw [nms_len];omega) (by rw [List.nil_append,nms_len];omega)
end
end Go.Proofs.YtlddibclbhhjoaaDoor.V
/- Drawn spaces: always some, and small. -/
namespace Go.Proofs.YtlddibclbhhjoaaDoor.V
open Go.RowKit Go.Proofs.YtlddibclbhhjoaaDoor.P Go.Proofs.YtlddibclbhhjoaaDoorW.PrintWords Go.Proofs.YtlddibclbhhjoaaDoorW.PrintMore
def SzS (l:List SiS23):Prop:=∀ x ∈ l,x.f0.size ≤ 10 ∧ x.f1.size ≤ 10
section
variable {s:List Int}
theorem rdS_in {l:List SiS23} {i:Int} (h0:0 ≤ i) (h1:i < (l.length:Int)):riS26 l i ∈ l:=by
 unfold riS26
 rw [List.getD_eq_getElem?_getD,List.getElem?_eq_getElem (by omega)]
 exact List.getElem_mem _
def Goes (s:List Int) (n:Nat):Prop:=∀ (l:List SiS23) (q:Int) (k:Nat),1 ≤ l.length → l.length + n ≤ 20 → SzS l → 0 ≤ q → q + 6 * n ≤ 1000 → 30 * (n + 1) < k → ∃ r q',spec_l13Spaces.l0 k l (n:Int) s q = some (r,q') ∧ 1 ≤ r.length ∧ r.length ≤ 20 ∧ SzS r ∧ 0 ≤ q' ∧ q' ≤ q + 6 * n
theorem put_in {l:List SiS23} (x:SiS23) (i:Nat) (hi:i ≤ l.length) (hl:SzS l) (hx:x.f0.size ≤ 10 ∧ x.f1.size ≤ 10):SzS ((l.take i ++ [x]) ++ l.drop i) ∧ ((l.take i ++ [x]) ++ l.drop i).length = l.length + 1:=by
 refine ⟨fun y hy=>?_,by simp;omega⟩
 rcases List.mem_append.1 hy with hy|hy
 · rcases List.mem_append.1 hy with hy|hy
   · exact hl y (List.mem_of_mem_take hy)
   · rw [List.mem_singleton.1 hy];exact hx
 · exact hl y (List.mem_of_mem_drop hy)
theorem l13_l1 (n:Nat) (ih:Goes s n) (x:SiS23) (hx:x.f0.size ≤ 10 ∧ x.f1.size ≤ 10) (l:List SiS23) (h1:1 ≤ l.length) (h2:l.length + 1 + n ≤ 20) (hl:SzS l) (q:Int) (hq0:0 ≤ q) (hq:q + 6 * n ≤ 1000):∀ (d i:Nat) (k:Nat),i + d = l.length → 30 * (n + 1) + d + 1 < k →
 ∃ r q',spec_l13Spaces.l1 k l ((n:Int) + 1) (i:Int) s q x.f0 x.f1 x.f2 x.f3 x.f4 = some (r,q') ∧ 1 ≤ r.length ∧ r.length ≤ 20 ∧ SzS r ∧ 0 ≤ q' ∧ q' ≤ q + 6 * n:=by
 have fin:∀ (i k:Nat),i ≤ l.length → 30 * (n + 1) < k → ∃ r q',spec_l13Spaces.l0 k (([] ++ l.take i ++ [x]) ++ l.drop i) (n:Int) s q = some (r,q') ∧ 1 ≤ r.length ∧ r.length ≤ 20 ∧ SzS r ∧ 0 ≤ q' ∧ q' ≤ q + 6 * n:=by
  intro i k hi hk
  obtain ⟨p1,p2⟩:=put_in x i hi hl hx
  rw [List.nil_append]
  exact ih _ q k (by omega) (by omega) p1 hq0 hq hk
 have wn:wrap64 ((n:Int) + 1 - 1) = (n:Int):=by rw [wrap_id (by omega) (by omega)];omega
 intro d
 induction d with
 |zero=>
  intro i k hi hk
  obtain ⟨k,rfl⟩:=succ_of hk
  have e:((i:Int)).toNat = i:=by omega
  rw [spec_l13Spaces.l1,if_neg (by omega)]
  simp only [Option.bind_some,e,wn]
  rw [if_pos (by omega),if_pos (by omega),if_pos (by simp;omega),if_pos (by simp;omega),if_pos (by simp;omega)]
  exact fin i k (by omega) (by omega)
 |succ d ihd=>
  intro i k hi hk
  obtain ⟨k,rfl⟩:=succ_of hk
  have e:((i:Int)).toNat = i:=by omega
  rw [spec_l13Spaces.l1,if_pos (by omega),if_pos (by omega)]
  simp only [Option.bind_some,e,wn]
  by_cases hb:Op.bytesLess ((riS26 l (i:Int)).f0).toList x.f0.toList = true
  · rw [if_pos hb,wrap_id (by omega) (by omega)]
    exact ihd (i + 1) k (by omega) (by omega)
  · rw [if_neg hb,if_pos (by omega),if_pos (by simp;omega),if_pos (by simp;omega),if_pos (by simp;omega)]
    exact fin i k (by omega) (by omega)
theorem l13_goes (hu:U8 s) (hs:s.length ≤ 2000):∀ n,Goes s n:=by
 intro n
 induction n with
 |zero=>
  intro l q k h1 h2 hl hq0 hq hk
  obtain ⟨k,rfl⟩:=succ_of hk
  rw [spec_l13Spaces.l0,if_neg (by omega)]
  exact ⟨l,q,rfl,h1,by omega,hl,hq0,by omega⟩
 |succ n ih=>
  intro l q k h1 h2 hl hq0 hq hk
  obtain ⟨k,rfl⟩:=succ_of hk
  have hq':q + 6 * (n:Int) + 6 ≤ 1000:=by simp at hq;omega
  obtain ⟨nm,e1,m1⟩:=of_eq (s:=s) (q:=q) (k:=k) (l:=([(⟨#[97]⟩:ByteArray),(⟨#[98]⟩:ByteArray),(⟨#[99]⟩:ByteArray),(⟨#[100]⟩:ByteArray),(⟨#[101]⟩:ByteArray)]:List ByteArray)) hu hs hq0 (by omega) (by decide) (by omega)
  obtain ⟨v2,e2,a2,b2⟩:=pick_eq (s:=s) (q:=q + 1) (n:=(l.length:Int)) (k:=k) hu hs (by omega) (by omega) (by omega) (by omega)
  obtain ⟨v3,e3,a3,b3⟩:=pick_eq (s:=s) (q:=q + 1 + 1) (n:=30) (k:=k) hu hs (by omega) (by omega) (by omega) (by omega)
  obtain ⟨v4,e4,a4,b4⟩:=pick_eq (s:=s) (q:=q + 1 + 1 + 1) (n:=3) (k:=k) hu hs (by omega) (by omega) (by omega) (by omega)
  obtain ⟨v5,e5,a5,b5⟩:=pick_eq (s:=s) (q:=q + 1 + 1 + 1 + 1) (n:=6) (k:=k) hu hs (by omega) (by omega) (by omega) (by omega)
  obtain ⟨v6,e6,a6,b6⟩:=pick_eq (s:=s) (q:=q + 1 + 1 + 1 + 1 + 1) (n:=9) (k:=k) hu hs (by omega) (by omega) (by omega) (by omega)
  have hnm:nm.size ≤ 10:=by
   simp only [List.mem_cons,List.not_mem_nil,or_false] at m1
   rcases m1 with rfl|rfl|rfl|rfl|rfl <;> decide
  have hov:=(hl _ (rdS_in a2 b2)).1
  have wn:wrap64 (((n + 1:Nat):Int) - 1) = (n:Int):=by rw [wrap_id (by omega) (by omega)];omega
  rw [spec_l13Spaces.l0,if_pos (by omega),e1]
  simp only [Option.bind_some,e2]
  rw [if_pos a2,if_pos b2]
  simp only [Option.bind_some,e3,e4]
  rw [if_pos a4,if_pos (by simp;omega)]
  simp only [Option.bind_some,e5,e6,l8At_eq l nm k (by omega) (by omega),wn]
  by_cases hi:ix l nm < 0
  · rw [if_pos hi]
    obtain ⟨r,q',er,r1,r2,r3,r4,r5⟩:=l13_l1 n ih ⟨nm,(riS26 l v2).f0,rd [-1,v3,9] v4,v5 == 0,wrap64 (1 + v6)⟩ ⟨hnm,hov⟩ l h1 (by omega) hl (q + 1 + 1 + 1 + 1 + 1 + 1) (by omega) (by omega) l.length 0 k (by omega) (by omega)
    refine ⟨r,q',?_,r1,r2,r3,r4,by simp;omega⟩
    exact er
  · rw [if_neg hi]
    obtain ⟨r,q',er,r1,r2,r3,r4,r5⟩:=ih l (q + 1 + 1 + 1 + 1 + 1 + 1) k h1 (by omega) hl (by omega) (by omega) (by omega)
    exact ⟨r,q',er,r1,r2,r3,r4,by simp;omega⟩
theorem l13Spaces_eq (hu:U8 s) (hs:s.length ≤ 2000) {q:Int} (hq0:0 ≤ q) (hq:q ≤ 850) {k:Nat} (hk:300 < k):∃ r q',spec_l13Spaces.f k s q = some (r,q') ∧ 1 ≤ r.length ∧ r.length ≤ 20 ∧ SzS r ∧ 0 ≤ q' ∧ q' ≤ q + 40:=by
 obtain ⟨v,e,a,b⟩:=pick_eq (s:=s) (q:=q) (n:=5) (k:=k) hu hs hq0 (by omega) (by omega) (by omega)
 obtain ⟨n,rfl⟩:∃ n:Nat,v = n:=⟨v.toNat,by omega⟩
 unfold spec_l13Spaces.f
 rw [show spec_ModelNew.f = some (0,0,0,[(⟨(⟨#[97,108,108]⟩:ByteArray),(⟨#[]⟩:ByteArray),(-1),false,0⟩:SiS23)],[(⟨(⟨#[97,108,108]⟩:ByteArray),0⟩:SiU25)],[],[]) from rfl,Option.bind_some,e,Option.bind_some]
 obtain ⟨r,q',er,r1,r2,r3,r4,r5⟩:=l13_goes hu hs n [(⟨(⟨#[97,108,108]⟩:ByteArray),(⟨#[]⟩:ByteArray),(-1),false,0⟩:SiS23)] (q + 1) k (by simp) (by simp;omega) (fun x hx=>by rw [List.mem_singleton.1 hx];decide) (by omega) (by omega) (by omega)
 exact ⟨r,q',er,r1,r2,r3,r4,by omega⟩
theorem szS_set {l:List SiS23} (h:SzS l) (i:Nat) (x:SiS23) (hx:x.f0.size ≤ 10 ∧ x.f1.size ≤ 10):SzS (l.set i x):=by
 intro y hy
 rcases List.mem_or_eq_of_mem_set hy with hy|rfl
 · exact h y hy
 · exact hx
theorem spoil_eq (hu:U8 s) (hs:s.length ≤ 2000) {q:Int} (hq0:0 ≤ q) (hq:q ≤ 1000) {k:Nat} (hk:0 < k) {l:List SiS23} (h1:1 ≤ l.length) (h2:l.length ≤ 20) (hl:SzS l):∃ r q',spec_l13SpoilSpaces.f k s q l = some (r,q') ∧ r.length ≤ 21 ∧ SzS r ∧ 0 ≤ q' ∧ q' ≤ q + 3:=by
 obtain ⟨v,e,a,b⟩:=pick_eq (s:=s) (q:=q) (n:=(l.length:Int)) (k:=k) hu hs hq0 (by omega) (by omega) (by omega)
 obtain ⟨u,e2,a2,b2⟩:=pick_eq (s:=s) (q:=q + 1) (n:=6) (k:=k) hu hs (by omega) (by omega) (by omega) (by omega)
 have hx:=hl _ (rdS_in a b)
 unfold spec_l13SpoilSpaces.f
 simp only [Option.bind_some,List.nil_append,List.length_nil,Nat.zero_add]
 rw [if_pos (by omega)]
 simp only [Option.bind_some,e,e2]
 by_cases c0:u = 0
 · obtain ⟨o,eo,mo⟩:=of_eq (s:=s) (q:=q + 1 + 1) (k:=k) (l:=([(⟨#[]⟩:ByteArray),(⟨#[122,122]⟩:ByteArray),(riS26 l v).f0,(⟨#[65]⟩:ByteArray)]:List ByteArray)) hu hs (by omega) (by omega) (by simp) hk
   have ho:o.size ≤ 10:=by
    simp only [List.mem_cons,List.not_mem_nil,or_false] at mo
    rcases mo with rfl|rfl|rfl|rfl
    · decide
    · decide
    · exact hx.1
    · decide
   rw [if_pos c0,if_pos a,if_pos b,eo,Option.bind_some]
   exact ⟨_,_,rfl,by simp;omega,szS_set hl _ _ ⟨hx.1,ho⟩,by omega,by omega⟩
 rw [if_neg c0]
 by_cases c1:u = 1
 · obtain ⟨o,eo,ao,bo⟩:=pick_eq (s:=s) (q:=q + 1 + 1) (n:=2) (k:=k) hu hs (by omega) (by omega) (by omega) hk
   rw [if_pos c1,eo,Option.bind_some,if_pos ao,if_pos (by simp;omega),if_pos a,if_pos b]
   exact ⟨_,_,rfl,by simp;omega,szS_set hl _ _ hx,by omega,by omega⟩
 rw [if_neg c1]
 by_cases c2:u = 2
 · rw [if_pos c2,if_pos a,if_pos b,if_pos (by omega)]
   refine ⟨_,_,rfl,by simp;omega,fun y hy=>?_,by omega,by omega⟩
   rcases List.mem_append.1 hy with hy|hy
   · exact hl y hy
   · rw [List.mem_singleton.1 hy];exact hx
 rw [if_neg c2]
 by_cases c3:u = 3
 · obtain ⟨o,eo,mo⟩:=of_eq (s:=s) (q:=q + 1 + 1) (k:=k) (l:=([(⟨#[]⟩:ByteArray),(⟨#[65]⟩:ByteArray)]:List ByteArray)) hu hs (by omega) (by omega) (by simp) hk
   have ho:o.size ≤ 10:=by
    simp only [List.mem_cons,List.not_mem_nil,or_false] at mo
    rcases mo with rfl|rfl <;> decide
   rw [if_pos c3,eo,Option.bind_some,if_pos a,if_pos b]
   exact ⟨_,_,rfl,by simp;omega,szS_set hl _ _ ⟨ho,hx.2⟩,by omega,by omega⟩
 rw [if_neg c3]
 by_cases c4:u = 4
 · rw [if_pos c4,if_pos a,if_pos (by omega),wrap_id (i:=v + 1) (by omega) (by omega),if_pos (by omega),if_pos (by omega)]
   refine ⟨_,_,rfl,?_,fun y hy=>hl y (List.mem_of_mem_eraseIdx hy),by omega,by omega⟩
   have:=List.length_eraseIdx_le l v.toNat
   omega
 rw [if_neg c4,if_pos a,if_pos b]
 exact ⟨_,_,rfl,by simp;omega,szS_set hl _ _ hx,by omega,by omega⟩
theorem any_at (hu:U8 s) (hs:s.length ≤ 2000) {k:Nat} (hk:300 < k) {z:Int} (z0:0 ≤ z) (z1:z ≤ 850):∃ r q',spec_l13AnySpaces.f k s z = some (r,q') ∧ r.length ≤ 21 ∧ SzS r ∧ 0 ≤ q' ∧ q' ≤ z + 60:=by
 obtain ⟨l,q,e,h1,h2,hl,q0,q1⟩:=l13Spaces_eq (s:=s) (q:=z) (k:=k) hu hs z0 z1 hk
 obtain ⟨v,ev,a,b⟩:=pick_eq (s:=s) (q:=q) (n:=12) (k:=k) hu hs q0 (by omega) (by omega) (by omega)
 unfold spec_l13AnySpaces.f
 rw [e,Option.bind_some,ev,Option.bind_some]
 by_cases c:v = 0
 · obtain ⟨r,q',er,r1,r2,r3,r4⟩:=spoil_eq (s:=s) (q:=q + 1) (k:=k) hu hs (by omega) (by omega) (by omega) h1 h2 hl
   rw [if_pos c]
   exact ⟨r,q',by show (spec_l13SpoilSpaces.f k s (q + 1) l).bind _ = _;rw [er];rfl,r1,r2,r3,by omega⟩
 · rw [if_neg c]
   exact ⟨l,q + 1,rfl,by omega,hl,by omega,by omega⟩
end
end Go.Proofs.YtlddibclbhhjoaaDoor.V
/- Texts of things: the program's test and the reference's. -/
namespace Go.Proofs.YtlddibclbhhjoaaDoor.V
open Go.RowKit Go.Proofs.YtlddibclbhhjoaaDoor.P Go.Proofs.YtlddibclbhhjoaaDoorW.PrintWords Go.Proofs.YtlddibclbhhjoaaDoorW.PrintMore
theorem l1In_eq (a b c:Int):spec_l1In.f a b c = some (decide (b ≤ a ∧ a ≤ c)):=by
 unfold spec_l1In.f
 by_cases h:a ≥ b
 · rw [if_pos h];simp [show b ≤ a from h]
 · rw [if_neg h];simp [show ¬ b ≤ a from h]
def VB (b:Int):Bool:=decide (32 ≤ b) && decide (b ≤ 126)
def valOk (s:ByteArray):Bool:=bAll VB s s.size 0 && decide (s.size ≤ 80)
theorem l4Value_l0:∀ (d i:Nat) (s:ByteArray) (k:Nat),i + d = s.size → d < k → s.size ≤ 4611686018427387904 → spec_l4Value.l0 k s (i:Int) = some (bAll VB s d i && decide (s.size ≤ 80)):=by
 intro d
 induction d with
 |zero=>
  intro i s k hi hk hb
  obtain ⟨k,rfl⟩:=succ_of hk
  rw [spec_l4Value.l0,if_neg (by omega)]
  simp only [bAll,Bool.true_and]
  congr 1
  exact decide_eq_decide.2 (by omega)
 |succ d ih=>
  intro i s k hi hk hb
  obtain ⟨k,rfl⟩:=succ_of hk
  rw [spec_l4Value.l0,if_pos (by omega),if_pos (nat_le0 _),bAll]
  have hr:-9223372036854775808 ≤ (i:Int) + 1:=by omega
  by_cases h1:bt s i < 32
  · rw [if_pos h1];simp [VB,show ¬ 32 ≤ bt s i by omega]
  · rw [if_neg h1]
    by_cases h2:bt s i > 126
    · rw [if_pos h2];simp [VB,show ¬ bt s i ≤ 126 by omega]
    · rw [if_neg h2,wrap_id hr (by omega),show (i:Int) + 1 = ((i + 1:Nat):Int) by omega,ih (i + 1) s k (by omega) (by omega) hb]
      simp [VB,show 32 ≤ bt s i by omega,show bt s i ≤ 126 by omega]
theorem l4Value_eq (s:ByteArray) (k:Nat) (hk:s.size < k) (hb:s.size ≤ 4611686018427387904):spec_l4Value.f k s = some (valOk s):=l4Value_l0 s.size 0 s k (by omega) hk hb
theorem isBetween_l0:∀ (d i:Nat) (s:ByteArray) (lo hi:Int) (k:Nat),i + d = s.size → d < k → s.size ≤ 4611686018427387904 → impl_isBetween.l0 k s lo hi (s.size:Int) (i:Int) = some (bAll (fun b=>decide (lo ≤ b) && decide (b ≤ hi)) s d i):=by
 intro d
 induction d with
 |zero=>
  intro i s lo hi k hi' hk hb
  obtain ⟨k,rfl⟩:=succ_of hk
  rw [impl_isBetween.l0,if_neg (by omega)];rfl
 |succ d ih=>
  intro i s lo hi k hi' hk hb
  obtain ⟨k,rfl⟩:=succ_of hk
  rw [impl_isBetween.l0,if_pos (by omega),if_pos (nat_le0 _),if_pos (by omega),bAll]
  by_cases h1:bt s i < lo
  · rw [if_pos h1];simp [show ¬ lo ≤ bt s i by omega]
  · rw [if_neg h1]
    by_cases h2:bt s i > hi
    · rw [if_pos h2];simp [show ¬ bt s i ≤ hi by omega]
    · rw [if_neg h2,wrap_id (by omega) (by omega),show (i:Int) + 1 = ((i + 1:Nat):Int) by omega,ih (i + 1) s lo hi k (by omega) (by omega) hb]
      simp [show lo ≤ bt s i by omega,show bt s i ≤ hi by omega]
theorem isBetween_eq (s:ByteArray) (lo hi:Int) (k:Nat) (hk:s.size < k) (hb:s.size ≤ 4611686018427387904):impl_isBetween.f k s lo hi = some (bAll (fun b=>decide (lo ≤ b) && decide (b ≤ hi)) s s.size 0):=isBetween_l0 s.size 0 s lo hi k (by omega) hk hb
def bodyB (s:ByteArray):Bool:=bAll VB s s.size 0 && decide (s.size ≤ 40)
theorem isBody_eq (s:ByteArray) (k:Nat) (hk:s.size < k) (hb:s.size ≤ 4611686018427387904):impl_isBody.f k s = some (bodyB s):=by
 unfold impl_isBody.f bodyB
 by_cases h:s.size ≤ 40
 · rw [if_pos (by omega),isBetween_eq s 32 126 k hk hb,Option.bind_some,decide_eq_true h,Bool.and_true]
   rfl
 · rw [if_neg (by omega),decide_eq_false h,Bool.and_false]
theorem l7Body_eq (s:ByteArray) (k:Nat) (hk:s.size < k) (hb:s.size ≤ 4611686018427387904):spec_l7Body.f k s = some (bodyB s):=by
 unfold spec_l7Body.f bodyB
 rw [l4Value_eq s k hk hb,Option.bind_some]
 unfold valOk
 by_cases h:bAll VB s s.size 0 = true
 · rw [h]
   by_cases h2:s.size ≤ 80
   · rw [if_pos (by simp [h2])]
     simp only [Bool.true_and]
     congr 1
     exact decide_eq_decide.2 (by omega)
   · rw [if_neg (by simp [h2]),decide_eq_false (by omega)];rfl
 · rw [Bool.eq_false_iff.2 h,if_neg (by simp)];rfl
end Go.Proofs.YtlddibclbhhjoaaDoor.V
/- When things are ok. -/
namespace Go.Proofs.YtlddibclbhhjoaaDoor.V
open Go.RowKit Go.Proofs.YtlddibclbhhjoaaDoor.P Go.Proofs.YtlddibclbhhjoaaDoorW.PrintWords Go.Proofs.YtlddibclbhhjoaaDoorW.PrintMore
def mGo:Option ByteArray → List ByteArray → Bool
 |_,[]=>true
 |none,x :: l=>nameB x && mGo (some x) l
 |some p,x :: l=>nameB x && Op.bytesLess p.toList x.toList && mGo (some x) l
theorem last_rd {pre suf:List ByteArray} {y:ByteArray}:rdOf ByteArray.empty ((pre ++ [y]) ++ suf) (((pre ++ [y]).length:Int) - 1) = y:=by
 have:(((pre ++ [y]).length:Int) - 1) = (pre.length:Int):=by simp
 rw [this,List.append_assoc]
 exact rdOf_mid _
theorem l7Marks_l0:∀ (suf pre:List ByteArray) (k N:Nat),N + suf.length + 1 < k → (∀ s ∈ suf,s.size < N ∧ s.size ≤ 4611686018427387904) → (pre ++ suf).length ≤ 4611686018427387904 →
 spec_l7Marks.l0 k (pre ++ suf) (pre.length:Int) = some (mGo pre.getLast? suf && decide ((pre ++ suf).length ≤ 2)):=by
 intro suf
 induction suf with
 |nil=>
  intro pre k N hk hs hb
  obtain ⟨k,rfl⟩:=succ_of hk
  rw [spec_l7Marks.l0,if_neg end_not_lt]
  have:mGo pre.getLast? [] = true:=by cases pre.getLast? <;> rfl
  rw [this,Bool.true_and]
  congr 1
  exact decide_eq_decide.2 (by omega)
 |cons x suf ih=>
  intro pre k N hk hs hb
  obtain ⟨k,rfl⟩:=succ_of hk
  have hx:=hs x (by simp)
  have hlen:pre.length < 4611686018427387904:=by simp at hb;omega
  have hn:=ih (pre ++ [x]) k N (by simp at hk;omega) (fun s h=>hs s (by simp [h])) (by simpa using hb)
  rw [← snoc_app] at hn
  rw [List.getLast?_concat] at hn
  rw [spec_l7Marks.l0,if_pos mid_lt,if_pos (nat_le0 _),rdOf_mid,sNameOk_eq x k (by omega) (by omega),Option.bind_some,wrap_snoc (x:=x) (by omega),hn]
  rcases List.eq_nil_or_concat pre with rfl|⟨pre',y,rfl⟩
  · cases h:nameB x
    · simp [mGo,h]
    · rw [if_pos rfl,if_neg (by simp)]
      simp [mGo,h]
  · rw [List.concat_eq_append] at *
    cases h:nameB x
    · rw [if_neg (by simp),List.getLast?_concat];simp [mGo,h]
    · have hp:0 < (pre' ++ [y]).length:=by simp
      rw [if_pos rfl,if_pos (by omega),wrap_id (i:=((pre' ++ [y]).length:Int) - 1) (by omega) (by omega),if_pos (by omega),if_pos (by have:=mid_lt (pre:=pre' ++ [y]) (suf:=suf) (x:=x);omega),last_rd,List.getLast?_concat]
      cases h2:Op.bytesLess y.toList x.toList
      · rw [if_neg (by simp)];simp [mGo,h,h2]
      · rw [if_pos rfl];simp [mGo,h,h2]
def tOk (a b:ByteArray) (u r:Int) (g:Bool) (l:List ByteArray) (d:ByteArray):Bool:=nameB a && nameB b && decide (1 ≤ u ∧ u ≤ 99999) && decide (1 ≤ r ∧ r ≤ 99999) && (mGo none l && decide (l.length ≤ 2)) && bodyB d && (!g || decide (0 < l.length))
theorem sThingOk_eq (a b:ByteArray) (u r:Int) (g:Bool) (l:List ByteArray) (d:ByteArray) (k N:Nat) (hk:N + l.length + 1 < k) (ha:a.size < N) (hb:b.size < N) (hl:∀ s ∈ l,s.size < N) (hd:d.size < N) (hN:N ≤ 4611686018427387904) (hll:l.length ≤ 4611686018427387904) :
 spec_ThingOk.f k a b u r g l d = some (tOk a b u r g l d):=by
 have hm:=l7Marks_l0 l [] k N (by omega) (fun s h=>⟨hl s h,by have:=hl s h;omega⟩) (by simpa using hll)
 rw [List.nil_append,show ((([]:List ByteArray).length:Nat):Int) = 0 from rfl] at hm
 unfold spec_ThingOk.f tOk
 rw [sNameOk_eq a k (by omega) (by omega),Option.bind_some,sNameOk_eq b k (by omega) (by omega),Option.bind_some,l1In_eq,l1In_eq,Option.bind_some,Option.bind_some]
 unfold spec_l7Marks.f
 rw [hm,Option.bind_some,l7Body_eq d k (by omega) (by omega),Option.bind_some]
 show _ = some (nameB a && nameB b && decide (1 ≤ u ∧ u ≤ 99999) && decide (1 ≤ r ∧ r ≤ 99999) && (mGo ([]:List ByteArray).getLast? l && decide (l.length ≤ 2)) && bodyB d && (!g || decide (0 < l.length)))
 cases nameB a
 · rfl
 cases nameB b
 · rfl
 cases h1:decide (1 ≤ u ∧ u ≤ 99999)
 · rfl
 cases h2:decide (1 ≤ r ∧ r ≤ 99999)
 · rfl
 cases h3:(mGo ([]:List ByteArray).getLast? l && decide (l.length ≤ 2))
 · rfl
 cases bodyB d
 · rfl
 cases g
 · rfl
 · simp only [if_true,Bool.true_and,Bool.not_true,Bool.false_or]
   congr 1
   exact decide_eq_decide.2 (by omega)
theorem isThing_l0 (a b:ByteArray) (u r:Int) (g:Bool) (d:ByteArray) (N:Nat) (hN:N ≤ 4611686018427387904) (ha:a.size < N) (hb:b.size < N) (hd:d.size < N):∀ (suf pre:List ByteArray) (k:Nat),N + suf.length + 1 < k → (pre ++ suf).length ≤ 4611686018427387904 →
 impl_isThing.l0 k (pre ++ suf) ((pre ++ suf).length:Int) (pre.length:Int) a b u r g (pre ++ suf) d = some (nameB a && nameB b && decide (1 ≤ u ∧ u ≤ 99999) && decide (1 ≤ r ∧ r ≤ 99999) && (mGo pre.getLast? suf && decide ((pre ++ suf).length ≤ 2)) && bodyB d && (!g || decide (0 < (pre ++ suf).length))):=by
 intro suf
 induction suf with
 |nil=>
  intro pre k hk hl
  obtain ⟨k,rfl⟩:=succ_of hk
  rw [impl_isThing.l0,if_neg (by simp),isName_eq,Option.bind_some,isName_eq,Option.bind_some,isBody_eq d k (by omega) (by omega)]
  simp only [Option.bind_some]
  have:mGo pre.getLast? [] = true:=by cases pre.getLast? <;> rfl
  rw [this,Bool.true_and,List.append_nil] at *
  generalize pre.length = n at *
  cases nameB a
  · rfl
  cases nameB b
  · rfl
  by_cases h3:n ≤ 2
  · rw [if_pos rfl,if_pos rfl,if_neg (by omega),decide_eq_true h3]
    by_cases h1:1 ≤ u ∧ u ≤ 99999
    · rw [if_pos h1.1,if_pos h1.2,decide_eq_true h1]
      by_cases h2:1 ≤ r ∧ r ≤ 99999
      · rw [if_pos h2.1,if_pos h2.2,decide_eq_true h2]
        cases g
        · simp
        · by_cases h4:0 < n
          · rw [if_pos rfl,if_neg (by omega),decide_eq_true h4];simp
          · rw [if_pos rfl,if_pos (by omega),decide_eq_false h4];simp
      · rw [decide_eq_false h2]
        by_cases h5:r ≥ 1
        · rw [if_pos h5,if_neg (fun h=>h2 ⟨h5,h⟩)];simp
        · rw [if_neg h5];simp
    · rw [decide_eq_false h1]
      by_cases h5:u ≥ 1
      · rw [if_pos h5,if_neg (fun h=>h1 ⟨h5,h⟩)];simp
      · rw [if_neg h5];simp
  · rw [if_pos rfl,if_pos rfl,if_pos (by omega),decide_eq_false h3];simp
 |cons x suf ih=>
  intro pre k hk hl
  obtain ⟨k,rfl⟩:=succ_of hk
  have hlen:pre.length < 4611686018427387904:=by simp at hl;omega
  have hn:=ih (pre ++ [x]) k (by simp at hk;omega) (by simpa using hl)
  rw [← snoc_app,List.getLast?_concat] at hn
  rw [impl_isThing.l0,if_pos mid_lt,if_pos (nat_le0 _),if_pos mid_lt,rdOf_mid,isName_eq,Option.bind_some,wrap_snoc (x:=x) (by omega),hn]
  rcases List.eq_nil_or_concat pre with rfl|⟨pre',y,rfl⟩
  · cases h:nameB x
    · simp [mGo,h]
    · rw [if_pos rfl,if_neg (by simp)]
      simp [mGo,h]
  · rw [List.concat_eq_append] at *
    cases h:nameB x
    · rw [if_neg (by simp),List.getLast?_concat];simp [mGo,h]
    · have hp:0 < (pre' ++ [y]).length:=by simp
      rw [if_pos rfl,if_pos (by omega),wrap_id (i:=((pre' ++ [y]).length:Int) - 1) (by omega) (by omega),if_pos (by omega),if_pos (by have:=mid_lt (pre:=pre' ++ [y]) (suf:=suf) (x:=x);omega),last_rd,List.getLast?_concat]
      cases h2:Op.bytesLess y.toList x.toList
      · rw [if_neg (by simp)];simp [mGo,h,h2]
      · rw [if_pos rfl];simp [mGo,h,h2]
theorem isThing_eq (a b:ByteArray) (u r:Int) (g:Bool) (l:List ByteArray) (d:ByteArray) (k N:Nat) (hk:N + l.length + 1 < k) (ha:a.size < N) (hb:b.size < N) (hd:d.size < N) (hN:N ≤ 4611686018427387904) (hll:l.length ≤ 4611686018427387904) :
 impl_isThing.f k a b u r g l d = some (tOk a b u r g l d):=by
 have:=isThing_l0 a b u r g d N hN ha hb hd l [] k hk (by simpa using hll)
 rw [List.nil_append,show ((([]:List ByteArray).length:Nat):Int) = 0 from rfl] at this
 unfold impl_isThing.f
 rw [this];rfl
theorem ThingOk_eq (a b:ByteArray) (u r:Int) (g:Bool) (l:List ByteArray) (d:ByteArray) (k N:Nat) (hk:N + l.length + 1 < k) (ha:a.size < N) (hb:b.size < N) (hd:d.size < N) (hN:N ≤ 4611686018427387904) (hll:l.length ≤ 4611686018427387904) :
 impl_ThingOk.f k a b u r g l d = some (tOk a b u r g l d):=by
 unfold impl_ThingOk.f
 rw [isThing_eq a b u r g l d k N hk ha hb hd hN hll];rfl
end Go.Proofs.YtlddibclbhhjoaaDoor.V
/- Drawn things: always one, and small. -/
namespace Go.Proofs.YtlddibclbhhjoaaDoor.V
open Go.RowKit Go.Proofs.YtlddibclbhhjoaaDoor.P Go.Proofs.YtlddibclbhhjoaaDoorW.PrintWords Go.Proofs.YtlddibclbhhjoaaDoorW.PrintMore
def SzL (n:Nat) (l:List ByteArray):Prop:=l.length ≤ n ∧ ∀ x ∈ l,x.size ≤ 100
theorem put_inL {l:List ByteArray} {n:Nat} (x:ByteArray) (i:Nat) (hi:i ≤ l.length) (hl:SzL n l) (hx:x.size ≤ 100):SzL (n + 1) (([] ++ l.take i ++ [x]) ++ l.drop i):=by
 refine ⟨by have:=hl.1;simp;omega,fun y hy=>?_⟩
 rw [List.nil_append] at hy
 rcases List.mem_append.1 hy with hy|hy
 · rcases List.mem_append.1 hy with hy|hy
   · exact hl.2 y (List.mem_of_mem_take hy)
   · rw [List.mem_singleton.1 hy];exact hx
 · exact hl.2 y (List.mem_of_mem_drop hy)
theorem mark_l0 (x:ByteArray) (hx:x.size ≤ 100) (n:Nat) (hn:n ≤ 100) (l:List ByteArray) (hl:SzL n l):∀ (d i:Nat) (k:Nat),i + d = l.length → d < k → ∃ r,spec_l13Mark.l0 k l x (i:Int) = some r ∧ SzL (n + 1) r:=by
 have hll:=hl.1
 intro d
 induction d with
 |zero=>
  intro i k hi hk
  obtain ⟨k,rfl⟩:=succ_of hk
  have e:((i:Int)).toNat = i:=by omega
  rw [spec_l13Mark.l0,if_neg (by omega)]
  simp only [Option.bind_some,e]
  rw [if_pos (by omega),if_pos (by omega),if_pos (by simp;omega),if_pos (by simp;omega),if_pos (by simp;omega)]
  exact ⟨_,rfl,put_inL x i (by omega) hl hx⟩
 |succ d ih=>
  intro i k hi hk
  obtain ⟨k,rfl⟩:=succ_of hk
  have e:((i:Int)).toNat = i:=by omega
  rw [spec_l13Mark.l0,if_pos (by omega),if_pos (by omega)]
  simp only [Option.bind_some,e]
  by_cases hb:Op.bytesLess ((rdOf ByteArray.empty l (i:Int)).toList) x.toList = true
  · rw [if_pos hb,wrap_id (by omega) (by omega)]
    exact ih (i + 1) k (by omega) (by omega)
  · rw [if_neg hb]
    by_cases h2:(rdOf ByteArray.empty l (i:Int)).toList = x.toList
    · rw [if_pos h2]
      exact ⟨l,rfl,by omega,hl.2⟩
    · rw [if_neg h2,if_pos (by omega),if_pos (by simp;omega),if_pos (by simp;omega),if_pos (by simp;omega)]
      exact ⟨_,rfl,put_inL x i (by omega) hl hx⟩
section
variable {s:List Int}
theorem thing_l0 (hu:U8 s) (hs:s.length ≤ 2000) (a b:ByteArray) (u r:Int) (d:ByteArray):∀ (n:Nat) (l:List ByteArray) (q:Int) (k:Nat),n ≤ 10 → SzL (20 - n) l → 0 ≤ q → q + n ≤ 900 → 40 + n < k → ∃ g l' q',spec_l13Thing.l0 k (n:Int) s q a b u r false l d = some (a,b,u,r,g,l',d,q') ∧ SzL 20 l' ∧ 0 ≤ q' ∧ q' ≤ q + n + 1:=by
 intro n
 induction n with
 |zero=>
  intro l q k hn hl q0 q1 hk
  obtain ⟨k,rfl⟩:=succ_of hk
  rw [spec_l13Thing.l0,if_neg (by omega)]
  by_cases h:(l.length:Int) > 0
  · obtain ⟨v,e,a1,b1⟩:=pick_eq (s:=s) (q:=q) (n:=3) (k:=k) hu hs q0 (by omega) (by omega) (by omega)
    rw [if_pos h,e,Option.bind_some]
    exact ⟨_,_,_,rfl,hl,by omega,by omega⟩
  · rw [if_neg h]
    exact ⟨_,_,_,rfl,hl,by omega,by omega⟩
 |succ n ih=>
  intro l q k hn hl q0 q1 hk
  obtain ⟨k,rfl⟩:=succ_of hk
  obtain ⟨o,eo,mo⟩:=of_eq (s:=s) (q:=q) (k:=k) (l:=([(⟨#[107]⟩:ByteArray),(⟨#[108]⟩:ByteArray),(⟨#[109]⟩:ByteArray)]:List ByteArray)) hu hs q0 (by omega) (by simp) (by omega)
  have ho:o.size ≤ 100:=by
   simp only [List.mem_cons,List.not_mem_nil,or_false] at mo
   rcases mo with rfl|rfl|rfl <;> decide
  have hll:=hl.1
  obtain ⟨l2,e2,h2⟩:=mark_l0 o ho (20 - (n + 1)) (by omega) l hl l.length 0 k (by omega) (by omega)
  have e2':spec_l13Mark.f k l o = some l2:=e2
  have wn:wrap64 (((n + 1:Nat):Int) - 1) = (n:Int):=by rw [wrap_id (by omega) (by omega)];omega
  rw [spec_l13Thing.l0,if_pos (by omega),eo,Option.bind_some,e2',Option.bind_some,wn]
  obtain ⟨g,l',q',er,r1,r2,r3⟩:=ih l2 (q + 1) k (by omega) ⟨by have:=h2.1;omega,h2.2⟩ (by omega) (by omega) (by omega)
  exact ⟨g,l',q',er,r1,r2,by omega⟩
def DmT (a b:ByteArray) (l:List ByteArray) (d:ByteArray):Prop:=a.size ≤ 100 ∧ b.size ≤ 100 ∧ SzL 20 l ∧ d.size ≤ 100
theorem thing_at (hu:U8 s) (hs:s.length ≤ 2000) {k:Nat} (hk:100 < k) {z:Int} (z0:0 ≤ z) (z1:z ≤ 800):∃ a b u r g l d q,spec_l13Thing.f k s z = some (a,b,u,r,g,l,d,q) ∧ DmT a b l d ∧ 0 ≤ q ∧ q ≤ z + 50:=by
 obtain ⟨a,e1,m1⟩:=of_eq (s:=s) (q:=z) (k:=k) (l:=([(⟨#[97,108,108]⟩:ByteArray),(⟨#[97]⟩:ByteArray),(⟨#[98]⟩:ByteArray)]:List ByteArray)) hu hs (by omega) (by omega) (by simp) (by omega)
 obtain ⟨b,e2,m2⟩:=of_eq (s:=s) (q:=z + 1) (k:=k) (l:=([(⟨#[97]⟩:ByteArray),(⟨#[98]⟩:ByteArray),(⟨#[97,98]⟩:ByteArray),(⟨#[99]⟩:ByteArray)]:List ByteArray)) hu hs (by omega) (by omega) (by simp) (by omega)
 obtain ⟨v3,e3,a3,b3⟩:=pick_eq (s:=s) (q:=z + 1 + 1) (n:=9) (k:=k) hu hs (by omega) (by omega) (by omega) (by omega)
 obtain ⟨v4,e4,a4,b4⟩:=pick_eq (s:=s) (q:=z + 1 + 1 + 1) (n:=20) (k:=k) hu hs (by omega) (by omega) (by omega) (by omega)
 obtain ⟨d,e5,m5⟩:=of_eq (s:=s) (q:=z + 1 + 1 + 1 + 1) (k:=k) (l:=([(⟨#[]⟩:ByteArray),(⟨#[98,111,100,121]⟩:ByteArray),(⟨#[97,32,108,111,110,103,101,114,32,98,111,100,121]⟩:ByteArray),(⟨#[32]⟩:ByteArray)]:List ByteArray)) hu hs (by omega) (by omega) (by simp) (by omega)
 obtain ⟨v6,e6,a6,b6⟩:=pick_eq (s:=s) (q:=z + 1 + 1 + 1 + 1 + 1) (n:=3) (k:=k) hu hs (by omega) (by omega) (by omega) (by omega)
 obtain ⟨n,rfl⟩:∃ n:Nat,v6 = n:=⟨v6.toNat,by omega⟩
 have ha:a.size ≤ 100:=by
  simp only [List.mem_cons,List.not_mem_nil,or_false] at m1
  rcases m1 with rfl|rfl|rfl <;> decide
 have hb:b.size ≤ 100:=by
  simp only [List.mem_cons,List.not_mem_nil,or_false] at m2
  rcases m2 with rfl|rfl|rfl|rfl <;> decide
 have hd:d.size ≤ 100:=by
  simp only [List.mem_cons,List.not_mem_nil,or_false] at m5
  rcases m5 with rfl|rfl|rfl|rfl <;> decide
 obtain ⟨g,l',q',er,r1,r2,r3⟩:=thing_l0 hu hs a b (wrap64 (1 + v3)) (wrap64 (1 + v4)) d n [] (z + 1 + 1 + 1 + 1 + 1 + 1) k (by omega) ⟨by simp,fun x hx=>by cases hx⟩ (by omega) (by omega) (by omega)
 refine ⟨a,b,wrap64 (1 + v3),wrap64 (1 + v4),g,l',d,q',?_,⟨ha,hb,r1,hd⟩,r2,by omega⟩
 unfold spec_l13Thing.f
 rw [e1]
 simp only [Option.bind_some,spec_l13Names.f,e2,e3,e4,e5,e6]
 exact er
theorem anyThing_at (hu:U8 s) (hs:s.length ≤ 2000) {k:Nat} (hk:100 < k) {z:Int} (z0:0 ≤ z) (z1:z ≤ 800):∃ a b u r g l d q,spec_l13AnyThing.f k s z = some (a,b,u,r,g,l,d,q) ∧ DmT a b l d ∧ 0 ≤ q ∧ q ≤ z + 60:=by
 obtain ⟨a,b,u,r,g,l,d,q,e,⟨h1,h2,h3,h4⟩,q0,q1⟩:=thing_at hu hs hk z0 z1
 obtain ⟨v,ev,va,vb⟩:=pick_eq (s:=s) (q:=q) (n:=20) (k:=k) hu hs q0 (by omega) (by omega) (by omega)
 unfold spec_l13AnyThing.f
 rw [e]
 simp only [Option.bind_some,ev]
 by_cases c0:v = 0
 · obtain ⟨w,ew,wa,wb⟩:=pick_eq (s:=s) (q:=q + 1) (n:=2) (k:=k) hu hs (by omega) (by omega) (by omega) (by omega)
   rw [if_pos c0,ew,Option.bind_some,if_pos wa,if_pos (by simp;omega)]
   exact ⟨_,_,_,_,_,_,_,_,rfl,⟨h1,h2,h3,h4⟩,by omega,by omega⟩
 rw [if_neg c0]
 by_cases c1:v = 1
 · obtain ⟨o,eo,mo⟩:=of_eq (s:=s) (q:=q + 1) (k:=k) (l:=([(⟨#[]⟩:ByteArray),(⟨#[65]⟩:ByteArray),(⟨#[116,111,111,108,111,110,103]⟩:ByteArray)]:List ByteArray)) hu hs (by omega) (by omega) (by simp) (by omega)
   have ho:o.size ≤ 100:=by
    simp only [List.mem_cons,List.not_mem_nil,or_false] at mo
    rcases mo with rfl|rfl|rfl <;> decide
   rw [if_pos c1,eo,Option.bind_some]
   exact ⟨_,_,_,_,_,_,_,_,rfl,⟨h1,ho,h3,h4⟩,by omega,by omega⟩
 rw [if_neg c1]
 by_cases c2:v = 2
 · rw [if_pos c2]
   refine ⟨_,_,_,_,_,_,_,_,rfl,⟨h1,h2,⟨by simp,fun x hx=>?_⟩,h4⟩,by omega,by omega⟩
   simp only [List.mem_cons,List.not_mem_nil,or_false] at hx
   rcases hx with rfl|rfl <;> decide
 rw [if_neg c2]
 by_cases c3:v = 3
 · obtain ⟨w,ew,wa,wb⟩:=pick_eq (s:=s) (q:=q + 1) (n:=2) (k:=k) hu hs (by omega) (by omega) (by omega) (by omega)
   have hmany:∃ t,spec_l1Many.f k (⟨#[98]⟩:ByteArray) 41 = some t ∧ t.size ≤ 100:=by
    obtain ⟨k',rfl⟩:∃ k',k = 10 + k':=⟨k - 10,by omega⟩
    refine ⟨⟨(List.replicate 41 98).toArray⟩,?_,by decide⟩
    clear hk ev e ew
    induction k' with
    |zero=>kernel_rfl
    |succ k' ih=>exact spec_l1Many.mono _ _ _ _ ih
   obtain ⟨t,et,ht⟩:=hmany
   have hr:(rdOf ByteArray.empty [(⟨#[10]⟩:ByteArray),t] w).size ≤ 100:=by
    rcases (show w = 0 ∨ w = 1 by omega) with rfl|rfl
    · show (⟨#[10]⟩:ByteArray).size ≤ 100
      decide
    · exact ht
   rw [if_pos c3,et,Option.bind_some,ew,Option.bind_some,if_pos wa,if_pos (by simp;omega)]
   exact ⟨_,_,_,_,_,_,_,_,rfl,⟨h1,h2,h3,hr⟩,by omega,by omega⟩
 rw [if_neg c3]
 by_cases c4:v = 4
 · rw [if_pos c4]
   exact ⟨_,_,_,_,_,_,_,_,rfl,⟨h1,h2,⟨by simp,fun x hx=>by cases hx⟩,h4⟩,by omega,by omega⟩
 rw [if_neg c4]
 by_cases c5:v = 5
 · rw [if_pos c5]
   refine ⟨_,_,_,_,_,_,_,_,rfl,⟨h1,h2,⟨by simp,fun x hx=>?_⟩,h4⟩,by omega,by omega⟩
   simp only [List.mem_cons,List.not_mem_nil,or_false] at hx
   rcases hx with rfl|rfl|rfl <;> decide
 rw [if_neg c5]
 by_cases c6:v = 6
 · rw [if_pos c6]
   exact ⟨_,_,_,_,_,_,_,_,rfl,⟨h1,h2,h3,h4⟩,by omega,by omega⟩
 rw [if_neg c6]
 exact ⟨_,_,_,_,_,_,_,_,rfl,⟨h1,h2,h3,h4⟩,by omega,by omega⟩
end
end Go.Proofs.YtlddibclbhhjoaaDoor.V
/- What the things of a space use in all: the program's sum and the reference's. -/
namespace Go.Proofs.YtlddibclbhhjoaaDoor.V
open Go.RowKit Go.Proofs.YtlddibclbhhjoaaDoor.P Go.Proofs.YtlddibclbhhjoaaDoorW.PrintWords Go.Proofs.YtlddibclbhhjoaaDoorW.PrintMore
theorem rdTh {pre suf:List SiT24} {x:SiT24}:riT27 (pre ++ x :: suf) (pre.length:Int) = x:=by simp [riT27]
def okT (x:SiT24):Bool:=tOk x.f0 x.f1 x.f2 x.f3 x.f4 x.f5 x.f6
def SmT (N:Nat) (x:SiT24):Prop:=x.f0.size < N ∧ x.f1.size < N ∧ x.f5.length < N ∧ (∀ s ∈ x.f5,s.size < N) ∧ x.f6.size < N
def sumT (l:List SiS23) (o:ByteArray):List SiT24 → Nat
 |[]=>0
 |x :: r=>(if has (nms (chain l x.f0)) o = true then 1 + x.f6.size else 0) + sumT l o r
theorem sumT_le (l:List SiS23) (o:ByteArray) (N:Nat):∀ (r:List SiT24),(∀ x ∈ r,SmT N x) → sumT l o r ≤ N * r.length
 |[],_=>Nat.zero_le _
 |x :: r,h=>by
  have h1:=sumT_le l o N r (fun y hy=>h y (List.mem_cons_of_mem _ hy))
  have h2:=(h x List.mem_cons_self).2.2.2.2
  rw [sumT,List.length_cons,Nat.mul_succ]
  split <;> omega
theorem l8Sum_l0 {l:List SiS23} (ha:areS l = true) (o:ByteArray):∀ (suf pre:List SiT24) (n:Nat) (k:Nat),suf.length + 40 < k → (pre ++ suf).length ≤ 1000000000 → n + sumT l o suf ≤ 4611686018427387904 →
 spec_l8Sum.l0 k l (pre ++ suf) o (n:Int) (pre.length:Int) = some ((n + sumT l o suf:Nat):Int):=by
 intro suf
 have h7:=areS_len ha
 induction suf with
 |nil=>
  intro pre n k hk hb hn
  obtain ⟨k,rfl⟩:=succ_of hk
  rw [spec_l8Sum.l0,if_neg end_not_lt];rfl
 |cons x suf ih=>
  intro pre n k hk hb hn
  obtain ⟨k,rfl⟩:=succ_of hk
  rw [sumT] at hn ⊢
  rw [spec_l8Sum.l0,if_pos mid_lt,if_pos (nat_le0 _),rdTh,l8In_eq ha (by omega),Option.bind_some]
  by_cases h:has (nms (chain l x.f0)) o = true
  · rw [if_pos h] at hn ⊢
    rw [if_pos h,wrap_id (i:=(n:Int) + 1) (by omega) (by omega),wrap_id (i:=(n:Int) + 1 + _) (by omega) (by omega),wrap_snoc (x:=x) (by simp at hb;omega),snoc_app,
     show (n:Int) + 1 + (x.f6.size:Int) = ((n + 1 + x.f6.size:Nat):Int) by omega,ih (pre ++ [x]) (n + 1 + x.f6.size) k (by simp at hk;omega) (by simpa using hb) (by omega)]
    congr 2;omega
  · rw [if_neg h] at hn ⊢
    rw [if_neg h,wrap_snoc (x:=x) (by simp at hb;omega),snoc_app,ih (pre ++ [x]) n k (by simp at hk;omega) (by simpa using hb) (by omega)]
    congr 2;omega
theorem useSum_l0 {l:List SiS23} (ha:areS l = true) (o:ByteArray):∀ (suf pre:List SiT24) (n:Nat) (k:Nat),suf.length + 40 < k → (pre ++ suf).length ≤ 1000000000 → n + sumT l o suf ≤ 4611686018427387904 →
 impl_useSum.l0 k l o (n:Int) (pre ++ suf) ((pre ++ suf).length:Int) (pre.length:Int) = some ((n + sumT l o suf:Nat):Int):=by
 intro suf
 have h7:=areS_len ha
 induction suf with
 |nil=>
  intro pre n k hk hb hn
  obtain ⟨k,rfl⟩:=succ_of hk
  rw [impl_useSum.l0,if_neg end_not_lt];rfl
 |cons x suf ih=>
  intro pre n k hk hb hn
  obtain ⟨k,rfl⟩:=succ_of hk
  have hc:=chain_len ha x.f0
  rw [sumT] at hn ⊢
  rw [impl_useSum.l0,if_pos mid_lt,if_pos (nat_le0 _),if_pos mid_lt,rdTh,spaceUp_eq l x.f0 k (by omega) (areS_en ha x.f0),Option.bind_some]
  rw [show nms (up 9 l x.f0) = nms (chain l x.f0) from rfl,Contains_eq _ o k (by rw [nms_len];omega) (by rw [nms_len];omega),Option.bind_some]
  by_cases h:has (nms (chain l x.f0)) o = true
  · rw [if_pos h] at hn ⊢
    rw [if_pos h,impl_costOf.f,Option.bind_some,wrap_id (i:=1 + (x.f6.size:Int)) (by omega) (by omega),wrap_id (i:=(n:Int) + _) (by omega) (by omega),wrap_snoc (x:=x) (by simp at hb;omega),snoc_app,
     show (n:Int) + (1 + (x.f6.size:Int)) = ((n + 1 + x.f6.size:Nat):Int) by omega,ih (pre ++ [x]) (n + 1 + x.f6.size) k (by simp at hk;omega) (by simpa using hb) (by omega)]
    congr 2;omega
  · rw [if_neg h] at hn ⊢
    rw [if_neg h,wrap_snoc (x:=x) (by simp at hb;omega),snoc_app,ih (pre ++ [x]) n k (by simp at hk;omega) (by simpa using hb) (by omega)]
    congr 2;omega
theorem badT_l0 (N:Nat) (hN:N ≤ 1000000000):∀ (suf pre:List SiT24) (k:Nat),2 * N + suf.length + 4 < k → (pre ++ suf).length ≤ 1000000000 → (∀ x ∈ suf,SmT N x) →
 ∃ i,impl_Thing_36.l0 k (pre ++ suf) ((pre ++ suf).length:Int) (pre.length:Int) = some i ∧ (0 ≤ i ↔ suf.all okT = false):=by
 intro suf
 induction suf with
 |nil=>
  intro pre k hk hb hs
  obtain ⟨k,rfl⟩:=succ_of hk
  rw [impl_Thing_36.l0,if_neg end_not_lt]
  exact ⟨-1,rfl,by simp⟩
 |cons x suf ih=>
  intro pre k hk hb hs
  obtain ⟨k,rfl⟩:=succ_of hk
  obtain ⟨q1,q2,q3,q4,q5⟩:=hs x List.mem_cons_self
  rw [impl_Thing_36.l0,if_pos mid_lt,if_pos (nat_le0 _),if_pos mid_lt,rdTh,impl_UseSum_1.f,isThing_eq _ _ _ _ _ _ _ k N (by simp at hk;omega) q1 q2 q5 (by omega) (by omega),Option.bind_some,Option.bind_some,List.all_cons]
  show ∃ i,(if (!okT x) = true then _ else _) = some i ∧ _
  by_cases h:okT x = true
  · rw [h,if_neg (by decide),wrap_snoc (x:=x) (by simp at hb;omega),snoc_app,Bool.true_and]
    have:=ih (pre ++ [x]) k (by simp at hk;omega) (by simpa using hb) (fun y hy=>hs y (List.mem_cons_of_mem _ hy))
    exact this
  · rw [Bool.eq_false_iff.2 h,if_pos (by decide),Bool.false_and]
    exact ⟨_,rfl,by simp⟩
theorem sOkT_l0 (l:List SiS23) (o:ByteArray) (N:Nat) (hN:N ≤ 1000000000) (r:Int):∀ (suf pre:List SiT24) (k:Nat),2 * N + suf.length + 4 < k → (pre ++ suf).length ≤ 1000000000 → (∀ x ∈ suf,SmT N x) →
 (∀ k',2 * N + 3 < k' → spec_l8Sum.f k' l (pre ++ suf) o = some r) →
 spec_UseSum.l0 k l (pre ++ suf) o (pre.length:Int) = some (if suf.all okT = true then r else 0):=by
 intro suf
 induction suf with
 |nil=>
  intro pre k hk hb hs hr
  obtain ⟨k,rfl⟩:=succ_of hk
  rw [spec_UseSum.l0,if_neg end_not_lt,hr k (by simp at hk;omega)];rfl
 |cons x suf ih=>
  intro pre k hk hb hs hr
  obtain ⟨k,rfl⟩:=succ_of hk
  obtain ⟨q1,q2,q3,q4,q5⟩:=hs x List.mem_cons_self
  rw [spec_UseSum.l0,if_pos mid_lt,if_pos (nat_le0 _),rdTh,sThingOk_eq _ _ _ _ _ _ _ k N (by simp at hk;omega) q1 q2 q4 q5 (by omega) (by omega),Option.bind_some,List.all_cons]
  show (if okT x = true then _ else _) = _
  by_cases h:okT x = true
  · rw [if_pos h,h,wrap_snoc (x:=x) (by simp at hb;omega),snoc_app,Bool.true_and]
    exact ih (pre ++ [x]) k (by simp at hk;omega) (by simpa using hb) (fun y hy=>hs y (List.mem_cons_of_mem _ hy)) (fun k' hk'=>by rw [← snoc_app];exact hr k' hk')
  · rw [if_neg h,Bool.eq_false_iff.2 h,Bool.false_and];rfl
def sumS (l:List SiS23) (ts:List SiT24) (o:ByteArray):Int:=if areS l = true then (if ts.all okT = true then ((sumT l o ts:Nat):Int) else 0) else 0
section
variable {l:List SiS23} {ts:List SiT24} {N k:Nat}
theorem sum_bd (ht:∀ x ∈ ts,SmT N x) (hN2:N ≤ 2000000) (hl:ts.length ≤ N) (o:ByteArray):sumT l o ts ≤ 4000000000000:=by
 have hle:=sumT_le l o N ts ht
 have hm:N * ts.length ≤ 2000000 * 2000000:=Nat.mul_le_mul hN2 (by omega)
 omega
theorem sSum_eq (h:SmSp N l) (ht:∀ x ∈ ts,SmT N x) (hN:40 ≤ N) (hN2:N ≤ 2000000) (hl:ts.length ≤ N) (hk:8 * N + 3 * l.length + 100 < k) (o:ByteArray):spec_UseSum.f k l ts o = some (sumS l ts o):=by
 unfold spec_UseSum.f sumS
 rw [sSpaces h (by omega),Option.bind_some]
 by_cases ha:areS l = true
 · rw [if_pos ha,if_pos ha]
   have hbd:=sum_bd (l:=l) ht hN2 hl o
   have:=sOkT_l0 l o N (by omega) ((sumT l o ts:Nat):Int) ts [] k (by omega) (by simp;omega) ht (fun k' hk'=>by
    have h0:=l8Sum_l0 ha o ts [] 0 k' (by omega) (by simp;omega) (by omega)
    rw [List.nil_append] at h0 ⊢
    rw [Nat.zero_add] at h0
    exact h0)
   rw [List.nil_append,show ((([]:List SiT24).length:Nat):Int) = 0 from rfl] at this
   exact this
 · rw [if_neg ha,if_neg ha]
theorem iSum_eq (ht:∀ x ∈ ts,SmT N x) (hN:40 ≤ N) (hN2:N ≤ 2000000) (hl:ts.length ≤ N) (hk:8 * N + 500 < k) (o:ByteArray):impl_UseSum.f k l ts o = some (sumS l ts o):=by
 unfold impl_UseSum.f sumS
 rw [areSpaces_eq l k (by omega),Option.bind_some]
 by_cases ha:areS l = true
 · rw [if_pos ha,if_pos ha]
   have hbd:=sum_bd (l:=l) ht hN2 hl o
   obtain ⟨i,hi,hi2⟩:=badT_l0 N (by omega) ts [] k (by omega) (by simp;omega) ht
   rw [List.nil_append,show ((([]:List SiT24).length:Nat):Int) = 0 from rfl] at hi
   have hf:impl_Thing_18.f k ts = some (decide (i ≥ 0)):=by
    unfold impl_Thing_18.f impl_Thing_36.f
    rw [hi];rfl
   rw [hf,Option.bind_some]
   by_cases hk0:ts.all okT = true
   · rw [if_pos hk0,if_neg (by rw [decide_eq_true_eq];intro h0;rw [hi2.1 h0] at hk0;cases hk0)]
     have h0:=useSum_l0 ha o ts [] 0 k (by omega) (by simp;omega) (by omega)
     rw [List.nil_append,Nat.zero_add] at h0
     unfold impl_useSum.f
     rw [show impl_useSum.l0 k l o 0 ts (ts.length:Int) 0 = _ from h0];rfl
   · rw [if_neg hk0,if_pos (by rw [decide_eq_true_eq];exact hi2.2 (Bool.eq_false_iff.2 hk0))]
 · rw [if_neg ha,if_neg ha]
end
end Go.Proofs.YtlddibclbhhjoaaDoor.V
/- The plain statement of FnUseSum: a space uses what all spaces in it use, and its own things. -/
namespace Go.Proofs.YtlddibclbhhjoaaDoor.Pure
open Go.RowKit Go.Proofs.YtlddibclbhhjoaaDoor.P Go.Proofs.YtlddibclbhhjoaaDoor.V Go.Proofs.YtlddibclbhhjoaaDoorW.PrintWords Go.Proofs.YtlddibclbhhjoaaDoorW.PrintMore
def ownT (b:Bool) (o:ByteArray):List SiT24 → Nat
 |[]=>0
 |x :: r=>(if x.f0 = o ∧ b = true then 1 + x.f6.size else 0) + ownT b o r
def kidT (l:List SiS23) (ts:List SiT24) (o:ByteArray):List SiS23 → Nat
 |[]=>0
 |c :: r=>(if c.f1 = o then sumT l c.f0 ts else 0) + kidT l ts o r
def kidG (g:ByteArray → Nat) (o:ByteArray):List SiS23 → Nat
 |[]=>0
 |c :: r=>(if c.f1 = o then g c.f0 else 0) + kidG g o r
theorem kid_eq (l:List SiS23) (ts:List SiT24) (o:ByteArray):∀ r,kidG (fun s=>sumT l s ts) o r = kidT l ts o r
 |[]=>rfl
 |c :: r=>by rw [kidG,kidT,kid_eq l ts o r]
theorem kid_zero (o:ByteArray):∀ r,kidG (fun _=>0) o r = 0
 |[]=>rfl
 |c :: r=>by rw [kidG,kid_zero o r];simp
def there (l:List SiS23) (o:ByteArray):Bool:=l.any (fun c=>decide (c.f0 = o))
theorem there_iff (l:List SiS23) (o:ByteArray):there l o = true ↔ ∃ c ∈ l,c.f0 = o:=by unfold there;simp
theorem less_self (a:List UInt8):Op.bytesLess a a = false:=by
 induction a with
 |nil=>rfl
 |cons x r ih=>simp [Op.bytesLess,ih]
theorem cnt_one (p:SiS23 → Bool) {x:SiS23}:∀ {l:List SiS23},l.Pairwise (fun x y=>Op.bytesLess x.f0.toList y.f0.toList = true) → x ∈ l → l.countP (fun c=>decide (c.f0 = x.f0) && p c) = if p x = true then 1 else 0
 |[],_,hx=>by cases hx
 |c :: r,hp,hx=>by
  obtain ⟨h1,h2⟩:=List.pairwise_cons.1 hp
  rw [List.countP_cons]
  rcases List.mem_cons.1 hx with rfl|hx
  · have h0:r.countP (fun c=>decide (c.f0 = x.f0) && p c) = 0:=by
     rw [List.countP_eq_zero]
     intro y hy h
     simp only [Bool.and_eq_true,decide_eq_true_eq] at h
     have:=h1 y hy
     rw [h.1,less_self] at this
     cases this
    rw [h0]
    simp
  · rw [cnt_one p h2 hx]
    have hn:¬ c.f0 = x.f0:=fun h=>by
     have:=h1 x hx
     rw [h,less_self] at this
     cases this
    simp [hn]
theorem countP_and_or {α:Type} (p q r:α → Bool) (hd:∀ c,¬ (q c = true ∧ r c = true)) (l:List α):l.countP (fun c=>p c && (q c || r c)) = l.countP (fun c=>q c && p c) + l.countP (fun c=>p c && r c):=by
 induction l with
 |nil=>rfl
 |cons c l ih=>
  rw [List.countP_cons,List.countP_cons,List.countP_cons,ih]
  have:=hd c
  cases p c <;> cases hq:q c <;> cases hr:r c <;> simp_all <;> omega
section
variable {l:List SiS23}
theorem areS_pw (ha:areS l = true):(∀ x ∈ l,spOk x = true) ∧ l.Pairwise (fun x y=>Op.bytesLess x.f0.toList y.f0.toList = true):=by
 obtain ⟨h1,h2,-⟩:=spGo_all l none (areS_go ha)
 exact ⟨h1,h2⟩
theorem over_there (ha:areS l = true) {x:SiS23} (hx:x ∈ l) (hn:x.f1 ≠ ⟨#[]⟩):fnd l x.f1 ≠ none:=by
 intro h
 obtain ⟨h1,h2⟩:=areS_pw ha
 have hs:specS l = true:=by rw [specS_eq];exact ha
 unfold specS at hs
 simp only [Bool.and_eq_true,List.all_eq_true] at hs
 obtain ⟨z,hz,hz2⟩:=(chOk_iff.1 (hs.2.1 x hx)).2
 have hf:=fnd_of_mem h2 hx
 rw [up_some hf,up_none h] at hz
 obtain rfl:x = z:=by simpa using hz
 have ho:=h1 x hx
 unfold spOk at ho
 rw [if_pos hz2] at ho
 simp only [Bool.and_eq_true,decide_eq_true_eq] at ho
 exact hn ho.2.1
theorem chain_none {s:ByteArray} (h:fnd l s = none):chain l s = []:=up_none h
theorem nms_cons (x:SiS23) (r:List SiS23):nms (x :: r) = x.f0 :: nms r:=rfl
theorem has_cons (a o:ByteArray) (r:List ByteArray):has (a :: r) o = (decide (a = o) || has r o):=rfl
theorem one_thing (ha:areS l = true) {o:ByteArray} (ho:o ≠ ⟨#[]⟩):∀ (n:Nat) (s:ByteArray),(chain l s).length ≤ n →
 (if has (nms (chain l s)) o = true then 1 else 0) = l.countP (fun c=>decide (c.f1 = o) && has (nms (chain l s)) c.f0) + (if s = o ∧ there l o = true then 1 else 0):=by
 obtain ⟨h1,h2⟩:=areS_pw ha
 intro n
 induction n with
 |zero=>
  intro s hn
  have hc:chain l s = []:=List.length_eq_zero_iff.1 (by omega)
  have hf:fnd l s = none:=by
   cases h:fnd l s with
   |none=>rfl
   |some x=>have:=(en_next (areS_en ha s) h).2;unfold chain at hc;rw [this] at hc;cases hc
  rw [hc]
  have ht:¬ (s = o ∧ there l o = true):=by
   rintro ⟨rfl,ht⟩
   obtain ⟨c,hc1,hc2⟩:=(there_iff l s).1 ht
   exact fnd_none hf c hc1 hc2
  rw [if_neg ht]
  have h0:has (nms []) o = false:=rfl
  rw [h0,if_neg (by decide)]
  symm
  rw [Nat.add_zero,List.countP_eq_zero]
  intro c hc h
  simp only [Bool.and_eq_true] at h
  exact absurd h.2 (by simp [has,nms])
 |succ n ih=>
  intro s hn
  cases hf:fnd l s with
  |none=>
   rw [chain_none hf]
   have ht:¬ (s = o ∧ there l o = true):=by
    rintro ⟨rfl,ht⟩
    obtain ⟨c,hc1,hc2⟩:=(there_iff l s).1 ht
    exact fnd_none hf c hc1 hc2
   rw [if_neg ht]
   have h0:has (nms []) o = false:=rfl
   rw [h0,if_neg (by decide)]
   symm
   rw [Nat.add_zero,List.countP_eq_zero]
   intro c hc h
   simp only [Bool.and_eq_true] at h
   exact absurd h.2 (by simp [has,nms])
  |some x=>
   have hx0:=fnd_name hf
   have hxm:=fnd_mem hf
   have hch:chain l s = x :: chain l x.f1:=(en_next (areS_en ha s) hf).2
   have hnd:((chain l s).map (·.f0)).Nodup:=up_nodup 9 s (areS_en ha s) (by have:=chain_len ha s;unfold chain at this;omega)
   rw [hch,List.map_cons,List.nodup_cons] at hnd
   have hns:has (nms (chain l x.f1)) s = false:=by
    cases h:has (nms (chain l x.f1)) s with
    |false=>rfl
    |true=>exact absurd (by rw [hx0];exact (has_iff _ _).1 h) hnd.1
   have hi:=ih x.f1 (by rw [hch] at hn;simpa using hn)
   rw [hch,nms_cons,hx0]
   have hth:there l s = true:=(there_iff l s).2 ⟨x,hxm,hx0⟩
   have e1:l.countP (fun c=>decide (c.f1 = o) && has (s :: nms (chain l x.f1)) c.f0) = (if x.f1 = o then 1 else 0) + l.countP (fun c=>decide (c.f1 = o) && has (nms (chain l x.f1)) c.f0):=by
    have:=countP_and_or (fun c:SiS23=>decide (c.f1 = o)) (fun c=>decide (c.f0 = x.f0)) (fun c=>has (nms (chain l x.f1)) c.f0) (fun c h=>by
     have h3:c.f0 = s:=by rw [← hx0];simpa using h.1
     rw [h3,hns] at h
     cases h.2) l
    rw [cnt_one (fun c=>decide (c.f1 = o)) h2 hxm] at this
    rw [← show (if decide (x.f1 = o) = true then 1 else 0) = (if x.f1 = o then 1 else 0) by simp,← this]
    congr 1
    funext c
    rw [has_cons,hx0]
    congr 2
    exact decide_eq_decide.2 ⟨fun h=>h.symm,fun h=>h.symm⟩
   rw [e1,has_cons]
   have e2:(if x.f1 = o ∧ there l o = true then 1 else 0) = (if x.f1 = o then 1 else 0):=by
    by_cases h:x.f1 = o
    · have:=over_there ha hxm (by rw [h];exact ho)
      have ht:there l o = true:=by
       cases hy:fnd l x.f1 with
       |none=>exact absurd hy this
       |some y=>exact (there_iff l o).2 ⟨y,fnd_mem hy,(fnd_name hy).trans h⟩
      simp [h,ht]
    · simp [h]
   rw [e2] at hi
   by_cases h:s = o
   · subst h
     rw [hns] at hi
     simp only [decide_true,Bool.true_or,if_true,hth,and_self]
     simp only [Bool.false_eq_true,if_false] at hi
     omega
   · simp only [h,decide_false,Bool.false_or,false_and,if_false,Nat.add_zero]
     rw [hi]
     omega
theorem kid_nil (o:ByteArray):∀ (r:List SiS23),kidT l [] o r = 0
 |[]=>rfl
 |c :: r=>by rw [kidT,kid_nil o r];simp [sumT]
theorem kid_cons (o:ByteArray) (x:SiT24) (ts:List SiT24):∀ (r:List SiS23),kidT l (x :: ts) o r = r.countP (fun c=>decide (c.f1 = o) && has (nms (chain l x.f0)) c.f0) * (1 + x.f6.size) + kidT l ts o r
 |[]=>by simp [kidT]
 |c :: r=>by
  rw [kidT,kidT,kid_cons o x ts r,List.countP_cons,sumT]
  by_cases h:c.f1 = o
  · by_cases h':has (nms (chain l x.f0)) c.f0 = true
    · simp only [h,h',if_true,decide_true,Bool.and_self,Nat.add_mul,Nat.one_mul];omega
    · simp only [h,h',if_true,if_false,decide_true,Bool.and_false,Bool.false_eq_true,Nat.add_zero,Nat.zero_add];omega
  · simp only [h,if_false,decide_false,Bool.false_and,Bool.false_eq_true,Nat.add_zero,Nat.zero_add]
theorem sum_law (ha:areS l = true) {o:ByteArray} (ho:o ≠ ⟨#[]⟩):∀ (ts:List SiT24),sumT l o ts = kidT l ts o l + ownT (there l o) o ts
 |[]=>by rw [kid_nil];rfl
 |x :: ts=>by
  have h:=one_thing ha ho 9 x.f0 (by have:=chain_len ha x.f0;omega)
  rw [sumT,ownT,kid_cons,sum_law ha ho ts]
  by_cases h1:has (nms (chain l x.f0)) o = true
  · rw [if_pos h1] at h
    rw [if_pos h1]
    by_cases h2:x.f0 = o ∧ there l o = true
    · rw [if_pos h2] at h ⊢
      rw [show l.countP (fun c=>decide (c.f1 = o) && has (nms (chain l x.f0)) c.f0) = 0 by omega]
      omega
    · rw [if_neg h2] at h ⊢
      rw [show l.countP (fun c=>decide (c.f1 = o) && has (nms (chain l x.f0)) c.f0) = 1 by omega]
      omega
  · rw [if_neg h1] at h
    rw [if_neg h1]
    by_cases h2:x.f0 = o ∧ there l o = true
    · rw [if_pos h2] at h;omega
    · rw [if_neg h2] at h ⊢
      rw [show l.countP (fun c=>decide (c.f1 = o) && has (nms (chain l x.f0)) c.f0) = 0 by omega]
      omega
end
theorem own_l2 (o:ByteArray) (n:Int) (b:Bool):∀ (suf pre:List SiT24) (s:Nat) (k:Nat),202 + suf.length + 4 < k → (pre ++ suf).length ≤ 1000 → (∀ x ∈ suf,SmT 101 x) → 101 * suf.length + s ≤ 1000000 →
 laws_FnUseSum.l2 k (pre ++ suf) o n (s:Int) b (pre.length:Int) = some (if suf.all okT = true then decide (n = ((s + ownT b o suf:Nat):Int)) else decide (n = 0)):=by
 intro suf
 induction suf with
 |nil=>
  intro pre s k hk hb hm hz
  obtain ⟨k,rfl⟩:=succ_of hk
  rw [laws_FnUseSum.l2,if_neg end_not_lt]
  rfl
 |cons x suf ih=>
  intro pre s k hk hb hm hz
  obtain ⟨k,rfl⟩:=succ_of hk
  obtain ⟨q1,q2,q3,q4,q5⟩:=hm x List.mem_cons_self
  have hok:impl_ThingOk.f k x.f0 x.f1 x.f2 x.f3 x.f4 x.f5 x.f6 = some (okT x):=ThingOk_eq _ _ _ _ _ _ _ k 101 (by simp at hk;omega) q1 q2 q5 (by omega) (by omega)
  have hit:impl_isThing.f k x.f0 x.f1 x.f2 x.f3 x.f4 x.f5 x.f6 = some (okT x):=isThing_eq _ _ _ _ _ _ _ k 101 (by simp at hk;omega) q1 q2 q5 (by omega) (by omega)
  rw [laws_FnUseSum.l2,if_pos mid_lt,if_pos (nat_le0 _),rdTh,hok,Option.bind_some,List.all_cons]
  by_cases h:okT x = true
  · have hih:=fun (s':Nat) (h2:101 * suf.length + s' ≤ 1000000)=>ih (pre ++ [x]) s' k (by simp at hk;omega) (by simpa using hb) (fun y hy=>hm y (List.mem_cons_of_mem _ hy)) h2
    simp only [List.length_cons] at hz
    rw [if_pos h,h,Bool.true_and,ownT,wrap_snoc (x:=x) (by simp at hb;omega),snoc_app]
    by_cases h2:x.f0 = o
    · rw [if_pos ((tl_iff _ _).2 h2)]
      by_cases h3:b = true
      · have hc:impl_ThingCost.f k x.f0 x.f1 x.f2 x.f3 x.f4 x.f5 x.f6 = some ((1 + x.f6.size:Nat):Int):=by
         unfold impl_ThingCost.f
         rw [hit,Option.bind_some,if_pos h,impl_costOf.f,Option.bind_some,wrap_id (by omega) (by omega)];rfl
        rw [if_pos h3,hc,Option.bind_some,wrap_id (i:=(s:Int) + _) (by omega) (by omega),if_pos (c:=x.f0 = o ∧ b = true) ⟨h2,h3⟩,show (s:Int) + ((1 + x.f6.size:Nat):Int) = ((s + (1 + x.f6.size):Nat):Int) by omega]
        rw [hih _ (by omega),Nat.add_assoc]
      · rw [if_neg h3,if_neg (c:=x.f0 = o ∧ b = true) (fun hh=>h3 hh.2),Nat.zero_add]
        exact hih s (by omega)
    · rw [if_neg (fun hh=>h2 ((tl_iff _ _).1 hh)),if_neg (c:=x.f0 = o ∧ b = true) (fun hh=>h2 hh.1),Nat.zero_add]
      exact hih s (by omega)
  · rw [if_neg h,Bool.eq_false_iff.2 h,Bool.false_and]
    rfl
theorem there_l1 (o:ByteArray) (ts:List SiT24) (n s:Int):∀ (suf pre:List SiS23) (b:Bool) (k:Nat),suf.length < k → (pre ++ suf).length ≤ 1000 →
 ∃ k',k ≤ k' + suf.length + 1 ∧ laws_FnUseSum.l1 k (pre ++ suf) ts o n s b (pre.length:Int) = laws_FnUseSum.l2 k' ts o n s (b || there suf o) 0:=by
 intro suf
 induction suf with
 |nil=>
  intro pre b k hk hb
  obtain ⟨k,rfl⟩:=succ_of hk
  refine ⟨k,by simp,?_⟩
  rw [laws_FnUseSum.l1,if_neg end_not_lt,show there [] o = false from rfl,Bool.or_false]
 |cons x suf ih=>
  intro pre b k hk hb
  obtain ⟨k,rfl⟩:=succ_of hk
  have hth:there (x :: suf) o = (decide (x.f0 = o) || there suf o):=rfl
  rw [laws_FnUseSum.l1,if_pos mid_lt,wrap_snoc (x:=x) (by simp at hb;omega),snoc_app,hth]
  cases b with
  |true=>
   obtain ⟨k',h1,h2⟩:=ih (pre ++ [x]) true k (by simpa using hk) (by simpa using hb)
   refine ⟨k',by simp;omega,?_⟩
   rw [if_pos rfl,h2];simp
  |false=>
   obtain ⟨k',h1,h2⟩:=ih (pre ++ [x]) (decide (x.f0 = o)) k (by simpa using hk) (by simpa using hb)
   refine ⟨k',by simp;omega,?_⟩
   have e:((riS26 (pre ++ [x] ++ suf) (pre.length:Int)).f0.toList == o.toList) = decide (x.f0 = o):=by
    rw [← snoc_app,rdS_mid,Bool.eq_iff_iff,beq_iff_eq,tl_iff,decide_eq_true_eq]
   rw [if_neg (by decide),if_pos (nat_le0 _),e,h2,Bool.false_or]
theorem kid_l0 {l:List SiS23} (ts:List SiT24) (o:ByteArray) (n:Int) (K:Nat) (g:ByteArray → Nat) (hT:∀ s k,K < k → impl_UseSum.f k l ts s = some ((g s:Nat):Int)) (hB:∀ s,g s ≤ 1000):∀ (suf pre:List SiS23) (s:Nat) (k:Nat),pre ++ suf = l → suf.length + K < k → l.length ≤ 1000 → s + 1000 * suf.length ≤ 1000000 →
 ∃ k',k ≤ k' + suf.length + 1 ∧ laws_FnUseSum.l0 k l ts o n (s:Int) (pre.length:Int) = laws_FnUseSum.l1 k' l ts o n ((s + kidG g o suf:Nat):Int) false 0:=by
 intro suf
 induction suf with
 |nil=>
  intro pre s k hl hk hb hs
  obtain ⟨k,rfl⟩:=succ_of hk
  refine ⟨k,by simp,?_⟩
  rw [laws_FnUseSum.l0,if_neg (by rw [← hl];exact end_not_lt)];rfl
 |cons x suf ih=>
  intro pre s k hl hk hb hs
  obtain ⟨k,rfl⟩:=succ_of hk
  simp only [List.length_cons] at hk hs
  have hw:wrap64 ((pre.length:Int) + 1) = ((pre ++ [x]).length:Int):=wrap_snoc (x:=x) (by rw [← hl] at hb;simp at hb;omega)
  have hih:=fun (s':Nat) (h:s' + 1000 * suf.length ≤ 1000000)=>ih (pre ++ [x]) s' k (by rw [← hl];simp) (by omega) hb h
  have hr:riS26 l (pre.length:Int) = x:=by rw [← hl];exact rdS_mid
  rw [laws_FnUseSum.l0,if_pos (by rw [← hl];exact mid_lt),if_pos (nat_le0 _),hr,hw,kidG]
  by_cases h:x.f1 = o
  · have hb0:=hB x.f0
    obtain ⟨k',h1,h2⟩:=hih (s + g x.f0) (by omega)
    refine ⟨k',by simp;omega,?_⟩
    rw [if_pos ((tl_iff _ _).2 h),hT x.f0 k (by omega),Option.bind_some,wrap_id (i:=(s:Int) + _) (by omega) (by omega),show (s:Int) + ((g x.f0:Nat):Int) = ((s + g x.f0:Nat):Int) by omega,h2,if_pos h,Nat.add_assoc]
  · obtain ⟨k',h1,h2⟩:=hih s (by omega)
    refine ⟨k',by simp;omega,?_⟩
    rw [if_neg (fun hh=>h ((tl_iff _ _).1 hh)),h2,if_neg h,Nat.zero_add]
theorem draw_l0 (s:List Int) (hu:U8 s) (hs:s.length ≤ 2000):∀ (n:Nat) (out:List SiT24) (q:Int) (k:Nat),n + out.length ≤ 5 → (∀ x ∈ out,SmT 101 x) → 0 ≤ q → q + 130 * n ≤ 700 → 400 + n < k →
 ∃ l ts o,spec_DrawUseSum.l0 k out (n:Int) s q = some (l,ts,o) ∧ l.length ≤ 21 ∧ SzS l ∧ ts.length ≤ 5 ∧ (∀ x ∈ ts,SmT 101 x) ∧ o ≠ ⟨#[]⟩:=by
 intro n
 induction n with
 |zero=>
  intro out q k hn hm q0 q1 hk
  obtain ⟨k,rfl⟩:=succ_of hk
  obtain ⟨r,q',e,r1,r2,p0,p1⟩:=any_at (s:=s) (k:=k) hu hs (by omega) (z:=q) q0 (by omega)
  obtain ⟨a,e3,ma⟩:=of_eq (s:=s) (q:=q') (k:=k) (l:=([(⟨#[97,108,108]⟩:ByteArray),(⟨#[97]⟩:ByteArray),(⟨#[98]⟩:ByteArray),(⟨#[99]⟩:ByteArray),(⟨#[120]⟩:ByteArray)]:List ByteArray)) hu hs p0 (by omega) (by simp) (by omega)
  rw [spec_DrawUseSum.l0,if_neg (by omega),e]
  simp only [Option.bind_some,e3]
  refine ⟨r,out,a,rfl,r1,r2,by omega,hm,?_⟩
  simp only [List.mem_cons,List.not_mem_nil,or_false] at ma
  rcases ma with rfl|rfl|rfl|rfl|rfl <;> decide
 |succ n ih=>
  intro out q k hn hm q0 q1 hk
  obtain ⟨k,rfl⟩:=succ_of hk
  obtain ⟨a,b,u,r,g,l,d,z,e,⟨t1,t2,⟨t3,t4⟩,t5⟩,z0,z1⟩:=thing_at (s:=s) (k:=k) hu hs (by omega) (z:=q) q0 (by omega)
  obtain ⟨sp,e3,ma⟩:=of_eq (s:=s) (q:=z) (k:=k) (l:=([(⟨#[97,108,108]⟩:ByteArray),(⟨#[97]⟩:ByteArray),(⟨#[98]⟩:ByteArray),(⟨#[99]⟩:ByteArray),(⟨#[100]⟩:ByteArray)]:List ByteArray)) hu hs z0 (by omega) (by simp) (by omega)
  obtain ⟨v,e4,a4,b4⟩:=pick_eq (s:=s) (q:=z + 1) (n:=30) (k:=k) hu hs (by omega) (by omega) (by omega) (by omega)
  have hsp:sp.size ≤ 100:=by
   simp only [List.mem_cons,List.not_mem_nil,or_false] at ma
   rcases ma with rfl|rfl|rfl|rfl|rfl <;> decide
  have wn:wrap64 (((n + 1:Nat):Int) - 1) = (n:Int):=by rw [wrap_id (by omega) (by omega)];omega
  rw [spec_DrawUseSum.l0,if_pos (by omega),e]
  simp only [Option.bind_some,e3,e4,wn]
  by_cases h:v = 0
  · obtain ⟨a,b,u,r,g,l,d,z',e',⟨t1',t2',⟨t3',t4'⟩,t5'⟩,z0',z1'⟩:=anyThing_at (s:=s) (k:=k) hu hs (by omega) (z:=z + 1 + 1) (by omega) (by omega)
    rw [if_pos h,e']
    simp only [Option.bind_some]
    rw [if_pos (by omega)]
    exact ih _ z' k (by simp;omega) (fun x hx=>by
     rcases List.mem_append.1 hx with hx|hx
     · exact hm x hx
     · rw [List.mem_singleton.1 hx]
       exact ⟨by show a.size < 101;omega,by show b.size < 101;omega,by show l.length < 101;omega,fun y hy=>by have:=t4' y hy;omega,by show d.size < 101;omega⟩) z0' (by omega) (by omega)
  · rw [if_neg h,if_pos (by omega)]
    exact ih _ (z + 1 + 1) k (by simp;omega) (fun x hx=>by
     rcases List.mem_append.1 hx with hx|hx
     · exact hm x hx
     · rw [List.mem_singleton.1 hx]
       exact ⟨by show sp.size < 101;omega,by show b.size < 101;omega,by show l.length < 101;omega,fun y hy=>by have:=t4 y hy;omega,by show d.size < 101;omega⟩) (by omega) (by omega) (by omega)
theorem FnUseSum:laws_FnUseSum.Pure:=by
 intro n hn
 obtain ⟨K,hK⟩:∃ K,K = 1060000:=⟨_,rfl⟩
 refine ⟨K + 1,?_⟩
 unfold laws_FnUseSum.f
 by_cases hc:(n.length:Int) > 1048576
 · rw [if_pos hc]
 rw [if_neg hc]
 obtain ⟨s,hs,hu,hl⟩:=open_eq (U8_of hn.2)
 obtain ⟨v,ev,va,vb⟩:=pick_eq (s:=s) (q:=0) (n:=6) (k:=K + 1) hu hl (by omega) (by omega) (by omega) (by omega)
 obtain ⟨m,rfl⟩:∃ m:Nat,v = m:=⟨v.toNat,by omega⟩
 obtain ⟨l,ts,o,e,h1,h2,h3,h4,h5⟩:=draw_l0 s hu hl m [] (0 + 1) (K + 1) (by simp;omega) (fun x hx=>by cases hx) (by omega) (by omega) (by omega)
 have ed:spec_DrawUseSum.f (K + 1) n = some (l,ts,o):=by
  unfold spec_DrawUseSum.f
  rw [hs]
  simp only [Option.bind_some,ev]
  exact e
 have hsm:SmSp 101 l:=⟨by omega,by omega,fun x hx=>by have:=h2 x hx;omega⟩
 have i0:∀ k s,100000 < k → impl_UseSum.f k l ts s = some (sumS l ts s):=fun k s hk=>iSum_eq (N:=101) h4 (by omega) (by omega) (by omega) (by omega) s
 have s0:∀ k s,100000 < k → spec_UseSum.f k l ts s = some (sumS l ts s):=fun k s hk=>sSum_eq (N:=101) hsm h4 (by omega) (by omega) (by omega) (by omega) s
 have p0:∀ k,100000 < k → impl_SpacesOk.f k l = some (areS l):=fun k hk=>SpacesOk_eq l k (by omega)
 have q0:∀ k,100000 < k → spec_SpacesOk.f k l = some (areS l):=fun k hk=>sSpaces hsm (by omega)
 rw [ed,Option.bind_some]
 simp only [i0 (K + 1) _ (by omega),s0 (K + 1) _ (by omega),p0 (K + 1) (by omega),q0 (K + 1) (by omega),Option.bind_some,if_true]
 rw [if_neg (by simp),laws_FnUseSum.j0]
 by_cases ha:areS l = true
 · rw [if_neg (by simp [ha])]
   have hle:∀ s,sumT l s ts ≤ 505:=fun s=>by
    have:=sumT_le l s 101 ts h4
    have h5:101 * ts.length ≤ 101 * 5:=Nat.mul_le_mul_left _ h3
    omega
   have hlen:=areS_len ha
   by_cases hok:ts.all okT = true
   · have hsum:∀ s,sumS l ts s = ((sumT l s ts:Nat):Int):=fun s=>by unfold sumS;rw [if_pos ha,if_pos hok]
     obtain ⟨k1,a1,e1⟩:=kid_l0 (l:=l) ts o (sumS l ts o) 100000 (fun s=>sumT l s ts) (fun s k hk=>by rw [i0 k s hk,hsum]) (fun s=>by have:=hle s;omega) l [] 0 K rfl (by omega) (by omega) (by omega)
     obtain ⟨k2,a2,e2⟩:=there_l1 o ts (sumS l ts o) ((0 + kidG (fun s=>sumT l s ts) o l:Nat):Int) l [] false k1 (by omega) (by simp;omega)
     have hlaw:=sum_law ha h5 ts
     have hbd:=hle o
     have e3:=own_l2 o (sumS l ts o) (false || there l o) ts [] (0 + kidG (fun s=>sumT l s ts) o l) k2 (by omega) (by simp;omega) h4 (by rw [kid_eq];omega)
     simp only [List.nil_append] at e1 e2 e3
     refine e1.trans (e2.trans (e3.trans ?_))
     rw [if_pos hok,Bool.false_or,hsum,Nat.zero_add,hlaw,kid_eq]
     simp
   · have hsum:∀ s,sumS l ts s = 0:=fun s=>by unfold sumS;rw [if_pos ha,if_neg hok]
     obtain ⟨k1,a1,e1⟩:=kid_l0 (l:=l) ts o (sumS l ts o) 100000 (fun s=>0) (fun s k hk=>by rw [i0 k s hk,hsum];rfl) (fun s=>by omega) l [] 0 K rfl (by omega) (by omega) (by omega)
     obtain ⟨k2,a2,e2⟩:=there_l1 o ts (sumS l ts o) ((0 + kidG (fun s=>0) o l:Nat):Int) l [] false k1 (by omega) (by simp;omega)
     have e3:=own_l2 o (sumS l ts o) (false || there l o) ts [] (0 + kidG (fun s=>0) o l) k2 (by omega) (by simp;omega) h4 (by rw [kid_zero];omega)
     simp only [List.nil_append] at e1 e2 e3
     refine e1.trans (e2.trans (e3.trans ?_))
     rw [if_neg hok,hsum]
     rfl
 · have hf:areS l = false:=Bool.eq_false_iff.2 ha
   rw [if_pos (by rw [hf];rfl),s0 K _ (by omega),Option.bind_some,if_pos rfl,p0 K (by omega),Option.bind_some,q0 K (by omega),Option.bind_some]
   simp
end Go.Proofs.YtlddibclbhhjoaaDoor.Pure
