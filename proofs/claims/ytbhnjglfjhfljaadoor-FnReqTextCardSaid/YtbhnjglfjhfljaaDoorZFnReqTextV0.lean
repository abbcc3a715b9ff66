/- The plain statement of the law FnReqText, proved. -/
import Derived.Test.YtbhnjglfjhfljaaDoorZFnReqTextW0
import Derived.Test.YtbhnjglfjhfljaaDoorZFnReqText1
import Derived.Laws.Bits64
import Derived.Test.YtbhnjglfjhfljaaDoorZFnReqText0
import Derived.Test.YtbhnjglfjhfljaaDoorZFnReqText2
import Derived.Test.YtbhnjglfjhfljaaDoorZFnReqText3
import Derived.Test.YtbhnjglfjhfljaaDoorZFnReqText4
import Derived.Test.YtbhnjglfjhfljaaDoorZFnReqText6
import Derived.Lib.Atoi
import Derived.Lib.ItoaLen
import Derived.Lib.ItoaNum
import Derived.Test.YtbhnjglfjhfljaaDoorZFnReqText5
import Derived.Test.YtbhnjglfjhfljaaDoorZFnReqText7
import Derived.Test.YtbhnjglfjhfljaaDoorZFnReqText8
import Derived.KernelRfl
/- Plain lemmas on lists, numbers and strings, for the laws' plain statements. -/
namespace Go.Proofs.YtbhnjglfjhfljaaDoor.V
open Go.RowKit Go.Proofs.YtbhnjglfjhfljaaDoorW.PrintWords Go.Proofs.YtbhnjglfjhfljaaDoorW.PrintMore
theorem succ_of {d k:Nat} (h:d < k):∃ m,k = m + 1:=⟨k - 1,by omega⟩
theorem wrap_id {i:Int} (h:-9223372036854775808 ≤ i) (h':i ≤ 9223372036854775807):wrap64 i = i:=by unfold wrap64;omega
theorem tl_iff (a b:ByteArray):a.toList = b.toList ↔ a = b:=by
 rw [ByteArray.toList_eq,ByteArray.toList_eq]
 constructor
 · intro h
   cases a;cases b
   simp at h
   simp [h]
 · rintro rfl;rfl
section
variable {α:Type} {pre suf:List α} {x y:α}
end
theorem nat_le0 (n:Nat):(0:Int) ≤ (n:Int):=Int.natCast_nonneg n
end Go.Proofs.YtbhnjglfjhfljaaDoor.V
/- What the reader of the drawn input answers: always something, and in bounds. -/
namespace Go.Proofs.YtbhnjglfjhfljaaDoor.V
open Go.RowKit Go.Proofs.YtbhnjglfjhfljaaDoor.P Go.Proofs.YtbhnjglfjhfljaaDoorW.PrintWords Go.Proofs.YtbhnjglfjhfljaaDoorW.PrintMore
def U8 (s:List Int):Prop:=∀ x ∈ s,0 ≤ x ∧ x ≤ 255
theorem U8_of {s:List Int} (h:∀ x ∈ s,(Lit.int .u8 x).wf = true):U8 s:=fun x hx=>by
 have:=h x hx
 simp [Lit.wf,IntKind.max,IntKind.min,IntKind.signed,IntKind.bits] at this
 omega
theorem rd_u8 {s:List Int} (h:U8 s) (i:Int):0 ≤ rd s i ∧ rd s i ≤ 255:=by
 unfold rd
 rw [List.getD_eq_getElem?_getD]
 cases hx:s[i.toNat]? with
 |none=>simp
 |some x=>exact h x (List.mem_of_getElem? hx)
theorem xor_i64 {a b:Int} (h0:0 ≤ a) (h1:a ≤ 4611686018427387903) (h2:0 ≤ b) (h3:b ≤ 4611686018427387903):0 ≤ Go.bits .xor .i64 a b ∧ Go.bits .xor .i64 a b ≤ 9223372036854775807:=by
 obtain ⟨x,rfl⟩:=Int.eq_ofNat_of_zero_le h0
 obtain ⟨y,rfl⟩:=Int.eq_ofNat_of_zero_le h2
 have hx:x ^^^ y < 2 ^ 62:=Nat.xor_lt_two_pow (by omega) (by omega)
 have e1:(BitVec.ofInt 64 (x:Int)).toNat = x:=by
  rw [BitVec.ofInt_natCast,BitVec.toNat_ofNat];exact Nat.mod_eq_of_lt (by omega)
 have e2:(BitVec.ofInt 64 (y:Int)).toNat = y:=by
  rw [BitVec.ofInt_natCast,BitVec.toNat_ofNat];exact Nat.mod_eq_of_lt (by omega)
 have e:Go.bits .xor .i64 (x:Int) (y:Int) = IntKind.i64.wrap ((BitVec.ofInt 64 (x:Int) ^^^ BitVec.ofInt 64 (y:Int)).toNat:Int):=rfl
 rw [e,BitVec.toNat_xor,e1,e2,IntKind.wrap_i64]
 omega
theorem tmod_bd {a n:Int} (h0:0 ≤ a) (hn:1 ≤ n):0 ≤ Int.tmod a n ∧ Int.tmod a n < n:=by
 rw [Int.tmod_eq_emod_of_nonneg h0]
 exact ⟨Int.emod_nonneg _ (by omega),Int.emod_lt_of_pos _ (by omega)⟩
theorem tdiv_bd {a n:Int} (h0:0 ≤ a) (hn:1 ≤ n):0 ≤ Int.tdiv a n ∧ Int.tdiv a n ≤ a:=by
 rw [Int.tdiv_eq_ediv_of_nonneg h0]
 exact ⟨Int.ediv_nonneg h0 (by omega),Int.ediv_le_self _ h0⟩
theorem pick_eq {s:List Int} {q n:Int} {k:Nat} (hs:U8 s) (hl:s.length ≤ 2000) (h0:0 ≤ q) (h1:q ≤ 1000000) (hn:1 ≤ n) (hk:0 < k):∃ v,spec_l1Rd_pick.f k s q n = some (v,q + 1) ∧ 0 ≤ v ∧ v < n:=by
 obtain ⟨k,rfl⟩:=succ_of hk
 unfold spec_l1Rd_pick.f
 rw [if_neg (by omega),wrap_id (i:=q + 1) (by omega) (by omega),spec_l1Rd_pick.j0]
 by_cases hz:s.length = 0
 · rw [if_pos (by rw [beq_iff_eq];omega)]
   exact ⟨0,rfl,by omega,by omega⟩
 · rw [if_neg (by rw [beq_iff_eq];omega),show q + 1 - 1 = q by omega,wrap_id (i:=q) (by omega) (by omega)]
   by_cases h2:q < (s.length:Int)
   · have hb:=rd_u8 hs q
     rw [if_pos h2,if_pos h0,if_neg (by omega),wrap_id (i:=rd s q) (by omega) (by omega)]
     exact ⟨_,rfl,tmod_bd hb.1 hn⟩
   · have b1:=tmod_bd (a:=q) (n:=s.length) h0 (by omega)
     rw [if_neg h2,if_neg (by omega),if_pos b1.1,if_pos b1.2,wrap_id (i:=q * 7) (by omega) (by omega),wrap_id (i:=q * 7 + 3) (by omega) (by omega)]
     have b2:=tmod_bd (a:=q * 7 + 3) (n:=s.length) (by omega) (by omega)
     rw [if_pos b2.1,if_pos b2.2,if_neg (by omega)]
     have c1:=rd_u8 hs (Int.tmod q s.length)
     have c2:=rd_u8 hs (Int.tmod (q * 7 + 3) s.length)
     have c3:=tdiv_bd (a:=q) (n:=s.length) h0 (by omega)
     generalize rd s (Int.tmod q s.length) = A at c1 ⊢
     generalize rd s (Int.tmod (q * 7 + 3) s.length) = B at c2 ⊢
     generalize Int.tdiv q s.length = D at c3 ⊢
     rw [wrap_id (i:=A) (by omega) (by omega),wrap_id (i:=B) (by omega) (by omega),wrap_id (i:=D) (by omega) (by omega),wrap_id (i:=A * 131) (by omega) (by omega),wrap_id (i:=B * 1117) (by omega) (by omega),wrap_id (i:=q * 29) (by omega) (by omega),wrap_id (i:=D * 53) (by omega) (by omega),
      wrap_id (i:=A * 131 + B * 1117) (by omega) (by omega),wrap_id (i:=A * 131 + B * 1117 + q * 29) (by omega) (by omega),wrap_id (i:=A * 131 + B * 1117 + q * 29 + D * 53) (by omega) (by omega)]
     have c4:0 ≤ A * 131 + B * 1117 + q * 29 + D * 53 ∧ A * 131 + B * 1117 + q * 29 + D * 53 ≤ 1000000000:=by omega
     generalize A * 131 + B * 1117 + q * 29 + D * 53 = X at c4 ⊢
     have c5:=tdiv_bd (a:=X) (n:=64) c4.1 (by omega)
     rw [wrap_id (i:=Int.tdiv X 64) (by omega) (by omega)]
     have c6:=xor_i64 (a:=X) (b:=Int.tdiv X 64) (by omega) (by omega) (by omega) (by omega)
     exact ⟨_,rfl,tmod_bd c6.1 hn⟩
theorem of_eq {s:List Int} {q:Int} {k:Nat} {l:List ByteArray} (hs:U8 s) (hl:s.length ≤ 2000) (h0:0 ≤ q) (h1:q ≤ 1000000) (hn:1 ≤ l.length) (hk:0 < k):∃ x,spec_l1Rd_of.f k s q l = some (x,q + 1) ∧ x ∈ l:=by
 obtain ⟨v,hv,b0,b1⟩:=pick_eq (n:=(l.length:Int)) hs hl h0 h1 (by omega) hk
 unfold spec_l1Rd_of.f
 rw [hv,Option.bind_some,if_pos b0,if_pos b1]
 refine ⟨_,rfl,?_⟩
 show rdOf ByteArray.empty l v ∈ l
 unfold rdOf
 rw [List.getD_eq_getElem?_getD,List.getElem?_eq_getElem (by omega)]
 exact List.getElem_mem _
theorem open_eq {l:List Int} (h:U8 l):∃ s,spec_l1Open.f l = some (s,0) ∧ U8 s ∧ s.length ≤ 2000:=by
 unfold spec_l1Open.f
 by_cases h1:(l.length:Int) > 2000
 · rw [if_pos h1,if_pos (by omega)]
   exact ⟨_,rfl,fun x hx=>h x (List.mem_of_mem_take hx),by simp;omega⟩
 · rw [if_neg h1]
   exact ⟨_,rfl,h,by omega⟩
end Go.Proofs.YtbhnjglfjhfljaaDoor.V
/- What holds of all bytes of a string, counted from a place on; the order of strings. -/
namespace Go.Proofs.YtbhnjglfjhfljaaDoor.V
open Go.RowKit Go.Proofs.YtbhnjglfjhfljaaDoor.P Go.Proofs.YtbhnjglfjhfljaaDoorW.PrintWords Go.Proofs.YtbhnjglfjhfljaaDoorW.PrintMore
def bAll (P:Int → Bool) (s:ByteArray):Nat → Nat → Bool
 |0,_=>true
 |d + 1,i=>P (bt s i) && bAll P s d (i + 1)
theorem bt_nat (s:ByteArray) (j:Nat) (h:j < s.size):bt s (j:Nat) = ((s.data.toList[j]'(by simpa using h)).toNat:Int):=by
 unfold bt
 rw [dif_pos (by simpa using h)]
 rfl
end Go.Proofs.YtbhnjglfjhfljaaDoor.V
/- Names: what the program's test and the reference's tell. -/
namespace Go.Proofs.YtbhnjglfjhfljaaDoor.V
open Go.RowKit Go.Proofs.YtbhnjglfjhfljaaDoor.P Go.Proofs.YtbhnjglfjhfljaaDoorW.PrintWords Go.Proofs.YtbhnjglfjhfljaaDoorW.PrintMore
def letB (b:UInt8):Bool:=decide (97 ≤ b.toNat ∧ b.toNat ≤ 122)
def nameB (s:ByteArray):Bool:=decide (1 ≤ s.size) && decide (s.size ≤ 6) && s.data.toList.all letB
def abc:ByteArray:=(⟨#[97,98,99,100,101,102,103,104,105,106,107,108,109,110,111,112,113,114,115,116,117,118,119,120,121,122]⟩:ByteArray)
theorem abc_eq (b:UInt8):abc.data.toList.contains b = letB b:=by
 have h:∀ n:Fin 256,abc.data.toList.contains (UInt8.ofNat n.1) = letB (UInt8.ofNat n.1):=by decide +kernel
 have:=h ⟨b.toNat,b.toNat_lt⟩
 simpa using this
theorem drop_nil {P:UInt8 → Bool}:∀ l:List UInt8,l.dropWhile P = [] ↔ l.all P = true
 |[]=>by simp
 |x :: l=>by
  by_cases h:P x = true
  · simp [List.dropWhile,h,drop_nil l]
  · simp [List.dropWhile,h]
theorem take_all {P:UInt8 → Bool}:∀ l:List UInt8,(l.takeWhile P).all P = true
 |[]=>rfl
 |x :: l=>by
  by_cases h:P x = true
  · simp only [List.takeWhile,h,List.all_cons,take_all l,Bool.true_and]
  · simp only [List.takeWhile,h];rfl
theorem size_list (s:ByteArray):s.size = s.data.toList.length:=by rw [Array.length_toList];rfl
theorem trim_nil (l cs:List UInt8):Lib.trimS l cs = [] ↔ l.all (fun b=>cs.contains b) = true:=by
 unfold Lib.trimS Lib.trimLeftS Lib.trimRightS
 rw [drop_nil,List.all_reverse]
 constructor
 · intro h
   have e:=List.takeWhile_append_dropWhile (p:=fun b=>cs.contains b) (l:=l.reverse)
   have h2:l.reverse.all (fun b=>cs.contains b) = true:=by
    rw [← e,List.all_append,Bool.and_eq_true]
    exact ⟨take_all _,h⟩
   rwa [List.all_reverse] at h2
 · intro h
   have h2:l.reverse.all (fun b=>cs.contains b) = true:=by rwa [List.all_reverse]
   rw [(drop_nil l.reverse).2 h2]
   rfl
theorem isName_eq (s:ByteArray):impl_isName.f s = some (nameB s):=by
 unfold impl_isName.f nameB
 by_cases h1:1 ≤ s.size
 · rw [if_pos (by omega)]
   by_cases h2:s.size ≤ 6
   · rw [if_pos (by omega)]
     unfold strings_Trim.f
     rw [if_pos ⟨by omega,by decide +kernel,by decide +kernel⟩]
     simp only [Option.bind_some,Option.some.injEq]
     rw [decide_eq_true h1,decide_eq_true h2,Bool.true_and,Bool.true_and]
     have e:(⟨(Lib.trimS s.data.toList abc.data.toList).toArray⟩:ByteArray).toList = Lib.trimS s.data.toList abc.data.toList:=by rw [ByteArray.toList_eq]
     show ((⟨(Lib.trimS s.data.toList abc.data.toList).toArray⟩:ByteArray).toList == []) = _
     rw [e,Bool.eq_iff_iff,beq_iff_eq,trim_nil]
     simp only [abc_eq]
   · rw [if_neg (by omega),decide_eq_false h2];simp
 · rw [if_neg (by omega),decide_eq_false h1];simp
theorem sNameOk_l0:∀ (suf pre:List UInt8) (s:ByteArray) (k:Nat),s.data.toList = pre ++ suf → s.size ≤ 9223372036854775806 → suf.length < k →
 spec_NameOk.l0 k s (pre.length:Int) = some (suf.all letB && decide (1 ≤ s.size) && decide (s.size ≤ 6)):=by
 intro suf
 induction suf with
 |nil=>
  intro pre s k he hs hk
  obtain ⟨k,rfl⟩:=succ_of hk
  have hz:s.size = pre.length:=by rw [size_list,he];simp
  rw [spec_NameOk.l0,if_neg (by omega)]
  unfold spec_l1In.f
  by_cases h1:1 ≤ s.size
  · rw [if_pos (by omega),decide_eq_true h1]
    simp only [List.all_nil,Bool.true_and,Option.bind_some]
    congr 1
    rw [decide_eq_decide]
    omega
  · rw [if_neg (by omega),decide_eq_false h1];rfl
 |cons x suf ih=>
  intro pre s k he hs hk
  obtain ⟨k,rfl⟩:=succ_of hk
  have hz:s.size = pre.length + (suf.length + 1):=by rw [size_list,he];simp
  have hb:bt s (pre.length:Int) = (x.toNat:Int):=by
   rw [bt_nat s pre.length (by omega)]
   congr 2
   simp [he]
  have hn:=ih (pre ++ [x]) s k (by simp [he]) hs (by simpa using hk)
  rw [spec_NameOk.l0,if_pos (by omega),if_pos (by omega),hb,wrap_id (by omega) (by omega)]
  have e:((pre.length:Int) + 1) = ((pre ++ [x]).length:Int):=by simp
  rw [e,hn]
  by_cases h1:(x.toNat:Int) < 97
  · rw [if_pos h1]
    have:letB x = false:=by unfold letB;rw [decide_eq_false (by omega)]
    simp [this]
  · rw [if_neg h1]
    by_cases h2:(x.toNat:Int) > 122
    · rw [if_pos h2]
      have:letB x = false:=by unfold letB;rw [decide_eq_false (by omega)]
      simp [this]
    · rw [if_neg h2]
      have:letB x = true:=by unfold letB;rw [decide_eq_true (by omega)]
      simp [this]
theorem sNameOk_eq (s:ByteArray) (k:Nat) (hs:s.size ≤ 9223372036854775806) (hk:s.size < k):spec_NameOk.f k s = some (nameB s):=by
 unfold spec_NameOk.f
 have:=sNameOk_l0 s.data.toList [] s k rfl hs (by rw [← size_list];exact hk)
 rw [show ((([]:List UInt8).length:Nat):Int) = 0 from rfl] at this
 rw [this,nameB]
 congr 1
 ac_rfl
end Go.Proofs.YtbhnjglfjhfljaaDoor.V
/- Bytes of parts of a text. -/
namespace Go.Proofs.YtbhnjglfjhfljaaDoor.V
open Go.RowKit Go.Proofs.YtbhnjglfjhfljaaDoor.P Go.Proofs.YtbhnjglfjhfljaaDoorW.PrintWords Go.Proofs.YtbhnjglfjhfljaaDoorW.PrintMore
theorem ext_list' (s:ByteArray) (i j:Nat):(s.extract i j).data.toList = (s.data.toList.drop i).take (j - i):=by
 rw [ByteArray.data_extract,Array.toList_extract,List.extract_eq_take_drop]
theorem ba_ext {a b:ByteArray} (h:a.data.toList = b.data.toList):a = b:=by
 cases a with
 |mk x=>
  cases b with
  |mk y=>
   cases x;cases y
   simpa using h
theorem ex_size (s:ByteArray) (i j:Nat) (h:j ≤ s.size):(s.extract i j).size = j - i:=by
 rw [size_list,ext_list',List.length_take,List.length_drop,← size_list];omega
theorem ex_all (s:ByteArray) (p:Nat):(s.extract p s.size).data.toList = s.data.toList.drop p:=by
 rw [ext_list',List.take_of_length_le]
 rw [List.length_drop,← size_list];exact Nat.le_refl _
end Go.Proofs.YtbhnjglfjhfljaaDoor.V
/- Counts: a number out of figures, by the reference and by the program. -/
namespace Go.Proofs.YtbhnjglfjhfljaaDoor.V
open Go.RowKit Go.Proofs.YtbhnjglfjhfljaaDoor.P Go.Proofs.YtbhnjglfjhfljaaDoorW.PrintWords Go.Proofs.YtbhnjglfjhfljaaDoorW.PrintMore
def digB (b:UInt8):Bool:=decide (48 ≤ b.toNat ∧ b.toNat ≤ 57)
def num (acc:Nat) (l:List UInt8):Nat:=l.foldl (fun a b=>a * 10 + (b.toNat - 48)) acc
def cntB (s:ByteArray):Bool:=decide (1 ≤ s.size ∧ s.size ≤ 8) && (decide (s.size ≤ 1) || !(bt s 0 == 48)) && s.data.toList.all digB
def figs:ByteArray:=(⟨#[48,49,50,51,52,53,54,55,56,57]⟩:ByteArray)
theorem figs_eq (b:UInt8):figs.data.toList.contains b = digB b:=by
 have h:∀ n:Fin 256,figs.data.toList.contains (UInt8.ofNat n.1) = digB (UInt8.ofNat n.1):=by decide +kernel
 have:=h ⟨b.toNat,b.toNat_lt⟩
 simpa using this
theorem dig_val (b:UInt8):digB b = true → Lib.digitVal b = some (b.toNat - 48):=by
 have h:∀ n:Fin 256,digB (UInt8.ofNat n.1) = true → Lib.digitVal (UInt8.ofNat n.1) = some ((UInt8.ofNat n.1).toNat - 48):=by decide +kernel
 have:=h ⟨b.toNat,b.toNat_lt⟩
 simpa using this
theorem decFrom_num:∀ (l:List UInt8) (acc:Nat),l.all digB = true → Lib.decFrom acc l = some (num acc l)
 |[],acc,_=>rfl
 |b :: r,acc,h=>by
  simp only [List.all_cons,Bool.and_eq_true] at h
  rw [Lib.decFrom,dig_val b h.1]
  show Lib.decFrom (acc * 10 + (b.toNat - 48)) r = _
  rw [decFrom_num r _ h.2];rfl
theorem atoi_num (l:List UInt8) (h:l.all digB = true) (hn:l ≠ []):Lib.atoi l = some ((num 0 l:Nat):Int):=by
 cases l with
 |nil=>exact absurd rfl hn
 |cons b r=>
  have hb:digB b = true:=by simp only [List.all_cons,Bool.and_eq_true] at h;exact h.1
  have h1:(b == 45) = false:=by
   rw [Bool.eq_false_iff];intro e;rw [beq_iff_eq.1 e] at hb;exact absurd hb (by decide)
  have h2:(b == 43) = false:=by
   rw [Bool.eq_false_iff];intro e;rw [beq_iff_eq.1 e] at hb;exact absurd hb (by decide)
  rw [Lib.atoi,h1,h2]
  simp only [Bool.false_eq_true,if_false]
  rw [Lib.decNat,decFrom_num _ 0 h]
  rfl
theorem l3Num_l0:∀ (suf pre:List UInt8) (s:ByteArray) (acc k:Nat),s.data.toList = pre ++ suf → s.size ≤ 8 → (acc + 1) * 10 ^ suf.length ≤ 100000000 → suf.length < k →
 spec_l3Num.l0 k s (acc:Int) (pre.length:Int) = some (if suf.all digB = true then ((num acc suf:Nat):Int) else -1):=by
 intro suf
 induction suf with
 |nil=>
  intro pre s acc k he hs ha hk
  obtain ⟨k,rfl⟩:=succ_of hk
  have hz:s.size = pre.length:=by rw [size_list,he];simp
  rw [spec_l3Num.l0,if_neg (by omega)];rfl
 |cons x suf ih=>
  intro pre s acc k he hs ha hk
  obtain ⟨k,rfl⟩:=succ_of hk
  have hz:s.size = pre.length + (suf.length + 1):=by rw [size_list,he];simp
  have hb:bt s (pre.length:Int) = (x.toNat:Int):=by
   rw [bt_nat s pre.length (by omega)]
   congr 2
   simp [he]
  rw [List.length_cons,Nat.pow_succ] at ha
  have hp:1 ≤ 10 ^ suf.length:=Nat.one_le_pow _ _ (by decide)
  generalize hP:10 ^ suf.length = P at ha hp
  have ha2:(acc + 1) * 10 ≤ 100000000:=Nat.le_trans (Nat.mul_le_mul_left (acc + 1) (show 10 ≤ P * 10 by omega)) ha
  have hle:x.toNat ≤ 57 → (acc * 10 + (x.toNat - 48) + 1) * 10 ^ suf.length ≤ 100000000:=by
   intro hx
   rw [hP]
   have hx2:acc * 10 + (x.toNat - 48) + 1 ≤ (acc + 1) * 10:=by clear ha ha2;omega
   refine Nat.le_trans (Nat.mul_le_mul_right P hx2) ?_
   rw [Nat.mul_assoc,Nat.mul_comm 10 P]
   exact ha
  clear ha hP hp
  rw [spec_l3Num.l0,if_pos (by clear hle;omega),if_pos (by clear hle;omega),hb]
  by_cases h1:(x.toNat:Int) < 48
  · have:digB x = false:=by unfold digB;rw [decide_eq_false (by clear hle;omega)]
    rw [if_pos h1];simp [this]
  · rw [if_neg h1]
    by_cases h2:(x.toNat:Int) > 57
    · have:digB x = false:=by unfold digB;rw [decide_eq_false (by clear hle;omega)]
      rw [if_pos h2];simp [this]
    · have hd:digB x = true:=by unfold digB;rw [decide_eq_true (by clear hle;omega)]
      have hx57:x.toNat ≤ 57:=by clear hle;omega
      have hle2:=hle hx57
      clear hle
      rw [if_neg h2,wrap_id (i:=(acc:Int) * 10) (by clear hle2;omega) (by clear hle2;omega)]
      have e1:((x.toNat:Int) - 48) % 256 = ((x.toNat - 48:Nat):Int):=by clear hle2;omega
      have e2:wrap64 ((acc:Int) * 10 + ((x.toNat - 48:Nat):Int)) = ((acc * 10 + (x.toNat - 48):Nat):Int):=by
       rw [wrap_id (by clear hle2;omega) (by clear hle2;omega)];clear hle2;omega
      have e3:wrap64 ((pre.length:Int) + 1) = ((pre ++ [x]).length:Int):=by rw [wrap_id (by clear hle2;omega) (by clear hle2;omega)];simp
      rw [e1,e2,e3,ih (pre ++ [x]) s (acc * 10 + (x.toNat - 48)) k (by simp [he]) hs hle2 (by simpa using hk)]
      simp [hd,num]
theorem l3Num_eq (s:ByteArray) (k:Nat) (hk:20 < k):spec_l3Num.f k s = some (if cntB s = true then ((num 0 s.data.toList:Nat):Int) else -1):=by
 have hj:s.size ≤ 8 → ∀ b,spec_l3Num.j0 k s b = some (if b = true then -1 else if s.data.toList.all digB = true then ((num 0 s.data.toList:Nat):Int) else -1):=by
  intro hs b
  obtain ⟨k,rfl⟩:=succ_of hk
  rw [spec_l3Num.j0]
  cases b with
  |true=>rw [if_pos rfl,if_pos rfl]
  |false=>
   have hsz:s.data.toList.length ≤ 8:=by rw [← size_list];exact hs
   have hlt:s.data.toList.length < k:=by omega
   have hpow:=Nat.pow_le_pow_right (n:=10) (by decide) hsz
   rw [show (10:Nat) ^ 8 = 100000000 from rfl] at hpow
   have h0:=l3Num_l0 s.data.toList [] s 0 k rfl hs (by rw [Nat.zero_add,Nat.one_mul];exact hpow) hlt
   rw [show ((([]:List UInt8).length:Nat):Int) = 0 from rfl,show ((0:Nat):Int) = 0 from rfl] at h0
   rw [if_neg (by simp),if_neg (by simp)]
   exact h0
 have hjt:spec_l3Num.j0 k s true = some (-1):=by
  obtain ⟨k,rfl⟩:=succ_of hk
  rw [spec_l3Num.j0,if_pos rfl]
 have hin:spec_l1In.f (s.size:Int) 1 8 = some (decide (1 ≤ s.size ∧ s.size ≤ 8)):=by
  unfold spec_l1In.f
  by_cases h:1 ≤ s.size
  · rw [if_pos (by omega)];congr 1;exact decide_eq_decide.2 (by omega)
  · rw [if_neg (by omega),decide_eq_false (by omega)]
 unfold spec_l3Num.f cntB
 rw [hin,Option.bind_some,hjt]
 by_cases h1:1 ≤ s.size ∧ s.size ≤ 8
 · rw [decide_eq_true h1,if_pos rfl]
   by_cases h2:(s.size:Int) > 1
   · rw [if_pos h2,if_pos (by omega),hj h1.2,decide_eq_false (show ¬ s.size ≤ 1 by omega)]
     cases bt s 0 == 48 <;> simp
   · rw [if_neg h2,hj h1.2,decide_eq_true (show s.size ≤ 1 by omega)]
     simp
 · rw [decide_eq_false h1,if_neg (by simp)];simp
theorem readCount_eq (s:ByteArray):impl_readCount.f s = some (if cntB s = true then (((num 0 s.data.toList:Nat):Int),true) else (0,false)):=by
 have hin:1 ≤ s.size → s.size ≤ 8 → ((strings_Trim.f s (⟨#[48,49,50,51,52,53,54,55,56,57]⟩:ByteArray)).bind fun t602=>(if t602.toList = ([]:List UInt8) then ((strconv_Atoi_50.f s).bind fun bt603=>(if bt603.2.isNone = true then (some (bt603.1,true)) else (some (bt603.1,false)))) else (some (0,false)))) = some (if s.data.toList.all digB = true then (((num 0 s.data.toList:Nat):Int),true) else ((0:Int),false)):=by
  intro h1 h8
  unfold strings_Trim.f
  rw [if_pos ⟨by omega,by decide +kernel,by decide +kernel⟩,Option.bind_some]
  have e:(⟨(Lib.trimS s.data.toList figs.data.toList).toArray⟩:ByteArray).toList = Lib.trimS s.data.toList figs.data.toList:=by rw [ByteArray.toList_eq]
  have hiff:(⟨(Lib.trimS s.data.toList figs.data.toList).toArray⟩:ByteArray).toList = [] ↔ s.data.toList.all digB = true:=by
   rw [e,trim_nil];simp only [figs_eq]
  show (if (⟨(Lib.trimS s.data.toList figs.data.toList).toArray⟩:ByteArray).toList = [] then ((strconv_Atoi_50.f s).bind fun bt603=>(if bt603.2.isNone = true then (some (bt603.1,true)) else (some (bt603.1,false)))) else (some (0,false))) = _
  by_cases hd:s.data.toList.all digB = true
  · rw [if_pos (hiff.2 hd),if_pos hd]
    unfold strconv_Atoi_50.f
    rw [if_pos (by omega),atoi_num _ hd (fun h=>by rw [size_list,h] at h1;simp at h1)]
    rfl
  · rw [if_neg (fun h=>hd (hiff.1 h)),if_neg hd]
 unfold impl_readCount.f cntB
 by_cases h1:1 ≤ s.size
 · rw [if_neg (by omega)]
   by_cases h8:s.size ≤ 8
   · rw [if_neg (by omega),decide_eq_true (show 1 ≤ s.size ∧ s.size ≤ 8 from ⟨h1,h8⟩)]
     by_cases h2:(s.size:Int) > 1
     · rw [if_pos h2,if_pos (by omega),decide_eq_false (show ¬ s.size ≤ 1 by omega)]
       by_cases h3:bt s 0 = 48
       · rw [if_pos h3];simp [h3]
       · rw [if_neg h3,hin h1 h8]
         have:(bt s 0 == 48) = false:=beq_eq_false_iff_ne.mpr h3
         simp [this]
     · rw [if_neg h2,hin h1 h8,decide_eq_true (show s.size ≤ 1 by omega)];simp
   · rw [if_pos (by omega),decide_eq_false (by omega)];simp
 · rw [if_pos (by omega),decide_eq_false (by omega)];simp
end Go.Proofs.YtbhnjglfjhfljaaDoor.V
/- Numerals: the reference's and strconv's. -/
namespace Go.Proofs.YtbhnjglfjhfljaaDoor.V
open Go.RowKit Go.Proofs.YtbhnjglfjhfljaaDoor.P Go.Proofs.YtbhnjglfjhfljaaDoorW.PrintWords Go.Proofs.YtbhnjglfjhfljaaDoorW.PrintMore
theorem one_num {n:Nat} (h:n < 10):strOfNums [(wrap64 (48 + (n:Int))) % 256] = (⟨#[UInt8.ofNat (48 + n)]⟩:ByteArray):=by
 rw [wrap_id (by omega) (by omega)]
 have:(48 + (n:Int)) % 256 = ((48 + n:Nat):Int):=by omega
 rw [this]
 have h2:(((48 + n:Nat):Int)).toNat = 48 + n:=by omega
 simp only [strOfNums,List.map_cons,List.map_nil,h2]
theorem dec_size:∀ (d u:Nat),u < 10 ^ (d + 1) → (Lib.decDigits u).length ≤ d + 1
 |0,u,h=>by rw [Lib.decDigits,dif_pos (by simpa using h)];simp
 |d + 1,u,h=>by
  rw [Lib.decDigits]
  by_cases h1:u < 10
  · rw [dif_pos h1];simp
  · rw [dif_neg h1]
    have:=dec_size d (u / 10) (by rw [Nat.pow_succ] at h;omega)
    simp;omega
theorem l1Dec_eq:∀ (d k:Nat) (u:Nat),u ≤ 9223372036854775807 → u < 10 ^ (d + 1) → d < 25 → d < k → spec_l1Dec.f k (u:Int) = some ⟨(Lib.decDigits u).toArray⟩:=by
 intro d
 induction d with
 |zero=>
  intro k u h9 hd _ hk
  obtain ⟨k,rfl⟩:=succ_of hk
  have hu:u < 10:=by simpa using hd
  rw [spec_l1Dec.f,if_neg (by omega),if_neg (by omega),if_pos (by omega),one_num hu,Lib.decDigits,dif_pos hu]
 |succ d ih=>
  intro k u h9 hd h25 hk
  obtain ⟨k,rfl⟩:=succ_of hk
  rw [spec_l1Dec.f,if_neg (by omega),if_neg (by omega)]
  by_cases hu:u < 10
  · rw [if_pos (by omega),one_num hu,Lib.decDigits,dif_pos hu]
  · have e1:wrap64 (Int.tdiv (u:Int) 10) = ((u / 10:Nat):Int):=by
     rw [Int.tdiv_eq_ediv_of_nonneg (by omega),wrap_id (by omega) (by omega)];rfl
    have e2:Int.tmod (u:Int) 10 = ((u % 10:Nat):Int):=by
     rw [Int.tmod_eq_emod_of_nonneg (by omega)];rfl
    have hs:=dec_size d (u / 10) (by rw [Nat.pow_succ] at hd;omega)
    rw [if_neg (by omega),e1,ih k (u / 10) (by omega) (by rw [Nat.pow_succ] at hd;omega) (by omega) (by omega),e2]
    simp only [Option.bind_some]
    rw [one_num (Nat.mod_lt _ (by decide))]
    rw [if_pos (by show (Lib.decDigits (u / 10)).toArray.size + 1 ≤ _;rw [List.size_toArray];omega)]
    rw [show Lib.decDigits u = Lib.decDigits (u / 10) ++ [UInt8.ofNat (48 + u % 10)] by rw [Lib.decDigits,dif_neg hu]]
    first|done|congr 1
    try first|done|(apply ByteArray.ext;simp)
def itoaB (n:Int):ByteArray:=⟨(Lib.itoa n).toArray⟩
theorem sDec_eq {n:Int} {k:Nat} (h0:0 ≤ n) (h9:n ≤ 9223372036854775807) (hk:30 ≤ k):spec_l1Dec.f k n = some (itoaB n):=by
 obtain ⟨u,rfl⟩:∃ u:Nat,n = u:=⟨n.toNat,by omega⟩
 rw [l1Dec_eq 20 k u (by omega) (by omega) (by omega) (by omega),itoaB,Lib.itoa,if_neg (by omega)]
 rfl
theorem itoaB_size {n:Int} (h0:-9223372036854775808 ≤ n) (h9:n ≤ 9223372036854775807):(itoaB n).size ≤ 21:=by
 show (Lib.itoa n).toArray.size ≤ 21
 rw [List.size_toArray]
 exact Lib.itoa_length_le n h0 h9
end Go.Proofs.YtbhnjglfjhfljaaDoor.V
/- Numerals: figures and what they count. -/
namespace Go.Proofs.YtbhnjglfjhfljaaDoor.V
open Go.RowKit Go.Proofs.YtbhnjglfjhfljaaDoor.P Go.Proofs.YtbhnjglfjhfljaaDoorW.PrintWords Go.Proofs.YtbhnjglfjhfljaaDoorW.PrintMore
theorem num_snoc (l:List UInt8) (b:UInt8) (acc:Nat):num acc (l ++ [b]) = num acc l * 10 + (b.toNat - 48):=by
 unfold num;rw [List.foldl_append];rfl
theorem dig_of (i:Nat) (h:i < 10):digB (UInt8.ofNat (48 + i)) = true ∧ (UInt8.ofNat (48 + i)).toNat = 48 + i:=by
 have:∀ n:Fin 10,digB (UInt8.ofNat (48 + n.1)) = true ∧ (UInt8.ofNat (48 + n.1)).toNat = 48 + n.1:=by decide
 exact this ⟨i,h⟩
theorem head_app {l t:List UInt8} (h:l ≠ []):(l ++ t).head? = l.head?:=by
 cases l with
 |nil=>exact absurd rfl h
 |cons b r=>rfl
theorem dd_big {u:Nat} (h:¬ u < 10):Lib.decDigits u = Lib.decDigits (u / 10) ++ [UInt8.ofNat (48 + u % 10)]:=by rw [Lib.decDigits,dif_neg h]
theorem dd_num:∀ (n u:Nat),u ≤ n → num 0 (Lib.decDigits u) = u ∧ (Lib.decDigits u).all digB = true ∧ (Lib.decDigits u) ≠ [] ∧ (1 ≤ u → (Lib.decDigits u).head? ≠ some 48):=by
 intro n
 induction n with
 |zero=>
  intro u hu
  obtain rfl:u = 0:=by omega
  rw [Lib.decDigits_one (by decide)]
  exact ⟨by decide,by decide,by decide,fun h=>absurd h (by decide)⟩
 |succ n ih=>
  intro u hu
  by_cases h:u < 10
  · obtain ⟨h1,h2⟩:=dig_of u h
    rw [Lib.decDigits_one h]
    refine ⟨?_,by rw [List.all_cons,h1];rfl,by simp,fun hu1=>?_⟩
    · show 0 * 10 + ((UInt8.ofNat (48 + u)).toNat - 48) = u
      rw [h2];omega
    · intro e
      have e2:UInt8.ofNat (48 + u) = 48:=by simpa using e
      rw [e2,show (48:UInt8).toNat = 48 from rfl] at h2
      omega
  · obtain ⟨a1,a2,a3,a4⟩:=ih (u / 10) (by omega)
    obtain ⟨h1,h2⟩:=dig_of (u % 10) (by omega)
    rw [dd_big h]
    refine ⟨?_,?_,by simp,fun _=>?_⟩
    · rw [num_snoc,a1,h2];omega
    · rw [List.all_append,a2,List.all_cons,h1];rfl
    · rw [head_app a3]
      exact a4 (by omega)
theorem itoa_cnt {n:Nat} (h:n ≤ 99999999):cntB (itoaB (n:Int)) = true ∧ num 0 (itoaB (n:Int)).data.toList = n ∧ (itoaB (n:Int)).data.toList.all digB = true:=by
 obtain ⟨a1,a2,a3,a4⟩:=dd_num n n (Nat.le_refl _)
 have hl:(itoaB (n:Int)).data.toList = Lib.decDigits n:=by
  show Lib.itoa (n:Int) = _
  rw [Lib.itoa,if_neg (by omega),Int.toNat_natCast]
 have hsz:=dec_size 7 n (by omega)
 have hz:=size_list (itoaB (n:Int))
 rw [hl] at hz
 have hp:0 < (Lib.decDigits n).length:=List.length_pos_iff.2 a3
 refine ⟨?_,by rw [hl];exact a1,by rw [hl];exact a2⟩
 unfold cntB
 simp only [Bool.and_eq_true,Bool.or_eq_true,decide_eq_true_eq,Bool.not_eq_true',beq_eq_false_iff_ne]
 refine ⟨⟨by omega,?_⟩,by rw [hl];exact a2⟩
 by_cases h1:n < 10
 · left
   rw [Lib.decDigits_one h1] at hz
   simp at hz;omega
 · right
   have hb:=bt_nat (itoaB (n:Int)) 0 (by omega)
   rw [show ((0:Nat):Int) = 0 from rfl] at hb
   rw [hb]
   intro e
   apply a4 (by omega)
   rw [List.head?_eq_getElem?,List.getElem?_eq_getElem hp]
   have e2:(itoaB (n:Int)).data.toList[0]'(by rw [hl];exact hp) = (Lib.decDigits n)[0]:=by simp only [hl]
   rw [← e2]
   congr 1
   exact UInt8.toNat_inj.1 (by rw [show (48:UInt8).toNat = 48 from rfl];omega)
end Go.Proofs.YtbhnjglfjhfljaaDoor.V
/- Texts of things: the program's test and the reference's. -/
namespace Go.Proofs.YtbhnjglfjhfljaaDoor.V
open Go.RowKit Go.Proofs.YtbhnjglfjhfljaaDoor.P Go.Proofs.YtbhnjglfjhfljaaDoorW.PrintWords Go.Proofs.YtbhnjglfjhfljaaDoorW.PrintMore
theorem l1In_eq (a b c:Int):spec_l1In.f a b c = some (decide (b ≤ a ∧ a ≤ c)):=by
 unfold spec_l1In.f
 by_cases h:a ≥ b
 · rw [if_pos h];simp [show b ≤ a from h]
 · rw [if_neg h];simp [show ¬ b ≤ a from h]
def VB (b:Int):Bool:=decide (32 ≤ b) && decide (b ≤ 126)
def valOk (s:ByteArray):Bool:=bAll VB s s.size 0 && decide (s.size ≤ 80)
theorem l4Value_l0:∀ (d i:Nat) (s:ByteArray) (k:Nat),i + d = s.size → d < k → s.size ≤ 4611686018427387904 → spec_l4Value.l0 k s (i:Int) = some (bAll VB s d i && decide (s.size ≤ 80)):=by
 intro d
 induction d with
 |zero=>
  intro i s k hi hk hb
  obtain ⟨k,rfl⟩:=succ_of hk
  rw [spec_l4Value.l0,if_neg (by omega)]
  simp only [bAll,Bool.true_and]
  congr 1
  exact decide_eq_decide.2 (by omega)
 |succ d ih=>
  intro i s k hi hk hb
  obtain ⟨k,rfl⟩:=succ_of hk
  rw [spec_l4Value.l0,if_pos (by omega),if_pos (nat_le0 _),bAll]
  have hr:-9223372036854775808 ≤ (i:Int) + 1:=by omega
  by_cases h1:bt s i < 32
  · rw [if_pos h1];simp [VB,show ¬ 32 ≤ bt s i by omega]
  · rw [if_neg h1]
    by_cases h2:bt s i > 126
    · rw [if_pos h2];simp [VB,show ¬ bt s i ≤ 126 by omega]
    · rw [if_neg h2,wrap_id hr (by omega),show (i:Int) + 1 = ((i + 1:Nat):Int) by omega,ih (i + 1) s k (by omega) (by omega) hb]
      simp [VB,show 32 ≤ bt s i by omega,show bt s i ≤ 126 by omega]
theorem l4Value_eq (s:ByteArray) (k:Nat) (hk:s.size < k) (hb:s.size ≤ 4611686018427387904):spec_l4Value.f k s = some (valOk s):=l4Value_l0 s.size 0 s k (by omega) hk hb
theorem isBetween_l0:∀ (d i:Nat) (s:ByteArray) (lo hi:Int) (k:Nat),i + d = s.size → d < k → s.size ≤ 4611686018427387904 → impl_isBetween.l0 k s lo hi (s.size:Int) (i:Int) = some (bAll (fun b=>decide (lo ≤ b) && decide (b ≤ hi)) s d i):=by
 intro d
 induction d with
 |zero=>
  intro i s lo hi k hi' hk hb
  obtain ⟨k,rfl⟩:=succ_of hk
  rw [impl_isBetween.l0,if_neg (by omega)];rfl
 |succ d ih=>
  intro i s lo hi k hi' hk hb
  obtain ⟨k,rfl⟩:=succ_of hk
  rw [impl_isBetween.l0,if_pos (by omega),if_pos (nat_le0 _),if_pos (by omega),bAll]
  by_cases h1:bt s i < lo
  · rw [if_pos h1];simp [show ¬ lo ≤ bt s i by omega]
  · rw [if_neg h1]
    by_cases h2:bt s i > hi
    · rw [if_pos h2];simp [show ¬ bt s i ≤ hi by omega]
    · rw [if_neg h2,wrap_id (by omega) (by omega),show (i:Int) + 1 = ((i + 1:Nat):Int) by omega,ih (i + 1) s lo hi k (by omega) (by omega) hb]
      simp [show lo ≤ bt s i by omega,show bt s i ≤ hi by omega]
theorem isBetween_eq (s:ByteArray) (lo hi:Int) (k:Nat) (hk:s.size < k) (hb:s.size ≤ 4611686018427387904):impl_isBetween.f k s lo hi = some (bAll (fun b=>decide (lo ≤ b) && decide (b ≤ hi)) s s.size 0):=isBetween_l0 s.size 0 s lo hi k (by omega) hk hb
def bodyB (s:ByteArray):Bool:=bAll VB s s.size 0 && decide (s.size ≤ 40)
theorem isBody_eq (s:ByteArray) (k:Nat) (hk:s.size < k) (hb:s.size ≤ 4611686018427387904):impl_isBody.f k s = some (bodyB s):=by
 unfold impl_isBody.f bodyB
 by_cases h:s.size ≤ 40
 · rw [if_pos (by omega),isBetween_eq s 32 126 k hk hb,Option.bind_some,decide_eq_true h,Bool.and_true]
   rfl
 · rw [if_neg (by omega),decide_eq_false h,Bool.and_false]
theorem l7Body_eq (s:ByteArray) (k:Nat) (hk:s.size < k) (hb:s.size ≤ 4611686018427387904):spec_l7Body.f k s = some (bodyB s):=by
 unfold spec_l7Body.f bodyB
 rw [l4Value_eq s k hk hb,Option.bind_some]
 unfold valOk
 by_cases h:bAll VB s s.size 0 = true
 · rw [h]
   by_cases h2:s.size ≤ 80
   · rw [if_pos (by simp [h2])]
     simp only [Bool.true_and]
     congr 1
     exact decide_eq_decide.2 (by omega)
   · rw [if_neg (by simp [h2]),decide_eq_false (by omega)];rfl
 · rw [Bool.eq_false_iff.2 h,if_neg (by simp)];rfl
end Go.Proofs.YtbhnjglfjhfljaaDoor.V
/- When requests are ok: the program's test and the reference's. -/
namespace Go.Proofs.YtbhnjglfjhfljaaDoor.V
open Go.RowKit Go.Proofs.YtbhnjglfjhfljaaDoor.P Go.Proofs.YtbhnjglfjhfljaaDoorW.PrintWords Go.Proofs.YtbhnjglfjhfljaaDoorW.PrintMore
def E (s:ByteArray):Bool:=decide (s.toList = ([]:List UInt8))
theorem E_iff (s:ByteArray):E s = true ↔ s = ⟨#[]⟩:=by
 have en:(⟨#[]⟩:ByteArray).toList = ([]:List UInt8):=by rw [ByteArray.toList_eq]
 unfold E
 rw [decide_eq_true_iff]
 exact ⟨fun h=>(tl_iff s ⟨#[]⟩).1 (h.trans en.symm),fun h=>by rw [h];exact en⟩
theorem E_name {s:ByteArray} (h:E s = true):nameB s = false:=by rw [(E_iff s).1 h];decide
theorem E_body {s:ByteArray} (h:E s = true):bodyB s = true:=by rw [(E_iff s).1 h];decide
def endB (c:Int) (t:ByteArray):Bool:=if c = 6 ∨ c = 7 then nameB t else bodyB t
def numB (c n:Int):Bool:=!(decide (n < -1)) && !(decide (n > 99999)) && !(decide (n < 0) && (decide (c = 5) || decide (c = 11)))
section
variable {k:Nat} {c n:Int} {a b t:ByteArray} {x:Bool}
theorem ij3 (h:t.size < k) (hb:t.size ≤ 4611686018427387904):impl_isReq.j3 (k + 1) x c a b n t = some (if x = true then nameB t else bodyB t):=by
 rw [impl_isReq.j3]
 cases x
 · rw [if_neg (by decide),if_neg (by decide),isBody_eq t k h hb,Option.bind_some]
 · rw [if_pos rfl,if_pos rfl,isName_eq,Option.bind_some]
theorem ij2 (h:t.size < k) (hb:t.size ≤ 4611686018427387904):impl_isReq.j2 (k + 1 + 1) x c a b n t = some (!x && endB c t):=by
 rw [impl_isReq.j2]
 simp only [ij3 h hb]
 cases x <;> by_cases h6:c = 6 <;> by_cases h7:c = 7 <;> simp [endB,h6,h7]
theorem ij1 (h:t.size < k) (hb:t.size ≤ 4611686018427387904):impl_isReq.j1 (k + 1 + 1 + 1) x c a b n t = some (!x && (numB c n && endB c t)):=by
 rw [impl_isReq.j1]
 simp only [ij2 h hb]
 cases x <;> by_cases lo:n < -1 <;> by_cases hi:n > 99999 <;> by_cases ng:n < 0 <;> by_cases h5:c = 5 <;> by_cases h11:c = 11 <;> simp [numB,lo,hi,ng,h5,h11]
theorem ij0 {w:ByteArray} {sp nm nu tx:Bool} (h:t.size < k) (hb:t.size ≤ 4611686018427387904):impl_isReq.j0 (k + 1 + 1 + 1 + 1) x c a b n t w sp nm nu tx = some (!x && ((sp || E a) && (nm || E b) && (nu || decide (n = 0)) && (tx || E t) && (numB c n && endB c t))):=by
 rw [impl_isReq.j0]
 simp only [ij1 h hb,E]
 cases x
 · by_cases ea:a.toList = ([]:List UInt8) <;> by_cases eb:b.toList = ([]:List UInt8) <;> by_cases z:n = 0 <;> by_cases et:t.toList = ([]:List UInt8) <;> cases sp <;> cases nm <;> cases nu <;> cases tx <;> simp [ea,eb,z,et]
 · simp
def reqV (sp nm nu tx:Bool) (c:Int) (a b:ByteArray) (n:Int) (t:ByteArray):Bool:=
 (!sp || nameB a) && (!nm || nameB b) && ((sp || E a) && (nm || E b) && (nu || decide (n = 0)) && (tx || E t) && (numB c n && endB c t))
theorem isReq_of {w:ByteArray} {sp nm nu tx:Bool} (hf:impl_formOf.f c = some (w,sp,nm,nu,tx,true)) (h:t.size < k) (hb:t.size ≤ 4611686018427387904):impl_isReq.f (k + 1 + 1 + 1 + 1) c a b n t = some (reqV sp nm nu tx c a b n t):=by
 unfold impl_isReq.f
 rw [hf,Option.bind_some]
 simp only [isName_eq,Option.bind_some,ij0 h hb,if_true]
 unfold reqV
 cases sp <;> cases nm <;> cases nameB a <;> cases nameB b <;> simp
theorem isReq_no {w:ByteArray} {sp nm nu tx:Bool} (hf:impl_formOf.f c = some (w,sp,nm,nu,tx,false)) (h:t.size < k) (hb:t.size ≤ 4611686018427387904):impl_isReq.f (k + 1 + 1 + 1 + 1) c a b n t = some false:=by
 unfold impl_isReq.f
 rw [hf,Option.bind_some]
 simp only [ij0 h hb]
 simp
theorem sj2 (h:t.size < k) (hb:t.size ≤ 4611686018427387904):spec_ReqOk.j2 (k + 1) x c a b n t = some (if x = true then nameB t else bodyB t):=by
 rw [spec_ReqOk.j2]
 cases x
 · rw [if_neg (by decide),if_neg (by decide),l7Body_eq t k h hb,Option.bind_some]
 · rw [if_pos rfl,if_pos rfl,sNameOk_eq t k (by omega) h,Option.bind_some]
theorem sj1 {d:Int} (h:t.size < k) (hb:t.size ≤ 4611686018427387904):spec_ReqOk.j1 (k + 1 + 1) d x c a b n t = some (if x = true then decide (n ≥ 0) && bodyB t else endB d t):=by
 rw [spec_ReqOk.j1]
 simp only [sj2 h hb,l7Body_eq t (k + 1) (by omega) hb,Option.bind_some]
 cases x <;> by_cases h6:d = 6 <;> by_cases h7:d = 7 <;> by_cases ng:n ≥ 0 <;> simp [endB,h6,h7,ng]
theorem sj0 (h:t.size < k) (hb:t.size ≤ 4611686018427387904):spec_ReqOk.j0 (k + 1 + 1 + 1) x c a b n t = some (!x && (if c = 5 ∨ c = 11 then decide (n ≥ 0) && bodyB t else endB c t)):=by
 rw [spec_ReqOk.j0]
 simp only [sj1 h hb]
 cases x <;> by_cases h5:c = 5 <;> by_cases h11:c = 11 <;> simp [h5,h11]
def sreqV (hn hm ht:Bool) (c:Int) (a b:ByteArray) (n:Int) (t:ByteArray):Bool:=
 nameB a && (hn == !(E b)) && (!hn || nameB b) && (hm || decide (n = 0)) && (ht || E t) && decide (-1 ≤ n ∧ n ≤ 99999) && (if c = 5 ∨ c = 11 then decide (n ≥ 0) && bodyB t else endB c t)
theorem sReq_of {hn hm ht:Bool} (h1:1 ≤ c) (h2:c ≤ 11) (hf:spec_l9Has.f (k + 1 + 1 + 1) c = some (hn,hm,ht)) (h:t.size < k) (hb:t.size ≤ 4611686018427387904) (ha:a.size < k) (hbz:b.size < k) (hk:k ≤ 9223372036854775806):spec_ReqOk.f (k + 1 + 1 + 1) c a b n t = some (sreqV hn hm ht c a b n t):=by
 unfold spec_ReqOk.f
 rw [l1In_eq,Option.bind_some,if_pos (by rw [decide_eq_true_iff];omega),hf,Option.bind_some,if_neg (by omega)]
 simp only [sNameOk_eq a (k + 1 + 1 + 1) (by omega) (by omega),sNameOk_eq b (k + 1 + 1 + 1) (by omega) (by omega),l1In_eq,Option.bind_some,sj0 h hb]
 unfold sreqV E
 generalize (if c = 5 ∨ c = 11 then decide (n ≥ 0) && bodyB t else endB c t) = v
 generalize decide (-1 ≤ n ∧ n ≤ 99999) = u
 by_cases eb:b.toList = ([]:List UInt8) <;> by_cases z:n = 0 <;> by_cases et:t.toList = ([]:List UInt8) <;> cases hn <;> cases hm <;> cases ht <;> cases nameB a <;> cases nameB b <;> simp [eb,z,et]
theorem sReq_step (h:t.size < k):spec_ReqOk.f (k + 1 + 1 + 1) 12 a b n t = some (E a && E b && decide (n = 0) && E t):=by
 unfold spec_ReqOk.f
 rw [l1In_eq,Option.bind_some,if_pos (by decide)]
 have:spec_l9Has.f (k + 1 + 1 + 1) 12 = some (false,false,false):=by
  simp [spec_l9Has.f,spec_l9Has.j0,spec_l9Has.j1]
 rw [this,Option.bind_some,if_pos rfl]
 unfold E
 by_cases ea:a.toList = ([]:List UInt8) <;> by_cases eb:b.toList = ([]:List UInt8) <;> by_cases z:n = 0 <;> by_cases et:t.toList = ([]:List UInt8) <;> simp [ea,eb,z,et]
theorem sReq_out (hc:¬ (1 ≤ c ∧ c ≤ 12)):spec_ReqOk.f k c a b n t = some false:=by
 unfold spec_ReqOk.f
 rw [l1In_eq,Option.bind_some,if_neg (by rw [decide_eq_true_iff];exact hc)]
theorem numB_in (h:-1 ≤ n ∧ n ≤ 99999):numB c n = !(decide (n < 0) && (decide (c = 5) || decide (c = 11))):=by
 unfold numB
 rw [decide_eq_false (by omega),decide_eq_false (by omega)];simp
theorem numB_out (h:¬ (-1 ≤ n ∧ n ≤ 99999)):numB c n = false:=by
 unfold numB
 by_cases h1:n < -1
 · rw [decide_eq_true h1];simp
 · rw [decide_eq_true (show n > 99999 by omega)];simp
theorem V_eq {hn hm ht:Bool} (h5:c = 5 ∨ c = 11 → ¬ (c = 6 ∨ c = 7)):reqV true hn hm ht c a b n t = sreqV hn hm ht c a b n t:=by
 unfold reqV sreqV
 by_cases hr:-1 ≤ n ∧ n ≤ 99999
 · rw [numB_in hr,decide_eq_true hr]
   by_cases h:c = 5 ∨ c = 11
   · rw [if_pos h,endB,if_neg (h5 h)]
     have hd:(decide (c = 5) || decide (c = 11)) = true:=by rcases h with h|h <;> simp [h]
     rw [hd]
     by_cases ng:n < 0
     · rw [decide_eq_true ng,decide_eq_false (show ¬ n ≥ 0 by omega)];simp
     · rw [decide_eq_false ng,decide_eq_true (show n ≥ 0 by omega)]
       cases hb:E b with
       |true=>rw [E_name hb];cases hn <;> cases hm <;> cases ht <;> cases nameB a <;> cases E t <;> simp
       |false=>cases hn <;> cases hm <;> cases ht <;> cases nameB a <;> cases E t <;> simp [Bool.and_assoc]
   · rw [if_neg h]
     have hd:(decide (c = 5) || decide (c = 11)) = false:=by
      rw [decide_eq_false (fun e=>h (.inl e)),decide_eq_false (fun e=>h (.inr e))];rfl
     rw [hd]
     generalize endB c t = v
     cases hb:E b with
     |true=>rw [E_name hb];cases hn <;> cases hm <;> cases ht <;> cases nameB a <;> cases E t <;> simp
     |false=>cases hn <;> cases hm <;> cases ht <;> cases nameB a <;> cases E t <;> simp [Bool.and_assoc]
 · rw [numB_out hr,decide_eq_false hr];simp
theorem V_step:reqV false false false false 12 a b n t = (E a && E b && decide (n = 0) && E t):=by
 unfold reqV
 by_cases z:n = 0
 · rw [z,numB_in (by decide),endB,if_neg (by decide)]
   cases ht:E t with
   |true=>rw [E_body ht];simp
   |false=>simp
 · rw [decide_eq_false z];simp
def reqB (c:Int) (a b:ByteArray) (n:Int) (t:ByteArray):Bool:=
 if c = 1 then sreqV true true false c a b n t else if c = 2 then sreqV false true false c a b n t else if c = 3 then sreqV false false false c a b n t else if c = 4 then sreqV true false true c a b n t
 else if c = 5 then sreqV true true true c a b n t else if c = 6 then sreqV true false true c a b n t else if c = 7 then sreqV true false true c a b n t else if c = 8 then sreqV true false false c a b n t
 else if c = 9 then sreqV true false false c a b n t else if c = 10 then sreqV false false false c a b n t else if c = 11 then sreqV false true false c a b n t else if c = 12 then (E a && E b && decide (n = 0) && E t) else false
theorem kinds (h1:1 ≤ c) (h2:c ≤ 12):c = 1 ∨ c = 2 ∨ c = 3 ∨ c = 4 ∨ c = 5 ∨ c = 6 ∨ c = 7 ∨ c = 8 ∨ c = 9 ∨ c = 10 ∨ c = 11 ∨ c = 12:=by omega
theorem form_out (hc:¬ (1 ≤ c ∧ c ≤ 12)):impl_formOf.f c = some ((⟨#[]⟩:ByteArray),false,false,false,false,false):=by
 unfold impl_formOf.f
 rw [if_neg (by omega),if_neg (by omega),if_neg (by omega),if_neg (by omega),if_neg (by omega),if_neg (by omega),if_neg (by omega),if_neg (by omega),if_neg (by omega),if_neg (by omega),if_neg (by omega),if_neg (by omega)]
theorem isReq_eq (h:t.size < k) (hb:t.size ≤ 4611686018427387904):impl_isReq.f (k + 1 + 1 + 1 + 1) c a b n t = some (reqB c a b n t):=by
 by_cases hc:1 ≤ c ∧ c ≤ 12
 · rcases kinds hc.1 hc.2 with rfl|rfl|rfl|rfl|rfl|rfl|rfl|rfl|rfl|rfl|rfl|rfl
   · rw [isReq_of (w:=(⟨#[115,112,97,99,101]⟩:ByteArray)) (sp:=true) (nm:=true) (nu:=true) (tx:=false) rfl h hb,V_eq (by decide)];rfl
   · rw [isReq_of (w:=(⟨#[108,105,109,105,116]⟩:ByteArray)) (sp:=true) (nm:=false) (nu:=true) (tx:=false) rfl h hb,V_eq (by decide)];rfl
   · rw [isReq_of (w:=(⟨#[99,108,111,115,101]⟩:ByteArray)) (sp:=true) (nm:=false) (nu:=false) (tx:=false) rfl h hb,V_eq (by decide)];rfl
   · rw [isReq_of (w:=(⟨#[112,117,116]⟩:ByteArray)) (sp:=true) (nm:=true) (nu:=false) (tx:=true) rfl h hb,V_eq (by decide)];rfl
   · rw [isReq_of (w:=(⟨#[115,101,116]⟩:ByteArray)) (sp:=true) (nm:=true) (nu:=true) (tx:=true) rfl h hb,V_eq (by decide)];rfl
   · rw [isReq_of (w:=(⟨#[109,97,114,107]⟩:ByteArray)) (sp:=true) (nm:=true) (nu:=false) (tx:=true) rfl h hb,V_eq (by decide)];rfl
   · rw [isReq_of (w:=(⟨#[117,110,109,97,114,107]⟩:ByteArray)) (sp:=true) (nm:=true) (nu:=false) (tx:=true) rfl h hb,V_eq (by decide)];rfl
   · rw [isReq_of (w:=(⟨#[100,114,111,112]⟩:ByteArray)) (sp:=true) (nm:=true) (nu:=false) (tx:=false) rfl h hb,V_eq (by decide)];rfl
   · rw [isReq_of (w:=(⟨#[103,101,116]⟩:ByteArray)) (sp:=true) (nm:=true) (nu:=false) (tx:=false) rfl h hb,V_eq (by decide)];rfl
   · rw [isReq_of (w:=(⟨#[108,105,115,116]⟩:ByteArray)) (sp:=true) (nm:=false) (nu:=false) (tx:=false) rfl h hb,V_eq (by decide)];rfl
   · rw [isReq_of (w:=(⟨#[119,97,116,99,104]⟩:ByteArray)) (sp:=true) (nm:=false) (nu:=true) (tx:=false) rfl h hb,V_eq (by decide)];rfl
   · rw [isReq_of (w:=(⟨#[115,116,101,112]⟩:ByteArray)) (sp:=false) (nm:=false) (nu:=false) (tx:=false) rfl h hb,V_step];rfl
 · rw [isReq_no (form_out hc) h hb]
   unfold reqB
   rw [if_neg (by omega),if_neg (by omega),if_neg (by omega),if_neg (by omega),if_neg (by omega),if_neg (by omega),if_neg (by omega),if_neg (by omega),if_neg (by omega),if_neg (by omega),if_neg (by omega),if_neg (by omega)]
theorem sReq_eq (h:t.size < k) (hb:t.size ≤ 4611686018427387904) (ha:a.size < k) (hbz:b.size < k) (hk:k ≤ 9223372036854775806):spec_ReqOk.f (k + 1 + 1 + 1) c a b n t = some (reqB c a b n t):=by
 by_cases hc:1 ≤ c ∧ c ≤ 12
 · rcases kinds hc.1 hc.2 with rfl|rfl|rfl|rfl|rfl|rfl|rfl|rfl|rfl|rfl|rfl|rfl
   · rw [sReq_of (hn:=true) (hm:=true) (ht:=false) (by decide) (by decide) rfl h hb ha hbz hk];rfl
   · rw [sReq_of (hn:=false) (hm:=true) (ht:=false) (by decide) (by decide) rfl h hb ha hbz hk];rfl
   · rw [sReq_of (hn:=false) (hm:=false) (ht:=false) (by decide) (by decide) rfl h hb ha hbz hk];rfl
   · rw [sReq_of (hn:=true) (hm:=false) (ht:=true) (by decide) (by decide) rfl h hb ha hbz hk];rfl
   · rw [sReq_of (hn:=true) (hm:=true) (ht:=true) (by decide) (by decide) rfl h hb ha hbz hk];rfl
   · rw [sReq_of (hn:=true) (hm:=false) (ht:=true) (by decide) (by decide) rfl h hb ha hbz hk];rfl
   · rw [sReq_of (hn:=true) (hm:=false) (ht:=true) (by decide) (by decide) rfl h hb ha hbz hk];rfl
   · rw [sReq_of (hn:=true) (hm:=false) (ht:=false) (by decide) (by decide) rfl h hb ha hbz hk];rfl
   · rw [sReq_of (hn:=true) (hm:=false) (ht:=false) (by decide) (by decide) rfl h hb ha hbz hk];rfl
   · rw [sReq_of (hn:=false) (hm:=false) (ht:=false) (by decide) (by decide) rfl h hb ha hbz hk];rfl
   · rw [sReq_of (hn:=false) (hm:=true) (ht:=false) (by decide) (by decide) rfl h hb ha hbz hk];rfl
   · rw [sReq_step h];rfl
 · rw [sReq_out hc]
   unfold reqB
   rw [if_neg (by omega),if_neg (by omega),if_neg (by omega),if_neg (by omega),if_neg (by omega),if_neg (by omega),if_neg (by omega),if_neg (by omega),if_neg (by omega),if_neg (by omega),if_neg (by omega),if_neg (by omega)]
end
end Go.Proofs.YtbhnjglfjhfljaaDoor.V
/- Requests as_ texts: the program's and the reference's. -/
namespace Go.Proofs.YtbhnjglfjhfljaaDoor.V
open Go.RowKit Go.Proofs.YtbhnjglfjhfljaaDoor.P Go.Proofs.YtbhnjglfjhfljaaDoorW.PrintWords Go.Proofs.YtbhnjglfjhfljaaDoorW.PrintMore
def addT (f:Bool) (s o:ByteArray):ByteArray:=if f = true then o ++ ((⟨#[32]⟩:ByteArray) ++ s) else o
theorem addT_size (f:Bool) (s o:ByteArray):o.size ≤ (addT f s o).size ∧ (addT f s o).size ≤ o.size + 1 + s.size:=by
 unfold addT
 cases f
 · rw [if_neg (by decide)];omega
 · rw [if_pos rfl]
   simp only [ByteArray.size_append]
   have:(⟨#[32]⟩:ByteArray).size = 1:=rfl
   omega
section
variable {k:Nat} {c n:Int} {a b t w o:ByteArray} {sp nm nu tx:Bool}
theorem itoa_at (h0:-9223372036854775808 ≤ n) (h9:n ≤ 9223372036854775807):strconv_Itoa_40.f n = some (itoaB n):=by
 unfold strconv_Itoa_40.f
 rw [if_pos ⟨h0,h9⟩];rfl
theorem rt_j1 (ho:o.size ≤ 1000000000) (ht:t.size ≤ 1000000000) (h0:-9223372036854775808 ≤ n) (h9:n ≤ 9223372036854775807) :
 impl_reqText.j1 (k + 1) o c a b n t w sp nm nu tx = some (addT tx t (addT nu (itoaB n) o)):=by
 have hi:=itoaB_size h0 h9
 rw [impl_reqText.j1,itoa_at h0 h9,Option.bind_some]
 cases nu
 · rw [if_neg (by decide)]
   cases tx
   · rw [if_neg (by decide)];rfl
   · rw [if_pos rfl,if_pos (by omega),if_pos (by omega)];rfl
 · rw [if_pos rfl,if_pos (by omega),if_pos (by omega)]
   cases tx
   · rw [if_neg (by decide)];rfl
   · rw [if_pos rfl,if_pos (by omega),if_pos (by omega)];rfl
theorem rt_j0 (ho:o.size ≤ 100000000) (hb:b.size ≤ 100000000) (ht:t.size ≤ 1000000000) (h0:-9223372036854775808 ≤ n) (h9:n ≤ 9223372036854775807) :
 impl_reqText.j0 (k + 1 + 1) o c a b n t w sp nm nu tx = some (addT tx t (addT nu (itoaB n) (addT nm b o))):=by
 have hz:=addT_size nm b o
 rw [impl_reqText.j0]
 cases nm
 · rw [if_neg (by decide),rt_j1 (by omega) ht h0 h9];rfl
 · rw [if_pos rfl,if_pos (by omega),if_pos (by omega),show o ++ ((⟨#[32]⟩:ByteArray) ++ b) = addT true b o from rfl,rt_j1 (by omega) ht h0 h9]
theorem reqText_of {ok:Bool} (hf:impl_formOf.f c = some (w,sp,nm,nu,tx,ok)) (hw:w.size ≤ 100) (ha:a.size ≤ 10000000) (hb:b.size ≤ 100000000) (ht:t.size ≤ 1000000000) (h0:-9223372036854775808 ≤ n) (h9:n ≤ 9223372036854775807) :
 impl_reqText.f (k + 1 + 1) c a b n t = some (addT tx t (addT nu (itoaB n) (addT nm b (addT sp a w)))):=by
 have hz:=addT_size sp a w
 unfold impl_reqText.f
 rw [hf,Option.bind_some]
 cases sp
 · rw [if_neg (by simp),rt_j0 (by dsimp only;omega) hb ht h0 h9];rfl
 · rw [if_pos rfl]
   dsimp only
   rw [if_pos (by omega),if_pos (by omega),show w ++ ((⟨#[32]⟩:ByteArray) ++ a) = addT true a w from rfl,rt_j0 (by omega) hb ht h0 h9]
theorem dec_m1 (hk:40 < k):spec_l1Dec.f k (-1) = some (itoaB (-1)):=by
 obtain ⟨k,rfl⟩:=succ_of hk
 have h1:=sDec_eq (n:=1) (k:=k) (by decide) (by decide) (by omega)
 rw [spec_l1Dec.f,if_neg (by decide),if_pos (by decide),show wrap64 (-(-1)) = 1 from (wrap_id (i:=-(-1)) (by decide) (by decide)).trans (by decide),h1,Option.bind_some]
 have e1:itoaB 1 = ⟨#[49]⟩:=by
  unfold itoaB Lib.itoa
  rw [if_neg (by decide),show (1:Int).toNat = 1 from rfl,Lib.decDigits_one (by decide)];rfl
 have e2:itoaB (-1) = ⟨#[45,49]⟩:=by
  unfold itoaB Lib.itoa
  rw [if_pos (by decide),show (-1:Int).natAbs = 1 from rfl,Lib.decDigits_one (by decide)];rfl
 rw [e1,e2,if_pos (by decide)];rfl
theorem dec_any (h0:-1 ≤ n) (h9:n ≤ 99999) (hk:40 < k):spec_l1Dec.f k n = some (itoaB n):=by
 by_cases h:n = -1
 · rw [h];exact dec_m1 hk
 · exact sDec_eq (by omega) (by omega) (by omega)
theorem app3 (x y z:ByteArray):(x ++ y) ++ z = x ++ (y ++ z):=ByteArray.append_assoc ..
theorem sw_j1 (ho:o.size ≤ 1000000000) (ht:t.size ≤ 1000000000) (h0:-1 ≤ n) (h9:n ≤ 99999) (hk:40 < k) :
 spec_l9Write.j1 (k + 1) nu tx o c a b n t = some (addT tx t (addT nu (itoaB n) o)):=by
 have hi:=itoaB_size (n:=n) (by omega) (by omega)
 rw [spec_l9Write.j1,dec_any h0 h9 hk,Option.bind_some]
 cases nu
 · rw [if_neg (by decide)]
   cases tx
   · rw [if_neg (by decide)];rfl
   · rw [if_pos rfl,if_pos (by omega),if_pos (by omega),app3];rfl
 · rw [if_pos rfl,if_pos (by omega),if_pos (by omega)]
   cases tx
   · rw [if_neg (by decide),app3];rfl
   · rw [if_pos rfl,if_pos (by omega),if_pos (by omega),app3 _ _ t,app3 o];rfl
theorem sw_j0 (ho:o.size ≤ 100000000) (hb:b.size ≤ 100000000) (ht:t.size ≤ 1000000000) (h0:-1 ≤ n) (h9:n ≤ 99999) (hk:40 < k) :
 spec_l9Write.j0 (k + 1 + 1) nm nu tx o c a b n t = some (addT tx t (addT nu (itoaB n) (addT nm b o))):=by
 have hz:=addT_size nm b o
 rw [spec_l9Write.j0]
 cases nm
 · rw [if_neg (by decide),sw_j1 (by omega) ht h0 h9 hk];rfl
 · rw [if_pos rfl,if_pos (by omega),if_pos (by omega),app3,show o ++ ((⟨#[32]⟩:ByteArray) ++ b) = addT true b o from rfl,sw_j1 (by omega) ht h0 h9 hk]
def wordsL:List ByteArray:=(spec_l9Words.f).getD []
theorem words_eq:spec_l9Words.f = some wordsL:=rfl
theorem write_of {hn hm ht':Bool} (hc0:1 ≤ c) (hc:c ≤ 11) (hf:spec_l9Has.f (k + 1 + 1) c = some (hn,hm,ht')) (hw:rdOf ByteArray.empty wordsL c = w) (hws:w.size ≤ 100) (ha:a.size ≤ 10000000) (hb:b.size ≤ 100000000) (ht:t.size ≤ 1000000000) (h0:-1 ≤ n) (h9:n ≤ 99999) (hk:40 < k) :
 spec_l9Write.f (k + 1 + 1) c a b n t = some (addT ht' t (addT hm (itoaB n) (addT hn b (addT true a w)))):=by
 have hz:=addT_size true a w
 unfold spec_l9Write.f
 rw [hf,Option.bind_some,words_eq,Option.bind_some,hw,if_pos (by omega),if_pos (by show c < 13;omega),if_neg (by omega),if_pos (by omega),if_pos (by omega),app3,show w ++ ((⟨#[32]⟩:ByteArray) ++ a) = addT true a w from rfl,sw_j0 (by omega) hb ht h0 h9 hk]
theorem write_step (hb:b.size ≤ 100000000) (ht:t.size ≤ 1000000000) (h0:-1 ≤ n) (h9:n ≤ 99999) (hk:40 < k) :
 spec_l9Write.f (k + 1 + 1) 12 a b n t = some (⟨#[115,116,101,112]⟩:ByteArray):=by
 unfold spec_l9Write.f
 have:spec_l9Has.f (k + 1 + 1) 12 = some (false,false,false):=by
  simp [spec_l9Has.f,spec_l9Has.j0,spec_l9Has.j1]
 rw [this,Option.bind_some,words_eq,Option.bind_some,if_pos (by decide),if_pos (by decide),if_pos rfl,show rdOf ByteArray.empty wordsL 12 = (⟨#[115,116,101,112]⟩:ByteArray) from rfl,sw_j0 (by decide) hb ht h0 h9 hk];rfl
def reqT (c:Int) (a b:ByteArray) (n:Int) (t:ByteArray):ByteArray:=
 match impl_formOf.f c with
 |some (w,sp,nm,nu,tx,_)=>addT tx t (addT nu (itoaB n) (addT nm b (addT sp a w)))
 |none=>⟨#[]⟩
theorem sreqV_n {hn hm ht:Bool} (h:sreqV hn hm ht c a b n t = true):-1 ≤ n ∧ n ≤ 99999:=by
 unfold sreqV at h
 simp only [Bool.and_eq_true,decide_eq_true_eq] at h
 exact h.1.2
theorem reqB_in (h:reqB c a b n t = true):(1 ≤ c ∧ c ≤ 12) ∧ -1 ≤ n ∧ n ≤ 99999:=by
 unfold reqB at h
 by_cases h1:c = 1
 · rw [if_pos h1] at h;exact ⟨by omega,sreqV_n h⟩
 rw [if_neg h1] at h
 by_cases h1:c = 2
 · rw [if_pos h1] at h;exact ⟨by omega,sreqV_n h⟩
 rw [if_neg h1] at h
 by_cases h1:c = 3
 · rw [if_pos h1] at h;exact ⟨by omega,sreqV_n h⟩
 rw [if_neg h1] at h
 by_cases h1:c = 4
 · rw [if_pos h1] at h;exact ⟨by omega,sreqV_n h⟩
 rw [if_neg h1] at h
 by_cases h1:c = 5
 · rw [if_pos h1] at h;exact ⟨by omega,sreqV_n h⟩
 rw [if_neg h1] at h
 by_cases h1:c = 6
 · rw [if_pos h1] at h;exact ⟨by omega,sreqV_n h⟩
 rw [if_neg h1] at h
 by_cases h1:c = 7
 · rw [if_pos h1] at h;exact ⟨by omega,sreqV_n h⟩
 rw [if_neg h1] at h
 by_cases h1:c = 8
 · rw [if_pos h1] at h;exact ⟨by omega,sreqV_n h⟩
 rw [if_neg h1] at h
 by_cases h1:c = 9
 · rw [if_pos h1] at h;exact ⟨by omega,sreqV_n h⟩
 rw [if_neg h1] at h
 by_cases h1:c = 10
 · rw [if_pos h1] at h;exact ⟨by omega,sreqV_n h⟩
 rw [if_neg h1] at h
 by_cases h1:c = 11
 · rw [if_pos h1] at h;exact ⟨by omega,sreqV_n h⟩
 rw [if_neg h1] at h
 by_cases h1:c = 12
 · rw [if_pos h1] at h
   simp only [Bool.and_eq_true,decide_eq_true_eq] at h
   exact ⟨by omega,by omega,by omega⟩
 rw [if_neg h1] at h;cases h
theorem iText_eq (hc:1 ≤ c ∧ c ≤ 12) (ha:a.size ≤ 10000000) (hb:b.size ≤ 100000000) (ht:t.size ≤ 1000000000) (h0:-9223372036854775808 ≤ n) (h9:n ≤ 9223372036854775807):impl_reqText.f (k + 1 + 1) c a b n t = some (reqT c a b n t):=by
 rcases kinds hc.1 hc.2 with rfl|rfl|rfl|rfl|rfl|rfl|rfl|rfl|rfl|rfl|rfl|rfl
 · exact reqText_of (w:=(⟨#[115,112,97,99,101]⟩:ByteArray)) rfl (by decide) ha hb ht h0 h9
 · exact reqText_of (w:=(⟨#[108,105,109,105,116]⟩:ByteArray)) rfl (by decide) ha hb ht h0 h9
 · exact reqText_of (w:=(⟨#[99,108,111,115,101]⟩:ByteArray)) rfl (by decide) ha hb ht h0 h9
 · exact reqText_of (w:=(⟨#[112,117,116]⟩:ByteArray)) rfl (by decide) ha hb ht h0 h9
 · exact reqText_of (w:=(⟨#[115,101,116]⟩:ByteArray)) rfl (by decide) ha hb ht h0 h9
 · exact reqText_of (w:=(⟨#[109,97,114,107]⟩:ByteArray)) rfl (by decide) ha hb ht h0 h9
 · exact reqText_of (w:=(⟨#[117,110,109,97,114,107]⟩:ByteArray)) rfl (by decide) ha hb ht h0 h9
 · exact reqText_of (w:=(⟨#[100,114,111,112]⟩:ByteArray)) rfl (by decide) ha hb ht h0 h9
 · exact reqText_of (w:=(⟨#[103,101,116]⟩:ByteArray)) rfl (by decide) ha hb ht h0 h9
 · exact reqText_of (w:=(⟨#[108,105,115,116]⟩:ByteArray)) rfl (by decide) ha hb ht h0 h9
 · exact reqText_of (w:=(⟨#[119,97,116,99,104]⟩:ByteArray)) rfl (by decide) ha hb ht h0 h9
 · exact reqText_of (w:=(⟨#[115,116,101,112]⟩:ByteArray)) rfl (by decide) ha hb ht h0 h9
theorem sText_eq (hc:1 ≤ c ∧ c ≤ 12) (ha:a.size ≤ 10000000) (hb:b.size ≤ 100000000) (ht:t.size ≤ 1000000000) (h0:-1 ≤ n) (h9:n ≤ 99999) (hk:40 < k):spec_l9Write.f (k + 1 + 1) c a b n t = some (reqT c a b n t):=by
 rcases kinds hc.1 hc.2 with rfl|rfl|rfl|rfl|rfl|rfl|rfl|rfl|rfl|rfl|rfl|rfl
 · exact write_of (hn:=true) (hm:=true) (ht':=false) (by decide) (by decide) rfl (w:=(⟨#[115,112,97,99,101]⟩:ByteArray)) rfl (by decide) ha hb ht h0 h9 hk
 · exact write_of (hn:=false) (hm:=true) (ht':=false) (by decide) (by decide) rfl (w:=(⟨#[108,105,109,105,116]⟩:ByteArray)) rfl (by decide) ha hb ht h0 h9 hk
 · exact write_of (hn:=false) (hm:=false) (ht':=false) (by decide) (by decide) rfl (w:=(⟨#[99,108,111,115,101]⟩:ByteArray)) rfl (by decide) ha hb ht h0 h9 hk
 · exact write_of (hn:=true) (hm:=false) (ht':=true) (by decide) (by decide) rfl (w:=(⟨#[112,117,116]⟩:ByteArray)) rfl (by decide) ha hb ht h0 h9 hk
 · exact write_of (hn:=true) (hm:=true) (ht':=true) (by decide) (by decide) rfl (w:=(⟨#[115,101,116]⟩:ByteArray)) rfl (by decide) ha hb ht h0 h9 hk
 · exact write_of (hn:=true) (hm:=false) (ht':=true) (by decide) (by decide) rfl (w:=(⟨#[109,97,114,107]⟩:ByteArray)) rfl (by decide) ha hb ht h0 h9 hk
 · exact write_of (hn:=true) (hm:=false) (ht':=true) (by decide) (by decide) rfl (w:=(⟨#[117,110,109,97,114,107]⟩:ByteArray)) rfl (by decide) ha hb ht h0 h9 hk
 · exact write_of (hn:=true) (hm:=false) (ht':=false) (by decide) (by decide) rfl (w:=(⟨#[100,114,111,112]⟩:ByteArray)) rfl (by decide) ha hb ht h0 h9 hk
 · exact write_of (hn:=true) (hm:=false) (ht':=false) (by decide) (by decide) rfl (w:=(⟨#[103,101,116]⟩:ByteArray)) rfl (by decide) ha hb ht h0 h9 hk
 · exact write_of (hn:=false) (hm:=false) (ht':=false) (by decide) (by decide) rfl (w:=(⟨#[108,105,115,116]⟩:ByteArray)) rfl (by decide) ha hb ht h0 h9 hk
 · exact write_of (hn:=false) (hm:=true) (ht':=false) (by decide) (by decide) rfl (w:=(⟨#[119,97,116,99,104]⟩:ByteArray)) rfl (by decide) ha hb ht h0 h9 hk
 · exact write_step hb ht h0 h9 hk
end
end Go.Proofs.YtbhnjglfjhfljaaDoor.V
/- Requests read out of texts: words parted by blanks. -/
namespace Go.Proofs.YtbhnjglfjhfljaaDoor.V
open Go.RowKit Go.Proofs.YtbhnjglfjhfljaaDoor.P Go.Proofs.YtbhnjglfjhfljaaDoorW.PrintWords Go.Proofs.YtbhnjglfjhfljaaDoorW.PrintMore
def SP:ByteArray:=⟨#[32]⟩
def nsp (l:List UInt8):Prop:=∀ b ∈ l,b ≠ 32
theorem nsp_name {s:ByteArray} (h:nameB s = true):nsp s.data.toList:=by
 intro b hb he
 unfold nameB at h
 simp only [Bool.and_eq_true,List.all_eq_true] at h
 have:=h.2 b hb
 rw [he] at this
 exact absurd this (by decide)
theorem nsp_itoa {n:Int} (h0:-1 ≤ n) (h9:n ≤ 99999):nsp (itoaB n).data.toList:=by
 intro b hb he
 by_cases h:n = -1
 · have e2:itoaB (-1) = ⟨#[45,49]⟩:=by
    unfold itoaB Lib.itoa
    rw [if_pos (by decide),show (-1:Int).natAbs = 1 from rfl,Lib.decDigits_one (by decide)];rfl
   rw [h,e2,he] at hb
   exact absurd hb (by decide)
 · obtain ⟨u,rfl⟩:∃ u:Nat,n = u:=⟨n.toNat,by omega⟩
   have:=(itoa_cnt (n:=u) (by omega)).2.2
   rw [List.all_eq_true] at this
   have:=this b hb
   rw [he] at this
   exact absurd this (by decide)
theorem app_list (a b:ByteArray):(a ++ b).data.toList = a.data.toList ++ b.data.toList:=by simp [ByteArray.data_append]
theorem sp_list:SP.data.toList = [32]:=rfl
def bl:List UInt8 → Nat
 |[]=>0
 |b :: r=>if b = 32 then 0 else bl r + 1
theorem bl_le:∀ l,bl l ≤ l.length
 |[]=>Nat.le_refl _
 |b :: r=>by rw [bl];have:=bl_le r;split <;> simp <;> omega
theorem idx_bl:∀ l:List UInt8,Lib.indexByte l 32 = if bl l = l.length then -1 else ((bl l:Nat):Int)
 |[]=>rfl
 |b :: r=>by
  rw [Lib.indexByte,bl,idx_bl r]
  have hl:=bl_le r
  by_cases h:b = 32
  · rw [if_pos (by simp [h]),if_pos h,if_neg (by simp)];rfl
  · have hb:(b == 32) = false:=by simp [h]
    rw [hb,if_neg (by decide),if_neg h]
    by_cases h2:bl r = r.length
    · have h4:bl r + 1 = (b :: r).length:=by simp [h2]
      rw [if_pos h2,if_pos h4];rfl
    · have h4:¬ bl r + 1 = (b :: r).length:=by simp;omega
      rw [if_neg h2,if_neg h4]
      have h3:(((bl r:Nat):Int) == -1) = false:=beq_eq_false_iff_ne.mpr (by omega)
      rw [h3,if_neg (by simp)];omega
theorem bl_nsp {a:List UInt8} (h:nsp a):∀ (b:List UInt8),bl (a ++ 32 :: b) = a.length:=by
 induction a with
 |nil=>intro b;rfl
 |cons x a ih=>
  intro b
  have hx:x ≠ 32:=h x List.mem_cons_self
  rw [List.cons_append,bl,if_neg hx,ih (fun y hy=>h y (List.mem_cons_of_mem _ hy)) b];rfl
theorem bl_end {a:List UInt8} (h:nsp a):bl a = a.length:=by
 induction a with
 |nil=>rfl
 |cons x a ih=>
  have hx:x ≠ 32:=h x List.mem_cons_self
  rw [bl,if_neg hx,ih (fun y hy=>h y (List.mem_cons_of_mem _ hy))];rfl
def cut (s:ByteArray):ByteArray × ByteArray × Bool:=if bl s.data.toList = s.size then (s,⟨#[]⟩,false) else (s.extract 0 (bl s.data.toList),s.extract (bl s.data.toList + 1) s.size,true)
theorem Cut_eq (s:ByteArray) (hs:s.size ≤ 1000000000):strings_Cut.f s SP = some (cut s):=by
 unfold strings_Cut.f stringslite_Cut.f stringslite_Index.f cut
 have h1:SP.size = 1:=rfl
 have hz:=size_list s
 have hl:=bl_le s.data.toList
 rw [sp_list]
 dsimp only
 rw [Option.bind_some,idx_bl,h1,hz]
 by_cases h:bl s.data.toList = s.data.toList.length
 · rw [if_pos h,if_neg (by omega),if_pos h];rfl
 · rw [if_neg h,if_neg h,if_pos (by omega),if_pos (by omega),if_pos (by omega),show wrap64 (((bl s.data.toList:Nat):Int) + ((1:Nat):Int)) = ((bl s.data.toList + 1:Nat):Int) by rw [wrap_id (by omega) (by omega)];omega,if_pos (by omega),if_pos (by omega),Option.bind_some,Int.toNat_natCast,Int.toNat_natCast]
theorem cut_size (s:ByteArray):(cut s).1.size ≤ s.size ∧ (cut s).2.1.size ≤ s.size:=by
 have hz:=size_list s
 have hl:=bl_le s.data.toList
 unfold cut
 split
 · exact ⟨Nat.le_refl _,Nat.zero_le _⟩
 · exact ⟨by rw [ex_size _ _ _ (by omega)];omega,by rw [ex_size _ _ _ (by omega)];omega⟩
theorem cut_mid {a b:ByteArray} (h:nsp a.data.toList):cut (a ++ (SP ++ b)) = (a,b,true):=by
 have hl:(a ++ (SP ++ b)).data.toList = a.data.toList ++ 32 :: b.data.toList:=by rw [app_list,app_list,sp_list];rfl
 have hb:=bl_nsp h b.data.toList
 have hz:=size_list (a ++ (SP ++ b))
 have hza:=size_list a
 unfold cut
 rw [hl,hb,hz,hl,if_neg (by simp)]
 refine Prod.ext (ba_ext ?_) (Prod.ext (ba_ext ?_) rfl)
 · rw [ext_list',hl];simp
 · have e:(a.data.toList ++ 32 :: b.data.toList).drop (a.data.toList.length + 1) = b.data.toList:=by
    rw [show a.data.toList ++ 32 :: b.data.toList = (a.data.toList ++ [32]) ++ b.data.toList by simp]
    exact List.drop_left' (by simp)
   rw [ext_list',hl,e,List.take_of_length_le (by simp;omega)]
theorem cut_end {a:ByteArray} (h:nsp a.data.toList):cut a = (a,⟨#[]⟩,false):=by
 unfold cut
 rw [if_pos (by rw [bl_end h,← size_list])]
def joinR:ByteArray → List ByteArray → ByteArray
 |w,[]=>w
 |w,p :: r=>w ++ (SP ++ joinR p r)
def restP:List ByteArray → ByteArray
 |[]=>⟨#[]⟩
 |p :: r=>joinR p r
def hasP:List ByteArray → Bool
 |[]=>false
 |_ :: _=>true
theorem cut_join {w:ByteArray} (h:nsp w.data.toList):∀ ps,cut (joinR w ps) = (w,restP ps,hasP ps)
 |[]=>cut_end h
 |p :: r=>cut_mid h
def toB (l:List UInt8):ByteArray:=⟨l.toArray⟩
theorem toB_list (s:ByteArray):toB s.data.toList = s:=by unfold toB;cases s;simp
def pcs:List UInt8 → List UInt8 → List (List UInt8)
 |acc,[]=>[acc]
 |acc,b :: r=>if b = 32 then acc :: pcs [] r else pcs (acc ++ [b]) r
theorem pcs_len:∀ (l acc:List UInt8),1 ≤ (pcs acc l).length ∧ (pcs acc l).length ≤ l.length + 1
 |[],acc=>by simp [pcs]
 |b :: r,acc=>by
  rw [pcs]
  split
  · have:=pcs_len r [];simp;omega
  · have:=pcs_len r (acc ++ [b]);simp;omega
theorem pcs_size:∀ (l acc:List UInt8),∀ x ∈ pcs acc l,x.length ≤ acc.length + l.length
 |[],acc,x,hx=>by rw [pcs,List.mem_singleton] at hx;rw [hx];simp
 |b :: r,acc,x,hx=>by
  rw [pcs] at hx
  split at hx
  · rcases List.mem_cons.1 hx with rfl|hx
    · simp
    · have:=pcs_size r [] x hx;simp at this;simp;omega
  · have:=pcs_size r (acc ++ [b]) x hx;simp at this;simp;omega
theorem pcs_mid:∀ {a:List UInt8},nsp a → ∀ (acc b:List UInt8),pcs acc (a ++ 32 :: b) = (acc ++ a) :: pcs [] b
 |[],_,acc,b=>by rw [List.nil_append,pcs,if_pos rfl,List.append_nil]
 |x :: a,h,acc,b=>by
  rw [List.cons_append,pcs,if_neg (h x List.mem_cons_self),pcs_mid (fun y hy=>h y (List.mem_cons_of_mem _ hy))];simp
theorem pcs_end:∀ {a:List UInt8},nsp a → ∀ (acc:List UInt8),pcs acc a = [acc ++ a]
 |[],_,acc=>by rw [pcs,List.append_nil]
 |x :: a,h,acc=>by
  rw [pcs,if_neg (h x List.mem_cons_self),pcs_end (fun y hy=>h y (List.mem_cons_of_mem _ hy))];simp
theorem ex_snoc {s:ByteArray} {pre suf:List UInt8} {b:UInt8} {f:Nat} (hs:s.data.toList = pre ++ b :: suf) (hf:f ≤ pre.length):(pre ++ [b]).drop f = pre.drop f ++ [b]:=by
 rw [List.drop_append_of_le_length hf]
theorem ex_toB {s:ByteArray} {pre suf:List UInt8} {f:Nat} (hs:s.data.toList = pre ++ suf) (hf:f ≤ pre.length):s.extract ((f:Int)).toNat ((pre.length:Int)).toNat = toB (pre.drop f):=by
 apply ba_ext
 rw [ext_list',hs,Int.toNat_natCast,Int.toNat_natCast]
 show _ = pre.drop f
 rw [List.drop_append_of_le_length hf,List.take_append_of_le_length (by simp),List.take_of_length_le (by simp)]
theorem bt_at' {s:ByteArray} {a b:List UInt8} {c:UInt8} (h:s.data.toList = a ++ c :: b):bt s (a.length:Int) = (c.toNat:Int):=by
 have hz:=size_list s
 rw [bt_nat s a.length (by rw [hz,h];simp)]
 congr 2
 simp [h]
theorem blank_iff (c:UInt8):((c.toNat:Int) = 32) ↔ c = 32:=⟨fun h=>UInt8.toNat_inj.1 (by rw [show (32:UInt8).toNat = 32 from rfl];omega),fun h=>by rw [h];rfl⟩
theorem l3Cut_l0 (s:ByteArray) (hz:s.size ≤ 100000000):∀ (suf pre:List UInt8) (f:Nat) (out:List ByteArray) (k:Nat),s.data.toList = pre ++ suf → f ≤ pre.length → suf.length < k → out.length + suf.length ≤ 100000001 →
 spec_l3Cut.l0 k s 32 out (f:Int) (pre.length:Int) = some (out ++ (pcs (pre.drop f) suf).map toB):=by
 intro suf
 have hsz:=size_list s
 induction suf with
 |nil=>
  intro pre f out k hs hf hk ho
  obtain ⟨k,rfl⟩:=succ_of hk
  rw [List.append_nil] at hs
  have hl:pre.length = s.size:=by rw [hsz,hs]
  have e:s.extract ((f:Int)).toNat s.size = toB (pre.drop f):=by
   have:=ex_toB (s:=s) (pre:=pre) (suf:=[]) (f:=f) (by simpa using hs) hf
   rw [Int.toNat_natCast (n:=pre.length),hl] at this
   exact this
  simp at ho
  rw [spec_l3Cut.l0,if_neg (by omega),if_pos (by omega),if_pos (by omega),if_pos (by omega),e];rfl
 |cons b suf ih=>
  intro pre f out k hs hf hk ho
  obtain ⟨k,rfl⟩:=succ_of hk
  have hl:pre.length + suf.length + 1 = s.size:=by rw [hsz,hs];simp;omega
  have hw:wrap64 ((pre.length:Int) + 1) = (((pre ++ [b]).length:Nat):Int):=by rw [wrap_id (by omega) (by omega)];simp
  simp at ho hk
  have hih:=fun (f:Nat) (hf:f ≤ (pre ++ [b]).length) (out:List ByteArray) (ho:out.length + suf.length ≤ 100000001)=>ih (pre ++ [b]) f out k (by rw [hs];simp) hf (by omega) ho
  rw [spec_l3Cut.l0,if_pos (by omega),if_pos (by omega),bt_at' hs,hw,pcs]
  by_cases h:b = 32
  · rw [if_pos ((blank_iff b).2 h),if_pos (by omega),if_pos (by omega),if_pos (by omega),if_pos (by omega),ex_toB hs hf,hih (pre ++ [b]).length (Nat.le_refl _) _ (by simp;omega),if_pos h,List.drop_length]
    simp
  · rw [if_neg (fun hh=>h ((blank_iff b).1 hh)),hih f (by simp;omega) out (by omega),if_neg h,ex_snoc hs hf]
def cuts (s:ByteArray):List ByteArray:=(pcs [] s.data.toList).map toB
theorem l3Cut_eq (s:ByteArray) (hz:s.size ≤ 100000000) (k:Nat) (hk:s.size < k):spec_l3Cut.f k s 32 = some (cuts s):=by
 have:=l3Cut_l0 s hz s.data.toList [] 0 [] k rfl (Nat.le_refl _) (by rw [← size_list];exact hk) (by rw [← size_list];simp;omega)
 unfold spec_l3Cut.f cuts
 simpa using this
theorem cuts_len (s:ByteArray):1 ≤ (cuts s).length:=by unfold cuts;rw [List.length_map];exact (pcs_len _ _).1
theorem cuts_size (s:ByteArray):∀ x ∈ cuts s,x.size ≤ s.size:=by
 intro x hx
 obtain ⟨l,hl,rfl⟩:=List.mem_map.1 hx
 have:=pcs_size _ _ l hl
 rw [size_list s]
 show l.toArray.size ≤ _
 simpa using this
theorem join_list (w p:ByteArray) (r:List ByteArray):(joinR w (p :: r)).data.toList = w.data.toList ++ 32 :: (joinR p r).data.toList:=by
 rw [joinR,app_list,app_list,sp_list];rfl
theorem cuts_join {w:ByteArray} (h:nsp w.data.toList) (p:ByteArray) (r:List ByteArray):cuts (joinR w (p :: r)) = w :: cuts (joinR p r):=by
 unfold cuts
 rw [join_list,pcs_mid h,List.map_cons,List.nil_append,toB_list]
theorem cuts_end {w:ByteArray} (h:nsp w.data.toList):cuts w = [w]:=by
 unfold cuts
 rw [pcs_end h,List.map_cons,List.nil_append,toB_list];rfl
def fw (n:Nat):List ByteArray → List UInt8 → List UInt8 → List ByteArray × ByteArray × Bool
 |out,_,[]=>(out,⟨#[]⟩,false)
 |out,acc,b :: r=>if b = 32 then (if out.length + 1 = n then (out ++ [toB acc],toB r,true) else fw n (out ++ [toB acc]) [] r) else fw n out (acc ++ [b]) r
theorem fw_len (n:Nat):∀ (l acc:List UInt8) (out:List ByteArray),(fw n out acc l).2.2 = true → (fw n out acc l).1.length = n
 |[],acc,out,h=>by rw [fw] at h;cases h
 |b :: r,acc,out,h=>by
  rw [fw] at h ⊢
  by_cases hb:b = 32
  · rw [if_pos hb] at h ⊢
    by_cases hn:out.length + 1 = n
    · rw [if_pos hn];simpa using hn
    · rw [if_neg hn] at h ⊢;exact fw_len n r [] _ h
  · rw [if_neg hb] at h ⊢;exact fw_len n r _ out h
theorem fw_size (n N:Nat):∀ (l acc:List UInt8) (out:List ByteArray),(∀ x ∈ out,x.size ≤ N) → acc.length + l.length ≤ N → (∀ x ∈ (fw n out acc l).1,x.size ≤ N) ∧ (fw n out acc l).2.1.size ≤ N
 |[],acc,out,h,hl=>by rw [fw];exact ⟨h,Nat.zero_le _⟩
 |b :: r,acc,out,h,hl=>by
  rw [fw]
  simp at hl
  have hacc:∀ x ∈ out ++ [toB acc],x.size ≤ N:=fun x hx=>by
   rcases List.mem_append.1 hx with hx|hx
   · exact h x hx
   · rw [List.mem_singleton.1 hx]
     show acc.toArray.size ≤ N
     simp;omega
  by_cases hb:b = 32
  · rw [if_pos hb]
    by_cases hn:out.length + 1 = n
    · rw [if_pos hn]
      exact ⟨hacc,by show r.toArray.size ≤ N;simp;omega⟩
    · rw [if_neg hn];exact fw_size n N r [] _ hacc (by simp;omega)
  · rw [if_neg hb];exact fw_size n N r _ out h (by simp;omega)
theorem fw_word (n:Nat) (out:List ByteArray):∀ {a:List UInt8},nsp a → ∀ (acc b:List UInt8),fw n out acc (a ++ 32 :: b) = if out.length + 1 = n then (out ++ [toB (acc ++ a)],toB b,true) else fw n (out ++ [toB (acc ++ a)]) [] b
 |[],_,acc,b=>by rw [List.nil_append,fw,if_pos rfl,List.append_nil]
 |x :: a,h,acc,b=>by
  rw [List.cons_append,fw,if_neg (h x List.mem_cons_self),fw_word n out (fun y hy=>h y (List.mem_cons_of_mem _ hy))];simp
theorem l7Words_l0 (s:ByteArray) (hz:s.size ≤ 100000000) (n:Nat) (hn:n ≤ 100):∀ (suf pre:List UInt8) (f:Nat) (out:List ByteArray) (k:Nat),s.data.toList = pre ++ suf → f ≤ pre.length → suf.length < k → out.length + suf.length ≤ 100000001 →
 spec_l7Words.l0 k s (n:Int) out (f:Int) (pre.length:Int) = some (fw n out (pre.drop f) suf):=by
 intro suf
 have hsz:=size_list s
 induction suf with
 |nil=>
  intro pre f out k hs hf hk ho
  obtain ⟨k,rfl⟩:=succ_of hk
  rw [List.append_nil] at hs
  have hl:pre.length = s.size:=by rw [hsz,hs]
  rw [spec_l7Words.l0,if_neg (by omega)];rfl
 |cons b suf ih=>
  intro pre f out k hs hf hk ho
  obtain ⟨k,rfl⟩:=succ_of hk
  have hl:pre.length + suf.length + 1 = s.size:=by rw [hsz,hs];simp;omega
  have hw:wrap64 ((pre.length:Int) + 1) = (((pre ++ [b]).length:Nat):Int):=by rw [wrap_id (by omega) (by omega)];simp
  simp at ho hk
  have hih:=fun (f:Nat) (hf:f ≤ (pre ++ [b]).length) (out:List ByteArray) (ho:out.length + suf.length ≤ 100000001)=>ih (pre ++ [b]) f out k (by rw [hs];simp) hf (by omega) ho
  rw [spec_l7Words.l0,if_pos (by omega),if_pos (by omega),bt_at' hs,hw,fw]
  by_cases h:b = 32
  · rw [if_pos ((blank_iff b).2 h),if_pos (by omega),if_pos (by omega),if_pos (by omega),if_pos (by omega),ex_toB hs hf,Option.bind_some,if_pos h]
    by_cases hc:out.length + 1 = n
    · have e:s.extract (((pre ++ [b]).length:Nat):Int).toNat s.size = toB suf:=by
       apply ba_ext
       rw [Int.toNat_natCast,ex_all,hs]
       show _ = suf
       rw [show pre ++ b :: suf = (pre ++ [b]) ++ suf by simp,List.drop_left]
      rw [if_pos (by simp;omega),if_pos (by omega),if_pos (by simp;omega),if_pos hc,e]
    · rw [if_neg (by simp;omega),hih (pre ++ [b]).length (Nat.le_refl _) _ (by simp;omega),if_neg hc,List.drop_length]
  · rw [if_neg (fun hh=>h ((blank_iff b).1 hh)),hih f (by simp;omega) out (by omega),if_neg h,ex_snoc hs hf]
theorem l7Words_eq (s:ByteArray) (hz:s.size ≤ 100000000) (n:Nat) (hn:n ≤ 100) (k:Nat) (hk:s.size < k):spec_l7Words.f k s (n:Int) = some (fw n [] [] s.data.toList):=by
 have:=l7Words_l0 s hz n hn s.data.toList [] 0 [] k rfl (Nat.le_refl _) (by rw [← size_list];exact hk) (by rw [← size_list];simp;omega)
 unfold spec_l7Words.f
 simpa using this
end Go.Proofs.YtbhnjglfjhfljaaDoor.V
/- Requests read by the program: what is told; of a request's own text it is that request. -/
namespace Go.Proofs.YtbhnjglfjhfljaaDoor.V
open Go.RowKit Go.Proofs.YtbhnjglfjhfljaaDoor.P Go.Proofs.YtbhnjglfjhfljaaDoorW.PrintWords Go.Proofs.YtbhnjglfjhfljaaDoorW.PrintMore
abbrev R6:=Int × ByteArray × ByteArray × Int × ByteArray × Bool
def Z6:R6:=(0,⟨#[]⟩,⟨#[]⟩,0,⟨#[]⟩,false)
def lim (s:ByteArray):Int × Bool:=if s.toList = ([45,49]:List UInt8) then (-1,true) else if cntB s = true then (((num 0 s.data.toList:Nat):Int),true) else (0,false)
theorem readLimit_eq (s:ByteArray):impl_readLimit.f s = some (lim s):=by
 unfold impl_readLimit.f lim
 split
 · rfl
 · rw [readCount_eq]
   split <;> rfl
theorem itoa_m1:itoaB (-1) = ⟨#[45,49]⟩:=by
 unfold itoaB Lib.itoa
 rw [if_pos (by decide),show (-1:Int).natAbs = 1 from rfl,Lib.decDigits_one (by decide)];rfl
theorem lim_itoa {n:Int} (h0:-1 ≤ n) (h9:n ≤ 99999):lim (itoaB n) = (n,true):=by
 unfold lim
 by_cases h:n = -1
 · rw [h,itoa_m1,if_pos (by rw [ByteArray.toList_eq])]
 · obtain ⟨u,rfl⟩:∃ u:Nat,n = u:=⟨n.toNat,by omega⟩
   obtain ⟨c1,c2,c3⟩:=itoa_cnt (n:=u) (by omega)
   rw [if_neg,if_pos c1,c2]
   intro he
   rw [ByteArray.toList_eq] at he
   have hm:(45:UInt8) ∈ (itoaB (u:Int)).data.toList:=by rw [he];simp
   rw [List.all_eq_true] at c3
   exact absurd (c3 45 hm) (by decide)
def P8 (x0:ByteArray) (c:Int) (a b:ByteArray) (n:Int) (t:ByteArray):R6:=if reqB c a b n t = true ∧ reqT c a b n t = x0 then (c,a,b,n,t,true) else Z6
def P6 (x0:ByteArray) (tx:Bool) (r:ByteArray) (h:Bool) (c:Int) (a b:ByteArray) (n:Int) (t:ByteArray):R6:=if (tx && h) = true then P8 x0 c a b n r else P8 x0 c a b n t
def P5 (x0:ByteArray) (x tx:Bool) (r:ByteArray) (h:Bool) (c:Int) (a b:ByteArray) (n:Int) (t:ByteArray):R6:=
 if x = true then (if (lim (cut r).1).2 = true then P6 x0 tx (cut r).2.1 (cut r).2.2 c a b (lim (cut r).1).1 t else Z6) else P6 x0 tx r h c a b n t
def P3 (x0:ByteArray) (x nu tx:Bool) (r:ByteArray) (h:Bool) (c:Int) (a b:ByteArray) (n:Int) (t:ByteArray):R6:=
 if x = true then P5 x0 (nu && (cut r).2.2) tx (cut r).2.1 (cut r).2.2 c a (cut r).1 n t else P5 x0 (nu && h) tx r h c a b n t
def P1 (x0:ByteArray) (x nm nu tx:Bool) (r:ByteArray) (h:Bool) (c:Int) (a b:ByteArray) (n:Int) (t:ByteArray):R6:=
 if x = true then P3 x0 (nm && (cut r).2.2) nu tx (cut r).2.1 (cut r).2.2 c (cut r).1 b n t else P3 x0 (nm && h) nu tx r h c a b n t
section
variable {k:Nat} {x0 w a b t r:ByteArray} {c n:Int} {x h sp nm nu tx:Bool}
theorem j8_eq (ha:a.size ≤ 1048576) (hb:b.size ≤ 1048576) (ht:t.size ≤ 1048576) (hk:1048590 < k):impl_reqRead.j8 k x0 c a b n t = some (P8 x0 c a b n t):=by
 obtain ⟨k,rfl⟩:∃ m,k = m + 1 + 1 + 1 + 1 + 1:=⟨k - 5,by omega⟩
 rw [impl_reqRead.j8,isReq_eq (by omega) (by omega),Option.bind_some]
 unfold P8
 by_cases hr:reqB c a b n t = true
 · obtain ⟨hc,h0,h9⟩:=reqB_in hr
   rw [if_pos hr,iText_eq (k:=k + 1 + 1) hc (by omega) (by omega) (by omega) (by omega) (by omega),Option.bind_some]
   by_cases he:reqT c a b n t = x0
   · rw [if_pos ((tl_iff _ _).2 he),if_pos ⟨hr,he⟩]
   · rw [if_neg (fun hh=>he ((tl_iff _ _).1 hh)),if_neg (fun hh=>he hh.2)];rfl
 · rw [if_neg hr,if_neg (fun hh=>hr hh.1)];rfl
theorem j7_eq (hr:r.size ≤ 1048576) (ha:a.size ≤ 1048576) (hb:b.size ≤ 1048576) (ht:t.size ≤ 1048576) (hk:1048591 < k):impl_reqRead.j7 k x0 x r c a b n t = some (if x = true then P8 x0 c a b n r else P8 x0 c a b n t):=by
 obtain ⟨k,rfl⟩:=succ_of hk
 rw [impl_reqRead.j7,j8_eq ha hb hr (by omega),j8_eq ha hb ht (by omega)]
 split <;> rfl
theorem j6_eq (hr:r.size ≤ 1048576) (ha:a.size ≤ 1048576) (hb:b.size ≤ 1048576) (ht:t.size ≤ 1048576) (hk:1048592 < k):impl_reqRead.j6 k x0 w sp nm nu tx r h c a b n t = some (P6 x0 tx r h c a b n t):=by
 obtain ⟨k,rfl⟩:=succ_of hk
 rw [impl_reqRead.j6,j7_eq hr ha hb ht (by omega),j7_eq hr ha hb ht (by omega)]
 unfold P6
 cases tx <;> cases h <;> rfl
theorem j5_eq (hr:r.size ≤ 1048576) (ha:a.size ≤ 1048576) (hb:b.size ≤ 1048576) (ht:t.size ≤ 1048576) (hk:1048593 < k):impl_reqRead.j5 k x0 x w sp nm nu tx r h c a b n t = some (P5 x0 x tx r h c a b n t):=by
 obtain ⟨k,rfl⟩:=succ_of hk
 obtain ⟨z1,z2⟩:=cut_size r
 unfold P5
 rw [impl_reqRead.j5,j6_eq hr ha hb ht (by omega),show impl_reqRead_1.f r h = some (cut r) from Cut_eq r (by omega),Option.bind_some,readLimit_eq,Option.bind_some,j6_eq (by omega) ha hb ht (by omega)]
 cases x
 · rfl
 · rw [if_pos rfl,if_pos rfl]
   split <;> rfl
theorem j4_eq (hr:r.size ≤ 1048576) (ha:a.size ≤ 1048576) (hb:b.size ≤ 1048576) (ht:t.size ≤ 1048576) (hk:1048594 < k):impl_reqRead.j4 k x0 w sp nm nu tx r h c a b n t = some (P5 x0 (nu && h) tx r h c a b n t):=by
 obtain ⟨k,rfl⟩:=succ_of hk
 rw [impl_reqRead.j4,j5_eq hr ha hb ht (by omega),j5_eq hr ha hb ht (by omega)]
 cases nu <;> cases h <;> rfl
theorem j3_eq (hr:r.size ≤ 1048576) (ha:a.size ≤ 1048576) (hb:b.size ≤ 1048576) (ht:t.size ≤ 1048576) (hk:1048595 < k):impl_reqRead.j3 k x0 x w sp nm nu tx r h c a b n t = some (P3 x0 x nu tx r h c a b n t):=by
 obtain ⟨k,rfl⟩:=succ_of hk
 obtain ⟨z1,z2⟩:=cut_size r
 unfold P3
 rw [impl_reqRead.j3,j4_eq hr ha hb ht (by omega),show impl_reqRead_1.f r h = some (cut r) from Cut_eq r (by omega),Option.bind_some,j4_eq (by omega) ha (by omega) ht (by omega)]
 cases x <;> rfl
theorem j2_eq (hr:r.size ≤ 1048576) (ha:a.size ≤ 1048576) (hb:b.size ≤ 1048576) (ht:t.size ≤ 1048576) (hk:1048596 < k):impl_reqRead.j2 k x0 w sp nm nu tx r h c a b n t = some (P3 x0 (nm && h) nu tx r h c a b n t):=by
 obtain ⟨k,rfl⟩:=succ_of hk
 rw [impl_reqRead.j2,j3_eq hr ha hb ht (by omega),j3_eq hr ha hb ht (by omega)]
 cases nm <;> cases h <;> rfl
theorem j1_eq (hr:r.size ≤ 1048576) (ha:a.size ≤ 1048576) (hb:b.size ≤ 1048576) (ht:t.size ≤ 1048576) (hk:1048597 < k):impl_reqRead.j1 k x0 x w sp nm nu tx r h c a b n t = some (P1 x0 x nm nu tx r h c a b n t):=by
 obtain ⟨k,rfl⟩:=succ_of hk
 obtain ⟨z1,z2⟩:=cut_size r
 unfold P1
 rw [impl_reqRead.j1,j2_eq hr ha hb ht (by omega),show impl_reqRead_1.f r h = some (cut r) from Cut_eq r (by omega),Option.bind_some,j2_eq (by omega) (by omega) hb ht (by omega)]
 cases x <;> rfl
abbrev Fm:=Int × ByteArray × Bool × Bool × Bool × Bool
def forms:List Fm:=[
 (1,⟨#[115,112,97,99,101]⟩,true,true,true,false),(2,⟨#[108,105,109,105,116]⟩,true,false,true,false),(3,⟨#[99,108,111,115,101]⟩,true,false,false,false),
 (4,⟨#[112,117,116]⟩,true,true,false,true),(5,⟨#[115,101,116]⟩,true,true,true,true),(6,⟨#[109,97,114,107]⟩,true,true,false,true),(7,⟨#[117,110,109,97,114,107]⟩,true,true,false,true),
 (8,⟨#[100,114,111,112]⟩,true,true,false,false),(9,⟨#[103,101,116]⟩,true,true,false,false),(10,⟨#[108,105,115,116]⟩,true,false,false,false),(11,⟨#[119,97,116,99,104]⟩,true,false,true,false),(12,⟨#[115,116,101,112]⟩,false,false,false,false)]
def goR (x0:ByteArray):List Fm → R6
 |[]=>Z6
 |(i,w,sp,nm,nu,tx) :: l=>if (cut x0).1 = w then P1 x0 (sp && (cut x0).2.2) nm nu tx (cut x0).2.1 (cut x0).2.2 i ⟨#[]⟩ ⟨#[]⟩ 0 ⟨#[]⟩ else goR x0 l
theorem l0_step {i:Int} {l:List Fm} (hf:impl_formOf.f i = some (w,sp,nm,nu,tx,true)) (h1:1 ≤ i) (hi:i ≤ 12) (hx:x0.size ≤ 1048576) (hk:1048598 < k) (ih:impl_reqRead.l0 k x0 (i + 1) = some (goR x0 l)) :
 impl_reqRead.l0 (k + 1) x0 i = some (goR x0 ((i,w,sp,nm,nu,tx) :: l)):=by
 obtain ⟨z1,z2⟩:=cut_size x0
 have e0:(⟨#[]⟩:ByteArray).size = 0:=rfl
 rw [impl_reqRead.l0,if_pos hi,hf,Option.bind_some,show strings_Cut.f x0 (⟨#[32]⟩:ByteArray) = some (cut x0) from Cut_eq x0 (by omega),Option.bind_some,goR]
 by_cases he:(cut x0).1 = w
 · rw [if_pos ((tl_iff _ _).2 he),if_pos he]
   dsimp only
   rw [j1_eq (by omega) (by omega) (by omega) (by omega) (by omega),j1_eq (by omega) (by omega) (by omega) (by omega) (by omega)]
   cases sp
   · rfl
   · rw [if_pos rfl,Bool.true_and]
 · rw [if_neg (fun hh=>he ((tl_iff _ _).1 hh)),if_neg he,wrap_id (i:=i + 1) (by omega) (by omega),ih]
theorem l0_end (hk:0 < k):impl_reqRead.l0 k x0 13 = some (goR x0 []):=by
 obtain ⟨k,rfl⟩:=succ_of hk
 rw [impl_reqRead.l0,if_neg (by decide)];rfl
theorem iRead_eq (hx:x0.size ≤ 1048576) (hk:1048620 < k):impl_ReqRead.f k x0 = some (goR x0 forms):=by
 obtain ⟨k,rfl⟩:∃ m,k = m + 1 + 1 + 1 + 1 + 1 + 1 + 1 + 1 + 1 + 1 + 1 + 1:=⟨k - 12,by omega⟩
 unfold impl_ReqRead.f impl_reqRead.f forms
 rw [l0_step rfl (by decide) (by decide) hx (by omega) (l0_step rfl (by decide) (by decide) hx (by omega) (l0_step rfl (by decide) (by decide) hx (by omega) (l0_step rfl (by decide) (by decide) hx (by omega) (l0_step rfl (by decide) (by decide) hx (by omega) (l0_step rfl (by decide) (by decide) hx (by omega)
  (l0_step rfl (by decide) (by decide) hx (by omega) (l0_step rfl (by decide) (by decide) hx (by omega) (l0_step rfl (by decide) (by decide) hx (by omega) (l0_step rfl (by decide) (by decide) hx (by omega) (l0_step rfl (by decide) (by decide) hx (by omega) (l0_step rfl (by decide) (by decide) hx (by omega) (l0_end (by omega)))))))))))))]
 rfl
def Good (x0:ByteArray) (R:R6):Prop:=R = Z6 ∨ ∃ c a b n t,R = (c,a,b,n,t,true) ∧ reqB c a b n t = true ∧ reqT c a b n t = x0
theorem P8_good:Good x0 (P8 x0 c a b n t):=by
 unfold P8
 by_cases h:reqB c a b n t = true ∧ reqT c a b n t = x0
 · rw [if_pos h];exact .inr ⟨c,a,b,n,t,rfl,h.1,h.2⟩
 · rw [if_neg h];exact .inl rfl
theorem P6_good:Good x0 (P6 x0 tx r h c a b n t):=by unfold P6;split <;> exact P8_good
theorem P5_good:Good x0 (P5 x0 x tx r h c a b n t):=by
 unfold P5
 split
 · split
   · exact P6_good
   · exact .inl rfl
 · exact P6_good
theorem P3_good:Good x0 (P3 x0 x nu tx r h c a b n t):=by unfold P3;split <;> exact P5_good
theorem P1_good:Good x0 (P1 x0 x nm nu tx r h c a b n t):=by unfold P1;split <;> exact P3_good
theorem goR_good:∀ l,Good x0 (goR x0 l)
 |[]=>.inl rfl
 |(i,w,sp,nm,nu,tx) :: l=>by
  rw [goR]
  split
  · exact P1_good
  · exact goR_good l
def opt (f:Bool) (p:ByteArray) (l:List ByteArray):List ByteArray:=if f = true then p :: l else l
theorem P6_ok (ht:tx = false → t = ⟨#[]⟩):P6 x0 tx (restP (opt tx t [])) (hasP (opt tx t [])) c a b n ⟨#[]⟩ = P8 x0 c a b n t:=by
 cases tx
 · rw [ht rfl];rfl
 · rfl
theorem P5_ok {l:List ByteArray} (hn:nu = false → n = 0) (h0:-1 ≤ n) (h9:n ≤ 99999):P5 x0 (nu && hasP (opt nu (itoaB n) l)) tx (restP (opt nu (itoaB n) l)) (hasP (opt nu (itoaB n) l)) c a b 0 t = P6 x0 tx (restP l) (hasP l) c a b n t:=by
 cases nu
 · rw [hn rfl];rfl
 · show P5 x0 true tx (joinR (itoaB n) l) true c a b 0 t = _
   unfold P5
   rw [if_pos rfl,cut_join (nsp_itoa h0 h9),lim_itoa h0 h9,if_pos rfl]
theorem P3_ok {l:List ByteArray} (hb:nm = false → b = ⟨#[]⟩) (hn:nm = true → nsp b.data.toList):P3 x0 (nm && hasP (opt nm b l)) nu tx (restP (opt nm b l)) (hasP (opt nm b l)) c a ⟨#[]⟩ n t = P5 x0 (nu && hasP l) tx (restP l) (hasP l) c a b n t:=by
 cases nm
 · rw [hb rfl];rfl
 · show P3 x0 true nu tx (joinR b l) true c a ⟨#[]⟩ n t = _
   unfold P3
   rw [if_pos rfl,cut_join (hn rfl)]
theorem P1_ok {l:List ByteArray} (hb:sp = false → a = ⟨#[]⟩) (hn:sp = true → nsp a.data.toList):P1 x0 (sp && hasP (opt sp a l)) nm nu tx (restP (opt sp a l)) (hasP (opt sp a l)) c ⟨#[]⟩ b n t = P3 x0 (nm && hasP l) nu tx (restP l) (hasP l) c a b n t:=by
 cases sp
 · rw [hb rfl];rfl
 · show P1 x0 true nm nu tx (joinR a l) true c ⟨#[]⟩ b n t = _
   unfold P1
   rw [if_pos rfl,cut_join (hn rfl)]
theorem text_join:addT tx t (addT nu (itoaB n) (addT nm b (addT sp a w))) = joinR w (opt sp a (opt nm b (opt nu (itoaB n) (opt tx t [])))):=by
 cases sp <;> cases nm <;> cases nu <;> cases tx <;> simp only [addT,opt,joinR,SP,if_true,Bool.false_eq_true,if_false,app3]
def Like (sp nm nu tx:Bool) (a b:ByteArray) (n:Int) (t:ByteArray):Prop:=(sp = false → a = ⟨#[]⟩) ∧ (sp = true → nsp a.data.toList) ∧ (nm = false → b = ⟨#[]⟩) ∧ (nm = true → nsp b.data.toList) ∧ (nu = false → n = 0) ∧ (tx = false → t = ⟨#[]⟩) ∧ -1 ≤ n ∧ n ≤ 99999
theorem like_of {hn hm ht:Bool} (h:sreqV hn hm ht c a b n t = true):Like true hn hm ht a b n t:=by
 unfold sreqV at h
 simp only [Bool.and_eq_true,decide_eq_true_eq] at h
 obtain ⟨⟨⟨⟨⟨⟨h1,h2⟩,h3⟩,h4⟩,h5⟩,h6⟩,_⟩:=h
 refine ⟨(fun h=>by cases h),fun _=>nsp_name h1,fun h=>?_,fun h=>?_,fun h=>?_,fun h=>?_,h6.1,h6.2⟩
 · subst h
   have:E b = true:=by cases hE:E b with
    |true=>rfl
    |false=>rw [hE] at h2;exact absurd h2 (by decide)
   exact (E_iff b).1 this
 · subst h
   exact nsp_name (by simpa using h3)
 · subst h;simpa using h4
 · subst h
   exact (E_iff t).1 (by simpa using h5)
theorem hit (hl:Like sp nm nu tx a b n t) (hw:nsp w.data.toList) (hx:x0 = joinR w (opt sp a (opt nm b (opt nu (itoaB n) (opt tx t []))))) :
 cut x0 = (w,restP (opt sp a (opt nm b (opt nu (itoaB n) (opt tx t [])))),hasP (opt sp a (opt nm b (opt nu (itoaB n) (opt tx t []))))) ∧
 P1 x0 (sp && (cut x0).2.2) nm nu tx (cut x0).2.1 (cut x0).2.2 c ⟨#[]⟩ ⟨#[]⟩ 0 ⟨#[]⟩ = P8 x0 c a b n t:=by
 obtain ⟨h1,h2,h3,h4,h5,h6,h7,h8⟩:=hl
 have hc:cut x0 = (w,restP (opt sp a (opt nm b (opt nu (itoaB n) (opt tx t [])))),hasP (opt sp a (opt nm b (opt nu (itoaB n) (opt tx t []))))):=by rw [hx];exact cut_join hw _
 refine ⟨hc,?_⟩
 rw [hc]
 exact (P1_ok h1 h2).trans ((P3_ok h3 h4).trans ((P5_ok h5 h7 h8).trans (P6_ok h6)))
theorem forms_like (hr:reqB c a b n t = true):∃ w sp nm nu tx,(c,w,sp,nm,nu,tx) ∈ forms ∧ Like sp nm nu tx a b n t ∧ nsp w.data.toList ∧ reqT c a b n t = joinR w (opt sp a (opt nm b (opt nu (itoaB n) (opt tx t [])))):=by
 obtain ⟨hc,_,_⟩:=reqB_in hr
 rcases kinds hc.1 hc.2 with rfl|rfl|rfl|rfl|rfl|rfl|rfl|rfl|rfl|rfl|rfl|rfl
 · exact ⟨_,true,true,true,false,by simp [forms],like_of (c:=1) hr,(by unfold nsp;decide),text_join (w:=(⟨#[115,112,97,99,101]⟩:ByteArray))⟩
 · exact ⟨_,true,false,true,false,by simp [forms],like_of (c:=2) hr,(by unfold nsp;decide),text_join (w:=(⟨#[108,105,109,105,116]⟩:ByteArray))⟩
 · exact ⟨_,true,false,false,false,by simp [forms],like_of (c:=3) hr,(by unfold nsp;decide),text_join (w:=(⟨#[99,108,111,115,101]⟩:ByteArray))⟩
 · exact ⟨_,true,true,false,true,by simp [forms],like_of (c:=4) hr,(by unfold nsp;decide),text_join (w:=(⟨#[112,117,116]⟩:ByteArray))⟩
 · exact ⟨_,true,true,true,true,by simp [forms],like_of (c:=5) hr,(by unfold nsp;decide),text_join (w:=(⟨#[115,101,116]⟩:ByteArray))⟩
 · exact ⟨_,true,true,false,true,by simp [forms],like_of (c:=6) hr,(by unfold nsp;decide),text_join (w:=(⟨#[109,97,114,107]⟩:ByteArray))⟩
 · exact ⟨_,true,true,false,true,by simp [forms],like_of (c:=7) hr,(by unfold nsp;decide),text_join (w:=(⟨#[117,110,109,97,114,107]⟩:ByteArray))⟩
 · exact ⟨_,true,true,false,false,by simp [forms],like_of (c:=8) hr,(by unfold nsp;decide),text_join (w:=(⟨#[100,114,111,112]⟩:ByteArray))⟩
 · exact ⟨_,true,true,false,false,by simp [forms],like_of (c:=9) hr,(by unfold nsp;decide),text_join (w:=(⟨#[103,101,116]⟩:ByteArray))⟩
 · exact ⟨_,true,false,false,false,by simp [forms],like_of (c:=10) hr,(by unfold nsp;decide),text_join (w:=(⟨#[108,105,115,116]⟩:ByteArray))⟩
 · exact ⟨_,true,false,true,false,by simp [forms],like_of (c:=11) hr,(by unfold nsp;decide),text_join (w:=(⟨#[119,97,116,99,104]⟩:ByteArray))⟩
 · have h:(E a && E b && decide (n = 0) && E t) = true:=hr
   simp only [Bool.and_eq_true,decide_eq_true_eq] at h
   obtain ⟨⟨⟨h1,h2⟩,h3⟩,h4⟩:=h
   exact ⟨_,false,false,false,false,by simp [forms],⟨fun _=>(E_iff a).1 h1,(fun h=>by cases h),fun _=>(E_iff b).1 h2,(fun h=>by cases h),fun _=>h3,fun _=>(E_iff t).1 h4,by omega,by omega⟩,(by unfold nsp;decide),text_join (w:=(⟨#[115,116,101,112]⟩:ByteArray))⟩
theorem forms_word {i:Int} {w':ByteArray} {s1 s2 s3 s4:Bool} (h1:(c,w,sp,nm,nu,tx) ∈ forms) (h2:(i,w',s1,s2,s3,s4) ∈ forms) (he:w = w'):i = c ∧ s1 = sp ∧ s2 = nm ∧ s3 = nu ∧ s4 = tx:=by
 subst he
 have key:∀ p ∈ forms,∀ q ∈ forms,p.2.1 = q.2.1 → p = q:=by decide
 have:=key _ h2 _ h1 rfl
 simp only [Prod.mk.injEq] at this
 exact ⟨this.1,this.2.2⟩
theorem goR_hit {R:R6}:∀ (l:List Fm),(∀ p ∈ l,(cut x0).1 = p.2.1 → P1 x0 (p.2.2.1 && (cut x0).2.2) p.2.2.2.1 p.2.2.2.2.1 p.2.2.2.2.2 (cut x0).2.1 (cut x0).2.2 p.1 ⟨#[]⟩ ⟨#[]⟩ 0 ⟨#[]⟩ = R) → (∃ p ∈ l,(cut x0).1 = p.2.1) → goR x0 l = R
 |[],_,h=>by obtain ⟨p,hp,_⟩:=h;cases hp
 |(i,w,sp,nm,nu,tx) :: l,h,he=>by
  rw [goR]
  by_cases hw:(cut x0).1 = w
  · rw [if_pos hw];exact h (i,w,sp,nm,nu,tx) List.mem_cons_self hw
  · rw [if_neg hw]
    refine goR_hit l (fun p hp=>h p (List.mem_cons_of_mem _ hp)) ?_
    obtain ⟨p,hp,hq⟩:=he
    rcases List.mem_cons.1 hp with rfl|hp
    · exact absurd hq hw
    · exact ⟨p,hp,hq⟩
theorem goR_back (hr:reqB c a b n t = true):goR (reqT c a b n t) forms = (c,a,b,n,t,true):=by
 obtain ⟨w,sp,nm,nu,tx,hm,hl,hw,hx⟩:=forms_like hr
 obtain ⟨hc,hp⟩:=hit (c:=c) hl hw hx
 refine goR_hit forms (fun p hpm he=>?_) ⟨_,hm,by rw [hc]⟩
 obtain ⟨i,w',s1,s2,s3,s4⟩:=p
 rw [hc] at he
 obtain ⟨rfl,rfl,rfl,rfl,rfl⟩:=forms_word hm hpm he
 dsimp only
 rw [hp]
 unfold P8
 rw [if_pos ⟨hr,rfl⟩]
end
end Go.Proofs.YtbhnjglfjhfljaaDoor.V
/- Requests read by the reference: what is told; of a request's own text it is that request. -/
namespace Go.Proofs.YtbhnjglfjhfljaaDoor.V
open Go.RowKit Go.Proofs.YtbhnjglfjhfljaaDoor.P Go.Proofs.YtbhnjglfjhfljaaDoorW.PrintWords Go.Proofs.YtbhnjglfjhfljaaDoorW.PrintMore
theorem join_size (w:ByteArray):∀ ps,w.size ≤ (joinR w ps).size
 |[]=>Nat.le_refl _
 |p :: r=>by rw [joinR,ByteArray.size_append];omega
theorem reqT_ne {c:Int} {a b:ByteArray} {n:Int} {t:ByteArray} (hr:reqB c a b n t = true):reqT c a b n t ≠ ⟨#[]⟩:=by
 obtain ⟨w,sp,nm,nu,tx,hm,hl,hw,hx⟩:=forms_like hr
 have key:∀ p ∈ forms,1 ≤ p.2.1.size:=by decide
 have h1:=key _ hm
 have h2:=join_size w (opt sp a (opt nm b (opt nu (itoaB n) (opt tx t []))))
 intro h
 rw [hx] at h
 rw [h] at h2
 have h0:(⟨#[]⟩:ByteArray).size = 0:=rfl
 dsimp only at h1
 omega
def wd (i:Int):ByteArray:=rdOf ByteArray.empty wordsL i
def kst (word:ByteArray) (i c:Int):Int:=if wd i = word then i else c
def kd (word:ByteArray):Int:=kst word 12 (kst word 11 (kst word 10 (kst word 9 (kst word 8 (kst word 7 (kst word 6 (kst word 5 (kst word 4 (kst word 3 (kst word 2 (kst word 1 0)))))))))))
theorem kst_bd {word:ByteArray} {i c:Int} (h:1 ≤ i ∧ i ≤ 12) (hc:0 ≤ c ∧ c ≤ 12):0 ≤ kst word i c ∧ kst word i c ≤ 12:=by unfold kst;split <;> omega
theorem kd_bd (word:ByteArray):0 ≤ kd word ∧ kd word ≤ 12:=by
 unfold kd
 repeat (first|refine kst_bd (by decide) ?_|decide)
theorem kd_form:∀ p ∈ forms,kd p.2.1 = p.1:=by decide +kernel
def hasF (c:Int):Bool × Bool × Bool:=if c = 1 then (true,true,false) else if c = 2 ∨ c = 11 then (false,true,false) else if c = 4 ∨ c = 6 ∨ c = 7 then (true,false,true) else if c = 5 then (true,true,true) else if c = 8 ∨ c = 9 then (true,false,false) else (false,false,false)
theorem has_form:∀ p ∈ forms,hasF p.1 = p.2.2.2:=by decide
theorem l9Has_eq {k:Nat} {c:Int} (h0:0 ≤ c) (h1:c ≤ 12):spec_l9Has.f (k + 1 + 1 + 1) c = some (hasF c):=by
 rcases (show c = 0 ∨ c = 1 ∨ c = 2 ∨ c = 3 ∨ c = 4 ∨ c = 5 ∨ c = 6 ∨ c = 7 ∨ c = 8 ∨ c = 9 ∨ c = 10 ∨ c = 11 ∨ c = 12 by omega) with rfl|rfl|rfl|rfl|rfl|rfl|rfl|rfl|rfl|rfl|rfl|rfl|rfl <;> simp [spec_l9Has.f,spec_l9Has.j0,spec_l9Has.j1,hasF]
def l9i (s:ByteArray):Int:=if s.toList = ([45,49]:List UInt8) then -1 else if cntB s = true then ((num 0 s.data.toList:Nat):Int) else -2
theorem l9Int_eq (s:ByteArray) (k:Nat) (hk:20 < k):spec_l9Int.f k s = some (l9i s):=by
 unfold spec_l9Int.f l9i
 split
 · rfl
 · rw [l3Num_eq s k hk,Option.bind_some]
   by_cases h:cntB s = true
   · rw [if_pos h,if_neg (by omega),if_pos h]
   · rw [if_neg h,if_pos (by decide),if_neg h]
theorem l9i_itoa {n:Int} (h0:-1 ≤ n) (h9:n ≤ 99999):l9i (itoaB n) = n:=by
 have h:=lim_itoa h0 h9
 unfold lim at h
 unfold l9i
 split at h
 · rename_i h1;rw [if_pos h1];exact (Prod.mk.inj h).1
 · rename_i h1
   rw [if_neg h1]
   split at h
   · rename_i h2;rw [if_pos h2];exact (Prod.mk.inj h).1
   · exact absurd (Prod.mk.inj h).2 (by decide)
section
variable {k:Nat} {x0 w a b t r:ByteArray} {c n:Int} {x nm nu tx:Bool} {ws:List ByteArray}
theorem sWrite_eq (ha:a.size ≤ 1048576) (hb:b.size ≤ 1048576) (ht:t.size ≤ 1048576) (hk:1048590 < k) (hk9:k ≤ 4000000000):spec_ReqWrite.f k c a b n t = some (if reqB c a b n t = true then reqT c a b n t else ⟨#[]⟩):=by
 obtain ⟨k,rfl⟩:∃ m,k = m + 1 + 1 + 1 + 1:=⟨k - 4,by omega⟩
 unfold spec_ReqWrite.f
 rw [sReq_eq (k:=k + 1) (by omega) (by omega) (by omega) (by omega) (by omega),Option.bind_some]
 by_cases hr:reqB c a b n t = true
 · obtain ⟨hc,h0,h9⟩:=reqB_in hr
   rw [if_pos hr,if_pos hr,sText_eq (k:=k + 1 + 1) hc (by omega) (by omega) (by omega) (by omega) (by omega) (by omega)];rfl
 · rw [if_neg hr,if_neg hr]
theorem fin_eq (ha:a.size ≤ 1048576) (hb:b.size ≤ 1048576) (ht:t.size ≤ 1048576) (hk:1048590 < k) (hk9:k ≤ 4000000000) :
 (if x0.toList = ([]:List UInt8) then (some (0,(⟨#[]⟩:ByteArray),(⟨#[]⟩:ByteArray),0,(⟨#[]⟩:ByteArray),false)) else ((spec_ReqWrite.f k c a b n t).bind fun t391=>(if t391.toList = x0.toList then (some (c,a,b,n,t,true)) else (some (0,(⟨#[]⟩:ByteArray),(⟨#[]⟩:ByteArray),0,(⟨#[]⟩:ByteArray),false))))) = some (P8 x0 c a b n t):=by
 rw [sWrite_eq ha hb ht hk hk9,Option.bind_some]
 unfold P8
 have en:(⟨#[]⟩:ByteArray).toList = ([]:List UInt8):=by rw [ByteArray.toList_eq]
 by_cases h0:x0.toList = ([]:List UInt8)
 · have hx:x0 = ⟨#[]⟩:=(tl_iff _ _).1 (h0.trans en.symm)
   rw [if_pos h0,if_neg (fun hh=>reqT_ne hh.1 (hh.2.trans hx))];rfl
 · rw [if_neg h0]
   by_cases hr:reqB c a b n t = true
   · rw [if_pos hr]
     by_cases he:reqT c a b n t = x0
     · rw [if_pos ((tl_iff _ _).2 he),if_pos ⟨hr,he⟩]
     · rw [if_neg (fun hh=>he ((tl_iff _ _).1 hh)),if_neg (fun hh=>he hh.2)];rfl
   · rw [if_neg hr,if_neg (fun hh=>h0 (hh.symm.trans en)),if_neg (fun hh=>hr hh.1)];rfl
theorem s6_eq (hr:r.size ≤ 1048576) (ha:a.size ≤ 1048576) (hb:b.size ≤ 1048576) (ht:t.size ≤ 1048576) (hk:1048592 < k) (hk9:k ≤ 4000000000):spec_ReqRead.j6 k x0 tx r c a b n t = some (P8 x0 c a b n (if tx = true then r else t)):=by
 obtain ⟨k,rfl⟩:=succ_of hk
 rw [spec_ReqRead.j6,fin_eq ha hb hr (by omega) (by omega),fin_eq ha hb ht (by omega) (by omega)]
 cases tx <;> rfl
theorem s5_eq {at_:Int} (hat:nu = true → 0 ≤ at_ ∧ at_ < (ws.length:Int)) (hr:r.size ≤ 1048576) (ha:a.size ≤ 1048576) (hb:b.size ≤ 1048576) (ht:t.size ≤ 1048576) (hk:1048593 < k) (hk9:k ≤ 4000000000) :
 spec_ReqRead.j5 k x0 nu tx ws r at_ c a b n t = some (P8 x0 c a b (if nu = true then l9i (rdOf ByteArray.empty ws at_) else n) (if tx = true then r else t)):=by
 obtain ⟨k,rfl⟩:=succ_of hk
 rw [spec_ReqRead.j5,s6_eq hr ha hb ht (by omega) (by omega),l9Int_eq _ k (by omega),Option.bind_some,s6_eq hr ha hb ht (by omega) (by omega)]
 cases nu
 · rfl
 · obtain ⟨h1,h2⟩:=hat rfl
   rw [if_pos rfl,if_pos h1,if_pos h2,if_pos rfl]
theorem rd_size {N:Nat} (h:∀ x ∈ ws,x.size ≤ N) (i:Int):(rdOf ByteArray.empty ws i).size ≤ N:=by
 unfold rdOf
 rw [List.getD_eq_getElem?_getD]
 cases he:ws[i.toNat]? with
 |none=>exact Nat.zero_le _
 |some y=>exact h y (List.mem_of_getElem? he)
theorem s4_eq (hw:∀ x ∈ ws,x.size ≤ 1048576) (hl:2 + (if nm = true then 1 else 0) + (if nu = true then 1 else 0) ≤ ws.length) (hr:r.size ≤ 1048576) (hb:b.size ≤ 1048576) (ht:t.size ≤ 1048576) (hk:1048594 < k) (hk9:k ≤ 4000000000) :
 spec_ReqRead.j4 k x0 nm nu tx ws r c a b n t = some (P8 x0 c (rdOf ByteArray.empty ws 1) (if nm = true then rdOf ByteArray.empty ws 2 else b) (if nu = true then l9i (rdOf ByteArray.empty ws (if nm = true then 3 else 2)) else n) (if tx = true then r else t)):=by
 obtain ⟨k,rfl⟩:=succ_of hk
 have h1:=rd_size hw 1
 have h2:=rd_size hw 2
 rw [spec_ReqRead.j4,if_pos (by omega)]
 cases nm
 · rw [if_neg (by decide),s5_eq (fun h=>by subst h;simp at hl;omega) hr h1 hb ht (by omega) (by omega)];rfl
 · rw [if_pos rfl,if_pos (by simp at hl;omega),s5_eq (fun h=>by subst h;simp at hl;omega) hr h1 h2 ht (by omega) (by omega)];rfl
def S3 (x0:ByteArray) (x nm nu tx:Bool) (ws:List ByteArray) (c:Int):R6:=
 if x = true then
  (if tx = true then (if (fw (2 + (if nm = true then 1 else 0) + (if nu = true then 1 else 0)) [] [] x0.data.toList).2.2 = true then
   P8 x0 c (rdOf ByteArray.empty (fw (2 + (if nm = true then 1 else 0) + (if nu = true then 1 else 0)) [] [] x0.data.toList).1 1) (if nm = true then rdOf ByteArray.empty (fw (2 + (if nm = true then 1 else 0) + (if nu = true then 1 else 0)) [] [] x0.data.toList).1 2 else ⟨#[]⟩)
    (if nu = true then l9i (rdOf ByteArray.empty (fw (2 + (if nm = true then 1 else 0) + (if nu = true then 1 else 0)) [] [] x0.data.toList).1 (if nm = true then 3 else 2)) else 0) (fw (2 + (if nm = true then 1 else 0) + (if nu = true then 1 else 0)) [] [] x0.data.toList).2.1
   else Z6)
   else P8 x0 c (rdOf ByteArray.empty ws 1) (if nm = true then rdOf ByteArray.empty ws 2 else ⟨#[]⟩) (if nu = true then l9i (rdOf ByteArray.empty ws (if nm = true then 3 else 2)) else 0) ⟨#[]⟩)
 else P8 x0 c ⟨#[]⟩ ⟨#[]⟩ 0 ⟨#[]⟩
theorem s3_eq {N:Int} (hN:N = ((2 + (if nm = true then 1 else 0) + (if nu = true then 1 else 0):Nat):Int)) (hx:x0.size ≤ 1048576) (hw:∀ y ∈ ws,y.size ≤ 1048576) (hl:x = true → 2 + (if nm = true then 1 else 0) + (if nu = true then 1 else 0) ≤ ws.length) (hk:1048596 < k) (hk9:k ≤ 4000000000) :
 spec_ReqRead.j3 k x0 nm nu tx N ws x c ⟨#[]⟩ ⟨#[]⟩ 0 ⟨#[]⟩ = some (S3 x0 x nm nu tx ws c):=by
 obtain ⟨k,rfl⟩:=succ_of hk
 have e0:(⟨#[]⟩:ByteArray).size = 0:=rfl
 have hz:=size_list x0
 have hn4:2 + (if nm = true then 1 else 0) + (if nu = true then 1 else 0) ≤ 4:=by cases nm <;> cases nu <;> decide
 unfold S3
 rw [spec_ReqRead.j3,fin_eq (by omega) (by omega) (by omega) (by omega) (by omega),hN]
 generalize hM:2 + (if nm = true then 1 else 0) + (if nu = true then 1 else 0) = M at hl hn4
 cases x
 · rfl
 · rw [if_pos rfl,if_pos rfl]
   cases tx
   · rw [if_neg (by decide),s4_eq hw (by rw [hM];exact hl rfl) (by omega) (by omega) (by omega) (by omega) (by omega)];rfl
   · obtain ⟨q1,q2⟩:=fw_size M 1048576 x0.data.toList [] [] (fun y hy=>by cases hy) (by simp;omega)
     rw [if_pos rfl,l7Words_eq x0 (by omega) M (by omega) k (by omega),Option.bind_some,if_pos rfl]
     by_cases h:(fw M [] [] x0.data.toList).2.2 = true
     · have hlen:=fw_len M x0.data.toList [] [] h
       rw [if_pos h,if_pos h,s4_eq q1 (by rw [hM,hlen];exact Nat.le_refl _) q2 (by omega) (by omega) (by omega) (by omega)];rfl
     · rw [if_neg h,if_neg h];rfl
def SR (x0:ByteArray):R6:=
 S3 x0 (!(decide (kd (rdOf ByteArray.empty (cuts x0) 0) = 12)) && decide (2 + (if (hasF (kd (rdOf ByteArray.empty (cuts x0) 0))).1 = true then 1 else 0) + (if (hasF (kd (rdOf ByteArray.empty (cuts x0) 0))).2.1 = true then 1 else 0) ≤ (cuts x0).length))
  (hasF (kd (rdOf ByteArray.empty (cuts x0) 0))).1 (hasF (kd (rdOf ByteArray.empty (cuts x0) 0))).2.1 (hasF (kd (rdOf ByteArray.empty (cuts x0) 0))).2.2 (cuts x0) (kd (rdOf ByteArray.empty (cuts x0) 0))
theorem s2_eq {N:Int} (hN:N = ((2 + (if nm = true then 1 else 0) + (if nu = true then 1 else 0):Nat):Int)) (hx:x0.size ≤ 1048576) (hk:1048597 < k) (hk9:k ≤ 4000000000) :
 spec_ReqRead.j2 k x0 nm nu tx N c ⟨#[]⟩ ⟨#[]⟩ 0 ⟨#[]⟩ = some (S3 x0 (!(decide (c = 12)) && decide (2 + (if nm = true then 1 else 0) + (if nu = true then 1 else 0) ≤ (cuts x0).length)) nm nu tx (cuts x0) c):=by
 obtain ⟨k,rfl⟩:=succ_of hk
 have hcs:=fun y hy=>Nat.le_trans (cuts_size x0 y hy) hx
 rw [spec_ReqRead.j2,l3Cut_eq x0 (by omega) k (by omega),Option.bind_some,s3_eq hN hx hcs (fun h=>by cases h) (by omega) (by omega),
  s3_eq hN hx hcs (fun h=>by rw [decide_eq_true_eq,hN] at h;omega) (by omega) (by omega)]
 by_cases h:c = 12
 · rw [if_pos h,decide_eq_true h];rfl
 · rw [if_neg h,decide_eq_false h,hN]
   congr 2
   rw [Bool.not_false,Bool.true_and]
   exact decide_eq_decide.2 ⟨fun h=>by omega,fun h=>by omega⟩
theorem s1_eq (h0:0 ≤ c) (h1:c ≤ 12) (hx:x0.size ≤ 1048576) (hk:1048599 < k) (hk9:k ≤ 4000000000) :
 ((spec_l9Has.f k c).bind fun bt375=>(if bt375.1 = true then (spec_ReqRead.j1 k x0 bt375.1 bt375.2.1 bt375.2.2 (2 + 1) c ⟨#[]⟩ ⟨#[]⟩ 0 ⟨#[]⟩) else (spec_ReqRead.j1 k x0 bt375.1 bt375.2.1 bt375.2.2 2 c ⟨#[]⟩ ⟨#[]⟩ 0 ⟨#[]⟩))) =
  some (S3 x0 (!(decide (c = 12)) && decide (2 + (if (hasF c).1 = true then 1 else 0) + (if (hasF c).2.1 = true then 1 else 0) ≤ (cuts x0).length)) (hasF c).1 (hasF c).2.1 (hasF c).2.2 (cuts x0) c):=by
 obtain ⟨k,rfl⟩:∃ m,k = m + 1 + 1 + 1:=⟨k - 3,by omega⟩
 rw [l9Has_eq h0 h1,Option.bind_some]
 obtain ⟨nm,nu,tx⟩:=hasF c
 dsimp only
 rw [spec_ReqRead.j1,spec_ReqRead.j1]
 cases nm <;> cases nu
 · rw [if_neg (by decide),if_neg (by decide)]
   exact s2_eq (nm:=false) (nu:=false) (by decide) hx (by omega) (by omega)
 · rw [if_neg (by decide),if_pos rfl]
   exact s2_eq (nm:=false) (nu:=true) (by rw [wrap_id (by decide) (by decide)];decide) hx (by omega) (by omega)
 · rw [if_pos rfl,if_neg (by decide)]
   exact s2_eq (nm:=true) (nu:=false) (by decide) hx (by omega) (by omega)
 · rw [if_pos rfl,if_pos rfl]
   exact s2_eq (nm:=true) (nu:=true) (by rw [wrap_id (by decide) (by decide)];decide) hx (by omega) (by omega)
theorem sl_step {i:Int} {R:Option R6} (h1:1 ≤ i) (hi:i ≤ 12) (ih:spec_ReqRead.l0 k x0 w (i + 1) (kst w i c) ⟨#[]⟩ ⟨#[]⟩ 0 ⟨#[]⟩ = R):spec_ReqRead.l0 (k + 1) x0 w i c ⟨#[]⟩ ⟨#[]⟩ 0 ⟨#[]⟩ = R:=by
 rw [spec_ReqRead.l0,if_pos hi,words_eq,Option.bind_some,if_pos (by omega),if_pos (by show i < 13;omega),wrap_id (i:=i + 1) (by omega) (by omega),← ih]
 unfold kst wd
 by_cases h:rdOf ByteArray.empty wordsL i = w
 · rw [if_pos ((tl_iff _ _).2 h),if_pos h]
 · rw [if_neg (fun hh=>h ((tl_iff _ _).1 hh)),if_neg h]
theorem sRead_eq (hx:x0.size ≤ 1048576) (hk:1048640 < k) (hk9:k ≤ 4000000000):spec_ReqRead.f k x0 = some (SR x0):=by
 obtain ⟨k,rfl⟩:∃ m,k = m + 1 + 1 + 1 + 1 + 1 + 1 + 1 + 1 + 1 + 1 + 1 + 1 + 1:=⟨k - 13,by omega⟩
 have hcl:=cuts_len x0
 unfold spec_ReqRead.f
 rw [l3Cut_eq x0 (by omega) _ (by omega),Option.bind_some,if_pos (by omega)]
 refine sl_step (by decide) (by decide) (sl_step (by decide) (by decide) (sl_step (by decide) (by decide) (sl_step (by decide) (by decide) (sl_step (by decide) (by decide) (sl_step (by decide) (by decide)
  (sl_step (by decide) (by decide) (sl_step (by decide) (by decide) (sl_step (by decide) (by decide) (sl_step (by decide) (by decide) (sl_step (by decide) (by decide) (sl_step (by decide) (by decide) ?_)))))))))))
 obtain ⟨b1,b2⟩:=kd_bd (rdOf ByteArray.empty (cuts x0) 0)
 show spec_ReqRead.l0 (k + 1) x0 _ 13 (kd (rdOf ByteArray.empty (cuts x0) 0)) ⟨#[]⟩ ⟨#[]⟩ 0 ⟨#[]⟩ = _
 rw [spec_ReqRead.l0,if_neg (by decide),s1_eq b1 b2 hx (by omega) (by omega)];rfl
theorem S3_good {ws:List ByteArray}:Good x0 (S3 x0 x nm nu tx ws c):=by
 unfold S3
 by_cases h1:x = true
 · rw [if_pos h1]
   by_cases h2:tx = true
   · rw [if_pos h2]
     by_cases h3:(fw (2 + (if nm = true then 1 else 0) + (if nu = true then 1 else 0)) [] [] x0.data.toList).2.2 = true
     · rw [if_pos h3];exact P8_good
     · rw [if_neg h3];exact .inl rfl
   · rw [if_neg h2];exact P8_good
 · rw [if_neg h1];exact P8_good
theorem SR_good:Good x0 (SR x0):=S3_good
theorem cuts_all {t:ByteArray}:∀ (ps:List ByteArray) (w:ByteArray),nsp w.data.toList → (∀ p ∈ ps,nsp p.data.toList) → cuts (joinR w (ps ++ [t])) = w :: ps ++ cuts t
 |[],w,hw,_=>by rw [List.nil_append,cuts_join hw];rfl
 |p :: r,w,hw,h=>by
  rw [List.cons_append,cuts_join hw,cuts_all r p (h p List.mem_cons_self) (fun q hq=>h q (List.mem_cons_of_mem _ hq))];rfl
theorem cuts_only:∀ (ps:List ByteArray) (w:ByteArray),nsp w.data.toList → (∀ p ∈ ps,nsp p.data.toList) → cuts (joinR w ps) = w :: ps
 |[],w,hw,_=>cuts_end hw
 |p :: r,w,hw,h=>by
  rw [cuts_join hw,cuts_only r p (h p List.mem_cons_self) (fun q hq=>h q (List.mem_cons_of_mem _ hq))]
theorem fw_all {t:ByteArray}:∀ (ps:List ByteArray) (w:ByteArray) (out:List ByteArray) (N:Nat),nsp w.data.toList → (∀ p ∈ ps,nsp p.data.toList) → out.length + ps.length + 1 = N → fw N out [] (joinR w (ps ++ [t])).data.toList = (out ++ w :: ps,t,true)
 |[],w,out,N,hw,_,hN=>by
  rw [List.nil_append,join_list,fw_word N out hw,List.nil_append,if_pos (by simpa using hN),toB_list]
  show (out ++ [w],toB (joinR t []).data.toList,true) = _
  rw [toB_list];rfl
 |p :: r,w,out,N,hw,h,hN=>by
  rw [List.cons_append,join_list,fw_word N out hw,List.nil_append,if_neg (by simp at hN;omega),toB_list,fw_all r p (out ++ [w]) N (h p List.mem_cons_self) (fun q hq=>h q (List.mem_cons_of_mem _ hq)) (by simp at hN ⊢;omega)]
  simp
theorem SR_back (hr:reqB c a b n t = true):SR (reqT c a b n t) = (c,a,b,n,t,true):=by
 have h8:P8 (reqT c a b n t) c a b n t = (c,a,b,n,t,true):=by unfold P8;rw [if_pos ⟨hr,rfl⟩]
 obtain ⟨w,sp,nm,nu,tx,hm,⟨l1,l2,l3,l4,l5,l6,l7,l8⟩,hw,hx⟩:=forms_like hr
 have hk:=kd_form _ hm
 have hf:=has_form _ hm
 have hsp:∀ p ∈ forms,p.2.2.1 = !(decide (p.1 = 12)):=by decide
 have hs:=hsp _ hm
 have h12:∀ p ∈ forms,p.1 = 12 → p.2.2.2 = (false,false,false):=by decide
 have hz:=h12 _ hm
 dsimp only at hk hf hs hz
 have h0:rdOf ByteArray.empty (cuts (reqT c a b n t)) 0 = w:=by
  rw [hx]
  cases hps:opt sp a (opt nm b (opt nu (itoaB n) (opt tx t []))) with
  |nil=>rw [show joinR w [] = w from rfl,cuts_end hw];rfl
  |cons p r=>rw [cuts_join hw];rfl
 unfold SR
 rw [h0,hk,hf]
 dsimp only
 by_cases hc:c = 12
 · obtain ⟨e1,e2⟩:=Prod.mk.inj (hz hc)
   obtain ⟨e2,e3⟩:=Prod.mk.inj e2
   subst e1 e2 e3
   have es:sp = false:=by rw [hs,decide_eq_true hc];rfl
   rw [decide_eq_true hc,Bool.not_true,Bool.false_and]
   show P8 (reqT c a b n t) c ⟨#[]⟩ ⟨#[]⟩ 0 ⟨#[]⟩ = _
   rw [← h8,l1 es,l3 rfl,l5 rfl,l6 rfl]
 · have es:sp = true:=by rw [hs,decide_eq_false hc];rfl
   subst es
   rw [decide_eq_false hc,Bool.not_false,Bool.true_and]
   have na:=l2 rfl
   have ni:=nsp_itoa l7 l8
   have li:=l9i_itoa l7 l8
   cases tx with
   |false=>
    have et:=l6 rfl
    have hcu:cuts (reqT c a b n t) = w :: (opt true a (opt nm b (opt nu (itoaB n) []))):=by
     rw [hx]
     refine cuts_only _ w hw (fun p hp=>?_)
     cases nm <;> cases nu <;> simp [opt] at hp
     · rw [hp];exact na
     · rcases hp with rfl|rfl
       · exact na
       · exact ni
     · rcases hp with rfl|rfl
       · exact na
       · exact l4 rfl
     · rcases hp with rfl|rfl|rfl
       · exact na
       · exact l4 rfl
       · exact ni
    rw [hcu,← h8]
    cases nm with
    |false=>
     cases nu with
     |false=>rw [l3 rfl,l5 rfl,et];rfl
     |true=>rw [l3 rfl,et];show P8 _ c a ⟨#[]⟩ (l9i (itoaB n)) ⟨#[]⟩ = _;rw [li]
    |true=>
     cases nu with
     |false=>rw [l5 rfl,et];rfl
     |true=>rw [et];show P8 _ c a b (l9i (itoaB n)) ⟨#[]⟩ = _;rw [li]
   |true=>
    have hall:∀ p ∈ (opt true a (opt nm b (opt nu (itoaB n) []))),nsp p.data.toList:=by
     intro p hp
     cases nm <;> cases nu <;> simp [opt] at hp
     · rw [hp];exact na
     · rcases hp with rfl|rfl
       · exact na
       · exact ni
     · rcases hp with rfl|rfl
       · exact na
       · exact l4 rfl
     · rcases hp with rfl|rfl|rfl
       · exact na
       · exact l4 rfl
       · exact ni
    have hj:opt true a (opt nm b (opt nu (itoaB n) (opt true t []))) = opt true a (opt nm b (opt nu (itoaB n) [])) ++ [t]:=by cases nm <;> cases nu <;> rfl
    rw [hj] at hx
    have hcu:cuts (reqT c a b n t) = w :: (opt true a (opt nm b (opt nu (itoaB n) []))) ++ cuts t:=by rw [hx];exact cuts_all _ w hw hall
    have hfw:fw (2 + (if nm = true then 1 else 0) + (if nu = true then 1 else 0)) [] [] (reqT c a b n t).data.toList = (w :: (opt true a (opt nm b (opt nu (itoaB n) []))),t,true):=by
     rw [hx]
     exact fw_all _ w [] _ hw hall (by cases nm <;> cases nu <;> rfl)
    have hd:decide (2 + (if nm = true then 1 else 0) + (if nu = true then 1 else 0) ≤ (cuts (reqT c a b n t)).length) = true:=by
     rw [decide_eq_true_eq,hcu]
     cases nm <;> cases nu <;> simp [opt] <;> omega
    rw [hd]
    unfold S3
    rw [if_pos rfl,if_pos rfl,hfw,if_pos rfl,← h8]
    cases nm with
    |false=>
     cases nu with
     |false=>rw [l3 rfl,l5 rfl];rfl
     |true=>rw [l3 rfl];show P8 _ c a ⟨#[]⟩ (l9i (itoaB n)) t = _;rw [li]
    |true=>
     cases nu with
     |false=>rw [l5 rfl];rfl
     |true=>show P8 _ c a b (l9i (itoaB n)) t = _;rw [li]
end
end Go.Proofs.YtbhnjglfjhfljaaDoor.V
/- The plain statement of FnReqText: a request can be written and read again without a change. -/
namespace Go.Proofs.YtbhnjglfjhfljaaDoor.Pure
open Go.RowKit Go.Proofs.YtbhnjglfjhfljaaDoor.P Go.Proofs.YtbhnjglfjhfljaaDoor.V Go.Proofs.YtbhnjglfjhfljaaDoorW.PrintWords Go.Proofs.YtbhnjglfjhfljaaDoorW.PrintMore
theorem reads_same (x:ByteArray):goR x forms = SR x:=by
 by_cases hv:∃ c a b n t,reqB c a b n t = true ∧ reqT c a b n t = x
 · obtain ⟨c,a,b,n,t,h1,h2⟩:=hv
   rw [← h2,goR_back h1,SR_back h1]
 · have h1:goR x forms = Z6:=by
    rcases goR_good (x0:=x) forms with h|⟨c,a,b,n,t,_,h2,h3⟩
    · exact h
    · exact absurd ⟨c,a,b,n,t,h2,h3⟩ hv
   have h2:SR x = Z6:=by
    rcases SR_good (x0:=x) with h|⟨c,a,b,n,t,_,h2,h3⟩
    · exact h
    · exact absurd ⟨c,a,b,n,t,h2,h3⟩ hv
   rw [h1,h2]
section
variable {s:List Int} {q:Int} {k:Nat} {c n:Int} {a b t:ByteArray}
theorem of_small (hu:U8 s) (hs:s.length ≤ 2000) (q0:0 ≤ q) (q1:q ≤ 10000) (hk:0 < k) (l:List ByteArray) (hl:1 ≤ l.length) (h:∀ y ∈ l,y.size ≤ 100):∃ x,spec_l1Rd_of.f k s q l = some (x,q + 1) ∧ x.size ≤ 100:=by
 obtain ⟨x,e,m⟩:=of_eq (s:=s) (q:=q) (k:=k) (l:=l) hu hs q0 (by omega) hl hk
 exact ⟨x,e,h x m⟩
def Dr (q d:Int) (R:Option (Int × ByteArray × ByteArray × Int × ByteArray × Int)):Prop:=∃ c a b n t q',R = some (c,a,b,n,t,q') ∧ a.size ≤ 100 ∧ b.size ≤ 100 ∧ t.size ≤ 100 ∧ 0 ≤ q' ∧ q' ≤ q + d
theorem r3 (hu:U8 s) (hs:s.length ≤ 2000) (q0:0 ≤ q) (q1:q ≤ 5000) (hk:5 < k) (ha:a.size ≤ 100) (hb:b.size ≤ 100) (ht:t.size ≤ 100) (x3 x36:Int) (x:Bool):Dr q 1 (spec_l13Req.j3 k x3 x36 x s q c a b n t):=by
 obtain ⟨k,rfl⟩:=succ_of hk
 rw [spec_l13Req.j3]
 cases x
 · rw [if_neg (by decide)]
   split
   · exact ⟨_,_,_,_,_,_,rfl,by decide,by decide,by decide,by omega,by omega⟩
   · exact ⟨_,_,_,_,_,_,rfl,ha,hb,ht,by omega,by omega⟩
 · obtain ⟨y,e,hy⟩:=of_small hu hs q0 (by omega) (show 0 < k by omega) ([(⟨#[107]⟩:ByteArray),(⟨#[108]⟩:ByteArray),(⟨#[109]⟩:ByteArray)]:List ByteArray) (by decide) (by decide)
   rw [if_pos rfl,e]
   exact ⟨_,_,_,_,_,_,rfl,ha,hb,hy,by omega,by omega⟩
theorem r2 (hu:U8 s) (hs:s.length ≤ 2000) (q0:0 ≤ q) (q1:q ≤ 4000) (hk:6 < k) (ha:a.size ≤ 100) (hb:b.size ≤ 100) (ht:t.size ≤ 100) (x3:Int):Dr q 10 (spec_l13Req.j2 k x3 s q c a b n t):=by
 obtain ⟨k,rfl⟩:=succ_of hk
 rw [spec_l13Req.j2]
 by_cases h1:x3 = 1
 · obtain ⟨y1,e1,hy1⟩:=of_small hu hs q0 (by omega) (show 0 < k by omega) ([(⟨#[97]⟩:ByteArray),(⟨#[98]⟩:ByteArray),(⟨#[99]⟩:ByteArray),(⟨#[100]⟩:ByteArray)]:List ByteArray) (by decide) (by decide)
   obtain ⟨y2,e2,hy2⟩:=of_small (q:=q + 1) hu hs (by omega) (by omega) (show 0 < k by omega) ([(⟨#[97,108,108]⟩:ByteArray),(⟨#[97]⟩:ByteArray),(⟨#[98]⟩:ByteArray),(⟨#[99]⟩:ByteArray)]:List ByteArray) (by decide) (by decide)
   obtain ⟨v3,e3,a3,b3⟩:=pick_eq (s:=s) (q:=q + 1 + 1) (n:=40) (k:=k) hu hs (by omega) (by omega) (by omega) (by omega)
   obtain ⟨v4,e4,a4,b4⟩:=pick_eq (s:=s) (q:=q + 1 + 1 + 1) (n:=2) (k:=k) hu hs (by omega) (by omega) (by omega) (by omega)
   rw [if_pos h1,e1]
   simp only [Option.bind_some,e2,e3,e4]
   rw [if_pos a4,if_pos (by simp;omega)]
   exact ⟨_,_,_,_,_,_,rfl,hy1,hy2,ht,by omega,by omega⟩
 rw [if_neg h1]
 by_cases h2:x3 = 2
 · obtain ⟨v3,e3,a3,b3⟩:=pick_eq (s:=s) (q:=q) (n:=40) (k:=k) hu hs (by omega) (by omega) (by omega) (by omega)
   obtain ⟨v4,e4,a4,b4⟩:=pick_eq (s:=s) (q:=q + 1) (n:=2) (k:=k) hu hs (by omega) (by omega) (by omega) (by omega)
   rw [if_pos h2,e3]
   simp only [Option.bind_some,e4]
   rw [if_pos a4,if_pos (by simp;omega)]
   exact ⟨_,_,_,_,_,_,rfl,ha,hb,ht,by omega,by omega⟩
 rw [if_neg h2]
 have fin:∀ x,Dr q 10 (spec_l13Req.j3 k x3 x3 x s q c a b n t):=fun x=>by
  obtain ⟨c,a,b,n,t,q',e,r1,r2,r3,r4,r5⟩:=r3 hu hs q0 (by omega) (k:=k) (by omega) ha hb ht x3 x3 x (c:=c) (n:=n)
  exact ⟨c,a,b,n,t,q',e,r1,r2,r3,r4,by omega⟩
 split
 · exact fin _
 · exact fin _
theorem r1 (hu:U8 s) (hs:s.length ≤ 2000) (q0:0 ≤ q) (q1:q ≤ 3000) (hk:7 < k) (ha:a.size ≤ 100) (hb:b.size ≤ 100) (ht:t.size ≤ 100) (x3:Int) (x:Bool):Dr q 12 (spec_l13Req.j1 k x3 x s q c a b n t):=by
 obtain ⟨k,rfl⟩:=succ_of hk
 rw [spec_l13Req.j1]
 cases x
 · rw [if_neg (by decide)]
   obtain ⟨c,a,b,n,t,q',e,r1,r2,r3,r4,r5⟩:=r2 hu hs q0 (by omega) (k:=k) (by omega) ha hb ht x3 (c:=c) (n:=n)
   exact ⟨c,a,b,n,t,q',e,r1,r2,r3,r4,by omega⟩
 · obtain ⟨y1,e1,hy1⟩:=of_small hu hs q0 (by omega) (show 0 < k by omega) ([(⟨#[]⟩:ByteArray),(⟨#[98,111,100,121]⟩:ByteArray),(⟨#[97,32,108,111,110,103,101,114,32,98,111,100,121,44,32,116,111,111]⟩:ByteArray),(⟨#[120]⟩:ByteArray)]:List ByteArray) (by decide) (by decide)
   rw [if_pos rfl,e1,Option.bind_some]
   obtain ⟨c,a,b,n,t,q',e,r1,r2,r3,r4,r5⟩:=r2 hu hs (q:=q + 1) (by omega) (by omega) (k:=k) (by omega) ha hb hy1 x3 (c:=c) (n:=n)
   exact ⟨c,a,b,n,t,q',e,r1,r2,r3,r4,by omega⟩
theorem r0 (hu:U8 s) (hs:s.length ≤ 2000) (q0:0 ≤ q) (q1:q ≤ 2000) (hk:8 < k) (ha:a.size ≤ 100) (hb:b.size ≤ 100) (ht:t.size ≤ 100) (x3:Int) (x y:Bool):Dr q 14 (spec_l13Req.j0 k x3 x y s q c a b n t):=by
 obtain ⟨k,rfl⟩:=succ_of hk
 rw [spec_l13Req.j0]
 cases x
 · rw [if_neg (by decide)]
   obtain ⟨c,a,b,n,t,q',e,r1,r2,r3,r4,r5⟩:=r1 hu hs q0 (by omega) (k:=k) (by omega) ha hb ht x3 y (c:=c) (n:=n)
   exact ⟨c,a,b,n,t,q',e,r1,r2,r3,r4,by omega⟩
 · obtain ⟨v3,e3,a3,b3⟩:=pick_eq (s:=s) (q:=q) (n:=30) (k:=k) hu hs (by omega) (by omega) (by omega) (by omega)
   rw [if_pos rfl,e3,Option.bind_some]
   obtain ⟨c,a,b,n,t,q',e,r1,r2,r3,r4,r5⟩:=r1 hu hs (q:=q + 1) (by omega) (by omega) (k:=k) (by omega) ha hb ht x3 y (c:=c) (n:=v3)
   exact ⟨c,a,b,n,t,q',e,r1,r2,r3,r4,by omega⟩
theorem req_eq (hu:U8 s) (hs:s.length ≤ 2000) (q0:0 ≤ q) (q1:q ≤ 1000) (hk:20 < k):Dr q 20 (spec_l13Req.f k s q):=by
 obtain ⟨k,rfl⟩:∃ m,k = m + 1 + 1 + 1:=⟨k - 3,by omega⟩
 obtain ⟨v1,e1,a1,b1⟩:=pick_eq (s:=s) (q:=q) (n:=12) (k:=k + 1 + 1 + 1) hu hs (by omega) (by omega) (by omega) (by omega)
 obtain ⟨y2,e2,hy2⟩:=of_small (q:=q + 1) hu hs (by omega) (by omega) (show 0 < k + 1 + 1 + 1 by omega) ([(⟨#[97,108,108]⟩:ByteArray),(⟨#[97]⟩:ByteArray),(⟨#[98]⟩:ByteArray),(⟨#[99]⟩:ByteArray)]:List ByteArray) (by decide) (by decide)
 obtain ⟨y3,e3,hy3⟩:=of_small (q:=q + 1 + 1) hu hs (by omega) (by omega) (show 0 < k + 1 + 1 + 1 by omega) ([(⟨#[97]⟩:ByteArray),(⟨#[98]⟩:ByteArray),(⟨#[97,98]⟩:ByteArray),(⟨#[99]⟩:ByteArray)]:List ByteArray) (by decide) (by decide)
 have hw:wrap64 (1 + v1) = 1 + v1:=wrap_id (by omega) (by omega)
 have e0:(⟨#[]⟩:ByteArray).size = 0:=rfl
 unfold spec_l13Req.f
 rw [e1,Option.bind_some]
 dsimp only
 rw [e2,Option.bind_some]
 dsimp only
 rw [hw,l9Has_eq (by omega) (by omega),Option.bind_some]
 split
 · rw [show spec_l13Names.f = some (([(⟨#[97]⟩:ByteArray),(⟨#[98]⟩:ByteArray),(⟨#[97,98]⟩:ByteArray),(⟨#[99]⟩:ByteArray)]:List ByteArray)) from rfl,Option.bind_some,e3,Option.bind_some]
   obtain ⟨c,a,b,n,t,q',e,r1,r2,r3,r4,r5⟩:=r0 hu hs (q:=q + 1 + 1 + 1) (by omega) (by omega) (k:=k + 1 + 1 + 1) (by omega) hy2 hy3 (t:=⟨#[]⟩) (by omega) (1 + v1) (hasF (1 + v1)).2.1 (hasF (1 + v1)).2.2 (c:=1 + v1) (n:=0)
   exact ⟨c,a,b,n,t,q',e,r1,r2,r3,r4,by omega⟩
 · obtain ⟨c,a,b,n,t,q',e,r1,r2,r3,r4,r5⟩:=r0 hu hs (q:=q + 1 + 1) (by omega) (by omega) (k:=k + 1 + 1 + 1) (by omega) hy2 (b:=⟨#[]⟩) (by omega) (t:=⟨#[]⟩) (by omega) (1 + v1) (hasF (1 + v1)).2.1 (hasF (1 + v1)).2.2 (c:=1 + v1) (n:=0)
   exact ⟨c,a,b,n,t,q',e,r1,r2,r3,r4,by omega⟩
theorem many_b (hk:10 < k):∃ t,spec_l1Many.f k (⟨#[98]⟩:ByteArray) 41 = some t ∧ t.size ≤ 100:=by
 obtain ⟨k',rfl⟩:∃ k',k = 10 + k':=⟨k - 10,by omega⟩
 refine ⟨⟨(List.replicate 41 98).toArray⟩,?_,by decide⟩
 clear hk
 induction k' with
 |zero=>kernel_rfl
 |succ k' ih=>exact spec_l1Many.mono _ _ _ _ ih
theorem anyReq_eq (hu:U8 s) (hs:s.length ≤ 2000) (q0:0 ≤ q) (q1:q ≤ 900) (hk:20 < k):Dr q 30 (spec_l13AnyReq.f k s q):=by
 obtain ⟨c,a,b,n,t,z,e,ha,hb,ht,z0,z1⟩:=req_eq hu hs q0 (by omega) hk
 obtain ⟨v,ev,va,vb⟩:=pick_eq (s:=s) (q:=z) (n:=20) (k:=k) hu hs z0 (by omega) (by omega) (by omega)
 unfold spec_l13AnyReq.f
 rw [e]
 simp only [Option.bind_some,ev]
 by_cases c0:v = 0
 · obtain ⟨w,ew,wa,wb⟩:=pick_eq (s:=s) (q:=z + 1) (n:=2) (k:=k) hu hs (by omega) (by omega) (by omega) (by omega)
   rw [if_pos c0,ew,Option.bind_some,if_pos wa,if_pos (by simp;omega)]
   exact ⟨_,_,_,_,_,_,rfl,ha,hb,ht,by omega,by omega⟩
 rw [if_neg c0]
 by_cases c1:v = 1
 · obtain ⟨y,ey,hy⟩:=of_small (q:=z + 1) hu hs (by omega) (by omega) (show 0 < k by omega) ([(⟨#[]⟩:ByteArray),(⟨#[65]⟩:ByteArray)]:List ByteArray) (by decide) (by decide)
   rw [if_pos c1,ey,Option.bind_some]
   exact ⟨_,_,_,_,_,_,rfl,hy,hb,ht,by omega,by omega⟩
 rw [if_neg c1]
 by_cases c2:v = 2
 · obtain ⟨y,ey,hy⟩:=of_small (q:=z + 1) hu hs (by omega) (by omega) (show 0 < k by omega) ([(⟨#[]⟩:ByteArray),(⟨#[65]⟩:ByteArray),(⟨#[120]⟩:ByteArray)]:List ByteArray) (by decide) (by decide)
   rw [if_pos c2,ey,Option.bind_some]
   exact ⟨_,_,_,_,_,_,rfl,ha,hy,ht,by omega,by omega⟩
 rw [if_neg c2]
 by_cases c3:v = 3
 · obtain ⟨w,ew,wa,wb⟩:=pick_eq (s:=s) (q:=z + 1) (n:=3) (k:=k) hu hs (by omega) (by omega) (by omega) (by omega)
   rw [if_pos c3,ew,Option.bind_some,if_pos wa,if_pos (by simp;omega)]
   exact ⟨_,_,_,_,_,_,rfl,ha,hb,ht,by omega,by omega⟩
 rw [if_neg c3]
 by_cases c4:v = 4
 · obtain ⟨m,em,hm⟩:=many_b (k:=k) (by omega)
   obtain ⟨y,ey,hy⟩:=of_small (q:=z + 1) hu hs (by omega) (by omega) (show 0 < k by omega) ([(⟨#[10]⟩:ByteArray),(⟨#[120]⟩:ByteArray),m]:List ByteArray) (by simp) (fun y hy=>by
    simp only [List.mem_cons,List.not_mem_nil,or_false] at hy
    rcases hy with rfl|rfl|rfl
    · decide
    · decide
    · exact hm)
   rw [if_pos c4,em,Option.bind_some,ey,Option.bind_some]
   exact ⟨_,_,_,_,_,_,rfl,ha,hb,hy,by omega,by omega⟩
 rw [if_neg c4]
 exact ⟨_,_,_,_,_,_,rfl,ha,hb,ht,by omega,by omega⟩
theorem drawW_eq {l:List Int} (h:U8 l) (hk:20 < k):∃ c a b n t,spec_DrawReqWrite.f k l = some (c,a,b,n,t) ∧ a.size ≤ 100 ∧ b.size ≤ 100 ∧ t.size ≤ 100:=by
 obtain ⟨s,hs,hu,hl⟩:=open_eq h
 obtain ⟨c,a,b,n,t,z,e,ha,hb,ht,z0,z1⟩:=anyReq_eq hu hl (q:=0) (by omega) (by omega) hk
 unfold spec_DrawReqWrite.f
 rw [hs]
 simp only [Option.bind_some,e]
 exact ⟨c,a,b,n,t,rfl,ha,hb,ht⟩
theorem bend_eq (hs:U8 s) (hl:s.length ≤ 2000) (h0:0 ≤ q) (h1:q ≤ 1000) (hk:10 < k) (t:ByteArray) (ht:t.size ≤ 1000000):∃ u q',spec_l12Bend.f k s q t ([(⟨#[32]⟩:ByteArray),(⟨#[48]⟩:ByteArray),(⟨#[120]⟩:ByteArray),(⟨#[45]⟩:ByteArray)]:List ByteArray) 5 = some (u,q') ∧ u.size ≤ t.size + 100:=by
 unfold spec_l12Bend.f
 obtain ⟨v,hv,v0,v1⟩:=pick_eq (s:=s) (q:=q) (n:=5) (k:=k) hs hl h0 (by omega) (by omega) (by omega)
 rw [hv,Option.bind_some]
 dsimp only
 by_cases hv0:v > 0
 · rw [if_pos hv0];exact ⟨_,_,rfl,by omega⟩
 rw [if_neg hv0,wrap_id (by omega) (by omega)]
 obtain ⟨i,hi,i0,i1⟩:=pick_eq (s:=s) (q:=q + 1) (n:=(t.size:Int) + 1) (k:=k) hs hl (by omega) (by omega) (by omega) (by omega)
 rw [hi,Option.bind_some]
 dsimp only
 rw [if_pos i0,if_pos (by omega)]
 obtain ⟨x,hx1,hxs⟩:=of_small (q:=q + 1 + 1) hs hl (by omega) (by omega) (show 0 < k by omega) ([(⟨#[32]⟩:ByteArray),(⟨#[48]⟩:ByteArray),(⟨#[120]⟩:ByteArray),(⟨#[45]⟩:ByteArray)]:List ByteArray) (by decide) (by decide)
 have e1:(t.extract 0 i.toNat).size = i.toNat:=by rw [ex_size _ _ _ (by omega)];omega
 have e2:(t.extract i.toNat t.size).size = t.size - i.toNat:=ex_size _ _ _ (Nat.le_refl _)
 rw [hx1,Option.bind_some]
 dsimp only
 rw [e1,e2,if_pos (by omega),if_pos (by omega)]
 exact ⟨_,_,rfl,by simp only [ByteArray.size_append,e1,e2];omega⟩
theorem reqT_small (h:reqB c a b n t = true) (ha:a.size ≤ 100) (hb:b.size ≤ 100) (ht:t.size ≤ 100):(reqT c a b n t).size ≤ 1000:=by
 obtain ⟨w,sp,nm,nu,tx,hm,hl,hw,hx⟩:=forms_like h
 have key:∀ p ∈ forms,p.2.1.size ≤ 10:=by decide
 have h1:=key _ hm
 have hi:=itoaB_size (n:=n) (by have:=hl.2.2.2.2.2.2;omega) (by have:=hl.2.2.2.2.2.2;omega)
 dsimp only at h1
 rw [hx]
 have h2:SP.size = 1:=rfl
 cases sp <;> cases nm <;> cases nu <;> cases tx <;> simp only [opt,joinR,if_true,Bool.false_eq_true,if_false,ByteArray.size_append] <;> omega
theorem drawR_eq {l:List Int} (h:U8 l) (hk:1048700 < k) (hk9:k ≤ 4000000000):∃ u,spec_DrawReqRead.f k l = some u ∧ u.size ≤ 1048576:=by
 obtain ⟨s,hs,hu,hl⟩:=open_eq h
 obtain ⟨v,hv,v0,v1⟩:=pick_eq (s:=s) (q:=0) (n:=8) (k:=k) hu hl (by omega) (by omega) (by omega) (by omega)
 unfold spec_DrawReqRead.f
 rw [hs,Option.bind_some]
 dsimp only
 rw [hv,Option.bind_some]
 dsimp only
 by_cases hv0:v = 0
 · rw [if_pos hv0]
   obtain ⟨x,ex,hx⟩:=of_small (q:=0 + 1) hu hl (by omega) (by omega) (show 0 < k by omega) ([(⟨#[]⟩:ByteArray),(⟨#[115,116,101,112]⟩:ByteArray),(⟨#[115,116,101,112,32]⟩:ByteArray),(⟨#[112,117,116,32,97]⟩:ByteArray),(⟨#[112,117,116,32,97,32,120]⟩:ByteArray),(⟨#[112,117,116,32,97,32,120,32]⟩:ByteArray),(⟨#[103,101,116,32,97,32,120,32,121]⟩:ByteArray),(⟨#[108,105,109,105,116,32,97,32,45,49]⟩:ByteArray),(⟨#[108,105,109,105,116,32,97,32,45,50]⟩:ByteArray),(⟨#[115,101,116,32,97,32,120,32,48,49,32,98]⟩:ByteArray),(⟨#[119,97,116,99,104,32,97,32,45,49]⟩:ByteArray),(⟨#[108,105,115,116]⟩:ByteArray),(⟨#[108,105,115,116,32,97,32,98]⟩:ByteArray),(⟨#[120,32,121]⟩:ByteArray)]:List ByteArray) (by decide) (by decide)
   rw [ex]
   exact ⟨x,rfl,by omega⟩
 · rw [if_neg hv0]
   obtain ⟨c,a,b,n,t,z,e,ha,hb,ht,z0,z1⟩:=req_eq hu hl (q:=0 + 1) (by omega) (by omega) (show 20 < k by omega)
   rw [e]
   simp only [Option.bind_some]
   rw [sWrite_eq (by omega) (by omega) (by omega) (by omega) hk9,Option.bind_some]
   have hsz:(if reqB c a b n t = true then reqT c a b n t else ⟨#[]⟩:ByteArray).size ≤ 1000:=by
    split
    · rename_i h;exact reqT_small h ha hb ht
    · exact Nat.zero_le _
   obtain ⟨u,q',eu,su⟩:=bend_eq hu hl (q:=z) z0 (by omega) (show 10 < k by omega) _ (show (if reqB c a b n t = true then reqT c a b n t else ⟨#[]⟩:ByteArray).size ≤ 1000000 by omega)
   rw [eu]
   exact ⟨u,rfl,by omega⟩
theorem iWrite_eq (ha:a.size ≤ 1048576) (hb:b.size ≤ 1048576) (ht:t.size ≤ 1048576) (hk:1048590 < k):impl_ReqWrite.f k c a b n t = some (if reqB c a b n t = true then reqT c a b n t else ⟨#[]⟩):=by
 obtain ⟨k,rfl⟩:∃ m,k = m + 1 + 1 + 1 + 1:=⟨k - 4,by omega⟩
 unfold impl_ReqWrite.f
 rw [isReq_eq (by omega) (by omega),Option.bind_some]
 by_cases hr:reqB c a b n t = true
 · obtain ⟨hc,h0,h9⟩:=reqB_in hr
   rw [if_pos hr,if_pos hr,iText_eq (k:=k + 1 + 1) hc (by omega) (by omega) (by omega) (by omega) (by omega)];rfl
 · rw [if_neg hr,if_neg hr]
theorem iOk_eq (ht:t.size ≤ 1048576) (hk:1048590 < k):impl_ReqOk.f k c a b n t = some (reqB c a b n t):=by
 obtain ⟨k,rfl⟩:∃ m,k = m + 1 + 1 + 1 + 1:=⟨k - 4,by omega⟩
 unfold impl_ReqOk.f
 rw [isReq_eq (by omega) (by omega)];rfl
theorem sOk_eq (ha:a.size ≤ 1048576) (hb:b.size ≤ 1048576) (ht:t.size ≤ 1048576) (hk:1048590 < k) (hk9:k ≤ 4000000000):spec_ReqOk.f k c a b n t = some (reqB c a b n t):=by
 obtain ⟨k,rfl⟩:∃ m,k = m + 1 + 1 + 1:=⟨k - 3,by omega⟩
 exact sReq_eq (by omega) (by omega) (by omega) (by omega) (by omega)
theorem read_nil:SR (⟨#[]⟩:ByteArray) = Z6:=by
 rcases SR_good (x0:=⟨#[]⟩) with h|⟨c,a,b,n,t,_,h2,h3⟩
 · exact h
 · exact absurd h3 (reqT_ne h2)
theorem second {l:List Int} (h:U8 l) (hk:1048710 < k) (hk9:k ≤ 4000000000):laws_FnReqText.j1 k l false = some true:=by
 obtain ⟨k,rfl⟩:=succ_of hk
 obtain ⟨c,a,b,n,t,e,ha,hb,ht⟩:=drawW_eq h (show 20 < k by omega)
 have hsz:(if reqB c a b n t = true then reqT c a b n t else ⟨#[]⟩:ByteArray).size ≤ 1048576:=by
  split
  · rename_i h;have:=reqT_small h ha hb ht;omega
  · exact Nat.zero_le _
 rw [laws_FnReqText.j1,if_neg (by decide),e]
 simp only [Option.bind_some]
 rw [iWrite_eq (by omega) (by omega) (by omega) (by omega),Option.bind_some,iRead_eq hsz (by omega),Option.bind_some,sWrite_eq (by omega) (by omega) (by omega) (by omega) (by omega),Option.bind_some,if_pos rfl,iOk_eq (by omega) (by omega),Option.bind_some,sOk_eq (by omega) (by omega) (by omega) (by omega) (by omega),Option.bind_some,if_pos (by simp),Option.bind_some,reads_same]
 by_cases hr:reqB c a b n t = true
 · rw [if_pos hr,SR_back hr,hr]
   simp
 · rw [if_neg hr,read_nil,Bool.eq_false_iff.2 hr]
   rfl
end
theorem FnReqText:laws_FnReqText.Pure:=by
 intro l m hl hm
 obtain ⟨K,hK⟩:∃ K,K = 1048800:=⟨_,rfl⟩
 refine ⟨K + 1,?_⟩
 have main:∀ x:Bool,laws_FnReqText.j0 (K + 1) l m x = some true:=by
  intro x
  rw [laws_FnReqText.j0]
  cases x
  · rw [if_neg (by decide)]
    obtain ⟨u,eu,su⟩:=drawR_eq (l:=l) (U8_of hl.2) (k:=K) (by omega) (by omega)
    rw [eu,Option.bind_some,iRead_eq su (by omega),Option.bind_some,sRead_eq su (by omega) (by omega),Option.bind_some,reads_same]
    have hg:=SR_good (x0:=u)
    have hsec:=second (l:=m) (U8_of hm.2) (k:=K) (by omega) (by omega)
    rw [if_neg (by simp),if_neg (by simp)]
    rcases hg with h|⟨c,a,b,n,t,h1,h2,h3⟩
    · rw [h]
      exact hsec
    · rw [h1]
      dsimp only
      have hsm:a.size ≤ 1048576 ∧ b.size ≤ 1048576 ∧ t.size ≤ 1048576:=by
       obtain ⟨w,sp,nm,nu,tx,hmm,hlk,hw,hx⟩:=forms_like h2
       have hsz:(joinR w (opt sp a (opt nm b (opt nu (itoaB n) (opt tx t []))))).size ≤ 1048576:=by rw [← hx,h3];exact su
       obtain ⟨l1,l2,l3,l4,l5,l6,l7,l8⟩:=hlk
       have e0:(⟨#[]⟩:ByteArray).size = 0:=rfl
       have pa:a.size ≤ 1048576:=by
        cases sp
        · rw [l1 rfl,e0];omega
        · cases nm <;> cases nu <;> cases tx <;> simp only [opt,joinR,if_true,Bool.false_eq_true,if_false,ByteArray.size_append] at hsz <;> omega
       have pb:b.size ≤ 1048576:=by
        cases nm
        · rw [l3 rfl,e0];omega
        · cases sp <;> cases nu <;> cases tx <;> simp only [opt,joinR,if_true,Bool.false_eq_true,if_false,ByteArray.size_append] at hsz <;> omega
       have pt:t.size ≤ 1048576:=by
        cases tx
        · rw [l6 rfl,e0];omega
        · cases sp <;> cases nm <;> cases nu <;> simp only [opt,joinR,if_true,Bool.false_eq_true,if_false,ByteArray.size_append] at hsz <;> omega
       exact ⟨pa,pb,pt⟩
      rw [if_pos rfl,iWrite_eq hsm.1 hsm.2.1 hsm.2.2 (by omega),Option.bind_some,if_pos h2,h3]
      simp only [bne_self_eq_false]
      exact hsec
  · rfl
 unfold laws_FnReqText.f
 split
 · exact main _
 · exact main _
end Go.Proofs.YtbhnjglfjhfljaaDoor.Pure
