/- Functions of the law FnReqText as_ plain Lean functions, and that the machine's calls do what they say. -/
import Derived.Test.YtbhnjglfjhfljaaDoorZFnReqText0
import Derived.Test.YtbhnjglfjhfljaaDoorZFnReqText2
import Derived.Lib.AppendIntMem
import Derived.Lib.SmallJoins
namespace Go.Proofs.YtbhnjglfjhfljaaDoor.P
open Go.RowKit Go.Proofs.YtbhnjglfjhfljaaDoorW.PrintWords Go.Proofs.YtbhnjglfjhfljaaDoorW.PrintLast Go.Proofs.YtbhnjglfjhfljaaDoorW.PrintMore
attribute [local go_sem] max2_int min2_int max_two min_two max_three min_three max_four min_four
set_option linter.unusedVariables false
set_option linter.unusedSimpArgs false
mutual
def impl_isReq.j0:Nat → Bool → Int → ByteArray → ByteArray → Int → ByteArray → ByteArray → Bool → Bool → Bool → Bool → Option (Bool)
 |0,_,_,_,_,_,_,_,_,_,_,_=>none
 |k + 1,x32,x243000,x243001,x243002,x243003,x243004,x250000,x250001,x250002,x250003,x250004=>if x32 = true then (some false) else (if x250001 = true then (if x250002 = true then (if x250003 = true then (if x250004 = true then (impl_isReq.j1 k false x243000 x243001 x243002 x243003 x243004) else (impl_isReq.j1 k (x243004.toList != ([]:List UInt8)) x243000 x243001 x243002 x243003 x243004)) else (if x243003 = 0 then (if x250004 = true then (impl_isReq.j1 k false x243000 x243001 x243002 x243003 x243004) else (impl_isReq.j1 k (x243004.toList != ([]:List UInt8)) x243000 x243001 x243002 x243003 x243004)) else (impl_isReq.j1 k true x243000 x243001 x243002 x243003 x243004))) else (if x243002.toList = ([]:List UInt8) then (if x250003 = true then (if x250004 = true then (impl_isReq.j1 k false x243000 x243001 x243002 x243003 x243004) else (impl_isReq.j1 k (x243004.toList != ([]:List UInt8)) x243000 x243001 x243002 x243003 x243004)) else (if x243003 = 0 then (if x250004 = true then (impl_isReq.j1 k false x243000 x243001 x243002 x243003 x243004) else (impl_isReq.j1 k (x243004.toList != ([]:List UInt8)) x243000 x243001 x243002 x243003 x243004)) else (impl_isReq.j1 k true x243000 x243001 x243002 x243003 x243004))) else (impl_isReq.j1 k true x243000 x243001 x243002 x243003 x243004))) else (if x243001.toList = ([]:List UInt8) then (if x250002 = true then (if x250003 = true then (if x250004 = true then (impl_isReq.j1 k false x243000 x243001 x243002 x243003 x243004) else (impl_isReq.j1 k (x243004.toList != ([]:List UInt8)) x243000 x243001 x243002 x243003 x243004)) else (if x243003 = 0 then (if x250004 = true then (impl_isReq.j1 k false x243000 x243001 x243002 x243003 x243004) else (impl_isReq.j1 k (x243004.toList != ([]:List UInt8)) x243000 x243001 x243002 x243003 x243004)) else (impl_isReq.j1 k true x243000 x243001 x243002 x243003 x243004))) else (if x243002.toList = ([]:List UInt8) then (if x250003 = true then (if x250004 = true then (impl_isReq.j1 k false x243000 x243001 x243002 x243003 x243004) else (impl_isReq.j1 k (x243004.toList != ([]:List UInt8)) x243000 x243001 x243002 x243003 x243004)) else (if x243003 = 0 then (if x250004 = true then (impl_isReq.j1 k false x243000 x243001 x243002 x243003 x243004) else (impl_isReq.j1 k (x243004.toList != ([]:List UInt8)) x243000 x243001 x243002 x243003 x243004)) else (impl_isReq.j1 k true x243000 x243001 x243002 x243003 x243004))) else (impl_isReq.j1 k true x243000 x243001 x243002 x243003 x243004))) else (impl_isReq.j1 k true x243000 x243001 x243002 x243003 x243004)))
def impl_isReq.j1:Nat → Bool → Int → ByteArray → ByteArray → Int → ByteArray → Option (Bool)
 |0,_,_,_,_,_,_=>none
 |k + 1,x70,x243000,x243001,x243002,x243003,x243004=>if x70 = true then (some false) else (if x243003 < (-1) then (impl_isReq.j2 k true x243000 x243001 x243002 x243003 x243004) else (if x243003 > 99999 then (impl_isReq.j2 k true x243000 x243001 x243002 x243003 x243004) else (if x243003 < 0 then (if x243000 = 5 then (impl_isReq.j2 k true x243000 x243001 x243002 x243003 x243004) else (impl_isReq.j2 k (x243000 == 11) x243000 x243001 x243002 x243003 x243004)) else (impl_isReq.j2 k false x243000 x243001 x243002 x243003 x243004))))
def impl_isReq.j2:Nat → Bool → Int → ByteArray → ByteArray → Int → ByteArray → Option (Bool)
 |0,_,_,_,_,_,_=>none
 |k + 1,x93,x243000,x243001,x243002,x243003,x243004=>if x93 = true then (some false) else (if x243000 = 6 then (impl_isReq.j3 k true x243000 x243001 x243002 x243003 x243004) else (impl_isReq.j3 k (x243000 == 7) x243000 x243001 x243002 x243003 x243004))
def impl_isReq.j3:Nat → Bool → Int → ByteArray → ByteArray → Int → ByteArray → Option (Bool)
 |0,_,_,_,_,_,_=>none
 |k + 1,x101,x243000,x243001,x243002,x243003,x243004=>if x101 = true then ((impl_isName.f x243004).bind fun t253=>(some t253)) else ((impl_isBody.f k x243004).bind fun t254=>(some t254))
end
def impl_isReq.f (k:Nat) (a0_0:Int) (a0_1:ByteArray) (a0_2:ByteArray) (a0_3:Int) (a0_4:ByteArray):Option (Bool):=(impl_formOf.f a0_0).bind fun bt243=>(if bt243.2.2.2.2.2 = true then (if bt243.2.1 = true then ((impl_isName.f a0_1).bind fun t250=>(if t250 = true then (if bt243.2.2.1 = true then ((impl_isName.f a0_2).bind fun t251=>(impl_isReq.j0 k (!t251) a0_0 a0_1 a0_2 a0_3 a0_4 bt243.1 bt243.2.1 bt243.2.2.1 bt243.2.2.2.1 bt243.2.2.2.2.1)) else (impl_isReq.j0 k false a0_0 a0_1 a0_2 a0_3 a0_4 bt243.1 bt243.2.1 bt243.2.2.1 bt243.2.2.2.1 bt243.2.2.2.2.1)) else (impl_isReq.j0 k true a0_0 a0_1 a0_2 a0_3 a0_4 bt243.1 bt243.2.1 bt243.2.2.1 bt243.2.2.2.1 bt243.2.2.2.2.1))) else (if bt243.2.2.1 = true then ((impl_isName.f a0_2).bind fun t252=>(impl_isReq.j0 k (!t252) a0_0 a0_1 a0_2 a0_3 a0_4 bt243.1 bt243.2.1 bt243.2.2.1 bt243.2.2.2.1 bt243.2.2.2.2.1)) else (impl_isReq.j0 k false a0_0 a0_1 a0_2 a0_3 a0_4 bt243.1 bt243.2.1 bt243.2.2.1 bt243.2.2.2.1 bt243.2.2.2.2.1))) else (impl_isReq.j0 k true a0_0 a0_1 a0_2 a0_3 a0_4 bt243.1 bt243.2.1 bt243.2.2.1 bt243.2.2.2.1 bt243.2.2.2.2.1))
set_option maxHeartbeats 40000000 in
set_option maxRecDepth 100000 in
theorem impl_isReq.calls (k:Nat) (a0_0:Int) (a0_1:ByteArray) (a0_2:ByteArray) (a0_3:Int) (a0_4:ByteArray) (r:Bool) (w:World) (h:impl_isReq.f k a0_0 a0_1 a0_2 a0_3 a0_4 = some r) :
 Calls Tryd.prog 25 #[.agg #[.int .i64 a0_0,.string a0_1,.string a0_2,.int .i64 a0_3,.string a0_4]] w fun e w'=>e = .returned (.bool r) ∧ Below w.heap.size w w':=by
 have hu25:=Tryd.underlying25;have hu53:=Tryd.underlying53;have HB:=As0.mk (Below.refl w.heap.size w);have H:((impl_formOf.f a0_0).bind fun bt243=>(if bt243.2.2.2.2.2 = true then (if bt243.2.1 = true then ((impl_isName.f a0_1).bind fun t250=>(if t250 = true then (if bt243.2.2.1 = true then ((impl_isName.f a0_2).bind fun t251=>(impl_isReq.j0 k (!t251) a0_0 a0_1 a0_2 a0_3 a0_4 bt243.1 bt243.2.1 bt243.2.2.1 bt243.2.2.2.1 bt243.2.2.2.2.1)) else (impl_isReq.j0 k false a0_0 a0_1 a0_2 a0_3 a0_4 bt243.1 bt243.2.1 bt243.2.2.1 bt243.2.2.2.1 bt243.2.2.2.2.1)) else (impl_isReq.j0 k true a0_0 a0_1 a0_2 a0_3 a0_4 bt243.1 bt243.2.1 bt243.2.2.1 bt243.2.2.2.1 bt243.2.2.2.2.1))) else (if bt243.2.2.1 = true then ((impl_isName.f a0_2).bind fun t252=>(impl_isReq.j0 k (!t252) a0_0 a0_1 a0_2 a0_3 a0_4 bt243.1 bt243.2.1 bt243.2.2.1 bt243.2.2.2.1 bt243.2.2.2.2.1)) else (impl_isReq.j0 k false a0_0 a0_1 a0_2 a0_3 a0_4 bt243.1 bt243.2.1 bt243.2.2.1 bt243.2.2.2.1 bt243.2.2.2.2.1))) else (impl_isReq.j0 k true a0_0 a0_1 a0_2 a0_3 a0_4 bt243.1 bt243.2.1 bt243.2.2.1 bt243.2.2.2.1 bt243.2.2.2.2.1))) = some r:=h;clear h;replace H:=Option.bind_eq_some_iff.mp H;obtain ⟨⟨t243,t244,t245,t246,t247,t248⟩,A20,H⟩:=H;(try dsimp only at H);have A2:=As0.mk A20;clear A20;have HC3:=As0.mk H;clear H
 go_enter Tryd.func25,Tryd.ntmps25
 show _;go_upto_region 2 with (first|((with_reducible refine gate_dst (N:=1) rfl ?_);refine bE 1 #[.int .i64 a0_0,.string a0_1,.string a0_2,.int .i64 a0_3,.string a0_4] 25 ?_;intro gb242 hg w4 hbox hb;have n0_:=As0.mk (b3 HB.out hb);have n1_:=As0.mk (hbox);have n2_:=As0.mk ((by rw [hg];exact (bsz (by repeat (first|(with_reducible first|exact HB.out|apply bal|apply pbN|apply bd1)|exact HB.out))):w.heap.size ≤ gb242));have n3_:=As0.mk ((by rw [hg];exact (bsz (by repeat (first|(with_reducible first|exact HB.out|apply bal|apply pbN|apply bd1)|exact HB.out))):w.heap.size ≤ gb242));clear HB;have HB:=n0_;have BK242:=n1_;have GW242:=n2_;have GE242:=n3_;clear n0_ n1_ n2_ n3_;clear hb hbox hg;have hcz5_0:w4.cell? ⟨gb242,0,none⟩ = some (.int .i64 a0_0):=(bkC BK242.out 0).trans rfl;have hcz5_1:w4.cell? ⟨gb242,1,none⟩ = some (.string a0_1):=(bkC BK242.out 1).trans rfl;have hcz5_2:w4.cell? ⟨gb242,2,none⟩ = some (.string a0_2):=(bkC BK242.out 2).trans rfl;have hcz5_3:w4.cell? ⟨gb242,3,none⟩ = some (.int .i64 a0_3):=(bkC BK242.out 3).trans rfl;have hcz5_4:w4.cell? ⟨gb242,4,none⟩ = some (.string a0_4):=(bkC BK242.out 4).trans rfl;have hfz5_0:=bkF BK242.out 0;have hfz5_1:=bkF BK242.out 1;have hfz5_2:=bkF BK242.out 2;have hfz5_3:=bkF BK242.out 3;have hfz5_4:=bkF BK242.out 4)|(refine gL (some 8) Tryd.func33 #[.int .i64 a0_0] ?_;(with_reducible refine (impl_formOf.calls a0_0 t243 t244 t245 t246 t247 t248 _ A2.out).mono ?_);rintro e w6 ⟨rfl,hb⟩;refine ⟨_,rfl,?_⟩;have n0_:=As0.mk (bb hb BK242.out);have n1_:=As0.mk (bsp (by repeat (first|(with_reducible first|exact HB.out|apply bal|apply pbN|apply bd1|refine bst ?_ GE242.out)|exact HB.out)) hb);clear BK242;clear HB;have BK242:=n0_;have HB:=n1_;clear n0_ n1_;(try clear hb);(try clear hb2);(try clear hk);(try clear hi))|((with_reducible refine gate_dst (N:=3) rfl ?_);refine bE 3 #[.string ⟨#[]⟩,.bool false,.bool false,.bool false,.bool false] 53 ?_;intro gb249 hg w7 hbox hb;have n0_:=As0.mk (bb hb BK242.out);have n1_:=As0.mk (bsp (by repeat (first|(with_reducible first|exact HB.out|apply bal|apply pbN|apply bd1|refine bst ?_ GE242.out)|exact HB.out)) hb);have n2_:=As0.mk (hbox);have n3_:=As0.mk ((by rw [hg];exact (bsz (by repeat (first|(with_reducible first|exact HB.out|apply bal|apply pbN|apply bd1|refine bst ?_ GE242.out)|exact HB.out))):w.heap.size ≤ gb249));have n4_:=As0.mk ((by rw [hg];exact (bsz (by repeat (first|(with_reducible first|exact HB.out|apply bal|apply pbN|apply bd1|refine bst ?_ GE242.out)|exact HB.out))):w.heap.size ≤ gb249));have n5_:=As0.mk ((by rw [hg];exact Nat.ne_of_lt (blk_lt (g:=gb242) (o:=.cells #[.int .i64 a0_0,.string a0_1,.string a0_2,.int .i64 a0_3,.string a0_4] 25 (0,0)) (by (with_reducible repeat (first|refine bkN ?_ _|refine bkD ?_|refine bkA ?_ _));exact BK242.out)):gb242 ≠ gb249));have n6_:=As0.mk ((by rw [hg];exact Nat.ne_of_gt (blk_lt (g:=gb242) (o:=.cells #[.int .i64 a0_0,.string a0_1,.string a0_2,.int .i64 a0_3,.string a0_4] 25 (0,0)) (by (with_reducible repeat (first|refine bkN ?_ _|refine bkD ?_|refine bkA ?_ _));exact BK242.out)):gb249 ≠ gb242));clear BK242;clear HB;have BK242:=n0_;have HB:=n1_;have BK249:=n2_;have GW249:=n3_;have GE249:=n4_;have NB242_249:=n5_;have NB249_242:=n6_;clear n0_ n1_ n2_ n3_ n4_ n5_ n6_;clear hb hbox hg;have hnb8:=NB249_242.out;have hnc8:=NB242_249.out;have hcz9_0:w7.cell? ⟨gb249,0,none⟩ = some (.string ⟨#[]⟩):=(bkC BK249.out 0).trans rfl;have hcz9_1:w7.cell? ⟨gb249,1,none⟩ = some (.bool false):=(bkC BK249.out 1).trans rfl;have hcz9_2:w7.cell? ⟨gb249,2,none⟩ = some (.bool false):=(bkC BK249.out 2).trans rfl;have hcz9_3:w7.cell? ⟨gb249,3,none⟩ = some (.bool false):=(bkC BK249.out 3).trans rfl;have hcz9_4:w7.cell? ⟨gb249,4,none⟩ = some (.bool false):=(bkC BK249.out 4).trans rfl;have hfz9_0:=bkF BK249.out 0;have hfz9_1:=bkF BK249.out 1;have hfz9_2:=bkF BK249.out 2;have hfz9_3:=bkF BK249.out 3;have hfz9_4:=bkF BK249.out 4))
 (try simp only [Act.put,sA,sZ,sS])
 show _;go_cut [32] (fun v32 wc=>∃ (kq:Nat) (x32_2:Bool),v32 = .bool x32_2 ∧ As0 (impl_isReq.j0 kq x32_2 a0_0 a0_1 a0_2 a0_3 a0_4 t243 t244 t245 t246 t247 = some r) ∧ As0 (kq ≤ k) ∧ As0 (wc.heap[gb242]? = some (.cells #[.int .i64 a0_0,.string a0_1,.string a0_2,.int .i64 a0_3,.string a0_4] 25 (0,0))) ∧ As0 (wc.heap[gb249]? = some (.cells #[.string t243,.bool t244,.bool t245,.bool t246,.bool t247] 53 (0,0))) ∧ As0 (Below w.heap.size w wc))
 case first=>
  have H:=HC3.out;clear HC3;by_cases c10:t248 = true
  · subst c10
    have H1:(if t244 = true then ((impl_isName.f a0_1).bind fun t250=>(if t250 = true then (if t245 = true then ((impl_isName.f a0_2).bind fun t251=>(impl_isReq.j0 k (!t251) a0_0 a0_1 a0_2 a0_3 a0_4 t243 t244 t245 t246 t247)) else (impl_isReq.j0 k false a0_0 a0_1 a0_2 a0_3 a0_4 t243 t244 t245 t246 t247)) else (impl_isReq.j0 k true a0_0 a0_1 a0_2 a0_3 a0_4 t243 t244 t245 t246 t247))) else (if t245 = true then ((impl_isName.f a0_2).bind fun t252=>(impl_isReq.j0 k (!t252) a0_0 a0_1 a0_2 a0_3 a0_4 t243 t244 t245 t246 t247)) else (impl_isReq.j0 k false a0_0 a0_1 a0_2 a0_3 a0_4 t243 t244 t245 t246 t247))) = some r:=by rw [if_pos rfl] at H;exact H
    clear H;have H:=H1;clear H1;by_cases c11:t244 = true
    · subst c11
      have H1:((impl_isName.f a0_1).bind fun t250=>(if t250 = true then (if t245 = true then ((impl_isName.f a0_2).bind fun t251=>(impl_isReq.j0 k (!t251) a0_0 a0_1 a0_2 a0_3 a0_4 t243 true t245 t246 t247)) else (impl_isReq.j0 k false a0_0 a0_1 a0_2 a0_3 a0_4 t243 true t245 t246 t247)) else (impl_isReq.j0 k true a0_0 a0_1 a0_2 a0_3 a0_4 t243 true t245 t246 t247))) = some r:=by rw [if_pos rfl] at H;exact H
      clear H;have H:=H1;clear H1;replace H:=Option.bind_eq_some_iff.mp H;obtain ⟨t250,A120,H⟩:=H;(try dsimp only at H);have A12:=As0.mk A120;clear A120;by_cases c13:t250 = true
      · subst c13
        have H1:(if t245 = true then ((impl_isName.f a0_2).bind fun t251=>(impl_isReq.j0 k (!t251) a0_0 a0_1 a0_2 a0_3 a0_4 t243 true t245 t246 t247)) else (impl_isReq.j0 k false a0_0 a0_1 a0_2 a0_3 a0_4 t243 true t245 t246 t247)) = some r:=by rw [if_pos rfl] at H;exact H
        clear H;have H:=H1;clear H1;by_cases c14:t245 = true
        · subst c14
          have H1:((impl_isName.f a0_2).bind fun t251=>(impl_isReq.j0 k (!t251) a0_0 a0_1 a0_2 a0_3 a0_4 t243 true true t246 t247)) = some r:=by rw [if_pos rfl] at H;exact H
          clear H;have H:=H1;clear H1;replace H:=Option.bind_eq_some_iff.mp H;obtain ⟨t251,A150,H⟩:=H;(try dsimp only at H);have A15:=As0.mk A150;clear A150;have H':=As0.mk H;clear H;have hnb16:=NB249_242.out;have hnc16:=NB242_249.out;obtain ⟨hcz17_0,hcz17_1,hcz17_2,hcz17_3,hcz17_4⟩:=qc5 BK249.out;obtain ⟨hfz17_0,hfz17_1,hfz17_2,hfz17_3,hfz17_4⟩:=qz5 BK249.out;obtain ⟨hcz18_0,hcz18_1,hcz18_2,hcz18_3,hcz18_4⟩:=qc5 BK242.out;obtain ⟨hfz18_0,hfz18_1,hfz18_2,hfz18_3,hfz18_4⟩:=qz5 BK242.out
          go_wp2_with (first|(go_at_call 38;(with_reducible refine (impl_isName.calls a0_1 true _ A12.out).mono ?_);rintro e w19 ⟨rfl,hb⟩;replace BK242:=As0.mk (blk_below (g:=gb242) (o:=.cells #[.int .i64 a0_0,.string a0_1,.string a0_2,.int .i64 a0_3,.string a0_4] 25 (0,0)) (by (with_reducible repeat (first|refine bkN ?_ _|refine bkD ?_|refine bkA ?_ _));refine blk_far ?_ NB242_249.out _;(with_reducible repeat (first|refine bkN ?_ _|refine bkD ?_|refine bkA ?_ _));refine blk_far ?_ NB242_249.out _;(with_reducible repeat (first|refine bkN ?_ _|refine bkD ?_|refine bkA ?_ _));refine blk_far ?_ NB242_249.out _;(with_reducible repeat (first|refine bkN ?_ _|refine bkD ?_|refine bkA ?_ _));refine blk_far ?_ NB242_249.out _;(with_reducible repeat (first|refine bkN ?_ _|refine bkD ?_|refine bkA ?_ _));refine blk_far ?_ NB242_249.out _;(with_reducible repeat (first|refine bkN ?_ _|refine bkD ?_|refine bkA ?_ _));exact BK242.out) hb);replace BK249:=As0.mk (blk_below (g:=gb249) (o:=.cells #[.string t243,.bool true,.bool true,.bool t246,.bool t247] 53 (0,0)) (by (with_reducible repeat (first|refine bkN ?_ _|refine bkD ?_|refine bkA ?_ _));refine blk_put (cs:=#[.string t243,.bool true,.bool true,.bool t246,.bool false]) ?_ 4 _ rfl;(with_reducible repeat (first|refine bkN ?_ _|refine bkD ?_|refine bkA ?_ _));refine blk_put (cs:=#[.string t243,.bool true,.bool true,.bool false,.bool false]) ?_ 3 _ rfl;(with_reducible repeat (first|refine bkN ?_ _|refine bkD ?_|refine bkA ?_ _));refine blk_put (cs:=#[.string t243,.bool true,.bool false,.bool false,.bool false]) ?_ 2 _ rfl;(with_reducible repeat (first|refine bkN ?_ _|refine bkD ?_|refine bkA ?_ _));refine blk_put (cs:=#[.string t243,.bool false,.bool false,.bool false,.bool false]) ?_ 1 _ rfl;(with_reducible repeat (first|refine bkN ?_ _|refine bkD ?_|refine bkA ?_ _));refine blk_put (cs:=#[.string ⟨#[]⟩,.bool false,.bool false,.bool false,.bool false]) ?_ 0 _ rfl;(with_reducible repeat (first|refine bkN ?_ _|refine bkD ?_|refine bkA ?_ _));exact BK249.out) hb);replace HB:=As0.mk (bsp (by repeat (first|(with_reducible first|exact HB.out|apply bal|apply pbN|apply bd1|refine bst ?_ GE242.out|refine bst ?_ GE249.out)|exact HB.out)) hb);clear hb;obtain ⟨hcz20_0,hcz20_1,hcz20_2,hcz20_3,hcz20_4⟩:=qc5 BK249.out;obtain ⟨hfz20_0,hfz20_1,hfz20_2,hfz20_3,hfz20_4⟩:=qz5 BK249.out;obtain ⟨hcz21_0,hcz21_1,hcz21_2,hcz21_3,hcz21_4⟩:=qc5 BK242.out;obtain ⟨hfz21_0,hfz21_1,hfz21_2,hfz21_3,hfz21_4⟩:=qz5 BK242.out)|(go_at_call 38;(with_reducible refine (impl_isName.calls a0_2 t251 _ A15.out).mono ?_);rintro e w22 ⟨rfl,hb⟩;replace BK242:=As0.mk (bb hb BK242.out);replace BK249:=As0.mk (bb hb BK249.out);replace HB:=As0.mk (bsp (by repeat (first|(with_reducible first|exact HB.out|apply bal|apply pbN|apply bd1|refine bst ?_ GE242.out|refine bst ?_ GE249.out)|exact HB.out)) hb);clear hb))
          show _;go_meet
          case rel=>exact ⟨_,(!t251),(by first|rfl|(simp;done)|(simp [*];done)),H',⟨by first|omega|exact Nat.le_refl _⟩,⟨by (with_reducible repeat (first|refine bkN ?_ _|refine bkD ?_|refine bkA ?_ _));exact BK242.out⟩,⟨by (with_reducible repeat (first|refine bkN ?_ _|refine bkD ?_|refine bkA ?_ _));exact BK249.out⟩,⟨by repeat (first|(with_reducible first|exact HB.out|apply bal|apply pbN|apply bd1|refine bst ?_ GE242.out|refine bst ?_ GE249.out)|exact HB.out)⟩⟩
        · replace c14:=Bool.eq_false_iff.mpr c14
          subst c14;have H1:(impl_isReq.j0 k false a0_0 a0_1 a0_2 a0_3 a0_4 t243 true false t246 t247) = some r:=by rw [if_neg (show ¬ (false = true) by decide)] at H;exact H
          clear H;have H:=H1;clear H1;have H':=As0.mk H;clear H;have hnb23:=NB249_242.out;have hnc23:=NB242_249.out;obtain ⟨hcz24_0,hcz24_1,hcz24_2,hcz24_3,hcz24_4⟩:=qc5 BK249.out;obtain ⟨hfz24_0,hfz24_1,hfz24_2,hfz24_3,hfz24_4⟩:=qz5 BK249.out;obtain ⟨hcz25_0,hcz25_1,hcz25_2,hcz25_3,hcz25_4⟩:=qc5 BK242.out;obtain ⟨hfz25_0,hfz25_1,hfz25_2,hfz25_3,hfz25_4⟩:=qz5 BK242.out
          go_wp2_with (first|(go_at_call 38;(with_reducible refine (impl_isName.calls a0_1 true _ A12.out).mono ?_);rintro e w26 ⟨rfl,hb⟩;replace BK242:=As0.mk (blk_below (g:=gb242) (o:=.cells #[.int .i64 a0_0,.string a0_1,.string a0_2,.int .i64 a0_3,.string a0_4] 25 (0,0)) (by (with_reducible repeat (first|refine bkN ?_ _|refine bkD ?_|refine bkA ?_ _));refine blk_far ?_ NB242_249.out _;(with_reducible repeat (first|refine bkN ?_ _|refine bkD ?_|refine bkA ?_ _));refine blk_far ?_ NB242_249.out _;(with_reducible repeat (first|refine bkN ?_ _|refine bkD ?_|refine bkA ?_ _));refine blk_far ?_ NB242_249.out _;(with_reducible repeat (first|refine bkN ?_ _|refine bkD ?_|refine bkA ?_ _));refine blk_far ?_ NB242_249.out _;(with_reducible repeat (first|refine bkN ?_ _|refine bkD ?_|refine bkA ?_ _));refine blk_far ?_ NB242_249.out _;(with_reducible repeat (first|refine bkN ?_ _|refine bkD ?_|refine bkA ?_ _));exact BK242.out) hb);replace BK249:=As0.mk (blk_below (g:=gb249) (o:=.cells #[.string t243,.bool true,.bool false,.bool t246,.bool t247] 53 (0,0)) (by (with_reducible repeat (first|refine bkN ?_ _|refine bkD ?_|refine bkA ?_ _));refine blk_put (cs:=#[.string t243,.bool true,.bool false,.bool t246,.bool false]) ?_ 4 _ rfl;(with_reducible repeat (first|refine bkN ?_ _|refine bkD ?_|refine bkA ?_ _));refine blk_put (cs:=#[.string t243,.bool true,.bool false,.bool false,.bool false]) ?_ 3 _ rfl;(with_reducible repeat (first|refine bkN ?_ _|refine bkD ?_|refine bkA ?_ _));refine blk_put (cs:=#[.string t243,.bool true,.bool false,.bool false,.bool false]) ?_ 2 _ rfl;(with_reducible repeat (first|refine bkN ?_ _|refine bkD ?_|refine bkA ?_ _));refine blk_put (cs:=#[.string t243,.bool false,.bool false,.bool false,.bool false]) ?_ 1 _ rfl;(with_reducible repeat (first|refine bkN ?_ _|refine bkD ?_|refine bkA ?_ _));refine blk_put (cs:=#[.string ⟨#[]⟩,.bool false,.bool false,.bool false,.bool false]) ?_ 0 _ rfl;(with_reducible repeat (first|refine bkN ?_ _|refine bkD ?_|refine bkA ?_ _));exact BK249.out) hb);replace HB:=As0.mk (bsp (by repeat (first|(with_reducible first|exact HB.out|apply bal|apply pbN|apply bd1|refine bst ?_ GE242.out|refine bst ?_ GE249.out)|exact HB.out)) hb);clear hb;obtain ⟨hcz27_0,hcz27_1,hcz27_2,hcz27_3,hcz27_4⟩:=qc5 BK249.out;obtain ⟨hfz27_0,hfz27_1,hfz27_2,hfz27_3,hfz27_4⟩:=qz5 BK249.out))
          show _;go_meet
          case rel=>exact ⟨_,(false),(by first|rfl|(simp;done)|(simp [*];done)),H',⟨by first|omega|exact Nat.le_refl _⟩,⟨by (with_reducible repeat (first|refine bkN ?_ _|refine bkD ?_|refine bkA ?_ _));exact BK242.out⟩,⟨by (with_reducible repeat (first|refine bkN ?_ _|refine bkD ?_|refine bkA ?_ _));exact BK249.out⟩,⟨by repeat (first|(with_reducible first|exact HB.out|apply bal|apply pbN|apply bd1|refine bst ?_ GE242.out|refine bst ?_ GE249.out)|exact HB.out)⟩⟩
      · replace c13:=Bool.eq_false_iff.mpr c13
        subst c13;have H1:(impl_isReq.j0 k true a0_0 a0_1 a0_2 a0_3 a0_4 t243 true t245 t246 t247) = some r:=by rw [if_neg (show ¬ (false = true) by decide)] at H;exact H
        clear H;have H:=H1;clear H1;have H':=As0.mk H;clear H;have hnb28:=NB249_242.out;have hnc28:=NB242_249.out;obtain ⟨hcz29_0,hcz29_1,hcz29_2,hcz29_3,hcz29_4⟩:=qc5 BK249.out;obtain ⟨hfz29_0,hfz29_1,hfz29_2,hfz29_3,hfz29_4⟩:=qz5 BK249.out;obtain ⟨hcz30_0,hcz30_1,hcz30_2,hcz30_3,hcz30_4⟩:=qc5 BK242.out;obtain ⟨hfz30_0,hfz30_1,hfz30_2,hfz30_3,hfz30_4⟩:=qz5 BK242.out
        go_wp2_with (first|(go_at_call 38;(with_reducible refine (impl_isName.calls a0_1 false _ A12.out).mono ?_);rintro e w31 ⟨rfl,hb⟩;replace BK242:=As0.mk (blk_below (g:=gb242) (o:=.cells #[.int .i64 a0_0,.string a0_1,.string a0_2,.int .i64 a0_3,.string a0_4] 25 (0,0)) (by (with_reducible repeat (first|refine bkN ?_ _|refine bkD ?_|refine bkA ?_ _));refine blk_far ?_ NB242_249.out _;(with_reducible repeat (first|refine bkN ?_ _|refine bkD ?_|refine bkA ?_ _));refine blk_far ?_ NB242_249.out _;(with_reducible repeat (first|refine bkN ?_ _|refine bkD ?_|refine bkA ?_ _));refine blk_far ?_ NB242_249.out _;(with_reducible repeat (first|refine bkN ?_ _|refine bkD ?_|refine bkA ?_ _));refine blk_far ?_ NB242_249.out _;(with_reducible repeat (first|refine bkN ?_ _|refine bkD ?_|refine bkA ?_ _));refine blk_far ?_ NB242_249.out _;(with_reducible repeat (first|refine bkN ?_ _|refine bkD ?_|refine bkA ?_ _));exact BK242.out) hb);replace BK249:=As0.mk (blk_below (g:=gb249) (o:=.cells #[.string t243,.bool true,.bool t245,.bool t246,.bool t247] 53 (0,0)) (by (with_reducible repeat (first|refine bkN ?_ _|refine bkD ?_|refine bkA ?_ _));refine blk_put (cs:=#[.string t243,.bool true,.bool t245,.bool t246,.bool false]) ?_ 4 _ rfl;(with_reducible repeat (first|refine bkN ?_ _|refine bkD ?_|refine bkA ?_ _));refine blk_put (cs:=#[.string t243,.bool true,.bool t245,.bool false,.bool false]) ?_ 3 _ rfl;(with_reducible repeat (first|refine bkN ?_ _|refine bkD ?_|refine bkA ?_ _));refine blk_put (cs:=#[.string t243,.bool true,.bool false,.bool false,.bool false]) ?_ 2 _ rfl;(with_reducible repeat (first|refine bkN ?_ _|refine bkD ?_|refine bkA ?_ _));refine blk_put (cs:=#[.string t243,.bool false,.bool false,.bool false,.bool false]) ?_ 1 _ rfl;(with_reducible repeat (first|refine bkN ?_ _|refine bkD ?_|refine bkA ?_ _));refine blk_put (cs:=#[.string ⟨#[]⟩,.bool false,.bool false,.bool false,.bool false]) ?_ 0 _ rfl;(with_reducible repeat (first|refine bkN ?_ _|refine bkD ?_|refine bkA ?_ _));exact BK249.out) hb);replace HB:=As0.mk (bsp (by repeat (first|(with_reducible first|exact HB.out|apply bal|apply pbN|apply bd1|refine bst ?_ GE242.out|refine bst ?_ GE249.out)|exact HB.out)) hb);clear hb))
        show _;go_meet
        case rel=>exact ⟨_,(true),(by first|rfl|(simp;done)|(simp [*];done)),H',⟨by first|omega|exact Nat.le_refl _⟩,⟨by (with_reducible repeat (first|refine bkN ?_ _|refine bkD ?_|refine bkA ?_ _));exact BK242.out⟩,⟨by (with_reducible repeat (first|refine bkN ?_ _|refine bkD ?_|refine bkA ?_ _));exact BK249.out⟩,⟨by repeat (first|(with_reducible first|exact HB.out|apply bal|apply pbN|apply bd1|refine bst ?_ GE242.out|refine bst ?_ GE249.out)|exact HB.out)⟩⟩
    · replace c11:=Bool.eq_false_iff.mpr c11
      subst c11;have H1:(if t245 = true then ((impl_isName.f a0_2).bind fun t252=>(impl_isReq.j0 k (!t252) a0_0 a0_1 a0_2 a0_3 a0_4 t243 false t245 t246 t247)) else (impl_isReq.j0 k false a0_0 a0_1 a0_2 a0_3 a0_4 t243 false t245 t246 t247)) = some r:=by rw [if_neg (show ¬ (false = true) by decide)] at H;exact H
      clear H;have H:=H1;clear H1;by_cases c32:t245 = true
      · subst c32
        have H1:((impl_isName.f a0_2).bind fun t252=>(impl_isReq.j0 k (!t252) a0_0 a0_1 a0_2 a0_3 a0_4 t243 false true t246 t247)) = some r:=by rw [if_pos rfl] at H;exact H
        clear H;have H:=H1;clear H1;replace H:=Option.bind_eq_some_iff.mp H;obtain ⟨t252,A330,H⟩:=H;(try dsimp only at H);have A33:=As0.mk A330;clear A330;have H':=As0.mk H;clear H;have hnb34:=NB249_242.out;have hnc34:=NB242_249.out;obtain ⟨hcz35_0,hcz35_1,hcz35_2,hcz35_3,hcz35_4⟩:=qc5 BK249.out;obtain ⟨hfz35_0,hfz35_1,hfz35_2,hfz35_3,hfz35_4⟩:=qz5 BK249.out;obtain ⟨hcz36_0,hcz36_1,hcz36_2,hcz36_3,hcz36_4⟩:=qc5 BK242.out;obtain ⟨hfz36_0,hfz36_1,hfz36_2,hfz36_3,hfz36_4⟩:=qz5 BK242.out
        go_wp2_with (first|(go_at_call 38;(with_reducible refine (impl_isName.calls a0_2 t252 _ A33.out).mono ?_);rintro e w37 ⟨rfl,hb⟩;replace BK242:=As0.mk (blk_below (g:=gb242) (o:=.cells #[.int .i64 a0_0,.string a0_1,.string a0_2,.int .i64 a0_3,.string a0_4] 25 (0,0)) (by (with_reducible repeat (first|refine bkN ?_ _|refine bkD ?_|refine bkA ?_ _));refine blk_far ?_ NB242_249.out _;(with_reducible repeat (first|refine bkN ?_ _|refine bkD ?_|refine bkA ?_ _));refine blk_far ?_ NB242_249.out _;(with_reducible repeat (first|refine bkN ?_ _|refine bkD ?_|refine bkA ?_ _));refine blk_far ?_ NB242_249.out _;(with_reducible repeat (first|refine bkN ?_ _|refine bkD ?_|refine bkA ?_ _));refine blk_far ?_ NB242_249.out _;(with_reducible repeat (first|refine bkN ?_ _|refine bkD ?_|refine bkA ?_ _));refine blk_far ?_ NB242_249.out _;(with_reducible repeat (first|refine bkN ?_ _|refine bkD ?_|refine bkA ?_ _));exact BK242.out) hb);replace BK249:=As0.mk (blk_below (g:=gb249) (o:=.cells #[.string t243,.bool false,.bool true,.bool t246,.bool t247] 53 (0,0)) (by (with_reducible repeat (first|refine bkN ?_ _|refine bkD ?_|refine bkA ?_ _));refine blk_put (cs:=#[.string t243,.bool false,.bool true,.bool t246,.bool false]) ?_ 4 _ rfl;(with_reducible repeat (first|refine bkN ?_ _|refine bkD ?_|refine bkA ?_ _));refine blk_put (cs:=#[.string t243,.bool false,.bool true,.bool false,.bool false]) ?_ 3 _ rfl;(with_reducible repeat (first|refine bkN ?_ _|refine bkD ?_|refine bkA ?_ _));refine blk_put (cs:=#[.string t243,.bool false,.bool false,.bool false,.bool false]) ?_ 2 _ rfl;(with_reducible repeat (first|refine bkN ?_ _|refine bkD ?_|refine bkA ?_ _));refine blk_put (cs:=#[.string t243,.bool false,.bool false,.bool false,.bool false]) ?_ 1 _ rfl;(with_reducible repeat (first|refine bkN ?_ _|refine bkD ?_|refine bkA ?_ _));refine blk_put (cs:=#[.string ⟨#[]⟩,.bool false,.bool false,.bool false,.bool false]) ?_ 0 _ rfl;(with_reducible repeat (first|refine bkN ?_ _|refine bkD ?_|refine bkA ?_ _));exact BK249.out) hb);replace HB:=As0.mk (bsp (by repeat (first|(with_reducible first|exact HB.out|apply bal|apply pbN|apply bd1|refine bst ?_ GE242.out|refine bst ?_ GE249.out)|exact HB.out)) hb);clear hb))
        show _;go_meet
        case rel=>exact ⟨_,(!t252),(by first|rfl|(simp;done)|(simp [*];done)),H',⟨by first|omega|exact Nat.le_refl _⟩,⟨by (with_reducible repeat (first|refine bkN ?_ _|refine bkD ?_|refine bkA ?_ _));exact BK242.out⟩,⟨by (with_reducible repeat (first|refine bkN ?_ _|refine bkD ?_|refine bkA ?_ _));exact BK249.out⟩,⟨by repeat (first|(with_reducible first|exact HB.out|apply bal|apply pbN|apply bd1|refine bst ?_ GE242.out|refine bst ?_ GE249.out)|exact HB.out)⟩⟩
      · replace c32:=Bool.eq_false_iff.mpr c32
        subst c32;have H1:(impl_isReq.j0 k false a0_0 a0_1 a0_2 a0_3 a0_4 t243 false false t246 t247) = some r:=by rw [if_neg (show ¬ (false = true) by decide)] at H;exact H
        clear H;have H:=H1;clear H1;have H':=As0.mk H;clear H;have hnb38:=NB249_242.out;have hnc38:=NB242_249.out;obtain ⟨hcz39_0,hcz39_1,hcz39_2,hcz39_3,hcz39_4⟩:=qc5 BK249.out;obtain ⟨hfz39_0,hfz39_1,hfz39_2,hfz39_3,hfz39_4⟩:=qz5 BK249.out
        go_wp2
        show _;go_meet
        case rel=>exact ⟨_,(false),(by first|rfl|(simp;done)|(simp [*];done)),H',⟨by first|omega|exact Nat.le_refl _⟩,⟨by (with_reducible repeat (first|refine bkN ?_ _|refine bkD ?_|refine bkA ?_ _));refine blk_far ?_ NB242_249.out _;(with_reducible repeat (first|refine bkN ?_ _|refine bkD ?_|refine bkA ?_ _));refine blk_far ?_ NB242_249.out _;(with_reducible repeat (first|refine bkN ?_ _|refine bkD ?_|refine bkA ?_ _));refine blk_far ?_ NB242_249.out _;(with_reducible repeat (first|refine bkN ?_ _|refine bkD ?_|refine bkA ?_ _));refine blk_far ?_ NB242_249.out _;(with_reducible repeat (first|refine bkN ?_ _|refine bkD ?_|refine bkA ?_ _));refine blk_far ?_ NB242_249.out _;(with_reducible repeat (first|refine bkN ?_ _|refine bkD ?_|refine bkA ?_ _));exact BK242.out⟩,⟨by (with_reducible repeat (first|refine bkN ?_ _|refine bkD ?_|refine bkA ?_ _));refine blk_put (cs:=#[.string t243,.bool false,.bool false,.bool t246,.bool false]) ?_ 4 _ rfl;(with_reducible repeat (first|refine bkN ?_ _|refine bkD ?_|refine bkA ?_ _));refine blk_put (cs:=#[.string t243,.bool false,.bool false,.bool false,.bool false]) ?_ 3 _ rfl;(with_reducible repeat (first|refine bkN ?_ _|refine bkD ?_|refine bkA ?_ _));refine blk_put (cs:=#[.string t243,.bool false,.bool false,.bool false,.bool false]) ?_ 2 _ rfl;(with_reducible repeat (first|refine bkN ?_ _|refine bkD ?_|refine bkA ?_ _));refine blk_put (cs:=#[.string t243,.bool false,.bool false,.bool false,.bool false]) ?_ 1 _ rfl;(with_reducible repeat (first|refine bkN ?_ _|refine bkD ?_|refine bkA ?_ _));refine blk_put (cs:=#[.string ⟨#[]⟩,.bool false,.bool false,.bool false,.bool false]) ?_ 0 _ rfl;(with_reducible repeat (first|refine bkN ?_ _|refine bkD ?_|refine bkA ?_ _));exact BK249.out⟩,⟨by repeat (first|(with_reducible first|exact HB.out|apply bal|apply pbN|apply bd1|refine bst ?_ GE242.out|refine bst ?_ GE249.out)|exact HB.out)⟩⟩
  · replace c10:=Bool.eq_false_iff.mpr c10
    subst c10;have H1:(impl_isReq.j0 k true a0_0 a0_1 a0_2 a0_3 a0_4 t243 t244 t245 t246 t247) = some r:=by rw [if_neg (show ¬ (false = true) by decide)] at H;exact H
    clear H;have H:=H1;clear H1;have H':=As0.mk H;clear H
    go_wp2
    show _;go_meet
    case rel=>exact ⟨_,(true),(by first|rfl|(simp;done)|(simp [*];done)),H',⟨by first|omega|exact Nat.le_refl _⟩,⟨by (with_reducible repeat (first|refine bkN ?_ _|refine bkD ?_|refine bkA ?_ _));refine blk_far ?_ NB242_249.out _;(with_reducible repeat (first|refine bkN ?_ _|refine bkD ?_|refine bkA ?_ _));refine blk_far ?_ NB242_249.out _;(with_reducible repeat (first|refine bkN ?_ _|refine bkD ?_|refine bkA ?_ _));refine blk_far ?_ NB242_249.out _;(with_reducible repeat (first|refine bkN ?_ _|refine bkD ?_|refine bkA ?_ _));refine blk_far ?_ NB242_249.out _;(with_reducible repeat (first|refine bkN ?_ _|refine bkD ?_|refine bkA ?_ _));refine blk_far ?_ NB242_249.out _;(with_reducible repeat (first|refine bkN ?_ _|refine bkD ?_|refine bkA ?_ _));exact BK242.out⟩,⟨by (with_reducible repeat (first|refine bkN ?_ _|refine bkD ?_|refine bkA ?_ _));refine blk_put (cs:=#[.string t243,.bool t244,.bool t245,.bool t246,.bool false]) ?_ 4 _ rfl;(with_reducible repeat (first|refine bkN ?_ _|refine bkD ?_|refine bkA ?_ _));refine blk_put (cs:=#[.string t243,.bool t244,.bool t245,.bool false,.bool false]) ?_ 3 _ rfl;(with_reducible repeat (first|refine bkN ?_ _|refine bkD ?_|refine bkA ?_ _));refine blk_put (cs:=#[.string t243,.bool t244,.bool false,.bool false,.bool false]) ?_ 2 _ rfl;(with_reducible repeat (first|refine bkN ?_ _|refine bkD ?_|refine bkA ?_ _));refine blk_put (cs:=#[.string t243,.bool false,.bool false,.bool false,.bool false]) ?_ 1 _ rfl;(with_reducible repeat (first|refine bkN ?_ _|refine bkD ?_|refine bkA ?_ _));refine blk_put (cs:=#[.string ⟨#[]⟩,.bool false,.bool false,.bool false,.bool false]) ?_ 0 _ rfl;(with_reducible repeat (first|refine bkN ?_ _|refine bkD ?_|refine bkA ?_ _));exact BK249.out⟩,⟨by repeat (first|(with_reducible first|exact HB.out|apply bal|apply pbN|apply bd1|refine bst ?_ GE242.out|refine bst ?_ GE249.out)|exact HB.out)⟩⟩
 case rest=>
  clear HC3
  try clear c1
  try clear c2
  try clear p2
  try clear c3
  try clear c8
  try clear c10
  try clear c11
  try clear c13
  try clear c14
  try clear c16
  try clear c23
  try clear c25
  try clear c28
  try clear c32
  try clear c33
  try clear c34
  try clear c38
  try clear hcz17_0
  try clear hcz17_1
  try clear hcz17_2
  try clear hcz17_3
  try clear hcz17_4
  try clear hcz18_0
  try clear hcz18_1
  try clear hcz18_2
  try clear hcz18_3
  try clear hcz18_4
  try clear hcz20_0
  try clear hcz20_1
  try clear hcz20_2
  try clear hcz20_3
  try clear hcz20_4
  try clear hcz21_0
  try clear hcz21_1
  try clear hcz21_2
  try clear hcz21_3
  try clear hcz21_4
  try clear hcz24_0
  try clear hcz24_1
  try clear hcz24_2
  try clear hcz24_3
  try clear hcz24_4
  try clear hcz25_0
  try clear hcz25_1
  try clear hcz25_2
  try clear hcz25_3
  try clear hcz25_4
  try clear hcz27_0
  try clear hcz27_1
  try clear hcz27_2
  try clear hcz27_3
  try clear hcz27_4
  try clear hcz29_0
  try clear hcz29_1
  try clear hcz29_2
  try clear hcz29_3
  try clear hcz29_4
  try clear hcz30_0
  try clear hcz30_1
  try clear hcz30_2
  try clear hcz30_3
  try clear hcz30_4
  try clear hcz35_0
  try clear hcz35_1
  try clear hcz35_2
  try clear hcz35_3
  try clear hcz35_4
  try clear hcz36_0
  try clear hcz36_1
  try clear hcz36_2
  try clear hcz36_3
  try clear hcz36_4
  try clear hcz39_0
  try clear hcz39_1
  try clear hcz39_2
  try clear hcz39_3
  try clear hcz39_4
  try clear hcz5_0
  try clear hcz5_1
  try clear hcz5_2
  try clear hcz5_3
  try clear hcz5_4
  try clear hcz9_0
  try clear hcz9_1
  try clear hcz9_2
  try clear hcz9_3
  try clear hcz9_4
  try clear hfz17_0
  try clear hfz17_1
  try clear hfz17_2
  try clear hfz17_3
  try clear hfz17_4
  try clear hfz18_0
  try clear hfz18_1
  try clear hfz18_2
  try clear hfz18_3
  try clear hfz18_4
  try clear hfz20_0
  try clear hfz20_1
  try clear hfz20_2
  try clear hfz20_3
  try clear hfz20_4
  try clear hfz21_0
  try clear hfz21_1
  try clear hfz21_2
  try clear hfz21_3
  try clear hfz21_4
  try clear hfz24_0
  try clear hfz24_1
  try clear hfz24_2
  try clear hfz24_3
  try clear hfz24_4
  try clear hfz25_0
  try clear hfz25_1
  try clear hfz25_2
  try clear hfz25_3
  try clear hfz25_4
  try clear hfz27_0
  try clear hfz27_1
  try clear hfz27_2
  try clear hfz27_3
  try clear hfz27_4
  try clear hfz29_0
  try clear hfz29_1
  try clear hfz29_2
  try clear hfz29_3
  try clear hfz29_4
  try clear hfz30_0
  try clear hfz30_1
  try clear hfz30_2
  try clear hfz30_3
  try clear hfz30_4
  try clear hfz35_0
  try clear hfz35_1
  try clear hfz35_2
  try clear hfz35_3
  try clear hfz35_4
  try clear hfz36_0
  try clear hfz36_1
  try clear hfz36_2
  try clear hfz36_3
  try clear hfz36_4
  try clear hfz39_0
  try clear hfz39_1
  try clear hfz39_2
  try clear hfz39_3
  try clear hfz39_4
  try clear hfz5_0
  try clear hfz5_1
  try clear hfz5_2
  try clear hfz5_3
  try clear hfz5_4
  try clear hfz9_0
  try clear hfz9_1
  try clear hfz9_2
  try clear hfz9_3
  try clear hfz9_4
  obtain ⟨kq,x32_2,rfl,HA,HJ2,BK242,BK249,HB⟩:=hcut
  cases kq with
  |zero=>exact absurd HA.out (by simp [impl_isReq.j0])
  |succ kj2=>
   have H:=HA.out;clear HA;simp only [impl_isReq.j0] at H;by_cases c40:x32_2 = true
   · subst c40
     have H1:(some false) = some r:=by rw [if_pos rfl] at H;exact H
     clear H;have H:=H1;clear H1;obtain rfl:=Option.some.inj H
     go_wp2
     go_ret
     exact ⟨eW,by repeat (first|(with_reducible first|exact HB.out|apply bal|apply pbN|apply bd1|refine bst ?_ GE242.out|refine bst ?_ GE249.out)|exact HB.out)⟩
   · replace c40:=Bool.eq_false_iff.mpr c40
     subst c40;have H1:(if t244 = true then (if t245 = true then (if t246 = true then (if t247 = true then (impl_isReq.j1 kj2 false a0_0 a0_1 a0_2 a0_3 a0_4) else (impl_isReq.j1 kj2 (a0_4.toList != ([]:List UInt8)) a0_0 a0_1 a0_2 a0_3 a0_4)) else (if a0_3 = 0 then (if t247 = true then (impl_isReq.j1 kj2 false a0_0 a0_1 a0_2 a0_3 a0_4) else (impl_isReq.j1 kj2 (a0_4.toList != ([]:List UInt8)) a0_0 a0_1 a0_2 a0_3 a0_4)) else (impl_isReq.j1 kj2 true a0_0 a0_1 a0_2 a0_3 a0_4))) else (if a0_2.toList = ([]:List UInt8) then (if t246 = true then (if t247 = true then (impl_isReq.j1 kj2 false a0_0 a0_1 a0_2 a0_3 a0_4) else (impl_isReq.j1 kj2 (a0_4.toList != ([]:List UInt8)) a0_0 a0_1 a0_2 a0_3 a0_4)) else (if a0_3 = 0 then (if t247 = true then (impl_isReq.j1 kj2 false a0_0 a0_1 a0_2 a0_3 a0_4) else (impl_isReq.j1 kj2 (a0_4.toList != ([]:List UInt8)) a0_0 a0_1 a0_2 a0_3 a0_4)) else (impl_isReq.j1 kj2 true a0_0 a0_1 a0_2 a0_3 a0_4))) else (impl_isReq.j1 kj2 true a0_0 a0_1 a0_2 a0_3 a0_4))) else (if a0_1.toList = ([]:List UInt8) then (if t245 = true then (if t246 = true then (if t247 = true then (impl_isReq.j1 kj2 false a0_0 a0_1 a0_2 a0_3 a0_4) else (impl_isReq.j1 kj2 (a0_4.toList != ([]:List UInt8)) a0_0 a0_1 a0_2 a0_3 a0_4)) else (if a0_3 = 0 then (if t247 = true then (impl_isReq.j1 kj2 false a0_0 a0_1 a0_2 a0_3 a0_4) else (impl_isReq.j1 kj2 (a0_4.toList != ([]:List UInt8)) a0_0 a0_1 a0_2 a0_3 a0_4)) else (impl_isReq.j1 kj2 true a0_0 a0_1 a0_2 a0_3 a0_4))) else (if a0_2.toList = ([]:List UInt8) then (if t246 = true then (if t247 = true then (impl_isReq.j1 kj2 false a0_0 a0_1 a0_2 a0_3 a0_4) else (impl_isReq.j1 kj2 (a0_4.toList != ([]:List UInt8)) a0_0 a0_1 a0_2 a0_3 a0_4)) else (if a0_3 = 0 then (if t247 = true then (impl_isReq.j1 kj2 false a0_0 a0_1 a0_2 a0_3 a0_4) else (impl_isReq.j1 kj2 (a0_4.toList != ([]:List UInt8)) a0_0 a0_1 a0_2 a0_3 a0_4)) else (impl_isReq.j1 kj2 true a0_0 a0_1 a0_2 a0_3 a0_4))) else (impl_isReq.j1 kj2 true a0_0 a0_1 a0_2 a0_3 a0_4))) else (impl_isReq.j1 kj2 true a0_0 a0_1 a0_2 a0_3 a0_4))) = some r:=by rw [if_neg (show ¬ (false = true) by decide)] at H;exact H
     clear H;have H:=H1;clear H1;have HC41:=As0.mk H;clear H
     show _;go_upto_region 4 with (fail)
     show _;go_cut [70] (fun v70 wc=>∃ (kq:Nat) (x70_40:Bool),v70 = .bool x70_40 ∧ As0 (impl_isReq.j1 kq x70_40 a0_0 a0_1 a0_2 a0_3 a0_4 = some r) ∧ As0 (kq ≤ kj2) ∧ As0 (wc.heap[gb242]? = some (.cells #[.int .i64 a0_0,.string a0_1,.string a0_2,.int .i64 a0_3,.string a0_4] 25 (0,0))) ∧ As0 (wc.heap[gb249]? = some (.cells #[.string t243,.bool t244,.bool t245,.bool t246,.bool t247] 53 (0,0))) ∧ As0 (Below w.heap.size w wc))
     case first=>
      have H:=HC41.out;clear HC41;by_cases c42:t244 = true
      · subst c42
        have H1:(if t245 = true then (if t246 = true then (if t247 = true then (impl_isReq.j1 kj2 false a0_0 a0_1 a0_2 a0_3 a0_4) else (impl_isReq.j1 kj2 (a0_4.toList != ([]:List UInt8)) a0_0 a0_1 a0_2 a0_3 a0_4)) else (if a0_3 = 0 then (if t247 = true then (impl_isReq.j1 kj2 false a0_0 a0_1 a0_2 a0_3 a0_4) else (impl_isReq.j1 kj2 (a0_4.toList != ([]:List UInt8)) a0_0 a0_1 a0_2 a0_3 a0_4)) else (impl_isReq.j1 kj2 true a0_0 a0_1 a0_2 a0_3 a0_4))) else (if a0_2.toList = ([]:List UInt8) then (if t246 = true then (if t247 = true then (impl_isReq.j1 kj2 false a0_0 a0_1 a0_2 a0_3 a0_4) else (impl_isReq.j1 kj2 (a0_4.toList != ([]:List UInt8)) a0_0 a0_1 a0_2 a0_3 a0_4)) else (if a0_3 = 0 then (if t247 = true then (impl_isReq.j1 kj2 false a0_0 a0_1 a0_2 a0_3 a0_4) else (impl_isReq.j1 kj2 (a0_4.toList != ([]:List UInt8)) a0_0 a0_1 a0_2 a0_3 a0_4)) else (impl_isReq.j1 kj2 true a0_0 a0_1 a0_2 a0_3 a0_4))) else (impl_isReq.j1 kj2 true a0_0 a0_1 a0_2 a0_3 a0_4))) = some r:=by rw [if_pos rfl] at H;exact H
        clear H;have H:=H1;clear H1;by_cases c43:t245 = true
        · subst c43
          have H1:(if t246 = true then (if t247 = true then (impl_isReq.j1 kj2 false a0_0 a0_1 a0_2 a0_3 a0_4) else (impl_isReq.j1 kj2 (a0_4.toList != ([]:List UInt8)) a0_0 a0_1 a0_2 a0_3 a0_4)) else (if a0_3 = 0 then (if t247 = true then (impl_isReq.j1 kj2 false a0_0 a0_1 a0_2 a0_3 a0_4) else (impl_isReq.j1 kj2 (a0_4.toList != ([]:List UInt8)) a0_0 a0_1 a0_2 a0_3 a0_4)) else (impl_isReq.j1 kj2 true a0_0 a0_1 a0_2 a0_3 a0_4))) = some r:=by rw [if_pos rfl] at H;exact H
          clear H;have H:=H1;clear H1;by_cases c44:t246 = true
          · subst c44
            have H1:(if t247 = true then (impl_isReq.j1 kj2 false a0_0 a0_1 a0_2 a0_3 a0_4) else (impl_isReq.j1 kj2 (a0_4.toList != ([]:List UInt8)) a0_0 a0_1 a0_2 a0_3 a0_4)) = some r:=by rw [if_pos rfl] at H;exact H
            clear H;have H:=H1;clear H1;by_cases c45:t247 = true
            · subst c45
              have H1:(impl_isReq.j1 kj2 false a0_0 a0_1 a0_2 a0_3 a0_4) = some r:=by rw [if_pos rfl] at H;exact H
              clear H;have H:=H1;clear H1;have H':=As0.mk H;clear H;have hnb46:=NB249_242.out;have hnc46:=NB242_249.out;obtain ⟨hcz47_0,hcz47_1,hcz47_2,hcz47_3,hcz47_4⟩:=qc5 BK249.out;obtain ⟨hfz47_0,hfz47_1,hfz47_2,hfz47_3,hfz47_4⟩:=qz5 BK249.out
              go_wp2
              show _;go_meet
              case rel=>exact ⟨_,(false),(by first|rfl|(simp;done)|(simp [*];done)),H',⟨by have:=HJ2.out;first|omega|exact Nat.le_refl _⟩,⟨by (with_reducible repeat (first|refine bkN ?_ _|refine bkD ?_|refine bkA ?_ _));exact BK242.out⟩,⟨by (with_reducible repeat (first|refine bkN ?_ _|refine bkD ?_|refine bkA ?_ _));exact BK249.out⟩,⟨by repeat (first|(with_reducible first|exact HB.out|apply bal|apply pbN|apply bd1|refine bst ?_ GE242.out|refine bst ?_ GE249.out)|exact HB.out)⟩⟩
            · replace c45:=Bool.eq_false_iff.mpr c45
              subst c45;have H1:(impl_isReq.j1 kj2 (a0_4.toList != ([]:List UInt8)) a0_0 a0_1 a0_2 a0_3 a0_4) = some r:=by rw [if_neg (show ¬ (false = true) by decide)] at H;exact H
              clear H;have H:=H1;clear H1;have H':=As0.mk H;clear H;have hnb48:=NB249_242.out;have hnc48:=NB242_249.out;obtain ⟨hcz49_0,hcz49_1,hcz49_2,hcz49_3,hcz49_4⟩:=qc5 BK249.out;obtain ⟨hfz49_0,hfz49_1,hfz49_2,hfz49_3,hfz49_4⟩:=qz5 BK249.out;obtain ⟨hcz50_0,hcz50_1,hcz50_2,hcz50_3,hcz50_4⟩:=qc5 BK242.out;obtain ⟨hfz50_0,hfz50_1,hfz50_2,hfz50_3,hfz50_4⟩:=qz5 BK242.out
              go_wp2
              show _;go_meet
              case rel=>exact ⟨_,((a0_4.toList != ([]:List UInt8))),(by first|rfl|(simp;done)|(simp;cases a0_4.toList <;> rfl)|(simp [*];done)),H',⟨by have:=HJ2.out;first|omega|exact Nat.le_refl _⟩,⟨by (with_reducible repeat (first|refine bkN ?_ _|refine bkD ?_|refine bkA ?_ _));exact BK242.out⟩,⟨by (with_reducible repeat (first|refine bkN ?_ _|refine bkD ?_|refine bkA ?_ _));exact BK249.out⟩,⟨by repeat (first|(with_reducible first|exact HB.out|apply bal|apply pbN|apply bd1|refine bst ?_ GE242.out|refine bst ?_ GE249.out)|exact HB.out)⟩⟩
          · replace c44:=Bool.eq_false_iff.mpr c44
            subst c44;have H1:(if a0_3 = 0 then (if t247 = true then (impl_isReq.j1 kj2 false a0_0 a0_1 a0_2 a0_3 a0_4) else (impl_isReq.j1 kj2 (a0_4.toList != ([]:List UInt8)) a0_0 a0_1 a0_2 a0_3 a0_4)) else (impl_isReq.j1 kj2 true a0_0 a0_1 a0_2 a0_3 a0_4)) = some r:=by rw [if_neg (show ¬ (false = true) by decide)] at H;exact H
            clear H;have H:=H1;clear H1;by_cases c51:a0_3 = 0
            · rw [if_pos c51] at H
              have c51b0:(a0_3 == 0) = true:=beq_iff_eq.mpr c51;have c51b1:(a0_3 != 0) = false:=bne_eq_false_iff_eq.mpr c51;clear c51
              (first|rw [c51b0]|(simp only [i64_w,i32_w];rw [c51b0])|skip)
              by_cases c52:t247 = true
              · subst c52
                have H1:(impl_isReq.j1 kj2 false a0_0 a0_1 a0_2 a0_3 a0_4) = some r:=by rw [if_pos rfl] at H;exact H
                clear H;have H:=H1;clear H1;have H':=As0.mk H;clear H;have hnb53:=NB249_242.out;have hnc53:=NB242_249.out;obtain ⟨hcz54_0,hcz54_1,hcz54_2,hcz54_3,hcz54_4⟩:=qc5 BK249.out;obtain ⟨hfz54_0,hfz54_1,hfz54_2,hfz54_3,hfz54_4⟩:=qz5 BK249.out;obtain ⟨hcz55_0,hcz55_1,hcz55_2,hcz55_3,hcz55_4⟩:=qc5 BK242.out;obtain ⟨hfz55_0,hfz55_1,hfz55_2,hfz55_3,hfz55_4⟩:=qz5 BK242.out
                go_wp2
                show _;go_meet
                case rel=>exact ⟨_,(false),(by first|rfl|(simp;done)|(simp [*];done)),H',⟨by have:=HJ2.out;first|omega|exact Nat.le_refl _⟩,⟨by (with_reducible repeat (first|refine bkN ?_ _|refine bkD ?_|refine bkA ?_ _));exact BK242.out⟩,⟨by (with_reducible repeat (first|refine bkN ?_ _|refine bkD ?_|refine bkA ?_ _));exact BK249.out⟩,⟨by repeat (first|(with_reducible first|exact HB.out|apply bal|apply pbN|apply bd1|refine bst ?_ GE242.out|refine bst ?_ GE249.out)|exact HB.out)⟩⟩
              · replace c52:=Bool.eq_false_iff.mpr c52
                subst c52;have H1:(impl_isReq.j1 kj2 (a0_4.toList != ([]:List UInt8)) a0_0 a0_1 a0_2 a0_3 a0_4) = some r:=by rw [if_neg (show ¬ (false = true) by decide)] at H;exact H
                clear H;have H:=H1;clear H1;have H':=As0.mk H;clear H;have hnb56:=NB249_242.out;have hnc56:=NB242_249.out;obtain ⟨hcz57_0,hcz57_1,hcz57_2,hcz57_3,hcz57_4⟩:=qc5 BK249.out;obtain ⟨hfz57_0,hfz57_1,hfz57_2,hfz57_3,hfz57_4⟩:=qz5 BK249.out;obtain ⟨hcz58_0,hcz58_1,hcz58_2,hcz58_3,hcz58_4⟩:=qc5 BK242.out;obtain ⟨hfz58_0,hfz58_1,hfz58_2,hfz58_3,hfz58_4⟩:=qz5 BK242.out
                go_wp2
                show _;go_meet
                case rel=>exact ⟨_,((a0_4.toList != ([]:List UInt8))),(by first|rfl|(simp;done)|(simp;cases a0_4.toList <;> rfl)|(simp [*];done)),H',⟨by have:=HJ2.out;first|omega|exact Nat.le_refl _⟩,⟨by (with_reducible repeat (first|refine bkN ?_ _|refine bkD ?_|refine bkA ?_ _));exact BK242.out⟩,⟨by (with_reducible repeat (first|refine bkN ?_ _|refine bkD ?_|refine bkA ?_ _));exact BK249.out⟩,⟨by repeat (first|(with_reducible first|exact HB.out|apply bal|apply pbN|apply bd1|refine bst ?_ GE242.out|refine bst ?_ GE249.out)|exact HB.out)⟩⟩
            · rw [if_neg c51] at H
              have c51b0:(a0_3 == 0) = false:=beq_eq_false_iff_ne.mpr c51;have c51b1:(a0_3 != 0) = true:=bne_iff_ne.mpr c51
              (first|rw [c51b0]|(simp only [i64_w,i32_w];rw [c51b0])|skip)
              have H':=As0.mk H;clear H;have hnb59:=NB249_242.out;have hnc59:=NB242_249.out;obtain ⟨hcz60_0,hcz60_1,hcz60_2,hcz60_3,hcz60_4⟩:=qc5 BK249.out;obtain ⟨hfz60_0,hfz60_1,hfz60_2,hfz60_3,hfz60_4⟩:=qz5 BK249.out;obtain ⟨hcz61_0,hcz61_1,hcz61_2,hcz61_3,hcz61_4⟩:=qc5 BK242.out;obtain ⟨hfz61_0,hfz61_1,hfz61_2,hfz61_3,hfz61_4⟩:=qz5 BK242.out
              go_wp2
              show _;go_meet
              case rel=>exact ⟨_,(true),(by first|rfl|(simp;done)|(simp [*];done)),H',⟨by have:=HJ2.out;first|omega|exact Nat.le_refl _⟩,⟨by (with_reducible repeat (first|refine bkN ?_ _|refine bkD ?_|refine bkA ?_ _));exact BK242.out⟩,⟨by (with_reducible repeat (first|refine bkN ?_ _|refine bkD ?_|refine bkA ?_ _));exact BK249.out⟩,⟨by repeat (first|(with_reducible first|exact HB.out|apply bal|apply pbN|apply bd1|refine bst ?_ GE242.out|refine bst ?_ GE249.out)|exact HB.out)⟩⟩
        · replace c43:=Bool.eq_false_iff.mpr c43
          subst c43;have H1:(if a0_2.toList = ([]:List UInt8) then (if t246 = true then (if t247 = true then (impl_isReq.j1 kj2 false a0_0 a0_1 a0_2 a0_3 a0_4) else (impl_isReq.j1 kj2 (a0_4.toList != ([]:List UInt8)) a0_0 a0_1 a0_2 a0_3 a0_4)) else (if a0_3 = 0 then (if t247 = true then (impl_isReq.j1 kj2 false a0_0 a0_1 a0_2 a0_3 a0_4) else (impl_isReq.j1 kj2 (a0_4.toList != ([]:List UInt8)) a0_0 a0_1 a0_2 a0_3 a0_4)) else (impl_isReq.j1 kj2 true a0_0 a0_1 a0_2 a0_3 a0_4))) else (impl_isReq.j1 kj2 true a0_0 a0_1 a0_2 a0_3 a0_4)) = some r:=by rw [if_neg (show ¬ (false = true) by decide)] at H;exact H
          clear H;have H:=H1;clear H1;by_cases c62:a0_2.toList = ([]:List UInt8)
          · rw [if_pos c62] at H
            have c62b0:(a0_2.toList == ([]:List UInt8)) = true:=beq_iff_eq.mpr c62;have c62b1:(a0_2.toList != ([]:List UInt8)) = false:=bne_eq_false_iff_eq.mpr c62;clear c62;by_cases c63:t246 = true
            · subst c63
              have H1:(if t247 = true then (impl_isReq.j1 kj2 false a0_0 a0_1 a0_2 a0_3 a0_4) else (impl_isReq.j1 kj2 (a0_4.toList != ([]:List UInt8)) a0_0 a0_1 a0_2 a0_3 a0_4)) = some r:=by rw [if_pos rfl] at H;exact H
              clear H;have H:=H1;clear H1;by_cases c64:t247 = true
              · subst c64
                have H1:(impl_isReq.j1 kj2 false a0_0 a0_1 a0_2 a0_3 a0_4) = some r:=by rw [if_pos rfl] at H;exact H
                clear H;have H:=H1;clear H1;have H':=As0.mk H;clear H;have hnb65:=NB249_242.out;have hnc65:=NB242_249.out;obtain ⟨hcz66_0,hcz66_1,hcz66_2,hcz66_3,hcz66_4⟩:=qc5 BK249.out;obtain ⟨hfz66_0,hfz66_1,hfz66_2,hfz66_3,hfz66_4⟩:=qz5 BK249.out;obtain ⟨hcz67_0,hcz67_1,hcz67_2,hcz67_3,hcz67_4⟩:=qc5 BK242.out;obtain ⟨hfz67_0,hfz67_1,hfz67_2,hfz67_3,hfz67_4⟩:=qz5 BK242.out
                go_wp2
                show _;go_meet
                case rel=>exact ⟨_,(false),(by first|rfl|(simp;done)|(simp [*];done)),H',⟨by have:=HJ2.out;first|omega|exact Nat.le_refl _⟩,⟨by (with_reducible repeat (first|refine bkN ?_ _|refine bkD ?_|refine bkA ?_ _));exact BK242.out⟩,⟨by (with_reducible repeat (first|refine bkN ?_ _|refine bkD ?_|refine bkA ?_ _));exact BK249.out⟩,⟨by repeat (first|(with_reducible first|exact HB.out|apply bal|apply pbN|apply bd1|refine bst ?_ GE242.out|refine bst ?_ GE249.out)|exact HB.out)⟩⟩
              · replace c64:=Bool.eq_false_iff.mpr c64
                subst c64;have H1:(impl_isReq.j1 kj2 (a0_4.toList != ([]:List UInt8)) a0_0 a0_1 a0_2 a0_3 a0_4) = some r:=by rw [if_neg (show ¬ (false = true) by decide)] at H;exact H
                clear H;have H:=H1;clear H1;have H':=As0.mk H;clear H;have hnb68:=NB249_242.out;have hnc68:=NB242_249.out;obtain ⟨hcz69_0,hcz69_1,hcz69_2,hcz69_3,hcz69_4⟩:=qc5 BK249.out;obtain ⟨hfz69_0,hfz69_1,hfz69_2,hfz69_3,hfz69_4⟩:=qz5 BK249.out;obtain ⟨hcz70_0,hcz70_1,hcz70_2,hcz70_3,hcz70_4⟩:=qc5 BK242.out;obtain ⟨hfz70_0,hfz70_1,hfz70_2,hfz70_3,hfz70_4⟩:=qz5 BK242.out
                go_wp2
                show _;go_meet
                case rel=>exact ⟨_,((a0_4.toList != ([]:List UInt8))),(by first|rfl|(simp;done)|(simp;cases a0_4.toList <;> rfl)|(simp [*];done)),H',⟨by have:=HJ2.out;first|omega|exact Nat.le_refl _⟩,⟨by (with_reducible repeat (first|refine bkN ?_ _|refine bkD ?_|refine bkA ?_ _));exact BK242.out⟩,⟨by (with_reducible repeat (first|refine bkN ?_ _|refine bkD ?_|refine bkA ?_ _));exact BK249.out⟩,⟨by repeat (first|(with_reducible first|exact HB.out|apply bal|apply pbN|apply bd1|refine bst ?_ GE242.out|refine bst ?_ GE249.out)|exact HB.out)⟩⟩
            · replace c63:=Bool.eq_false_iff.mpr c63
              subst c63;have H1:(if a0_3 = 0 then (if t247 = true then (impl_isReq.j1 kj2 false a0_0 a0_1 a0_2 a0_3 a0_4) else (impl_isReq.j1 kj2 (a0_4.toList != ([]:List UInt8)) a0_0 a0_1 a0_2 a0_3 a0_4)) else (impl_isReq.j1 kj2 true a0_0 a0_1 a0_2 a0_3 a0_4)) = some r:=by rw [if_neg (show ¬ (false = true) by decide)] at H;exact H
              clear H;have H:=H1;clear H1;by_cases c71:a0_3 = 0
              · rw [if_pos c71] at H
                have c71b0:(a0_3 == 0) = true:=beq_iff_eq.mpr c71;have c71b1:(a0_3 != 0) = false:=bne_eq_false_iff_eq.mpr c71;clear c71;by_cases c72:t247 = true
                · subst c72
                  have H1:(impl_isReq.j1 kj2 false a0_0 a0_1 a0_2 a0_3 a0_4) = some r:=by rw [if_pos rfl] at H;exact H
                  clear H;have H:=H1;clear H1;have H':=As0.mk H;clear H;have hnb73:=NB249_242.out;have hnc73:=NB242_249.out;obtain ⟨hcz74_0,hcz74_1,hcz74_2,hcz74_3,hcz74_4⟩:=qc5 BK249.out;obtain ⟨hfz74_0,hfz74_1,hfz74_2,hfz74_3,hfz74_4⟩:=qz5 BK249.out;obtain ⟨hcz75_0,hcz75_1,hcz75_2,hcz75_3,hcz75_4⟩:=qc5 BK242.out;obtain ⟨hfz75_0,hfz75_1,hfz75_2,hfz75_3,hfz75_4⟩:=qz5 BK242.out
                  go_wp2
                  show _;go_meet
                  case rel=>exact ⟨_,(false),(by first|rfl|(simp;done)|(simp [*];done)),H',⟨by have:=HJ2.out;first|omega|exact Nat.le_refl _⟩,⟨by (with_reducible repeat (first|refine bkN ?_ _|refine bkD ?_|refine bkA ?_ _));exact BK242.out⟩,⟨by (with_reducible repeat (first|refine bkN ?_ _|refine bkD ?_|refine bkA ?_ _));exact BK249.out⟩,⟨by repeat (first|(with_reducible first|exact HB.out|apply bal|apply pbN|apply bd1|refine bst ?_ GE242.out|refine bst ?_ GE249.out)|exact HB.out)⟩⟩
                · replace c72:=Bool.eq_false_iff.mpr c72
                  subst c72;have H1:(impl_isReq.j1 kj2 (a0_4.toList != ([]:List UInt8)) a0_0 a0_1 a0_2 a0_3 a0_4) = some r:=by rw [if_neg (show ¬ (false = true) by decide)] at H;exact H
                  clear H;have H:=H1;clear H1;have H':=As0.mk H;clear H;have hnb76:=NB249_242.out;have hnc76:=NB242_249.out;obtain ⟨hcz77_0,hcz77_1,hcz77_2,hcz77_3,hcz77_4⟩:=qc5 BK249.out;obtain ⟨hfz77_0,hfz77_1,hfz77_2,hfz77_3,hfz77_4⟩:=qz5 BK249.out;obtain ⟨hcz78_0,hcz78_1,hcz78_2,hcz78_3,hcz78_4⟩:=qc5 BK242.out;obtain ⟨hfz78_0,hfz78_1,hfz78_2,hfz78_3,hfz78_4⟩:=qz5 BK242.out
                  go_wp2
                  show _;go_meet
                  case rel=>exact ⟨_,((a0_4.toList != ([]:List UInt8))),(by first|rfl|(simp;done)|(simp;cases a0_4.toList <;> rfl)|(simp [*];done)),H',⟨by have:=HJ2.out;first|omega|exact Nat.le_refl _⟩,⟨by (with_reducible repeat (first|refine bkN ?_ _|refine bkD ?_|refine bkA ?_ _));exact BK242.out⟩,⟨by (with_reducible repeat (first|refine bkN ?_ _|refine bkD ?_|refine bkA ?_ _));exact BK249.out⟩,⟨by repeat (first|(with_reducible first|exact HB.out|apply bal|apply pbN|apply bd1|refine bst ?_ GE242.out|refine bst ?_ GE249.out)|exact HB.out)⟩⟩
              · rw [if_neg c71] at H
                have c71b0:(a0_3 == 0) = false:=beq_eq_false_iff_ne.mpr c71;have c71b1:(a0_3 != 0) = true:=bne_iff_ne.mpr c71;have H':=As0.mk H;clear H;have hnb79:=NB249_242.out;have hnc79:=NB242_249.out;obtain ⟨hcz80_0,hcz80_1,hcz80_2,hcz80_3,hcz80_4⟩:=qc5 BK249.out;obtain ⟨hfz80_0,hfz80_1,hfz80_2,hfz80_3,hfz80_4⟩:=qz5 BK249.out;obtain ⟨hcz81_0,hcz81_1,hcz81_2,hcz81_3,hcz81_4⟩:=qc5 BK242.out;obtain ⟨hfz81_0,hfz81_1,hfz81_2,hfz81_3,hfz81_4⟩:=qz5 BK242.out
                go_wp2
                show _;go_meet
                case rel=>exact ⟨_,(true),(by first|rfl|(simp;done)|(simp [*];done)),H',⟨by have:=HJ2.out;first|omega|exact Nat.le_refl _⟩,⟨by (with_reducible repeat (first|refine bkN ?_ _|refine bkD ?_|refine bkA ?_ _));exact BK242.out⟩,⟨by (with_reducible repeat (first|refine bkN ?_ _|refine bkD ?_|refine bkA ?_ _));exact BK249.out⟩,⟨by repeat (first|(with_reducible first|exact HB.out|apply bal|apply pbN|apply bd1|refine bst ?_ GE242.out|refine bst ?_ GE249.out)|exact HB.out)⟩⟩
          · rw [if_neg c62] at H
            have c62b0:(a0_2.toList == ([]:List UInt8)) = false:=beq_eq_false_iff_ne.mpr c62;have c62b1:(a0_2.toList != ([]:List UInt8)) = true:=bne_iff_ne.mpr c62;have H':=As0.mk H;clear H;have hnb82:=NB249_242.out;have hnc82:=NB242_249.out;obtain ⟨hcz83_0,hcz83_1,hcz83_2,hcz83_3,hcz83_4⟩:=qc5 BK249.out;obtain ⟨hfz83_0,hfz83_1,hfz83_2,hfz83_3,hfz83_4⟩:=qz5 BK249.out;obtain ⟨hcz84_0,hcz84_1,hcz84_2,hcz84_3,hcz84_4⟩:=qc5 BK242.out;obtain ⟨hfz84_0,hfz84_1,hfz84_2,hfz84_3,hfz84_4⟩:=qz5 BK242.out
            go_wp2
            show _;go_meet
            case rel=>exact ⟨_,(true),(by first|rfl|(simp;done)|(simp [*];done)),H',⟨by have:=HJ2.out;first|omega|exact Nat.le_refl _⟩,⟨by (with_reducible repeat (first|refine bkN ?_ _|refine bkD ?_|refine bkA ?_ _));exact BK242.out⟩,⟨by (with_reducible repeat (first|refine bkN ?_ _|refine bkD ?_|refine bkA ?_ _));exact BK249.out⟩,⟨by repeat (first|(with_reducible first|exact HB.out|apply bal|apply pbN|apply bd1|refine bst ?_ GE242.out|refine bst ?_ GE249.out)|exact HB.out)⟩⟩
      · replace c42:=Bool.eq_false_iff.mpr c42
        subst c42;have H1:(if a0_1.toList = ([]:List UInt8) then (if t245 = true then (if t246 = true then (if t247 = true then (impl_isReq.j1 kj2 false a0_0 a0_1 a0_2 a0_3 a0_4) else (impl_isReq.j1 kj2 (a0_4.toList != ([]:List UInt8)) a0_0 a0_1 a0_2 a0_3 a0_4)) else (if a0_3 = 0 then (if t247 = true then (impl_isReq.j1 kj2 false a0_0 a0_1 a0_2 a0_3 a0_4) else (impl_isReq.j1 kj2 (a0_4.toList != ([]:List UInt8)) a0_0 a0_1 a0_2 a0_3 a0_4)) else (impl_isReq.j1 kj2 true a0_0 a0_1 a0_2 a0_3 a0_4))) else (if a0_2.toList = ([]:List UInt8) then (if t246 = true then (if t247 = true then (impl_isReq.j1 kj2 false a0_0 a0_1 a0_2 a0_3 a0_4) else (impl_isReq.j1 kj2 (a0_4.toList != ([]:List UInt8)) a0_0 a0_1 a0_2 a0_3 a0_4)) else (if a0_3 = 0 then (if t247 = true then (impl_isReq.j1 kj2 false a0_0 a0_1 a0_2 a0_3 a0_4) else (impl_isReq.j1 kj2 (a0_4.toList != ([]:List UInt8)) a0_0 a0_1 a0_2 a0_3 a0_4)) else (impl_isReq.j1 kj2 true a0_0 a0_1 a0_2 a0_3 a0_4))) else (impl_isReq.j1 kj2 true a0_0 a0_1 a0_2 a0_3 a0_4))) else (impl_isReq.j1 kj2 true a0_0 a0_1 a0_2 a0_3 a0_4)) = some r:=by rw [if_neg (show ¬ (false = true) by decide)] at H;exact H
        clear H;have H:=H1;clear H1;by_cases c85:a0_1.toList = ([]:List UInt8)
        · rw [if_pos c85] at H
          have c85b0:(a0_1.toList == ([]:List UInt8)) = true:=beq_iff_eq.mpr c85;have c85b1:(a0_1.toList != ([]:List UInt8)) = false:=bne_eq_false_iff_eq.mpr c85;clear c85;by_cases c86:t245 = true
          · subst c86
            have H1:(if t246 = true then (if t247 = true then (impl_isReq.j1 kj2 false a0_0 a0_1 a0_2 a0_3 a0_4) else (impl_isReq.j1 kj2 (a0_4.toList != ([]:List UInt8)) a0_0 a0_1 a0_2 a0_3 a0_4)) else (if a0_3 = 0 then (if t247 = true then (impl_isReq.j1 kj2 false a0_0 a0_1 a0_2 a0_3 a0_4) else (impl_isReq.j1 kj2 (a0_4.toList != ([]:List UInt8)) a0_0 a0_1 a0_2 a0_3 a0_4)) else (impl_isReq.j1 kj2 true a0_0 a0_1 a0_2 a0_3 a0_4))) = some r:=by rw [if_pos rfl] at H;exact H
            clear H;have H:=H1;clear H1;by_cases c87:t246 = true
            · subst c87
              have H1:(if t247 = true then (impl_isReq.j1 kj2 false a0_0 a0_1 a0_2 a0_3 a0_4) else (impl_isReq.j1 kj2 (a0_4.toList != ([]:List UInt8)) a0_0 a0_1 a0_2 a0_3 a0_4)) = some r:=by rw [if_pos rfl] at H;exact H
              clear H;have H:=H1;clear H1;by_cases c88:t247 = true
              · subst c88
                have H1:(impl_isReq.j1 kj2 false a0_0 a0_1 a0_2 a0_3 a0_4) = some r:=by rw [if_pos rfl] at H;exact H
                clear H;have H:=H1;clear H1;have H':=As0.mk H;clear H;have hnb89:=NB249_242.out;have hnc89:=NB242_249.out;obtain ⟨hcz90_0,hcz90_1,hcz90_2,hcz90_3,hcz90_4⟩:=qc5 BK249.out;obtain ⟨hfz90_0,hfz90_1,hfz90_2,hfz90_3,hfz90_4⟩:=qz5 BK249.out;obtain ⟨hcz91_0,hcz91_1,hcz91_2,hcz91_3,hcz91_4⟩:=qc5 BK242.out;obtain ⟨hfz91_0,hfz91_1,hfz91_2,hfz91_3,hfz91_4⟩:=qz5 BK242.out
                go_wp2
                show _;go_meet
                case rel=>exact ⟨_,(false),(by first|rfl|(simp;done)|(simp [*];done)),H',⟨by have:=HJ2.out;first|omega|exact Nat.le_refl _⟩,⟨by (with_reducible repeat (first|refine bkN ?_ _|refine bkD ?_|refine bkA ?_ _));exact BK242.out⟩,⟨by (with_reducible repeat (first|refine bkN ?_ _|refine bkD ?_|refine bkA ?_ _));exact BK249.out⟩,⟨by repeat (first|(with_reducible first|exact HB.out|apply bal|apply pbN|apply bd1|refine bst ?_ GE242.out|refine bst ?_ GE249.out)|exact HB.out)⟩⟩
              · replace c88:=Bool.eq_false_iff.mpr c88
                subst c88;have H1:(impl_isReq.j1 kj2 (a0_4.toList != ([]:List UInt8)) a0_0 a0_1 a0_2 a0_3 a0_4) = some r:=by rw [if_neg (show ¬ (false = true) by decide)] at H;exact H
                clear H;have H:=H1;clear H1;have H':=As0.mk H;clear H;have hnb92:=NB249_242.out;have hnc92:=NB242_249.out;obtain ⟨hcz93_0,hcz93_1,hcz93_2,hcz93_3,hcz93_4⟩:=qc5 BK249.out;obtain ⟨hfz93_0,hfz93_1,hfz93_2,hfz93_3,hfz93_4⟩:=qz5 BK249.out;obtain ⟨hcz94_0,hcz94_1,hcz94_2,hcz94_3,hcz94_4⟩:=qc5 BK242.out;obtain ⟨hfz94_0,hfz94_1,hfz94_2,hfz94_3,hfz94_4⟩:=qz5 BK242.out
                go_wp2
                show _;go_meet
                case rel=>exact ⟨_,((a0_4.toList != ([]:List UInt8))),(by first|rfl|(simp;done)|(simp;cases a0_4.toList <;> rfl)|(simp [*];done)),H',⟨by have:=HJ2.out;first|omega|exact Nat.le_refl _⟩,⟨by (with_reducible repeat (first|refine bkN ?_ _|refine bkD ?_|refine bkA ?_ _));exact BK242.out⟩,⟨by (with_reducible repeat (first|refine bkN ?_ _|refine bkD ?_|refine bkA ?_ _));exact BK249.out⟩,⟨by repeat (first|(with_reducible first|exact HB.out|apply bal|apply pbN|apply bd1|refine bst ?_ GE242.out|refine bst ?_ GE249.out)|exact HB.out)⟩⟩
            · replace c87:=Bool.eq_false_iff.mpr c87
              subst c87;have H1:(if a0_3 = 0 then (if t247 = true then (impl_isReq.j1 kj2 false a0_0 a0_1 a0_2 a0_3 a0_4) else (impl_isReq.j1 kj2 (a0_4.toList != ([]:List UInt8)) a0_0 a0_1 a0_2 a0_3 a0_4)) else (impl_isReq.j1 kj2 true a0_0 a0_1 a0_2 a0_3 a0_4)) = some r:=by rw [if_neg (show ¬ (false = true) by decide)] at H;exact H
              clear H;have H:=H1;clear H1;by_cases c95:a0_3 = 0
              · rw [if_pos c95] at H
                have c95b0:(a0_3 == 0) = true:=beq_iff_eq.mpr c95;have c95b1:(a0_3 != 0) = false:=bne_eq_false_iff_eq.mpr c95;clear c95;by_cases c96:t247 = true
                · subst c96
                  have H1:(impl_isReq.j1 kj2 false a0_0 a0_1 a0_2 a0_3 a0_4) = some r:=by rw [if_pos rfl] at H;exact H
                  clear H;have H:=H1;clear H1;have H':=As0.mk H;clear H;have hnb97:=NB249_242.out;have hnc97:=NB242_249.out;obtain ⟨hcz98_0,hcz98_1,hcz98_2,hcz98_3,hcz98_4⟩:=qc5 BK249.out;obtain ⟨hfz98_0,hfz98_1,hfz98_2,hfz98_3,hfz98_4⟩:=qz5 BK249.out;obtain ⟨hcz99_0,hcz99_1,hcz99_2,hcz99_3,hcz99_4⟩:=qc5 BK242.out;obtain ⟨hfz99_0,hfz99_1,hfz99_2,hfz99_3,hfz99_4⟩:=qz5 BK242.out
                  go_wp2
                  show _;go_meet
                  case rel=>exact ⟨_,(false),(by first|rfl|(simp;done)|(simp [*];done)),H',⟨by have:=HJ2.out;first|omega|exact Nat.le_refl _⟩,⟨by (with_reducible repeat (first|refine bkN ?_ _|refine bkD ?_|refine bkA ?_ _));exact BK242.out⟩,⟨by (with_reducible repeat (first|refine bkN ?_ _|refine bkD ?_|refine bkA ?_ _));exact BK249.out⟩,⟨by repeat (first|(with_reducible first|exact HB.out|apply bal|apply pbN|apply bd1|refine bst ?_ GE242.out|refine bst ?_ GE249.out)|exact HB.out)⟩⟩
                · replace c96:=Bool.eq_false_iff.mpr c96
                  subst c96;have H1:(impl_isReq.j1 kj2 (a0_4.toList != ([]:List UInt8)) a0_0 a0_1 a0_2 a0_3 a0_4) = some r:=by rw [if_neg (show ¬ (false = true) by decide)] at H;exact H
                  clear H;have H:=H1;clear H1;have H':=As0.mk H;clear H;have hnb100:=NB249_242.out;have hnc100:=NB242_249.out;obtain ⟨hcz101_0,hcz101_1,hcz101_2,hcz101_3,hcz101_4⟩:=qc5 BK249.out;obtain ⟨hfz101_0,hfz101_1,hfz101_2,hfz101_3,hfz101_4⟩:=qz5 BK249.out;obtain ⟨hcz102_0,hcz102_1,hcz102_2,hcz102_3,hcz102_4⟩:=qc5 BK242.out;obtain ⟨hfz102_0,hfz102_1,hfz102_2,hfz102_3,hfz102_4⟩:=qz5 BK242.out
                  go_wp2
                  show _;go_meet
                  case rel=>exact ⟨_,((a0_4.toList != ([]:List UInt8))),(by first|rfl|(simp;done)|(simp;cases a0_4.toList <;> rfl)|(simp [*];done)),H',⟨by have:=HJ2.out;first|omega|exact Nat.le_refl _⟩,⟨by (with_reducible repeat (first|refine bkN ?_ _|refine bkD ?_|refine bkA ?_ _));exact BK242.out⟩,⟨by (with_reducible repeat (first|refine bkN ?_ _|refine bkD ?_|refine bkA ?_ _));exact BK249.out⟩,⟨by repeat (first|(with_reducible first|exact HB.out|apply bal|apply pbN|apply bd1|refine bst ?_ GE242.out|refine bst ?_ GE249.out)|exact HB.out)⟩⟩
              · rw [if_neg c95] at H
                have c95b0:(a0_3 == 0) = false:=beq_eq_false_iff_ne.mpr c95;have c95b1:(a0_3 != 0) = true:=bne_iff_ne.mpr c95;have H':=As0.mk H;clear H;have hnb103:=NB249_242.out;have hnc103:=NB242_249.out;obtain ⟨hcz104_0,hcz104_1,hcz104_2,hcz104_3,hcz104_4⟩:=qc5 BK249.out;obtain ⟨hfz104_0,hfz104_1,hfz104_2,hfz104_3,hfz104_4⟩:=qz5 BK249.out;obtain ⟨hcz105_0,hcz105_1,hcz105_2,hcz105_3,hcz105_4⟩:=qc5 BK242.out;obtain ⟨hfz105_0,hfz105_1,hfz105_2,hfz105_3,hfz105_4⟩:=qz5 BK242.out
                go_wp2
                show _;go_meet
                case rel=>exact ⟨_,(true),(by first|rfl|(simp;done)|(simp [*];done)),H',⟨by have:=HJ2.out;first|omega|exact Nat.le_refl _⟩,⟨by (with_reducible repeat (first|refine bkN ?_ _|refine bkD ?_|refine bkA ?_ _));exact BK242.out⟩,⟨by (with_reducible repeat (first|refine bkN ?_ _|refine bkD ?_|refine bkA ?_ _));exact BK249.out⟩,⟨by repeat (first|(with_reducible first|exact HB.out|apply bal|apply pbN|apply bd1|refine bst ?_ GE242.out|refine bst ?_ GE249.out)|exact HB.out)⟩⟩
          · replace c86:=Bool.eq_false_iff.mpr c86
            subst c86;have H1:(if a0_2.toList = ([]:List UInt8) then (if t246 = true then (if t247 = true then (impl_isReq.j1 kj2 false a0_0 a0_1 a0_2 a0_3 a0_4) else (impl_isReq.j1 kj2 (a0_4.toList != ([]:List UInt8)) a0_0 a0_1 a0_2 a0_3 a0_4)) else (if a0_3 = 0 then (if t247 = true then (impl_isReq.j1 kj2 false a0_0 a0_1 a0_2 a0_3 a0_4) else (impl_isReq.j1 kj2 (a0_4.toList != ([]:List UInt8)) a0_0 a0_1 a0_2 a0_3 a0_4)) else (impl_isReq.j1 kj2 true a0_0 a0_1 a0_2 a0_3 a0_4))) else (impl_isReq.j1 kj2 true a0_0 a0_1 a0_2 a0_3 a0_4)) = some r:=by rw [if_neg (show ¬ (false = true) by decide)] at H;exact H
            clear H;have H:=H1;clear H1;by_cases c106:a0_2.toList = ([]:List UInt8)
            · rw [if_pos c106] at H
              have c106b0:(a0_2.toList == ([]:List UInt8)) = true:=beq_iff_eq.mpr c106;have c106b1:(a0_2.toList != ([]:List UInt8)) = false:=bne_eq_false_iff_eq.mpr c106;clear c106;by_cases c107:t246 = true
              · subst c107
                have H1:(if t247 = true then (impl_isReq.j1 kj2 false a0_0 a0_1 a0_2 a0_3 a0_4) else (impl_isReq.j1 kj2 (a0_4.toList != ([]:List UInt8)) a0_0 a0_1 a0_2 a0_3 a0_4)) = some r:=by rw [if_pos rfl] at H;exact H
                clear H;have H:=H1;clear H1;by_cases c108:t247 = true
                · subst c108
                  have H1:(impl_isReq.j1 kj2 false a0_0 a0_1 a0_2 a0_3 a0_4) = some r:=by rw [if_pos rfl] at H;exact H
                  clear H;have H:=H1;clear H1;have H':=As0.mk H;clear H;have hnb109:=NB249_242.out;have hnc109:=NB242_249.out;obtain ⟨hcz110_0,hcz110_1,hcz110_2,hcz110_3,hcz110_4⟩:=qc5 BK249.out;obtain ⟨hfz110_0,hfz110_1,hfz110_2,hfz110_3,hfz110_4⟩:=qz5 BK249.out;obtain ⟨hcz111_0,hcz111_1,hcz111_2,hcz111_3,hcz111_4⟩:=qc5 BK242.out;obtain ⟨hfz111_0,hfz111_1,hfz111_2,hfz111_3,hfz111_4⟩:=qz5 BK242.out
                  go_wp2
                  show _;go_meet
                  case rel=>exact ⟨_,(false),(by first|rfl|(simp;done)|(simp [*];done)),H',⟨by have:=HJ2.out;first|omega|exact Nat.le_refl _⟩,⟨by (with_reducible repeat (first|refine bkN ?_ _|refine bkD ?_|refine bkA ?_ _));exact BK242.out⟩,⟨by (with_reducible repeat (first|refine bkN ?_ _|refine bkD ?_|refine bkA ?_ _));exact BK249.out⟩,⟨by repeat (first|(with_reducible first|exact HB.out|apply bal|apply pbN|apply bd1|refine bst ?_ GE242.out|refine bst ?_ GE249.out)|exact HB.out)⟩⟩
                · replace c108:=Bool.eq_false_iff.mpr c108
                  subst c108;have H1:(impl_isReq.j1 kj2 (a0_4.toList != ([]:List UInt8)) a0_0 a0_1 a0_2 a0_3 a0_4) = some r:=by rw [if_neg (show ¬ (false = true) by decide)] at H;exact H
                  clear H;have H:=H1;clear H1;have H':=As0.mk H;clear H;have hnb112:=NB249_242.out;have hnc112:=NB242_249.out;obtain ⟨hcz113_0,hcz113_1,hcz113_2,hcz113_3,hcz113_4⟩:=qc5 BK249.out;obtain ⟨hfz113_0,hfz113_1,hfz113_2,hfz113_3,hfz113_4⟩:=qz5 BK249.out;obtain ⟨hcz114_0,hcz114_1,hcz114_2,hcz114_3,hcz114_4⟩:=qc5 BK242.out;obtain ⟨hfz114_0,hfz114_1,hfz114_2,hfz114_3,hfz114_4⟩:=qz5 BK242.out
                  go_wp2
                  show _;go_meet
                  case rel=>exact ⟨_,((a0_4.toList != ([]:List UInt8))),(by first|rfl|(simp;done)|(simp;cases a0_4.toList <;> rfl)|(simp [*];done)),H',⟨by have:=HJ2.out;first|omega|exact Nat.le_refl _⟩,⟨by (with_reducible repeat (first|refine bkN ?_ _|refine bkD ?_|refine bkA ?_ _));exact BK242.out⟩,⟨by (with_reducible repeat (first|refine bkN ?_ _|refine bkD ?_|refine bkA ?_ _));exact BK249.out⟩,⟨by repeat (first|(with_reducible first|exact HB.out|apply bal|apply pbN|apply bd1|refine bst ?_ GE242.out|refine bst ?_ GE249.out)|exact HB.out)⟩⟩
              · replace c107:=Bool.eq_false_iff.mpr c107
                subst c107;have H1:(if a0_3 = 0 then (if t247 = true then (impl_isReq.j1 kj2 false a0_0 a0_1 a0_2 a0_3 a0_4) else (impl_isReq.j1 kj2 (a0_4.toList != ([]:List UInt8)) a0_0 a0_1 a0_2 a0_3 a0_4)) else (impl_isReq.j1 kj2 true a0_0 a0_1 a0_2 a0_3 a0_4)) = some r:=by rw [if_neg (show ¬ (false = true) by decide)] at H;exact H
                clear H;have H:=H1;clear H1;by_cases c115:a0_3 = 0
                · rw [if_pos c115] at H
                  have c115b0:(a0_3 == 0) = true:=beq_iff_eq.mpr c115;have c115b1:(a0_3 != 0) = false:=bne_eq_false_iff_eq.mpr c115;clear c115;by_cases c116:t247 = true
                  · subst c116
                    have H1:(impl_isReq.j1 kj2 false a0_0 a0_1 a0_2 a0_3 a0_4) = some r:=by rw [if_pos rfl] at H;exact H
                    clear H;have H:=H1;clear H1;have H':=As0.mk H;clear H;have hnb117:=NB249_242.out;have hnc117:=NB242_249.out;obtain ⟨hcz118_0,hcz118_1,hcz118_2,hcz118_3,hcz118_4⟩:=qc5 BK249.out;obtain ⟨hfz118_0,hfz118_1,hfz118_2,hfz118_3,hfz118_4⟩:=qz5 BK249.out;obtain ⟨hcz119_0,hcz119_1,hcz119_2,hcz119_3,hcz119_4⟩:=qc5 BK242.out;obtain ⟨hfz119_0,hfz119_1,hfz119_2,hfz119_3,hfz119_4⟩:=qz5 BK242.out
                    go_wp2
                    show _;go_meet
                    case rel=>exact ⟨_,(false),(by first|rfl|(simp;done)|(simp [*];done)),H',⟨by have:=HJ2.out;first|omega|exact Nat.le_refl _⟩,⟨by (with_reducible repeat (first|refine bkN ?_ _|refine bkD ?_|refine bkA ?_ _));exact BK242.out⟩,⟨by (with_reducible repeat (first|refine bkN ?_ _|refine bkD ?_|refine bkA ?_ _));exact BK249.out⟩,⟨by repeat (first|(with_reducible first|exact HB.out|apply bal|apply pbN|apply bd1|refine bst ?_ GE242.out|refine bst ?_ GE249.out)|exact HB.out)⟩⟩
                  · replace c116:=Bool.eq_false_iff.mpr c116
                    subst c116;have H1:(impl_isReq.j1 kj2 (a0_4.toList != ([]:List UInt8)) a0_0 a0_1 a0_2 a0_3 a0_4) = some r:=by rw [if_neg (show ¬ (false = true) by decide)] at H;exact H
                    clear H;have H:=H1;clear H1;have H':=As0.mk H;clear H;have hnb120:=NB249_242.out;have hnc120:=NB242_249.out;obtain ⟨hcz121_0,hcz121_1,hcz121_2,hcz121_3,hcz121_4⟩:=qc5 BK249.out;obtain ⟨hfz121_0,hfz121_1,hfz121_2,hfz121_3,hfz121_4⟩:=qz5 BK249.out;obtain ⟨hcz122_0,hcz122_1,hcz122_2,hcz122_3,hcz122_4⟩:=qc5 BK242.out;obtain ⟨hfz122_0,hfz122_1,hfz122_2,hfz122_3,hfz122_4⟩:=qz5 BK242.out
                    go_wp2
                    show _;go_meet
                    case rel=>exact ⟨_,((a0_4.toList != ([]:List UInt8))),(by first|rfl|(simp;done)|(simp;cases a0_4.toList <;> rfl)|(simp [*];done)),H',⟨by have:=HJ2.out;first|omega|exact Nat.le_refl _⟩,⟨by (with_reducible repeat (first|refine bkN ?_ _|refine bkD ?_|refine bkA ?_ _));exact BK242.out⟩,⟨by (with_reducible repeat (first|refine bkN ?_ _|refine bkD ?_|refine bkA ?_ _));exact BK249.out⟩,⟨by repeat (first|(with_reducible first|exact HB.out|apply bal|apply pbN|apply bd1|refine bst ?_ GE242.out|refine bst ?_ GE249.out)|exact HB.out)⟩⟩
                · rw [if_neg c115] at H
                  have c115b0:(a0_3 == 0) = false:=beq_eq_false_iff_ne.mpr c115;have c115b1:(a0_3 != 0) = true:=bne_iff_ne.mpr c115;have H':=As0.mk H;clear H;have hnb123:=NB249_242.out;have hnc123:=NB242_249.out;obtain ⟨hcz124_0,hcz124_1,hcz124_2,hcz124_3,hcz124_4⟩:=qc5 BK249.out;obtain ⟨hfz124_0,hfz124_1,hfz124_2,hfz124_3,hfz124_4⟩:=qz5 BK249.out;obtain ⟨hcz125_0,hcz125_1,hcz125_2,hcz125_3,hcz125_4⟩:=qc5 BK242.out;obtain ⟨hfz125_0,hfz125_1,hfz125_2,hfz125_3,hfz125_4⟩:=qz5 BK242.out
                  go_wp2
                  show _;go_meet
                  case rel=>exact ⟨_,(true),(by first|rfl|(simp;done)|(simp [*];done)),H',⟨by have:=HJ2.out;first|omega|exact Nat.le_refl _⟩,⟨by (with_reducible repeat (first|refine bkN ?_ _|refine bkD ?_|refine bkA ?_ _));exact BK242.out⟩,⟨by (with_reducible repeat (first|refine bkN ?_ _|refine bkD ?_|refine bkA ?_ _));exact BK249.out⟩,⟨by repeat (first|(with_reducible first|exact HB.out|apply bal|apply pbN|apply bd1|refine bst ?_ GE242.out|refine bst ?_ GE249.out)|exact HB.out)⟩⟩
            · rw [if_neg c106] at H
              have c106b0:(a0_2.toList == ([]:List UInt8)) = false:=beq_eq_false_iff_ne.mpr c106;have c106b1:(a0_2.toList != ([]:List UInt8)) = true:=bne_iff_ne.mpr c106;have H':=As0.mk H;clear H;have hnb126:=NB249_242.out;have hnc126:=NB242_249.out;obtain ⟨hcz127_0,hcz127_1,hcz127_2,hcz127_3,hcz127_4⟩:=qc5 BK249.out;obtain ⟨hfz127_0,hfz127_1,hfz127_2,hfz127_3,hfz127_4⟩:=qz5 BK249.out;obtain ⟨hcz128_0,hcz128_1,hcz128_2,hcz128_3,hcz128_4⟩:=qc5 BK242.out;obtain ⟨hfz128_0,hfz128_1,hfz128_2,hfz128_3,hfz128_4⟩:=qz5 BK242.out
              go_wp2
              show _;go_meet
              case rel=>exact ⟨_,(true),(by first|rfl|(simp;done)|(simp [*];done)),H',⟨by have:=HJ2.out;first|omega|exact Nat.le_refl _⟩,⟨by (with_reducible repeat (first|refine bkN ?_ _|refine bkD ?_|refine bkA ?_ _));exact BK242.out⟩,⟨by (with_reducible repeat (first|refine bkN ?_ _|refine bkD ?_|refine bkA ?_ _));exact BK249.out⟩,⟨by repeat (first|(with_reducible first|exact HB.out|apply bal|apply pbN|apply bd1|refine bst ?_ GE242.out|refine bst ?_ GE249.out)|exact HB.out)⟩⟩
        · rw [if_neg c85] at H
          have c85b0:(a0_1.toList == ([]:List UInt8)) = false:=beq_eq_false_iff_ne.mpr c85;have c85b1:(a0_1.toList != ([]:List UInt8)) = true:=bne_iff_ne.mpr c85;have H':=As0.mk H;clear H;have hnb129:=NB249_242.out;have hnc129:=NB242_249.out;obtain ⟨hcz130_0,hcz130_1,hcz130_2,hcz130_3,hcz130_4⟩:=qc5 BK249.out;obtain ⟨hfz130_0,hfz130_1,hfz130_2,hfz130_3,hfz130_4⟩:=qz5 BK249.out;obtain ⟨hcz131_0,hcz131_1,hcz131_2,hcz131_3,hcz131_4⟩:=qc5 BK242.out;obtain ⟨hfz131_0,hfz131_1,hfz131_2,hfz131_3,hfz131_4⟩:=qz5 BK242.out
          go_wp2
          show _;go_meet
          case rel=>exact ⟨_,(true),(by first|rfl|(simp;done)|(simp [*];done)),H',⟨by have:=HJ2.out;first|omega|exact Nat.le_refl _⟩,⟨by (with_reducible repeat (first|refine bkN ?_ _|refine bkD ?_|refine bkA ?_ _));exact BK242.out⟩,⟨by (with_reducible repeat (first|refine bkN ?_ _|refine bkD ?_|refine bkA ?_ _));exact BK249.out⟩,⟨by repeat (first|(with_reducible first|exact HB.out|apply bal|apply pbN|apply bd1|refine bst ?_ GE242.out|refine bst ?_ GE249.out)|exact HB.out)⟩⟩
     case rest=>
      clear HC41
      try clear c1
      try clear p2
      try clear c4
      try clear c6
      try clear c7
      try clear c8
      try clear c9
      try clear c10
      try clear c11
      try clear c12
      try clear c42
      try clear c62
      try clear c62b0
      try clear c62b1
      try clear c63
      try clear c71
      try clear c71b0
      try clear c71b1
      try clear c72
      try clear c73
      try clear c76
      try clear c79
      try clear c82
      try clear c85
      try clear c85b0
      try clear c85b1
      try clear c86
      try clear c87
      try clear c88
      try clear c89
      try clear c92
      try clear c95
      try clear c95b0
      try clear c95b1
      try clear c96
      try clear c97
      try clear c100
      try clear c103
      try clear c106
      try clear c106b0
      try clear c106b1
      try clear c107
      try clear c108
      try clear c109
      try clear c112
      try clear c115
      try clear c115b0
      try clear c115b1
      try clear c116
      try clear c117
      try clear c120
      try clear c123
      try clear c126
      try clear c129
      try clear hcz101_0
      try clear hcz101_1
      try clear hcz101_2
      try clear hcz101_3
      try clear hcz101_4
      try clear hcz102_0
      try clear hcz102_1
      try clear hcz102_2
      try clear hcz102_3
      try clear hcz102_4
      try clear hcz104_0
      try clear hcz104_1
      try clear hcz104_2
      try clear hcz104_3
      try clear hcz104_4
      try clear hcz105_0
      try clear hcz105_1
      try clear hcz105_2
      try clear hcz105_3
      try clear hcz105_4
      try clear hcz110_0
      try clear hcz110_1
      try clear hcz110_2
      try clear hcz110_3
      try clear hcz110_4
      try clear hcz111_0
      try clear hcz111_1
      try clear hcz111_2
      try clear hcz111_3
      try clear hcz111_4
      try clear hcz113_0
      try clear hcz113_1
      try clear hcz113_2
      try clear hcz113_3
      try clear hcz113_4
      try clear hcz114_0
      try clear hcz114_1
      try clear hcz114_2
      try clear hcz114_3
      try clear hcz114_4
      try clear hcz118_0
      try clear hcz118_1
      try clear hcz118_2
      try clear hcz118_3
      try clear hcz118_4
      try clear hcz119_0
      try clear hcz119_1
      try clear hcz119_2
      try clear hcz119_3
      try clear hcz119_4
      try clear hcz121_0
      try clear hcz121_1
      try clear hcz121_2
      try clear hcz121_3
      try clear hcz121_4
      try clear hcz122_0
      try clear hcz122_1
      try clear hcz122_2
      try clear hcz122_3
      try clear hcz122_4
      try clear hcz124_0
      try clear hcz124_1
      try clear hcz124_2
      try clear hcz124_3
      try clear hcz124_4
      try clear hcz125_0
      try clear hcz125_1
      try clear hcz125_2
      try clear hcz125_3
      try clear hcz125_4
      try clear hcz127_0
      try clear hcz127_1
      try clear hcz127_2
      try clear hcz127_3
      try clear hcz127_4
      try clear hcz128_0
      try clear hcz128_1
      try clear hcz128_2
      try clear hcz128_3
      try clear hcz128_4
      try clear hcz130_0
      try clear hcz130_1
      try clear hcz130_2
      try clear hcz130_3
      try clear hcz130_4
      try clear hcz131_0
      try clear hcz131_1
      try clear hcz131_2
      try clear hcz131_3
      try clear hcz131_4
      try clear hcz70_0
      try clear hcz70_1
      try clear hcz70_2
      try clear hcz70_3
      try clear hcz70_4
      try clear hcz74_0
      try clear hcz74_1
      try clear hcz74_2
      try clear hcz74_3
      try clear hcz74_4
      try clear hcz75_0
      try clear hcz75_1
      try clear hcz75_2
      try clear hcz75_3
      try clear hcz75_4
      try clear hcz77_0
      try clear hcz77_1
      try clear hcz77_2
      try clear hcz77_3
      try clear hcz77_4
      try clear hcz78_0
      try clear hcz78_1
      try clear hcz78_2
      try clear hcz78_3
      try clear hcz78_4
      try clear hcz80_0
      try clear hcz80_1
      try clear hcz80_2
      try clear hcz80_3
      try clear hcz80_4
      try clear hcz81_0
      try clear hcz81_1
      try clear hcz81_2
      try clear hcz81_3
      try clear hcz81_4
      try clear hcz83_0
      try clear hcz83_1
      try clear hcz83_2
      try clear hcz83_3
      try clear hcz83_4
      try clear hcz84_0
      try clear hcz84_1
      try clear hcz84_2
      try clear hcz84_3
      try clear hcz84_4
      try clear hcz90_0
      try clear hcz90_1
      try clear hcz90_2
      try clear hcz90_3
      try clear hcz90_4
      try clear hcz91_0
      try clear hcz91_1
      try clear hcz91_2
      try clear hcz91_3
      try clear hcz91_4
      try clear hcz93_0
      try clear hcz93_1
      try clear hcz93_2
      try clear hcz93_3
      try clear hcz93_4
      try clear hcz94_0
      try clear hcz94_1
      try clear hcz94_2
      try clear hcz94_3
      try clear hcz94_4
      try clear hcz98_0
      try clear hcz98_1
      try clear hcz98_2
      try clear hcz98_3
      try clear hcz98_4
      try clear hcz99_0
      try clear hcz99_1
      try clear hcz99_2
      try clear hcz99_3
      try clear hcz99_4
      try clear hfz101_0
      try clear hfz101_1
      try clear hfz101_2
      try clear hfz101_3
      try clear hfz101_4
      try clear hfz102_0
      try clear hfz102_1
      try clear hfz102_2
      try clear hfz102_3
      try clear hfz102_4
      try clear hfz104_0
      try clear hfz104_1
      try clear hfz104_2
      try clear hfz104_3
      try clear hfz104_4
      try clear hfz105_0
      try clear hfz105_1
      try clear hfz105_2
      try clear hfz105_3
      try clear hfz105_4
      try clear hfz110_0
      try clear hfz110_1
      try clear hfz110_2
      try clear hfz110_3
      try clear hfz110_4
      try clear hfz111_0
      try clear hfz111_1
      try clear hfz111_2
      try clear hfz111_3
      try clear hfz111_4
      try clear hfz113_0
      try clear hfz113_1
      try clear hfz113_2
      try clear hfz113_3
      try clear hfz113_4
      try clear hfz114_0
      try clear hfz114_1
      try clear hfz114_2
      try clear hfz114_3
      try clear hfz114_4
      try clear hfz118_0
      try clear hfz118_1
      try clear hfz118_2
      try clear hfz118_3
      try clear hfz118_4
      try clear hfz119_0
      try clear hfz119_1
      try clear hfz119_2
      try clear hfz119_3
      try clear hfz119_4
      try clear hfz121_0
      try clear hfz121_1
      try clear hfz121_2
      try clear hfz121_3
      try clear hfz121_4
      try clear hfz122_0
      try clear hfz122_1
      try clear hfz122_2
      try clear hfz122_3
      try clear hfz122_4
      try clear hfz124_0
      try clear hfz124_1
      try clear hfz124_2
      try clear hfz124_3
      try clear hfz124_4
      try clear hfz125_0
      try clear hfz125_1
      try clear hfz125_2
      try clear hfz125_3
      try clear hfz125_4
      try clear hfz127_0
      try clear hfz127_1
      try clear hfz127_2
      try clear hfz127_3
      try clear hfz127_4
      try clear hfz128_0
      try clear hfz128_1
      try clear hfz128_2
      try clear hfz128_3
      try clear hfz128_4
      try clear hfz130_0
      try clear hfz130_1
      try clear hfz130_2
      try clear hfz130_3
      try clear hfz130_4
      try clear hfz131_0
      try clear hfz131_1
      try clear hfz131_2
      try clear hfz131_3
      try clear hfz131_4
      try clear hfz69_3
      try clear hfz69_4
      try clear hfz70_0
      try clear hfz70_1
      try clear hfz70_2
      try clear hfz70_3
      try clear hfz70_4
      try clear hfz74_0
      try clear hfz74_1
      try clear hfz74_2
      try clear hfz74_3
      try clear hfz74_4
      try clear hfz75_0
      try clear hfz75_1
      try clear hfz75_2
      try clear hfz75_3
      try clear hfz75_4
      try clear hfz77_0
      try clear hfz77_1
      try clear hfz77_2
      try clear hfz77_3
      try clear hfz77_4
      try clear hfz78_0
      try clear hfz78_1
      try clear hfz78_2
      try clear hfz78_3
      try clear hfz78_4
      try clear hfz80_0
      try clear hfz80_1
      try clear hfz80_2
      try clear hfz80_3
      try clear hfz80_4
      try clear hfz81_0
      try clear hfz81_1
      try clear hfz81_2
      try clear hfz81_3
      try clear hfz81_4
      try clear hfz83_0
      try clear hfz83_1
      try clear hfz83_2
      try clear hfz83_3
      try clear hfz83_4
      try clear hfz84_0
      try clear hfz84_1
      try clear hfz84_2
      try clear hfz84_3
      try clear hfz84_4
      try clear hfz90_0
      try clear hfz90_1
      try clear hfz90_2
      try clear hfz90_3
      try clear hfz90_4
      try clear hfz91_0
      try clear hfz91_1
      try clear hfz91_2
      try clear hfz91_3
      try clear hfz91_4
      try clear hfz93_0
      try clear hfz93_1
      try clear hfz93_2
      try clear hfz93_3
      try clear hfz93_4
      try clear hfz94_0
      try clear hfz94_1
      try clear hfz94_2
      try clear hfz94_3
      try clear hfz94_4
      try clear hfz98_0
      try clear hfz98_1
      try clear hfz98_2
      try clear hfz98_3
      try clear hfz98_4
      try clear hfz99_0
      try clear hfz99_1
      try clear hfz99_2
      try clear hfz99_3
      try clear hfz99_4
      obtain ⟨kq,x70_40,rfl,HA,HJ40,BK242,BK249,HB⟩:=hcut
      cases kq with
      |zero=>exact absurd HA.out (by simp [impl_isReq.j1])
      |succ kj40=>
       have H:=HA.out;clear HA;simp only [impl_isReq.j1] at H;by_cases c132:x70_40 = true
       · subst c132
         have H1:(some false) = some r:=by rw [if_pos rfl] at H;exact H
         clear H;have H:=H1;clear H1;obtain rfl:=Option.some.inj H
         go_wp2
         go_ret
         exact ⟨eW,by repeat (first|(with_reducible first|exact HB.out|apply bal|apply pbN|apply bd1|refine bst ?_ GE242.out|refine bst ?_ GE249.out)|exact HB.out)⟩
       · replace c132:=Bool.eq_false_iff.mpr c132
         subst c132;have H1:(if a0_3 < (-1) then (impl_isReq.j2 kj40 true a0_0 a0_1 a0_2 a0_3 a0_4) else (if a0_3 > 99999 then (impl_isReq.j2 kj40 true a0_0 a0_1 a0_2 a0_3 a0_4) else (if a0_3 < 0 then (if a0_0 = 5 then (impl_isReq.j2 kj40 true a0_0 a0_1 a0_2 a0_3 a0_4) else (impl_isReq.j2 kj40 (a0_0 == 11) a0_0 a0_1 a0_2 a0_3 a0_4)) else (impl_isReq.j2 kj40 false a0_0 a0_1 a0_2 a0_3 a0_4)))) = some r:=by rw [if_neg (show ¬ (false = true) by decide)] at H;exact H
         clear H;have H:=H1;clear H1;have HC133:=As0.mk H;clear H
         show _;go_upto_region 6 with (fail)
         show _;go_cut [93] (fun v93 wc=>∃ (kq:Nat) (x93_132:Bool),v93 = .bool x93_132 ∧ As0 (impl_isReq.j2 kq x93_132 a0_0 a0_1 a0_2 a0_3 a0_4 = some r) ∧ As0 (kq ≤ kj40) ∧ As0 (wc.heap[gb242]? = some (.cells #[.int .i64 a0_0,.string a0_1,.string a0_2,.int .i64 a0_3,.string a0_4] 25 (0,0))) ∧ As0 (wc.heap[gb249]? = some (.cells #[.string t243,.bool t244,.bool t245,.bool t246,.bool t247] 53 (0,0))) ∧ As0 (Below w.heap.size w wc))
         case first=>
          have H:=HC133.out;clear HC133;by_cases c134:a0_3 < (-1)
          · rw [if_pos c134] at H
            have c134b0:decide (a0_3 < (-1)) = true:=decide_eq_true c134;clear c134
            (first|rw [c134b0]|(simp only [i64_w,i32_w];rw [c134b0])|skip)
            have H':=As0.mk H;clear H;have hnb135:=NB242_249.out;have hnc135:=NB249_242.out;obtain ⟨hcz136_0,hcz136_1,hcz136_2,hcz136_3,hcz136_4⟩:=qc5 BK242.out;obtain ⟨hfz136_0,hfz136_1,hfz136_2,hfz136_3,hfz136_4⟩:=qz5 BK242.out
            go_wp2
            show _;go_meet
            case rel=>exact ⟨_,(true),(by first|rfl|(simp;done)|(simp [*];done)),H',⟨by have:=HJ2.out;have:=HJ40.out;first|omega|exact Nat.le_refl _⟩,⟨by (with_reducible repeat (first|refine bkN ?_ _|refine bkD ?_|refine bkA ?_ _));exact BK242.out⟩,⟨by (with_reducible repeat (first|refine bkN ?_ _|refine bkD ?_|refine bkA ?_ _));exact BK249.out⟩,⟨by repeat (first|(with_reducible first|exact HB.out|apply bal|apply pbN|apply bd1|refine bst ?_ GE242.out|refine bst ?_ GE249.out)|exact HB.out)⟩⟩
          · rw [if_neg c134] at H
            have c134b0:decide (a0_3 < (-1)) = false:=decide_eq_false c134;clear c134
            (first|rw [c134b0]|(simp only [i64_w,i32_w];rw [c134b0])|skip)
            by_cases c137:a0_3 > 99999
            · rw [if_pos c137] at H
              have c137b0:decide (99999 < a0_3) = true:=decide_eq_true c137;clear c137;have H':=As0.mk H;clear H;have hnb138:=NB242_249.out;have hnc138:=NB249_242.out;obtain ⟨hcz139_0,hcz139_1,hcz139_2,hcz139_3,hcz139_4⟩:=qc5 BK242.out;obtain ⟨hfz139_0,hfz139_1,hfz139_2,hfz139_3,hfz139_4⟩:=qz5 BK242.out
              go_wp2
              show _;go_meet
              case rel=>exact ⟨_,(true),(by first|rfl|(simp;done)|(simp [*];done)),H',⟨by have:=HJ2.out;have:=HJ40.out;first|omega|exact Nat.le_refl _⟩,⟨by (with_reducible repeat (first|refine bkN ?_ _|refine bkD ?_|refine bkA ?_ _));exact BK242.out⟩,⟨by (with_reducible repeat (first|refine bkN ?_ _|refine bkD ?_|refine bkA ?_ _));exact BK249.out⟩,⟨by repeat (first|(with_reducible first|exact HB.out|apply bal|apply pbN|apply bd1|refine bst ?_ GE242.out|refine bst ?_ GE249.out)|exact HB.out)⟩⟩
            · rw [if_neg c137] at H
              have c137b0:decide (99999 < a0_3) = false:=decide_eq_false c137;clear c137;by_cases c140:a0_3 < 0
              · rw [if_pos c140] at H
                have c140b0:decide (a0_3 < 0) = true:=decide_eq_true c140;clear c140;by_cases c141:a0_0 = 5
                · rw [if_pos c141] at H
                  have c141b0:(a0_0 == 5) = true:=beq_iff_eq.mpr c141;have c141b1:(a0_0 != 5) = false:=bne_eq_false_iff_eq.mpr c141;clear c141;have H':=As0.mk H;clear H;have hnb142:=NB242_249.out;have hnc142:=NB249_242.out;obtain ⟨hcz143_0,hcz143_1,hcz143_2,hcz143_3,hcz143_4⟩:=qc5 BK242.out;obtain ⟨hfz143_0,hfz143_1,hfz143_2,hfz143_3,hfz143_4⟩:=qz5 BK242.out
                  go_wp2
                  show _;go_meet
                  case rel=>exact ⟨_,(true),(by first|rfl|(simp;done)|(simp [*];done)),H',⟨by have:=HJ2.out;have:=HJ40.out;first|omega|exact Nat.le_refl _⟩,⟨by (with_reducible repeat (first|refine bkN ?_ _|refine bkD ?_|refine bkA ?_ _));exact BK242.out⟩,⟨by (with_reducible repeat (first|refine bkN ?_ _|refine bkD ?_|refine bkA ?_ _));exact BK249.out⟩,⟨by repeat (first|(with_reducible first|exact HB.out|apply bal|apply pbN|apply bd1|refine bst ?_ GE242.out|refine bst ?_ GE249.out)|exact HB.out)⟩⟩
                · rw [if_neg c141] at H
                  have c141b0:(a0_0 == 5) = false:=beq_eq_false_iff_ne.mpr c141;have c141b1:(a0_0 != 5) = true:=bne_iff_ne.mpr c141;have H':=As0.mk H;clear H;have hnb144:=NB242_249.out;have hnc144:=NB249_242.out;obtain ⟨hcz145_0,hcz145_1,hcz145_2,hcz145_3,hcz145_4⟩:=qc5 BK242.out;obtain ⟨hfz145_0,hfz145_1,hfz145_2,hfz145_3,hfz145_4⟩:=qz5 BK242.out
                  go_wp2
                  show _;go_meet
                  case rel=>exact ⟨_,((a0_0 == 11)),(by first|rfl|(simp;done)|(simp [*];done)),H',⟨by have:=HJ2.out;have:=HJ40.out;first|omega|exact Nat.le_refl _⟩,⟨by (with_reducible repeat (first|refine bkN ?_ _|refine bkD ?_|refine bkA ?_ _));exact BK242.out⟩,⟨by (with_reducible repeat (first|refine bkN ?_ _|refine bkD ?_|refine bkA ?_ _));exact BK249.out⟩,⟨by repeat (first|(with_reducible first|exact HB.out|apply bal|apply pbN|apply bd1|refine bst ?_ GE242.out|refine bst ?_ GE249.out)|exact HB.out)⟩⟩
              · rw [if_neg c140] at H
                have c140b0:decide (a0_3 < 0) = false:=decide_eq_false c140;clear c140;have H':=As0.mk H;clear H;have hnb146:=NB242_249.out;have hnc146:=NB249_242.out;obtain ⟨hcz147_0,hcz147_1,hcz147_2,hcz147_3,hcz147_4⟩:=qc5 BK242.out;obtain ⟨hfz147_0,hfz147_1,hfz147_2,hfz147_3,hfz147_4⟩:=qz5 BK242.out
                go_wp2
                show _;go_meet
                case rel=>exact ⟨_,(false),(by first|rfl|(simp;done)|(simp [*];done)),H',⟨by have:=HJ2.out;have:=HJ40.out;first|omega|exact Nat.le_refl _⟩,⟨by (with_reducible repeat (first|refine bkN ?_ _|refine bkD ?_|refine bkA ?_ _));exact BK242.out⟩,⟨by (with_reducible repeat (first|refine bkN ?_ _|refine bkD ?_|refine bkA ?_ _));exact BK249.out⟩,⟨by repeat (first|(with_reducible first|exact HB.out|apply bal|apply pbN|apply bd1|refine bst ?_ GE242.out|refine bst ?_ GE249.out)|exact HB.out)⟩⟩
         case rest=>
          clear HC133
          try clear c1
          try clear p2
          try clear c4
          try clear c6
          try clear c7
          try clear c8
          try clear c9
          try clear c10
          try clear c11
          try clear c12
          try clear c13
          try clear c14
          try clear c42
          try clear c62
          try clear c62b0
          try clear c62b1
          try clear c63
          try clear c71
          try clear c71b0
          try clear c71b1
          try clear c72
          try clear c73
          try clear c76
          try clear c79
          try clear c82
          try clear c85
          try clear c85b0
          try clear c85b1
          try clear c86
          try clear c87
          try clear c88
          try clear c89
          try clear c92
          try clear c95
          try clear c95b0
          try clear c95b1
          try clear c96
          try clear c97
          try clear c100
          try clear c103
          try clear c106
          try clear c106b0
          try clear c106b1
          try clear c107
          try clear c108
          try clear c109
          try clear c112
          try clear c115
          try clear c115b0
          try clear c115b1
          try clear c116
          try clear c117
          try clear c120
          try clear c123
          try clear c126
          try clear c129
          try clear c132
          try clear c134
          try clear c134b0
          try clear c135
          try clear c137
          try clear c137b0
          try clear c138
          try clear c140
          try clear c140b0
          try clear c141
          try clear c141b0
          try clear c141b1
          try clear c142
          try clear c144
          try clear c146
          try clear hcz101_0
          try clear hcz101_1
          try clear hcz101_2
          try clear hcz101_3
          try clear hcz101_4
          try clear hcz102_0
          try clear hcz102_1
          try clear hcz102_2
          try clear hcz102_3
          try clear hcz102_4
          try clear hcz104_0
          try clear hcz104_1
          try clear hcz104_2
          try clear hcz104_3
          try clear hcz104_4
          try clear hcz105_0
          try clear hcz105_1
          try clear hcz105_2
          try clear hcz105_3
          try clear hcz105_4
          try clear hcz110_0
          try clear hcz110_1
          try clear hcz110_2
          try clear hcz110_3
          try clear hcz110_4
          try clear hcz111_0
          try clear hcz111_1
          try clear hcz111_2
          try clear hcz111_3
          try clear hcz111_4
          try clear hcz113_0
          try clear hcz113_1
          try clear hcz113_2
          try clear hcz113_3
          try clear hcz113_4
          try clear hcz114_0
          try clear hcz114_1
          try clear hcz114_2
          try clear hcz114_3
          try clear hcz114_4
          try clear hcz118_0
          try clear hcz118_1
          try clear hcz118_2
          try clear hcz118_3
          try clear hcz118_4
          try clear hcz119_0
          try clear hcz119_1
          try clear hcz119_2
          try clear hcz119_3
          try clear hcz119_4
          try clear hcz121_0
          try clear hcz121_1
          try clear hcz121_2
          try clear hcz121_3
          try clear hcz121_4
          try clear hcz122_0
          try clear hcz122_1
          try clear hcz122_2
          try clear hcz122_3
          try clear hcz122_4
          try clear hcz124_0
          try clear hcz124_1
          try clear hcz124_2
          try clear hcz124_3
          try clear hcz124_4
          try clear hcz125_0
          try clear hcz125_1
          try clear hcz125_2
          try clear hcz125_3
          try clear hcz125_4
          try clear hcz127_0
          try clear hcz127_1
          try clear hcz127_2
          try clear hcz127_3
          try clear hcz127_4
          try clear hcz128_0
          try clear hcz128_1
          try clear hcz128_2
          try clear hcz128_3
          try clear hcz128_4
          try clear hcz130_0
          try clear hcz130_1
          try clear hcz130_2
          try clear hcz130_3
          try clear hcz130_4
          try clear hcz131_0
          try clear hcz131_1
          try clear hcz131_2
          try clear hcz131_3
          try clear hcz131_4
          try clear hcz136_0
          try clear hcz136_1
          try clear hcz136_2
          try clear hcz136_3
          try clear hcz136_4
          try clear hcz139_0
          try clear hcz139_1
          try clear hcz139_2
          try clear hcz139_3
          try clear hcz139_4
          try clear hcz143_0
          try clear hcz143_1
          try clear hcz143_2
          try clear hcz143_3
          try clear hcz143_4
          try clear hcz145_0
          try clear hcz145_1
          try clear hcz145_2
          try clear hcz145_3
          try clear hcz145_4
          try clear hcz147_0
          try clear hcz147_1
          try clear hcz147_2
          try clear hcz147_3
          try clear hcz147_4
          try clear hcz70_0
          try clear hcz70_1
          try clear hcz70_2
          try clear hcz70_3
          try clear hcz70_4
          try clear hcz74_0
          try clear hcz74_1
          try clear hcz74_2
          try clear hcz74_3
          try clear hcz74_4
          try clear hcz75_0
          try clear hcz75_1
          try clear hcz75_2
          try clear hcz75_3
          try clear hcz75_4
          try clear hcz77_0
          try clear hcz77_1
          try clear hcz77_2
          try clear hcz77_3
          try clear hcz77_4
          try clear hcz78_0
          try clear hcz78_1
          try clear hcz78_2
          try clear hcz78_3
          try clear hcz78_4
          try clear hcz80_0
          try clear hcz80_1
          try clear hcz80_2
          try clear hcz80_3
          try clear hcz80_4
          try clear hcz81_0
          try clear hcz81_1
          try clear hcz81_2
          try clear hcz81_3
          try clear hcz81_4
          try clear hcz83_0
          try clear hcz83_1
          try clear hcz83_2
          try clear hcz83_3
          try clear hcz83_4
          try clear hcz84_0
          try clear hcz84_1
          try clear hcz84_2
          try clear hcz84_3
          try clear hcz84_4
          try clear hcz90_0
          try clear hcz90_1
          try clear hcz90_2
          try clear hcz90_3
          try clear hcz90_4
          try clear hcz91_0
          try clear hcz91_1
          try clear hcz91_2
          try clear hcz91_3
          try clear hcz91_4
          try clear hcz93_0
          try clear hcz93_1
          try clear hcz93_2
          try clear hcz93_3
          try clear hcz93_4
          try clear hcz94_0
          try clear hcz94_1
          try clear hcz94_2
          try clear hcz94_3
          try clear hcz94_4
          try clear hcz98_0
          try clear hcz98_1
          try clear hcz98_2
          try clear hcz98_3
          try clear hcz98_4
          try clear hcz99_0
          try clear hcz99_1
          try clear hcz99_2
          try clear hcz99_3
          try clear hcz99_4
          try clear hfz101_0
          try clear hfz101_1
          try clear hfz101_2
          try clear hfz101_3
          try clear hfz101_4
          try clear hfz102_0
          try clear hfz102_1
          try clear hfz102_2
          try clear hfz102_3
          try clear hfz102_4
          try clear hfz104_0
          try clear hfz104_1
          try clear hfz104_2
          try clear hfz104_3
          try clear hfz104_4
          try clear hfz105_0
          try clear hfz105_1
          try clear hfz105_2
          try clear hfz105_3
          try clear hfz105_4
          try clear hfz110_0
          try clear hfz110_1
          try clear hfz110_2
          try clear hfz110_3
          try clear hfz110_4
          try clear hfz111_0
          try clear hfz111_1
          try clear hfz111_2
          try clear hfz111_3
          try clear hfz111_4
          try clear hfz113_0
          try clear hfz113_1
          try clear hfz113_2
          try clear hfz113_3
          try clear hfz113_4
          try clear hfz114_0
          try clear hfz114_1
          try clear hfz114_2
          try clear hfz114_3
          try clear hfz114_4
          try clear hfz118_0
          try clear hfz118_1
          try clear hfz118_2
          try clear hfz118_3
          try clear hfz118_4
          try clear hfz119_0
          try clear hfz119_1
          try clear hfz119_2
          try clear hfz119_3
          try clear hfz119_4
          try clear hfz121_0
          try clear hfz121_1
          try clear hfz121_2
          try clear hfz121_3
          try clear hfz121_4
          try clear hfz122_0
          try clear hfz122_1
          try clear hfz122_2
          try clear hfz122_3
          try clear hfz122_4
          try clear hfz124_0
          try clear hfz124_1
          try clear hfz124_2
          try clear hfz124_3
          try clear hfz124_4
          try clear hfz125_0
          try clear hfz125_1
          try clear hfz125_2
          try clear hfz125_3
          try clear hfz125_4
          try clear hfz127_0
          try clear hfz127_1
          try clear hfz127_2
          try clear hfz127_3
          try clear hfz127_4
          try clear hfz128_0
          try clear hfz128_1
          try clear hfz128_2
          try clear hfz128_3
          try clear hfz128_4
          try clear hfz130_0
          try clear hfz130_1
          try clear hfz130_2
          try clear hfz130_3
          try clear hfz130_4
          try clear hfz131_0
          try clear hfz131_1
          try clear hfz131_2
          try clear hfz131_3
          try clear hfz131_4
          try clear hfz136_0
          try clear hfz136_1
          try clear hfz136_2
          try clear hfz136_3
          try clear hfz136_4
          try clear hfz139_0
          try clear hfz139_1
          try clear hfz139_2
          try clear hfz139_3
          try clear hfz139_4
          try clear hfz143_0
          try clear hfz143_1
          try clear hfz143_2
          try clear hfz143_3
          try clear hfz143_4
          try clear hfz145_0
          try clear hfz145_1
          try clear hfz145_2
          try clear hfz145_3
          try clear hfz145_4
          try clear hfz147_0
          try clear hfz147_1
          try clear hfz147_2
          try clear hfz147_3
          try clear hfz147_4
          try clear hfz69_3
          try clear hfz69_4
          try clear hfz70_0
          try clear hfz70_1
          try clear hfz70_2
          try clear hfz70_3
          try clear hfz70_4
          try clear hfz74_0
          try clear hfz74_1
          try clear hfz74_2
          try clear hfz74_3
          try clear hfz74_4
          try clear hfz75_0
          try clear hfz75_1
          try clear hfz75_2
          try clear hfz75_3
          try clear hfz75_4
          try clear hfz77_0
          try clear hfz77_1
          try clear hfz77_2
          try clear hfz77_3
          try clear hfz77_4
          try clear hfz78_0
          try clear hfz78_1
          try clear hfz78_2
          try clear hfz78_3
          try clear hfz78_4
          try clear hfz80_0
          try clear hfz80_1
          try clear hfz80_2
          try clear hfz80_3
          try clear hfz80_4
          try clear hfz81_0
          try clear hfz81_1
          try clear hfz81_2
          try clear hfz81_3
          try clear hfz81_4
          try clear hfz83_0
          try clear hfz83_1
          try clear hfz83_2
          try clear hfz83_3
          try clear hfz83_4
          try clear hfz84_0
          try clear hfz84_1
          try clear hfz84_2
          try clear hfz84_3
          try clear hfz84_4
          try clear hfz90_0
          try clear hfz90_1
          try clear hfz90_2
          try clear hfz90_3
          try clear hfz90_4
          try clear hfz91_0
          try clear hfz91_1
          try clear hfz91_2
          try clear hfz91_3
          try clear hfz91_4
          try clear hfz93_0
          try clear hfz93_1
          try clear hfz93_2
          try clear hfz93_3
          try clear hfz93_4
          try clear hfz94_0
          try clear hfz94_1
          try clear hfz94_2
          try clear hfz94_3
          try clear hfz94_4
          try clear hfz98_0
          try clear hfz98_1
          try clear hfz98_2
          try clear hfz98_3
          try clear hfz98_4
          try clear hfz99_0
          try clear hfz99_1
          try clear hfz99_2
          try clear hfz99_3
          try clear hfz99_4
          try clear p2
          obtain ⟨kq,x93_132,rfl,HA,HJ132,BK242,BK249,HB⟩:=hcut
          cases kq with
          |zero=>exact absurd HA.out (by simp [impl_isReq.j2])
          |succ kj132=>
           have H:=HA.out;clear HA;simp only [impl_isReq.j2] at H;by_cases c148:x93_132 = true
           · subst c148
             have H1:(some false) = some r:=by rw [if_pos rfl] at H;exact H
             clear H;have H:=H1;clear H1;obtain rfl:=Option.some.inj H
             go_wp2
             go_ret
             exact ⟨eW,by repeat (first|(with_reducible first|exact HB.out|apply bal|apply pbN|apply bd1|refine bst ?_ GE242.out|refine bst ?_ GE249.out)|exact HB.out)⟩
           · replace c148:=Bool.eq_false_iff.mpr c148
             subst c148;have H1:(if a0_0 = 6 then (impl_isReq.j3 kj132 true a0_0 a0_1 a0_2 a0_3 a0_4) else (impl_isReq.j3 kj132 (a0_0 == 7) a0_0 a0_1 a0_2 a0_3 a0_4)) = some r:=by rw [if_neg (show ¬ (false = true) by decide)] at H;exact H
             clear H;have H:=H1;clear H1;have HC149:=As0.mk H;clear H
             show _;go_upto_region 8 with (fail)
             show _;go_cut [101] (fun v101 wc=>∃ (kq:Nat) (x101_148:Bool),v101 = .bool x101_148 ∧ As0 (impl_isReq.j3 kq x101_148 a0_0 a0_1 a0_2 a0_3 a0_4 = some r) ∧ As0 (kq ≤ kj132) ∧ As0 (wc.heap[gb242]? = some (.cells #[.int .i64 a0_0,.string a0_1,.string a0_2,.int .i64 a0_3,.string a0_4] 25 (0,0))) ∧ As0 (wc.heap[gb249]? = some (.cells #[.string t243,.bool t244,.bool t245,.bool t246,.bool t247] 53 (0,0))) ∧ As0 (Below w.heap.size w wc))
             case first=>
              have H:=HC149.out;clear HC149;by_cases c150:a0_0 = 6
              · rw [if_pos c150] at H
                have c150b0:(a0_0 == 6) = true:=beq_iff_eq.mpr c150;have c150b1:(a0_0 != 6) = false:=bne_eq_false_iff_eq.mpr c150;clear c150
                (first|rw [c150b0]|(simp only [i64_w,i32_w];rw [c150b0])|skip)
                have H':=As0.mk H;clear H;have hnb151:=NB242_249.out;have hnc151:=NB249_242.out;obtain ⟨hcz152_0,hcz152_1,hcz152_2,hcz152_3,hcz152_4⟩:=qc5 BK242.out;obtain ⟨hfz152_0,hfz152_1,hfz152_2,hfz152_3,hfz152_4⟩:=qz5 BK242.out
                go_wp2
                show _;go_meet
                case rel=>exact ⟨_,(true),(by first|rfl|(simp;done)|(simp [*];done)),H',⟨by have:=HJ2.out;have:=HJ40.out;have:=HJ132.out;first|omega|exact Nat.le_refl _⟩,⟨by (with_reducible repeat (first|refine bkN ?_ _|refine bkD ?_|refine bkA ?_ _));exact BK242.out⟩,⟨by (with_reducible repeat (first|refine bkN ?_ _|refine bkD ?_|refine bkA ?_ _));exact BK249.out⟩,⟨by repeat (first|(with_reducible first|exact HB.out|apply bal|apply pbN|apply bd1|refine bst ?_ GE242.out|refine bst ?_ GE249.out)|exact HB.out)⟩⟩
              · rw [if_neg c150] at H
                have c150b0:(a0_0 == 6) = false:=beq_eq_false_iff_ne.mpr c150;have c150b1:(a0_0 != 6) = true:=bne_iff_ne.mpr c150
                (first|rw [c150b0]|(simp only [i64_w,i32_w];rw [c150b0])|skip)
                have H':=As0.mk H;clear H;have hnb153:=NB242_249.out;have hnc153:=NB249_242.out;obtain ⟨hcz154_0,hcz154_1,hcz154_2,hcz154_3,hcz154_4⟩:=qc5 BK242.out;obtain ⟨hfz154_0,hfz154_1,hfz154_2,hfz154_3,hfz154_4⟩:=qz5 BK242.out
                go_wp2
                show _;go_meet
                case rel=>exact ⟨_,((a0_0 == 7)),(by first|rfl|(simp;done)|(simp [*];done)),H',⟨by have:=HJ2.out;have:=HJ40.out;have:=HJ132.out;first|omega|exact Nat.le_refl _⟩,⟨by (with_reducible repeat (first|refine bkN ?_ _|refine bkD ?_|refine bkA ?_ _));exact BK242.out⟩,⟨by (with_reducible repeat (first|refine bkN ?_ _|refine bkD ?_|refine bkA ?_ _));exact BK249.out⟩,⟨by repeat (first|(with_reducible first|exact HB.out|apply bal|apply pbN|apply bd1|refine bst ?_ GE242.out|refine bst ?_ GE249.out)|exact HB.out)⟩⟩
             case rest=>
              clear HC149
              try clear c1
              try clear p2
              try clear c4
              try clear c6
              try clear c7
              try clear c8
              try clear c9
              try clear c10
              try clear c11
              try clear c12
              try clear c13
              try clear c14
              try clear c15
              try clear c42
              try clear c62
              try clear c62b0
              try clear c62b1
              try clear c63
              try clear c71
              try clear c71b0
              try clear c71b1
              try clear c72
              try clear c73
              try clear c76
              try clear c79
              try clear c82
              try clear c85
              try clear c85b0
              try clear c85b1
              try clear c86
              try clear c87
              try clear c88
              try clear c89
              try clear c92
              try clear c95
              try clear c95b0
              try clear c95b1
              try clear c96
              try clear c97
              try clear c100
              try clear c103
              try clear c106
              try clear c106b0
              try clear c106b1
              try clear c107
              try clear c108
              try clear c109
              try clear c112
              try clear c115
              try clear c115b0
              try clear c115b1
              try clear c116
              try clear c117
              try clear c120
              try clear c123
              try clear c126
              try clear c129
              try clear c132
              try clear c134
              try clear c134b0
              try clear c135
              try clear c137
              try clear c137b0
              try clear c138
              try clear c140
              try clear c140b0
              try clear c141
              try clear c141b0
              try clear c141b1
              try clear c142
              try clear c144
              try clear c146
              try clear c148
              try clear c150
              try clear c150b0
              try clear c150b1
              try clear c151
              try clear c153
              try clear hcz101_0
              try clear hcz101_1
              try clear hcz101_2
              try clear hcz101_3
              try clear hcz101_4
              try clear hcz102_0
              try clear hcz102_1
              try clear hcz102_2
              try clear hcz102_3
              try clear hcz102_4
              try clear hcz104_0
              try clear hcz104_1
              try clear hcz104_2
              try clear hcz104_3
              try clear hcz104_4
              try clear hcz105_0
              try clear hcz105_1
              try clear hcz105_2
              try clear hcz105_3
              try clear hcz105_4
              try clear hcz110_0
              try clear hcz110_1
              try clear hcz110_2
              try clear hcz110_3
              try clear hcz110_4
              try clear hcz111_0
              try clear hcz111_1
              try clear hcz111_2
              try clear hcz111_3
              try clear hcz111_4
              try clear hcz113_0
              try clear hcz113_1
              try clear hcz113_2
              try clear hcz113_3
              try clear hcz113_4
              try clear hcz114_0
              try clear hcz114_1
              try clear hcz114_2
              try clear hcz114_3
              try clear hcz114_4
              try clear hcz118_0
              try clear hcz118_1
              try clear hcz118_2
              try clear hcz118_3
              try clear hcz118_4
              try clear hcz119_0
              try clear hcz119_1
              try clear hcz119_2
              try clear hcz119_3
              try clear hcz119_4
              try clear hcz121_0
              try clear hcz121_1
              try clear hcz121_2
              try clear hcz121_3
              try clear hcz121_4
              try clear hcz122_0
              try clear hcz122_1
              try clear hcz122_2
              try clear hcz122_3
              try clear hcz122_4
              try clear hcz124_0
              try clear hcz124_1
              try clear hcz124_2
              try clear hcz124_3
              try clear hcz124_4
              try clear hcz125_0
              try clear hcz125_1
              try clear hcz125_2
              try clear hcz125_3
              try clear hcz125_4
              try clear hcz127_0
              try clear hcz127_1
              try clear hcz127_2
              try clear hcz127_3
              try clear hcz127_4
              try clear hcz128_0
              try clear hcz128_1
              try clear hcz128_2
              try clear hcz128_3
              try clear hcz128_4
              try clear hcz130_0
              try clear hcz130_1
              try clear hcz130_2
              try clear hcz130_3
              try clear hcz130_4
              try clear hcz131_0
              try clear hcz131_1
              try clear hcz131_2
              try clear hcz131_3
              try clear hcz131_4
              try clear hcz136_0
              try clear hcz136_1
              try clear hcz136_2
              try clear hcz136_3
              try clear hcz136_4
              try clear hcz139_0
              try clear hcz139_1
              try clear hcz139_2
              try clear hcz139_3
              try clear hcz139_4
              try clear hcz143_0
              try clear hcz143_1
              try clear hcz143_2
              try clear hcz143_3
              try clear hcz143_4
              try clear hcz145_0
              try clear hcz145_1
              try clear hcz145_2
              try clear hcz145_3
              try clear hcz145_4
              try clear hcz147_0
              try clear hcz147_1
              try clear hcz147_2
              try clear hcz147_3
              try clear hcz147_4
              try clear hcz152_0
              try clear hcz152_1
              try clear hcz152_2
              try clear hcz152_3
              try clear hcz152_4
              try clear hcz154_0
              try clear hcz154_1
              try clear hcz154_2
              try clear hcz154_3
              try clear hcz154_4
              try clear hcz70_0
              try clear hcz70_1
              try clear hcz70_2
              try clear hcz70_3
              try clear hcz70_4
              try clear hcz74_0
              try clear hcz74_1
              try clear hcz74_2
              try clear hcz74_3
              try clear hcz74_4
              try clear hcz75_0
              try clear hcz75_1
              try clear hcz75_2
              try clear hcz75_3
              try clear hcz75_4
              try clear hcz77_0
              try clear hcz77_1
              try clear hcz77_2
              try clear hcz77_3
              try clear hcz77_4
              try clear hcz78_0
              try clear hcz78_1
              try clear hcz78_2
              try clear hcz78_3
              try clear hcz78_4
              try clear hcz80_0
              try clear hcz80_1
              try clear hcz80_2
              try clear hcz80_3
              try clear hcz80_4
              try clear hcz81_0
              try clear hcz81_1
              try clear hcz81_2
              try clear hcz81_3
              try clear hcz81_4
              try clear hcz83_0
              try clear hcz83_1
              try clear hcz83_2
              try clear hcz83_3
              try clear hcz83_4
              try clear hcz84_0
              try clear hcz84_1
              try clear hcz84_2
              try clear hcz84_3
              try clear hcz84_4
              try clear hcz90_0
              try clear hcz90_1
              try clear hcz90_2
              try clear hcz90_3
              try clear hcz90_4
              try clear hcz91_0
              try clear hcz91_1
              try clear hcz91_2
              try clear hcz91_3
              try clear hcz91_4
              try clear hcz93_0
              try clear hcz93_1
              try clear hcz93_2
              try clear hcz93_3
              try clear hcz93_4
              try clear hcz94_0
              try clear hcz94_1
              try clear hcz94_2
              try clear hcz94_3
              try clear hcz94_4
              try clear hcz98_0
              try clear hcz98_1
              try clear hcz98_2
              try clear hcz98_3
              try clear hcz98_4
              try clear hcz99_0
              try clear hcz99_1
              try clear hcz99_2
              try clear hcz99_3
              try clear hcz99_4
              try clear hfz101_0
              try clear hfz101_1
              try clear hfz101_2
              try clear hfz101_3
              try clear hfz101_4
              try clear hfz102_0
              try clear hfz102_1
              try clear hfz102_2
              try clear hfz102_3
              try clear hfz102_4
              try clear hfz104_0
              try clear hfz104_1
              try clear hfz104_2
              try clear hfz104_3
              try clear hfz104_4
              try clear hfz105_0
              try clear hfz105_1
              try clear hfz105_2
              try clear hfz105_3
              try clear hfz105_4
              try clear hfz110_0
              try clear hfz110_1
              try clear hfz110_2
              try clear hfz110_3
              try clear hfz110_4
              try clear hfz111_0
              try clear hfz111_1
              try clear hfz111_2
              try clear hfz111_3
              try clear hfz111_4
              try clear hfz113_0
              try clear hfz113_1
              try clear hfz113_2
              try clear hfz113_3
              try clear hfz113_4
              try clear hfz114_0
              try clear hfz114_1
              try clear hfz114_2
              try clear hfz114_3
              try clear hfz114_4
              try clear hfz118_0
              try clear hfz118_1
              try clear hfz118_2
              try clear hfz118_3
              try clear hfz118_4
              try clear hfz119_0
              try clear hfz119_1
              try clear hfz119_2
              try clear hfz119_3
              try clear hfz119_4
              try clear hfz121_0
              try clear hfz121_1
              try clear hfz121_2
              try clear hfz121_3
              try clear hfz121_4
              try clear hfz122_0
              try clear hfz122_1
              try clear hfz122_2
              try clear hfz122_3
              try clear hfz122_4
              try clear hfz124_0
              try clear hfz124_1
              try clear hfz124_2
              try clear hfz124_3
              try clear hfz124_4
              try clear hfz125_0
              try clear hfz125_1
              try clear hfz125_2
              try clear hfz125_3
              try clear hfz125_4
              try clear hfz127_0
              try clear hfz127_1
              try clear hfz127_2
              try clear hfz127_3
              try clear hfz127_4
              try clear hfz128_0
              try clear hfz128_1
              try clear hfz128_2
              try clear hfz128_3
              try clear hfz128_4
              try clear hfz130_0
              try clear hfz130_1
              try clear hfz130_2
              try clear hfz130_3
              try clear hfz130_4
              try clear hfz131_0
              try clear hfz131_1
              try clear hfz131_2
              try clear hfz131_3
              try clear hfz131_4
              try clear hfz136_0
              try clear hfz136_1
              try clear hfz136_2
              try clear hfz136_3
              try clear hfz136_4
              try clear hfz139_0
              try clear hfz139_1
              try clear hfz139_2
              try clear hfz139_3
              try clear hfz139_4
              try clear hfz143_0
              try clear hfz143_1
              try clear hfz143_2
              try clear hfz143_3
              try clear hfz143_4
              try clear hfz145_0
              try clear hfz145_1
              try clear hfz145_2
              try clear hfz145_3
              try clear hfz145_4
              try clear hfz147_0
              try clear hfz147_1
              try clear hfz147_2
              try clear hfz147_3
              try clear hfz147_4
              try clear hfz152_0
              try clear hfz152_1
              try clear hfz152_2
              try clear hfz152_3
              try clear hfz152_4
              try clear hfz154_0
              try clear hfz154_1
              try clear hfz154_2
              try clear hfz154_3
              try clear hfz154_4
              try clear hfz69_3
              try clear hfz69_4
              try clear hfz70_0
              try clear hfz70_1
              try clear hfz70_2
              try clear hfz70_3
              try clear hfz70_4
              try clear hfz74_0
              try clear hfz74_1
              try clear hfz74_2
              try clear hfz74_3
              try clear hfz74_4
              try clear hfz75_0
              try clear hfz75_1
              try clear hfz75_2
              try clear hfz75_3
              try clear hfz75_4
              try clear hfz77_0
              try clear hfz77_1
              try clear hfz77_2
              try clear hfz77_3
              try clear hfz77_4
              try clear hfz78_0
              try clear hfz78_1
              try clear hfz78_2
              try clear hfz78_3
              try clear hfz78_4
              try clear hfz80_0
              try clear hfz80_1
              try clear hfz80_2
              try clear hfz80_3
              try clear hfz80_4
              try clear hfz81_0
              try clear hfz81_1
              try clear hfz81_2
              try clear hfz81_3
              try clear hfz81_4
              try clear hfz83_0
              try clear hfz83_1
              try clear hfz83_2
              try clear hfz83_3
              try clear hfz83_4
              try clear hfz84_0
              try clear hfz84_1
              try clear hfz84_2
              try clear hfz84_3
              try clear hfz84_4
              try clear hfz90_0
              try clear hfz90_1
              try clear hfz90_2
              try clear hfz90_3
              try clear hfz90_4
              try clear hfz91_0
              try clear hfz91_1
              try clear hfz91_2
              try clear hfz91_3
              try clear hfz91_4
              try clear hfz93_0
              try clear hfz93_1
              try clear hfz93_2
              try clear hfz93_3
              try clear hfz93_4
              try clear hfz94_0
              try clear hfz94_1
              try clear hfz94_2
              try clear hfz94_3
              try clear hfz94_4
              try clear hfz98_0
              try clear hfz98_1
              try clear hfz98_2
              try clear hfz98_3
              try clear hfz98_4
              try clear hfz99_0
              try clear hfz99_1
              try clear hfz99_2
              try clear hfz99_3
              try clear hfz99_4
              try clear p2
              obtain ⟨kq,x101_148,rfl,HA,HJ148,BK242,BK249,HB⟩:=hcut
              cases kq with
              |zero=>exact absurd HA.out (by simp [impl_isReq.j3])
              |succ kj148=>
               have H:=HA.out;clear HA;simp only [impl_isReq.j3] at H;by_cases c155:x101_148 = true
               · subst c155
                 have H1:((impl_isName.f a0_4).bind fun t253=>(some t253)) = some r:=by rw [if_pos rfl] at H;exact H
                 clear H;have H:=H1;clear H1;replace H:=Option.bind_eq_some_iff.mp H;obtain ⟨t253,A1560,H⟩:=H;(try dsimp only at H);have A156:=As0.mk A1560;clear A1560;obtain rfl:=Option.some.inj H;have hnb157:=NB242_249.out;have hnc157:=NB249_242.out;obtain ⟨hcz158_0,hcz158_1,hcz158_2,hcz158_3,hcz158_4⟩:=qc5 BK242.out;obtain ⟨hfz158_0,hfz158_1,hfz158_2,hfz158_3,hfz158_4⟩:=qz5 BK242.out
                 go_wp2_with (first|(refine gL (some 104) Tryd.func38 #[.string a0_4] ?_;(with_reducible refine (impl_isName.calls a0_4 t253 _ A156.out).mono ?_);rintro e w159 ⟨rfl,hb⟩;refine ⟨_,rfl,?_⟩;replace BK242:=As0.mk (bb hb BK242.out);replace BK249:=As0.mk (bb hb BK249.out);replace HB:=As0.mk (bsp (by repeat (first|(with_reducible first|exact HB.out|apply bal|apply pbN|apply bd1|refine bst ?_ GE242.out|refine bst ?_ GE249.out)|exact HB.out)) hb);clear hb))
                 go_ret
                 exact ⟨eW,by repeat (first|(with_reducible first|exact HB.out|apply bal|apply pbN|apply bd1|refine bst ?_ GE242.out|refine bst ?_ GE249.out)|exact HB.out)⟩
               · replace c155:=Bool.eq_false_iff.mpr c155
                 subst c155;have H1:((impl_isBody.f kj148 a0_4).bind fun t254=>(some t254)) = some r:=by rw [if_neg (show ¬ (false = true) by decide)] at H;exact H
                 clear H;have H:=H1;clear H1;replace H:=Option.bind_eq_some_iff.mp H;obtain ⟨t254,A1600,H⟩:=H;(try dsimp only at H);have A160:=As0.mk A1600;clear A1600;obtain rfl:=Option.some.inj H;have hnb161:=NB242_249.out;have hnc161:=NB249_242.out;obtain ⟨hcz162_0,hcz162_1,hcz162_2,hcz162_3,hcz162_4⟩:=qc5 BK242.out;obtain ⟨hfz162_0,hfz162_1,hfz162_2,hfz162_3,hfz162_4⟩:=qz5 BK242.out
                 go_wp2_with (first|(refine gL (some 107) Tryd.func39 #[.string a0_4] ?_;(with_reducible refine (impl_isBody.calls kj148 a0_4 t254 _ A160.out).mono ?_);rintro e w' ⟨rfl,⟨nd,rfl⟩⟩;refine ⟨_,rfl,?_⟩))
                 go_ret
                 exact ⟨eW,by repeat (first|(with_reducible first|exact HB.out|apply bal|apply pbN|apply bd1|refine bst ?_ GE242.out|refine bst ?_ GE249.out)|exact HB.out)⟩
def strconv_Itoa_40.f (a0:Int):Option (ByteArray):=if -9223372036854775808 ≤ a0 ∧ a0 ≤ 9223372036854775807 then some ⟨(Lib.itoa a0).toArray⟩ else none
theorem strconv_Itoa_40.calls (a0:Int) (r:ByteArray) (w:World) (hT:TabT w) (h:strconv_Itoa_40.f a0 = some r) :
 Calls Tryd.prog 40 #[.int .i64 a0] w fun e w'=>e = .returned (.string r) ∧ Below w.heap.size w w':=by
 unfold strconv_Itoa_40.f at h;by_cases hc:-9223372036854775808 ≤ a0 ∧ a0 ≤ 9223372036854775807
 · rw [if_pos hc] at h
   obtain rfl:=Option.some.inj h;refine (Tryd.strconv_Itoa a0 hc.1 hc.2 w hT).mono ?_;rintro e w' ⟨rfl,k,os,rfl⟩
   exact ⟨rfl,Lib.below_grow _ _ (Nat.le_refl _) _ _⟩
 · rw [if_neg hc] at h
   cases h
mutual
def impl_reqText.j0:Nat → ByteArray → Int → ByteArray → ByteArray → Int → ByteArray → ByteArray → Bool → Bool → Bool → Bool → Option (ByteArray)
 |0,_,_,_,_,_,_,_,_,_,_,_=>none
 |k + 1,x5,x275000,x275001,x275002,x275003,x275004,x282000,x282001,x282002,x282003,x282004=>if x282002 = true then (if 1 + x275002.size ≤ 9223372036854775807 then (if x5.size + (1 + x275002.size) ≤ 9223372036854775807 then (impl_reqText.j1 k (x5 ++ ((⟨#[32]⟩:ByteArray) ++ x275002)) x275000 x275001 x275002 x275003 x275004 x282000 x282001 x282002 x282003 x282004) else (none)) else (none)) else (impl_reqText.j1 k x5 x275000 x275001 x275002 x275003 x275004 x282000 x282001 x282002 x282003 x282004)
def impl_reqText.j1:Nat → ByteArray → Int → ByteArray → ByteArray → Int → ByteArray → ByteArray → Bool → Bool → Bool → Bool → Option (ByteArray)
 |0,_,_,_,_,_,_,_,_,_,_,_=>none
 |k + 1,x5,x275000,x275001,x275002,x275003,x275004,x282000,x282001,x282002,x282003,x282004=>if x282003 = true then ((strconv_Itoa_40.f x275003).bind fun t282=>(if 1 + t282.size ≤ 9223372036854775807 then (if x5.size + (1 + t282.size) ≤ 9223372036854775807 then (if x282004 = true then (if 1 + x275004.size ≤ 9223372036854775807 then (if x5.size + (1 + t282.size) + (1 + x275004.size) ≤ 9223372036854775807 then (some ((x5 ++ ((⟨#[32]⟩:ByteArray) ++ t282)) ++ ((⟨#[32]⟩:ByteArray) ++ x275004))) else (none)) else (none)) else (some (x5 ++ ((⟨#[32]⟩:ByteArray) ++ t282)))) else (none)) else (none))) else (if x282004 = true then (if 1 + x275004.size ≤ 9223372036854775807 then (if x5.size + (1 + x275004.size) ≤ 9223372036854775807 then (some (x5 ++ ((⟨#[32]⟩:ByteArray) ++ x275004))) else (none)) else (none)) else (some x5))
end
def impl_reqText.f (k:Nat) (a0_0:Int) (a0_1:ByteArray) (a0_2:ByteArray) (a0_3:Int) (a0_4:ByteArray):Option (ByteArray):=(impl_formOf.f a0_0).bind fun bt275=>(if bt275.2.1 = true then (if 1 + a0_1.size ≤ 9223372036854775807 then (if bt275.1.size + (1 + a0_1.size) ≤ 9223372036854775807 then (impl_reqText.j0 k (bt275.1 ++ ((⟨#[32]⟩:ByteArray) ++ a0_1)) a0_0 a0_1 a0_2 a0_3 a0_4 bt275.1 bt275.2.1 bt275.2.2.1 bt275.2.2.2.1 bt275.2.2.2.2.1) else (none)) else (none)) else (impl_reqText.j0 k bt275.1 a0_0 a0_1 a0_2 a0_3 a0_4 bt275.1 bt275.2.1 bt275.2.2.1 bt275.2.2.2.1 bt275.2.2.2.2.1))
set_option maxHeartbeats 40000000 in
set_option maxRecDepth 100000 in
theorem impl_reqText.calls (k:Nat) (a0_0:Int) (a0_1:ByteArray) (a0_2:ByteArray) (a0_3:Int) (a0_4:ByteArray) (r:ByteArray) (w:World) (hT:TabT w) (h:impl_reqText.f k a0_0 a0_1 a0_2 a0_3 a0_4 = some r) :
 Calls Tryd.prog 26 #[.agg #[.int .i64 a0_0,.string a0_1,.string a0_2,.int .i64 a0_3,.string a0_4]] w fun e w'=>e = .returned (.string r) ∧ Below w.heap.size w w':=by
 have hu25:=Tryd.underlying25;have hu53:=Tryd.underlying53;have HT:=As0.mk hT;clear hT;have HB:=As0.mk (Below.refl w.heap.size w);have H:((impl_formOf.f a0_0).bind fun bt275=>(if bt275.2.1 = true then (if 1 + a0_1.size ≤ 9223372036854775807 then (if bt275.1.size + (1 + a0_1.size) ≤ 9223372036854775807 then (impl_reqText.j0 k (bt275.1 ++ ((⟨#[32]⟩:ByteArray) ++ a0_1)) a0_0 a0_1 a0_2 a0_3 a0_4 bt275.1 bt275.2.1 bt275.2.2.1 bt275.2.2.2.1 bt275.2.2.2.2.1) else (none)) else (none)) else (impl_reqText.j0 k bt275.1 a0_0 a0_1 a0_2 a0_3 a0_4 bt275.1 bt275.2.1 bt275.2.2.1 bt275.2.2.2.1 bt275.2.2.2.2.1))) = some r:=h;clear h;replace H:=Option.bind_eq_some_iff.mp H;obtain ⟨⟨t275,t276,t277,t278,t279,t280⟩,A20,H⟩:=H;(try dsimp only at H);have A2:=As0.mk A20;clear A20;have HC3:=As0.mk H;clear H
 go_enter Tryd.func26,Tryd.ntmps26
 go_upto_if 15 with (first|((with_reducible refine gate_dst (N:=1) rfl ?_);refine bE 1 #[.int .i64 a0_0,.string a0_1,.string a0_2,.int .i64 a0_3,.string a0_4] 25 ?_;intro gb274 hg w4 hbox hb;have n0_:=As0.mk (b3 HB.out hb);have n1_:=As0.mk (hbox);have n2_:=As0.mk ((by rw [hg];exact (bsz (by repeat (first|(with_reducible first|exact HB.out|apply bal|apply pbN|apply bd1)|exact HB.out))):w.heap.size ≤ gb274));have n3_:=As0.mk ((by rw [hg];exact (bsz (by repeat (first|(with_reducible first|exact HB.out|apply bal|apply pbN|apply bd1)|exact HB.out))):w.heap.size ≤ gb274));clear HB;have HB:=n0_;have BK274:=n1_;have GW274:=n2_;have GE274:=n3_;clear n0_ n1_ n2_ n3_;clear hb hbox hg;have hcz5_0:w4.cell? ⟨gb274,0,none⟩ = some (.int .i64 a0_0):=(bkC BK274.out 0).trans rfl;have hcz5_1:w4.cell? ⟨gb274,1,none⟩ = some (.string a0_1):=(bkC BK274.out 1).trans rfl;have hcz5_2:w4.cell? ⟨gb274,2,none⟩ = some (.string a0_2):=(bkC BK274.out 2).trans rfl;have hcz5_3:w4.cell? ⟨gb274,3,none⟩ = some (.int .i64 a0_3):=(bkC BK274.out 3).trans rfl;have hcz5_4:w4.cell? ⟨gb274,4,none⟩ = some (.string a0_4):=(bkC BK274.out 4).trans rfl;have hfz5_0:=bkF BK274.out 0;have hfz5_1:=bkF BK274.out 1;have hfz5_2:=bkF BK274.out 2;have hfz5_3:=bkF BK274.out 3;have hfz5_4:=bkF BK274.out 4)|(refine gL (some 9) Tryd.func33 #[.int .i64 a0_0] ?_;(with_reducible refine (impl_formOf.calls a0_0 t275 t276 t277 t278 t279 t280 _ A2.out).mono ?_);rintro e w6 ⟨rfl,hb⟩;refine ⟨_,rfl,?_⟩;have n0_:=As0.mk (bb hb BK274.out);have n1_:=As0.mk (bsp (by repeat (first|(with_reducible first|exact HB.out|apply bal|apply pbN|apply bd1|refine bst ?_ GE274.out)|exact HB.out)) hb);clear BK274;clear HB;have BK274:=n0_;have HB:=n1_;clear n0_ n1_;(try clear hb);(try clear hb2);(try clear hk);(try clear hi))|((with_reducible refine gate_dst (N:=3) rfl ?_);refine bE 3 #[.string ⟨#[]⟩,.bool false,.bool false,.bool false,.bool false] 53 ?_;intro gb281 hg w7 hbox hb;have n0_:=As0.mk (bb hb BK274.out);have n1_:=As0.mk (bsp (by repeat (first|(with_reducible first|exact HB.out|apply bal|apply pbN|apply bd1|refine bst ?_ GE274.out)|exact HB.out)) hb);have n2_:=As0.mk (hbox);have n3_:=As0.mk ((by rw [hg];exact (bsz (by repeat (first|(with_reducible first|exact HB.out|apply bal|apply pbN|apply bd1|refine bst ?_ GE274.out)|exact HB.out))):w.heap.size ≤ gb281));have n4_:=As0.mk ((by rw [hg];exact (bsz (by repeat (first|(with_reducible first|exact HB.out|apply bal|apply pbN|apply bd1|refine bst ?_ GE274.out)|exact HB.out))):w.heap.size ≤ gb281));have n5_:=As0.mk ((by rw [hg];exact Nat.ne_of_lt (blk_lt (g:=gb274) (o:=.cells #[.int .i64 a0_0,.string a0_1,.string a0_2,.int .i64 a0_3,.string a0_4] 25 (0,0)) (by (with_reducible repeat (first|refine bkN ?_ _|refine bkD ?_|refine bkA ?_ _));exact BK274.out)):gb274 ≠ gb281));have n6_:=As0.mk ((by rw [hg];exact Nat.ne_of_gt (blk_lt (g:=gb274) (o:=.cells #[.int .i64 a0_0,.string a0_1,.string a0_2,.int .i64 a0_3,.string a0_4] 25 (0,0)) (by (with_reducible repeat (first|refine bkN ?_ _|refine bkD ?_|refine bkA ?_ _));exact BK274.out)):gb281 ≠ gb274));clear BK274;clear HB;have BK274:=n0_;have HB:=n1_;have BK281:=n2_;have GW281:=n3_;have GE281:=n4_;have NB274_281:=n5_;have NB281_274:=n6_;clear n0_ n1_ n2_ n3_ n4_ n5_ n6_;clear hb hbox hg;have hnb8:=NB281_274.out;have hnc8:=NB274_281.out;have hcz9_0:w7.cell? ⟨gb281,0,none⟩ = some (.string ⟨#[]⟩):=(bkC BK281.out 0).trans rfl;have hcz9_1:w7.cell? ⟨gb281,1,none⟩ = some (.bool false):=(bkC BK281.out 1).trans rfl;have hcz9_2:w7.cell? ⟨gb281,2,none⟩ = some (.bool false):=(bkC BK281.out 2).trans rfl;have hcz9_3:w7.cell? ⟨gb281,3,none⟩ = some (.bool false):=(bkC BK281.out 3).trans rfl;have hcz9_4:w7.cell? ⟨gb281,4,none⟩ = some (.bool false):=(bkC BK281.out 4).trans rfl;have hfz9_0:=bkF BK281.out 0;have hfz9_1:=bkF BK281.out 1;have hfz9_2:=bkF BK281.out 2;have hfz9_3:=bkF BK281.out 3;have hfz9_4:=bkF BK281.out 4))
 (try simp only [Act.put,sA,sZ,sS])
 show _;go_cut [5] (fun v5 wc=>∃ (kq:Nat) (x5_2:ByteArray),v5 = .string x5_2 ∧ As0 (impl_reqText.j0 kq x5_2 a0_0 a0_1 a0_2 a0_3 a0_4 t275 t276 t277 t278 t279 = some r) ∧ As0 (kq ≤ k) ∧ As0 (wc.heap[gb274]? = some (.cells #[.int .i64 a0_0,.string a0_1,.string a0_2,.int .i64 a0_3,.string a0_4] 25 (0,0))) ∧ As0 (wc.heap[gb281]? = some (.cells #[.string t275,.bool t276,.bool t277,.bool t278,.bool t279] 53 (0,0))) ∧ As0 (Below w.heap.size w wc))
 case first=>
  have H:=HC3.out;clear HC3;by_cases c10:t276 = true
  · subst c10
    have H1:(if 1 + a0_1.size ≤ 9223372036854775807 then (if t275.size + (1 + a0_1.size) ≤ 9223372036854775807 then (impl_reqText.j0 k (t275 ++ ((⟨#[32]⟩:ByteArray) ++ a0_1)) a0_0 a0_1 a0_2 a0_3 a0_4 t275 true t277 t278 t279) else (none)) else (none)) = some r:=by rw [if_pos rfl] at H;exact H
    clear H;have H:=H1;clear H1;by_cases c11:1 + a0_1.size ≤ 9223372036854775807
    · rw [if_pos c11] at H
      have c11b0:=eq_true c11;have c11b1:decide (1 + a0_1.size ≤ 9223372036854775807) = true:=decide_eq_true c11
      try have c11b2:(9223372036854775807 < 1 + a0_1.size) = False:=eq_false (Nat.not_lt.2 c11)
      by_cases c12:t275.size + (1 + a0_1.size) ≤ 9223372036854775807
      · rw [if_pos c12] at H
        have c12b0:=eq_true c12;have c12b1:decide (t275.size + (1 + a0_1.size) ≤ 9223372036854775807) = true:=decide_eq_true c12
        try have c12b2:(9223372036854775807 < t275.size + (1 + a0_1.size)) = False:=eq_false (Nat.not_lt.2 c12)
        have H':=As0.mk H;clear H;have hnb13:=NB274_281.out;have hnc13:=NB281_274.out;obtain ⟨hcz14_0,hcz14_1,hcz14_2,hcz14_3,hcz14_4⟩:=qc5 BK274.out;obtain ⟨hfz14_0,hfz14_1,hfz14_2,hfz14_3,hfz14_4⟩:=qz5 BK274.out
        go_wp2
        show _;go_meet
        case rel=>exact ⟨_,(t275 ++ ((⟨#[32]⟩:ByteArray) ++ a0_1)),(by first|rfl|(simp;done)|(simp [*];done)),H',⟨by first|omega|exact Nat.le_refl _⟩,⟨by (with_reducible repeat (first|refine bkN ?_ _|refine bkD ?_|refine bkA ?_ _));refine blk_far ?_ NB274_281.out _;(with_reducible repeat (first|refine bkN ?_ _|refine bkD ?_|refine bkA ?_ _));refine blk_far ?_ NB274_281.out _;(with_reducible repeat (first|refine bkN ?_ _|refine bkD ?_|refine bkA ?_ _));refine blk_far ?_ NB274_281.out _;(with_reducible repeat (first|refine bkN ?_ _|refine bkD ?_|refine bkA ?_ _));refine blk_far ?_ NB274_281.out _;(with_reducible repeat (first|refine bkN ?_ _|refine bkD ?_|refine bkA ?_ _));refine blk_far ?_ NB274_281.out _;(with_reducible repeat (first|refine bkN ?_ _|refine bkD ?_|refine bkA ?_ _));exact BK274.out⟩,⟨by (with_reducible repeat (first|refine bkN ?_ _|refine bkD ?_|refine bkA ?_ _));refine blk_put (cs:=#[.string t275,.bool true,.bool t277,.bool t278,.bool false]) ?_ 4 _ rfl;(with_reducible repeat (first|refine bkN ?_ _|refine bkD ?_|refine bkA ?_ _));refine blk_put (cs:=#[.string t275,.bool true,.bool t277,.bool false,.bool false]) ?_ 3 _ rfl;(with_reducible repeat (first|refine bkN ?_ _|refine bkD ?_|refine bkA ?_ _));refine blk_put (cs:=#[.string t275,.bool true,.bool false,.bool false,.bool false]) ?_ 2 _ rfl;(with_reducible repeat (first|refine bkN ?_ _|refine bkD ?_|refine bkA ?_ _));refine blk_put (cs:=#[.string t275,.bool false,.bool false,.bool false,.bool false]) ?_ 1 _ rfl;(with_reducible repeat (first|refine bkN ?_ _|refine bkD ?_|refine bkA ?_ _));refine blk_put (cs:=#[.string ⟨#[]⟩,.bool false,.bool false,.bool false,.bool false]) ?_ 0 _ rfl;(with_reducible repeat (first|refine bkN ?_ _|refine bkD ?_|refine bkA ?_ _));exact BK281.out⟩,⟨by repeat (first|(with_reducible first|exact HB.out|apply bal|apply pbN|apply bd1|refine bst ?_ GE274.out|refine bst ?_ GE281.out)|exact HB.out)⟩⟩
      · rw [if_neg c12] at H
        exact absurd H (by simp)
    · rw [if_neg c11] at H
      exact absurd H (by simp)
  · replace c10:=Bool.eq_false_iff.mpr c10
    subst c10;have H1:(impl_reqText.j0 k t275 a0_0 a0_1 a0_2 a0_3 a0_4 t275 false t277 t278 t279) = some r:=by rw [if_neg (show ¬ (false = true) by decide)] at H;exact H
    clear H;have H:=H1;clear H1;have H':=As0.mk H;clear H
    go_wp2
    show _;go_meet
    case rel=>exact ⟨_,(t275),(by first|rfl|(simp;done)|(simp [*];done)),H',⟨by first|omega|exact Nat.le_refl _⟩,⟨by (with_reducible repeat (first|refine bkN ?_ _|refine bkD ?_|refine bkA ?_ _));refine blk_far ?_ NB274_281.out _;(with_reducible repeat (first|refine bkN ?_ _|refine bkD ?_|refine bkA ?_ _));refine blk_far ?_ NB274_281.out _;(with_reducible repeat (first|refine bkN ?_ _|refine bkD ?_|refine bkA ?_ _));refine blk_far ?_ NB274_281.out _;(with_reducible repeat (first|refine bkN ?_ _|refine bkD ?_|refine bkA ?_ _));refine blk_far ?_ NB274_281.out _;(with_reducible repeat (first|refine bkN ?_ _|refine bkD ?_|refine bkA ?_ _));refine blk_far ?_ NB274_281.out _;(with_reducible repeat (first|refine bkN ?_ _|refine bkD ?_|refine bkA ?_ _));exact BK274.out⟩,⟨by (with_reducible repeat (first|refine bkN ?_ _|refine bkD ?_|refine bkA ?_ _));refine blk_put (cs:=#[.string t275,.bool false,.bool t277,.bool t278,.bool false]) ?_ 4 _ rfl;(with_reducible repeat (first|refine bkN ?_ _|refine bkD ?_|refine bkA ?_ _));refine blk_put (cs:=#[.string t275,.bool false,.bool t277,.bool false,.bool false]) ?_ 3 _ rfl;(with_reducible repeat (first|refine bkN ?_ _|refine bkD ?_|refine bkA ?_ _));refine blk_put (cs:=#[.string t275,.bool false,.bool false,.bool false,.bool false]) ?_ 2 _ rfl;(with_reducible repeat (first|refine bkN ?_ _|refine bkD ?_|refine bkA ?_ _));refine blk_put (cs:=#[.string t275,.bool false,.bool false,.bool false,.bool false]) ?_ 1 _ rfl;(with_reducible repeat (first|refine bkN ?_ _|refine bkD ?_|refine bkA ?_ _));refine blk_put (cs:=#[.string ⟨#[]⟩,.bool false,.bool false,.bool false,.bool false]) ?_ 0 _ rfl;(with_reducible repeat (first|refine bkN ?_ _|refine bkD ?_|refine bkA ?_ _));exact BK281.out⟩,⟨by repeat (first|(with_reducible first|exact HB.out|apply bal|apply pbN|apply bd1|refine bst ?_ GE274.out|refine bst ?_ GE281.out)|exact HB.out)⟩⟩
 case rest=>
  clear HC3
  try clear c1
  try clear c2
  try clear p2
  try clear c3
  try clear c8
  try clear c10
  try clear c11
  try clear c11b0
  try clear c11b1
  try clear c11b2
  try clear c12
  try clear c12b0
  try clear c12b1
  try clear c12b2
  try clear c13
  try clear hcz14_0
  try clear hcz14_1
  try clear hcz14_2
  try clear hcz14_3
  try clear hcz14_4
  try clear hcz5_0
  try clear hcz5_1
  try clear hcz5_2
  try clear hcz5_3
  try clear hcz5_4
  try clear hcz9_0
  try clear hcz9_1
  try clear hcz9_2
  try clear hcz9_3
  try clear hcz9_4
  try clear hfz14_0
  try clear hfz14_1
  try clear hfz14_2
  try clear hfz14_3
  try clear hfz14_4
  try clear hfz5_0
  try clear hfz5_1
  try clear hfz5_2
  try clear hfz5_3
  try clear hfz5_4
  try clear hfz9_0
  try clear hfz9_1
  try clear hfz9_2
  try clear hfz9_3
  try clear hfz9_4
  obtain ⟨kq,x5_2,rfl,HA,HJ2,BK274,BK281,HB⟩:=hcut
  cases kq with
  |zero=>exact absurd HA.out (by simp [impl_reqText.j0])
  |succ kj2=>
   have H:=HA.out;clear HA;simp only [impl_reqText.j0] at H;have HC15:=As0.mk H;clear H;have hnb16:=NB281_274.out;have hnc16:=NB274_281.out;obtain ⟨hcz17_0,hcz17_1,hcz17_2,hcz17_3,hcz17_4⟩:=qc5 BK281.out;obtain ⟨hfz17_0,hfz17_1,hfz17_2,hfz17_3,hfz17_4⟩:=qz5 BK281.out
   go_upto_if 22 with (fail)
   show _;go_cut [5] (fun v5 wc=>∃ (kq:Nat) (x5_14:ByteArray),v5 = .string x5_14 ∧ As0 (impl_reqText.j1 kq x5_14 a0_0 a0_1 a0_2 a0_3 a0_4 t275 t276 t277 t278 t279 = some r) ∧ As0 (kq ≤ kj2) ∧ As0 (wc.heap[gb274]? = some (.cells #[.int .i64 a0_0,.string a0_1,.string a0_2,.int .i64 a0_3,.string a0_4] 25 (0,0))) ∧ As0 (wc.heap[gb281]? = some (.cells #[.string t275,.bool t276,.bool t277,.bool t278,.bool t279] 53 (0,0))) ∧ As0 (Below w.heap.size w wc))
   case first=>
    have H:=HC15.out;clear HC15;by_cases c18:t277 = true
    · subst c18
      have H1:(if 1 + a0_2.size ≤ 9223372036854775807 then (if x5_2.size + (1 + a0_2.size) ≤ 9223372036854775807 then (impl_reqText.j1 kj2 (x5_2 ++ ((⟨#[32]⟩:ByteArray) ++ a0_2)) a0_0 a0_1 a0_2 a0_3 a0_4 t275 t276 true t278 t279) else (none)) else (none)) = some r:=by rw [if_pos rfl] at H;exact H
      clear H;have H:=H1;clear H1;by_cases c19:1 + a0_2.size ≤ 9223372036854775807
      · rw [if_pos c19] at H
        have c19b0:=eq_true c19;have c19b1:decide (1 + a0_2.size ≤ 9223372036854775807) = true:=decide_eq_true c19
        try have c19b2:(9223372036854775807 < 1 + a0_2.size) = False:=eq_false (Nat.not_lt.2 c19)
        by_cases c20:x5_2.size + (1 + a0_2.size) ≤ 9223372036854775807
        · rw [if_pos c20] at H
          have c20b0:=eq_true c20;have c20b1:decide (x5_2.size + (1 + a0_2.size) ≤ 9223372036854775807) = true:=decide_eq_true c20
          try have c20b2:(9223372036854775807 < x5_2.size + (1 + a0_2.size)) = False:=eq_false (Nat.not_lt.2 c20)
          have H':=As0.mk H;clear H;have hnb21:=NB274_281.out;have hnc21:=NB281_274.out;obtain ⟨hcz22_0,hcz22_1,hcz22_2,hcz22_3,hcz22_4⟩:=qc5 BK274.out;obtain ⟨hfz22_0,hfz22_1,hfz22_2,hfz22_3,hfz22_4⟩:=qz5 BK274.out
          go_wp2
          show _;go_meet
          case rel=>exact ⟨_,(x5_2 ++ ((⟨#[32]⟩:ByteArray) ++ a0_2)),(by first|rfl|(simp;done)|(simp [*];done)),H',⟨by have:=HJ2.out;first|omega|exact Nat.le_refl _⟩,⟨by (with_reducible repeat (first|refine bkN ?_ _|refine bkD ?_|refine bkA ?_ _));exact BK274.out⟩,⟨by (with_reducible repeat (first|refine bkN ?_ _|refine bkD ?_|refine bkA ?_ _));exact BK281.out⟩,⟨by repeat (first|(with_reducible first|exact HB.out|apply bal|apply pbN|apply bd1|refine bst ?_ GE274.out|refine bst ?_ GE281.out)|exact HB.out)⟩⟩
        · rw [if_neg c20] at H
          exact absurd H (by simp)
      · rw [if_neg c19] at H
        exact absurd H (by simp)
    · replace c18:=Bool.eq_false_iff.mpr c18
      subst c18;have H1:(impl_reqText.j1 kj2 x5_2 a0_0 a0_1 a0_2 a0_3 a0_4 t275 t276 false t278 t279) = some r:=by rw [if_neg (show ¬ (false = true) by decide)] at H;exact H
      clear H;have H:=H1;clear H1;have H':=As0.mk H;clear H
      go_wp2
      show _;go_meet
      case rel=>exact ⟨_,(x5_2),(by first|rfl|(simp;done)|(simp [*];done)),H',⟨by have:=HJ2.out;first|omega|exact Nat.le_refl _⟩,⟨by (with_reducible repeat (first|refine bkN ?_ _|refine bkD ?_|refine bkA ?_ _));exact BK274.out⟩,⟨by (with_reducible repeat (first|refine bkN ?_ _|refine bkD ?_|refine bkA ?_ _));exact BK281.out⟩,⟨by repeat (first|(with_reducible first|exact HB.out|apply bal|apply pbN|apply bd1|refine bst ?_ GE274.out|refine bst ?_ GE281.out)|exact HB.out)⟩⟩
   case rest=>
    clear HC15
    try clear c1
    try clear c2
    try clear p2
    try clear c3
    try clear c8
    try clear c10
    try clear c11
    try clear c11b0
    try clear c11b1
    try clear c11b2
    try clear c12
    try clear c12b0
    try clear c12b1
    try clear c12b2
    try clear c13
    try clear c16
    try clear c18
    try clear c19
    try clear c19b0
    try clear c19b1
    try clear c19b2
    try clear c20
    try clear c20b0
    try clear c20b1
    try clear c20b2
    try clear c21
    try clear hcz14_0
    try clear hcz14_1
    try clear hcz14_2
    try clear hcz14_3
    try clear hcz14_4
    try clear hcz17_0
    try clear hcz17_1
    try clear hcz17_2
    try clear hcz17_3
    try clear hcz17_4
    try clear hcz22_0
    try clear hcz22_1
    try clear hcz22_2
    try clear hcz22_3
    try clear hcz22_4
    try clear hcz5_0
    try clear hcz5_1
    try clear hcz5_2
    try clear hcz5_3
    try clear hcz5_4
    try clear hcz9_0
    try clear hcz9_1
    try clear hcz9_2
    try clear hcz9_3
    try clear hcz9_4
    try clear hfz14_0
    try clear hfz14_1
    try clear hfz14_2
    try clear hfz14_3
    try clear hfz14_4
    try clear hfz17_0
    try clear hfz17_1
    try clear hfz17_2
    try clear hfz17_3
    try clear hfz17_4
    try clear hfz22_0
    try clear hfz22_1
    try clear hfz22_2
    try clear hfz22_3
    try clear hfz22_4
    try clear hfz5_0
    try clear hfz5_1
    try clear hfz5_2
    try clear hfz5_3
    try clear hfz5_4
    try clear hfz9_0
    try clear hfz9_1
    try clear hfz9_2
    try clear hfz9_3
    try clear hfz9_4
    try clear p2
    obtain ⟨kq,x5_14,rfl,HA,HJ14,BK274,BK281,HB⟩:=hcut
    cases kq with
    |zero=>exact absurd HA.out (by simp [impl_reqText.j1])
    |succ kj14=>
     have H:=HA.out;clear HA;simp only [impl_reqText.j1] at H;by_cases c23:t278 = true
     · subst c23
       have H1:((strconv_Itoa_40.f a0_3).bind fun t282=>(if 1 + t282.size ≤ 9223372036854775807 then (if x5_14.size + (1 + t282.size) ≤ 9223372036854775807 then (if t279 = true then (if 1 + a0_4.size ≤ 9223372036854775807 then (if x5_14.size + (1 + t282.size) + (1 + a0_4.size) ≤ 9223372036854775807 then (some ((x5_14 ++ ((⟨#[32]⟩:ByteArray) ++ t282)) ++ ((⟨#[32]⟩:ByteArray) ++ a0_4))) else (none)) else (none)) else (some (x5_14 ++ ((⟨#[32]⟩:ByteArray) ++ t282)))) else (none)) else (none))) = some r:=by rw [if_pos rfl] at H;exact H
       clear H;have H:=H1;clear H1;replace H:=Option.bind_eq_some_iff.mp H;obtain ⟨t282,A240,H⟩:=H;(try dsimp only at H);have A24:=As0.mk A240;clear A240;by_cases c25:1 + t282.size ≤ 9223372036854775807
       · rw [if_pos c25] at H
         have c25b0:=eq_true c25;have c25b1:decide (1 + t282.size ≤ 9223372036854775807) = true:=decide_eq_true c25
         try have c25b2:(9223372036854775807 < 1 + t282.size) = False:=eq_false (Nat.not_lt.2 c25)
         by_cases c26:x5_14.size + (1 + t282.size) ≤ 9223372036854775807
         · rw [if_pos c26] at H
           have c26b0:=eq_true c26;have c26b1:decide (x5_14.size + (1 + t282.size) ≤ 9223372036854775807) = true:=decide_eq_true c26
           try have c26b2:(9223372036854775807 < x5_14.size + (1 + t282.size)) = False:=eq_false (Nat.not_lt.2 c26)
           by_cases c27:t279 = true
           · subst c27
             have H1:(if 1 + a0_4.size ≤ 9223372036854775807 then (if x5_14.size + (1 + t282.size) + (1 + a0_4.size) ≤ 9223372036854775807 then (some ((x5_14 ++ ((⟨#[32]⟩:ByteArray) ++ t282)) ++ ((⟨#[32]⟩:ByteArray) ++ a0_4))) else (none)) else (none)) = some r:=by rw [if_pos rfl] at H;exact H
             clear H;have H:=H1;clear H1;by_cases c28:1 + a0_4.size ≤ 9223372036854775807
             · rw [if_pos c28] at H
               have c28b0:=eq_true c28;have c28b1:decide (1 + a0_4.size ≤ 9223372036854775807) = true:=decide_eq_true c28
               try have c28b2:(9223372036854775807 < 1 + a0_4.size) = False:=eq_false (Nat.not_lt.2 c28)
               by_cases c29:x5_14.size + (1 + t282.size) + (1 + a0_4.size) ≤ 9223372036854775807
               · rw [if_pos c29] at H
                 have c29b0:=eq_true c29;have c29b1:decide (x5_14.size + (1 + t282.size) + (1 + a0_4.size) ≤ 9223372036854775807) = true:=decide_eq_true c29
                 try have c29b2:(9223372036854775807 < x5_14.size + (1 + t282.size) + (1 + a0_4.size)) = False:=eq_false (Nat.not_lt.2 c29)
                 obtain rfl:=Option.some.inj H;have hnb30:=NB281_274.out;have hnc30:=NB274_281.out;obtain ⟨hcz31_0,hcz31_1,hcz31_2,hcz31_3,hcz31_4⟩:=qc5 BK281.out;obtain ⟨hfz31_0,hfz31_1,hfz31_2,hfz31_3,hfz31_4⟩:=qz5 BK281.out;obtain ⟨hcz32_0,hcz32_1,hcz32_2,hcz32_3,hcz32_4⟩:=qc5 BK274.out;obtain ⟨hfz32_0,hfz32_1,hfz32_2,hfz32_3,hfz32_4⟩:=qz5 BK274.out
                 go_wp2_with (first|(refine gL (some 33) Tryd.func40 #[.int .i64 a0_3] ?_;(with_reducible refine (strconv_Itoa_40.calls a0_3 t282 _ ?side1 A24.out).mono ?_);(case side1=>exact TabT.below HT.out (by repeat (first|(with_reducible first|exact HB.out|apply bal|apply pbN|apply bd1|refine bst ?_ GE274.out|refine bst ?_ GE281.out)|exact HB.out)));rintro e w33 ⟨rfl,hb⟩;refine ⟨_,rfl,?_⟩;replace BK274:=As0.mk (bb hb BK274.out);replace BK281:=As0.mk (bb hb BK281.out);replace HB:=As0.mk (bsp (by repeat (first|(with_reducible first|exact HB.out|apply bal|apply pbN|apply bd1|refine bst ?_ GE274.out|refine bst ?_ GE281.out)|exact HB.out)) hb);clear hb;obtain ⟨hcz34_0,hcz34_1,hcz34_2,hcz34_3,hcz34_4⟩:=qc5 BK281.out;obtain ⟨hfz34_0,hfz34_1,hfz34_2,hfz34_3,hfz34_4⟩:=qz5 BK281.out;obtain ⟨hcz35_0,hcz35_1,hcz35_2,hcz35_3,hcz35_4⟩:=qc5 BK274.out;obtain ⟨hfz35_0,hfz35_1,hfz35_2,hfz35_3,hfz35_4⟩:=qz5 BK274.out))
                 go_ret
                 exact ⟨eW,by repeat (first|(with_reducible first|exact HB.out|apply bal|apply pbN|apply bd1|refine bst ?_ GE274.out|refine bst ?_ GE281.out)|exact HB.out)⟩
               · rw [if_neg c29] at H
                 exact absurd H (by simp)
             · rw [if_neg c28] at H
               exact absurd H (by simp)
           · replace c27:=Bool.eq_false_iff.mpr c27
             subst c27;have H1:(some (x5_14 ++ ((⟨#[32]⟩:ByteArray) ++ t282))) = some r:=by rw [if_neg (show ¬ (false = true) by decide)] at H;exact H
             clear H;have H:=H1;clear H1;obtain rfl:=Option.some.inj H;have hnb36:=NB281_274.out;have hnc36:=NB274_281.out;obtain ⟨hcz37_0,hcz37_1,hcz37_2,hcz37_3,hcz37_4⟩:=qc5 BK281.out;obtain ⟨hfz37_0,hfz37_1,hfz37_2,hfz37_3,hfz37_4⟩:=qz5 BK281.out;obtain ⟨hcz38_0,hcz38_1,hcz38_2,hcz38_3,hcz38_4⟩:=qc5 BK274.out;obtain ⟨hfz38_0,hfz38_1,hfz38_2,hfz38_3,hfz38_4⟩:=qz5 BK274.out
             go_wp2_with (first|(refine gL (some 33) Tryd.func40 #[.int .i64 a0_3] ?_;(with_reducible refine (strconv_Itoa_40.calls a0_3 t282 _ ?side1 A24.out).mono ?_);(case side1=>exact TabT.below HT.out (by repeat (first|(with_reducible first|exact HB.out|apply bal|apply pbN|apply bd1|refine bst ?_ GE274.out|refine bst ?_ GE281.out)|exact HB.out)));rintro e w39 ⟨rfl,hb⟩;refine ⟨_,rfl,?_⟩;replace BK274:=As0.mk (bb hb BK274.out);replace BK281:=As0.mk (bb hb BK281.out);replace HB:=As0.mk (bsp (by repeat (first|(with_reducible first|exact HB.out|apply bal|apply pbN|apply bd1|refine bst ?_ GE274.out|refine bst ?_ GE281.out)|exact HB.out)) hb);clear hb;obtain ⟨hcz40_0,hcz40_1,hcz40_2,hcz40_3,hcz40_4⟩:=qc5 BK281.out;obtain ⟨hfz40_0,hfz40_1,hfz40_2,hfz40_3,hfz40_4⟩:=qz5 BK281.out))
             go_ret
             exact ⟨eW,by repeat (first|(with_reducible first|exact HB.out|apply bal|apply pbN|apply bd1|refine bst ?_ GE274.out|refine bst ?_ GE281.out)|exact HB.out)⟩
         · rw [if_neg c26] at H
           exact absurd H (by simp)
       · rw [if_neg c25] at H
         exact absurd H (by simp)
     · replace c23:=Bool.eq_false_iff.mpr c23
       subst c23;have H1:(if t279 = true then (if 1 + a0_4.size ≤ 9223372036854775807 then (if x5_14.size + (1 + a0_4.size) ≤ 9223372036854775807 then (some (x5_14 ++ ((⟨#[32]⟩:ByteArray) ++ a0_4))) else (none)) else (none)) else (some x5_14)) = some r:=by rw [if_neg (show ¬ (false = true) by decide)] at H;exact H
       clear H;have H:=H1;clear H1;by_cases c41:t279 = true
       · subst c41
         have H1:(if 1 + a0_4.size ≤ 9223372036854775807 then (if x5_14.size + (1 + a0_4.size) ≤ 9223372036854775807 then (some (x5_14 ++ ((⟨#[32]⟩:ByteArray) ++ a0_4))) else (none)) else (none)) = some r:=by rw [if_pos rfl] at H;exact H
         clear H;have H:=H1;clear H1;by_cases c42:1 + a0_4.size ≤ 9223372036854775807
         · rw [if_pos c42] at H
           have c42b0:=eq_true c42;have c42b1:decide (1 + a0_4.size ≤ 9223372036854775807) = true:=decide_eq_true c42
           try have c42b2:(9223372036854775807 < 1 + a0_4.size) = False:=eq_false (Nat.not_lt.2 c42)
           by_cases c43:x5_14.size + (1 + a0_4.size) ≤ 9223372036854775807
           · rw [if_pos c43] at H
             have c43b0:=eq_true c43;have c43b1:decide (x5_14.size + (1 + a0_4.size) ≤ 9223372036854775807) = true:=decide_eq_true c43
             try have c43b2:(9223372036854775807 < x5_14.size + (1 + a0_4.size)) = False:=eq_false (Nat.not_lt.2 c43)
             obtain rfl:=Option.some.inj H;have hnb44:=NB281_274.out;have hnc44:=NB274_281.out;obtain ⟨hcz45_0,hcz45_1,hcz45_2,hcz45_3,hcz45_4⟩:=qc5 BK281.out;obtain ⟨hfz45_0,hfz45_1,hfz45_2,hfz45_3,hfz45_4⟩:=qz5 BK281.out;obtain ⟨hcz46_0,hcz46_1,hcz46_2,hcz46_3,hcz46_4⟩:=qc5 BK274.out;obtain ⟨hfz46_0,hfz46_1,hfz46_2,hfz46_3,hfz46_4⟩:=qz5 BK274.out
             go_wp2
             go_ret
             exact ⟨eW,by repeat (first|(with_reducible first|exact HB.out|apply bal|apply pbN|apply bd1|refine bst ?_ GE274.out|refine bst ?_ GE281.out)|exact HB.out)⟩
           · rw [if_neg c43] at H
             exact absurd H (by simp)
         · rw [if_neg c42] at H
           exact absurd H (by simp)
       · replace c41:=Bool.eq_false_iff.mpr c41
         subst c41;have H1:(some x5_14) = some r:=by rw [if_neg (show ¬ (false = true) by decide)] at H;exact H
         clear H;have H:=H1;clear H1;obtain rfl:=Option.some.inj H;have hnb47:=NB281_274.out;have hnc47:=NB274_281.out;obtain ⟨hcz48_0,hcz48_1,hcz48_2,hcz48_3,hcz48_4⟩:=qc5 BK281.out;obtain ⟨hfz48_0,hfz48_1,hfz48_2,hfz48_3,hfz48_4⟩:=qz5 BK281.out
         go_wp2
         go_ret
         exact ⟨eW,by repeat (first|(with_reducible first|exact HB.out|apply bal|apply pbN|apply bd1|refine bst ?_ GE274.out|refine bst ?_ GE281.out)|exact HB.out)⟩
def stringslite_Index.f (a0:ByteArray) (a1:ByteArray):Option (Int):=match a1.data.toList with
 |[c]=>some (Lib.indexByte a0.data.toList c)
 |_=>none
theorem stringslite_Index.calls (a0:ByteArray) (a1:ByteArray) (r:Int) (w:World) (h:stringslite_Index.f a0 a1 = some r) :
 Calls Tryd.prog 49 #[.string a0,.string a1] w fun e w'=>e = .returned (.int .i64 r) ∧ Drawn0 w w':=by
 unfold stringslite_Index.f at h;split at h
 · rename_i c hc
   have e1:a1 = ⟨#[c]⟩:=by
    cases a1 with
    |mk d=>
     cases d with
     |mk l=>simp at hc;simp [hc]
   subst e1;obtain rfl:=Option.some.inj h;refine (Tryd.stringslite_Index_one a0 c w).mono ?_;rintro e w' ⟨rfl,rfl⟩
   exact ⟨rfl,Drawn0.refl _⟩
 · cases h
def stringslite_Cut.f (a0:ByteArray) (a1:ByteArray):Option (ByteArray × ByteArray × Bool):=(stringslite_Index.f a0 a1).bind fun t285=>(if t285 ≥ 0 then (if 0 ≤ t285 then (if t285 ≤ (a0.size:Int) then (if 0 ≤ (wrap64 (t285 + (a1.size:Int))) then (if (wrap64 (t285 + (a1.size:Int))) ≤ (a0.size:Int) then (some (a0.extract 0 (t285:Int).toNat,a0.extract ((wrap64 (t285 + (a1.size:Int))):Int).toNat a0.size,true)) else (none)) else (none)) else (none)) else (none)) else (some (a0,(⟨#[]⟩:ByteArray),false)))
set_option maxHeartbeats 40000000 in
set_option maxRecDepth 100000 in
theorem stringslite_Cut.calls (a0:ByteArray) (a1:ByteArray) (r1:ByteArray) (r2:ByteArray) (r3:Bool) (w:World) (h:stringslite_Cut.f a0 a1 = some (r1,r2,r3)) :
 Calls Tryd.prog 44 #[.string a0,.string a1] w fun e w'=>e = .returned (.tuple #[.string r1,.string r2,.bool r3]) ∧ Drawn0 w w':=by
 have H:((stringslite_Index.f a0 a1).bind fun t285=>(if t285 ≥ 0 then (if 0 ≤ t285 then (if t285 ≤ (a0.size:Int) then (if 0 ≤ (wrap64 (t285 + (a1.size:Int))) then (if (wrap64 (t285 + (a1.size:Int))) ≤ (a0.size:Int) then (some (a0.extract 0 (t285:Int).toNat,a0.extract ((wrap64 (t285 + (a1.size:Int))):Int).toNat a0.size,true)) else (none)) else (none)) else (none)) else (none)) else (some (a0,(⟨#[]⟩:ByteArray),false)))) = some (r1,r2,r3):=h;clear h;replace H:=Option.bind_eq_some_iff.mp H;obtain ⟨t285,A30,H⟩:=H;(try dsimp only at H);have A3:=As0.mk A30;clear A30;by_cases c4:t285 ≥ 0
 · rw [if_pos c4] at H
   have c4b0:decide (0 ≤ t285) = true:=decide_eq_true c4;clear c4;by_cases c5:0 ≤ t285
   · rw [if_pos c5] at H
     have c5b0:=eq_true c5;have c5b1:decide (0 ≤ t285) = true:=decide_eq_true c5;clear c5;by_cases c6:t285 ≤ (a0.size:Int)
     · rw [if_pos c6] at H
       have c6b0:=eq_true c6;have c6b1:decide (t285 ≤ (a0.size:Int)) = true:=decide_eq_true c6;clear c6;obtain ⟨ji7,hji7⟩:∃ j_:Int,(wrap64 (t285 + (a1.size:Int))) = j_:=⟨_,rfl⟩;replace H:(if 0 ≤ (ji7) then (if (ji7) ≤ (a0.size:Int) then (some (a0.extract 0 (t285:Int).toNat,a0.extract ((ji7):Int).toNat a0.size,true)) else (none)) else (none)) = some (r1,r2,r3):=by first|(rw [hji7] at H;exact H)|(simp only [hji7] at H ⊢;exact H)
       (try rw [hji7] at A3)
       have hji7w:(IntKind.i64.wrap (t285 + (a1.size:Int))) = ji7:=(i64_w _).trans hji7;by_cases c8:0 ≤ (ji7)
       · rw [if_pos c8] at H
         have c8b0:=eq_true c8;have c8b1:decide (0 ≤ (ji7)) = true:=decide_eq_true c8;clear c8;by_cases c9:(ji7) ≤ (a0.size:Int)
         · rw [if_pos c9] at H
           have c9b0:=eq_true c9;have c9b1:decide ((ji7) ≤ (a0.size:Int)) = true:=decide_eq_true c9;clear c9;simp only [Option.some.injEq,Prod.mk.injEq] at H;obtain ⟨rfl,rfl,rfl⟩:=H
           go_enter Tryd.func44,Tryd.ntmps44
           go_wp2_with (first|(go_at_call 49;(with_reducible refine (stringslite_Index.calls a0 a1 t285 _ A3.out).mono ?_);rintro e w' ⟨rfl,⟨nd,rfl⟩⟩;(try first|exact ⟨rfl,_,World.drewN_drewN _ _ _⟩|exact ⟨rfl,_,Eq.trans (World.drewN_drewN _ _ _) (congrArg (World.drewN _) (Nat.add_assoc _ _ _))⟩)))
           repeat (go_quiet (first|(go_at_call 49;(with_reducible refine (stringslite_Index.calls a0 a1 t285 _ A3.out).mono ?_);rintro e w' ⟨rfl,⟨nd,rfl⟩⟩;(try first|exact ⟨rfl,_,World.drewN_drewN _ _ _⟩|exact ⟨rfl,_,Eq.trans (World.drewN_drewN _ _ _) (congrArg (World.drewN _) (Nat.add_assoc _ _ _))⟩)));try go_wp2_with (first|(go_at_call 49;(with_reducible refine (stringslite_Index.calls a0 a1 t285 _ A3.out).mono ?_);rintro e w' ⟨rfl,⟨nd,rfl⟩⟩;(try first|exact ⟨rfl,_,World.drewN_drewN _ _ _⟩|exact ⟨rfl,_,Eq.trans (World.drewN_drewN _ _ _) (congrArg (World.drewN _) (Nat.add_assoc _ _ _))⟩))))
           go_ret3
           exact ⟨by first|rfl|(simp;done)|(simp only [← hji7] <;> (first|rfl|simp))|(simp [*];done),by repeat (first|exact Drawn0.refl _|apply Drawn0.step)⟩
         · rw [if_neg c9] at H
           exact absurd H (by simp)
       · rw [if_neg c8] at H
         exact absurd H (by simp)
     · rw [if_neg c6] at H
       exact absurd H (by simp)
   · rw [if_neg c5] at H
     exact absurd H (by simp)
 · rw [if_neg c4] at H
   have c4b0:decide (0 ≤ t285) = false:=decide_eq_false c4;clear c4;simp only [Option.some.injEq,Prod.mk.injEq] at H;obtain ⟨rfl,rfl,rfl⟩:=H
   go_enter Tryd.func44,Tryd.ntmps44
   go_wp2_with (first|(go_at_call 49;(with_reducible refine (stringslite_Index.calls a0 a1 t285 _ A3.out).mono ?_);rintro e w' ⟨rfl,⟨nd,rfl⟩⟩;(try first|exact ⟨rfl,_,World.drewN_drewN _ _ _⟩|exact ⟨rfl,_,Eq.trans (World.drewN_drewN _ _ _) (congrArg (World.drewN _) (Nat.add_assoc _ _ _))⟩)))
   repeat (go_quiet (first|(go_at_call 49;(with_reducible refine (stringslite_Index.calls a0 a1 t285 _ A3.out).mono ?_);rintro e w' ⟨rfl,⟨nd,rfl⟩⟩;(try first|exact ⟨rfl,_,World.drewN_drewN _ _ _⟩|exact ⟨rfl,_,Eq.trans (World.drewN_drewN _ _ _) (congrArg (World.drewN _) (Nat.add_assoc _ _ _))⟩)));try go_wp2_with (first|(go_at_call 49;(with_reducible refine (stringslite_Index.calls a0 a1 t285 _ A3.out).mono ?_);rintro e w' ⟨rfl,⟨nd,rfl⟩⟩;(try first|exact ⟨rfl,_,World.drewN_drewN _ _ _⟩|exact ⟨rfl,_,Eq.trans (World.drewN_drewN _ _ _) (congrArg (World.drewN _) (Nat.add_assoc _ _ _))⟩))))
   go_ret3
   exact ⟨by first|rfl|(simp;done)|(simp [*];done),by repeat (first|exact Drawn0.refl _|apply Drawn0.step)⟩
def strings_Cut.f (a0:ByteArray) (a1:ByteArray):Option (ByteArray × ByteArray × Bool):=(stringslite_Cut.f a0 a1).bind fun bt286=>(some (bt286.1,bt286.2.1,bt286.2.2))
set_option maxHeartbeats 40000000 in
set_option maxRecDepth 100000 in
theorem strings_Cut.calls (a0:ByteArray) (a1:ByteArray) (r1:ByteArray) (r2:ByteArray) (r3:Bool) (w:World) (h:strings_Cut.f a0 a1 = some (r1,r2,r3)) :
 Calls Tryd.prog 34 #[.string a0,.string a1] w fun e w'=>e = .returned (.tuple #[.string r1,.string r2,.bool r3]) ∧ Drawn0 w w':=by
 have H:((stringslite_Cut.f a0 a1).bind fun bt286=>(some (bt286.1,bt286.2.1,bt286.2.2))) = some (r1,r2,r3):=h;clear h;replace H:=Option.bind_eq_some_iff.mp H;obtain ⟨⟨t286,t287,t288⟩,A30,H⟩:=H;(try dsimp only at H);have A3:=As0.mk A30;clear A30;simp only [Option.some.injEq,Prod.mk.injEq] at H;obtain ⟨rfl,rfl,rfl⟩:=H
 go_enter Tryd.func34,Tryd.ntmps34
 go_wp2_with (first|(refine gL (some 9) Tryd.func44 #[.string a0,.string a1] ?_;(with_reducible refine (stringslite_Cut.calls a0 a1 t286 t287 t288 _ A3.out).mono ?_);rintro e w' ⟨rfl,⟨nd,rfl⟩⟩;refine ⟨_,rfl,?_⟩))
 go_ret3
 exact ⟨by first|rfl|(simp;done)|(simp [*];done),by repeat (first|exact Drawn0.refl _|apply Drawn0.step)⟩
def impl_reqRead_1.f (s:ByteArray) (_:Bool):Option (ByteArray × ByteArray × Bool):=strings_Cut.f s (⟨#[32]⟩:ByteArray)
set_option maxHeartbeats 4000000 in
set_option maxRecDepth 100000 in
theorem impl_reqRead_1.calls (s:ByteArray) (b:Bool) (g8 g9:Nat) (r1 r2:ByteArray) (r3:Bool) (w:World) (X8:w.heap[g8]? = some (.cells #[.string s] 9 (0,0))) (X9:w.heap[g9]? = some (.cells #[.bool b] 4 (0,0))) (hne:g8 ≠ g9) (h:impl_reqRead_1.f s b = some (r1,r2,r3)) :
 Calls Tryd.prog 35 #[.pointer (some ⟨g8,0,none⟩),.pointer (some ⟨g9,0,none⟩)] w fun e w'=>e = .returned (.string r1) ∧ w'.heap[g8]? = some (.cells #[.string r2] 9 (0,0)) ∧ w'.heap[g9]? = some (.cells #[.bool r3] 4 (0,0)) ∧ (∀ (i:Nat) (o:Obj),i ≠ g8 → i ≠ g9 → w.heap[i]? = some o → w'.heap[i]? = some o) ∧ (∀ w0:World,Below w0.heap.size w0 w → w0.heap.size ≤ g8 → w0.heap.size ≤ g9 → Below w0.heap.size w0 w'):=by
 have HH:=As0.mk (show strings_Cut.f s (⟨#[32]⟩:ByteArray) = some (r1,r2,r3) from h);have H8:=As0.mk X8;have H9:=As0.mk X9;have u8:w.cell? ⟨g8,0,none⟩ = some (.string s):=(bkC X8 0).trans rfl;have u9:w.cell? ⟨g9,0,none⟩ = some (.bool b):=(bkC X9 0).trans rfl;have z_runtime_boundsError:=bkF X8 0;have z9:=bkF X9 0;have hne2:=Ne.symm hne;clear X8 X9 h
 go_enter Tryd.func35,Tryd.ntmps35
 go_wp2_with (go_at_call 34;(with_reducible refine (strings_Cut.calls _ _ r1 r2 r3 _ HH.out).mono ?_);rintro e w' ⟨rfl,hd⟩;have HD:=As0.mk hd.below;clear hd;have v8:=(HD.out.cell (World.block_lt_of_cell? w _ u8)).trans u8;have v9:=(HD.out.cell (World.block_lt_of_cell? w _ u9)).trans u9;have y8:=(HD.out.frozen (World.block_lt_of_cell? w _ u8)).trans z_runtime_boundsError;have y9:=(HD.out.frozen (World.block_lt_of_cell? w _ u9)).trans z9)
 go_ret
 have B8:=blk_below H8.out HD.out;have B9:=blk_below H9.out HD.out;refine ⟨by first|rfl|(simp;done),blk_far (blk_put B8 0 _ rfl) hne _,blk_put (blk_far B9 hne2 _) 0 _ rfl,fun i o h1 h2 hi=>?_,fun w0 hb h1 h2=>bst (bst (bsp hb HD.out) h1) h2⟩;rw [Below.heap_setCell _ _ _ i h2,Below.heap_setCell _ _ _ i h1]
 exact blk_below hi HD.out
def strconv_Atoi_50.f (a0:ByteArray):Option (Int × Option Int):=if a0.size ≤ 18 then (Lib.atoi a0.data.toList).map (fun n=>(n,none)) else none
theorem strconv_Atoi_50.calls (a0:ByteArray) (r1:Int) (r2:Option Int) (w:World) (h:strconv_Atoi_50.f a0 = some (r1,r2)) :
 Calls Tryd.prog 50 #[.string a0] w fun e w'=>e = .returned (.tuple #[.int .i64 r1,errW r2]) ∧ Below w.heap.size w w':=by
 unfold strconv_Atoi_50.f at h;by_cases hc:a0.size ≤ 18
 · rw [if_pos hc] at h
   cases hn:Lib.atoi a0.data.toList with
   |none=>rw [hn] at h;cases h
   |some n=>
    rw [hn] at h;simp only [Option.map_some,Option.some.injEq,Prod.mk.injEq] at h;obtain ⟨rfl,rfl⟩:=h;refine (Tryd.strconv_Atoi a0 n hc hn w).mono ?_;rintro e w' ⟨rfl,t,rfl⟩
    exact ⟨rfl,Joins.below_bytesWorld _ _ _ _ (Nat.le_refl _)⟩
 · rw [if_neg hc] at h
   cases h
end Go.Proofs.YtbhnjglfjhfljaaDoor.P
