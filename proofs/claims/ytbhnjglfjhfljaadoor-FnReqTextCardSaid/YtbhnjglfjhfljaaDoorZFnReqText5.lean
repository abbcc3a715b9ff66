/- Functions of the law FnReqText as_ plain Lean functions, and that the machine's calls do what they say. -/
import Derived.Test.YtbhnjglfjhfljaaDoorZFnReqText0
import Derived.Test.YtbhnjglfjhfljaaDoorZFnReqText2
import Derived.Test.YtbhnjglfjhfljaaDoorZFnReqText3
import Derived.Test.YtbhnjglfjhfljaaDoorZFnReqText4
namespace Go.Proofs.YtbhnjglfjhfljaaDoor.P
open Go.RowKit Go.Proofs.YtbhnjglfjhfljaaDoorW.PrintWords Go.Proofs.YtbhnjglfjhfljaaDoorW.PrintLast Go.Proofs.YtbhnjglfjhfljaaDoorW.PrintMore
attribute [local go_sem] max2_int min2_int max_two min_two max_three min_three max_four min_four
set_option linter.unusedVariables false
set_option linter.unusedSimpArgs false
mutual
def impl_reqRead.l0:Nat → ByteArray → Int → Option (Int × ByteArray × ByteArray × Int × ByteArray × Bool)
 |0,_,_=>none
 |k + 1,x0,x4=>if x4 ≤ 12 then ((impl_formOf.f x4).bind fun bt315=>((strings_Cut.f x0 (⟨#[32]⟩:ByteArray)).bind fun bt322=>(if bt322.1.toList = bt315.1.toList then (if bt315.2.1 = true then (impl_reqRead.j1 k x0 bt322.2.2 bt315.1 bt315.2.1 bt315.2.2.1 bt315.2.2.2.1 bt315.2.2.2.2.1 bt322.2.1 bt322.2.2 x4 (⟨#[]⟩:ByteArray) (⟨#[]⟩:ByteArray) 0 (⟨#[]⟩:ByteArray)) else (impl_reqRead.j1 k x0 false bt315.1 bt315.2.1 bt315.2.2.1 bt315.2.2.2.1 bt315.2.2.2.2.1 bt322.2.1 bt322.2.2 x4 (⟨#[]⟩:ByteArray) (⟨#[]⟩:ByteArray) 0 (⟨#[]⟩:ByteArray))) else (impl_reqRead.l0 k x0 (wrap64 (x4 + 1)))))) else (some (0,(⟨#[]⟩:ByteArray),(⟨#[]⟩:ByteArray),0,(⟨#[]⟩:ByteArray),false))
def impl_reqRead.j1:Nat → ByteArray → Bool → ByteArray → Bool → Bool → Bool → Bool → ByteArray → Bool → Int → ByteArray → ByteArray → Int → ByteArray → Option (Int × ByteArray × ByteArray × Int × ByteArray × Bool)
 |0,_,_,_,_,_,_,_,_,_,_,_,_,_,_=>none
 |k + 1,x0,x40,x322000,x322001,x322002,x322003,x322004,x326000,x327000,x328000,x328001,x328002,x328003,x328004=>if x40 = true then ((impl_reqRead_1.f x326000 x327000).bind fun bt328=>(impl_reqRead.j2 k x0 x322000 x322001 x322002 x322003 x322004 bt328.2.1 bt328.2.2 x328000 bt328.1 x328002 x328003 x328004)) else (impl_reqRead.j2 k x0 x322000 x322001 x322002 x322003 x322004 x326000 x327000 x328000 x328001 x328002 x328003 x328004)
def impl_reqRead.j2:Nat → ByteArray → ByteArray → Bool → Bool → Bool → Bool → ByteArray → Bool → Int → ByteArray → ByteArray → Int → ByteArray → Option (Int × ByteArray × ByteArray × Int × ByteArray × Bool)
 |0,_,_,_,_,_,_,_,_,_,_,_,_,_=>none
 |k + 1,x0,x322000,x322001,x322002,x322003,x322004,x326000,x327000,x328000,x328001,x328002,x328003,x328004=>if x322002 = true then (impl_reqRead.j3 k x0 x327000 x322000 x322001 x322002 x322003 x322004 x326000 x327000 x328000 x328001 x328002 x328003 x328004) else (impl_reqRead.j3 k x0 false x322000 x322001 x322002 x322003 x322004 x326000 x327000 x328000 x328001 x328002 x328003 x328004)
def impl_reqRead.j3:Nat → ByteArray → Bool → ByteArray → Bool → Bool → Bool → Bool → ByteArray → Bool → Int → ByteArray → ByteArray → Int → ByteArray → Option (Int × ByteArray × ByteArray × Int × ByteArray × Bool)
 |0,_,_,_,_,_,_,_,_,_,_,_,_,_,_=>none
 |k + 1,x0,x48,x322000,x322001,x322002,x322003,x322004,x326000,x327000,x328000,x328001,x328002,x328003,x328004=>if x48 = true then ((impl_reqRead_1.f x326000 x327000).bind fun bt331=>(impl_reqRead.j4 k x0 x322000 x322001 x322002 x322003 x322004 bt331.2.1 bt331.2.2 x328000 x328001 bt331.1 x328003 x328004)) else (impl_reqRead.j4 k x0 x322000 x322001 x322002 x322003 x322004 x326000 x327000 x328000 x328001 x328002 x328003 x328004)
def impl_reqRead.j4:Nat → ByteArray → ByteArray → Bool → Bool → Bool → Bool → ByteArray → Bool → Int → ByteArray → ByteArray → Int → ByteArray → Option (Int × ByteArray × ByteArray × Int × ByteArray × Bool)
 |0,_,_,_,_,_,_,_,_,_,_,_,_,_=>none
 |k + 1,x0,x322000,x322001,x322002,x322003,x322004,x326000,x327000,x328000,x328001,x328002,x328003,x328004=>if x322003 = true then (impl_reqRead.j5 k x0 x327000 x322000 x322001 x322002 x322003 x322004 x326000 x327000 x328000 x328001 x328002 x328003 x328004) else (impl_reqRead.j5 k x0 false x322000 x322001 x322002 x322003 x322004 x326000 x327000 x328000 x328001 x328002 x328003 x328004)
def impl_reqRead.j5:Nat → ByteArray → Bool → ByteArray → Bool → Bool → Bool → Bool → ByteArray → Bool → Int → ByteArray → ByteArray → Int → ByteArray → Option (Int × ByteArray × ByteArray × Int × ByteArray × Bool)
 |0,_,_,_,_,_,_,_,_,_,_,_,_,_,_=>none
 |k + 1,x0,x56,x322000,x322001,x322002,x322003,x322004,x326000,x327000,x328000,x328001,x328002,x328003,x328004=>if x56 = true then ((impl_reqRead_1.f x326000 x327000).bind fun bt334=>((impl_readLimit.f bt334.1).bind fun bt337=>(if bt337.2 = true then (impl_reqRead.j6 k x0 x322000 x322001 x322002 x322003 x322004 bt334.2.1 bt334.2.2 x328000 x328001 x328002 bt337.1 x328004) else (some (0,(⟨#[]⟩:ByteArray),(⟨#[]⟩:ByteArray),0,(⟨#[]⟩:ByteArray),false))))) else (impl_reqRead.j6 k x0 x322000 x322001 x322002 x322003 x322004 x326000 x327000 x328000 x328001 x328002 x328003 x328004)
def impl_reqRead.j6:Nat → ByteArray → ByteArray → Bool → Bool → Bool → Bool → ByteArray → Bool → Int → ByteArray → ByteArray → Int → ByteArray → Option (Int × ByteArray × ByteArray × Int × ByteArray × Bool)
 |0,_,_,_,_,_,_,_,_,_,_,_,_,_=>none
 |k + 1,x0,x322000,x322001,x322002,x322003,x322004,x326000,x327000,x328000,x328001,x328002,x328003,x328004=>if x322004 = true then (impl_reqRead.j7 k x0 x327000 x326000 x328000 x328001 x328002 x328003 x328004) else (impl_reqRead.j7 k x0 false x326000 x328000 x328001 x328002 x328003 x328004)
def impl_reqRead.j7:Nat → ByteArray → Bool → ByteArray → Int → ByteArray → ByteArray → Int → ByteArray → Option (Int × ByteArray × ByteArray × Int × ByteArray × Bool)
 |0,_,_,_,_,_,_,_,_=>none
 |k + 1,x0,x72,x326000,x328000,x328001,x328002,x328003,x328004=>if x72 = true then (impl_reqRead.j8 k x0 x328000 x328001 x328002 x328003 x326000) else (impl_reqRead.j8 k x0 x328000 x328001 x328002 x328003 x328004)
def impl_reqRead.j8:Nat → ByteArray → Int → ByteArray → ByteArray → Int → ByteArray → Option (Int × ByteArray × ByteArray × Int × ByteArray × Bool)
 |0,_,_,_,_,_,_=>none
 |k + 1,x0,x328000,x328001,x328002,x328003,x328004=>(impl_isReq.f k x328000 x328001 x328002 x328003 x328004).bind fun t339=>(if t339 = true then ((impl_reqText.f k x328000 x328001 x328002 x328003 x328004).bind fun t340=>(if t340.toList = x0.toList then (some (x328000,x328001,x328002,x328003,x328004,true)) else (some (0,(⟨#[]⟩:ByteArray),(⟨#[]⟩:ByteArray),0,(⟨#[]⟩:ByteArray),false)))) else (some (0,(⟨#[]⟩:ByteArray),(⟨#[]⟩:ByteArray),0,(⟨#[]⟩:ByteArray),false)))
end
def impl_reqRead.f (k:Nat) (a0:ByteArray):Option (Int × ByteArray × ByteArray × Int × ByteArray × Bool):=impl_reqRead.l0 k a0 1
set_option maxHeartbeats 40000000 in
set_option maxRecDepth 100000 in
theorem impl_reqRead.calls (k:Nat) (a0:ByteArray) (r1:Int) (r2:ByteArray) (r3:ByteArray) (r4:Int) (r5:ByteArray) (r6:Bool) (w:World) (hT:TabT w) (h:impl_reqRead.f k a0 = some (r1,r2,r3,r4,r5,r6)) :
 Calls Tryd.prog 19 #[.string a0] w fun e w'=>e = .returned (.tuple #[.agg #[.int .i64 r1,.string r2,.string r3,.int .i64 r4,.string r5],.bool r6]) ∧ Below w.heap.size w w':=by
 have hu25:=Tryd.underlying25;have hu53:=Tryd.underlying53;have HT:=As0.mk hT;clear hT;have HB:=As0.mk (Below.refl w.heap.size w);have H:(impl_reqRead.l0 k a0 1) = some (r1,r2,r3,r4,r5,r6):=h;clear h;have H':=As0.mk H;clear H
 go_enter Tryd.func19,Tryd.ntmps19
 go_wp2_with (first|((with_reducible refine gate_dst (N:=2) rfl ?_);refine bE 2 #[.int .i64 0,.string ⟨#[]⟩,.string ⟨#[]⟩,.int .i64 0,.string ⟨#[]⟩] 25 ?_;intro gb314 hg w2 hbox hb;have BK314:=As0.mk (hbox);have GW314:=As0.mk ((by rw [hg];exact (bsz (by repeat (first|(with_reducible first|exact HB.out|apply bal|apply pbN|apply bd1)|exact HB.out))):w.heap.size ≤ gb314));have GE314:=GW314;replace HB:=As0.mk (b3 HB.out hb);clear hb hbox hg))
 show _;go_loopg [4] k (fun kq v4 w'=>∃ (x4_1:Int) (x315000_1:Int) (x315001_1:ByteArray) (x315002_1:ByteArray) (x315003_1:Int) (x315004_1:ByteArray),v4 = .int .i64 x4_1 ∧ As0 (impl_reqRead.l0 kq a0 x4_1 = some (r1,r2,r3,r4,r5,r6)) ∧ As0 (kq ≤ k) ∧ As0 (w'.heap[gb314]? = some (.cells #[.int .i64 x315000_1,.string x315001_1,.string x315002_1,.int .i64 x315003_1,.string x315004_1] 25 (0,0))) ∧ As0 (Below w.heap.size w w'))
 case atStart=>exact ⟨(1),(0),((⟨#[]⟩:ByteArray)),((⟨#[]⟩:ByteArray)),(0),((⟨#[]⟩:ByteArray)),(by first|rfl|(simp;done)|(simp [*];done)),H',⟨Nat.le_refl _⟩,⟨by (with_reducible repeat (first|refine bkN ?_ _|refine bkD ?_|refine bkA ?_ _));exact BK314.out⟩,⟨by repeat (first|(with_reducible first|exact HB.out|apply bal|apply pbN|apply bd1|refine bst ?_ GE314.out)|exact HB.out)⟩⟩
 case round=>
  clear H'
  try clear c1
  try clear p2
  obtain ⟨x4_1,x315000_1,x315001_1,x315002_1,x315003_1,x315004_1,rfl,HA,HK1,BK314,HB⟩:=hrel
  cases gk with
  |zero=>exact absurd HA.out (by simp [impl_reqRead.l0])
  |succ k1=>
   have H:=HA.out;clear HA;simp only [impl_reqRead.l0] at H;by_cases c3:x4_1 ≤ 12
   · rw [if_pos c3] at H
     have c3b0:decide (x4_1 ≤ 12) = true:=decide_eq_true c3;clear c3;replace H:=Option.bind_eq_some_iff.mp H;obtain ⟨⟨t315,t316,t317,t318,t319,t320⟩,A40,H⟩:=H;(try dsimp only at H);have A4:=As0.mk A40;clear A40;replace H:=Option.bind_eq_some_iff.mp H;obtain ⟨⟨t322,t323,t324⟩,A50,H⟩:=H;(try dsimp only at H);have A5:=As0.mk A50;clear A50;by_cases c6:t322.toList = t315.toList
     · rw [if_pos c6] at H
       have c6b0:(t322.toList == t315.toList) = true:=beq_iff_eq.mpr c6;have c6b1:(t322.toList != t315.toList) = false:=bne_eq_false_iff_eq.mpr c6;clear c6;have HC7:=As0.mk H;clear H
       show _;go_upto_region 9 with (first|(refine gL (some 20) Tryd.func33 #[.int .i64 x4_1] ?_;(with_reducible refine (impl_formOf.calls x4_1 t315 t316 t317 t318 t319 t320 _ A4.out).mono ?_);rintro e w8 ⟨rfl,hb⟩;refine ⟨_,rfl,?_⟩;have n0_:=As0.mk (bb hb BK314.out);have n1_:=As0.mk (bsp (by repeat (first|(with_reducible first|exact HB.out|apply bal|apply pbN|apply bd1|refine bst ?_ GE314.out)|exact HB.out)) hb);clear BK314;clear HB;have BK314:=n0_;have HB:=n1_;clear n0_ n1_;(try clear hb);(try clear hb2);(try clear hk);(try clear hi))|((with_reducible refine gate_dst (N:=5) rfl ?_);refine bE 5 #[.string ⟨#[]⟩,.bool false,.bool false,.bool false,.bool false] 53 ?_;intro gb321 hg w9 hbox hb;have n0_:=As0.mk (bb hb BK314.out);have n1_:=As0.mk (bsp (by repeat (first|(with_reducible first|exact HB.out|apply bal|apply pbN|apply bd1|refine bst ?_ GE314.out)|exact HB.out)) hb);have n2_:=As0.mk (hbox);have n3_:=As0.mk ((by rw [hg];exact (bsz (by repeat (first|(with_reducible first|exact HB.out|apply bal|apply pbN|apply bd1|refine bst ?_ GE314.out)|exact HB.out))):w.heap.size ≤ gb321));have n4_:=As0.mk ((by rw [hg];exact (bsz (by repeat (first|(with_reducible first|exact HB.out|apply bal|apply pbN|apply bd1|refine bst ?_ GE314.out)|exact HB.out))):w.heap.size ≤ gb321));have n5_:=As0.mk ((by rw [hg];exact Nat.ne_of_lt (blk_lt (g:=gb314) (o:=.cells #[.int .i64 x315000_1,.string x315001_1,.string x315002_1,.int .i64 x315003_1,.string x315004_1] 25 (0,0)) (by (with_reducible repeat (first|refine bkN ?_ _|refine bkD ?_|refine bkA ?_ _));exact BK314.out)):gb314 ≠ gb321));have n6_:=As0.mk ((by rw [hg];exact Nat.ne_of_gt (blk_lt (g:=gb314) (o:=.cells #[.int .i64 x315000_1,.string x315001_1,.string x315002_1,.int .i64 x315003_1,.string x315004_1] 25 (0,0)) (by (with_reducible repeat (first|refine bkN ?_ _|refine bkD ?_|refine bkA ?_ _));exact BK314.out)):gb321 ≠ gb314));clear BK314;clear HB;have BK314:=n0_;have HB:=n1_;have BK321:=n2_;have GW321:=n3_;have GE321:=n4_;have NB314_321:=n5_;have NB321_314:=n6_;clear n0_ n1_ n2_ n3_ n4_ n5_ n6_;clear hb hbox hg;have hnb10:=NB321_314.out;have hnc10:=NB314_321.out;have hcz11_0:w9.cell? ⟨gb321,0,none⟩ = some (.string ⟨#[]⟩):=(bkC BK321.out 0).trans rfl;have hcz11_1:w9.cell? ⟨gb321,1,none⟩ = some (.bool false):=(bkC BK321.out 1).trans rfl;have hcz11_2:w9.cell? ⟨gb321,2,none⟩ = some (.bool false):=(bkC BK321.out 2).trans rfl;have hcz11_3:w9.cell? ⟨gb321,3,none⟩ = some (.bool false):=(bkC BK321.out 3).trans rfl;have hcz11_4:w9.cell? ⟨gb321,4,none⟩ = some (.bool false):=(bkC BK321.out 4).trans rfl;have hfz11_0:=bkF BK321.out 0;have hfz11_1:=bkF BK321.out 1;have hfz11_2:=bkF BK321.out 2;have hfz11_3:=bkF BK321.out 3;have hfz11_4:=bkF BK321.out 4)|(refine gL (some 25) Tryd.func34 #[.string a0,.string (⟨#[32]⟩:ByteArray)] ?_;(with_reducible refine (strings_Cut.calls a0 (⟨#[32]⟩:ByteArray) t322 t323 t324 _ A5.out).mono ?_);rintro e w' ⟨rfl,⟨nd,rfl⟩⟩;refine ⟨_,rfl,?_⟩)|((with_reducible refine gate_dst (N:=8) rfl ?_);refine bE 8 #[.string ⟨#[]⟩] 9 ?_;intro gb325 hg w12 hbox hb;have n0_:=As0.mk (blk_below (g:=gb314) (o:=.cells #[.int .i64 x315000_1,.string x315001_1,.string x315002_1,.int .i64 x315003_1,.string x315004_1] 25 (0,0)) (by (with_reducible repeat (first|refine bkN ?_ _|refine bkD ?_|refine bkA ?_ _));refine blk_far ?_ NB314_321.out _;(with_reducible repeat (first|refine bkN ?_ _|refine bkD ?_|refine bkA ?_ _));refine blk_far ?_ NB314_321.out _;(with_reducible repeat (first|refine bkN ?_ _|refine bkD ?_|refine bkA ?_ _));refine blk_far ?_ NB314_321.out _;(with_reducible repeat (first|refine bkN ?_ _|refine bkD ?_|refine bkA ?_ _));refine blk_far ?_ NB314_321.out _;(with_reducible repeat (first|refine bkN ?_ _|refine bkD ?_|refine bkA ?_ _));refine blk_far ?_ NB314_321.out _;(with_reducible repeat (first|refine bkN ?_ _|refine bkD ?_|refine bkA ?_ _));exact BK314.out) hb);have n1_:=As0.mk (blk_below (g:=gb321) (o:=.cells #[.string t315,.bool t316,.bool t317,.bool t318,.bool t319] 53 (0,0)) (by (with_reducible repeat (first|refine bkN ?_ _|refine bkD ?_|refine bkA ?_ _));refine blk_put (cs:=#[.string t315,.bool t316,.bool t317,.bool t318,.bool false]) ?_ 4 _ rfl;(with_reducible repeat (first|refine bkN ?_ _|refine bkD ?_|refine bkA ?_ _));refine blk_put (cs:=#[.string t315,.bool t316,.bool t317,.bool false,.bool false]) ?_ 3 _ rfl;(with_reducible repeat (first|refine bkN ?_ _|refine bkD ?_|refine bkA ?_ _));refine blk_put (cs:=#[.string t315,.bool t316,.bool false,.bool false,.bool false]) ?_ 2 _ rfl;(with_reducible repeat (first|refine bkN ?_ _|refine bkD ?_|refine bkA ?_ _));refine blk_put (cs:=#[.string t315,.bool false,.bool false,.bool false,.bool false]) ?_ 1 _ rfl;(with_reducible repeat (first|refine bkN ?_ _|refine bkD ?_|refine bkA ?_ _));refine blk_put (cs:=#[.string ⟨#[]⟩,.bool false,.bool false,.bool false,.bool false]) ?_ 0 _ rfl;(with_reducible repeat (first|refine bkN ?_ _|refine bkD ?_|refine bkA ?_ _));exact BK321.out) hb);have n2_:=As0.mk (bsp (by repeat (first|(with_reducible first|exact HB.out|apply bal|apply pbN|apply bd1|refine bst ?_ GE314.out|refine bst ?_ GE321.out)|exact HB.out)) hb);have n3_:=As0.mk (hbox);have n4_:=As0.mk ((by rw [hg];exact (bsz (by repeat (first|(with_reducible first|exact HB.out|apply bal|apply pbN|apply bd1|refine bst ?_ GE314.out|refine bst ?_ GE321.out)|exact HB.out))):w.heap.size ≤ gb325));have n5_:=As0.mk ((by rw [hg];exact (bsz (by repeat (first|(with_reducible first|exact HB.out|apply bal|apply pbN|apply bd1|refine bst ?_ GE314.out|refine bst ?_ GE321.out)|exact HB.out))):w.heap.size ≤ gb325));have n6_:=As0.mk ((by rw [hg];exact Nat.ne_of_lt (blk_lt (g:=gb314) (o:=.cells #[.int .i64 x315000_1,.string x315001_1,.string x315002_1,.int .i64 x315003_1,.string x315004_1] 25 (0,0)) (by (with_reducible repeat (first|refine bkN ?_ _|refine bkD ?_|refine bkA ?_ _));refine blk_far ?_ NB314_321.out _;(with_reducible repeat (first|refine bkN ?_ _|refine bkD ?_|refine bkA ?_ _));refine blk_far ?_ NB314_321.out _;(with_reducible repeat (first|refine bkN ?_ _|refine bkD ?_|refine bkA ?_ _));refine blk_far ?_ NB314_321.out _;(with_reducible repeat (first|refine bkN ?_ _|refine bkD ?_|refine bkA ?_ _));refine blk_far ?_ NB314_321.out _;(with_reducible repeat (first|refine bkN ?_ _|refine bkD ?_|refine bkA ?_ _));refine blk_far ?_ NB314_321.out _;(with_reducible repeat (first|refine bkN ?_ _|refine bkD ?_|refine bkA ?_ _));exact BK314.out)):gb314 ≠ gb325));have n7_:=As0.mk ((by rw [hg];exact Nat.ne_of_gt (blk_lt (g:=gb314) (o:=.cells #[.int .i64 x315000_1,.string x315001_1,.string x315002_1,.int .i64 x315003_1,.string x315004_1] 25 (0,0)) (by (with_reducible repeat (first|refine bkN ?_ _|refine bkD ?_|refine bkA ?_ _));refine blk_far ?_ NB314_321.out _;(with_reducible repeat (first|refine bkN ?_ _|refine bkD ?_|refine bkA ?_ _));refine blk_far ?_ NB314_321.out _;(with_reducible repeat (first|refine bkN ?_ _|refine bkD ?_|refine bkA ?_ _));refine blk_far ?_ NB314_321.out _;(with_reducible repeat (first|refine bkN ?_ _|refine bkD ?_|refine bkA ?_ _));refine blk_far ?_ NB314_321.out _;(with_reducible repeat (first|refine bkN ?_ _|refine bkD ?_|refine bkA ?_ _));refine blk_far ?_ NB314_321.out _;(with_reducible repeat (first|refine bkN ?_ _|refine bkD ?_|refine bkA ?_ _));exact BK314.out)):gb325 ≠ gb314));have n8_:=As0.mk ((by rw [hg];exact Nat.ne_of_lt (blk_lt (g:=gb321) (o:=.cells #[.string t315,.bool t316,.bool t317,.bool t318,.bool t319] 53 (0,0)) (by (with_reducible repeat (first|refine bkN ?_ _|refine bkD ?_|refine bkA ?_ _));refine blk_put (cs:=#[.string t315,.bool t316,.bool t317,.bool t318,.bool false]) ?_ 4 _ rfl;(with_reducible repeat (first|refine bkN ?_ _|refine bkD ?_|refine bkA ?_ _));refine blk_put (cs:=#[.string t315,.bool t316,.bool t317,.bool false,.bool false]) ?_ 3 _ rfl;(with_reducible repeat (first|refine bkN ?_ _|refine bkD ?_|refine bkA ?_ _));refine blk_put (cs:=#[.string t315,.bool t316,.bool false,.bool false,.bool false]) ?_ 2 _ rfl;(with_reducible repeat (first|refine bkN ?_ _|refine bkD ?_|refine bkA ?_ _));refine blk_put (cs:=#[.string t315,.bool false,.bool false,.bool false,.bool false]) ?_ 1 _ rfl;(with_reducible repeat (first|refine bkN ?_ _|refine bkD ?_|refine bkA ?_ _));refine blk_put (cs:=#[.string ⟨#[]⟩,.bool false,.bool false,.bool false,.bool false]) ?_ 0 _ rfl;(with_reducible repeat (first|refine bkN ?_ _|refine bkD ?_|refine bkA ?_ _));exact BK321.out)):gb321 ≠ gb325));have n9_:=As0.mk ((by rw [hg];exact Nat.ne_of_gt (blk_lt (g:=gb321) (o:=.cells #[.string t315,.bool t316,.bool t317,.bool t318,.bool t319] 53 (0,0)) (by (with_reducible repeat (first|refine bkN ?_ _|refine bkD ?_|refine bkA ?_ _));refine blk_put (cs:=#[.string t315,.bool t316,.bool t317,.bool t318,.bool false]) ?_ 4 _ rfl;(with_reducible repeat (first|refine bkN ?_ _|refine bkD ?_|refine bkA ?_ _));refine blk_put (cs:=#[.string t315,.bool t316,.bool t317,.bool false,.bool false]) ?_ 3 _ rfl;(with_reducible repeat (first|refine bkN ?_ _|refine bkD ?_|refine bkA ?_ _));refine blk_put (cs:=#[.string t315,.bool t316,.bool false,.bool false,.bool false]) ?_ 2 _ rfl;(with_reducible repeat (first|refine bkN ?_ _|refine bkD ?_|refine bkA ?_ _));refine blk_put (cs:=#[.string t315,.bool false,.bool false,.bool false,.bool false]) ?_ 1 _ rfl;(with_reducible repeat (first|refine bkN ?_ _|refine bkD ?_|refine bkA ?_ _));refine blk_put (cs:=#[.string ⟨#[]⟩,.bool false,.bool false,.bool false,.bool false]) ?_ 0 _ rfl;(with_reducible repeat (first|refine bkN ?_ _|refine bkD ?_|refine bkA ?_ _));exact BK321.out)):gb325 ≠ gb321));clear BK314;clear BK321;clear HB;have BK314:=n0_;have BK321:=n1_;have HB:=n2_;have BK325:=n3_;have GW325:=n4_;have GE325:=n5_;have NB314_325:=n6_;have NB325_314:=n7_;have NB321_325:=n8_;have NB325_321:=n9_;clear n0_ n1_ n2_ n3_ n4_ n5_ n6_ n7_ n8_ n9_;clear hb hbox hg)|((with_reducible refine gate_dst (N:=9) rfl ?_);refine bE 9 #[.bool false] 4 ?_;intro gb326 hg w13 hbox hb;have n0_:=As0.mk (bb hb BK314.out);have n1_:=As0.mk (bb hb BK321.out);have n2_:=As0.mk (bb hb BK325.out);have n3_:=As0.mk (bsp (by repeat (first|(with_reducible first|exact HB.out|apply bal|apply pbN|apply bd1|refine bst ?_ GE314.out|refine bst ?_ GE321.out|refine bst ?_ GE325.out)|exact HB.out)) hb);have n4_:=As0.mk (hbox);have n5_:=As0.mk ((by rw [hg];exact (bsz (by repeat (first|(with_reducible first|exact HB.out|apply bal|apply pbN|apply bd1|refine bst ?_ GE314.out|refine bst ?_ GE321.out|refine bst ?_ GE325.out)|exact HB.out))):w.heap.size ≤ gb326));have n6_:=As0.mk ((by rw [hg];exact (bsz (by repeat (first|(with_reducible first|exact HB.out|apply bal|apply pbN|apply bd1|refine bst ?_ GE314.out|refine bst ?_ GE321.out|refine bst ?_ GE325.out)|exact HB.out))):w.heap.size ≤ gb326));have n7_:=As0.mk ((by rw [hg];exact Nat.ne_of_lt (blk_lt (g:=gb314) (o:=.cells #[.int .i64 x315000_1,.string x315001_1,.string x315002_1,.int .i64 x315003_1,.string x315004_1] 25 (0,0)) (by (with_reducible repeat (first|refine bkN ?_ _|refine bkD ?_|refine bkA ?_ _));exact BK314.out)):gb314 ≠ gb326));have n8_:=As0.mk ((by rw [hg];exact Nat.ne_of_gt (blk_lt (g:=gb314) (o:=.cells #[.int .i64 x315000_1,.string x315001_1,.string x315002_1,.int .i64 x315003_1,.string x315004_1] 25 (0,0)) (by (with_reducible repeat (first|refine bkN ?_ _|refine bkD ?_|refine bkA ?_ _));exact BK314.out)):gb326 ≠ gb314));have n9_:=As0.mk ((by rw [hg];exact Nat.ne_of_lt (blk_lt (g:=gb321) (o:=.cells #[.string t315,.bool t316,.bool t317,.bool t318,.bool t319] 53 (0,0)) (by (with_reducible repeat (first|refine bkN ?_ _|refine bkD ?_|refine bkA ?_ _));exact BK321.out)):gb321 ≠ gb326));have n10_:=As0.mk ((by rw [hg];exact Nat.ne_of_gt (blk_lt (g:=gb321) (o:=.cells #[.string t315,.bool t316,.bool t317,.bool t318,.bool t319] 53 (0,0)) (by (with_reducible repeat (first|refine bkN ?_ _|refine bkD ?_|refine bkA ?_ _));exact BK321.out)):gb326 ≠ gb321));have n11_:=As0.mk ((by rw [hg];exact Nat.ne_of_lt (blk_lt (g:=gb325) (o:=.cells #[.string ⟨#[]⟩] 9 (0,0)) (by (with_reducible repeat (first|refine bkN ?_ _|refine bkD ?_|refine bkA ?_ _));exact BK325.out)):gb325 ≠ gb326));have n12_:=As0.mk ((by rw [hg];exact Nat.ne_of_gt (blk_lt (g:=gb325) (o:=.cells #[.string ⟨#[]⟩] 9 (0,0)) (by (with_reducible repeat (first|refine bkN ?_ _|refine bkD ?_|refine bkA ?_ _));exact BK325.out)):gb326 ≠ gb325));clear BK314;clear BK321;clear BK325;clear HB;have BK314:=n0_;have BK321:=n1_;have BK325:=n2_;have HB:=n3_;have BK326:=n4_;have GW326:=n5_;have GE326:=n6_;have NB314_326:=n7_;have NB326_314:=n8_;have NB321_326:=n9_;have NB326_321:=n10_;have NB325_326:=n11_;have NB326_325:=n12_;clear n0_ n1_ n2_ n3_ n4_ n5_ n6_ n7_ n8_ n9_ n10_ n11_ n12_;clear hb hbox hg;have hnb14:=NB325_314.out;have hnc14:=NB314_325.out;have hnb15:=NB325_321.out;have hnc15:=NB321_325.out;have hnb16:=NB325_326.out;have hnc16:=NB326_325.out;have hcz17_0:w13.cell? ⟨gb325,0,none⟩ = some (.string ⟨#[]⟩):=(bkC BK325.out 0).trans rfl;have hfz17_0:=bkF BK325.out 0;have hnb18:=NB326_314.out;have hnc18:=NB314_326.out;have hnb19:=NB326_321.out;have hnc19:=NB321_326.out;have hcz20_0:w13.cell? ⟨gb326,0,none⟩ = some (.bool false):=(bkC BK326.out 0).trans rfl;have hfz20_0:=bkF BK326.out 0;have hcz21_0:w13.cell? ⟨gb321,0,none⟩ = some (.string t315):=(bkC BK321.out 0).trans rfl;have hcz21_1:w13.cell? ⟨gb321,1,none⟩ = some (.bool t316):=(bkC BK321.out 1).trans rfl;have hcz21_2:w13.cell? ⟨gb321,2,none⟩ = some (.bool t317):=(bkC BK321.out 2).trans rfl;have hcz21_3:w13.cell? ⟨gb321,3,none⟩ = some (.bool t318):=(bkC BK321.out 3).trans rfl;have hcz21_4:w13.cell? ⟨gb321,4,none⟩ = some (.bool t319):=(bkC BK321.out 4).trans rfl;have hfz21_0:=bkF BK321.out 0;have hfz21_1:=bkF BK321.out 1;have hfz21_2:=bkF BK321.out 2;have hfz21_3:=bkF BK321.out 3;have hfz21_4:=bkF BK321.out 4)|((with_reducible refine gate_dst (N:=10) rfl ?_);refine bE 10 #[.int .i64 0,.string ⟨#[]⟩,.string ⟨#[]⟩,.int .i64 0,.string ⟨#[]⟩] 25 ?_;intro gb327 hg w22 hbox hb;have n0_:=As0.mk (blk_below (g:=gb314) (o:=.cells #[.int .i64 x315000_1,.string x315001_1,.string x315002_1,.int .i64 x315003_1,.string x315004_1] 25 (0,0)) (by (with_reducible repeat (first|refine bkN ?_ _|refine bkD ?_|refine bkA ?_ _));refine blk_far ?_ NB314_326.out _;(with_reducible repeat (first|refine bkN ?_ _|refine bkD ?_|refine bkA ?_ _));refine blk_far ?_ NB314_325.out _;(with_reducible repeat (first|refine bkN ?_ _|refine bkD ?_|refine bkA ?_ _));exact BK314.out) hb);have n1_:=As0.mk (blk_below (g:=gb321) (o:=.cells #[.string t315,.bool t316,.bool t317,.bool t318,.bool t319] 53 (0,0)) (by (with_reducible repeat (first|refine bkN ?_ _|refine bkD ?_|refine bkA ?_ _));refine blk_far ?_ NB321_326.out _;(with_reducible repeat (first|refine bkN ?_ _|refine bkD ?_|refine bkA ?_ _));refine blk_far ?_ NB321_325.out _;(with_reducible repeat (first|refine bkN ?_ _|refine bkD ?_|refine bkA ?_ _));exact BK321.out) hb);have n2_:=As0.mk (blk_below (g:=gb325) (o:=.cells #[.string t323] 9 (0,0)) (by (with_reducible repeat (first|refine bkN ?_ _|refine bkD ?_|refine bkA ?_ _));refine blk_far ?_ NB325_326.out _;(with_reducible repeat (first|refine bkN ?_ _|refine bkD ?_|refine bkA ?_ _));refine blk_put (cs:=#[.string ⟨#[]⟩]) ?_ 0 _ rfl;(with_reducible repeat (first|refine bkN ?_ _|refine bkD ?_|refine bkA ?_ _));exact BK325.out) hb);have n3_:=As0.mk (blk_below (g:=gb326) (o:=.cells #[.bool t324] 4 (0,0)) (by (with_reducible repeat (first|refine bkN ?_ _|refine bkD ?_|refine bkA ?_ _));refine blk_put (cs:=#[.bool false]) ?_ 0 _ rfl;(with_reducible repeat (first|refine bkN ?_ _|refine bkD ?_|refine bkA ?_ _));refine blk_far ?_ NB326_325.out _;(with_reducible repeat (first|refine bkN ?_ _|refine bkD ?_|refine bkA ?_ _));exact BK326.out) hb);have n4_:=As0.mk (bsp (by repeat (first|(with_reducible first|exact HB.out|apply bal|apply pbN|apply bd1|refine bst ?_ GE314.out|refine bst ?_ GE321.out|refine bst ?_ GE325.out|refine bst ?_ GE326.out)|exact HB.out)) hb);have n5_:=As0.mk (hbox);have n6_:=As0.mk ((by rw [hg];exact (bsz (by repeat (first|(with_reducible first|exact HB.out|apply bal|apply pbN|apply bd1|refine bst ?_ GE314.out|refine bst ?_ GE321.out|refine bst ?_ GE325.out|refine bst ?_ GE326.out)|exact HB.out))):w.heap.size ≤ gb327));have n7_:=As0.mk ((by rw [hg];exact (bsz (by repeat (first|(with_reducible first|exact HB.out|apply bal|apply pbN|apply bd1|refine bst ?_ GE314.out|refine bst ?_ GE321.out|refine bst ?_ GE325.out|refine bst ?_ GE326.out)|exact HB.out))):w.heap.size ≤ gb327));have n8_:=As0.mk ((by rw [hg];exact Nat.ne_of_lt (blk_lt (g:=gb314) (o:=.cells #[.int .i64 x315000_1,.string x315001_1,.string x315002_1,.int .i64 x315003_1,.string x315004_1] 25 (0,0)) (by (with_reducible repeat (first|refine bkN ?_ _|refine bkD ?_|refine bkA ?_ _));refine blk_far ?_ NB314_326.out _;(with_reducible repeat (first|refine bkN ?_ _|refine bkD ?_|refine bkA ?_ _));refine blk_far ?_ NB314_325.out _;(with_reducible repeat (first|refine bkN ?_ _|refine bkD ?_|refine bkA ?_ _));exact BK314.out)):gb314 ≠ gb327));have n9_:=As0.mk ((by rw [hg];exact Nat.ne_of_gt (blk_lt (g:=gb314) (o:=.cells #[.int .i64 x315000_1,.string x315001_1,.string x315002_1,.int .i64 x315003_1,.string x315004_1] 25 (0,0)) (by (with_reducible repeat (first|refine bkN ?_ _|refine bkD ?_|refine bkA ?_ _));refine blk_far ?_ NB314_326.out _;(with_reducible repeat (first|refine bkN ?_ _|refine bkD ?_|refine bkA ?_ _));refine blk_far ?_ NB314_325.out _;(with_reducible repeat (first|refine bkN ?_ _|refine bkD ?_|refine bkA ?_ _));exact BK314.out)):gb327 ≠ gb314));have n10_:=As0.mk ((by rw [hg];exact Nat.ne_of_lt (blk_lt (g:=gb321) (o:=.cells #[.string t315,.bool t316,.bool t317,.bool t318,.bool t319] 53 (0,0)) (by (with_reducible repeat (first|refine bkN ?_ _|refine bkD ?_|refine bkA ?_ _));refine blk_far ?_ NB321_326.out _;(with_reducible repeat (first|refine bkN ?_ _|refine bkD ?_|refine bkA ?_ _));refine blk_far ?_ NB321_325.out _;(with_reducible repeat (first|refine bkN ?_ _|refine bkD ?_|refine bkA ?_ _));exact BK321.out)):gb321 ≠ gb327));have n11_:=As0.mk ((by rw [hg];exact Nat.ne_of_gt (blk_lt (g:=gb321) (o:=.cells #[.string t315,.bool t316,.bool t317,.bool t318,.bool t319] 53 (0,0)) (by (with_reducible repeat (first|refine bkN ?_ _|refine bkD ?_|refine bkA ?_ _));refine blk_far ?_ NB321_326.out _;(with_reducible repeat (first|refine bkN ?_ _|refine bkD ?_|refine bkA ?_ _));refine blk_far ?_ NB321_325.out _;(with_reducible repeat (first|refine bkN ?_ _|refine bkD ?_|refine bkA ?_ _));exact BK321.out)):gb327 ≠ gb321));have n12_:=As0.mk ((by rw [hg];exact Nat.ne_of_lt (blk_lt (g:=gb325) (o:=.cells #[.string t323] 9 (0,0)) (by (with_reducible repeat (first|refine bkN ?_ _|refine bkD ?_|refine bkA ?_ _));refine blk_far ?_ NB325_326.out _;(with_reducible repeat (first|refine bkN ?_ _|refine bkD ?_|refine bkA ?_ _));refine blk_put (cs:=#[.string ⟨#[]⟩]) ?_ 0 _ rfl;(with_reducible repeat (first|refine bkN ?_ _|refine bkD ?_|refine bkA ?_ _));exact BK325.out)):gb325 ≠ gb327));have n13_:=As0.mk ((by rw [hg];exact Nat.ne_of_gt (blk_lt (g:=gb325) (o:=.cells #[.string t323] 9 (0,0)) (by (with_reducible repeat (first|refine bkN ?_ _|refine bkD ?_|refine bkA ?_ _));refine blk_far ?_ NB325_326.out _;(with_reducible repeat (first|refine bkN ?_ _|refine bkD ?_|refine bkA ?_ _));refine blk_put (cs:=#[.string ⟨#[]⟩]) ?_ 0 _ rfl;(with_reducible repeat (first|refine bkN ?_ _|refine bkD ?_|refine bkA ?_ _));exact BK325.out)):gb327 ≠ gb325));have n14_:=As0.mk ((by rw [hg];exact Nat.ne_of_lt (blk_lt (g:=gb326) (o:=.cells #[.bool t324] 4 (0,0)) (by (with_reducible repeat (first|refine bkN ?_ _|refine bkD ?_|refine bkA ?_ _));refine blk_put (cs:=#[.bool false]) ?_ 0 _ rfl;(with_reducible repeat (first|refine bkN ?_ _|refine bkD ?_|refine bkA ?_ _));refine blk_far ?_ NB326_325.out _;(with_reducible repeat (first|refine bkN ?_ _|refine bkD ?_|refine bkA ?_ _));exact BK326.out)):gb326 ≠ gb327));have n15_:=As0.mk ((by rw [hg];exact Nat.ne_of_gt (blk_lt (g:=gb326) (o:=.cells #[.bool t324] 4 (0,0)) (by (with_reducible repeat (first|refine bkN ?_ _|refine bkD ?_|refine bkA ?_ _));refine blk_put (cs:=#[.bool false]) ?_ 0 _ rfl;(with_reducible repeat (first|refine bkN ?_ _|refine bkD ?_|refine bkA ?_ _));refine blk_far ?_ NB326_325.out _;(with_reducible repeat (first|refine bkN ?_ _|refine bkD ?_|refine bkA ?_ _));exact BK326.out)):gb327 ≠ gb326));clear BK314;clear BK321;clear BK325;clear BK326;clear HB;have BK314:=n0_;have BK321:=n1_;have BK325:=n2_;have BK326:=n3_;have HB:=n4_;have BK327:=n5_;have GW327:=n6_;have GE327:=n7_;have NB314_327:=n8_;have NB327_314:=n9_;have NB321_327:=n10_;have NB327_321:=n11_;have NB325_327:=n12_;have NB327_325:=n13_;have NB326_327:=n14_;have NB327_326:=n15_;clear n0_ n1_ n2_ n3_ n4_ n5_ n6_ n7_ n8_ n9_ n10_ n11_ n12_ n13_ n14_ n15_;clear hb hbox hg;have hnb23:=NB327_314.out;have hnc23:=NB314_327.out;have hnb24:=NB327_321.out;have hnc24:=NB321_327.out;have hnb25:=NB327_325.out;have hnc25:=NB325_327.out;have hnb26:=NB327_326.out;have hnc26:=NB326_327.out;have hcz27_0:w22.cell? ⟨gb327,0,none⟩ = some (.int .i64 0):=(bkC BK327.out 0).trans rfl;have hcz27_1:w22.cell? ⟨gb327,1,none⟩ = some (.string ⟨#[]⟩):=(bkC BK327.out 1).trans rfl;have hcz27_2:w22.cell? ⟨gb327,2,none⟩ = some (.string ⟨#[]⟩):=(bkC BK327.out 2).trans rfl;have hcz27_3:w22.cell? ⟨gb327,3,none⟩ = some (.int .i64 0):=(bkC BK327.out 3).trans rfl;have hcz27_4:w22.cell? ⟨gb327,4,none⟩ = some (.string ⟨#[]⟩):=(bkC BK327.out 4).trans rfl;have hfz27_0:=bkF BK327.out 0;have hfz27_1:=bkF BK327.out 1;have hfz27_2:=bkF BK327.out 2;have hfz27_3:=bkF BK327.out 3;have hfz27_4:=bkF BK327.out 4))
       (try simp only [Act.put,sA,sZ,sS])
       show _;go_cut [40] (fun v40 wc=>∃ (kq:Nat) (x40_6:Bool),v40 = .bool x40_6 ∧ As0 (impl_reqRead.j1 kq a0 x40_6 t315 t316 t317 t318 t319 t323 t324 x4_1 (⟨#[]⟩:ByteArray) (⟨#[]⟩:ByteArray) 0 (⟨#[]⟩:ByteArray) = some (r1,r2,r3,r4,r5,r6)) ∧ As0 (kq ≤ k1) ∧ As0 (wc.heap[gb314]? = some (.cells #[.int .i64 x315000_1,.string x315001_1,.string x315002_1,.int .i64 x315003_1,.string x315004_1] 25 (0,0))) ∧ As0 (wc.heap[gb321]? = some (.cells #[.string t315,.bool t316,.bool t317,.bool t318,.bool t319] 53 (0,0))) ∧ As0 (wc.heap[gb325]? = some (.cells #[.string t323] 9 (0,0))) ∧ As0 (wc.heap[gb326]? = some (.cells #[.bool t324] 4 (0,0))) ∧ As0 (wc.heap[gb327]? = some (.cells #[.int .i64 x4_1,.string ⟨#[]⟩,.string ⟨#[]⟩,.int .i64 0,.string ⟨#[]⟩] 25 (0,0))) ∧ As0 (Below w.heap.size w wc))
       case first=>
        have H:=HC7.out;clear HC7;by_cases c28:t316 = true
        · subst c28
          have H1:(impl_reqRead.j1 k1 a0 t324 t315 true t317 t318 t319 t323 t324 x4_1 (⟨#[]⟩:ByteArray) (⟨#[]⟩:ByteArray) 0 (⟨#[]⟩:ByteArray)) = some (r1,r2,r3,r4,r5,r6):=by rw [if_pos rfl] at H;exact H
          clear H;have H:=H1;clear H1;have H':=As0.mk H;clear H;have hnb29:=NB321_314.out;have hnc29:=NB314_321.out;have hnb30:=NB321_325.out;have hnc30:=NB325_321.out;have hnb31:=NB321_326.out;have hnc31:=NB326_321.out;have hnb32:=NB321_327.out;have hnc32:=NB327_321.out;obtain ⟨hcz33_0,hcz33_1,hcz33_2,hcz33_3,hcz33_4⟩:=qc5 BK321.out;obtain ⟨hfz33_0,hfz33_1,hfz33_2,hfz33_3,hfz33_4⟩:=qz5 BK321.out;have hnb34:=NB326_314.out;have hnc34:=NB314_326.out;have hnb35:=NB326_325.out;have hnc35:=NB325_326.out;have hnb36:=NB326_327.out;have hnc36:=NB327_326.out;have hcz37_0:=qc1 BK326.out;have hfz37_0:=bkF BK326.out 0
          go_wp2
          show _;go_meet
          case rel=>exact ⟨_,(t324),(by first|rfl|(simp;done)|(simp [*];done)),H',⟨by have:=HK1.out;first|omega|exact Nat.le_refl _⟩,⟨by (with_reducible repeat (first|refine bkN ?_ _|refine bkD ?_|refine bkA ?_ _));refine blk_far ?_ NB314_327.out _;(with_reducible repeat (first|refine bkN ?_ _|refine bkD ?_|refine bkA ?_ _));refine blk_far ?_ NB314_327.out _;(with_reducible repeat (first|refine bkN ?_ _|refine bkD ?_|refine bkA ?_ _));refine blk_far ?_ NB314_327.out _;(with_reducible repeat (first|refine bkN ?_ _|refine bkD ?_|refine bkA ?_ _));refine blk_far ?_ NB314_327.out _;(with_reducible repeat (first|refine bkN ?_ _|refine bkD ?_|refine bkA ?_ _));refine blk_far ?_ NB314_327.out _;(with_reducible repeat (first|refine bkN ?_ _|refine bkD ?_|refine bkA ?_ _));exact BK314.out⟩,⟨by (with_reducible repeat (first|refine bkN ?_ _|refine bkD ?_|refine bkA ?_ _));refine blk_far ?_ NB321_327.out _;(with_reducible repeat (first|refine bkN ?_ _|refine bkD ?_|refine bkA ?_ _));refine blk_far ?_ NB321_327.out _;(with_reducible repeat (first|refine bkN ?_ _|refine bkD ?_|refine bkA ?_ _));refine blk_far ?_ NB321_327.out _;(with_reducible repeat (first|refine bkN ?_ _|refine bkD ?_|refine bkA ?_ _));refine blk_far ?_ NB321_327.out _;(with_reducible repeat (first|refine bkN ?_ _|refine bkD ?_|refine bkA ?_ _));refine blk_far ?_ NB321_327.out _;(with_reducible repeat (first|refine bkN ?_ _|refine bkD ?_|refine bkA ?_ _));exact BK321.out⟩,⟨by (with_reducible repeat (first|refine bkN ?_ _|refine bkD ?_|refine bkA ?_ _));refine blk_far ?_ NB325_327.out _;(with_reducible repeat (first|refine bkN ?_ _|refine bkD ?_|refine bkA ?_ _));refine blk_far ?_ NB325_327.out _;(with_reducible repeat (first|refine bkN ?_ _|refine bkD ?_|refine bkA ?_ _));refine blk_far ?_ NB325_327.out _;(with_reducible repeat (first|refine bkN ?_ _|refine bkD ?_|refine bkA ?_ _));refine blk_far ?_ NB325_327.out _;(with_reducible repeat (first|refine bkN ?_ _|refine bkD ?_|refine bkA ?_ _));refine blk_far ?_ NB325_327.out _;(with_reducible repeat (first|refine bkN ?_ _|refine bkD ?_|refine bkA ?_ _));exact BK325.out⟩,⟨by (with_reducible repeat (first|refine bkN ?_ _|refine bkD ?_|refine bkA ?_ _));refine blk_far ?_ NB326_327.out _;(with_reducible repeat (first|refine bkN ?_ _|refine bkD ?_|refine bkA ?_ _));refine blk_far ?_ NB326_327.out _;(with_reducible repeat (first|refine bkN ?_ _|refine bkD ?_|refine bkA ?_ _));refine blk_far ?_ NB326_327.out _;(with_reducible repeat (first|refine bkN ?_ _|refine bkD ?_|refine bkA ?_ _));refine blk_far ?_ NB326_327.out _;(with_reducible repeat (first|refine bkN ?_ _|refine bkD ?_|refine bkA ?_ _));refine blk_far ?_ NB326_327.out _;(with_reducible repeat (first|refine bkN ?_ _|refine bkD ?_|refine bkA ?_ _));exact BK326.out⟩,⟨by (with_reducible repeat (first|refine bkN ?_ _|refine bkD ?_|refine bkA ?_ _));refine blk_put (cs:=#[.int .i64 x4_1,.string ⟨#[]⟩,.string ⟨#[]⟩,.int .i64 0,.string ⟨#[]⟩]) ?_ 4 _ rfl;(with_reducible repeat (first|refine bkN ?_ _|refine bkD ?_|refine bkA ?_ _));refine blk_put (cs:=#[.int .i64 x4_1,.string ⟨#[]⟩,.string ⟨#[]⟩,.int .i64 0,.string ⟨#[]⟩]) ?_ 3 _ rfl;(with_reducible repeat (first|refine bkN ?_ _|refine bkD ?_|refine bkA ?_ _));refine blk_put (cs:=#[.int .i64 x4_1,.string ⟨#[]⟩,.string ⟨#[]⟩,.int .i64 0,.string ⟨#[]⟩]) ?_ 2 _ rfl;(with_reducible repeat (first|refine bkN ?_ _|refine bkD ?_|refine bkA ?_ _));refine blk_put (cs:=#[.int .i64 x4_1,.string ⟨#[]⟩,.string ⟨#[]⟩,.int .i64 0,.string ⟨#[]⟩]) ?_ 1 _ rfl;(with_reducible repeat (first|refine bkN ?_ _|refine bkD ?_|refine bkA ?_ _));refine blk_put (cs:=#[.int .i64 0,.string ⟨#[]⟩,.string ⟨#[]⟩,.int .i64 0,.string ⟨#[]⟩]) ?_ 0 _ rfl;(with_reducible repeat (first|refine bkN ?_ _|refine bkD ?_|refine bkA ?_ _));exact BK327.out⟩,⟨by repeat (first|(with_reducible first|exact HB.out|apply bal|apply pbN|apply bd1|refine bst ?_ GE314.out|refine bst ?_ GE321.out|refine bst ?_ GE325.out|refine bst ?_ GE326.out|refine bst ?_ GE327.out)|exact HB.out)⟩⟩
        · replace c28:=Bool.eq_false_iff.mpr c28
          subst c28;have H1:(impl_reqRead.j1 k1 a0 false t315 false t317 t318 t319 t323 t324 x4_1 (⟨#[]⟩:ByteArray) (⟨#[]⟩:ByteArray) 0 (⟨#[]⟩:ByteArray)) = some (r1,r2,r3,r4,r5,r6):=by rw [if_neg (show ¬ (false = true) by decide)] at H;exact H
          clear H;have H:=H1;clear H1;have H':=As0.mk H;clear H;have hnb38:=NB321_314.out;have hnc38:=NB314_321.out;have hnb39:=NB321_325.out;have hnc39:=NB325_321.out;have hnb40:=NB321_326.out;have hnc40:=NB326_321.out;have hnb41:=NB321_327.out;have hnc41:=NB327_321.out;obtain ⟨hcz42_0,hcz42_1,hcz42_2,hcz42_3,hcz42_4⟩:=qc5 BK321.out;obtain ⟨hfz42_0,hfz42_1,hfz42_2,hfz42_3,hfz42_4⟩:=qz5 BK321.out
          go_wp2
          show _;go_meet
          case rel=>exact ⟨_,(false),(by first|rfl|(simp;done)|(simp [*];done)),H',⟨by have:=HK1.out;first|omega|exact Nat.le_refl _⟩,⟨by (with_reducible repeat (first|refine bkN ?_ _|refine bkD ?_|refine bkA ?_ _));refine blk_far ?_ NB314_327.out _;(with_reducible repeat (first|refine bkN ?_ _|refine bkD ?_|refine bkA ?_ _));refine blk_far ?_ NB314_327.out _;(with_reducible repeat (first|refine bkN ?_ _|refine bkD ?_|refine bkA ?_ _));refine blk_far ?_ NB314_327.out _;(with_reducible repeat (first|refine bkN ?_ _|refine bkD ?_|refine bkA ?_ _));refine blk_far ?_ NB314_327.out _;(with_reducible repeat (first|refine bkN ?_ _|refine bkD ?_|refine bkA ?_ _));refine blk_far ?_ NB314_327.out _;(with_reducible repeat (first|refine bkN ?_ _|refine bkD ?_|refine bkA ?_ _));exact BK314.out⟩,⟨by (with_reducible repeat (first|refine bkN ?_ _|refine bkD ?_|refine bkA ?_ _));refine blk_far ?_ NB321_327.out _;(with_reducible repeat (first|refine bkN ?_ _|refine bkD ?_|refine bkA ?_ _));refine blk_far ?_ NB321_327.out _;(with_reducible repeat (first|refine bkN ?_ _|refine bkD ?_|refine bkA ?_ _));refine blk_far ?_ NB321_327.out _;(with_reducible repeat (first|refine bkN ?_ _|refine bkD ?_|refine bkA ?_ _));refine blk_far ?_ NB321_327.out _;(with_reducible repeat (first|refine bkN ?_ _|refine bkD ?_|refine bkA ?_ _));refine blk_far ?_ NB321_327.out _;(with_reducible repeat (first|refine bkN ?_ _|refine bkD ?_|refine bkA ?_ _));exact BK321.out⟩,⟨by (with_reducible repeat (first|refine bkN ?_ _|refine bkD ?_|refine bkA ?_ _));refine blk_far ?_ NB325_327.out _;(with_reducible repeat (first|refine bkN ?_ _|refine bkD ?_|refine bkA ?_ _));refine blk_far ?_ NB325_327.out _;(with_reducible repeat (first|refine bkN ?_ _|refine bkD ?_|refine bkA ?_ _));refine blk_far ?_ NB325_327.out _;(with_reducible repeat (first|refine bkN ?_ _|refine bkD ?_|refine bkA ?_ _));refine blk_far ?_ NB325_327.out _;(with_reducible repeat (first|refine bkN ?_ _|refine bkD ?_|refine bkA ?_ _));refine blk_far ?_ NB325_327.out _;(with_reducible repeat (first|refine bkN ?_ _|refine bkD ?_|refine bkA ?_ _));exact BK325.out⟩,⟨by (with_reducible repeat (first|refine bkN ?_ _|refine bkD ?_|refine bkA ?_ _));refine blk_far ?_ NB326_327.out _;(with_reducible repeat (first|refine bkN ?_ _|refine bkD ?_|refine bkA ?_ _));refine blk_far ?_ NB326_327.out _;(with_reducible repeat (first|refine bkN ?_ _|refine bkD ?_|refine bkA ?_ _));refine blk_far ?_ NB326_327.out _;(with_reducible repeat (first|refine bkN ?_ _|refine bkD ?_|refine bkA ?_ _));refine blk_far ?_ NB326_327.out _;(with_reducible repeat (first|refine bkN ?_ _|refine bkD ?_|refine bkA ?_ _));refine blk_far ?_ NB326_327.out _;(with_reducible repeat (first|refine bkN ?_ _|refine bkD ?_|refine bkA ?_ _));exact BK326.out⟩,⟨by (with_reducible repeat (first|refine bkN ?_ _|refine bkD ?_|refine bkA ?_ _));refine blk_put (cs:=#[.int .i64 x4_1,.string ⟨#[]⟩,.string ⟨#[]⟩,.int .i64 0,.string ⟨#[]⟩]) ?_ 4 _ rfl;(with_reducible repeat (first|refine bkN ?_ _|refine bkD ?_|refine bkA ?_ _));refine blk_put (cs:=#[.int .i64 x4_1,.string ⟨#[]⟩,.string ⟨#[]⟩,.int .i64 0,.string ⟨#[]⟩]) ?_ 3 _ rfl;(with_reducible repeat (first|refine bkN ?_ _|refine bkD ?_|refine bkA ?_ _));refine blk_put (cs:=#[.int .i64 x4_1,.string ⟨#[]⟩,.string ⟨#[]⟩,.int .i64 0,.string ⟨#[]⟩]) ?_ 2 _ rfl;(with_reducible repeat (first|refine bkN ?_ _|refine bkD ?_|refine bkA ?_ _));refine blk_put (cs:=#[.int .i64 x4_1,.string ⟨#[]⟩,.string ⟨#[]⟩,.int .i64 0,.string ⟨#[]⟩]) ?_ 1 _ rfl;(with_reducible repeat (first|refine bkN ?_ _|refine bkD ?_|refine bkA ?_ _));refine blk_put (cs:=#[.int .i64 0,.string ⟨#[]⟩,.string ⟨#[]⟩,.int .i64 0,.string ⟨#[]⟩]) ?_ 0 _ rfl;(with_reducible repeat (first|refine bkN ?_ _|refine bkD ?_|refine bkA ?_ _));exact BK327.out⟩,⟨by repeat (first|(with_reducible first|exact HB.out|apply bal|apply pbN|apply bd1|refine bst ?_ GE314.out|refine bst ?_ GE321.out|refine bst ?_ GE325.out|refine bst ?_ GE326.out|refine bst ?_ GE327.out)|exact HB.out)⟩⟩
       case rest=>
        clear HC7
        try clear c1
        try clear c2
        try clear p2
        try clear c3
        try clear c3b0
        try clear c4
        try clear c6
        try clear c6b0
        try clear c6b1
        try clear p6
        try clear c10
        try clear c14
        try clear c15
        try clear c16
        try clear c18
        try clear c19
        try clear c23
        try clear c24
        try clear c25
        try clear c26
        try clear c28
        try clear c29
        try clear c30
        try clear c31
        try clear c32
        try clear c33
        try clear c34
        try clear c35
        try clear c36
        try clear c38
        try clear c39
        try clear c40
        try clear c41
        try clear hcz11_0
        try clear hcz11_1
        try clear hcz11_2
        try clear hcz11_3
        try clear hcz11_4
        try clear hcz17_0
        try clear hcz20_0
        try clear hcz21_0
        try clear hcz21_1
        try clear hcz21_2
        try clear hcz21_3
        try clear hcz21_4
        try clear hcz27_0
        try clear hcz27_1
        try clear hcz27_2
        try clear hcz27_3
        try clear hcz27_4
        try clear hcz33_0
        try clear hcz33_1
        try clear hcz33_2
        try clear hcz33_3
        try clear hcz33_4
        try clear hcz37_0
        try clear hcz42_0
        try clear hcz42_1
        try clear hcz42_2
        try clear hcz42_3
        try clear hcz42_4
        try clear hfz11_0
        try clear hfz11_1
        try clear hfz11_2
        try clear hfz11_3
        try clear hfz11_4
        try clear hfz17_0
        try clear hfz20_0
        try clear hfz21_0
        try clear hfz21_1
        try clear hfz21_2
        try clear hfz21_3
        try clear hfz21_4
        try clear hfz27_0
        try clear hfz27_1
        try clear hfz27_2
        try clear hfz27_3
        try clear hfz27_4
        try clear hfz33_0
        try clear hfz33_1
        try clear hfz33_2
        try clear hfz33_3
        try clear hfz33_4
        try clear hfz37_0
        try clear hfz42_0
        try clear hfz42_1
        try clear hfz42_2
        try clear hfz42_3
        try clear hfz42_4
        try clear p2
        obtain ⟨kq,x40_6,rfl,HA,HJ6,BK314,BK321,BK325,BK326,BK327,HB⟩:=hcut
        cases kq with
        |zero=>exact absurd HA.out (by simp [impl_reqRead.j1])
        |succ kj6=>
         have H:=HA.out;clear HA;simp only [impl_reqRead.j1] at H;have HC43:=As0.mk H;clear H
         go_upto_if 40 with (fail)
         show _;go_cut [] (fun wc=>∃ (kq:Nat) (x326000_42:ByteArray) (x327000_42:Bool) (x328001_42:ByteArray),As0 (impl_reqRead.j2 kq a0 t315 t316 t317 t318 t319 x326000_42 x327000_42 x4_1 x328001_42 (⟨#[]⟩:ByteArray) 0 (⟨#[]⟩:ByteArray) = some (r1,r2,r3,r4,r5,r6)) ∧ As0 (kq ≤ kj6) ∧ As0 (wc.heap[gb314]? = some (.cells #[.int .i64 x315000_1,.string x315001_1,.string x315002_1,.int .i64 x315003_1,.string x315004_1] 25 (0,0))) ∧ As0 (wc.heap[gb321]? = some (.cells #[.string t315,.bool t316,.bool t317,.bool t318,.bool t319] 53 (0,0))) ∧ As0 (wc.heap[gb325]? = some (.cells #[.string x326000_42] 9 (0,0))) ∧ As0 (wc.heap[gb326]? = some (.cells #[.bool x327000_42] 4 (0,0))) ∧ As0 (wc.heap[gb327]? = some (.cells #[.int .i64 x4_1,.string x328001_42,.string ⟨#[]⟩,.int .i64 0,.string ⟨#[]⟩] 25 (0,0))) ∧ As0 (Below w.heap.size w wc))
         case first=>
          have H:=HC43.out;clear HC43;by_cases c44:x40_6 = true
          · subst c44
            have H1:((impl_reqRead_1.f t323 t324).bind fun bt328=>(impl_reqRead.j2 kj6 a0 t315 t316 t317 t318 t319 bt328.2.1 bt328.2.2 x4_1 bt328.1 (⟨#[]⟩:ByteArray) 0 (⟨#[]⟩:ByteArray))) = some (r1,r2,r3,r4,r5,r6):=by rw [if_pos rfl] at H;exact H
            clear H;have H:=H1;clear H1;replace H:=Option.bind_eq_some_iff.mp H;obtain ⟨⟨t328,t329,t330⟩,A450,H⟩:=H;(try dsimp only at H);have A45:=As0.mk A450;clear A450;have H':=As0.mk H;clear H
            go_wp2_with (first|(go_at_call 35;(with_reducible refine (impl_reqRead_1.calls t323 t324 gb325 gb326 t328 t329 t330 _ ?side1 ?side2 ?side3 A45.out).mono ?_);(case side1=>exact (by (with_reducible repeat (first|refine bkN ?_ _|refine bkD ?_|refine bkA ?_ _));exact BK325.out));(case side2=>exact (by (with_reducible repeat (first|refine bkN ?_ _|refine bkD ?_|refine bkA ?_ _));exact BK326.out));(case side3=>exact NB325_326.out);rintro e w46 ⟨rfl,hx0,hx1,hkc,hbc⟩;replace BK314:=As0.mk (hkc _ _ NB314_325.out NB314_326.out (by (with_reducible repeat (first|refine bkN ?_ _|refine bkD ?_|refine bkA ?_ _));exact BK314.out));replace BK321:=As0.mk (hkc _ _ NB321_325.out NB321_326.out (by (with_reducible repeat (first|refine bkN ?_ _|refine bkD ?_|refine bkA ?_ _));exact BK321.out));replace BK325:=As0.mk (hx0);replace BK326:=As0.mk (hx1);replace BK327:=As0.mk (hkc _ _ NB327_325.out NB327_326.out (by (with_reducible repeat (first|refine bkN ?_ _|refine bkD ?_|refine bkA ?_ _));exact BK327.out));replace HB:=As0.mk (hbc _ (by repeat (first|(with_reducible first|exact HB.out|apply bal|apply pbN|apply bd1|refine bst ?_ GE314.out|refine bst ?_ GE321.out|refine bst ?_ GE325.out|refine bst ?_ GE326.out|refine bst ?_ GE327.out)|exact HB.out)) GW325.out GW326.out);(try clear hkc);(try clear hbc);have hnb47:=NB327_314.out;have hnc47:=NB314_327.out;have hnb48:=NB327_321.out;have hnc48:=NB321_327.out;have hnb49:=NB327_325.out;have hnc49:=NB325_327.out;have hnb50:=NB327_326.out;have hnc50:=NB326_327.out;obtain ⟨hcz51_0,hcz51_1,hcz51_2,hcz51_3,hcz51_4⟩:=qc5 BK327.out;obtain ⟨hfz51_0,hfz51_1,hfz51_2,hfz51_3,hfz51_4⟩:=qz5 BK327.out))
            show _;go_meet
            case rel=>exact ⟨_,(t329),(t330),(t328),H',⟨by have:=HK1.out;have:=HJ6.out;first|omega|exact Nat.le_refl _⟩,⟨by (with_reducible repeat (first|refine bkN ?_ _|refine bkD ?_|refine bkA ?_ _));refine blk_far ?_ NB314_327.out _;(with_reducible repeat (first|refine bkN ?_ _|refine bkD ?_|refine bkA ?_ _));exact BK314.out⟩,⟨by (with_reducible repeat (first|refine bkN ?_ _|refine bkD ?_|refine bkA ?_ _));refine blk_far ?_ NB321_327.out _;(with_reducible repeat (first|refine bkN ?_ _|refine bkD ?_|refine bkA ?_ _));exact BK321.out⟩,⟨by (with_reducible repeat (first|refine bkN ?_ _|refine bkD ?_|refine bkA ?_ _));refine blk_far ?_ NB325_327.out _;(with_reducible repeat (first|refine bkN ?_ _|refine bkD ?_|refine bkA ?_ _));exact BK325.out⟩,⟨by (with_reducible repeat (first|refine bkN ?_ _|refine bkD ?_|refine bkA ?_ _));refine blk_far ?_ NB326_327.out _;(with_reducible repeat (first|refine bkN ?_ _|refine bkD ?_|refine bkA ?_ _));exact BK326.out⟩,⟨by (with_reducible repeat (first|refine bkN ?_ _|refine bkD ?_|refine bkA ?_ _));refine blk_put (cs:=#[.int .i64 x4_1,.string ⟨#[]⟩,.string ⟨#[]⟩,.int .i64 0,.string ⟨#[]⟩]) ?_ 1 _ rfl;(with_reducible repeat (first|refine bkN ?_ _|refine bkD ?_|refine bkA ?_ _));exact BK327.out⟩,⟨by repeat (first|(with_reducible first|exact HB.out|apply bal|apply pbN|apply bd1|refine bst ?_ GE314.out|refine bst ?_ GE321.out|refine bst ?_ GE325.out|refine bst ?_ GE326.out|refine bst ?_ GE327.out)|exact HB.out)⟩⟩
          · replace c44:=Bool.eq_false_iff.mpr c44
            subst c44;have H1:(impl_reqRead.j2 kj6 a0 t315 t316 t317 t318 t319 t323 t324 x4_1 (⟨#[]⟩:ByteArray) (⟨#[]⟩:ByteArray) 0 (⟨#[]⟩:ByteArray)) = some (r1,r2,r3,r4,r5,r6):=by rw [if_neg (show ¬ (false = true) by decide)] at H;exact H
            clear H;have H:=H1;clear H1;have H':=As0.mk H;clear H
            go_wp2
            show _;go_meet
            case rel=>exact ⟨_,(t323),(t324),((⟨#[]⟩:ByteArray)),H',⟨by have:=HK1.out;have:=HJ6.out;first|omega|exact Nat.le_refl _⟩,⟨by (with_reducible repeat (first|refine bkN ?_ _|refine bkD ?_|refine bkA ?_ _));exact BK314.out⟩,⟨by (with_reducible repeat (first|refine bkN ?_ _|refine bkD ?_|refine bkA ?_ _));exact BK321.out⟩,⟨by (with_reducible repeat (first|refine bkN ?_ _|refine bkD ?_|refine bkA ?_ _));exact BK325.out⟩,⟨by (with_reducible repeat (first|refine bkN ?_ _|refine bkD ?_|refine bkA ?_ _));exact BK326.out⟩,⟨by (with_reducible repeat (first|refine bkN ?_ _|refine bkD ?_|refine bkA ?_ _));exact BK327.out⟩,⟨by repeat (first|(with_reducible first|exact HB.out|apply bal|apply pbN|apply bd1|refine bst ?_ GE314.out|refine bst ?_ GE321.out|refine bst ?_ GE325.out|refine bst ?_ GE326.out|refine bst ?_ GE327.out)|exact HB.out)⟩⟩
         case rest=>
          clear HC43
          try clear c1
          try clear hx1
          try clear c2
          try clear p2
          try clear c3
          try clear c3b0
          try clear c4
          try clear c5
          try clear c6
          try clear c6b0
          try clear c6b1
          try clear p6
          try clear c10
          try clear c14
          try clear c15
          try clear c16
          try clear c18
          try clear c19
          try clear c23
          try clear c24
          try clear c25
          try clear c26
          try clear c28
          try clear c29
          try clear c30
          try clear c31
          try clear c32
          try clear c33
          try clear c34
          try clear c35
          try clear c36
          try clear c38
          try clear c39
          try clear c40
          try clear c41
          try clear c44
          try clear c47
          try clear c48
          try clear c49
          try clear c50
          try clear hcz11_0
          try clear hcz11_1
          try clear hcz11_2
          try clear hcz11_3
          try clear hcz11_4
          try clear hcz17_0
          try clear hcz20_0
          try clear hcz21_0
          try clear hcz21_1
          try clear hcz21_2
          try clear hcz21_3
          try clear hcz21_4
          try clear hcz27_0
          try clear hcz27_1
          try clear hcz27_2
          try clear hcz27_3
          try clear hcz27_4
          try clear hcz33_0
          try clear hcz33_1
          try clear hcz33_2
          try clear hcz33_3
          try clear hcz33_4
          try clear hcz37_0
          try clear hcz42_0
          try clear hcz42_1
          try clear hcz42_2
          try clear hcz42_3
          try clear hcz42_4
          try clear hcz51_0
          try clear hcz51_1
          try clear hcz51_2
          try clear hcz51_3
          try clear hcz51_4
          try clear hfz11_0
          try clear hfz11_1
          try clear hfz11_2
          try clear hfz11_3
          try clear hfz11_4
          try clear hfz17_0
          try clear hfz20_0
          try clear hfz21_0
          try clear hfz21_1
          try clear hfz21_2
          try clear hfz21_3
          try clear hfz21_4
          try clear hfz27_0
          try clear hfz27_1
          try clear hfz27_2
          try clear hfz27_3
          try clear hfz27_4
          try clear hfz33_0
          try clear hfz33_1
          try clear hfz33_2
          try clear hfz33_3
          try clear hfz33_4
          try clear hfz37_0
          try clear hfz42_0
          try clear hfz42_1
          try clear hfz42_2
          try clear hfz42_3
          try clear hfz42_4
          try clear hfz51_0
          try clear hfz51_1
          try clear hfz51_2
          try clear hfz51_3
          try clear hfz51_4
          try clear p2
          try clear p6
          obtain ⟨kq,x326000_42,x327000_42,x328001_42,HA,HJ42,BK314,BK321,BK325,BK326,BK327,HB⟩:=hcut
          cases kq with
          |zero=>exact absurd HA.out (by simp [impl_reqRead.j2])
          |succ kj42=>
           have H:=HA.out;clear HA;simp only [impl_reqRead.j2] at H;have HC52:=As0.mk H;clear H
           show _;go_upto_region 11 with (fail)
           show _;go_cut [48] (fun v48 wc=>∃ (kq:Nat) (x48_51:Bool),v48 = .bool x48_51 ∧ As0 (impl_reqRead.j3 kq a0 x48_51 t315 t316 t317 t318 t319 x326000_42 x327000_42 x4_1 x328001_42 (⟨#[]⟩:ByteArray) 0 (⟨#[]⟩:ByteArray) = some (r1,r2,r3,r4,r5,r6)) ∧ As0 (kq ≤ kj42) ∧ As0 (wc.heap[gb314]? = some (.cells #[.int .i64 x315000_1,.string x315001_1,.string x315002_1,.int .i64 x315003_1,.string x315004_1] 25 (0,0))) ∧ As0 (wc.heap[gb321]? = some (.cells #[.string t315,.bool t316,.bool t317,.bool t318,.bool t319] 53 (0,0))) ∧ As0 (wc.heap[gb325]? = some (.cells #[.string x326000_42] 9 (0,0))) ∧ As0 (wc.heap[gb326]? = some (.cells #[.bool x327000_42] 4 (0,0))) ∧ As0 (wc.heap[gb327]? = some (.cells #[.int .i64 x4_1,.string x328001_42,.string ⟨#[]⟩,.int .i64 0,.string ⟨#[]⟩] 25 (0,0))) ∧ As0 (Below w.heap.size w wc))
           case first=>
            have H:=HC52.out;clear HC52;by_cases c53:t317 = true
            · subst c53
              have H1:(impl_reqRead.j3 kj42 a0 x327000_42 t315 t316 true t318 t319 x326000_42 x327000_42 x4_1 x328001_42 (⟨#[]⟩:ByteArray) 0 (⟨#[]⟩:ByteArray)) = some (r1,r2,r3,r4,r5,r6):=by rw [if_pos rfl] at H;exact H
              clear H;have H:=H1;clear H1;have H':=As0.mk H;clear H;have hnb54:=NB321_314.out;have hnc54:=NB314_321.out;have hnb55:=NB321_325.out;have hnc55:=NB325_321.out;have hnb56:=NB321_326.out;have hnc56:=NB326_321.out;have hnb57:=NB321_327.out;have hnc57:=NB327_321.out;obtain ⟨hcz58_0,hcz58_1,hcz58_2,hcz58_3,hcz58_4⟩:=qc5 BK321.out;obtain ⟨hfz58_0,hfz58_1,hfz58_2,hfz58_3,hfz58_4⟩:=qz5 BK321.out;have hnb59:=NB326_314.out;have hnc59:=NB314_326.out;have hnb60:=NB326_325.out;have hnc60:=NB325_326.out;have hnb61:=NB326_327.out;have hnc61:=NB327_326.out;have hcz62_0:=qc1 BK326.out;have hfz62_0:=bkF BK326.out 0
              go_wp2
              show _;go_meet
              case rel=>exact ⟨_,(x327000_42),(by first|rfl|(simp;done)|(simp [*];done)),H',⟨by have:=HK1.out;have:=HJ6.out;have:=HJ42.out;first|omega|exact Nat.le_refl _⟩,⟨by (with_reducible repeat (first|refine bkN ?_ _|refine bkD ?_|refine bkA ?_ _));exact BK314.out⟩,⟨by (with_reducible repeat (first|refine bkN ?_ _|refine bkD ?_|refine bkA ?_ _));exact BK321.out⟩,⟨by (with_reducible repeat (first|refine bkN ?_ _|refine bkD ?_|refine bkA ?_ _));exact BK325.out⟩,⟨by (with_reducible repeat (first|refine bkN ?_ _|refine bkD ?_|refine bkA ?_ _));exact BK326.out⟩,⟨by (with_reducible repeat (first|refine bkN ?_ _|refine bkD ?_|refine bkA ?_ _));exact BK327.out⟩,⟨by repeat (first|(with_reducible first|exact HB.out|apply bal|apply pbN|apply bd1|refine bst ?_ GE314.out|refine bst ?_ GE321.out|refine bst ?_ GE325.out|refine bst ?_ GE326.out|refine bst ?_ GE327.out)|exact HB.out)⟩⟩
            · replace c53:=Bool.eq_false_iff.mpr c53
              subst c53;have H1:(impl_reqRead.j3 kj42 a0 false t315 t316 false t318 t319 x326000_42 x327000_42 x4_1 x328001_42 (⟨#[]⟩:ByteArray) 0 (⟨#[]⟩:ByteArray)) = some (r1,r2,r3,r4,r5,r6):=by rw [if_neg (show ¬ (false = true) by decide)] at H;exact H
              clear H;have H:=H1;clear H1;have H':=As0.mk H;clear H;have hnb63:=NB321_314.out;have hnc63:=NB314_321.out;have hnb64:=NB321_325.out;have hnc64:=NB325_321.out;have hnb65:=NB321_326.out;have hnc65:=NB326_321.out;have hnb66:=NB321_327.out;have hnc66:=NB327_321.out;obtain ⟨hcz67_0,hcz67_1,hcz67_2,hcz67_3,hcz67_4⟩:=qc5 BK321.out;obtain ⟨hfz67_0,hfz67_1,hfz67_2,hfz67_3,hfz67_4⟩:=qz5 BK321.out
              go_wp2
              show _;go_meet
              case rel=>exact ⟨_,(false),(by first|rfl|(simp;done)|(simp [*];done)),H',⟨by have:=HK1.out;have:=HJ6.out;have:=HJ42.out;first|omega|exact Nat.le_refl _⟩,⟨by (with_reducible repeat (first|refine bkN ?_ _|refine bkD ?_|refine bkA ?_ _));exact BK314.out⟩,⟨by (with_reducible repeat (first|refine bkN ?_ _|refine bkD ?_|refine bkA ?_ _));exact BK321.out⟩,⟨by (with_reducible repeat (first|refine bkN ?_ _|refine bkD ?_|refine bkA ?_ _));exact BK325.out⟩,⟨by (with_reducible repeat (first|refine bkN ?_ _|refine bkD ?_|refine bkA ?_ _));exact BK326.out⟩,⟨by (with_reducible repeat (first|refine bkN ?_ _|refine bkD ?_|refine bkA ?_ _));exact BK327.out⟩,⟨by repeat (first|(with_reducible first|exact HB.out|apply bal|apply pbN|apply bd1|refine bst ?_ GE314.out|refine bst ?_ GE321.out|refine bst ?_ GE325.out|refine bst ?_ GE326.out|refine bst ?_ GE327.out)|exact HB.out)⟩⟩
           case rest=>
            clear HC52
            try clear c1
            try clear hx1
            try clear c2
            try clear p2
            try clear c3
            try clear c3b0
            try clear c4
            try clear c5
            try clear c6
            try clear c6b0
            try clear c6b1
            try clear p6
            try clear c10
            try clear c14
            try clear c15
            try clear c16
            try clear c18
            try clear c19
            try clear c23
            try clear c24
            try clear c25
            try clear c26
            try clear c28
            try clear c29
            try clear c30
            try clear c31
            try clear c32
            try clear c33
            try clear c34
            try clear c35
            try clear c36
            try clear c38
            try clear c39
            try clear c40
            try clear c41
            try clear c44
            try clear c47
            try clear c48
            try clear c49
            try clear c50
            try clear c53
            try clear c54
            try clear c55
            try clear c56
            try clear c57
            try clear c59
            try clear c60
            try clear c61
            try clear c63
            try clear c64
            try clear p64
            try clear c65
            try clear c66
            try clear hcz11_0
            try clear hcz11_1
            try clear hcz11_2
            try clear hcz11_3
            try clear hcz11_4
            try clear hcz17_0
            try clear hcz20_0
            try clear hcz21_0
            try clear hcz21_1
            try clear hcz21_2
            try clear hcz21_3
            try clear hcz21_4
            try clear hcz27_0
            try clear hcz27_1
            try clear hcz27_2
            try clear hcz27_3
            try clear hcz27_4
            try clear hcz33_0
            try clear hcz33_1
            try clear hcz33_2
            try clear hcz33_3
            try clear hcz33_4
            try clear hcz37_0
            try clear hcz42_0
            try clear hcz42_1
            try clear hcz42_2
            try clear hcz42_3
            try clear hcz42_4
            try clear hcz51_0
            try clear hcz51_1
            try clear hcz51_2
            try clear hcz51_3
            try clear hcz51_4
            try clear hcz58_0
            try clear hcz58_1
            try clear hcz58_2
            try clear hcz58_3
            try clear hcz58_4
            try clear hcz62_0
            try clear hcz67_0
            try clear hcz67_1
            try clear hcz67_2
            try clear hcz67_3
            try clear hcz67_4
            try clear hfz11_0
            try clear hfz11_1
            try clear hfz11_2
            try clear hfz11_3
            try clear hfz11_4
            try clear hfz17_0
            try clear hfz20_0
            try clear hfz21_0
            try clear hfz21_1
            try clear hfz21_2
            try clear hfz21_3
            try clear hfz21_4
            try clear hfz27_0
            try clear hfz27_1
            try clear hfz27_2
            try clear hfz27_3
            try clear hfz27_4
            try clear hfz33_0
            try clear hfz33_1
            try clear hfz33_2
            try clear hfz33_3
            try clear hfz33_4
            try clear hfz37_0
            try clear hfz42_0
            try clear hfz42_1
            try clear hfz42_2
            try clear hfz42_3
            try clear hfz42_4
            try clear hfz51_0
            try clear hfz51_1
            try clear hfz51_2
            try clear hfz51_3
            try clear hfz51_4
            try clear hfz58_0
            try clear hfz58_1
            try clear hfz58_2
            try clear hfz58_3
            try clear hfz58_4
            try clear hfz62_0
            try clear hfz67_0
            try clear hfz67_1
            try clear hfz67_2
            try clear hfz67_3
            try clear hfz67_4
            try clear p2
            try clear p6
            obtain ⟨kq,x48_51,rfl,HA,HJ51,BK314,BK321,BK325,BK326,BK327,HB⟩:=hcut
            cases kq with
            |zero=>exact absurd HA.out (by simp [impl_reqRead.j3])
            |succ kj51=>
             have H:=HA.out;clear HA;simp only [impl_reqRead.j3] at H;have HC68:=As0.mk H;clear H
             go_upto_if 48 with (fail)
             show _;go_cut [] (fun wc=>∃ (kq:Nat) (x326000_67:ByteArray) (x327000_67:Bool) (x328002_67:ByteArray),As0 (impl_reqRead.j4 kq a0 t315 t316 t317 t318 t319 x326000_67 x327000_67 x4_1 x328001_42 x328002_67 0 (⟨#[]⟩:ByteArray) = some (r1,r2,r3,r4,r5,r6)) ∧ As0 (kq ≤ kj51) ∧ As0 (wc.heap[gb314]? = some (.cells #[.int .i64 x315000_1,.string x315001_1,.string x315002_1,.int .i64 x315003_1,.string x315004_1] 25 (0,0))) ∧ As0 (wc.heap[gb321]? = some (.cells #[.string t315,.bool t316,.bool t317,.bool t318,.bool t319] 53 (0,0))) ∧ As0 (wc.heap[gb325]? = some (.cells #[.string x326000_67] 9 (0,0))) ∧ As0 (wc.heap[gb326]? = some (.cells #[.bool x327000_67] 4 (0,0))) ∧ As0 (wc.heap[gb327]? = some (.cells #[.int .i64 x4_1,.string x328001_42,.string x328002_67,.int .i64 0,.string ⟨#[]⟩] 25 (0,0))) ∧ As0 (Below w.heap.size w wc))
             case first=>
              have H:=HC68.out;clear HC68;by_cases c69:x48_51 = true
              · subst c69
                have H1:((impl_reqRead_1.f x326000_42 x327000_42).bind fun bt331=>(impl_reqRead.j4 kj51 a0 t315 t316 t317 t318 t319 bt331.2.1 bt331.2.2 x4_1 x328001_42 bt331.1 0 (⟨#[]⟩:ByteArray))) = some (r1,r2,r3,r4,r5,r6):=by rw [if_pos rfl] at H;exact H
                clear H;have H:=H1;clear H1;replace H:=Option.bind_eq_some_iff.mp H;obtain ⟨⟨t331,t332,t333⟩,A700,H⟩:=H;(try dsimp only at H);have A70:=As0.mk A700;clear A700;have H':=As0.mk H;clear H
                go_wp2_with (first|(go_at_call 35;(with_reducible refine (impl_reqRead_1.calls x326000_42 x327000_42 gb325 gb326 t331 t332 t333 _ ?side1 ?side2 ?side3 A70.out).mono ?_);(case side1=>exact (by (with_reducible repeat (first|refine bkN ?_ _|refine bkD ?_|refine bkA ?_ _));exact BK325.out));(case side2=>exact (by (with_reducible repeat (first|refine bkN ?_ _|refine bkD ?_|refine bkA ?_ _));exact BK326.out));(case side3=>exact NB325_326.out);rintro e w71 ⟨rfl,hx0,hx1,hkc,hbc⟩;replace BK314:=As0.mk (hkc _ _ NB314_325.out NB314_326.out (by (with_reducible repeat (first|refine bkN ?_ _|refine bkD ?_|refine bkA ?_ _));exact BK314.out));replace BK321:=As0.mk (hkc _ _ NB321_325.out NB321_326.out (by (with_reducible repeat (first|refine bkN ?_ _|refine bkD ?_|refine bkA ?_ _));exact BK321.out));replace BK325:=As0.mk (hx0);replace BK326:=As0.mk (hx1);replace BK327:=As0.mk (hkc _ _ NB327_325.out NB327_326.out (by (with_reducible repeat (first|refine bkN ?_ _|refine bkD ?_|refine bkA ?_ _));exact BK327.out));replace HB:=As0.mk (hbc _ (by repeat (first|(with_reducible first|exact HB.out|apply bal|apply pbN|apply bd1|refine bst ?_ GE314.out|refine bst ?_ GE321.out|refine bst ?_ GE325.out|refine bst ?_ GE326.out|refine bst ?_ GE327.out)|exact HB.out)) GW325.out GW326.out);(try clear hkc);(try clear hbc);have hnb72:=NB327_314.out;have hnc72:=NB314_327.out;have hnb73:=NB327_321.out;have hnc73:=NB321_327.out;have hnb74:=NB327_325.out;have hnc74:=NB325_327.out;have hnb75:=NB327_326.out;have hnc75:=NB326_327.out;obtain ⟨hcz76_0,hcz76_1,hcz76_2,hcz76_3,hcz76_4⟩:=qc5 BK327.out;obtain ⟨hfz76_0,hfz76_1,hfz76_2,hfz76_3,hfz76_4⟩:=qz5 BK327.out))
                show _;go_meet
                case rel=>exact ⟨_,(t332),(t333),(t331),H',⟨by have:=HK1.out;have:=HJ6.out;have:=HJ42.out;have:=HJ51.out;first|omega|exact Nat.le_refl _⟩,⟨by (with_reducible repeat (first|refine bkN ?_ _|refine bkD ?_|refine bkA ?_ _));refine blk_far ?_ NB314_327.out _;(with_reducible repeat (first|refine bkN ?_ _|refine bkD ?_|refine bkA ?_ _));exact BK314.out⟩,⟨by (with_reducible repeat (first|refine bkN ?_ _|refine bkD ?_|refine bkA ?_ _));refine blk_far ?_ NB321_327.out _;(with_reducible repeat (first|refine bkN ?_ _|refine bkD ?_|refine bkA ?_ _));exact BK321.out⟩,⟨by (with_reducible repeat (first|refine bkN ?_ _|refine bkD ?_|refine bkA ?_ _));refine blk_far ?_ NB325_327.out _;(with_reducible repeat (first|refine bkN ?_ _|refine bkD ?_|refine bkA ?_ _));exact BK325.out⟩,⟨by (with_reducible repeat (first|refine bkN ?_ _|refine bkD ?_|refine bkA ?_ _));refine blk_far ?_ NB326_327.out _;(with_reducible repeat (first|refine bkN ?_ _|refine bkD ?_|refine bkA ?_ _));exact BK326.out⟩,⟨by (with_reducible repeat (first|refine bkN ?_ _|refine bkD ?_|refine bkA ?_ _));refine blk_put (cs:=#[.int .i64 x4_1,.string x328001_42,.string ⟨#[]⟩,.int .i64 0,.string ⟨#[]⟩]) ?_ 2 _ rfl;(with_reducible repeat (first|refine bkN ?_ _|refine bkD ?_|refine bkA ?_ _));exact BK327.out⟩,⟨by repeat (first|(with_reducible first|exact HB.out|apply bal|apply pbN|apply bd1|refine bst ?_ GE314.out|refine bst ?_ GE321.out|refine bst ?_ GE325.out|refine bst ?_ GE326.out|refine bst ?_ GE327.out)|exact HB.out)⟩⟩
              · replace c69:=Bool.eq_false_iff.mpr c69
                subst c69;have H1:(impl_reqRead.j4 kj51 a0 t315 t316 t317 t318 t319 x326000_42 x327000_42 x4_1 x328001_42 (⟨#[]⟩:ByteArray) 0 (⟨#[]⟩:ByteArray)) = some (r1,r2,r3,r4,r5,r6):=by rw [if_neg (show ¬ (false = true) by decide)] at H;exact H
                clear H;have H:=H1;clear H1;have H':=As0.mk H;clear H
                go_wp2
                show _;go_meet
                case rel=>exact ⟨_,(x326000_42),(x327000_42),((⟨#[]⟩:ByteArray)),H',⟨by have:=HK1.out;have:=HJ6.out;have:=HJ42.out;have:=HJ51.out;first|omega|exact Nat.le_refl _⟩,⟨by (with_reducible repeat (first|refine bkN ?_ _|refine bkD ?_|refine bkA ?_ _));exact BK314.out⟩,⟨by (with_reducible repeat (first|refine bkN ?_ _|refine bkD ?_|refine bkA ?_ _));exact BK321.out⟩,⟨by (with_reducible repeat (first|refine bkN ?_ _|refine bkD ?_|refine bkA ?_ _));exact BK325.out⟩,⟨by (with_reducible repeat (first|refine bkN ?_ _|refine bkD ?_|refine bkA ?_ _));exact BK326.out⟩,⟨by (with_reducible repeat (first|refine bkN ?_ _|refine bkD ?_|refine bkA ?_ _));exact BK327.out⟩,⟨by repeat (first|(with_reducible first|exact HB.out|apply bal|apply pbN|apply bd1|refine bst ?_ GE314.out|refine bst ?_ GE321.out|refine bst ?_ GE325.out|refine bst ?_ GE326.out|refine bst ?_ GE327.out)|exact HB.out)⟩⟩
             case rest=>
              clear HC68
              try clear c1
              try clear hx1
              try clear c2
              try clear p2
              try clear c3
              try clear c3b0
              try clear c4
              try clear c5
              try clear c6
              try clear c6b0
              try clear c6b1
              try clear p6
              try clear c7
              try clear c10
              try clear c14
              try clear c15
              try clear c16
              try clear c18
              try clear c19
              try clear c23
              try clear c24
              try clear c25
              try clear c26
              try clear c28
              try clear c29
              try clear c30
              try clear c31
              try clear c32
              try clear c33
              try clear c34
              try clear c35
              try clear c36
              try clear c38
              try clear c39
              try clear c40
              try clear c41
              try clear c44
              try clear c47
              try clear c48
              try clear c49
              try clear c50
              try clear c53
              try clear c54
              try clear c55
              try clear c56
              try clear c57
              try clear c59
              try clear c60
              try clear c61
              try clear c63
              try clear c64
              try clear p64
              try clear c65
              try clear c66
              try clear c69
              try clear c72
              try clear c73
              try clear c74
              try clear c75
              try clear hcz11_0
              try clear hcz11_1
              try clear hcz11_2
              try clear hcz11_3
              try clear hcz11_4
              try clear hcz17_0
              try clear hcz20_0
              try clear hcz21_0
              try clear hcz21_1
              try clear hcz21_2
              try clear hcz21_3
              try clear hcz21_4
              try clear hcz27_0
              try clear hcz27_1
              try clear hcz27_2
              try clear hcz27_3
              try clear hcz27_4
              try clear hcz33_0
              try clear hcz33_1
              try clear hcz33_2
              try clear hcz33_3
              try clear hcz33_4
              try clear hcz37_0
              try clear hcz42_0
              try clear hcz42_1
              try clear hcz42_2
              try clear hcz42_3
              try clear hcz42_4
              try clear hcz51_0
              try clear hcz51_1
              try clear hcz51_2
              try clear hcz51_3
              try clear hcz51_4
              try clear hcz58_0
              try clear hcz58_1
              try clear hcz58_2
              try clear hcz58_3
              try clear hcz58_4
              try clear hcz62_0
              try clear hcz67_0
              try clear hcz67_1
              try clear hcz67_2
              try clear hcz67_3
              try clear hcz67_4
              try clear hcz76_0
              try clear hcz76_1
              try clear hcz76_2
              try clear hcz76_3
              try clear hcz76_4
              try clear hfz11_0
              try clear hfz11_1
              try clear hfz11_2
              try clear hfz11_3
              try clear hfz11_4
              try clear hfz17_0
              try clear hfz20_0
              try clear hfz21_0
              try clear hfz21_1
              try clear hfz21_2
              try clear hfz21_3
              try clear hfz21_4
              try clear hfz27_0
              try clear hfz27_1
              try clear hfz27_2
              try clear hfz27_3
              try clear hfz27_4
              try clear hfz33_0
              try clear hfz33_1
              try clear hfz33_2
              try clear hfz33_3
              try clear hfz33_4
              try clear hfz37_0
              try clear hfz42_0
              try clear hfz42_1
              try clear hfz42_2
              try clear hfz42_3
              try clear hfz42_4
              try clear hfz51_0
              try clear hfz51_1
              try clear hfz51_2
              try clear hfz51_3
              try clear hfz51_4
              try clear hfz58_0
              try clear hfz58_1
              try clear hfz58_2
              try clear hfz58_3
              try clear hfz58_4
              try clear hfz62_0
              try clear hfz67_0
              try clear hfz67_1
              try clear hfz67_2
              try clear hfz67_3
              try clear hfz67_4
              try clear hfz76_0
              try clear hfz76_1
              try clear hfz76_2
              try clear hfz76_3
              try clear hfz76_4
              try clear p2
              try clear p6
              try clear p64
              obtain ⟨kq,x326000_67,x327000_67,x328002_67,HA,HJ67,BK314,BK321,BK325,BK326,BK327,HB⟩:=hcut
              cases kq with
              |zero=>exact absurd HA.out (by simp [impl_reqRead.j4])
              |succ kj67=>
               have H:=HA.out;clear HA;simp only [impl_reqRead.j4] at H;have HC77:=As0.mk H;clear H
               show _;go_upto_region 13 with (fail)
               show _;go_cut [56] (fun v56 wc=>∃ (kq:Nat) (x56_76:Bool),v56 = .bool x56_76 ∧ As0 (impl_reqRead.j5 kq a0 x56_76 t315 t316 t317 t318 t319 x326000_67 x327000_67 x4_1 x328001_42 x328002_67 0 (⟨#[]⟩:ByteArray) = some (r1,r2,r3,r4,r5,r6)) ∧ As0 (kq ≤ kj67) ∧ As0 (wc.heap[gb314]? = some (.cells #[.int .i64 x315000_1,.string x315001_1,.string x315002_1,.int .i64 x315003_1,.string x315004_1] 25 (0,0))) ∧ As0 (wc.heap[gb321]? = some (.cells #[.string t315,.bool t316,.bool t317,.bool t318,.bool t319] 53 (0,0))) ∧ As0 (wc.heap[gb325]? = some (.cells #[.string x326000_67] 9 (0,0))) ∧ As0 (wc.heap[gb326]? = some (.cells #[.bool x327000_67] 4 (0,0))) ∧ As0 (wc.heap[gb327]? = some (.cells #[.int .i64 x4_1,.string x328001_42,.string x328002_67,.int .i64 0,.string ⟨#[]⟩] 25 (0,0))) ∧ As0 (Below w.heap.size w wc))
               case first=>
                have H:=HC77.out;clear HC77;by_cases c78:t318 = true
                · subst c78
                  have H1:(impl_reqRead.j5 kj67 a0 x327000_67 t315 t316 t317 true t319 x326000_67 x327000_67 x4_1 x328001_42 x328002_67 0 (⟨#[]⟩:ByteArray)) = some (r1,r2,r3,r4,r5,r6):=by rw [if_pos rfl] at H;exact H
                  clear H;have H:=H1;clear H1;have H':=As0.mk H;clear H;have hnb79:=NB321_314.out;have hnc79:=NB314_321.out;have hnb80:=NB321_325.out;have hnc80:=NB325_321.out;have hnb81:=NB321_326.out;have hnc81:=NB326_321.out;have hnb82:=NB321_327.out;have hnc82:=NB327_321.out;obtain ⟨hcz83_0,hcz83_1,hcz83_2,hcz83_3,hcz83_4⟩:=qc5 BK321.out;obtain ⟨hfz83_0,hfz83_1,hfz83_2,hfz83_3,hfz83_4⟩:=qz5 BK321.out;have hnb84:=NB326_314.out;have hnc84:=NB314_326.out;have hnb85:=NB326_325.out;have hnc85:=NB325_326.out;have hnb86:=NB326_327.out;have hnc86:=NB327_326.out;have hcz87_0:=qc1 BK326.out;have hfz87_0:=bkF BK326.out 0
                  go_wp2
                  show _;go_meet
                  case rel=>exact ⟨_,(x327000_67),(by first|rfl|(simp;done)|(simp [*];done)),H',⟨by have:=HK1.out;have:=HJ6.out;have:=HJ42.out;have:=HJ51.out;have:=HJ67.out;first|omega|exact Nat.le_refl _⟩,⟨by (with_reducible repeat (first|refine bkN ?_ _|refine bkD ?_|refine bkA ?_ _));exact BK314.out⟩,⟨by (with_reducible repeat (first|refine bkN ?_ _|refine bkD ?_|refine bkA ?_ _));exact BK321.out⟩,⟨by (with_reducible repeat (first|refine bkN ?_ _|refine bkD ?_|refine bkA ?_ _));exact BK325.out⟩,⟨by (with_reducible repeat (first|refine bkN ?_ _|refine bkD ?_|refine bkA ?_ _));exact BK326.out⟩,⟨by (with_reducible repeat (first|refine bkN ?_ _|refine bkD ?_|refine bkA ?_ _));exact BK327.out⟩,⟨by repeat (first|(with_reducible first|exact HB.out|apply bal|apply pbN|apply bd1|refine bst ?_ GE314.out|refine bst ?_ GE321.out|refine bst ?_ GE325.out|refine bst ?_ GE326.out|refine bst ?_ GE327.out)|exact HB.out)⟩⟩
                · replace c78:=Bool.eq_false_iff.mpr c78
                  subst c78;have H1:(impl_reqRead.j5 kj67 a0 false t315 t316 t317 false t319 x326000_67 x327000_67 x4_1 x328001_42 x328002_67 0 (⟨#[]⟩:ByteArray)) = some (r1,r2,r3,r4,r5,r6):=by rw [if_neg (show ¬ (false = true) by decide)] at H;exact H
                  clear H;have H:=H1;clear H1;have H':=As0.mk H;clear H;have hnb88:=NB321_314.out;have hnc88:=NB314_321.out;have hnb89:=NB321_325.out;have hnc89:=NB325_321.out;have hnb90:=NB321_326.out;have hnc90:=NB326_321.out;have hnb91:=NB321_327.out;have hnc91:=NB327_321.out;obtain ⟨hcz92_0,hcz92_1,hcz92_2,hcz92_3,hcz92_4⟩:=qc5 BK321.out;obtain ⟨hfz92_0,hfz92_1,hfz92_2,hfz92_3,hfz92_4⟩:=qz5 BK321.out
                  go_wp2
                  show _;go_meet
                  case rel=>exact ⟨_,(false),(by first|rfl|(simp;done)|(simp [*];done)),H',⟨by have:=HK1.out;have:=HJ6.out;have:=HJ42.out;have:=HJ51.out;have:=HJ67.out;first|omega|exact Nat.le_refl _⟩,⟨by (with_reducible repeat (first|refine bkN ?_ _|refine bkD ?_|refine bkA ?_ _));exact BK314.out⟩,⟨by (with_reducible repeat (first|refine bkN ?_ _|refine bkD ?_|refine bkA ?_ _));exact BK321.out⟩,⟨by (with_reducible repeat (first|refine bkN ?_ _|refine bkD ?_|refine bkA ?_ _));exact BK325.out⟩,⟨by (with_reducible repeat (first|refine bkN ?_ _|refine bkD ?_|refine bkA ?_ _));exact BK326.out⟩,⟨by (with_reducible repeat (first|refine bkN ?_ _|refine bkD ?_|refine bkA ?_ _));exact BK327.out⟩,⟨by repeat (first|(with_reducible first|exact HB.out|apply bal|apply pbN|apply bd1|refine bst ?_ GE314.out|refine bst ?_ GE321.out|refine bst ?_ GE325.out|refine bst ?_ GE326.out|refine bst ?_ GE327.out)|exact HB.out)⟩⟩
               case rest=>
                clear HC77
                try clear c1
                try clear hx1
                try clear c2
                try clear p2
                try clear c3
                try clear c3b0
                try clear c4
                try clear c5
                try clear c6
                try clear c6b0
                try clear c6b1
                try clear p6
                try clear c7
                try clear c8
                try clear c9
                try clear c10
                try clear c14
                try clear c15
                try clear c16
                try clear c18
                try clear c19
                try clear c23
                try clear c24
                try clear c25
                try clear c26
                try clear c28
                try clear c29
                try clear c30
                try clear c31
                try clear c32
                try clear c33
                try clear c34
                try clear c35
                try clear c36
                try clear c38
                try clear c39
                try clear c40
                try clear c41
                try clear c44
                try clear c47
                try clear c48
                try clear c49
                try clear c50
                try clear c53
                try clear c54
                try clear c55
                try clear c56
                try clear c57
                try clear c59
                try clear c60
                try clear c61
                try clear c63
                try clear c64
                try clear p64
                try clear c65
                try clear c66
                try clear c69
                try clear c72
                try clear c73
                try clear c74
                try clear c75
                try clear c78
                try clear c79
                try clear c80
                try clear c81
                try clear c82
                try clear c84
                try clear c85
                try clear c86
                try clear c88
                try clear c89
                try clear c90
                try clear c91
                try clear hcz11_0
                try clear hcz11_1
                try clear hcz11_2
                try clear hcz11_3
                try clear hcz11_4
                try clear hcz17_0
                try clear hcz20_0
                try clear hcz21_0
                try clear hcz21_1
                try clear hcz21_2
                try clear hcz21_3
                try clear hcz21_4
                try clear hcz27_0
                try clear hcz27_1
                try clear hcz27_2
                try clear hcz27_3
                try clear hcz27_4
                try clear hcz33_0
                try clear hcz33_1
                try clear hcz33_2
                try clear hcz33_3
                try clear hcz33_4
                try clear hcz37_0
                try clear hcz42_0
                try clear hcz42_1
                try clear hcz42_2
                try clear hcz42_3
                try clear hcz42_4
                try clear hcz51_0
                try clear hcz51_1
                try clear hcz51_2
                try clear hcz51_3
                try clear hcz51_4
                try clear hcz58_0
                try clear hcz58_1
                try clear hcz58_2
                try clear hcz58_3
                try clear hcz58_4
                try clear hcz62_0
                try clear hcz67_0
                try clear hcz67_1
                try clear hcz67_2
                try clear hcz67_3
                try clear hcz67_4
                try clear hcz76_0
                try clear hcz76_1
                try clear hcz76_2
                try clear hcz76_3
                try clear hcz76_4
                try clear hcz83_0
                try clear hcz83_1
                try clear hcz83_2
                try clear hcz83_3
                try clear hcz83_4
                try clear hcz87_0
                try clear hcz92_0
                try clear hcz92_1
                try clear hcz92_2
                try clear hcz92_3
                try clear hcz92_4
                try clear hfz11_0
                try clear hfz11_1
                try clear hfz11_2
                try clear hfz11_3
                try clear hfz11_4
                try clear hfz17_0
                try clear hfz20_0
                try clear hfz21_0
                try clear hfz21_1
                try clear hfz21_2
                try clear hfz21_3
                try clear hfz21_4
                try clear hfz27_0
                try clear hfz27_1
                try clear hfz27_2
                try clear hfz27_3
                try clear hfz27_4
                try clear hfz33_0
                try clear hfz33_1
                try clear hfz33_2
                try clear hfz33_3
                try clear hfz33_4
                try clear hfz37_0
                try clear hfz42_0
                try clear hfz42_1
                try clear hfz42_2
                try clear hfz42_3
                try clear hfz42_4
                try clear hfz51_0
                try clear hfz51_1
                try clear hfz51_2
                try clear hfz51_3
                try clear hfz51_4
                try clear hfz58_0
                try clear hfz58_1
                try clear hfz58_2
                try clear hfz58_3
                try clear hfz58_4
                try clear hfz62_0
                try clear hfz67_0
                try clear hfz67_1
                try clear hfz67_2
                try clear hfz67_3
                try clear hfz67_4
                try clear hfz76_0
                try clear hfz76_1
                try clear hfz76_2
                try clear hfz76_3
                try clear hfz76_4
                try clear hfz83_0
                try clear hfz83_1
                try clear hfz83_2
                try clear hfz83_3
                try clear hfz83_4
                try clear hfz87_0
                try clear hfz92_0
                try clear hfz92_1
                try clear hfz92_2
                try clear hfz92_3
                try clear hfz92_4
                try clear p2
                try clear p6
                try clear p64
                obtain ⟨kq,x56_76,rfl,HA,HJ76,BK314,BK321,BK325,BK326,BK327,HB⟩:=hcut
                cases kq with
                |zero=>exact absurd HA.out (by simp [impl_reqRead.j5])
                |succ kj76=>
                 have H:=HA.out;clear HA;simp only [impl_reqRead.j5] at H;have HC93:=As0.mk H;clear H
                 go_upto_if 56 with (fail)
                 show _;go_cut [] (fun wc=>∃ (kq:Nat) (x315000_92:Int) (x315001_92:ByteArray) (x315002_92:ByteArray) (x315003_92:Int) (x315004_92:ByteArray) (x326000_92:ByteArray) (x327000_92:Bool) (x328003_92:Int),As0 (impl_reqRead.j6 kq a0 t315 t316 t317 t318 t319 x326000_92 x327000_92 x4_1 x328001_42 x328002_67 x328003_92 (⟨#[]⟩:ByteArray) = some (r1,r2,r3,r4,r5,r6)) ∧ As0 (kq ≤ kj76) ∧ As0 (wc.heap[gb314]? = some (.cells #[.int .i64 x315000_92,.string x315001_92,.string x315002_92,.int .i64 x315003_92,.string x315004_92] 25 (0,0))) ∧ As0 (wc.heap[gb321]? = some (.cells #[.string t315,.bool t316,.bool t317,.bool t318,.bool t319] 53 (0,0))) ∧ As0 (wc.heap[gb325]? = some (.cells #[.string x326000_92] 9 (0,0))) ∧ As0 (wc.heap[gb326]? = some (.cells #[.bool x327000_92] 4 (0,0))) ∧ As0 (wc.heap[gb327]? = some (.cells #[.int .i64 x4_1,.string x328001_42,.string x328002_67,.int .i64 x328003_92,.string ⟨#[]⟩] 25 (0,0))) ∧ As0 (Below w.heap.size w wc))
                 case first=>
                  have H:=HC93.out;clear HC93;by_cases c94:x56_76 = true
                  · subst c94
                    have H1:((impl_reqRead_1.f x326000_67 x327000_67).bind fun bt334=>((impl_readLimit.f bt334.1).bind fun bt337=>(if bt337.2 = true then (impl_reqRead.j6 kj76 a0 t315 t316 t317 t318 t319 bt334.2.1 bt334.2.2 x4_1 x328001_42 x328002_67 bt337.1 (⟨#[]⟩:ByteArray)) else (some (0,(⟨#[]⟩:ByteArray),(⟨#[]⟩:ByteArray),0,(⟨#[]⟩:ByteArray),false))))) = some (r1,r2,r3,r4,r5,r6):=by rw [if_pos rfl] at H;exact H
                    clear H;have H:=H1;clear H1;replace H:=Option.bind_eq_some_iff.mp H;obtain ⟨⟨t334,t335,t336⟩,A950,H⟩:=H;(try dsimp only at H);have A95:=As0.mk A950;clear A950;replace H:=Option.bind_eq_some_iff.mp H;obtain ⟨⟨t337,t338⟩,A960,H⟩:=H;(try dsimp only at H);have A96:=As0.mk A960;clear A960;by_cases c97:t338 = true
                    · subst c97
                      have H1:(impl_reqRead.j6 kj76 a0 t315 t316 t317 t318 t319 t335 t336 x4_1 x328001_42 x328002_67 t337 (⟨#[]⟩:ByteArray)) = some (r1,r2,r3,r4,r5,r6):=by rw [if_pos rfl] at H;exact H
                      clear H;have H:=H1;clear H1;have H':=As0.mk H;clear H
                      go_wp2_with (first|(go_at_call 35;(with_reducible refine (impl_reqRead_1.calls x326000_67 x327000_67 gb325 gb326 t334 t335 t336 _ ?side1 ?side2 ?side3 A95.out).mono ?_);(case side1=>exact (by (with_reducible repeat (first|refine bkN ?_ _|refine bkD ?_|refine bkA ?_ _));exact BK325.out));(case side2=>exact (by (with_reducible repeat (first|refine bkN ?_ _|refine bkD ?_|refine bkA ?_ _));exact BK326.out));(case side3=>exact NB325_326.out);rintro e w98 ⟨rfl,hx0,hx1,hkc,hbc⟩;replace BK314:=As0.mk (hkc _ _ NB314_325.out NB314_326.out (by (with_reducible repeat (first|refine bkN ?_ _|refine bkD ?_|refine bkA ?_ _));exact BK314.out));replace BK321:=As0.mk (hkc _ _ NB321_325.out NB321_326.out (by (with_reducible repeat (first|refine bkN ?_ _|refine bkD ?_|refine bkA ?_ _));exact BK321.out));replace BK325:=As0.mk (hx0);replace BK326:=As0.mk (hx1);replace BK327:=As0.mk (hkc _ _ NB327_325.out NB327_326.out (by (with_reducible repeat (first|refine bkN ?_ _|refine bkD ?_|refine bkA ?_ _));exact BK327.out));replace HB:=As0.mk (hbc _ (by repeat (first|(with_reducible first|exact HB.out|apply bal|apply pbN|apply bd1|refine bst ?_ GE314.out|refine bst ?_ GE321.out|refine bst ?_ GE325.out|refine bst ?_ GE326.out|refine bst ?_ GE327.out)|exact HB.out)) GW325.out GW326.out);(try clear hkc);(try clear hbc))|(refine gL (some 60) Tryd.func36 #[.string t334] ?_;(with_reducible refine (impl_readLimit.calls t334 t337 true _ A96.out).mono ?_);rintro e w99 ⟨rfl,hb⟩;refine ⟨_,rfl,?_⟩;replace BK314:=As0.mk (bb hb BK314.out);replace BK321:=As0.mk (bb hb BK321.out);replace BK325:=As0.mk (bb hb BK325.out);replace BK326:=As0.mk (bb hb BK326.out);replace BK327:=As0.mk (bb hb BK327.out);replace HB:=As0.mk (bsp (by repeat (first|(with_reducible first|exact HB.out|apply bal|apply pbN|apply bd1|refine bst ?_ GE314.out|refine bst ?_ GE321.out|refine bst ?_ GE325.out|refine bst ?_ GE326.out|refine bst ?_ GE327.out)|exact HB.out)) hb);clear hb;have hnb100:=NB327_314.out;have hnc100:=NB314_327.out;have hnb101:=NB327_321.out;have hnc101:=NB321_327.out;have hnb102:=NB327_325.out;have hnc102:=NB325_327.out;have hnb103:=NB327_326.out;have hnc103:=NB326_327.out;obtain ⟨hcz104_0,hcz104_1,hcz104_2,hcz104_3,hcz104_4⟩:=qc5 BK327.out;obtain ⟨hfz104_0,hfz104_1,hfz104_2,hfz104_3,hfz104_4⟩:=qz5 BK327.out))
                      show _;go_meet
                      case rel=>exact ⟨_,(x315000_1),(x315001_1),(x315002_1),(x315003_1),(x315004_1),(t335),(t336),(t337),H',⟨by have:=HK1.out;have:=HJ6.out;have:=HJ42.out;have:=HJ51.out;have:=HJ67.out;have:=HJ76.out;first|omega|exact Nat.le_refl _⟩,⟨by (with_reducible repeat (first|refine bkN ?_ _|refine bkD ?_|refine bkA ?_ _));refine blk_far ?_ NB314_327.out _;(with_reducible repeat (first|refine bkN ?_ _|refine bkD ?_|refine bkA ?_ _));exact BK314.out⟩,⟨by (with_reducible repeat (first|refine bkN ?_ _|refine bkD ?_|refine bkA ?_ _));refine blk_far ?_ NB321_327.out _;(with_reducible repeat (first|refine bkN ?_ _|refine bkD ?_|refine bkA ?_ _));exact BK321.out⟩,⟨by (with_reducible repeat (first|refine bkN ?_ _|refine bkD ?_|refine bkA ?_ _));refine blk_far ?_ NB325_327.out _;(with_reducible repeat (first|refine bkN ?_ _|refine bkD ?_|refine bkA ?_ _));exact BK325.out⟩,⟨by (with_reducible repeat (first|refine bkN ?_ _|refine bkD ?_|refine bkA ?_ _));refine blk_far ?_ NB326_327.out _;(with_reducible repeat (first|refine bkN ?_ _|refine bkD ?_|refine bkA ?_ _));exact BK326.out⟩,⟨by (with_reducible repeat (first|refine bkN ?_ _|refine bkD ?_|refine bkA ?_ _));refine blk_put (cs:=#[.int .i64 x4_1,.string x328001_42,.string x328002_67,.int .i64 0,.string ⟨#[]⟩]) ?_ 3 _ rfl;(with_reducible repeat (first|refine bkN ?_ _|refine bkD ?_|refine bkA ?_ _));exact BK327.out⟩,⟨by repeat (first|(with_reducible first|exact HB.out|apply bal|apply pbN|apply bd1|refine bst ?_ GE314.out|refine bst ?_ GE321.out|refine bst ?_ GE325.out|refine bst ?_ GE326.out|refine bst ?_ GE327.out)|exact HB.out)⟩⟩
                    · replace c97:=Bool.eq_false_iff.mpr c97
                      subst c97;have H1:(some (0,(⟨#[]⟩:ByteArray),(⟨#[]⟩:ByteArray),0,(⟨#[]⟩:ByteArray),false)) = some (r1,r2,r3,r4,r5,r6):=by rw [if_neg (show ¬ (false = true) by decide)] at H;exact H
                      clear H;have H:=H1;clear H1;simp only [Option.some.injEq,Prod.mk.injEq] at H;obtain ⟨rfl,rfl,rfl,rfl,rfl,rfl⟩:=H
                      go_wp2_with (first|(go_at_call 35;(with_reducible refine (impl_reqRead_1.calls x326000_67 x327000_67 gb325 gb326 t334 t335 t336 _ ?side1 ?side2 ?side3 A95.out).mono ?_);(case side1=>exact (by (with_reducible repeat (first|refine bkN ?_ _|refine bkD ?_|refine bkA ?_ _));exact BK325.out));(case side2=>exact (by (with_reducible repeat (first|refine bkN ?_ _|refine bkD ?_|refine bkA ?_ _));exact BK326.out));(case side3=>exact NB325_326.out);rintro e w105 ⟨rfl,hx0,hx1,hkc,hbc⟩;replace BK314:=As0.mk (hkc _ _ NB314_325.out NB314_326.out (by (with_reducible repeat (first|refine bkN ?_ _|refine bkD ?_|refine bkA ?_ _));exact BK314.out));replace BK321:=As0.mk (hkc _ _ NB321_325.out NB321_326.out (by (with_reducible repeat (first|refine bkN ?_ _|refine bkD ?_|refine bkA ?_ _));exact BK321.out));replace BK325:=As0.mk (hx0);replace BK326:=As0.mk (hx1);replace BK327:=As0.mk (hkc _ _ NB327_325.out NB327_326.out (by (with_reducible repeat (first|refine bkN ?_ _|refine bkD ?_|refine bkA ?_ _));exact BK327.out));replace HB:=As0.mk (hbc _ (by repeat (first|(with_reducible first|exact HB.out|apply bal|apply pbN|apply bd1|refine bst ?_ GE314.out|refine bst ?_ GE321.out|refine bst ?_ GE325.out|refine bst ?_ GE326.out|refine bst ?_ GE327.out)|exact HB.out)) GW325.out GW326.out);(try clear hkc);(try clear hbc))|(refine gL (some 60) Tryd.func36 #[.string t334] ?_;(with_reducible refine (impl_readLimit.calls t334 t337 false _ A96.out).mono ?_);rintro e w106 ⟨rfl,hb⟩;refine ⟨_,rfl,?_⟩;replace BK314:=As0.mk (bb hb BK314.out);replace BK321:=As0.mk (bb hb BK321.out);replace BK325:=As0.mk (bb hb BK325.out);replace BK326:=As0.mk (bb hb BK326.out);replace BK327:=As0.mk (bb hb BK327.out);replace HB:=As0.mk (bsp (by repeat (first|(with_reducible first|exact HB.out|apply bal|apply pbN|apply bd1|refine bst ?_ GE314.out|refine bst ?_ GE321.out|refine bst ?_ GE325.out|refine bst ?_ GE326.out|refine bst ?_ GE327.out)|exact HB.out)) hb);clear hb;have hnb107:=NB314_321.out;have hnc107:=NB321_314.out;have hnb108:=NB314_325.out;have hnc108:=NB325_314.out;have hnb109:=NB314_326.out;have hnc109:=NB326_314.out;have hnb110:=NB314_327.out;have hnc110:=NB327_314.out;obtain ⟨hcz111_0,hcz111_1,hcz111_2,hcz111_3,hcz111_4⟩:=qc5 BK314.out;obtain ⟨hfz111_0,hfz111_1,hfz111_2,hfz111_3,hfz111_4⟩:=qz5 BK314.out))
                      refine bodyPost_ret (results_ct rfl _ _ gb314 25 #[.int .i64 0,.string ⟨#[]⟩,.string ⟨#[]⟩,.int .i64 0,.string ⟨#[]⟩] (0,0) _ rfl (by (with_reducible repeat (first|refine bkN ?_ _|refine bkD ?_|refine bkA ?_ _));refine blk_put (cs:=#[.int .i64 0,.string ⟨#[]⟩,.string ⟨#[]⟩,.int .i64 0,.string x315004_1]) ?_ 4 _ rfl;(with_reducible repeat (first|refine bkN ?_ _|refine bkD ?_|refine bkA ?_ _));refine blk_put (cs:=#[.int .i64 0,.string ⟨#[]⟩,.string ⟨#[]⟩,.int .i64 x315003_1,.string x315004_1]) ?_ 3 _ rfl;(with_reducible repeat (first|refine bkN ?_ _|refine bkD ?_|refine bkA ?_ _));refine blk_put (cs:=#[.int .i64 0,.string ⟨#[]⟩,.string x315002_1,.int .i64 x315003_1,.string x315004_1]) ?_ 2 _ rfl;(with_reducible repeat (first|refine bkN ?_ _|refine bkD ?_|refine bkA ?_ _));refine blk_put (cs:=#[.int .i64 0,.string x315001_1,.string x315002_1,.int .i64 x315003_1,.string x315004_1]) ?_ 1 _ rfl;(with_reducible repeat (first|refine bkN ?_ _|refine bkD ?_|refine bkA ?_ _));refine blk_put (cs:=#[.int .i64 x315000_1,.string x315001_1,.string x315002_1,.int .i64 x315003_1,.string x315004_1]) ?_ 0 _ rfl;(with_reducible repeat (first|refine bkN ?_ _|refine bkD ?_|refine bkA ?_ _));exact BK314.out) Tryd.underlying25 rfl (by kernel_rfl)) rfl ?_
                      exact ⟨eW,by repeat (first|(with_reducible first|exact HB.out|apply bal|apply pbN|apply bd1|refine bst ?_ GE314.out|refine bst ?_ GE321.out|refine bst ?_ GE325.out|refine bst ?_ GE326.out|refine bst ?_ GE327.out)|exact HB.out)⟩
                  · replace c94:=Bool.eq_false_iff.mpr c94
                    subst c94;have H1:(impl_reqRead.j6 kj76 a0 t315 t316 t317 t318 t319 x326000_67 x327000_67 x4_1 x328001_42 x328002_67 0 (⟨#[]⟩:ByteArray)) = some (r1,r2,r3,r4,r5,r6):=by rw [if_neg (show ¬ (false = true) by decide)] at H;exact H
                    clear H;have H:=H1;clear H1;have H':=As0.mk H;clear H
                    go_wp2
                    show _;go_meet
                    case rel=>exact ⟨_,(x315000_1),(x315001_1),(x315002_1),(x315003_1),(x315004_1),(x326000_67),(x327000_67),(0),H',⟨by have:=HK1.out;have:=HJ6.out;have:=HJ42.out;have:=HJ51.out;have:=HJ67.out;have:=HJ76.out;first|omega|exact Nat.le_refl _⟩,⟨by (with_reducible repeat (first|refine bkN ?_ _|refine bkD ?_|refine bkA ?_ _));exact BK314.out⟩,⟨by (with_reducible repeat (first|refine bkN ?_ _|refine bkD ?_|refine bkA ?_ _));exact BK321.out⟩,⟨by (with_reducible repeat (first|refine bkN ?_ _|refine bkD ?_|refine bkA ?_ _));exact BK325.out⟩,⟨by (with_reducible repeat (first|refine bkN ?_ _|refine bkD ?_|refine bkA ?_ _));exact BK326.out⟩,⟨by (with_reducible repeat (first|refine bkN ?_ _|refine bkD ?_|refine bkA ?_ _));exact BK327.out⟩,⟨by repeat (first|(with_reducible first|exact HB.out|apply bal|apply pbN|apply bd1|refine bst ?_ GE314.out|refine bst ?_ GE321.out|refine bst ?_ GE325.out|refine bst ?_ GE326.out|refine bst ?_ GE327.out)|exact HB.out)⟩⟩
                 case rest=>
                  clear HC93
                  try clear c1
                  try clear hx1
                  try clear c2
                  try clear p2
                  try clear c3
                  try clear c3b0
                  try clear c4
                  try clear c5
                  try clear c6
                  try clear c6b0
                  try clear c6b1
                  try clear p6
                  try clear c7
                  try clear c8
                  try clear c9
                  try clear c10
                  try clear c11
                  try clear c14
                  try clear c15
                  try clear c16
                  try clear c18
                  try clear c19
                  try clear c23
                  try clear c24
                  try clear c25
                  try clear c26
                  try clear c28
                  try clear c29
                  try clear c30
                  try clear c31
                  try clear c32
                  try clear c33
                  try clear c34
                  try clear c35
                  try clear c36
                  try clear c38
                  try clear c39
                  try clear c40
                  try clear c41
                  try clear c44
                  try clear c47
                  try clear c48
                  try clear c49
                  try clear c50
                  try clear c53
                  try clear c54
                  try clear c55
                  try clear c56
                  try clear c57
                  try clear c59
                  try clear c60
                  try clear c61
                  try clear c63
                  try clear c64
                  try clear p64
                  try clear c65
                  try clear c66
                  try clear c69
                  try clear c72
                  try clear c73
                  try clear c74
                  try clear c75
                  try clear c78
                  try clear c79
                  try clear c80
                  try clear c81
                  try clear c82
                  try clear c84
                  try clear c85
                  try clear c86
                  try clear c88
                  try clear c89
                  try clear c90
                  try clear c91
                  try clear c94
                  try clear c97
                  try clear c100
                  try clear c101
                  try clear c102
                  try clear c103
                  try clear c107
                  try clear c108
                  try clear c109
                  try clear c110
                  try clear hcz104_0
                  try clear hcz104_1
                  try clear hcz104_2
                  try clear hcz104_3
                  try clear hcz104_4
                  try clear hcz111_0
                  try clear hcz111_1
                  try clear hcz111_2
                  try clear hcz111_3
                  try clear hcz111_4
                  try clear hcz11_0
                  try clear hcz11_1
                  try clear hcz11_2
                  try clear hcz11_3
                  try clear hcz11_4
                  try clear hcz17_0
                  try clear hcz20_0
                  try clear hcz21_0
                  try clear hcz21_1
                  try clear hcz21_2
                  try clear hcz21_3
                  try clear hcz21_4
                  try clear hcz27_0
                  try clear hcz27_1
                  try clear hcz27_2
                  try clear hcz27_3
                  try clear hcz27_4
                  try clear hcz33_0
                  try clear hcz33_1
                  try clear hcz33_2
                  try clear hcz33_3
                  try clear hcz33_4
                  try clear hcz37_0
                  try clear hcz42_0
                  try clear hcz42_1
                  try clear hcz42_2
                  try clear hcz42_3
                  try clear hcz42_4
                  try clear hcz51_0
                  try clear hcz51_1
                  try clear hcz51_2
                  try clear hcz51_3
                  try clear hcz51_4
                  try clear hcz58_0
                  try clear hcz58_1
                  try clear hcz58_2
                  try clear hcz58_3
                  try clear hcz58_4
                  try clear hcz62_0
                  try clear hcz67_0
                  try clear hcz67_1
                  try clear hcz67_2
                  try clear hcz67_3
                  try clear hcz67_4
                  try clear hcz76_0
                  try clear hcz76_1
                  try clear hcz76_2
                  try clear hcz76_3
                  try clear hcz76_4
                  try clear hcz83_0
                  try clear hcz83_1
                  try clear hcz83_2
                  try clear hcz83_3
                  try clear hcz83_4
                  try clear hcz87_0
                  try clear hcz92_0
                  try clear hcz92_1
                  try clear hcz92_2
                  try clear hcz92_3
                  try clear hcz92_4
                  try clear hfz104_0
                  try clear hfz104_1
                  try clear hfz104_2
                  try clear hfz104_3
                  try clear hfz104_4
                  try clear hfz111_0
                  try clear hfz111_1
                  try clear hfz111_2
                  try clear hfz111_3
                  try clear hfz111_4
                  try clear hfz11_0
                  try clear hfz11_1
                  try clear hfz11_2
                  try clear hfz11_3
                  try clear hfz11_4
                  try clear hfz17_0
                  try clear hfz20_0
                  try clear hfz21_0
                  try clear hfz21_1
                  try clear hfz21_2
                  try clear hfz21_3
                  try clear hfz21_4
                  try clear hfz27_0
                  try clear hfz27_1
                  try clear hfz27_2
                  try clear hfz27_3
                  try clear hfz27_4
                  try clear hfz33_0
                  try clear hfz33_1
                  try clear hfz33_2
                  try clear hfz33_3
                  try clear hfz33_4
                  try clear hfz37_0
                  try clear hfz42_0
                  try clear hfz42_1
                  try clear hfz42_2
                  try clear hfz42_3
                  try clear hfz42_4
                  try clear hfz51_0
                  try clear hfz51_1
                  try clear hfz51_2
                  try clear hfz51_3
                  try clear hfz51_4
                  try clear hfz58_0
                  try clear hfz58_1
                  try clear hfz58_2
                  try clear hfz58_3
                  try clear hfz58_4
                  try clear hfz62_0
                  try clear hfz67_0
                  try clear hfz67_1
                  try clear hfz67_2
                  try clear hfz67_3
                  try clear hfz67_4
                  try clear hfz76_0
                  try clear hfz76_1
                  try clear hfz76_2
                  try clear hfz76_3
                  try clear hfz76_4
                  try clear hfz83_0
                  try clear hfz83_1
                  try clear hfz83_2
                  try clear hfz83_3
                  try clear hfz83_4
                  try clear hfz87_0
                  try clear hfz92_0
                  try clear hfz92_1
                  try clear hfz92_2
                  try clear hfz92_3
                  try clear hfz92_4
                  try clear p2
                  try clear p6
                  try clear p64
                  obtain ⟨kq,x315000_92,x315001_92,x315002_92,x315003_92,x315004_92,x326000_92,x327000_92,x328003_92,HA,HJ92,BK314,BK321,BK325,BK326,BK327,HB⟩:=hcut
                  cases kq with
                  |zero=>exact absurd HA.out (by simp [impl_reqRead.j6])
                  |succ kj92=>
                   have H:=HA.out;clear HA;simp only [impl_reqRead.j6] at H;have HC112:=As0.mk H;clear H
                   show _;go_upto_region 18 with (fail)
                   show _;go_cut [72] (fun v72 wc=>∃ (kq:Nat) (x72_111:Bool),v72 = .bool x72_111 ∧ As0 (impl_reqRead.j7 kq a0 x72_111 x326000_92 x4_1 x328001_42 x328002_67 x328003_92 (⟨#[]⟩:ByteArray) = some (r1,r2,r3,r4,r5,r6)) ∧ As0 (kq ≤ kj92) ∧ As0 (wc.heap[gb314]? = some (.cells #[.int .i64 x315000_92,.string x315001_92,.string x315002_92,.int .i64 x315003_92,.string x315004_92] 25 (0,0))) ∧ As0 (wc.heap[gb321]? = some (.cells #[.string t315,.bool t316,.bool t317,.bool t318,.bool t319] 53 (0,0))) ∧ As0 (wc.heap[gb325]? = some (.cells #[.string x326000_92] 9 (0,0))) ∧ As0 (wc.heap[gb326]? = some (.cells #[.bool x327000_92] 4 (0,0))) ∧ As0 (wc.heap[gb327]? = some (.cells #[.int .i64 x4_1,.string x328001_42,.string x328002_67,.int .i64 x328003_92,.string ⟨#[]⟩] 25 (0,0))) ∧ As0 (Below w.heap.size w wc))
                   case first=>
                    have H:=HC112.out;clear HC112;by_cases c113:t319 = true
                    · subst c113
                      have H1:(impl_reqRead.j7 kj92 a0 x327000_92 x326000_92 x4_1 x328001_42 x328002_67 x328003_92 (⟨#[]⟩:ByteArray)) = some (r1,r2,r3,r4,r5,r6):=by rw [if_pos rfl] at H;exact H
                      clear H;have H:=H1;clear H1;have H':=As0.mk H;clear H;have hnb114:=NB321_314.out;have hnc114:=NB314_321.out;have hnb115:=NB321_325.out;have hnc115:=NB325_321.out;have hnb116:=NB321_326.out;have hnc116:=NB326_321.out;have hnb117:=NB321_327.out;have hnc117:=NB327_321.out;obtain ⟨hcz118_0,hcz118_1,hcz118_2,hcz118_3,hcz118_4⟩:=qc5 BK321.out;obtain ⟨hfz118_0,hfz118_1,hfz118_2,hfz118_3,hfz118_4⟩:=qz5 BK321.out;have hnb119:=NB326_314.out;have hnc119:=NB314_326.out;have hnb120:=NB326_325.out;have hnc120:=NB325_326.out;have hnb121:=NB326_327.out;have hnc121:=NB327_326.out;have hcz122_0:=qc1 BK326.out;have hfz122_0:=bkF BK326.out 0
                      go_wp2
                      show _;go_meet
                      case rel=>exact ⟨_,(x327000_92),(by first|rfl|(simp;done)|(simp [*];done)),H',⟨by have:=HK1.out;have:=HJ6.out;have:=HJ42.out;have:=HJ51.out;have:=HJ67.out;have:=HJ76.out;have:=HJ92.out;first|omega|exact Nat.le_refl _⟩,⟨by (with_reducible repeat (first|refine bkN ?_ _|refine bkD ?_|refine bkA ?_ _));exact BK314.out⟩,⟨by (with_reducible repeat (first|refine bkN ?_ _|refine bkD ?_|refine bkA ?_ _));exact BK321.out⟩,⟨by (with_reducible repeat (first|refine bkN ?_ _|refine bkD ?_|refine bkA ?_ _));exact BK325.out⟩,⟨by (with_reducible repeat (first|refine bkN ?_ _|refine bkD ?_|refine bkA ?_ _));exact BK326.out⟩,⟨by (with_reducible repeat (first|refine bkN ?_ _|refine bkD ?_|refine bkA ?_ _));exact BK327.out⟩,⟨by repeat (first|(with_reducible first|exact HB.out|apply bal|apply pbN|apply bd1|refine bst ?_ GE314.out|refine bst ?_ GE321.out|refine bst ?_ GE325.out|refine bst ?_ GE326.out|refine bst ?_ GE327.out)|exact HB.out)⟩⟩
                    · replace c113:=Bool.eq_false_iff.mpr c113
                      subst c113;have H1:(impl_reqRead.j7 kj92 a0 false x326000_92 x4_1 x328001_42 x328002_67 x328003_92 (⟨#[]⟩:ByteArray)) = some (r1,r2,r3,r4,r5,r6):=by rw [if_neg (show ¬ (false = true) by decide)] at H;exact H
                      clear H;have H:=H1;clear H1;have H':=As0.mk H;clear H;have hnb123:=NB321_314.out;have hnc123:=NB314_321.out;have hnb124:=NB321_325.out;have hnc124:=NB325_321.out;have hnb125:=NB321_326.out;have hnc125:=NB326_321.out;have hnb126:=NB321_327.out;have hnc126:=NB327_321.out;obtain ⟨hcz127_0,hcz127_1,hcz127_2,hcz127_3,hcz127_4⟩:=qc5 BK321.out;obtain ⟨hfz127_0,hfz127_1,hfz127_2,hfz127_3,hfz127_4⟩:=qz5 BK321.out
                      go_wp2
                      show _;go_meet
                      case rel=>exact ⟨_,(false),(by first|rfl|(simp;done)|(simp [*];done)),H',⟨by have:=HK1.out;have:=HJ6.out;have:=HJ42.out;have:=HJ51.out;have:=HJ67.out;have:=HJ76.out;have:=HJ92.out;first|omega|exact Nat.le_refl _⟩,⟨by (with_reducible repeat (first|refine bkN ?_ _|refine bkD ?_|refine bkA ?_ _));exact BK314.out⟩,⟨by (with_reducible repeat (first|refine bkN ?_ _|refine bkD ?_|refine bkA ?_ _));exact BK321.out⟩,⟨by (with_reducible repeat (first|refine bkN ?_ _|refine bkD ?_|refine bkA ?_ _));exact BK325.out⟩,⟨by (with_reducible repeat (first|refine bkN ?_ _|refine bkD ?_|refine bkA ?_ _));exact BK326.out⟩,⟨by (with_reducible repeat (first|refine bkN ?_ _|refine bkD ?_|refine bkA ?_ _));exact BK327.out⟩,⟨by repeat (first|(with_reducible first|exact HB.out|apply bal|apply pbN|apply bd1|refine bst ?_ GE314.out|refine bst ?_ GE321.out|refine bst ?_ GE325.out|refine bst ?_ GE326.out|refine bst ?_ GE327.out)|exact HB.out)⟩⟩
                   case rest=>
                    clear HC112
                    try clear c1
                    try clear hx1
                    try clear c2
                    try clear p2
                    try clear c3
                    try clear c3b0
                    try clear c4
                    try clear c5
                    try clear c6
                    try clear c6b0
                    try clear c6b1
                    try clear p6
                    try clear c7
                    try clear c8
                    try clear c9
                    try clear c10
                    try clear c11
                    try clear c12
                    try clear c14
                    try clear c15
                    try clear c16
                    try clear c18
                    try clear c19
                    try clear c23
                    try clear c24
                    try clear c25
                    try clear c26
                    try clear c28
                    try clear c29
                    try clear c30
                    try clear c31
                    try clear c32
                    try clear c33
                    try clear c34
                    try clear c35
                    try clear c36
                    try clear c38
                    try clear c39
                    try clear c40
                    try clear c41
                    try clear c44
                    try clear c47
                    try clear c48
                    try clear c49
                    try clear c50
                    try clear c53
                    try clear c54
                    try clear c55
                    try clear c56
                    try clear c57
                    try clear c59
                    try clear c60
                    try clear c61
                    try clear c63
                    try clear c64
                    try clear p64
                    try clear c65
                    try clear c66
                    try clear c69
                    try clear c72
                    try clear c73
                    try clear c74
                    try clear c75
                    try clear c78
                    try clear c79
                    try clear c80
                    try clear c81
                    try clear c82
                    try clear c84
                    try clear c85
                    try clear c86
                    try clear c88
                    try clear c89
                    try clear c90
                    try clear c91
                    try clear c94
                    try clear c97
                    try clear c100
                    try clear c101
                    try clear c102
                    try clear c103
                    try clear c107
                    try clear c108
                    try clear c109
                    try clear c110
                    try clear c113
                    try clear c114
                    try clear c115
                    try clear c116
                    try clear c117
                    try clear c119
                    try clear c120
                    try clear c121
                    try clear c123
                    try clear c124
                    try clear c125
                    try clear c126
                    try clear hcz104_0
                    try clear hcz104_1
                    try clear hcz104_2
                    try clear hcz104_3
                    try clear hcz104_4
                    try clear hcz111_0
                    try clear hcz111_1
                    try clear hcz111_2
                    try clear hcz111_3
                    try clear hcz111_4
                    try clear hcz118_0
                    try clear hcz118_1
                    try clear hcz118_2
                    try clear hcz118_3
                    try clear hcz118_4
                    try clear hcz11_0
                    try clear hcz11_1
                    try clear hcz11_2
                    try clear hcz11_3
                    try clear hcz11_4
                    try clear hcz122_0
                    try clear hcz127_0
                    try clear hcz127_1
                    try clear hcz127_2
                    try clear hcz127_3
                    try clear hcz127_4
                    try clear hcz17_0
                    try clear hcz20_0
                    try clear hcz21_0
                    try clear hcz21_1
                    try clear hcz21_2
                    try clear hcz21_3
                    try clear hcz21_4
                    try clear hcz27_0
                    try clear hcz27_1
                    try clear hcz27_2
                    try clear hcz27_3
                    try clear hcz27_4
                    try clear hcz33_0
                    try clear hcz33_1
                    try clear hcz33_2
                    try clear hcz33_3
                    try clear hcz33_4
                    try clear hcz37_0
                    try clear hcz42_0
                    try clear hcz42_1
                    try clear hcz42_2
                    try clear hcz42_3
                    try clear hcz42_4
                    try clear hcz51_0
                    try clear hcz51_1
                    try clear hcz51_2
                    try clear hcz51_3
                    try clear hcz51_4
                    try clear hcz58_0
                    try clear hcz58_1
                    try clear hcz58_2
                    try clear hcz58_3
                    try clear hcz58_4
                    try clear hcz62_0
                    try clear hcz67_0
                    try clear hcz67_1
                    try clear hcz67_2
                    try clear hcz67_3
                    try clear hcz67_4
                    try clear hcz76_0
                    try clear hcz76_1
                    try clear hcz76_2
                    try clear hcz76_3
                    try clear hcz76_4
                    try clear hcz83_0
                    try clear hcz83_1
                    try clear hcz83_2
                    try clear hcz83_3
                    try clear hcz83_4
                    try clear hcz87_0
                    try clear hcz92_0
                    try clear hcz92_1
                    try clear hcz92_2
                    try clear hcz92_3
                    try clear hcz92_4
                    try clear hfz104_0
                    try clear hfz104_1
                    try clear hfz104_2
                    try clear hfz104_3
                    try clear hfz104_4
                    try clear hfz111_0
                    try clear hfz111_1
                    try clear hfz111_2
                    try clear hfz111_3
                    try clear hfz111_4
                    try clear hfz118_0
                    try clear hfz118_1
                    try clear hfz118_2
                    try clear hfz118_3
                    try clear hfz118_4
                    try clear hfz11_0
                    try clear hfz11_1
                    try clear hfz11_2
                    try clear hfz11_3
                    try clear hfz11_4
                    try clear hfz122_0
                    try clear hfz127_0
                    try clear hfz127_1
                    try clear hfz127_2
                    try clear hfz127_3
                    try clear hfz127_4
                    try clear hfz17_0
                    try clear hfz20_0
                    try clear hfz21_0
                    try clear hfz21_1
                    try clear hfz21_2
                    try clear hfz21_3
                    try clear hfz21_4
                    try clear hfz27_0
                    try clear hfz27_1
                    try clear hfz27_2
                    try clear hfz27_3
                    try clear hfz27_4
                    try clear hfz33_0
                    try clear hfz33_1
                    try clear hfz33_2
                    try clear hfz33_3
                    try clear hfz33_4
                    try clear hfz37_0
                    try clear hfz42_0
                    try clear hfz42_1
                    try clear hfz42_2
                    try clear hfz42_3
                    try clear hfz42_4
                    try clear hfz51_0
                    try clear hfz51_1
                    try clear hfz51_2
                    try clear hfz51_3
                    try clear hfz51_4
                    try clear hfz58_0
                    try clear hfz58_1
                    try clear hfz58_2
                    try clear hfz58_3
                    try clear hfz58_4
                    try clear hfz62_0
                    try clear hfz67_0
                    try clear hfz67_1
                    try clear hfz67_2
                    try clear hfz67_3
                    try clear hfz67_4
                    try clear hfz76_0
                    try clear hfz76_1
                    try clear hfz76_2
                    try clear hfz76_3
                    try clear hfz76_4
                    try clear hfz83_0
                    try clear hfz83_1
                    try clear hfz83_2
                    try clear hfz83_3
                    try clear hfz83_4
                    try clear hfz87_0
                    try clear hfz92_0
                    try clear hfz92_1
                    try clear hfz92_2
                    try clear hfz92_3
                    try clear hfz92_4
                    try clear p2
                    try clear p6
                    try clear p64
                    obtain ⟨kq,x72_111,rfl,HA,HJ111,BK314,BK321,BK325,BK326,BK327,HB⟩:=hcut
                    cases kq with
                    |zero=>exact absurd HA.out (by simp [impl_reqRead.j7])
                    |succ kj111=>
                     have H:=HA.out;clear HA;simp only [impl_reqRead.j7] at H;have HC128:=As0.mk H;clear H
                     go_upto_if 72 with (fail)
                     show _;go_cut [] (fun wc=>∃ (kq:Nat) (x328004_127:ByteArray),As0 (impl_reqRead.j8 kq a0 x4_1 x328001_42 x328002_67 x328003_92 x328004_127 = some (r1,r2,r3,r4,r5,r6)) ∧ As0 (kq ≤ kj111) ∧ As0 (wc.heap[gb314]? = some (.cells #[.int .i64 x315000_92,.string x315001_92,.string x315002_92,.int .i64 x315003_92,.string x315004_92] 25 (0,0))) ∧ As0 (wc.heap[gb321]? = some (.cells #[.string t315,.bool t316,.bool t317,.bool t318,.bool t319] 53 (0,0))) ∧ As0 (wc.heap[gb325]? = some (.cells #[.string x326000_92] 9 (0,0))) ∧ As0 (wc.heap[gb326]? = some (.cells #[.bool x327000_92] 4 (0,0))) ∧ As0 (wc.heap[gb327]? = some (.cells #[.int .i64 x4_1,.string x328001_42,.string x328002_67,.int .i64 x328003_92,.string x328004_127] 25 (0,0))) ∧ As0 (Below w.heap.size w wc))
                     case first=>
                      have H:=HC128.out;clear HC128;by_cases c129:x72_111 = true
                      · subst c129
                        have H1:(impl_reqRead.j8 kj111 a0 x4_1 x328001_42 x328002_67 x328003_92 x326000_92) = some (r1,r2,r3,r4,r5,r6):=by rw [if_pos rfl] at H;exact H
                        clear H;have H:=H1;clear H1;have H':=As0.mk H;clear H;have hnb130:=NB325_314.out;have hnc130:=NB314_325.out;have hnb131:=NB325_321.out;have hnc131:=NB321_325.out;have hnb132:=NB325_326.out;have hnc132:=NB326_325.out;have hnb133:=NB325_327.out;have hnc133:=NB327_325.out;have hcz134_0:=qc1 BK325.out;have hfz134_0:=bkF BK325.out 0;have hnb135:=NB327_314.out;have hnc135:=NB314_327.out;have hnb136:=NB327_321.out;have hnc136:=NB321_327.out;have hnb137:=NB327_326.out;have hnc137:=NB326_327.out;obtain ⟨hcz138_0,hcz138_1,hcz138_2,hcz138_3,hcz138_4⟩:=qc5 BK327.out;obtain ⟨hfz138_0,hfz138_1,hfz138_2,hfz138_3,hfz138_4⟩:=qz5 BK327.out
                        go_wp2
                        show _;go_meet
                        case rel=>exact ⟨_,(x326000_92),H',⟨by have:=HK1.out;have:=HJ6.out;have:=HJ42.out;have:=HJ51.out;have:=HJ67.out;have:=HJ76.out;have:=HJ92.out;have:=HJ111.out;first|omega|exact Nat.le_refl _⟩,⟨by (with_reducible repeat (first|refine bkN ?_ _|refine bkD ?_|refine bkA ?_ _));refine blk_far ?_ NB314_327.out _;(with_reducible repeat (first|refine bkN ?_ _|refine bkD ?_|refine bkA ?_ _));exact BK314.out⟩,⟨by (with_reducible repeat (first|refine bkN ?_ _|refine bkD ?_|refine bkA ?_ _));refine blk_far ?_ NB321_327.out _;(with_reducible repeat (first|refine bkN ?_ _|refine bkD ?_|refine bkA ?_ _));exact BK321.out⟩,⟨by (with_reducible repeat (first|refine bkN ?_ _|refine bkD ?_|refine bkA ?_ _));refine blk_far ?_ NB325_327.out _;(with_reducible repeat (first|refine bkN ?_ _|refine bkD ?_|refine bkA ?_ _));exact BK325.out⟩,⟨by (with_reducible repeat (first|refine bkN ?_ _|refine bkD ?_|refine bkA ?_ _));refine blk_far ?_ NB326_327.out _;(with_reducible repeat (first|refine bkN ?_ _|refine bkD ?_|refine bkA ?_ _));exact BK326.out⟩,⟨by (with_reducible repeat (first|refine bkN ?_ _|refine bkD ?_|refine bkA ?_ _));refine blk_put (cs:=#[.int .i64 x4_1,.string x328001_42,.string x328002_67,.int .i64 x328003_92,.string ⟨#[]⟩]) ?_ 4 _ rfl;(with_reducible repeat (first|refine bkN ?_ _|refine bkD ?_|refine bkA ?_ _));exact BK327.out⟩,⟨by repeat (first|(with_reducible first|exact HB.out|apply bal|apply pbN|apply bd1|refine bst ?_ GE314.out|refine bst ?_ GE321.out|refine bst ?_ GE325.out|refine bst ?_ GE326.out|refine bst ?_ GE327.out)|exact HB.out)⟩⟩
                      · replace c129:=Bool.eq_false_iff.mpr c129
                        subst c129;have H1:(impl_reqRead.j8 kj111 a0 x4_1 x328001_42 x328002_67 x328003_92 (⟨#[]⟩:ByteArray)) = some (r1,r2,r3,r4,r5,r6):=by rw [if_neg (show ¬ (false = true) by decide)] at H;exact H
                        clear H;have H:=H1;clear H1;have H':=As0.mk H;clear H
                        go_wp2
                        show _;go_meet
                        case rel=>exact ⟨_,((⟨#[]⟩:ByteArray)),H',⟨by have:=HK1.out;have:=HJ6.out;have:=HJ42.out;have:=HJ51.out;have:=HJ67.out;have:=HJ76.out;have:=HJ92.out;have:=HJ111.out;first|omega|exact Nat.le_refl _⟩,⟨by (with_reducible repeat (first|refine bkN ?_ _|refine bkD ?_|refine bkA ?_ _));exact BK314.out⟩,⟨by (with_reducible repeat (first|refine bkN ?_ _|refine bkD ?_|refine bkA ?_ _));exact BK321.out⟩,⟨by (with_reducible repeat (first|refine bkN ?_ _|refine bkD ?_|refine bkA ?_ _));exact BK325.out⟩,⟨by (with_reducible repeat (first|refine bkN ?_ _|refine bkD ?_|refine bkA ?_ _));exact BK326.out⟩,⟨by (with_reducible repeat (first|refine bkN ?_ _|refine bkD ?_|refine bkA ?_ _));exact BK327.out⟩,⟨by repeat (first|(with_reducible first|exact HB.out|apply bal|apply pbN|apply bd1|refine bst ?_ GE314.out|refine bst ?_ GE321.out|refine bst ?_ GE325.out|refine bst ?_ GE326.out|refine bst ?_ GE327.out)|exact HB.out)⟩⟩
                     case rest=>
                      clear HC128
                      try clear c1
                      try clear hx1
                      try clear c2
                      try clear p2
                      try clear c3
                      try clear c3b0
                      try clear c4
                      try clear c5
                      try clear c6
                      try clear c6b0
                      try clear c6b1
                      try clear p6
                      try clear c7
                      try clear c8
                      try clear c9
                      try clear c10
                      try clear c11
                      try clear c12
                      try clear c13
                      try clear c14
                      try clear c15
                      try clear c16
                      try clear c18
                      try clear c19
                      try clear c23
                      try clear c24
                      try clear c25
                      try clear c26
                      try clear c28
                      try clear c29
                      try clear c30
                      try clear c31
                      try clear c32
                      try clear c33
                      try clear c34
                      try clear c35
                      try clear c36
                      try clear c38
                      try clear c39
                      try clear c40
                      try clear c41
                      try clear c44
                      try clear c47
                      try clear c48
                      try clear c49
                      try clear c50
                      try clear c53
                      try clear c54
                      try clear c55
                      try clear c56
                      try clear c57
                      try clear c59
                      try clear c60
                      try clear c61
                      try clear c63
                      try clear c64
                      try clear p64
                      try clear c65
                      try clear c66
                      try clear c69
                      try clear c72
                      try clear c73
                      try clear c74
                      try clear c75
                      try clear c78
                      try clear c79
                      try clear c80
                      try clear c81
                      try clear c82
                      try clear c84
                      try clear c85
                      try clear c86
                      try clear c88
                      try clear c89
                      try clear c90
                      try clear c91
                      try clear c94
                      try clear c97
                      try clear c100
                      try clear c101
                      try clear c102
                      try clear c103
                      try clear c107
                      try clear c108
                      try clear c109
                      try clear c110
                      try clear c113
                      try clear c114
                      try clear c115
                      try clear c116
                      try clear c117
                      try clear c119
                      try clear c120
                      try clear c121
                      try clear c123
                      try clear c124
                      try clear c125
                      try clear c126
                      try clear c129
                      try clear c130
                      try clear c131
                      try clear c132
                      try clear c133
                      try clear c135
                      try clear c136
                      try clear c137
                      try clear hcz104_0
                      try clear hcz104_1
                      try clear hcz104_2
                      try clear hcz104_3
                      try clear hcz104_4
                      try clear hcz111_0
                      try clear hcz111_1
                      try clear hcz111_2
                      try clear hcz111_3
                      try clear hcz111_4
                      try clear hcz118_0
                      try clear hcz118_1
                      try clear hcz118_2
                      try clear hcz118_3
                      try clear hcz118_4
                      try clear hcz11_0
                      try clear hcz11_1
                      try clear hcz11_2
                      try clear hcz11_3
                      try clear hcz11_4
                      try clear hcz122_0
                      try clear hcz127_0
                      try clear hcz127_1
                      try clear hcz127_2
                      try clear hcz127_3
                      try clear hcz127_4
                      try clear hcz134_0
                      try clear hcz138_0
                      try clear hcz138_1
                      try clear hcz138_2
                      try clear hcz138_3
                      try clear hcz138_4
                      try clear hcz17_0
                      try clear hcz20_0
                      try clear hcz21_0
                      try clear hcz21_1
                      try clear hcz21_2
                      try clear hcz21_3
                      try clear hcz21_4
                      try clear hcz27_0
                      try clear hcz27_1
                      try clear hcz27_2
                      try clear hcz27_3
                      try clear hcz27_4
                      try clear hcz33_0
                      try clear hcz33_1
                      try clear hcz33_2
                      try clear hcz33_3
                      try clear hcz33_4
                      try clear hcz37_0
                      try clear hcz42_0
                      try clear hcz42_1
                      try clear hcz42_2
                      try clear hcz42_3
                      try clear hcz42_4
                      try clear hcz51_0
                      try clear hcz51_1
                      try clear hcz51_2
                      try clear hcz51_3
                      try clear hcz51_4
                      try clear hcz58_0
                      try clear hcz58_1
                      try clear hcz58_2
                      try clear hcz58_3
                      try clear hcz58_4
                      try clear hcz62_0
                      try clear hcz67_0
                      try clear hcz67_1
                      try clear hcz67_2
                      try clear hcz67_3
                      try clear hcz67_4
                      try clear hcz76_0
                      try clear hcz76_1
                      try clear hcz76_2
                      try clear hcz76_3
                      try clear hcz76_4
                      try clear hcz83_0
                      try clear hcz83_1
                      try clear hcz83_2
                      try clear hcz83_3
                      try clear hcz83_4
                      try clear hcz87_0
                      try clear hcz92_0
                      try clear hcz92_1
                      try clear hcz92_2
                      try clear hcz92_3
                      try clear hcz92_4
                      try clear hfz104_0
                      try clear hfz104_1
                      try clear hfz104_2
                      try clear hfz104_3
                      try clear hfz104_4
                      try clear hfz111_0
                      try clear hfz111_1
                      try clear hfz111_2
                      try clear hfz111_3
                      try clear hfz111_4
                      try clear hfz118_0
                      try clear hfz118_1
                      try clear hfz118_2
                      try clear hfz118_3
                      try clear hfz118_4
                      try clear hfz11_0
                      try clear hfz11_1
                      try clear hfz11_2
                      try clear hfz11_3
                      try clear hfz11_4
                      try clear hfz122_0
                      try clear hfz127_0
                      try clear hfz127_1
                      try clear hfz127_2
                      try clear hfz127_3
                      try clear hfz127_4
                      try clear hfz134_0
                      try clear hfz138_0
                      try clear hfz138_1
                      try clear hfz138_2
                      try clear hfz138_3
                      try clear hfz138_4
                      try clear hfz17_0
                      try clear hfz20_0
                      try clear hfz21_0
                      try clear hfz21_1
                      try clear hfz21_2
                      try clear hfz21_3
                      try clear hfz21_4
                      try clear hfz27_0
                      try clear hfz27_1
                      try clear hfz27_2
                      try clear hfz27_3
                      try clear hfz27_4
                      try clear hfz33_0
                      try clear hfz33_1
                      try clear hfz33_2
                      try clear hfz33_3
                      try clear hfz33_4
                      try clear hfz37_0
                      try clear hfz42_0
                      try clear hfz42_1
                      try clear hfz42_2
                      try clear hfz42_3
                      try clear hfz42_4
                      try clear hfz51_0
                      try clear hfz51_1
                      try clear hfz51_2
                      try clear hfz51_3
                      try clear hfz51_4
                      try clear hfz58_0
                      try clear hfz58_1
                      try clear hfz58_2
                      try clear hfz58_3
                      try clear hfz58_4
                      try clear hfz62_0
                      try clear hfz67_0
                      try clear hfz67_1
                      try clear hfz67_2
                      try clear hfz67_3
                      try clear hfz67_4
                      try clear hfz76_0
                      try clear hfz76_1
                      try clear hfz76_2
                      try clear hfz76_3
                      try clear hfz76_4
                      try clear hfz83_0
                      try clear hfz83_1
                      try clear hfz83_2
                      try clear hfz83_3
                      try clear hfz83_4
                      try clear hfz87_0
                      try clear hfz92_0
                      try clear hfz92_1
                      try clear hfz92_2
                      try clear hfz92_3
                      try clear hfz92_4
                      try clear p2
                      try clear p6
                      try clear p64
                      obtain ⟨kq,x328004_127,HA,HJ127,BK314,BK321,BK325,BK326,BK327,HB⟩:=hcut
                      cases kq with
                      |zero=>exact absurd HA.out (by simp [impl_reqRead.j8])
                      |succ kj127=>
                       have H:=HA.out;clear HA;simp only [impl_reqRead.j8] at H;replace H:=Option.bind_eq_some_iff.mp H;obtain ⟨t339,A1390,H⟩:=H;(try dsimp only at H);have A139:=As0.mk A1390;clear A1390;by_cases c140:t339 = true
                       · subst c140
                         have H1:((impl_reqText.f kj127 x4_1 x328001_42 x328002_67 x328003_92 x328004_127).bind fun t340=>(if t340.toList = a0.toList then (some (x4_1,x328001_42,x328002_67,x328003_92,x328004_127,true)) else (some (0,(⟨#[]⟩:ByteArray),(⟨#[]⟩:ByteArray),0,(⟨#[]⟩:ByteArray),false)))) = some (r1,r2,r3,r4,r5,r6):=by rw [if_pos rfl] at H;exact H
                         clear H;have H:=H1;clear H1;replace H:=Option.bind_eq_some_iff.mp H;obtain ⟨t340,A1410,H⟩:=H;(try dsimp only at H);have A141:=As0.mk A1410;clear A1410;by_cases c142:t340.toList = a0.toList
                         · rw [if_pos c142] at H
                           have c142b0:(t340.toList == a0.toList) = true:=beq_iff_eq.mpr c142;have c142b1:(t340.toList != a0.toList) = false:=bne_eq_false_iff_eq.mpr c142;clear c142;simp only [Option.some.injEq,Prod.mk.injEq] at H;obtain ⟨rfl,rfl,rfl,rfl,rfl,rfl⟩:=H;have hnb143:=NB327_314.out;have hnc143:=NB314_327.out;have hnb144:=NB327_321.out;have hnc144:=NB321_327.out;have hnb145:=NB327_325.out;have hnc145:=NB325_327.out;have hnb146:=NB327_326.out;have hnc146:=NB326_327.out;obtain ⟨hcz147_0,hcz147_1,hcz147_2,hcz147_3,hcz147_4⟩:=qc5 BK327.out;obtain ⟨hfz147_0,hfz147_1,hfz147_2,hfz147_3,hfz147_4⟩:=qz5 BK327.out
                           go_wp2_with (first|(refine gL (some 76) Tryd.func25 #[.agg #[.int .i64 x4_1,.string x328001_42,.string x328002_67,.int .i64 x328003_92,.string x328004_127]] ?_;(with_reducible refine (impl_isReq.calls kj127 x4_1 x328001_42 x328002_67 x328003_92 x328004_127 true _ A139.out).mono ?_);rintro e w148 ⟨rfl,hb⟩;refine ⟨_,rfl,?_⟩;replace BK314:=As0.mk (bb hb BK314.out);replace BK321:=As0.mk (bb hb BK321.out);replace BK325:=As0.mk (bb hb BK325.out);replace BK326:=As0.mk (bb hb BK326.out);replace BK327:=As0.mk (bb hb BK327.out);replace HB:=As0.mk (bsp (by repeat (first|(with_reducible first|exact HB.out|apply bal|apply pbN|apply bd1|refine bst ?_ GE314.out|refine bst ?_ GE321.out|refine bst ?_ GE325.out|refine bst ?_ GE326.out|refine bst ?_ GE327.out)|exact HB.out)) hb);clear hb;obtain ⟨hcz149_0,hcz149_1,hcz149_2,hcz149_3,hcz149_4⟩:=qc5 BK327.out;obtain ⟨hfz149_0,hfz149_1,hfz149_2,hfz149_3,hfz149_4⟩:=qz5 BK327.out)|(go_at_call 26;(with_reducible refine (impl_reqText.calls kj127 x4_1 x328001_42 x328002_67 x328003_92 x328004_127 t340 _ ?side1 A141.out).mono ?_);(case side1=>exact TabT.below HT.out (by repeat (first|(with_reducible first|exact HB.out|apply bal|apply pbN|apply bd1|refine bst ?_ GE314.out|refine bst ?_ GE321.out|refine bst ?_ GE325.out|refine bst ?_ GE326.out|refine bst ?_ GE327.out)|exact HB.out)));rintro e w150 ⟨rfl,hb⟩;replace BK314:=As0.mk (bb hb BK314.out);replace BK321:=As0.mk (bb hb BK321.out);replace BK325:=As0.mk (bb hb BK325.out);replace BK326:=As0.mk (bb hb BK326.out);replace BK327:=As0.mk (bb hb BK327.out);replace HB:=As0.mk (bsp (by repeat (first|(with_reducible first|exact HB.out|apply bal|apply pbN|apply bd1|refine bst ?_ GE314.out|refine bst ?_ GE321.out|refine bst ?_ GE325.out|refine bst ?_ GE326.out|refine bst ?_ GE327.out)|exact HB.out)) hb);clear hb;obtain ⟨hcz151_0,hcz151_1,hcz151_2,hcz151_3,hcz151_4⟩:=qc5 BK327.out;obtain ⟨hfz151_0,hfz151_1,hfz151_2,hfz151_3,hfz151_4⟩:=qz5 BK327.out;have hnb152:=NB314_321.out;have hnc152:=NB321_314.out;have hnb153:=NB314_325.out;have hnc153:=NB325_314.out;have hnb154:=NB314_326.out;have hnc154:=NB326_314.out;obtain ⟨hcz155_0,hcz155_1,hcz155_2,hcz155_3,hcz155_4⟩:=qc5 BK314.out;obtain ⟨hfz155_0,hfz155_1,hfz155_2,hfz155_3,hfz155_4⟩:=qz5 BK314.out))
                           refine bodyPost_ret (results_ct rfl _ _ gb314 25 #[.int .i64 x4_1,.string x328001_42,.string x328002_67,.int .i64 x328003_92,.string x328004_127] (0,0) _ rfl (by (with_reducible repeat (first|refine bkN ?_ _|refine bkD ?_|refine bkA ?_ _));refine blk_put (cs:=#[.int .i64 x4_1,.string x328001_42,.string x328002_67,.int .i64 x328003_92,.string x315004_92]) ?_ 4 _ rfl;(with_reducible repeat (first|refine bkN ?_ _|refine bkD ?_|refine bkA ?_ _));refine blk_put (cs:=#[.int .i64 x4_1,.string x328001_42,.string x328002_67,.int .i64 x315003_92,.string x315004_92]) ?_ 3 _ rfl;(with_reducible repeat (first|refine bkN ?_ _|refine bkD ?_|refine bkA ?_ _));refine blk_put (cs:=#[.int .i64 x4_1,.string x328001_42,.string x315002_92,.int .i64 x315003_92,.string x315004_92]) ?_ 2 _ rfl;(with_reducible repeat (first|refine bkN ?_ _|refine bkD ?_|refine bkA ?_ _));refine blk_put (cs:=#[.int .i64 x4_1,.string x315001_92,.string x315002_92,.int .i64 x315003_92,.string x315004_92]) ?_ 1 _ rfl;(with_reducible repeat (first|refine bkN ?_ _|refine bkD ?_|refine bkA ?_ _));refine blk_put (cs:=#[.int .i64 x315000_92,.string x315001_92,.string x315002_92,.int .i64 x315003_92,.string x315004_92]) ?_ 0 _ rfl;(with_reducible repeat (first|refine bkN ?_ _|refine bkD ?_|refine bkA ?_ _));exact BK314.out) Tryd.underlying25 rfl (by kernel_rfl)) rfl ?_
                           exact ⟨eW,by repeat (first|(with_reducible first|exact HB.out|apply bal|apply pbN|apply bd1|refine bst ?_ GE314.out|refine bst ?_ GE321.out|refine bst ?_ GE325.out|refine bst ?_ GE326.out|refine bst ?_ GE327.out)|exact HB.out)⟩
                         · rw [if_neg c142] at H
                           have c142b0:(t340.toList == a0.toList) = false:=beq_eq_false_iff_ne.mpr c142;have c142b1:(t340.toList != a0.toList) = true:=bne_iff_ne.mpr c142;simp only [Option.some.injEq,Prod.mk.injEq] at H;obtain ⟨rfl,rfl,rfl,rfl,rfl,rfl⟩:=H;have hnb156:=NB327_314.out;have hnc156:=NB314_327.out;have hnb157:=NB327_321.out;have hnc157:=NB321_327.out;have hnb158:=NB327_325.out;have hnc158:=NB325_327.out;have hnb159:=NB327_326.out;have hnc159:=NB326_327.out;obtain ⟨hcz160_0,hcz160_1,hcz160_2,hcz160_3,hcz160_4⟩:=qc5 BK327.out;obtain ⟨hfz160_0,hfz160_1,hfz160_2,hfz160_3,hfz160_4⟩:=qz5 BK327.out
                           go_wp2_with (first|(refine gL (some 76) Tryd.func25 #[.agg #[.int .i64 x4_1,.string x328001_42,.string x328002_67,.int .i64 x328003_92,.string x328004_127]] ?_;(with_reducible refine (impl_isReq.calls kj127 x4_1 x328001_42 x328002_67 x328003_92 x328004_127 true _ A139.out).mono ?_);rintro e w161 ⟨rfl,hb⟩;refine ⟨_,rfl,?_⟩;replace BK314:=As0.mk (bb hb BK314.out);replace BK321:=As0.mk (bb hb BK321.out);replace BK325:=As0.mk (bb hb BK325.out);replace BK326:=As0.mk (bb hb BK326.out);replace BK327:=As0.mk (bb hb BK327.out);replace HB:=As0.mk (bsp (by repeat (first|(with_reducible first|exact HB.out|apply bal|apply pbN|apply bd1|refine bst ?_ GE314.out|refine bst ?_ GE321.out|refine bst ?_ GE325.out|refine bst ?_ GE326.out|refine bst ?_ GE327.out)|exact HB.out)) hb);clear hb;obtain ⟨hcz162_0,hcz162_1,hcz162_2,hcz162_3,hcz162_4⟩:=qc5 BK327.out;obtain ⟨hfz162_0,hfz162_1,hfz162_2,hfz162_3,hfz162_4⟩:=qz5 BK327.out)|(go_at_call 26;(with_reducible refine (impl_reqText.calls kj127 x4_1 x328001_42 x328002_67 x328003_92 x328004_127 t340 _ ?side1 A141.out).mono ?_);(case side1=>exact TabT.below HT.out (by repeat (first|(with_reducible first|exact HB.out|apply bal|apply pbN|apply bd1|refine bst ?_ GE314.out|refine bst ?_ GE321.out|refine bst ?_ GE325.out|refine bst ?_ GE326.out|refine bst ?_ GE327.out)|exact HB.out)));rintro e w163 ⟨rfl,hb⟩;replace BK314:=As0.mk (bb hb BK314.out);replace BK321:=As0.mk (bb hb BK321.out);replace BK325:=As0.mk (bb hb BK325.out);replace BK326:=As0.mk (bb hb BK326.out);replace BK327:=As0.mk (bb hb BK327.out);replace HB:=As0.mk (bsp (by repeat (first|(with_reducible first|exact HB.out|apply bal|apply pbN|apply bd1|refine bst ?_ GE314.out|refine bst ?_ GE321.out|refine bst ?_ GE325.out|refine bst ?_ GE326.out|refine bst ?_ GE327.out)|exact HB.out)) hb);clear hb;have hnb164:=NB314_321.out;have hnc164:=NB321_314.out;have hnb165:=NB314_325.out;have hnc165:=NB325_314.out;have hnb166:=NB314_326.out;have hnc166:=NB326_314.out;obtain ⟨hcz167_0,hcz167_1,hcz167_2,hcz167_3,hcz167_4⟩:=qc5 BK314.out;obtain ⟨hfz167_0,hfz167_1,hfz167_2,hfz167_3,hfz167_4⟩:=qz5 BK314.out))
                           refine bodyPost_ret (results_ct rfl _ _ gb314 25 #[.int .i64 0,.string ⟨#[]⟩,.string ⟨#[]⟩,.int .i64 0,.string ⟨#[]⟩] (0,0) _ rfl (by (with_reducible repeat (first|refine bkN ?_ _|refine bkD ?_|refine bkA ?_ _));refine blk_put (cs:=#[.int .i64 0,.string ⟨#[]⟩,.string ⟨#[]⟩,.int .i64 0,.string x315004_92]) ?_ 4 _ rfl;(with_reducible repeat (first|refine bkN ?_ _|refine bkD ?_|refine bkA ?_ _));refine blk_put (cs:=#[.int .i64 0,.string ⟨#[]⟩,.string ⟨#[]⟩,.int .i64 x315003_92,.string x315004_92]) ?_ 3 _ rfl;(with_reducible repeat (first|refine bkN ?_ _|refine bkD ?_|refine bkA ?_ _));refine blk_put (cs:=#[.int .i64 0,.string ⟨#[]⟩,.string x315002_92,.int .i64 x315003_92,.string x315004_92]) ?_ 2 _ rfl;(with_reducible repeat (first|refine bkN ?_ _|refine bkD ?_|refine bkA ?_ _));refine blk_put (cs:=#[.int .i64 0,.string x315001_92,.string x315002_92,.int .i64 x315003_92,.string x315004_92]) ?_ 1 _ rfl;(with_reducible repeat (first|refine bkN ?_ _|refine bkD ?_|refine bkA ?_ _));refine blk_put (cs:=#[.int .i64 x315000_92,.string x315001_92,.string x315002_92,.int .i64 x315003_92,.string x315004_92]) ?_ 0 _ rfl;(with_reducible repeat (first|refine bkN ?_ _|refine bkD ?_|refine bkA ?_ _));exact BK314.out) Tryd.underlying25 rfl (by kernel_rfl)) rfl ?_
                           exact ⟨eW,by repeat (first|(with_reducible first|exact HB.out|apply bal|apply pbN|apply bd1|refine bst ?_ GE314.out|refine bst ?_ GE321.out|refine bst ?_ GE325.out|refine bst ?_ GE326.out|refine bst ?_ GE327.out)|exact HB.out)⟩
                       · replace c140:=Bool.eq_false_iff.mpr c140
                         subst c140;have H1:(some (0,(⟨#[]⟩:ByteArray),(⟨#[]⟩:ByteArray),0,(⟨#[]⟩:ByteArray),false)) = some (r1,r2,r3,r4,r5,r6):=by rw [if_neg (show ¬ (false = true) by decide)] at H;exact H
                         clear H;have H:=H1;clear H1;simp only [Option.some.injEq,Prod.mk.injEq] at H;obtain ⟨rfl,rfl,rfl,rfl,rfl,rfl⟩:=H;have hnb168:=NB327_314.out;have hnc168:=NB314_327.out;have hnb169:=NB327_321.out;have hnc169:=NB321_327.out;have hnb170:=NB327_325.out;have hnc170:=NB325_327.out;have hnb171:=NB327_326.out;have hnc171:=NB326_327.out;obtain ⟨hcz172_0,hcz172_1,hcz172_2,hcz172_3,hcz172_4⟩:=qc5 BK327.out;obtain ⟨hfz172_0,hfz172_1,hfz172_2,hfz172_3,hfz172_4⟩:=qz5 BK327.out
                         go_wp2_with (first|(refine gL (some 76) Tryd.func25 #[.agg #[.int .i64 x4_1,.string x328001_42,.string x328002_67,.int .i64 x328003_92,.string x328004_127]] ?_;(with_reducible refine (impl_isReq.calls kj127 x4_1 x328001_42 x328002_67 x328003_92 x328004_127 false _ A139.out).mono ?_);rintro e w173 ⟨rfl,hb⟩;refine ⟨_,rfl,?_⟩;replace BK314:=As0.mk (bb hb BK314.out);replace BK321:=As0.mk (bb hb BK321.out);replace BK325:=As0.mk (bb hb BK325.out);replace BK326:=As0.mk (bb hb BK326.out);replace BK327:=As0.mk (bb hb BK327.out);replace HB:=As0.mk (bsp (by repeat (first|(with_reducible first|exact HB.out|apply bal|apply pbN|apply bd1|refine bst ?_ GE314.out|refine bst ?_ GE321.out|refine bst ?_ GE325.out|refine bst ?_ GE326.out|refine bst ?_ GE327.out)|exact HB.out)) hb);clear hb;have hnb174:=NB314_321.out;have hnc174:=NB321_314.out;have hnb175:=NB314_325.out;have hnc175:=NB325_314.out;have hnb176:=NB314_326.out;have hnc176:=NB326_314.out;obtain ⟨hcz177_0,hcz177_1,hcz177_2,hcz177_3,hcz177_4⟩:=qc5 BK314.out;obtain ⟨hfz177_0,hfz177_1,hfz177_2,hfz177_3,hfz177_4⟩:=qz5 BK314.out))
                         refine bodyPost_ret (results_ct rfl _ _ gb314 25 #[.int .i64 0,.string ⟨#[]⟩,.string ⟨#[]⟩,.int .i64 0,.string ⟨#[]⟩] (0,0) _ rfl (by (with_reducible repeat (first|refine bkN ?_ _|refine bkD ?_|refine bkA ?_ _));refine blk_put (cs:=#[.int .i64 0,.string ⟨#[]⟩,.string ⟨#[]⟩,.int .i64 0,.string x315004_92]) ?_ 4 _ rfl;(with_reducible repeat (first|refine bkN ?_ _|refine bkD ?_|refine bkA ?_ _));refine blk_put (cs:=#[.int .i64 0,.string ⟨#[]⟩,.string ⟨#[]⟩,.int .i64 x315003_92,.string x315004_92]) ?_ 3 _ rfl;(with_reducible repeat (first|refine bkN ?_ _|refine bkD ?_|refine bkA ?_ _));refine blk_put (cs:=#[.int .i64 0,.string ⟨#[]⟩,.string x315002_92,.int .i64 x315003_92,.string x315004_92]) ?_ 2 _ rfl;(with_reducible repeat (first|refine bkN ?_ _|refine bkD ?_|refine bkA ?_ _));refine blk_put (cs:=#[.int .i64 0,.string x315001_92,.string x315002_92,.int .i64 x315003_92,.string x315004_92]) ?_ 1 _ rfl;(with_reducible repeat (first|refine bkN ?_ _|refine bkD ?_|refine bkA ?_ _));refine blk_put (cs:=#[.int .i64 x315000_92,.string x315001_92,.string x315002_92,.int .i64 x315003_92,.string x315004_92]) ?_ 0 _ rfl;(with_reducible repeat (first|refine bkN ?_ _|refine bkD ?_|refine bkA ?_ _));exact BK314.out) Tryd.underlying25 rfl (by kernel_rfl)) rfl ?_
                         exact ⟨eW,by repeat (first|(with_reducible first|exact HB.out|apply bal|apply pbN|apply bd1|refine bst ?_ GE314.out|refine bst ?_ GE321.out|refine bst ?_ GE325.out|refine bst ?_ GE326.out|refine bst ?_ GE327.out)|exact HB.out)⟩
     · rw [if_neg c6] at H
       have c6b0:(t322.toList == t315.toList) = false:=beq_eq_false_iff_ne.mpr c6;have c6b1:(t322.toList != t315.toList) = true:=bne_iff_ne.mpr c6;have H':=As0.mk H;clear H
       go_wp2_with (first|(refine gL (some 20) Tryd.func33 #[.int .i64 x4_1] ?_;(with_reducible refine (impl_formOf.calls x4_1 t315 t316 t317 t318 t319 t320 _ A4.out).mono ?_);rintro e w178 ⟨rfl,hb⟩;refine ⟨_,rfl,?_⟩;replace BK314:=As0.mk (bb hb BK314.out);replace HB:=As0.mk (bsp (by repeat (first|(with_reducible first|exact HB.out|apply bal|apply pbN|apply bd1|refine bst ?_ GE314.out)|exact HB.out)) hb);clear hb)|((with_reducible refine gate_dst (N:=5) rfl ?_);refine bE 5 #[.string ⟨#[]⟩,.bool false,.bool false,.bool false,.bool false] 53 ?_;intro gb321 hg w179 hbox hb;have BK321:=As0.mk (hbox);have GW321:=As0.mk ((by rw [hg];exact (bsz (by repeat (first|(with_reducible first|exact HB.out|apply bal|apply pbN|apply bd1|refine bst ?_ GE314.out)|exact HB.out))):w.heap.size ≤ gb321));have GE321:=GW321;replace HB:=As0.mk (bsp (by repeat (first|(with_reducible first|exact HB.out|apply bal|apply pbN|apply bd1|refine bst ?_ GE314.out)|exact HB.out)) hb);have NB314_321:=As0.mk ((by rw [hg];exact Nat.ne_of_lt (blk_lt (g:=gb314) (o:=.cells #[.int .i64 x315000_1,.string x315001_1,.string x315002_1,.int .i64 x315003_1,.string x315004_1] 25 (0,0)) (by (with_reducible repeat (first|refine bkN ?_ _|refine bkD ?_|refine bkA ?_ _));exact BK314.out)):gb314 ≠ gb321));have NB321_314:=As0.mk (Ne.symm NB314_321.out);replace BK314:=As0.mk (bb hb BK314.out);clear hb hbox hg;have hnb180:=NB321_314.out;have hnc180:=NB314_321.out;obtain ⟨hcz181_0,hcz181_1,hcz181_2,hcz181_3,hcz181_4⟩:=qc5 BK321.out;obtain ⟨hfz181_0,hfz181_1,hfz181_2,hfz181_3,hfz181_4⟩:=qz5 BK321.out)|(refine gL (some 25) Tryd.func34 #[.string a0,.string (⟨#[32]⟩:ByteArray)] ?_;(with_reducible refine (strings_Cut.calls a0 (⟨#[32]⟩:ByteArray) t322 t323 t324 _ A5.out).mono ?_);rintro e w' ⟨rfl,⟨nd,rfl⟩⟩;refine ⟨_,rfl,?_⟩)|((with_reducible refine gate_dst (N:=8) rfl ?_);refine bE 8 #[.string ⟨#[]⟩] 9 ?_;intro gb325 hg w182 hbox hb;have BK325:=As0.mk (hbox);have GW325:=As0.mk ((by rw [hg];exact (bsz (by repeat (first|(with_reducible first|exact HB.out|apply bal|apply pbN|apply bd1|refine bst ?_ GE314.out|refine bst ?_ GE321.out)|exact HB.out))):w.heap.size ≤ gb325));have GE325:=GW325;replace HB:=As0.mk (bsp (by repeat (first|(with_reducible first|exact HB.out|apply bal|apply pbN|apply bd1|refine bst ?_ GE314.out|refine bst ?_ GE321.out)|exact HB.out)) hb);have NB314_325:=As0.mk ((by rw [hg];exact Nat.ne_of_lt (blk_lt (g:=gb314) (o:=.cells #[.int .i64 x315000_1,.string x315001_1,.string x315002_1,.int .i64 x315003_1,.string x315004_1] 25 (0,0)) (by (with_reducible repeat (first|refine bkN ?_ _|refine bkD ?_|refine bkA ?_ _));refine blk_far ?_ NB314_321.out _;(with_reducible repeat (first|refine bkN ?_ _|refine bkD ?_|refine bkA ?_ _));refine blk_far ?_ NB314_321.out _;(with_reducible repeat (first|refine bkN ?_ _|refine bkD ?_|refine bkA ?_ _));refine blk_far ?_ NB314_321.out _;(with_reducible repeat (first|refine bkN ?_ _|refine bkD ?_|refine bkA ?_ _));refine blk_far ?_ NB314_321.out _;(with_reducible repeat (first|refine bkN ?_ _|refine bkD ?_|refine bkA ?_ _));refine blk_far ?_ NB314_321.out _;(with_reducible repeat (first|refine bkN ?_ _|refine bkD ?_|refine bkA ?_ _));exact BK314.out)):gb314 ≠ gb325));have NB325_314:=As0.mk (Ne.symm NB314_325.out);replace BK314:=As0.mk (blk_below (g:=gb314) (o:=.cells #[.int .i64 x315000_1,.string x315001_1,.string x315002_1,.int .i64 x315003_1,.string x315004_1] 25 (0,0)) (by (with_reducible repeat (first|refine bkN ?_ _|refine bkD ?_|refine bkA ?_ _));refine blk_far ?_ NB314_321.out _;(with_reducible repeat (first|refine bkN ?_ _|refine bkD ?_|refine bkA ?_ _));refine blk_far ?_ NB314_321.out _;(with_reducible repeat (first|refine bkN ?_ _|refine bkD ?_|refine bkA ?_ _));refine blk_far ?_ NB314_321.out _;(with_reducible repeat (first|refine bkN ?_ _|refine bkD ?_|refine bkA ?_ _));refine blk_far ?_ NB314_321.out _;(with_reducible repeat (first|refine bkN ?_ _|refine bkD ?_|refine bkA ?_ _));refine blk_far ?_ NB314_321.out _;(with_reducible repeat (first|refine bkN ?_ _|refine bkD ?_|refine bkA ?_ _));exact BK314.out) hb);have NB321_325:=As0.mk ((by rw [hg];exact Nat.ne_of_lt (blk_lt (g:=gb321) (o:=.cells #[.string t315,.bool t316,.bool t317,.bool t318,.bool t319] 53 (0,0)) (by (with_reducible repeat (first|refine bkN ?_ _|refine bkD ?_|refine bkA ?_ _));refine blk_put (cs:=#[.string t315,.bool t316,.bool t317,.bool t318,.bool false]) ?_ 4 _ rfl;(with_reducible repeat (first|refine bkN ?_ _|refine bkD ?_|refine bkA ?_ _));refine blk_put (cs:=#[.string t315,.bool t316,.bool t317,.bool false,.bool false]) ?_ 3 _ rfl;(with_reducible repeat (first|refine bkN ?_ _|refine bkD ?_|refine bkA ?_ _));refine blk_put (cs:=#[.string t315,.bool t316,.bool false,.bool false,.bool false]) ?_ 2 _ rfl;(with_reducible repeat (first|refine bkN ?_ _|refine bkD ?_|refine bkA ?_ _));refine blk_put (cs:=#[.string t315,.bool false,.bool false,.bool false,.bool false]) ?_ 1 _ rfl;(with_reducible repeat (first|refine bkN ?_ _|refine bkD ?_|refine bkA ?_ _));refine blk_put (cs:=#[.string ⟨#[]⟩,.bool false,.bool false,.bool false,.bool false]) ?_ 0 _ rfl;(with_reducible repeat (first|refine bkN ?_ _|refine bkD ?_|refine bkA ?_ _));exact BK321.out)):gb321 ≠ gb325));have NB325_321:=As0.mk (Ne.symm NB321_325.out);replace BK321:=As0.mk (blk_below (g:=gb321) (o:=.cells #[.string t315,.bool t316,.bool t317,.bool t318,.bool t319] 53 (0,0)) (by (with_reducible repeat (first|refine bkN ?_ _|refine bkD ?_|refine bkA ?_ _));refine blk_put (cs:=#[.string t315,.bool t316,.bool t317,.bool t318,.bool false]) ?_ 4 _ rfl;(with_reducible repeat (first|refine bkN ?_ _|refine bkD ?_|refine bkA ?_ _));refine blk_put (cs:=#[.string t315,.bool t316,.bool t317,.bool false,.bool false]) ?_ 3 _ rfl;(with_reducible repeat (first|refine bkN ?_ _|refine bkD ?_|refine bkA ?_ _));refine blk_put (cs:=#[.string t315,.bool t316,.bool false,.bool false,.bool false]) ?_ 2 _ rfl;(with_reducible repeat (first|refine bkN ?_ _|refine bkD ?_|refine bkA ?_ _));refine blk_put (cs:=#[.string t315,.bool false,.bool false,.bool false,.bool false]) ?_ 1 _ rfl;(with_reducible repeat (first|refine bkN ?_ _|refine bkD ?_|refine bkA ?_ _));refine blk_put (cs:=#[.string ⟨#[]⟩,.bool false,.bool false,.bool false,.bool false]) ?_ 0 _ rfl;(with_reducible repeat (first|refine bkN ?_ _|refine bkD ?_|refine bkA ?_ _));exact BK321.out) hb);clear hb hbox hg)|((with_reducible refine gate_dst (N:=9) rfl ?_);refine bE 9 #[.bool false] 4 ?_;intro gb326 hg w183 hbox hb;have BK326:=As0.mk (hbox);have GW326:=As0.mk ((by rw [hg];exact (bsz (by repeat (first|(with_reducible first|exact HB.out|apply bal|apply pbN|apply bd1|refine bst ?_ GE314.out|refine bst ?_ GE321.out|refine bst ?_ GE325.out)|exact HB.out))):w.heap.size ≤ gb326));have GE326:=GW326;replace HB:=As0.mk (bsp (by repeat (first|(with_reducible first|exact HB.out|apply bal|apply pbN|apply bd1|refine bst ?_ GE314.out|refine bst ?_ GE321.out|refine bst ?_ GE325.out)|exact HB.out)) hb);have NB314_326:=As0.mk ((by rw [hg];exact Nat.ne_of_lt (blk_lt (g:=gb314) (o:=.cells #[.int .i64 x315000_1,.string x315001_1,.string x315002_1,.int .i64 x315003_1,.string x315004_1] 25 (0,0)) (by (with_reducible repeat (first|refine bkN ?_ _|refine bkD ?_|refine bkA ?_ _));exact BK314.out)):gb314 ≠ gb326));have NB326_314:=As0.mk (Ne.symm NB314_326.out);replace BK314:=As0.mk (bb hb BK314.out);have NB321_326:=As0.mk ((by rw [hg];exact Nat.ne_of_lt (blk_lt (g:=gb321) (o:=.cells #[.string t315,.bool t316,.bool t317,.bool t318,.bool t319] 53 (0,0)) (by (with_reducible repeat (first|refine bkN ?_ _|refine bkD ?_|refine bkA ?_ _));exact BK321.out)):gb321 ≠ gb326));have NB326_321:=As0.mk (Ne.symm NB321_326.out);replace BK321:=As0.mk (bb hb BK321.out);have NB325_326:=As0.mk ((by rw [hg];exact Nat.ne_of_lt (blk_lt (g:=gb325) (o:=.cells #[.string ⟨#[]⟩] 9 (0,0)) (by (with_reducible repeat (first|refine bkN ?_ _|refine bkD ?_|refine bkA ?_ _));exact BK325.out)):gb325 ≠ gb326));have NB326_325:=As0.mk (Ne.symm NB325_326.out);replace BK325:=As0.mk (bb hb BK325.out);clear hb hbox hg;have hnb184:=NB325_314.out;have hnc184:=NB314_325.out;have hnb185:=NB325_321.out;have hnc185:=NB321_325.out;have hnb186:=NB325_326.out;have hnc186:=NB326_325.out;have hcz187_0:=qc1 BK325.out;have hfz187_0:=bkF BK325.out 0;have hnb188:=NB326_314.out;have hnc188:=NB314_326.out;have hnb189:=NB326_321.out;have hnc189:=NB321_326.out;have hcz190_0:=qc1 BK326.out;have hfz190_0:=bkF BK326.out 0;obtain ⟨hcz191_0,hcz191_1,hcz191_2,hcz191_3,hcz191_4⟩:=qc5 BK321.out;obtain ⟨hfz191_0,hfz191_1,hfz191_2,hfz191_3,hfz191_4⟩:=qz5 BK321.out))
       show _;go_roundg k1
       case measure=>have:=HK1.out;omega
       case rel=>exact ⟨(wrap64 (x4_1 + 1)),(x315000_1),(x315001_1),(x315002_1),(x315003_1),(x315004_1),(by first|rfl|(simp;done)|(simp [*];done)),H',⟨by have:=HK1.out;omega⟩,⟨by (with_reducible repeat (first|refine bkN ?_ _|refine bkD ?_|refine bkA ?_ _));refine blk_far ?_ NB314_326.out _;(with_reducible repeat (first|refine bkN ?_ _|refine bkD ?_|refine bkA ?_ _));refine blk_far ?_ NB314_325.out _;(with_reducible repeat (first|refine bkN ?_ _|refine bkD ?_|refine bkA ?_ _));exact BK314.out⟩,⟨by repeat (first|(with_reducible first|exact HB.out|apply bal|apply pbN|apply bd1|refine bst ?_ GE314.out|refine bst ?_ GE321.out|refine bst ?_ GE325.out|refine bst ?_ GE326.out)|exact HB.out)⟩⟩
   · rw [if_neg c3] at H
     have c3b0:decide (x4_1 ≤ 12) = false:=decide_eq_false c3;clear c3;simp only [Option.some.injEq,Prod.mk.injEq] at H;obtain ⟨rfl,rfl,rfl,rfl,rfl,rfl⟩:=H;obtain ⟨hcz192_0,hcz192_1,hcz192_2,hcz192_3,hcz192_4⟩:=qc5 BK314.out;obtain ⟨hfz192_0,hfz192_1,hfz192_2,hfz192_3,hfz192_4⟩:=qz5 BK314.out
     go_wp2
     refine bodyPost_ret (results_ct rfl _ _ gb314 25 #[.int .i64 0,.string ⟨#[]⟩,.string ⟨#[]⟩,.int .i64 0,.string ⟨#[]⟩] (0,0) _ rfl (by (with_reducible repeat (first|refine bkN ?_ _|refine bkD ?_|refine bkA ?_ _));refine blk_put (cs:=#[.int .i64 0,.string ⟨#[]⟩,.string ⟨#[]⟩,.int .i64 0,.string x315004_1]) ?_ 4 _ rfl;(with_reducible repeat (first|refine bkN ?_ _|refine bkD ?_|refine bkA ?_ _));refine blk_put (cs:=#[.int .i64 0,.string ⟨#[]⟩,.string ⟨#[]⟩,.int .i64 x315003_1,.string x315004_1]) ?_ 3 _ rfl;(with_reducible repeat (first|refine bkN ?_ _|refine bkD ?_|refine bkA ?_ _));refine blk_put (cs:=#[.int .i64 0,.string ⟨#[]⟩,.string x315002_1,.int .i64 x315003_1,.string x315004_1]) ?_ 2 _ rfl;(with_reducible repeat (first|refine bkN ?_ _|refine bkD ?_|refine bkA ?_ _));refine blk_put (cs:=#[.int .i64 0,.string x315001_1,.string x315002_1,.int .i64 x315003_1,.string x315004_1]) ?_ 1 _ rfl;(with_reducible repeat (first|refine bkN ?_ _|refine bkD ?_|refine bkA ?_ _));refine blk_put (cs:=#[.int .i64 x315000_1,.string x315001_1,.string x315002_1,.int .i64 x315003_1,.string x315004_1]) ?_ 0 _ rfl;(with_reducible repeat (first|refine bkN ?_ _|refine bkD ?_|refine bkA ?_ _));exact BK314.out) Tryd.underlying25 rfl (by kernel_rfl)) rfl ?_
     exact ⟨eW,by repeat (first|(with_reducible first|exact HB.out|apply bal|apply pbN|apply bd1|refine bst ?_ GE314.out)|exact HB.out)⟩
def impl_ReqRead.f (k:Nat) (a0:ByteArray):Option (Int × ByteArray × ByteArray × Int × ByteArray × Bool):=(impl_reqRead.f k a0).bind fun bt342=>(some (bt342.1,bt342.2.1,bt342.2.2.1,bt342.2.2.2.1,bt342.2.2.2.2.1,bt342.2.2.2.2.2))
set_option maxHeartbeats 40000000 in
set_option maxRecDepth 100000 in
theorem impl_ReqRead.calls (k:Nat) (a0:ByteArray) (r1:Int) (r2:ByteArray) (r3:ByteArray) (r4:Int) (r5:ByteArray) (r6:Bool) (w:World) (hT:TabT w) (h:impl_ReqRead.f k a0 = some (r1,r2,r3,r4,r5,r6)) :
 Calls Tryd.prog 6 #[.string a0] w fun e w'=>e = .returned (.tuple #[.agg #[.int .i64 r1,.string r2,.string r3,.int .i64 r4,.string r5],.bool r6]) ∧ Below w.heap.size w w':=by
 have hu25:=Tryd.underlying25;have HT:=As0.mk hT;clear hT;have HB:=As0.mk (Below.refl w.heap.size w);have H:((impl_reqRead.f k a0).bind fun bt342=>(some (bt342.1,bt342.2.1,bt342.2.2.1,bt342.2.2.2.1,bt342.2.2.2.2.1,bt342.2.2.2.2.2))) = some (r1,r2,r3,r4,r5,r6):=h;clear h;replace H:=Option.bind_eq_some_iff.mp H;obtain ⟨⟨t342,t343,t344,t345,t346,t347⟩,A20,H⟩:=H;(try dsimp only at H);have A2:=As0.mk A20;clear A20;simp only [Option.some.injEq,Prod.mk.injEq] at H;obtain ⟨rfl,rfl,rfl,rfl,rfl,rfl⟩:=H
 go_enter Tryd.func6,Tryd.ntmps6
 go_wp2_with (first|((with_reducible refine gate_dst (N:=2) rfl ?_);refine bE 2 #[.int .i64 0,.string ⟨#[]⟩,.string ⟨#[]⟩,.int .i64 0,.string ⟨#[]⟩] 25 ?_;intro gb341 hg w3 hbox hb;have BK341:=As0.mk (hbox);have GW341:=As0.mk ((by rw [hg];exact (bsz (by repeat (first|(with_reducible first|exact HB.out|apply bal|apply pbN|apply bd1)|exact HB.out))):w.heap.size ≤ gb341));have GE341:=GW341;replace HB:=As0.mk (b3 HB.out hb);clear hb hbox hg)|(refine gL (some 5) Tryd.func19 #[.string a0] ?_;(with_reducible refine (impl_reqRead.calls k a0 t342 t343 t344 t345 t346 t347 _ ?side1 A2.out).mono ?_);(case side1=>exact TabT.below HT.out (by repeat (first|(with_reducible first|exact HB.out|apply bal|apply pbN|apply bd1|refine bst ?_ GE341.out)|exact HB.out)));rintro e w4 ⟨rfl,hb⟩;refine ⟨_,rfl,?_⟩;replace BK341:=As0.mk (bb hb BK341.out);replace HB:=As0.mk (bsp (by repeat (first|(with_reducible first|exact HB.out|apply bal|apply pbN|apply bd1|refine bst ?_ GE341.out)|exact HB.out)) hb);clear hb;obtain ⟨hcz5_0,hcz5_1,hcz5_2,hcz5_3,hcz5_4⟩:=qc5 BK341.out;obtain ⟨hfz5_0,hfz5_1,hfz5_2,hfz5_3,hfz5_4⟩:=qz5 BK341.out))
 refine bodyPost_ret (results_ct rfl _ _ gb341 25 #[.int .i64 t342,.string t343,.string t344,.int .i64 t345,.string t346] (0,0) _ rfl (by (with_reducible repeat (first|refine bkN ?_ _|refine bkD ?_|refine bkA ?_ _));refine blk_put (cs:=#[.int .i64 t342,.string t343,.string t344,.int .i64 t345,.string ⟨#[]⟩]) ?_ 4 _ rfl;(with_reducible repeat (first|refine bkN ?_ _|refine bkD ?_|refine bkA ?_ _));refine blk_put (cs:=#[.int .i64 t342,.string t343,.string t344,.int .i64 0,.string ⟨#[]⟩]) ?_ 3 _ rfl;(with_reducible repeat (first|refine bkN ?_ _|refine bkD ?_|refine bkA ?_ _));refine blk_put (cs:=#[.int .i64 t342,.string t343,.string ⟨#[]⟩,.int .i64 0,.string ⟨#[]⟩]) ?_ 2 _ rfl;(with_reducible repeat (first|refine bkN ?_ _|refine bkD ?_|refine bkA ?_ _));refine blk_put (cs:=#[.int .i64 t342,.string ⟨#[]⟩,.string ⟨#[]⟩,.int .i64 0,.string ⟨#[]⟩]) ?_ 1 _ rfl;(with_reducible repeat (first|refine bkN ?_ _|refine bkD ?_|refine bkA ?_ _));refine blk_put (cs:=#[.int .i64 0,.string ⟨#[]⟩,.string ⟨#[]⟩,.int .i64 0,.string ⟨#[]⟩]) ?_ 0 _ rfl;(with_reducible repeat (first|refine bkN ?_ _|refine bkD ?_|refine bkA ?_ _));exact BK341.out) Tryd.underlying25 rfl (by kernel_rfl)) rfl ?_
 exact ⟨eW,by repeat (first|(with_reducible first|exact HB.out|apply bal|apply pbN|apply bd1|refine bst ?_ GE341.out)|exact HB.out)⟩
def spec_l3Cut.l0:Nat → ByteArray → Int → List ByteArray → Int → Int → Option (List ByteArray)
 |0,_,_,_,_,_=>none
 |k + 1,x0,x1,x5,x6,x7=>if x7 < (x0.size:Int) then (if 0 ≤ x7 then (if (bt x0 x7) = x1 then (if 0 ≤ x6 then (if x6 ≤ x7 then (if x7 ≤ (x0.size:Int) then (if x5.length < 8796093022208 then (spec_l3Cut.l0 k x0 x1 (x5 ++ [x0.extract (x6:Int).toNat (x7:Int).toNat]) (wrap64 (x7 + 1)) (wrap64 (x7 + 1))) else (none)) else (none)) else (none)) else (none)) else (spec_l3Cut.l0 k x0 x1 x5 x6 (wrap64 (x7 + 1)))) else (none)) else (if 0 ≤ x6 then (if x6 ≤ (x0.size:Int) then (if x5.length < 8796093022208 then (some (x5 ++ [x0.extract (x6:Int).toNat x0.size])) else (none)) else (none)) else (none))
def spec_l3Cut.f (k:Nat) (a0:ByteArray) (a1:Int):Option (List ByteArray):=spec_l3Cut.l0 k a0 a1 (([]:List ByteArray)) 0 0
set_option maxHeartbeats 40000000 in
set_option maxRecDepth 100000 in
theorem spec_l3Cut.calls (k:Nat) (a0:ByteArray) (a1:Int) (r:List ByteArray) (w:World) (h:spec_l3Cut.f k a0 a1 = some r) :
 Calls Tryd.prog 20 #[.string a0,.int .u8 a1] w fun e w'=>∃ v0_:Value,e = .returned (v0_) ∧ Kd.R Kd.string 9 w' w.heap.size (fun _=>True) v0_ r ∧ Below w.heap.size w w':=by
 have HB:=As0.mk (Below.refl w.heap.size w);have H:(spec_l3Cut.l0 k a0 a1 (([]:List ByteArray)) 0 0) = some r:=h;clear h;obtain ⟨y348,hy348⟩:∃ y_:List ByteArray,y_ = (([]:List ByteArray)):=⟨_,rfl⟩;replace H:(spec_l3Cut.l0 k a0 a1 y348 0 0) = some r:=by first|(rw [hy348];with_reducible exact H)|(have H2_:=(Option.bind_some _ _).symm.trans H;rw [hy348];with_reducible exact H2_)|(have H2_:=(Option.bind_some _ _).symm.trans H;with_reducible exact H2_)|with_reducible exact H|(rw [hy348];exact H)|exact H
 have Ny348:=As0.mk hy348;clear hy348;have H':=As0.mk H;clear H
 go_enter Tryd.func20,Tryd.ntmps20
 go_wp2_with (first|((with_reducible refine gate_dst (N:=8) rfl ?_);refine Kd.R_lit Kd.string _ 9 ?hg (N:=8) ?hd (xs:=([]:List ByteArray)) (inner:=[]) (ok:=fun _=>True) (okp:=fun _=>True) ?hr ?hp (fun _ hk=>hk) trivial (Below.refl _ _) (Nat.le_refl _) (by simp) ?_;(case hd=>rfl);(case hg=>rfl);(case hr=>first|(go_simp;done)|(go_simp;rfl));(case hp=>exact (Reps.none _ _));intro v349 w3 ho4 hb hg_ hnew_;clear hg_ hnew_;(first|rw [← Ny348.out] at ho4|(simp only [Int.reduceToNat] at ho4;rw [← Ny348.out] at ho4));have HO350:=As0.mk (Kd.R_lower ho4 (bsz (by repeat (first|(with_reducible first|exact HB.out|apply bal|apply pbN|apply bd1)|exact HB.out))));replace HB:=As0.mk (b3 HB.out hb);clear hb ho4))
 show _;go_loopg [5,6,7] k (fun kq v5 v6 v7 w'=>∃ (x5_1:List ByteArray) (x6_1:Int) (x7_1:Int),v6 = .int .i64 x6_1 ∧ v7 = .int .i64 x7_1 ∧ As0 (spec_l3Cut.l0 kq a0 a1 x5_1 x6_1 x7_1 = some r) ∧ As0 (kq ≤ k) ∧ As0 (Kd.R Kd.string 9 w' w.heap.size (fun _=>True) v5 x5_1) ∧ As0 (Below w.heap.size w w'))
 case atStart=>exact ⟨(y348),(0),(0),(by first|rfl|(simp;done)|(simp [*];done)),(by first|rfl|(simp;done)|(simp [*];done)),H',⟨Nat.le_refl _⟩,⟨by (with_reducible repeat (first|apply Kd.Ral|apply Kd.RdN|apply Kd.R_drew));exact HO350.out⟩,⟨by repeat (first|(with_reducible first|exact HB.out|apply bal|apply pbN|apply bd1)|exact HB.out)⟩⟩
 case round=>
  clear H'
  try clear c2
  try clear p2
  obtain ⟨x5_1,x6_1,x7_1,rfl,rfl,HA,HK1,HO_5,HB⟩:=hrel
  cases gk with
  |zero=>exact absurd HA.out (by simp [spec_l3Cut.l0])
  |succ k1=>
   have H:=HA.out;clear HA;simp only [spec_l3Cut.l0] at H;by_cases c5:x7_1 < (a0.size:Int)
   · rw [if_pos c5] at H
     have c5b0:decide (x7_1 < (a0.size:Int)) = true:=decide_eq_true c5;clear c5;by_cases c6:0 ≤ x7_1
     · rw [if_pos c6] at H
       have c6b0:decide (0 ≤ x7_1) = true:=decide_eq_true c6;clear c6;by_cases c8:(bt a0 x7_1) = a1
       · rw [if_pos c8] at H
         have c8b0:((bt a0 x7_1) == a1) = true:=beq_iff_eq.mpr c8;have c8b1:((bt a0 x7_1) != a1) = false:=bne_eq_false_iff_eq.mpr c8;clear c8;by_cases c9:0 ≤ x6_1
         · rw [if_pos c9] at H
           have c9b0:=eq_true c9;have c9b1:decide (0 ≤ x6_1) = true:=decide_eq_true c9;clear c9;by_cases c10:x6_1 ≤ x7_1
           · rw [if_pos c10] at H
             have c10b0:=eq_true c10;have c10b1:decide (x6_1 ≤ x7_1) = true:=decide_eq_true c10;clear c10;by_cases c11:x7_1 ≤ (a0.size:Int)
             · rw [if_pos c11] at H
               have c11b0:=eq_true c11;have c11b1:decide (x7_1 ≤ (a0.size:Int)) = true:=decide_eq_true c11;clear c11;by_cases c12:x5_1.length < 8796093022208
               · rw [if_pos c12] at H
                 have LMc12:=As0.mk c12;clear c12;obtain ⟨y351,hy351⟩:∃ y_:List ByteArray,y_ = (x5_1 ++ [a0.extract (x6_1:Int).toNat (x7_1:Int).toNat]):=⟨_,rfl⟩;replace H:(spec_l3Cut.l0 k1 a0 a1 y351 (wrap64 (x7_1 + 1)) (wrap64 (x7_1 + 1))) = some r:=by first|(rw [hy351];with_reducible exact H)|(have H2_:=(Option.bind_some _ _).symm.trans H;rw [hy351];with_reducible exact H2_)|(have H2_:=(Option.bind_some _ _).symm.trans H;with_reducible exact H2_)|with_reducible exact H|(rw [hy351];exact H)|exact H
                 have Ny351:=As0.mk hy351;clear hy351;have H':=As0.mk H;clear H;have p7:0 ≤ (x7_1:Int):=odt;have q7:x7_1 < (a0.size:Int):=odt;have hx7:=bt_at a0 x7_1;replace p7:=eq_true p7;replace q7:=eq_true q7
                 go_wp2_with (first|((with_reducible refine gbi (b:=.append) (xs:=#[.tmp 20,.tmp 25]) rfl ?_);at_builtin;refine Kd.R_append Kd.string (w0:=w) w.heap.size rfl (.tmp 20) (.tmp 25) 38 9 (.string ⟨#[]⟩) 16 rfl Tryd.underlying38 info9 rfl (by decide) (by omega) u5 x5_1 (a0.extract (x6_1:Int).toNat (x7_1:Int).toNat) [.string (a0.extract (x6_1:Int).toNat (x7_1:Int).toNat)] (fun _=>True) (fun _=>False) rfl rfl ?aP (fun _ hk=>hk.elim) ?aF ?aO ?aB ?aS ?aL ?_;(case aP=>exact rfl);(case aB=>exact (by repeat (first|(with_reducible first|exact HB.out|apply bal|apply pbN|apply bd1)|exact HB.out)));(case aF=>exact (fun _ _=>trivial));(case aO=>exact (by (with_reducible repeat (first|apply Kd.Ral|apply Kd.RdN|apply Kd.R_drew));exact HO_5.out));(case aS=>exact (bsz (by repeat (first|(with_reducible first|exact HB.out|apply bal|apply pbN|apply bd1)|exact HB.out))));(case aL=>have:=LMc12.out;omega);intro v352 w13 ho hb hg hat;rw [← Ny351.out] at ho;replace HB:=As0.mk (hb);have HO353:=As0.mk (ho);clear HO_5 ho hb hg hat))
                 show _;go_roundg k1
                 case measure=>have:=HK1.out;omega
                 case rel=>exact ⟨(y351),(wrap64 (x7_1 + 1)),(wrap64 (x7_1 + 1)),(by first|rfl|(simp;done)|(simp [*];done)),(by first|rfl|(simp;done)|(simp [*];done)),H',⟨by have:=HK1.out;omega⟩,⟨by (with_reducible repeat (first|apply Kd.Ral|apply Kd.RdN|apply Kd.R_drew));exact HO353.out⟩,⟨by repeat (first|(with_reducible first|exact HB.out|apply bal|apply pbN|apply bd1)|exact HB.out)⟩⟩
               · rw [if_neg c12] at H
                 exact absurd H (by simp)
             · rw [if_neg c11] at H
               exact absurd H (by simp)
           · rw [if_neg c10] at H
             exact absurd H (by simp)
         · rw [if_neg c9] at H
           exact absurd H (by simp)
       · rw [if_neg c8] at H
         have c8b0:((bt a0 x7_1) == a1) = false:=beq_eq_false_iff_ne.mpr c8;have c8b1:((bt a0 x7_1) != a1) = true:=bne_iff_ne.mpr c8;have H':=As0.mk H;clear H;have p7:0 ≤ (x7_1:Int):=odt;have q7:x7_1 < (a0.size:Int):=odt;have hx7:=bt_at a0 x7_1;replace p7:=eq_true p7;replace q7:=eq_true q7
         go_wp2
         show _;go_roundg k1
         case measure=>have:=HK1.out;omega
         case rel=>exact ⟨(x5_1),(x6_1),(wrap64 (x7_1 + 1)),(by first|rfl|(simp;done)|(simp [*];done)),(by first|rfl|(simp;done)|(simp [*];done)),H',⟨by have:=HK1.out;omega⟩,⟨by (with_reducible repeat (first|apply Kd.Ral|apply Kd.RdN|apply Kd.R_drew));exact HO_5.out⟩,⟨by repeat (first|(with_reducible first|exact HB.out|apply bal|apply pbN|apply bd1)|exact HB.out)⟩⟩
     · rw [if_neg c6] at H
       exact absurd H (by simp)
   · rw [if_neg c5] at H
     have c5b0:decide (x7_1 < (a0.size:Int)) = false:=decide_eq_false c5;clear c5;by_cases c14:0 ≤ x6_1
     · rw [if_pos c14] at H
       have c14b0:=eq_true c14;have c14b1:decide (0 ≤ x6_1) = true:=decide_eq_true c14;clear c14;by_cases c15:x6_1 ≤ (a0.size:Int)
       · rw [if_pos c15] at H
         have c15b0:=eq_true c15;have c15b1:decide (x6_1 ≤ (a0.size:Int)) = true:=decide_eq_true c15;clear c15;by_cases c16:x5_1.length < 8796093022208
         · rw [if_pos c16] at H
           have LMc16:=As0.mk c16;clear c16;obtain ⟨y354,hy354⟩:∃ y_:List ByteArray,y_ = (x5_1 ++ [a0.extract (x6_1:Int).toNat a0.size]):=⟨_,rfl⟩;replace H:(some y354) = some r:=by first|(rw [hy354];with_reducible exact H)|(have H2_:=(Option.bind_some _ _).symm.trans H;rw [hy354];with_reducible exact H2_)|(have H2_:=(Option.bind_some _ _).symm.trans H;with_reducible exact H2_)|with_reducible exact H|(rw [hy354];exact H)|exact H
           have Ny354:=As0.mk hy354;clear hy354;obtain rfl:=Option.some.inj H
           go_wp2_with (first|((with_reducible refine gbi (b:=.append) (xs:=#[.tmp 29,.tmp 33]) rfl ?_);at_builtin;refine Kd.R_append Kd.string (w0:=w) w.heap.size rfl (.tmp 29) (.tmp 33) 38 9 (.string ⟨#[]⟩) 16 rfl Tryd.underlying38 info9 rfl (by decide) (by omega) u5 x5_1 (a0.extract (x6_1:Int).toNat a0.size) [.string (a0.extract (x6_1:Int).toNat a0.size)] (fun _=>True) (fun _=>False) rfl rfl ?aP (fun _ hk=>hk.elim) ?aF ?aO ?aB ?aS ?aL ?_;(case aP=>exact rfl);(case aB=>exact (by repeat (first|(with_reducible first|exact HB.out|apply bal|apply pbN|apply bd1)|exact HB.out)));(case aF=>exact (fun _ _=>trivial));(case aO=>exact (by (with_reducible repeat (first|apply Kd.Ral|apply Kd.RdN|apply Kd.R_drew));exact HO_5.out));(case aS=>exact (bsz (by repeat (first|(with_reducible first|exact HB.out|apply bal|apply pbN|apply bd1)|exact HB.out))));(case aL=>have:=LMc16.out;omega);intro v355 w17 ho hb hg hat;rw [← Ny354.out] at ho;replace HB:=As0.mk (hb);have HO356:=As0.mk (ho);clear HO_5 ho hb hg hat))
           go_ret
           exact ⟨_,by first|rfl|(simp [errW_none,errW_some] <;> rfl)|(simp [*,errW_none,errW_some] <;> rfl),by (with_reducible repeat (first|apply Kd.Ral|apply Kd.RdN|apply Kd.R_drew));exact HO356.out,by repeat (first|(with_reducible first|exact HB.out|apply bal|apply pbN|apply bd1)|exact HB.out)⟩
         · rw [if_neg c16] at H
           exact absurd H (by simp)
       · rw [if_neg c15] at H
         exact absurd H (by simp)
     · rw [if_neg c14] at H
       exact absurd H (by simp)
end Go.Proofs.YtbhnjglfjhfljaaDoor.P
