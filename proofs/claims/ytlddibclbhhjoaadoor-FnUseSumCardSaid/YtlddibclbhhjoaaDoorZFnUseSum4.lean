/- Functions of the law FnUseSum as_ plain Lean functions, and that the machine's calls do what they say. -/
import Derived.Test.YtlddibclbhhjoaaDoorZFnUseSum0
import Derived.Test.YtlddibclbhhjoaaDoorZFnUseSum1
import Derived.Test.YtlddibclbhhjoaaDoorZFnUseSum3
import Derived.Shelf.Strings.Trim
import Derived.Shelf.Small.Utf8
import Derived.Shelf.Small.Strs
import Derived.Shelf.Strings.Search1
import Derived.Shelf.Strings.Runes
import Derived.Shelf.Strings.AsciiSet
import Derived.Shelf.Unicode.DecodeSlow
import Derived.Shelf.Unicode.DecodeAny
import Derived.Shelf.Unicode.DecodeLast
import Derived.Shelf.Slices.Turned
import Derived.Test.YtlddibclbhhjoaaDoorProg
import Derived.Shelf.Strings.SlTrimAscii
import Derived.Lib.Hide
namespace Go.Proofs.YtlddibclbhhjoaaDoor.P
open Go.RowKit Go.Proofs.YtlddibclbhhjoaaDoorW.PrintWords Go.Proofs.YtlddibclbhhjoaaDoorW.PrintLast Go.Proofs.YtlddibclbhhjoaaDoorW.PrintMore
attribute [local go_sem] max2_int min2_int max_two min_two max_three min_three max_four min_four
set_option linter.unusedVariables false
set_option linter.unusedSimpArgs false
def spec_DrawUseSum.l0:Nat → List (SiT24) → Int → List Int → Int → Option ((List (SiS23)) × (List (SiT24)) × ByteArray)
 |0,_,_,_,_=>none
 |k + 1,x6,x7,x389000,x389001=>if x7 > 0 then ((spec_l13Thing.f k x389000 x389001).bind fun bt403=>((spec_l1Rd_of.f k x389000 bt403.2.2.2.2.2.2.2 (([(⟨#[97,108,108]⟩:ByteArray),(⟨#[97]⟩:ByteArray),(⟨#[98]⟩:ByteArray),(⟨#[99]⟩:ByteArray),(⟨#[100]⟩:ByteArray)]:List ByteArray))).bind fun bt417=>((spec_l1Rd_pick.f k x389000 bt417.2 30).bind fun bt419=>(if bt419.1 = 0 then ((spec_l13AnyThing.f k x389000 bt419.2).bind fun bt421=>(if x6.length < 1466015503701 then (spec_DrawUseSum.l0 k (x6 ++ [(⟨bt421.1,bt421.2.1,bt421.2.2.1,bt421.2.2.2.1,bt421.2.2.2.2.1,bt421.2.2.2.2.2.1,bt421.2.2.2.2.2.2.1⟩:SiT24)]) (wrap64 (x7 - 1)) x389000 bt421.2.2.2.2.2.2.2) else (none))) else (if x6.length < 1466015503701 then (spec_DrawUseSum.l0 k (x6 ++ [(⟨bt417.1,bt403.2.1,bt403.2.2.1,bt403.2.2.2.1,bt403.2.2.2.2.1,bt403.2.2.2.2.2.1,bt403.2.2.2.2.2.2.1⟩:SiT24)]) (wrap64 (x7 - 1)) x389000 bt419.2) else (none)))))) else ((spec_l13AnySpaces.f k x389000 x389001).bind fun bt394=>((spec_l1Rd_of.f k x389000 bt394.2 (([(⟨#[97,108,108]⟩:ByteArray),(⟨#[97]⟩:ByteArray),(⟨#[98]⟩:ByteArray),(⟨#[99]⟩:ByteArray),(⟨#[120]⟩:ByteArray)]:List ByteArray))).bind fun bt401=>(some (bt394.1,x6,bt401.1))))
def spec_DrawUseSum.f (k:Nat) (l0:List Int):Option ((List (SiS23)) × (List (SiT24)) × ByteArray):=(spec_l1Open.f l0).bind fun bt386=>((spec_l1Rd_pick.f k bt386.1 bt386.2 6).bind fun bt392=>(spec_DrawUseSum.l0 k (([]:List (SiT24))) bt392.1 bt386.1 bt392.2))
set_option maxHeartbeats 40000000 in
set_option maxRecDepth 100000 in
theorem spec_DrawUseSum.calls (k:Nat) (A0:Option Addr) (c0:Nat) (l0:List Int) (r1:List (SiS23)) (r2:List (SiT24)) (r3:ByteArray) (w:World) (hr0:Kd.C (Kd.int .u8) w A0 l0.length l0) (hc0:l0.length ≤ c0) (h:spec_DrawUseSum.f k l0 = some (r1,r2,r3)) :
 Calls Tryd.prog 4 #[.slice A0 l0.length c0] w fun e w'=>∃ v0_ v1_:Value,e = .returned (.tuple #[v0_,v1_,.string r3]) ∧ Kd.R k30 30 w' w.heap.size (fun k_=>(w.heap.size ≤ k_)) v0_ r1 ∧ Kd.N k34 34 w' w.heap.size (fun k_=>(w.heap.size ≤ k_) ∧ some k_ ≠ (v0_:Value).ownBlock) v1_ r2 ∧ Below w.heap.size w w':=by
 have hu34:=Tryd.underlying34;have HR0:=As0.mk hr0;have HC0:=As0.mk hc0;clear hr0 hc0;have HB:=As0.mk (Below.refl w.heap.size w);have H:((spec_l1Open.f l0).bind fun bt386=>((spec_l1Rd_pick.f k bt386.1 bt386.2 6).bind fun bt392=>(spec_DrawUseSum.l0 k (([]:List (SiT24))) bt392.1 bt386.1 bt392.2))) = some (r1,r2,r3):=h;clear h;replace H:=Option.bind_eq_some_iff.mp H;obtain ⟨⟨t386,t387⟩,A20,H⟩:=H;(try dsimp only at H);have A2:=As0.mk A20;clear A20;obtain ⟨y389,hy389⟩:∃ y_:List (SiT24),y_ = (([]:List (SiT24))):=⟨_,rfl⟩;replace H:((spec_l1Rd_pick.f k t386 t387 6).bind fun bt392=>(spec_DrawUseSum.l0 k y389 bt392.1 t386 bt392.2)) = some (r1,r2,r3):=by rw [hy389];exact H
 have Ny389:=As0.mk hy389;clear hy389;replace H:=Option.bind_eq_some_iff.mp H;obtain ⟨⟨t392,t393⟩,A30,H⟩:=H;(try dsimp only at H);have A3:=As0.mk A30;clear A30;have H':=As0.mk H;clear H
 go_enter Tryd.func4,Tryd.ntmps4
 go_wp2_with (first|((with_reducible refine gca (f:=11) rfl ?_);refine gL (some 10) Tryd.func11 #[.slice A0 l0.length c0] ?_;(with_reducible refine (spec_l1Open.calls _ _ l0 t386 t387 w _ ?side1 ?side2 ?side3 A2.out).mono ?_);(case side1=>repeat (first|(with_reducible first|exact HB.out|apply bal|apply pbN|apply bd1)|exact HB.out));(case side2=>exact HR0.out);(case side3=>exact HC0.out);rintro e w4 ⟨g388,rfl,hi,hb,hb2⟩;refine ⟨_,rfl,?_⟩;replace HB:=As0.mk (hb);have HI388:=As0.mk (hi);clear hb hb2 hi)|((with_reducible refine gate_dst (N:=11) rfl ?_);refine Kd.N_lit k34 _ 34 ?hg (N':=11) ?hd (xs:=([]:List (SiT24))) (inner:=[]) (ok:=(fun k_=>(w.heap.size ≤ k_) ∧ k_ ≠ g388)) (okp:=(fun k_=>(w.heap.size ≤ k_) ∧ k_ ≠ g388)) ?hr ?hp (fun _ hk=>hk) ((show ∀ k_,w4.heap.size ≤ k_ → (fun k_=>(w.heap.size ≤ k_) ∧ k_ ≠ g388) k_ from fun k_ hk=>⟨(Nat.le_trans (bsz (by repeat (first|(with_reducible first|exact HB.out|apply bal|apply pbN|apply bd1|refine bst ?_ (IsS50.ge HI388.out))|exact HB.out))) hk),IsS50.fresh (by repeat (first|(with_reducible first|exact HI388.out|apply IsS50.alloc|apply IsS50.drewN|apply IsS50.drew|apply IsS50.set_1)|exact HI388.out)) k_ hk⟩) _ (Nat.le_refl _)) (Below.refl _ _) (Nat.le_refl _) (by simp) ?_;(case hd=>rfl);(case hg=>rfl);(case hr=>first|(go_simp;done)|(go_simp;rfl));(case hp=>exact (Reps.none _ _));intro v390 w5 ho6 hb hg_ hnew_;clear hg_ hnew_;(first|rw [← Ny389.out] at ho6|(simp only [Int.reduceToNat] at ho6;rw [← Ny389.out] at ho6));have HO391:=As0.mk (Kd.N_lower ho6 (bsz (by repeat (first|(with_reducible first|exact HB.out|apply bal|apply pbN|apply bd1|refine bst ?_ (IsS50.ge HI388.out))|exact HB.out))));replace HB:=As0.mk (bsp (by repeat (first|(with_reducible first|exact HB.out|apply bal|apply pbN|apply bd1|refine bst ?_ (IsS50.ge HI388.out))|exact HB.out)) hb);replace HI388:=As0.mk (IsS50.below (by repeat (first|(with_reducible first|exact HI388.out|apply IsS50.alloc|apply IsS50.drewN|apply IsS50.drew|apply IsS50.set_1)|exact HI388.out)) hb);clear hb ho6)|((with_reducible refine gca (f:=12) rfl ?_);refine gL (some 13) Tryd.func12 #[.pointer (some ⟨g388,0,none⟩),.int .i64 6] ?_;(with_reducible refine (spec_l1Rd_pick.calls k g388 t386 t387 6 t392 t393 w _ ?side1 ?side2 A3.out).mono ?_);(case side1=>repeat (first|(with_reducible first|exact HI388.out|apply IsS50.alloc|apply IsS50.drewN|apply IsS50.drew|apply IsS50.set_1)|exact HI388.out));(case side2=>repeat (first|(with_reducible first|exact HB.out|apply bal|apply pbN|apply bd1|refine bst ?_ (IsS50.ge HI388.out))|exact HB.out));rintro e w7 ⟨rfl,hi,hb,hk⟩;refine ⟨_,rfl,?_⟩;replace HO391:=As0.mk (Kd.N_mono (Kd.N_keep (Kd.N_mono (ok:=fun k_=>(((w.heap.size ≤ k_)) ∧ k_ ≠ g388)) (by (with_reducible repeat (first|apply Kd.N_alloc|apply Kd.N_drewN|apply Kd.N_drew));exact HO391.out) (fun k_ hk_=>(⟨hk_,hk_.2⟩:_ ∧ k_ ≠ g388))) hk (fun _ h=>h.2)) (fun _ h=>h.1));replace HB:=As0.mk (hb);replace HI388:=As0.mk (hi);clear hb hk hi))
 show _;go_loopg [6,7] k (fun kq v6 v7 w'=>∃ (x6_1:List (SiT24)) (x7_1:Int) (x389001_1:Int),v7 = .int .i64 x7_1 ∧ As0 (spec_DrawUseSum.l0 kq x6_1 x7_1 t386 x389001_1 = some (r1,r2,r3)) ∧ As0 (kq ≤ k) ∧ As0 (Kd.N k34 34 w' w.heap.size (fun k_=>(w.heap.size ≤ k_) ∧ k_ ≠ g388) v6 x6_1) ∧ As0 (IsS50 w w' g388 t386 x389001_1) ∧ As0 (Below w.heap.size w w'))
 case atStart=>exact ⟨(y389),(t392),(t393),(by first|rfl|(simp;done)|(simp [*];done)),H',⟨Nat.le_refl _⟩,⟨by (with_reducible repeat (first|apply Kd.N_alloc|apply Kd.N_drewN|apply Kd.N_drew));exact HO391.out⟩,⟨by repeat (first|(with_reducible first|exact HI388.out|apply IsS50.alloc|apply IsS50.drewN|apply IsS50.drew|apply IsS50.set_1)|exact HI388.out)⟩,⟨by repeat (first|(with_reducible first|exact HB.out|apply bal|apply pbN|apply bd1|refine bst ?_ (IsS50.ge HI388.out))|exact HB.out)⟩⟩
 case round=>
  clear H'
  try clear c1
  try clear p2
  try clear c4
  obtain ⟨x6_1,x7_1,x389001_1,rfl,HA,HK1,HO_6,HI388,HB⟩:=hrel
  cases gk with
  |zero=>exact absurd HA.out (by simp [spec_DrawUseSum.l0])
  |succ k1=>
   have H:=HA.out;clear HA;simp only [spec_DrawUseSum.l0] at H;by_cases c8:x7_1 > 0
   · rw [if_pos c8] at H
     have c8b0:decide (0 < x7_1) = true:=decide_eq_true c8;clear c8;replace H:=Option.bind_eq_some_iff.mp H;obtain ⟨⟨t403,t404,t405,t406,t407,t408,t411,t412⟩,A90,H⟩:=H;(try dsimp only at H);have A9:=As0.mk A90;clear A90;obtain ⟨y414,hy414⟩:∃ y_:List ByteArray,y_ = (([(⟨#[97,108,108]⟩:ByteArray),(⟨#[97]⟩:ByteArray),(⟨#[98]⟩:ByteArray),(⟨#[99]⟩:ByteArray),(⟨#[100]⟩:ByteArray)]:List ByteArray)):=⟨_,rfl⟩;replace H:((spec_l1Rd_of.f k1 t386 t412 y414).bind fun bt417=>((spec_l1Rd_pick.f k1 t386 bt417.2 30).bind fun bt419=>(if bt419.1 = 0 then ((spec_l13AnyThing.f k1 t386 bt419.2).bind fun bt421=>(if x6_1.length < 1466015503701 then (spec_DrawUseSum.l0 k1 (x6_1 ++ [(⟨bt421.1,bt421.2.1,bt421.2.2.1,bt421.2.2.2.1,bt421.2.2.2.2.1,bt421.2.2.2.2.2.1,bt421.2.2.2.2.2.2.1⟩:SiT24)]) (wrap64 (x7_1 - 1)) t386 bt421.2.2.2.2.2.2.2) else (none))) else (if x6_1.length < 1466015503701 then (spec_DrawUseSum.l0 k1 (x6_1 ++ [(⟨bt417.1,t404,t405,t406,t407,t408,t411⟩:SiT24)]) (wrap64 (x7_1 - 1)) t386 bt419.2) else (none))))) = some (r1,r2,r3):=by first|(rw [hy414];with_reducible exact H)|(have H2_:=(Option.bind_some _ _).symm.trans H;rw [hy414];with_reducible exact H2_)|(have H2_:=(Option.bind_some _ _).symm.trans H;with_reducible exact H2_)|with_reducible exact H|(rw [hy414];exact H)|exact H
     have Ny414:=As0.mk hy414;clear hy414;replace H:=Option.bind_eq_some_iff.mp H;obtain ⟨⟨t417,t418⟩,A100,H⟩:=H;(try dsimp only at H);have A10:=As0.mk A100;clear A100;replace H:=Option.bind_eq_some_iff.mp H;obtain ⟨⟨t419,t420⟩,A110,H⟩:=H;(try dsimp only at H);have A11:=As0.mk A110;clear A110;by_cases c12:t419 = 0
     · rw [if_pos c12] at H
       have c12b0:(t419 == 0) = true:=beq_iff_eq.mpr c12;have c12b1:(t419 != 0) = false:=bne_eq_false_iff_eq.mpr c12;clear c12;replace H:=Option.bind_eq_some_iff.mp H;obtain ⟨⟨t421,t422,t423,t424,t425,t426,t429,t430⟩,A130,H⟩:=H;(try dsimp only at H);have A13:=As0.mk A130;clear A130;by_cases c14:x6_1.length < 1466015503701
       · rw [if_pos c14] at H
         have LMc14:=As0.mk c14;clear c14;obtain ⟨y431,hy431⟩:∃ y_:List (SiT24),y_ = (x6_1 ++ [(⟨t421,t422,t423,t424,t425,t426,t429⟩:SiT24)]):=⟨_,rfl⟩;replace H:(spec_DrawUseSum.l0 k1 y431 (wrap64 (x7_1 - 1)) t386 t430) = some (r1,r2,r3):=by rw [hy431];exact H
         have Ny431:=As0.mk hy431;clear hy431;have H':=As0.mk H;clear H
         go_wp2_with (first|((with_reducible refine gca (f:=13) rfl ?_);refine gL (some 19) Tryd.func13 #[.pointer (some ⟨g388,0,none⟩)] ?_;(with_reducible refine (spec_l13Thing.calls k1 g388 t386 x389001_1 t403 t404 t405 t406 t407 t408 t411 t412 w _ ?side1 ?side2 A9.out).mono ?_);(case side1=>repeat (first|(with_reducible first|exact HI388.out|apply IsS50.alloc|apply IsS50.drewN|apply IsS50.drew|apply IsS50.set_1)|exact HI388.out));(case side2=>repeat (first|(with_reducible first|exact HB.out|apply bal|apply pbN|apply bd1|refine bst ?_ (IsS50.ge HI388.out))|exact HB.out));rintro e w15 ⟨v409,rfl,ho0,hi,hb,hk⟩;refine ⟨_,rfl,?_⟩;have HO410:=As0.mk (Kd.V_lower (Kd.V_mono (ok':=fun k_=>(w.heap.size ≤ k_) ∧ some k_ ≠ (u6:Value).ownBlock ∧ k_ ≠ g388) ho0 (fun k_ hk_=>⟨(Nat.le_trans (bsz (by repeat (first|(with_reducible first|exact HB.out|apply bal|apply pbN|apply bd1|refine bst ?_ (IsS50.ge HI388.out))|exact HB.out))) hk_),(Kd.fresh' (Kd.N_lt (by (with_reducible repeat (first|apply Kd.N_alloc|apply Kd.N_drewN|apply Kd.N_drew));exact HO_6.out)) k_ hk_),(IsS50.fresh (by repeat (first|(with_reducible first|exact HI388.out|apply IsS50.alloc|apply IsS50.drewN|apply IsS50.drew|apply IsS50.set_1)|exact HI388.out)) k_ hk_)⟩)) (bsz (by repeat (first|(with_reducible first|exact HB.out|apply bal|apply pbN|apply bd1|refine bst ?_ (IsS50.ge HI388.out))|exact HB.out))));replace HO_6:=As0.mk (Kd.N_mono (Kd.N_keep (Kd.N_mono (ok:=fun k_=>(((w.heap.size ≤ k_)) ∧ k_ ≠ g388)) (by (with_reducible repeat (first|apply Kd.N_alloc|apply Kd.N_drewN|apply Kd.N_drew));exact HO_6.out) (fun k_ hk_=>(⟨hk_,hk_.2⟩:_ ∧ k_ ≠ g388))) hk (fun _ h=>h.2)) (fun _ h=>h.1));replace HB:=As0.mk (hb);replace HI388:=As0.mk (hi);clear hb hk hi ho0)|((with_reducible refine gate_dst (N:=8) rfl ?_);refine bE 8 #[.string ⟨#[]⟩,.string ⟨#[]⟩,.int .i64 0,.int .i64 0,.bool false,.slice none 0 0,.string ⟨#[]⟩] 34 ?_;intro gb413 hg w16 hbox hb;replace HO_6:=As0.mk (Kd.N_below (Kd.N_elderB (by (with_reducible repeat (first|apply Kd.N_alloc|apply Kd.N_drewN|apply Kd.N_drew));exact HO_6.out) gb413 (Nat.le_of_eq hg.symm)) hb);replace HO410:=As0.mk (Kd.V_below (Kd.V_elderB (by (with_reducible repeat (first|apply Kd.V_alloc|apply Kd.V_drewN|apply Kd.V_drew));first|exact HO410.out|exact Kd.V_mono HO410.out (fun _ h_=>by simp_all)) gb413 (Nat.le_of_eq hg.symm)) hb);have BK413:=As0.mk (hbox);have GW413:=As0.mk ((by rw [hg];exact (bsz (by repeat (first|(with_reducible first|exact HB.out|apply bal|apply pbN|apply bd1|refine bst ?_ (IsS50.ge HI388.out))|exact HB.out))):w.heap.size ≤ gb413));have GE413:=GW413;replace HB:=As0.mk (bsp (by repeat (first|(with_reducible first|exact HB.out|apply bal|apply pbN|apply bd1|refine bst ?_ (IsS50.ge HI388.out))|exact HB.out)) hb);have NB388_413:=As0.mk ((by rw [hg];exact Nat.ne_of_lt (IsS50.lt (show IsS50 w _ g388 t386 t412 from by repeat (first|(with_reducible first|exact HI388.out|apply IsS50.alloc|apply IsS50.drewN|apply IsS50.drew|apply IsS50.set_1)|exact HI388.out))):g388 ≠ gb413));have NB413_388:=As0.mk (Ne.symm NB388_413.out);replace HI388:=As0.mk (IsS50.below (by repeat (first|(with_reducible first|exact HI388.out|apply IsS50.alloc|apply IsS50.drewN|apply IsS50.drew|apply IsS50.set_1)|exact HI388.out)) hb);clear hb hbox hg;have hnb17:=NB413_388.out;have hnc17:=NB388_413.out;obtain ⟨hcz18_0,hcz18_1,hcz18_2,hcz18_3,hcz18_4,hcz18_5,hcz18_6⟩:=qc7 BK413.out;obtain ⟨hfz18_0,hfz18_1,hfz18_2,hfz18_3,hfz18_4,hfz18_5,hfz18_6⟩:=qz7 BK413.out;obtain ⟨Ao19,co19,eo19⟩:=Kd.V_slice HO410.out;subst eo19)|((with_reducible refine gate_dst (N:=21) rfl ?_);refine Kd.R_lit Kd.string _ 9 ?hg (N:=21) ?hd (xs:=([(⟨#[97,108,108]⟩:ByteArray),(⟨#[97]⟩:ByteArray),(⟨#[98]⟩:ByteArray),(⟨#[99]⟩:ByteArray),(⟨#[100]⟩:ByteArray)]:List ByteArray)) (inner:=[.string (⟨#[97,108,108]⟩:ByteArray),.string (⟨#[97]⟩:ByteArray),.string (⟨#[98]⟩:ByteArray),.string (⟨#[99]⟩:ByteArray),.string (⟨#[100]⟩:ByteArray)]) (ok:=fun _=>True) (okp:=fun _=>True) ?hr ?hp (fun _ hk=>hk) trivial (Below.refl _ _) (Nat.le_refl _) (by simp) ?_;(case hd=>rfl);(case hg=>rfl);(case hr=>first|(go_simp;done)|(go_simp;rfl));(case hp=>exact (Reps.one (show Kd.M Kd.string _ _ _ (⟨#[97,108,108]⟩:ByteArray) [.string (⟨#[97,108,108]⟩:ByteArray)] from rfl) (Reps.one (show Kd.M Kd.string _ _ _ (⟨#[97]⟩:ByteArray) [.string (⟨#[97]⟩:ByteArray)] from rfl) (Reps.one (show Kd.M Kd.string _ _ _ (⟨#[98]⟩:ByteArray) [.string (⟨#[98]⟩:ByteArray)] from rfl) (Reps.one (show Kd.M Kd.string _ _ _ (⟨#[99]⟩:ByteArray) [.string (⟨#[99]⟩:ByteArray)] from rfl) (Reps.one (show Kd.M Kd.string _ _ _ (⟨#[100]⟩:ByteArray) [.string (⟨#[100]⟩:ByteArray)] from rfl) (Reps.none _ _)))))));intro v415 w20 ho21 hb hg_ hnew_;clear hg_ hnew_;(first|rw [← Ny414.out] at ho21|(simp only [Int.reduceToNat] at ho21;rw [← Ny414.out] at ho21));replace HO_6:=As0.mk (Kd.N_elder' (by (with_reducible repeat (first|apply Kd.N_alloc|apply Kd.N_drewN|apply Kd.N_drew));exact (Kd.N_mono (Kd.N_far (p:=⟨gb413,6,none⟩) (Kd.N_far (p:=⟨gb413,5,none⟩) (Kd.N_far (p:=⟨gb413,4,none⟩) (Kd.N_far (p:=⟨gb413,3,none⟩) (Kd.N_far (p:=⟨gb413,2,none⟩) (Kd.N_far (p:=⟨gb413,1,none⟩) (Kd.N_far (p:=⟨gb413,0,none⟩) (Kd.N_mono HO_6.out (fun k_ hk=>(⟨hk,hk.2⟩:_ ∧ k_ ≠ gb413))) (fun _ hk=>hk.2) (.string t403)) (fun _ hk=>hk.2) (.string t404)) (fun _ hk=>hk.2) (.int .i64 t405)) (fun _ hk=>hk.2) (.int .i64 t406)) (fun _ hk=>hk.2) (.bool t407)) (fun _ hk=>hk.2) (.slice Ao19 t408.length co19)) (fun _ hk=>hk.2) (.string t411)) (fun _ h_=>h_.1))) (Kd.R_base ho21) hb);replace HO410:=As0.mk (Kd.V_elder' (by (with_reducible repeat (first|apply Kd.V_alloc|apply Kd.V_drewN|apply Kd.V_drew));exact (Kd.V_mono (Kd.V_far (p:=⟨gb413,6,none⟩) (Kd.V_far (p:=⟨gb413,5,none⟩) (Kd.V_far (p:=⟨gb413,4,none⟩) (Kd.V_far (p:=⟨gb413,3,none⟩) (Kd.V_far (p:=⟨gb413,2,none⟩) (Kd.V_far (p:=⟨gb413,1,none⟩) (Kd.V_far (p:=⟨gb413,0,none⟩) (Kd.V_mono HO410.out (fun k_ hk=>(⟨hk,hk.2⟩:_ ∧ k_ ≠ gb413))) (fun _ hk=>hk.2) (.string t403)) (fun _ hk=>hk.2) (.string t404)) (fun _ hk=>hk.2) (.int .i64 t405)) (fun _ hk=>hk.2) (.int .i64 t406)) (fun _ hk=>hk.2) (.bool t407)) (fun _ hk=>hk.2) (.slice Ao19 t408.length co19)) (fun _ hk=>hk.2) (.string t411)) (fun _ h_=>h_.1))) (Kd.R_base ho21) hb);have HO416:=As0.mk (Kd.R_lower (Kd.R_newM (M:=fun k_=>(w.heap.size ≤ k_)) ho21 (bsz (by repeat (first|(with_reducible first|exact HB.out|apply bal|apply pbN|apply bd1|refine bst ?_ (IsS50.ge HI388.out)|refine bst ?_ GE413.out)|exact HB.out))) (fun k_ h_=>h_)) (bsz (by repeat (first|(with_reducible first|exact HB.out|apply bal|apply pbN|apply bd1|refine bst ?_ (IsS50.ge HI388.out)|refine bst ?_ GE413.out)|exact HB.out))));replace BK413:=As0.mk (blk_below (g:=gb413) (o:=.cells #[.string t403,.string t404,.int .i64 t405,.int .i64 t406,.bool t407,.slice Ao19 t408.length co19,.string t411] 34 (0,0)) (by (with_reducible repeat (first|refine bkN ?_ _|refine bkD ?_|refine bkA ?_ _));refine blk_put (cs:=#[.string t403,.string t404,.int .i64 t405,.int .i64 t406,.bool t407,.slice Ao19 t408.length co19,.string ⟨#[]⟩]) ?_ 6 _ rfl;(with_reducible repeat (first|refine bkN ?_ _|refine bkD ?_|refine bkA ?_ _));refine blk_put (cs:=#[.string t403,.string t404,.int .i64 t405,.int .i64 t406,.bool t407,.slice none 0 0,.string ⟨#[]⟩]) ?_ 5 _ rfl;(with_reducible repeat (first|refine bkN ?_ _|refine bkD ?_|refine bkA ?_ _));refine blk_put (cs:=#[.string t403,.string t404,.int .i64 t405,.int .i64 t406,.bool false,.slice none 0 0,.string ⟨#[]⟩]) ?_ 4 _ rfl;(with_reducible repeat (first|refine bkN ?_ _|refine bkD ?_|refine bkA ?_ _));refine blk_put (cs:=#[.string t403,.string t404,.int .i64 t405,.int .i64 0,.bool false,.slice none 0 0,.string ⟨#[]⟩]) ?_ 3 _ rfl;(with_reducible repeat (first|refine bkN ?_ _|refine bkD ?_|refine bkA ?_ _));refine blk_put (cs:=#[.string t403,.string t404,.int .i64 0,.int .i64 0,.bool false,.slice none 0 0,.string ⟨#[]⟩]) ?_ 2 _ rfl;(with_reducible repeat (first|refine bkN ?_ _|refine bkD ?_|refine bkA ?_ _));refine blk_put (cs:=#[.string t403,.string ⟨#[]⟩,.int .i64 0,.int .i64 0,.bool false,.slice none 0 0,.string ⟨#[]⟩]) ?_ 1 _ rfl;(with_reducible repeat (first|refine bkN ?_ _|refine bkD ?_|refine bkA ?_ _));refine blk_put (cs:=#[.string ⟨#[]⟩,.string ⟨#[]⟩,.int .i64 0,.int .i64 0,.bool false,.slice none 0 0,.string ⟨#[]⟩]) ?_ 0 _ rfl;(with_reducible repeat (first|refine bkN ?_ _|refine bkD ?_|refine bkA ?_ _));exact BK413.out) hb);replace HB:=As0.mk (bsp (by repeat (first|(with_reducible first|exact HB.out|apply bal|apply pbN|apply bd1|refine bst ?_ (IsS50.ge HI388.out)|refine bst ?_ GE413.out)|exact HB.out)) hb);replace HI388:=As0.mk (IsS50.below (show IsS50 w (((((((w16.setCell ⟨gb413,0,none⟩ (.string t403)).setCell ⟨gb413,1,none⟩ (.string t404)).setCell ⟨gb413,2,none⟩ (.int .i64 t405)).setCell ⟨gb413,3,none⟩ (.int .i64 t406)).setCell ⟨gb413,4,none⟩ (.bool t407)).setCell ⟨gb413,5,none⟩ (.slice Ao19 t408.length co19)).setCell ⟨gb413,6,none⟩ (.string t411)) g388 t386 t412 from by repeat (first|(with_reducible first|exact HI388.out|apply IsS50.alloc|apply IsS50.drewN|apply IsS50.drew|apply IsS50.set_1|refine IsS50.far ?_ NB388_413.out _)|exact HI388.out)) hb);clear hb ho21;obtain ⟨Ao22,co22,eo22⟩:=Kd.R_slice HO416.out;subst eo22)|((with_reducible refine gca (f:=14) rfl ?_);refine gL (some 22) Tryd.func14 #[.pointer (some ⟨g388,0,none⟩),.slice Ao22 y414.length co22] ?_;(with_reducible refine (spec_l1Rd_of.calls k1 g388 t386 t412 _ _ y414 t417 t418 w _ ?side1 ?side2 ?side3 ?side4 ?side5 A10.out).mono ?_);(case side1=>repeat (first|(with_reducible first|exact HI388.out|apply IsS50.alloc|apply IsS50.drewN|apply IsS50.drew|apply IsS50.set_1|refine IsS50.far ?_ NB388_413.out _)|exact HI388.out));(case side2=>repeat (first|(with_reducible first|exact HB.out|apply bal|apply pbN|apply bd1|refine bst ?_ (IsS50.ge HI388.out)|refine bst ?_ GE413.out)|exact HB.out));(case side3=>repeat (first|exact (Kd.R_reads' HO416.out).2.2|(with_reducible first|refine Kd.C_alloc ?_ _|refine Kd.C_drewN ?_ _|refine Kd.C_drew ?_)));(case side4=>exact (Kd.R_reads' HO416.out).2.1);(case side5=>exact far_slice (IsS50.own_ne HI388.out HO416.out (by decide)));rintro e w23 ⟨rfl,hi,hb,hk⟩;refine ⟨_,rfl,?_⟩;replace HO_6:=As0.mk (Kd.N_mono (Kd.N_keep (Kd.N_mono (ok:=fun k_=>(((((w.heap.size ≤ k_)) ∧ k_ ≠ g388) ∧ k_ ≠ gb413) ∧ some k_ ≠ (.slice Ao22 y414.length co22:Value).ownBlock)) (by (with_reducible repeat (first|apply Kd.N_alloc|apply Kd.N_drewN|apply Kd.N_drew));exact HO_6.out) (fun k_ hk_=>(⟨hk_,hk_.1.1.2⟩:_ ∧ k_ ≠ g388))) hk (fun _ h=>h.2)) (fun _ h=>h.1));replace HO410:=As0.mk (Kd.V_mono (Kd.V_keep (Kd.V_mono (ok:=fun k_=>(((((w.heap.size ≤ k_)) ∧ (some k_ ≠ (u6:Value).ownBlock ∧ k_ ≠ g388)) ∧ k_ ≠ gb413) ∧ some k_ ≠ (.slice Ao22 y414.length co22:Value).ownBlock)) (by (with_reducible repeat (first|apply Kd.V_alloc|apply Kd.V_drewN|apply Kd.V_drew));first|exact HO410.out|exact Kd.V_mono HO410.out (fun _ h_=>by simp_all)) (fun k_ hk_=>(⟨hk_,hk_.1.1.2.2⟩:_ ∧ k_ ≠ g388))) hk (fun _ h=>h.2)) (fun _ h=>h.1));replace BK413:=As0.mk (kb hk BK413.out NB413_388.out);replace HO416:=As0.mk (Kd.R_mono (Kd.R_keep (IsS50.apart (show IsS50 w _ g388 t386 t412 from by repeat (first|(with_reducible first|exact HI388.out|apply IsS50.alloc|apply IsS50.drewN|apply IsS50.drew|apply IsS50.set_1|refine IsS50.far ?_ NB388_413.out _)|exact HI388.out)) (by (with_reducible repeat (first|apply Kd.Ral|apply Kd.RdN|apply Kd.R_drew));exact HO416.out) (by decide)) hk (fun _ h=>h.2)) (fun _ h=>h.1));replace HB:=As0.mk (hb);replace HI388:=As0.mk (hi);clear hb hk hi;obtain ⟨hcz24_0,hcz24_1,hcz24_2,hcz24_3,hcz24_4,hcz24_5,hcz24_6⟩:=qc7 BK413.out;obtain ⟨hfz24_0,hfz24_1,hfz24_2,hfz24_3,hfz24_4,hfz24_5,hfz24_6⟩:=qz7 BK413.out)|((with_reducible refine gca (f:=12) rfl ?_);refine gL (some 25) Tryd.func12 #[.pointer (some ⟨g388,0,none⟩),.int .i64 30] ?_;(with_reducible refine (spec_l1Rd_pick.calls k1 g388 t386 t418 30 t419 t420 w _ ?side1 ?side2 A11.out).mono ?_);(case side1=>repeat (first|(with_reducible first|exact HI388.out|apply IsS50.alloc|apply IsS50.drewN|apply IsS50.drew|apply IsS50.set_1|refine IsS50.far ?_ NB388_413.out _)|exact HI388.out));(case side2=>repeat (first|(with_reducible first|exact HB.out|apply bal|apply pbN|apply bd1|refine bst ?_ (IsS50.ge HI388.out)|refine bst ?_ GE413.out)|exact HB.out));rintro e w25 ⟨rfl,hi,hb,hk⟩;refine ⟨_,rfl,?_⟩;replace HO_6:=As0.mk (Kd.N_mono (Kd.N_keep (Kd.N_mono (ok:=fun k_=>(((((w.heap.size ≤ k_)) ∧ k_ ≠ g388) ∧ k_ ≠ gb413) ∧ some k_ ≠ (.slice Ao22 y414.length co22:Value).ownBlock)) (by (with_reducible repeat (first|apply Kd.N_alloc|apply Kd.N_drewN|apply Kd.N_drew));exact (Kd.N_mono (Kd.N_far (p:=⟨gb413,0,none⟩) (Kd.N_mono HO_6.out (fun k_ hk=>(⟨hk,hk.1.2⟩:_ ∧ k_ ≠ gb413))) (fun _ hk=>hk.2) (.string t417)) (fun _ h_=>h_.1))) (fun k_ hk_=>(⟨hk_,hk_.1.1.2⟩:_ ∧ k_ ≠ g388))) hk (fun _ h=>h.2)) (fun _ h=>h.1));replace HO410:=As0.mk (Kd.V_mono (Kd.V_keep (Kd.V_mono (ok:=fun k_=>(((((w.heap.size ≤ k_)) ∧ (some k_ ≠ (u6:Value).ownBlock ∧ k_ ≠ g388)) ∧ k_ ≠ gb413) ∧ some k_ ≠ (.slice Ao22 y414.length co22:Value).ownBlock)) (by (with_reducible repeat (first|apply Kd.V_alloc|apply Kd.V_drewN|apply Kd.V_drew));exact (Kd.V_mono (Kd.V_far (p:=⟨gb413,0,none⟩) (Kd.V_mono HO410.out (fun k_ hk=>(⟨hk,hk.1.2⟩:_ ∧ k_ ≠ gb413))) (fun _ hk=>hk.2) (.string t417)) (fun _ h_=>h_.1))) (fun k_ hk_=>(⟨hk_,hk_.1.1.2.2⟩:_ ∧ k_ ≠ g388))) hk (fun _ h=>h.2)) (fun _ h=>h.1));replace HO416:=As0.mk (Kd.R_mono (Kd.R_keep (IsS50.apart (show IsS50 w _ g388 t386 t418 from by repeat (first|(with_reducible first|exact HI388.out|apply IsS50.alloc|apply IsS50.drewN|apply IsS50.drew|apply IsS50.set_1|refine IsS50.far ?_ NB388_413.out _)|exact HI388.out)) (by (with_reducible repeat (first|apply Kd.Ral|apply Kd.RdN|apply Kd.R_drew));exact (Kd.R_mono (Kd.R_far (p:=⟨gb413,0,none⟩) (Kd.R_types HO416.out BK413.out (by decide)) (fun _ hk=>hk.2) (.string t417)) (fun _ h_=>h_.1))) (by decide)) hk (fun _ h=>h.2)) (fun _ h=>h.1));replace BK413:=As0.mk (KeepBut.blk hk (g':=gb413) (o:=.cells #[.string t417,.string t404,.int .i64 t405,.int .i64 t406,.bool t407,.slice Ao19 t408.length co19,.string t411] 34 (0,0)) (by (with_reducible repeat (first|refine bkN ?_ _|refine bkD ?_|refine bkA ?_ _));refine blk_put (cs:=#[.string t403,.string t404,.int .i64 t405,.int .i64 t406,.bool t407,.slice Ao19 t408.length co19,.string t411]) ?_ 0 _ rfl;(with_reducible repeat (first|refine bkN ?_ _|refine bkD ?_|refine bkA ?_ _));exact BK413.out) NB413_388.out (by simp));replace HB:=As0.mk (hb);replace HI388:=As0.mk (hi);clear hb hk hi)|((with_reducible refine gca (f:=15) rfl ?_);refine gL (some 28) Tryd.func15 #[.pointer (some ⟨g388,0,none⟩)] ?_;(with_reducible refine (spec_l13AnyThing.calls k1 g388 t386 t420 t421 t422 t423 t424 t425 t426 t429 t430 w _ ?side1 ?side2 A13.out).mono ?_);(case side1=>repeat (first|(with_reducible first|exact HI388.out|apply IsS50.alloc|apply IsS50.drewN|apply IsS50.drew|apply IsS50.set_1|refine IsS50.far ?_ NB388_413.out _)|exact HI388.out));(case side2=>repeat (first|(with_reducible first|exact HB.out|apply bal|apply pbN|apply bd1|refine bst ?_ (IsS50.ge HI388.out)|refine bst ?_ GE413.out)|exact HB.out));rintro e w26 ⟨v427,rfl,ho0,hi,hb,hk⟩;refine ⟨_,rfl,?_⟩;replace HO410:=As0.mk (Kd.V_mono (Kd.V_keep (Kd.V_mono (ok:=fun k_=>(((((w.heap.size ≤ k_)) ∧ (some k_ ≠ (u6:Value).ownBlock ∧ k_ ≠ g388)) ∧ k_ ≠ gb413) ∧ some k_ ≠ (.slice Ao22 y414.length co22:Value).ownBlock)) (by (with_reducible repeat (first|apply Kd.V_alloc|apply Kd.V_drewN|apply Kd.V_drew));first|exact HO410.out|exact Kd.V_mono HO410.out (fun _ h_=>by simp_all)) (fun k_ hk_=>(⟨hk_,hk_.1.1.2.2⟩:_ ∧ k_ ≠ g388))) hk (fun _ h=>h.2)) (fun _ h=>h.1));have HO428:=As0.mk (Kd.V_lower (Kd.V_mono (ok':=fun k_=>(w.heap.size ≤ k_) ∧ some k_ ≠ (u6:Value).ownBlock ∧ some k_ ≠ (.slice Ao22 y414.length co22:Value).ownBlock ∧ k_ ≠ gb413 ∧ k_ ≠ g388) ho0 (fun k_ hk_=>⟨(Nat.le_trans (bsz (by repeat (first|(with_reducible first|exact HB.out|apply bal|apply pbN|apply bd1|refine bst ?_ (IsS50.ge HI388.out)|refine bst ?_ GE413.out)|exact HB.out))) hk_),(Kd.fresh' (Kd.N_lt (by (with_reducible repeat (first|apply Kd.N_alloc|apply Kd.N_drewN|apply Kd.N_drew));exact HO_6.out)) k_ hk_),(Kd.fresh' (Kd.R_lt (by (with_reducible repeat (first|apply Kd.Ral|apply Kd.RdN|apply Kd.R_drew));exact HO416.out)) k_ hk_),(Kd.freshB (g:=gb413) (o:=.cells #[.string t417,.string t404,.int .i64 t405,.int .i64 t406,.bool t407,.slice Ao19 t408.length co19,.string t411] 34 (0,0)) (by (with_reducible repeat (first|refine bkN ?_ _|refine bkD ?_|refine bkA ?_ _));exact BK413.out) k_ hk_),(IsS50.fresh (by repeat (first|(with_reducible first|exact HI388.out|apply IsS50.alloc|apply IsS50.drewN|apply IsS50.drew|apply IsS50.set_1|refine IsS50.far ?_ NB388_413.out _)|exact HI388.out)) k_ hk_)⟩)) (bsz (by repeat (first|(with_reducible first|exact HB.out|apply bal|apply pbN|apply bd1|refine bst ?_ (IsS50.ge HI388.out)|refine bst ?_ GE413.out)|exact HB.out))));replace HO_6:=As0.mk (Kd.N_mono (Kd.N_keep (Kd.N_mono (ok:=fun k_=>(((((w.heap.size ≤ k_)) ∧ k_ ≠ g388) ∧ k_ ≠ gb413) ∧ some k_ ≠ (.slice Ao22 y414.length co22:Value).ownBlock)) (by (with_reducible repeat (first|apply Kd.N_alloc|apply Kd.N_drewN|apply Kd.N_drew));exact HO_6.out) (fun k_ hk_=>(⟨hk_,hk_.1.1.2⟩:_ ∧ k_ ≠ g388))) hk (fun _ h=>h.2)) (fun _ h=>h.1));replace BK413:=As0.mk (kb hk BK413.out NB413_388.out);replace HO416:=As0.mk (Kd.R_mono (Kd.R_keep (IsS50.apart (show IsS50 w _ g388 t386 t420 from by repeat (first|(with_reducible first|exact HI388.out|apply IsS50.alloc|apply IsS50.drewN|apply IsS50.drew|apply IsS50.set_1|refine IsS50.far ?_ NB388_413.out _)|exact HI388.out)) (by (with_reducible repeat (first|apply Kd.Ral|apply Kd.RdN|apply Kd.R_drew));exact HO416.out) (by decide)) hk (fun _ h=>h.2)) (fun _ h=>h.1));replace HB:=As0.mk (hb);replace HI388:=As0.mk (hi);clear hb hk hi ho0;obtain ⟨hcz27_0,hcz27_1,hcz27_2,hcz27_3,hcz27_4,hcz27_5,hcz27_6⟩:=qc7 BK413.out;obtain ⟨hfz27_0,hfz27_1,hfz27_2,hfz27_3,hfz27_4,hfz27_5,hfz27_6⟩:=qz7 BK413.out;obtain ⟨Ao28,co28,eo28⟩:=Kd.V_slice HO428.out;subst eo28)|((with_reducible refine gate_store (t:=34) (p:=8) rfl ?_);refine store_event (t:=34) (p:=8) (v:=?vo_w29) (w1:=(((((((w26.setCell ⟨gb413,0,none⟩ (.string t421)).setCell ⟨gb413,1,none⟩ (.string t422)).setCell ⟨gb413,2,none⟩ (.int .i64 t423)).setCell ⟨gb413,3,none⟩ (.int .i64 t424)).setCell ⟨gb413,4,none⟩ (.bool t425)).setCell ⟨gb413,5,none⟩ (.slice Ao28 t426.length co28)).setCell ⟨gb413,6,none⟩ (.string t429))) ?hg ?ho ?hn ?hr ?_;(case ho=>rfl);(case hg=>rfl);(case hn=>rfl);(case hr=>first|(go_simp;done)|(go_simp;rfl));intro w29 hw;replace HO_6:As0 (Kd.N k34 34 w29 w.heap.size (fun k_=>(w.heap.size ≤ k_) ∧ some k_ ≠ (.slice Ao22 y414.length co22:Value).ownBlock ∧ k_ ≠ g388 ∧ k_ ≠ gb413) u6 x6_1):=⟨(by rw [hw];exact (by (with_reducible repeat (first|apply Kd.N_alloc|apply Kd.N_drewN|apply Kd.N_drew));exact Kd.N_mono (Kd.N_far (p:=⟨gb413,6,none⟩) (Kd.N_far (p:=⟨gb413,5,none⟩) (Kd.N_far (p:=⟨gb413,4,none⟩) (Kd.N_far (p:=⟨gb413,3,none⟩) (Kd.N_far (p:=⟨gb413,2,none⟩) (Kd.N_far (p:=⟨gb413,1,none⟩) (Kd.N_far (p:=⟨gb413,0,none⟩) (Kd.N_mono HO_6.out (fun k_ hk=>(⟨hk,hk.1.2⟩:_ ∧ k_ ≠ gb413))) (fun _ hk=>hk.2) (.string t421)) (fun _ hk=>hk.2) (.string t422)) (fun _ hk=>hk.2) (.int .i64 t423)) (fun _ hk=>hk.2) (.int .i64 t424)) (fun _ hk=>hk.2) (.bool t425)) (fun _ hk=>hk.2) (.slice Ao28 t426.length co28)) (fun _ hk=>hk.2) (.string t429)) (fun _ hk=>⟨hk.1.1.1.1,⟨hk.1.2,⟨hk.1.1.1.2,hk.1.1.2⟩⟩⟩)))⟩;replace HO410:As0 (Kd.V Kd.string 9 w29 w.heap.size (fun k_=>(w.heap.size ≤ k_) ∧ some k_ ≠ (u6:Value).ownBlock ∧ some k_ ≠ (.slice Ao22 y414.length co22:Value).ownBlock ∧ k_ ≠ g388 ∧ k_ ≠ gb413) (.slice Ao19 t408.length co19) t408):=⟨(by rw [hw];exact (by (with_reducible repeat (first|apply Kd.V_alloc|apply Kd.V_drewN|apply Kd.V_drew));exact Kd.V_mono (Kd.V_far (p:=⟨gb413,6,none⟩) (Kd.V_far (p:=⟨gb413,5,none⟩) (Kd.V_far (p:=⟨gb413,4,none⟩) (Kd.V_far (p:=⟨gb413,3,none⟩) (Kd.V_far (p:=⟨gb413,2,none⟩) (Kd.V_far (p:=⟨gb413,1,none⟩) (Kd.V_far (p:=⟨gb413,0,none⟩) (Kd.V_mono HO410.out (fun k_ hk=>(⟨hk,hk.1.2⟩:_ ∧ k_ ≠ gb413))) (fun _ hk=>hk.2) (.string t421)) (fun _ hk=>hk.2) (.string t422)) (fun _ hk=>hk.2) (.int .i64 t423)) (fun _ hk=>hk.2) (.int .i64 t424)) (fun _ hk=>hk.2) (.bool t425)) (fun _ hk=>hk.2) (.slice Ao28 t426.length co28)) (fun _ hk=>hk.2) (.string t429)) (fun _ hk=>⟨hk.1.1.1.1,⟨hk.1.1.1.2.1,⟨hk.1.2,⟨hk.1.1.1.2.2,hk.1.1.2⟩⟩⟩⟩)))⟩;replace HO416:As0 (Kd.R Kd.string 9 w29 w.heap.size (fun k_=>(w.heap.size ≤ k_)) (.slice Ao22 y414.length co22) y414):=⟨(by rw [hw];exact (by (with_reducible repeat (first|apply Kd.Ral|apply Kd.RdN|apply Kd.R_drew));exact Kd.R_mono (Kd.R_far (p:=⟨gb413,6,none⟩) (Kd.R_far (p:=⟨gb413,5,none⟩) (Kd.R_far (p:=⟨gb413,4,none⟩) (Kd.R_far (p:=⟨gb413,3,none⟩) (Kd.R_far (p:=⟨gb413,2,none⟩) (Kd.R_far (p:=⟨gb413,1,none⟩) (Kd.R_far (p:=⟨gb413,0,none⟩) (Kd.R_types HO416.out BK413.out (by decide)) (fun _ hk=>hk.2) (.string t421)) (fun _ hk=>hk.2) (.string t422)) (fun _ hk=>hk.2) (.int .i64 t423)) (fun _ hk=>hk.2) (.int .i64 t424)) (fun _ hk=>hk.2) (.bool t425)) (fun _ hk=>hk.2) (.slice Ao28 t426.length co28)) (fun _ hk=>hk.2) (.string t429)) (fun _ hk=>hk.1.1)))⟩;replace HO428:As0 (Kd.V Kd.string 9 w29 w.heap.size (fun k_=>(w.heap.size ≤ k_) ∧ some k_ ≠ (u6:Value).ownBlock ∧ some k_ ≠ (.slice Ao22 y414.length co22:Value).ownBlock ∧ k_ ≠ gb413 ∧ k_ ≠ g388) (.slice Ao28 t426.length co28) t426):=⟨(by rw [hw];exact (by (with_reducible repeat (first|apply Kd.V_alloc|apply Kd.V_drewN|apply Kd.V_drew));exact Kd.V_mono (Kd.V_far (p:=⟨gb413,6,none⟩) (Kd.V_far (p:=⟨gb413,5,none⟩) (Kd.V_far (p:=⟨gb413,4,none⟩) (Kd.V_far (p:=⟨gb413,3,none⟩) (Kd.V_far (p:=⟨gb413,2,none⟩) (Kd.V_far (p:=⟨gb413,1,none⟩) (Kd.V_far (p:=⟨gb413,0,none⟩) (Kd.V_mono HO428.out (fun k_ hk=>(⟨hk,hk.2.2.2.1⟩:_ ∧ k_ ≠ gb413))) (fun _ hk=>hk.2) (.string t421)) (fun _ hk=>hk.2) (.string t422)) (fun _ hk=>hk.2) (.int .i64 t423)) (fun _ hk=>hk.2) (.int .i64 t424)) (fun _ hk=>hk.2) (.bool t425)) (fun _ hk=>hk.2) (.slice Ao28 t426.length co28)) (fun _ hk=>hk.2) (.string t429)) (fun _ hk=>⟨hk.1.1,⟨hk.1.2.1,⟨hk.1.2.2.1,⟨hk.1.2.2.2.1,hk.1.2.2.2.2⟩⟩⟩⟩)))⟩;replace BK413:As0 (w29.heap[gb413]? = some (.cells #[.string t421,.string t422,.int .i64 t423,.int .i64 t424,.bool t425,.slice Ao28 t426.length co28,.string t429] 34 (0,0))):=⟨(by rw [hw];exact (by (with_reducible repeat (first|refine bkN ?_ _|refine bkD ?_|refine bkA ?_ _));refine blk_put (cs:=#[.string t421,.string t422,.int .i64 t423,.int .i64 t424,.bool t425,.slice Ao28 t426.length co28,.string t411]) ?_ 6 _ rfl;(with_reducible repeat (first|refine bkN ?_ _|refine bkD ?_|refine bkA ?_ _));refine blk_put (cs:=#[.string t421,.string t422,.int .i64 t423,.int .i64 t424,.bool t425,.slice Ao19 t408.length co19,.string t411]) ?_ 5 _ rfl;(with_reducible repeat (first|refine bkN ?_ _|refine bkD ?_|refine bkA ?_ _));refine blk_put (cs:=#[.string t421,.string t422,.int .i64 t423,.int .i64 t424,.bool t407,.slice Ao19 t408.length co19,.string t411]) ?_ 4 _ rfl;(with_reducible repeat (first|refine bkN ?_ _|refine bkD ?_|refine bkA ?_ _));refine blk_put (cs:=#[.string t421,.string t422,.int .i64 t423,.int .i64 t406,.bool t407,.slice Ao19 t408.length co19,.string t411]) ?_ 3 _ rfl;(with_reducible repeat (first|refine bkN ?_ _|refine bkD ?_|refine bkA ?_ _));refine blk_put (cs:=#[.string t421,.string t422,.int .i64 t405,.int .i64 t406,.bool t407,.slice Ao19 t408.length co19,.string t411]) ?_ 2 _ rfl;(with_reducible repeat (first|refine bkN ?_ _|refine bkD ?_|refine bkA ?_ _));refine blk_put (cs:=#[.string t421,.string t404,.int .i64 t405,.int .i64 t406,.bool t407,.slice Ao19 t408.length co19,.string t411]) ?_ 1 _ rfl;(with_reducible repeat (first|refine bkN ?_ _|refine bkD ?_|refine bkA ?_ _));refine blk_put (cs:=#[.string t417,.string t404,.int .i64 t405,.int .i64 t406,.bool t407,.slice Ao19 t408.length co19,.string t411]) ?_ 0 _ rfl;(with_reducible repeat (first|refine bkN ?_ _|refine bkD ?_|refine bkA ?_ _));exact BK413.out))⟩;replace HB:As0 (Below w.heap.size w w29):=⟨(by rw [hw];exact (by repeat (first|(with_reducible first|exact HB.out|apply bal|apply pbN|apply bd1|refine bst ?_ (IsS50.ge HI388.out)|refine bst ?_ GE413.out)|exact HB.out)))⟩;replace HI388:As0 (IsS50 w w29 g388 t386 t430):=⟨(by rw [hw];exact (by repeat (first|(with_reducible first|exact HI388.out|apply IsS50.alloc|apply IsS50.drewN|apply IsS50.drew|apply IsS50.set_1|refine IsS50.far ?_ NB388_413.out _)|exact HI388.out)))⟩;clear hw;obtain ⟨hcz30_0,hcz30_1,hcz30_2,hcz30_3,hcz30_4,hcz30_5,hcz30_6⟩:=qc7 BK413.out;obtain ⟨hfz30_0,hfz30_1,hfz30_2,hfz30_3,hfz30_4,hfz30_5,hfz30_6⟩:=qz7 BK413.out)|((with_reducible refine gbi (b:=.append) (xs:=#[.tmp 29,.tmp 31]) rfl ?_);at_builtin;refine Kd.N_append k34 (w0:=w) w.heap.size rfl (.tmp 29) (.tmp 31) 24 34 (.agg #[(.string ⟨#[]⟩),(.string ⟨#[]⟩),(.int .i64 0),(.int .i64 0),(.bool false),(.slice none 0 0),(.string ⟨#[]⟩)]) 96 rfl Tryd.underlying24 info34 rfl (by decide) (by omega) u6 x6_1 (⟨t421,t422,t423,t424,t425,t426,t429⟩:SiT24) [.string t421,.string t422,.int .i64 t423,.int .i64 t424,.bool t425,.slice Ao28 t426.length co28,.string t429] (fun k_=>(w.heap.size ≤ k_) ∧ some k_ ≠ (.slice Ao22 y414.length co22:Value).ownBlock ∧ k_ ≠ gb413 ∧ k_ ≠ g388) (fun k_=>((fun k_=>(w.heap.size ≤ k_) ∧ some k_ ≠ (.slice Ao22 y414.length co22:Value).ownBlock ∧ k_ ≠ gb413 ∧ k_ ≠ g388)) k_ ∧ some k_ ≠ (u6:Value).ownBlock) rfl rfl ?aP (fun _ hk=>hk) ?aF ?aO ?aB ?aS ?aL ?_;(case aP=>exact (k34_mkF _ _ (⟨t421,t422,t423,t424,t425,t426,t429⟩:SiT24) (Kd.V_reads' (Kd.V_mono (ok':=(fun k_=>((fun k_=>(w.heap.size ≤ k_) ∧ some k_ ≠ (.slice Ao22 y414.length co22:Value).ownBlock ∧ k_ ≠ gb413 ∧ k_ ≠ g388)) k_ ∧ some k_ ≠ (u6:Value).ownBlock)) (HO428.out) (fun k_ hk=>⟨⟨hk.1,⟨hk.2.2.1,⟨hk.2.2.2.1,hk.2.2.2.2⟩⟩⟩,hk.2.1⟩))).2.1 (Kd.V_F (Kd.V_mono (ok':=(fun k_=>((fun k_=>(w.heap.size ≤ k_) ∧ some k_ ≠ (.slice Ao22 y414.length co22:Value).ownBlock ∧ k_ ≠ gb413 ∧ k_ ≠ g388)) k_ ∧ some k_ ≠ (u6:Value).ownBlock)) (HO428.out) (fun k_ hk=>⟨⟨hk.1,⟨hk.2.2.1,⟨hk.2.2.2.1,hk.2.2.2.2⟩⟩⟩,hk.2.1⟩)))));(case aB=>exact (by repeat (first|(with_reducible first|exact HB.out|apply bal|apply pbN|apply bd1|refine bst ?_ (IsS50.ge HI388.out)|refine bst ?_ GE413.out)|exact HB.out)));(case aF=>exact (fun k_ hk=>⟨(Nat.le_trans (bsz (by repeat (first|(with_reducible first|exact HB.out|apply bal|apply pbN|apply bd1|refine bst ?_ (IsS50.ge HI388.out)|refine bst ?_ GE413.out)|exact HB.out))) hk),Kd.fresh' (Kd.R_lt (by (with_reducible repeat (first|apply Kd.Ral|apply Kd.RdN|apply Kd.R_drew));exact HO416.out)) k_ hk,Kd.freshB (g:=gb413) (o:=.cells #[.string t421,.string t422,.int .i64 t423,.int .i64 t424,.bool t425,.slice Ao28 t426.length co28,.string t429] 34 (0,0)) (by (with_reducible repeat (first|refine bkN ?_ _|refine bkD ?_|refine bkA ?_ _));exact BK413.out) k_ hk,IsS50.fresh (by repeat (first|(with_reducible first|exact HI388.out|apply IsS50.alloc|apply IsS50.drewN|apply IsS50.drew|apply IsS50.set_1|refine IsS50.far ?_ NB388_413.out _)|exact HI388.out)) k_ hk⟩));(case aO=>exact (by (with_reducible repeat (first|apply Kd.N_alloc|apply Kd.N_drewN|apply Kd.N_drew));exact Kd.N_mono HO_6.out (fun _ hk=>⟨hk.1,⟨hk.2.1,⟨hk.2.2.2,hk.2.2.1⟩⟩⟩)));(case aS=>exact (bsz (by repeat (first|(with_reducible first|exact HB.out|apply bal|apply pbN|apply bd1|refine bst ?_ (IsS50.ge HI388.out)|refine bst ?_ GE413.out)|exact HB.out))));(case aL=>have:=LMc14.out;omega);intro v432 w31 ho hb hg hat;rw [← Ny431.out] at ho;replace HI388:=As0.mk (IsS50.grown (by repeat (first|(with_reducible first|exact HI388.out|apply IsS50.alloc|apply IsS50.drewN|apply IsS50.drew|apply IsS50.set_1|refine IsS50.far ?_ NB388_413.out _)|exact HI388.out)) hg (IsS50.own_neN HI388.out HO_6.out (by decide)));replace HO410:=As0.mk (Kd.V_afterv (ok:=(fun k_=>(w.heap.size ≤ k_) ∧ some k_ ≠ (.slice Ao22 y414.length co22:Value).ownBlock ∧ k_ ≠ g388 ∧ k_ ≠ gb413)) (by (with_reducible repeat (first|apply Kd.V_alloc|apply Kd.V_drewN|apply Kd.V_drew));exact Kd.V_mono HO410.out (fun _ hk=>⟨⟨hk.1,⟨hk.2.2.1,⟨hk.2.2.2.1,hk.2.2.2.2⟩⟩⟩,hk.2.1⟩)) hg hat);replace BK413:=As0.mk (bg hg BK413.out (Kd.N_away HO_6.out (fun _ hk=>hk.2.2.2)));replace HO416:=As0.mk (Kd.R_over' (by (with_reducible repeat (first|apply Kd.Ral|apply Kd.RdN|apply Kd.R_drew));exact HO416.out) (Kd.N_typed (by (with_reducible repeat (first|apply Kd.N_alloc|apply Kd.N_drewN|apply Kd.N_drew));exact HO_6.out)) (by decide) hg);replace HO428:=As0.mk (Kd.V_afterv (ok:=(fun k_=>(w.heap.size ≤ k_) ∧ some k_ ≠ (.slice Ao22 y414.length co22:Value).ownBlock ∧ k_ ≠ gb413 ∧ k_ ≠ g388)) (by (with_reducible repeat (first|apply Kd.V_alloc|apply Kd.V_drewN|apply Kd.V_drew));exact Kd.V_mono HO428.out (fun _ hk=>⟨⟨hk.1,⟨hk.2.2.1,⟨hk.2.2.2.1,hk.2.2.2.2⟩⟩⟩,hk.2.1⟩)) hg hat);replace HB:=As0.mk (hb);have HO433:=As0.mk (ho);clear HO_6 ho hb hg hat))
         show _;go_roundg k1
         case measure=>have:=HK1.out;omega
         case rel=>exact ⟨(y431),(wrap64 (x7_1 - 1)),(t430),(by first|rfl|(simp;done)|(simp [*];done)),H',⟨by have:=HK1.out;omega⟩,⟨by (with_reducible repeat (first|apply Kd.N_alloc|apply Kd.N_drewN|apply Kd.N_drew));exact Kd.N_mono HO433.out (fun _ hk=>⟨hk.1,hk.2.2.2⟩)⟩,⟨by repeat (first|(with_reducible first|exact HI388.out|apply IsS50.alloc|apply IsS50.drewN|apply IsS50.drew|apply IsS50.set_1|refine IsS50.far ?_ NB388_413.out _)|exact HI388.out)⟩,⟨by repeat (first|(with_reducible first|exact HB.out|apply bal|apply pbN|apply bd1|refine bst ?_ (IsS50.ge HI388.out)|refine bst ?_ GE413.out)|exact HB.out)⟩⟩
       · rw [if_neg c14] at H
         exact absurd H (by simp)
     · rw [if_neg c12] at H
       have c12b0:(t419 == 0) = false:=beq_eq_false_iff_ne.mpr c12;have c12b1:(t419 != 0) = true:=bne_iff_ne.mpr c12;by_cases c32:x6_1.length < 1466015503701
       · rw [if_pos c32] at H
         have LMc32:=As0.mk c32;clear c32;obtain ⟨y434,hy434⟩:∃ y_:List (SiT24),y_ = (x6_1 ++ [(⟨t417,t404,t405,t406,t407,t408,t411⟩:SiT24)]):=⟨_,rfl⟩;replace H:(spec_DrawUseSum.l0 k1 y434 (wrap64 (x7_1 - 1)) t386 t420) = some (r1,r2,r3):=by rw [hy434];exact H
         have Ny434:=As0.mk hy434;clear hy434;have H':=As0.mk H;clear H
         go_wp2_with (first|((with_reducible refine gca (f:=13) rfl ?_);refine gL (some 19) Tryd.func13 #[.pointer (some ⟨g388,0,none⟩)] ?_;(with_reducible refine (spec_l13Thing.calls k1 g388 t386 x389001_1 t403 t404 t405 t406 t407 t408 t411 t412 w _ ?side1 ?side2 A9.out).mono ?_);(case side1=>repeat (first|(with_reducible first|exact HI388.out|apply IsS50.alloc|apply IsS50.drewN|apply IsS50.drew|apply IsS50.set_1)|exact HI388.out));(case side2=>repeat (first|(with_reducible first|exact HB.out|apply bal|apply pbN|apply bd1|refine bst ?_ (IsS50.ge HI388.out))|exact HB.out));rintro e w33 ⟨v409,rfl,ho0,hi,hb,hk⟩;refine ⟨_,rfl,?_⟩;have HO410:=As0.mk (Kd.V_lower (Kd.V_mono (ok':=fun k_=>(w.heap.size ≤ k_) ∧ some k_ ≠ (u6:Value).ownBlock ∧ k_ ≠ g388) ho0 (fun k_ hk_=>⟨(Nat.le_trans (bsz (by repeat (first|(with_reducible first|exact HB.out|apply bal|apply pbN|apply bd1|refine bst ?_ (IsS50.ge HI388.out))|exact HB.out))) hk_),(Kd.fresh' (Kd.N_lt (by (with_reducible repeat (first|apply Kd.N_alloc|apply Kd.N_drewN|apply Kd.N_drew));exact HO_6.out)) k_ hk_),(IsS50.fresh (by repeat (first|(with_reducible first|exact HI388.out|apply IsS50.alloc|apply IsS50.drewN|apply IsS50.drew|apply IsS50.set_1)|exact HI388.out)) k_ hk_)⟩)) (bsz (by repeat (first|(with_reducible first|exact HB.out|apply bal|apply pbN|apply bd1|refine bst ?_ (IsS50.ge HI388.out))|exact HB.out))));replace HO_6:=As0.mk (Kd.N_mono (Kd.N_keep (Kd.N_mono (ok:=fun k_=>(((w.heap.size ≤ k_)) ∧ k_ ≠ g388)) (by (with_reducible repeat (first|apply Kd.N_alloc|apply Kd.N_drewN|apply Kd.N_drew));exact HO_6.out) (fun k_ hk_=>(⟨hk_,hk_.2⟩:_ ∧ k_ ≠ g388))) hk (fun _ h=>h.2)) (fun _ h=>h.1));replace HB:=As0.mk (hb);replace HI388:=As0.mk (hi);clear hb hk hi ho0)|((with_reducible refine gate_dst (N:=8) rfl ?_);refine bE 8 #[.string ⟨#[]⟩,.string ⟨#[]⟩,.int .i64 0,.int .i64 0,.bool false,.slice none 0 0,.string ⟨#[]⟩] 34 ?_;intro gb413 hg w34 hbox hb;replace HO_6:=As0.mk (Kd.N_below (Kd.N_elderB (by (with_reducible repeat (first|apply Kd.N_alloc|apply Kd.N_drewN|apply Kd.N_drew));exact HO_6.out) gb413 (Nat.le_of_eq hg.symm)) hb);replace HO410:=As0.mk (Kd.V_below (Kd.V_elderB (by (with_reducible repeat (first|apply Kd.V_alloc|apply Kd.V_drewN|apply Kd.V_drew));first|exact HO410.out|exact Kd.V_mono HO410.out (fun _ h_=>by simp_all)) gb413 (Nat.le_of_eq hg.symm)) hb);have BK413:=As0.mk (hbox);have GW413:=As0.mk ((by rw [hg];exact (bsz (by repeat (first|(with_reducible first|exact HB.out|apply bal|apply pbN|apply bd1|refine bst ?_ (IsS50.ge HI388.out))|exact HB.out))):w.heap.size ≤ gb413));have GE413:=GW413;replace HB:=As0.mk (bsp (by repeat (first|(with_reducible first|exact HB.out|apply bal|apply pbN|apply bd1|refine bst ?_ (IsS50.ge HI388.out))|exact HB.out)) hb);have NB388_413:=As0.mk ((by rw [hg];exact Nat.ne_of_lt (IsS50.lt (show IsS50 w _ g388 t386 t412 from by repeat (first|(with_reducible first|exact HI388.out|apply IsS50.alloc|apply IsS50.drewN|apply IsS50.drew|apply IsS50.set_1)|exact HI388.out))):g388 ≠ gb413));have NB413_388:=As0.mk (Ne.symm NB388_413.out);replace HI388:=As0.mk (IsS50.below (by repeat (first|(with_reducible first|exact HI388.out|apply IsS50.alloc|apply IsS50.drewN|apply IsS50.drew|apply IsS50.set_1)|exact HI388.out)) hb);clear hb hbox hg;have hnb35:=NB413_388.out;have hnc35:=NB388_413.out;obtain ⟨hcz36_0,hcz36_1,hcz36_2,hcz36_3,hcz36_4,hcz36_5,hcz36_6⟩:=qc7 BK413.out;obtain ⟨hfz36_0,hfz36_1,hfz36_2,hfz36_3,hfz36_4,hfz36_5,hfz36_6⟩:=qz7 BK413.out;obtain ⟨Ao37,co37,eo37⟩:=Kd.V_slice HO410.out;subst eo37)|((with_reducible refine gate_dst (N:=21) rfl ?_);refine Kd.R_lit Kd.string _ 9 ?hg (N:=21) ?hd (xs:=([(⟨#[97,108,108]⟩:ByteArray),(⟨#[97]⟩:ByteArray),(⟨#[98]⟩:ByteArray),(⟨#[99]⟩:ByteArray),(⟨#[100]⟩:ByteArray)]:List ByteArray)) (inner:=[.string (⟨#[97,108,108]⟩:ByteArray),.string (⟨#[97]⟩:ByteArray),.string (⟨#[98]⟩:ByteArray),.string (⟨#[99]⟩:ByteArray),.string (⟨#[100]⟩:ByteArray)]) (ok:=fun _=>True) (okp:=fun _=>True) ?hr ?hp (fun _ hk=>hk) trivial (Below.refl _ _) (Nat.le_refl _) (by simp) ?_;(case hd=>rfl);(case hg=>rfl);(case hr=>first|(go_simp;done)|(go_simp;rfl));(case hp=>exact (Reps.one (show Kd.M Kd.string _ _ _ (⟨#[97,108,108]⟩:ByteArray) [.string (⟨#[97,108,108]⟩:ByteArray)] from rfl) (Reps.one (show Kd.M Kd.string _ _ _ (⟨#[97]⟩:ByteArray) [.string (⟨#[97]⟩:ByteArray)] from rfl) (Reps.one (show Kd.M Kd.string _ _ _ (⟨#[98]⟩:ByteArray) [.string (⟨#[98]⟩:ByteArray)] from rfl) (Reps.one (show Kd.M Kd.string _ _ _ (⟨#[99]⟩:ByteArray) [.string (⟨#[99]⟩:ByteArray)] from rfl) (Reps.one (show Kd.M Kd.string _ _ _ (⟨#[100]⟩:ByteArray) [.string (⟨#[100]⟩:ByteArray)] from rfl) (Reps.none _ _)))))));intro v415 w38 ho39 hb hg_ hnew_;clear hg_ hnew_;(first|rw [← Ny414.out] at ho39|(simp only [Int.reduceToNat] at ho39;rw [← Ny414.out] at ho39));replace HO_6:=As0.mk (Kd.N_elder' (by (with_reducible repeat (first|apply Kd.N_alloc|apply Kd.N_drewN|apply Kd.N_drew));exact (Kd.N_mono (Kd.N_far (p:=⟨gb413,6,none⟩) (Kd.N_far (p:=⟨gb413,5,none⟩) (Kd.N_far (p:=⟨gb413,4,none⟩) (Kd.N_far (p:=⟨gb413,3,none⟩) (Kd.N_far (p:=⟨gb413,2,none⟩) (Kd.N_far (p:=⟨gb413,1,none⟩) (Kd.N_far (p:=⟨gb413,0,none⟩) (Kd.N_mono HO_6.out (fun k_ hk=>(⟨hk,hk.2⟩:_ ∧ k_ ≠ gb413))) (fun _ hk=>hk.2) (.string t403)) (fun _ hk=>hk.2) (.string t404)) (fun _ hk=>hk.2) (.int .i64 t405)) (fun _ hk=>hk.2) (.int .i64 t406)) (fun _ hk=>hk.2) (.bool t407)) (fun _ hk=>hk.2) (.slice Ao37 t408.length co37)) (fun _ hk=>hk.2) (.string t411)) (fun _ h_=>h_.1))) (Kd.R_base ho39) hb);replace HO410:=As0.mk (Kd.V_elder' (by (with_reducible repeat (first|apply Kd.V_alloc|apply Kd.V_drewN|apply Kd.V_drew));exact (Kd.V_mono (Kd.V_far (p:=⟨gb413,6,none⟩) (Kd.V_far (p:=⟨gb413,5,none⟩) (Kd.V_far (p:=⟨gb413,4,none⟩) (Kd.V_far (p:=⟨gb413,3,none⟩) (Kd.V_far (p:=⟨gb413,2,none⟩) (Kd.V_far (p:=⟨gb413,1,none⟩) (Kd.V_far (p:=⟨gb413,0,none⟩) (Kd.V_mono HO410.out (fun k_ hk=>(⟨hk,hk.2⟩:_ ∧ k_ ≠ gb413))) (fun _ hk=>hk.2) (.string t403)) (fun _ hk=>hk.2) (.string t404)) (fun _ hk=>hk.2) (.int .i64 t405)) (fun _ hk=>hk.2) (.int .i64 t406)) (fun _ hk=>hk.2) (.bool t407)) (fun _ hk=>hk.2) (.slice Ao37 t408.length co37)) (fun _ hk=>hk.2) (.string t411)) (fun _ h_=>h_.1))) (Kd.R_base ho39) hb);have HO416:=As0.mk (Kd.R_lower (Kd.R_newM (M:=fun k_=>(w.heap.size ≤ k_)) ho39 (bsz (by repeat (first|(with_reducible first|exact HB.out|apply bal|apply pbN|apply bd1|refine bst ?_ (IsS50.ge HI388.out)|refine bst ?_ GE413.out)|exact HB.out))) (fun k_ h_=>h_)) (bsz (by repeat (first|(with_reducible first|exact HB.out|apply bal|apply pbN|apply bd1|refine bst ?_ (IsS50.ge HI388.out)|refine bst ?_ GE413.out)|exact HB.out))));replace BK413:=As0.mk (blk_below (g:=gb413) (o:=.cells #[.string t403,.string t404,.int .i64 t405,.int .i64 t406,.bool t407,.slice Ao37 t408.length co37,.string t411] 34 (0,0)) (by (with_reducible repeat (first|refine bkN ?_ _|refine bkD ?_|refine bkA ?_ _));refine blk_put (cs:=#[.string t403,.string t404,.int .i64 t405,.int .i64 t406,.bool t407,.slice Ao37 t408.length co37,.string ⟨#[]⟩]) ?_ 6 _ rfl;(with_reducible repeat (first|refine bkN ?_ _|refine bkD ?_|refine bkA ?_ _));refine blk_put (cs:=#[.string t403,.string t404,.int .i64 t405,.int .i64 t406,.bool t407,.slice none 0 0,.string ⟨#[]⟩]) ?_ 5 _ rfl;(with_reducible repeat (first|refine bkN ?_ _|refine bkD ?_|refine bkA ?_ _));refine blk_put (cs:=#[.string t403,.string t404,.int .i64 t405,.int .i64 t406,.bool false,.slice none 0 0,.string ⟨#[]⟩]) ?_ 4 _ rfl;(with_reducible repeat (first|refine bkN ?_ _|refine bkD ?_|refine bkA ?_ _));refine blk_put (cs:=#[.string t403,.string t404,.int .i64 t405,.int .i64 0,.bool false,.slice none 0 0,.string ⟨#[]⟩]) ?_ 3 _ rfl;(with_reducible repeat (first|refine bkN ?_ _|refine bkD ?_|refine bkA ?_ _));refine blk_put (cs:=#[.string t403,.string t404,.int .i64 0,.int .i64 0,.bool false,.slice none 0 0,.string ⟨#[]⟩]) ?_ 2 _ rfl;(with_reducible repeat (first|refine bkN ?_ _|refine bkD ?_|refine bkA ?_ _));refine blk_put (cs:=#[.string t403,.string ⟨#[]⟩,.int .i64 0,.int .i64 0,.bool false,.slice none 0 0,.string ⟨#[]⟩]) ?_ 1 _ rfl;(with_reducible repeat (first|refine bkN ?_ _|refine bkD ?_|refine bkA ?_ _));refine blk_put (cs:=#[.string ⟨#[]⟩,.string ⟨#[]⟩,.int .i64 0,.int .i64 0,.bool false,.slice none 0 0,.string ⟨#[]⟩]) ?_ 0 _ rfl;(with_reducible repeat (first|refine bkN ?_ _|refine bkD ?_|refine bkA ?_ _));exact BK413.out) hb);replace HB:=As0.mk (bsp (by repeat (first|(with_reducible first|exact HB.out|apply bal|apply pbN|apply bd1|refine bst ?_ (IsS50.ge HI388.out)|refine bst ?_ GE413.out)|exact HB.out)) hb);replace HI388:=As0.mk (IsS50.below (show IsS50 w (((((((w34.setCell ⟨gb413,0,none⟩ (.string t403)).setCell ⟨gb413,1,none⟩ (.string t404)).setCell ⟨gb413,2,none⟩ (.int .i64 t405)).setCell ⟨gb413,3,none⟩ (.int .i64 t406)).setCell ⟨gb413,4,none⟩ (.bool t407)).setCell ⟨gb413,5,none⟩ (.slice Ao37 t408.length co37)).setCell ⟨gb413,6,none⟩ (.string t411)) g388 t386 t412 from by repeat (first|(with_reducible first|exact HI388.out|apply IsS50.alloc|apply IsS50.drewN|apply IsS50.drew|apply IsS50.set_1|refine IsS50.far ?_ NB388_413.out _)|exact HI388.out)) hb);clear hb ho39;obtain ⟨Ao40,co40,eo40⟩:=Kd.R_slice HO416.out;subst eo40)|((with_reducible refine gca (f:=14) rfl ?_);refine gL (some 22) Tryd.func14 #[.pointer (some ⟨g388,0,none⟩),.slice Ao40 y414.length co40] ?_;(with_reducible refine (spec_l1Rd_of.calls k1 g388 t386 t412 _ _ y414 t417 t418 w _ ?side1 ?side2 ?side3 ?side4 ?side5 A10.out).mono ?_);(case side1=>repeat (first|(with_reducible first|exact HI388.out|apply IsS50.alloc|apply IsS50.drewN|apply IsS50.drew|apply IsS50.set_1|refine IsS50.far ?_ NB388_413.out _)|exact HI388.out));(case side2=>repeat (first|(with_reducible first|exact HB.out|apply bal|apply pbN|apply bd1|refine bst ?_ (IsS50.ge HI388.out)|refine bst ?_ GE413.out)|exact HB.out));(case side3=>repeat (first|exact (Kd.R_reads' HO416.out).2.2|(with_reducible first|refine Kd.C_alloc ?_ _|refine Kd.C_drewN ?_ _|refine Kd.C_drew ?_)));(case side4=>exact (Kd.R_reads' HO416.out).2.1);(case side5=>exact far_slice (IsS50.own_ne HI388.out HO416.out (by decide)));rintro e w41 ⟨rfl,hi,hb,hk⟩;refine ⟨_,rfl,?_⟩;replace HO_6:=As0.mk (Kd.N_mono (Kd.N_keep (Kd.N_mono (ok:=fun k_=>(((((w.heap.size ≤ k_)) ∧ k_ ≠ g388) ∧ k_ ≠ gb413) ∧ some k_ ≠ (.slice Ao40 y414.length co40:Value).ownBlock)) (by (with_reducible repeat (first|apply Kd.N_alloc|apply Kd.N_drewN|apply Kd.N_drew));exact HO_6.out) (fun k_ hk_=>(⟨hk_,hk_.1.1.2⟩:_ ∧ k_ ≠ g388))) hk (fun _ h=>h.2)) (fun _ h=>h.1));replace HO410:=As0.mk (Kd.V_mono (Kd.V_keep (Kd.V_mono (ok:=fun k_=>(((((w.heap.size ≤ k_)) ∧ (some k_ ≠ (u6:Value).ownBlock ∧ k_ ≠ g388)) ∧ k_ ≠ gb413) ∧ some k_ ≠ (.slice Ao40 y414.length co40:Value).ownBlock)) (by (with_reducible repeat (first|apply Kd.V_alloc|apply Kd.V_drewN|apply Kd.V_drew));first|exact HO410.out|exact Kd.V_mono HO410.out (fun _ h_=>by simp_all)) (fun k_ hk_=>(⟨hk_,hk_.1.1.2.2⟩:_ ∧ k_ ≠ g388))) hk (fun _ h=>h.2)) (fun _ h=>h.1));replace BK413:=As0.mk (kb hk BK413.out NB413_388.out);replace HO416:=As0.mk (Kd.R_mono (Kd.R_keep (IsS50.apart (show IsS50 w _ g388 t386 t412 from by repeat (first|(with_reducible first|exact HI388.out|apply IsS50.alloc|apply IsS50.drewN|apply IsS50.drew|apply IsS50.set_1|refine IsS50.far ?_ NB388_413.out _)|exact HI388.out)) (by (with_reducible repeat (first|apply Kd.Ral|apply Kd.RdN|apply Kd.R_drew));exact HO416.out) (by decide)) hk (fun _ h=>h.2)) (fun _ h=>h.1));replace HB:=As0.mk (hb);replace HI388:=As0.mk (hi);clear hb hk hi;obtain ⟨hcz42_0,hcz42_1,hcz42_2,hcz42_3,hcz42_4,hcz42_5,hcz42_6⟩:=qc7 BK413.out;obtain ⟨hfz42_0,hfz42_1,hfz42_2,hfz42_3,hfz42_4,hfz42_5,hfz42_6⟩:=qz7 BK413.out)|((with_reducible refine gca (f:=12) rfl ?_);refine gL (some 25) Tryd.func12 #[.pointer (some ⟨g388,0,none⟩),.int .i64 30] ?_;(with_reducible refine (spec_l1Rd_pick.calls k1 g388 t386 t418 30 t419 t420 w _ ?side1 ?side2 A11.out).mono ?_);(case side1=>repeat (first|(with_reducible first|exact HI388.out|apply IsS50.alloc|apply IsS50.drewN|apply IsS50.drew|apply IsS50.set_1|refine IsS50.far ?_ NB388_413.out _)|exact HI388.out));(case side2=>repeat (first|(with_reducible first|exact HB.out|apply bal|apply pbN|apply bd1|refine bst ?_ (IsS50.ge HI388.out)|refine bst ?_ GE413.out)|exact HB.out));rintro e w43 ⟨rfl,hi,hb,hk⟩;refine ⟨_,rfl,?_⟩;replace HO_6:=As0.mk (Kd.N_mono (Kd.N_keep (Kd.N_mono (ok:=fun k_=>(((((w.heap.size ≤ k_)) ∧ k_ ≠ g388) ∧ k_ ≠ gb413) ∧ some k_ ≠ (.slice Ao40 y414.length co40:Value).ownBlock)) (by (with_reducible repeat (first|apply Kd.N_alloc|apply Kd.N_drewN|apply Kd.N_drew));exact (Kd.N_mono (Kd.N_far (p:=⟨gb413,0,none⟩) (Kd.N_mono HO_6.out (fun k_ hk=>(⟨hk,hk.1.2⟩:_ ∧ k_ ≠ gb413))) (fun _ hk=>hk.2) (.string t417)) (fun _ h_=>h_.1))) (fun k_ hk_=>(⟨hk_,hk_.1.1.2⟩:_ ∧ k_ ≠ g388))) hk (fun _ h=>h.2)) (fun _ h=>h.1));replace HO410:=As0.mk (Kd.V_mono (Kd.V_keep (Kd.V_mono (ok:=fun k_=>(((((w.heap.size ≤ k_)) ∧ (some k_ ≠ (u6:Value).ownBlock ∧ k_ ≠ g388)) ∧ k_ ≠ gb413) ∧ some k_ ≠ (.slice Ao40 y414.length co40:Value).ownBlock)) (by (with_reducible repeat (first|apply Kd.V_alloc|apply Kd.V_drewN|apply Kd.V_drew));exact (Kd.V_mono (Kd.V_far (p:=⟨gb413,0,none⟩) (Kd.V_mono HO410.out (fun k_ hk=>(⟨hk,hk.1.2⟩:_ ∧ k_ ≠ gb413))) (fun _ hk=>hk.2) (.string t417)) (fun _ h_=>h_.1))) (fun k_ hk_=>(⟨hk_,hk_.1.1.2.2⟩:_ ∧ k_ ≠ g388))) hk (fun _ h=>h.2)) (fun _ h=>h.1));replace HO416:=As0.mk (Kd.R_mono (Kd.R_keep (IsS50.apart (show IsS50 w _ g388 t386 t418 from by repeat (first|(with_reducible first|exact HI388.out|apply IsS50.alloc|apply IsS50.drewN|apply IsS50.drew|apply IsS50.set_1|refine IsS50.far ?_ NB388_413.out _)|exact HI388.out)) (by (with_reducible repeat (first|apply Kd.Ral|apply Kd.RdN|apply Kd.R_drew));exact (Kd.R_mono (Kd.R_far (p:=⟨gb413,0,none⟩) (Kd.R_types HO416.out BK413.out (by decide)) (fun _ hk=>hk.2) (.string t417)) (fun _ h_=>h_.1))) (by decide)) hk (fun _ h=>h.2)) (fun _ h=>h.1));replace BK413:=As0.mk (KeepBut.blk hk (g':=gb413) (o:=.cells #[.string t417,.string t404,.int .i64 t405,.int .i64 t406,.bool t407,.slice Ao37 t408.length co37,.string t411] 34 (0,0)) (by (with_reducible repeat (first|refine bkN ?_ _|refine bkD ?_|refine bkA ?_ _));refine blk_put (cs:=#[.string t403,.string t404,.int .i64 t405,.int .i64 t406,.bool t407,.slice Ao37 t408.length co37,.string t411]) ?_ 0 _ rfl;(with_reducible repeat (first|refine bkN ?_ _|refine bkD ?_|refine bkA ?_ _));exact BK413.out) NB413_388.out (by simp));replace HB:=As0.mk (hb);replace HI388:=As0.mk (hi);clear hb hk hi;obtain ⟨hcz44_0,hcz44_1,hcz44_2,hcz44_3,hcz44_4,hcz44_5,hcz44_6⟩:=qc7 BK413.out;obtain ⟨hfz44_0,hfz44_1,hfz44_2,hfz44_3,hfz44_4,hfz44_5,hfz44_6⟩:=qz7 BK413.out)|((with_reducible refine gbi (b:=.append) (xs:=#[.tmp 29,.tmp 31]) rfl ?_);at_builtin;refine Kd.N_append k34 (w0:=w) w.heap.size rfl (.tmp 29) (.tmp 31) 24 34 (.agg #[(.string ⟨#[]⟩),(.string ⟨#[]⟩),(.int .i64 0),(.int .i64 0),(.bool false),(.slice none 0 0),(.string ⟨#[]⟩)]) 96 rfl Tryd.underlying24 info34 rfl (by decide) (by omega) u6 x6_1 (⟨t417,t404,t405,t406,t407,t408,t411⟩:SiT24) [.string t417,.string t404,.int .i64 t405,.int .i64 t406,.bool t407,.slice Ao37 t408.length co37,.string t411] (fun k_=>(w.heap.size ≤ k_) ∧ some k_ ≠ (.slice Ao40 y414.length co40:Value).ownBlock ∧ k_ ≠ gb413 ∧ k_ ≠ g388) (fun k_=>((fun k_=>(w.heap.size ≤ k_) ∧ some k_ ≠ (.slice Ao40 y414.length co40:Value).ownBlock ∧ k_ ≠ gb413 ∧ k_ ≠ g388)) k_ ∧ some k_ ≠ (u6:Value).ownBlock) rfl rfl ?aP (fun _ hk=>hk) ?aF ?aO ?aB ?aS ?aL ?_;(case aP=>exact (k34_mkF _ _ (⟨t417,t404,t405,t406,t407,t408,t411⟩:SiT24) (Kd.V_reads' (Kd.V_mono (ok':=(fun k_=>((fun k_=>(w.heap.size ≤ k_) ∧ some k_ ≠ (.slice Ao40 y414.length co40:Value).ownBlock ∧ k_ ≠ gb413 ∧ k_ ≠ g388)) k_ ∧ some k_ ≠ (u6:Value).ownBlock)) (HO410.out) (fun k_ hk=>⟨⟨hk.1.1.1,⟨hk.2,⟨hk.1.2,hk.1.1.2.2⟩⟩⟩,hk.1.1.2.1⟩))).2.1 (Kd.V_F (Kd.V_mono (ok':=(fun k_=>((fun k_=>(w.heap.size ≤ k_) ∧ some k_ ≠ (.slice Ao40 y414.length co40:Value).ownBlock ∧ k_ ≠ gb413 ∧ k_ ≠ g388)) k_ ∧ some k_ ≠ (u6:Value).ownBlock)) (HO410.out) (fun k_ hk=>⟨⟨hk.1.1.1,⟨hk.2,⟨hk.1.2,hk.1.1.2.2⟩⟩⟩,hk.1.1.2.1⟩)))));(case aB=>exact (by repeat (first|(with_reducible first|exact HB.out|apply bal|apply pbN|apply bd1|refine bst ?_ (IsS50.ge HI388.out)|refine bst ?_ GE413.out)|exact HB.out)));(case aF=>exact (fun k_ hk=>⟨(Nat.le_trans (bsz (by repeat (first|(with_reducible first|exact HB.out|apply bal|apply pbN|apply bd1|refine bst ?_ (IsS50.ge HI388.out)|refine bst ?_ GE413.out)|exact HB.out))) hk),Kd.fresh' (Kd.R_lt (by (with_reducible repeat (first|apply Kd.Ral|apply Kd.RdN|apply Kd.R_drew));exact HO416.out)) k_ hk,Kd.freshB (g:=gb413) (o:=.cells #[.string t417,.string t404,.int .i64 t405,.int .i64 t406,.bool t407,.slice Ao37 t408.length co37,.string t411] 34 (0,0)) (by (with_reducible repeat (first|refine bkN ?_ _|refine bkD ?_|refine bkA ?_ _));exact BK413.out) k_ hk,IsS50.fresh (by repeat (first|(with_reducible first|exact HI388.out|apply IsS50.alloc|apply IsS50.drewN|apply IsS50.drew|apply IsS50.set_1|refine IsS50.far ?_ NB388_413.out _)|exact HI388.out)) k_ hk⟩));(case aO=>exact (by (with_reducible repeat (first|apply Kd.N_alloc|apply Kd.N_drewN|apply Kd.N_drew));exact Kd.N_mono HO_6.out (fun _ hk=>⟨hk.1.1.1,⟨hk.2,⟨hk.1.2,hk.1.1.2⟩⟩⟩)));(case aS=>exact (bsz (by repeat (first|(with_reducible first|exact HB.out|apply bal|apply pbN|apply bd1|refine bst ?_ (IsS50.ge HI388.out)|refine bst ?_ GE413.out)|exact HB.out))));(case aL=>have:=LMc32.out;omega);intro v435 w45 ho hb hg hat;rw [← Ny434.out] at ho;replace HI388:=As0.mk (IsS50.grown (by repeat (first|(with_reducible first|exact HI388.out|apply IsS50.alloc|apply IsS50.drewN|apply IsS50.drew|apply IsS50.set_1|refine IsS50.far ?_ NB388_413.out _)|exact HI388.out)) hg (IsS50.own_neN HI388.out HO_6.out (by decide)));replace HO410:=As0.mk (Kd.V_afterv (ok:=(fun k_=>(w.heap.size ≤ k_) ∧ some k_ ≠ (.slice Ao40 y414.length co40:Value).ownBlock ∧ k_ ≠ g388 ∧ k_ ≠ gb413)) (by (with_reducible repeat (first|apply Kd.V_alloc|apply Kd.V_drewN|apply Kd.V_drew));exact Kd.V_mono HO410.out (fun _ hk=>⟨⟨hk.1.1.1,⟨hk.2,⟨hk.1.1.2.2,hk.1.2⟩⟩⟩,hk.1.1.2.1⟩)) hg hat);replace BK413:=As0.mk (bg hg BK413.out (Kd.N_away HO_6.out (fun _ hk=>hk.1.2)));replace HO416:=As0.mk (Kd.R_over' (by (with_reducible repeat (first|apply Kd.Ral|apply Kd.RdN|apply Kd.R_drew));exact HO416.out) (Kd.N_typed (by (with_reducible repeat (first|apply Kd.N_alloc|apply Kd.N_drewN|apply Kd.N_drew));exact HO_6.out)) (by decide) hg);replace HB:=As0.mk (hb);have HO436:=As0.mk (ho);clear HO_6 ho hb hg hat))
         show _;go_roundg k1
         case measure=>have:=HK1.out;omega
         case rel=>exact ⟨(y434),(wrap64 (x7_1 - 1)),(t420),(by first|rfl|(simp;done)|(simp [*];done)),H',⟨by have:=HK1.out;omega⟩,⟨by (with_reducible repeat (first|apply Kd.N_alloc|apply Kd.N_drewN|apply Kd.N_drew));exact Kd.N_mono HO436.out (fun _ hk=>⟨hk.1,hk.2.2.2⟩)⟩,⟨HI388.out⟩,⟨HB.out⟩⟩
       · rw [if_neg c32] at H
         exact absurd H (by simp)
   · rw [if_neg c8] at H
     have c8b0:decide (0 < x7_1) = false:=decide_eq_false c8;clear c8;replace H:=Option.bind_eq_some_iff.mp H;obtain ⟨⟨t394,t397⟩,A460,H⟩:=H;(try dsimp only at H);have A46:=As0.mk A460;clear A460;obtain ⟨y398,hy398⟩:∃ y_:List ByteArray,y_ = (([(⟨#[97,108,108]⟩:ByteArray),(⟨#[97]⟩:ByteArray),(⟨#[98]⟩:ByteArray),(⟨#[99]⟩:ByteArray),(⟨#[120]⟩:ByteArray)]:List ByteArray)):=⟨_,rfl⟩;replace H:((spec_l1Rd_of.f k1 t386 t397 y398).bind fun bt401=>(some (t394,x6_1,bt401.1))) = some (r1,r2,r3):=by rw [hy398];exact H
     have Ny398:=As0.mk hy398;clear hy398;replace H:=Option.bind_eq_some_iff.mp H;obtain ⟨⟨t401,t402⟩,A470,H⟩:=H;(try dsimp only at H);have A47:=As0.mk A470;clear A470;simp only [Option.some.injEq,Prod.mk.injEq] at H;obtain ⟨rfl,rfl,rfl⟩:=H
     go_wp2_with (first|((with_reducible refine gca (f:=16) rfl ?_);refine gL (some 34) Tryd.func16 #[.pointer (some ⟨g388,0,none⟩)] ?_;(with_reducible refine (spec_l13AnySpaces.calls k1 g388 t386 x389001_1 t394 t397 w _ ?side1 ?side2 A46.out).mono ?_);(case side1=>exact HI388.out);(case side2=>exact HB.out);rintro e w48 ⟨v395,rfl,ho0,hi,hb,hk⟩;refine ⟨_,rfl,?_⟩;replace HO_6:=As0.mk (Kd.N_mono (Kd.N_told (Kd.N_oldK (Kd.N_mono (ok:=fun k_=>(((w.heap.size ≤ k_)) ∧ k_ ≠ g388)) HO_6.out (fun k_ hk_=>(⟨hk_,hk_.2⟩:_ ∧ k_ ≠ g388))) hk) (Kd.R_base ho0)) (fun _ h_=>h_.1));have HO396:=As0.mk (Kd.R_lower (Kd.R_newM (M:=fun k_=>(w.heap.size ≤ k_)) ho0 (bsz HB.out) (fun k_ h_=>h_)) (bsz HB.out));replace HB:=As0.mk (hb);replace HI388:=As0.mk (hi);clear hb hk hi ho0)|((with_reducible refine gate_dst (N:=37) rfl ?_);refine Kd.R_lit Kd.string _ 9 ?hg (N:=37) ?hd (xs:=([(⟨#[97,108,108]⟩:ByteArray),(⟨#[97]⟩:ByteArray),(⟨#[98]⟩:ByteArray),(⟨#[99]⟩:ByteArray),(⟨#[120]⟩:ByteArray)]:List ByteArray)) (inner:=[.string (⟨#[97,108,108]⟩:ByteArray),.string (⟨#[97]⟩:ByteArray),.string (⟨#[98]⟩:ByteArray),.string (⟨#[99]⟩:ByteArray),.string (⟨#[120]⟩:ByteArray)]) (ok:=fun _=>True) (okp:=fun _=>True) ?hr ?hp (fun _ hk=>hk) trivial (Below.refl _ _) (Nat.le_refl _) (by simp) ?_;(case hd=>rfl);(case hg=>rfl);(case hr=>first|(go_simp;done)|(go_simp;rfl));(case hp=>exact (Reps.one (show Kd.M Kd.string _ _ _ (⟨#[97,108,108]⟩:ByteArray) [.string (⟨#[97,108,108]⟩:ByteArray)] from rfl) (Reps.one (show Kd.M Kd.string _ _ _ (⟨#[97]⟩:ByteArray) [.string (⟨#[97]⟩:ByteArray)] from rfl) (Reps.one (show Kd.M Kd.string _ _ _ (⟨#[98]⟩:ByteArray) [.string (⟨#[98]⟩:ByteArray)] from rfl) (Reps.one (show Kd.M Kd.string _ _ _ (⟨#[99]⟩:ByteArray) [.string (⟨#[99]⟩:ByteArray)] from rfl) (Reps.one (show Kd.M Kd.string _ _ _ (⟨#[120]⟩:ByteArray) [.string (⟨#[120]⟩:ByteArray)] from rfl) (Reps.none _ _)))))));intro v399 w49 ho50 hb hg_ hnew_;clear hg_ hnew_;(first|rw [← Ny398.out] at ho50|(simp only [Int.reduceToNat] at ho50;rw [← Ny398.out] at ho50));replace HO_6:=As0.mk (Kd.N_elder' HO_6.out (Kd.R_base ho50) hb);replace HO396:=As0.mk (Kd.R_below HO396.out hb);have HO400:=As0.mk (Kd.R_lower (Kd.R_newM (M:=fun k_=>(w.heap.size ≤ k_)) ho50 (bsz HB.out) (fun k_ h_=>h_)) (bsz HB.out));replace HI388:=As0.mk (IsS50.below HI388.out hb);replace HB:=As0.mk (bsp HB.out hb);clear hb ho50;obtain ⟨Ao51,co51,eo51⟩:=Kd.R_slice HO400.out;subst eo51)|((with_reducible refine gca (f:=14) rfl ?_);refine gL (some 38) Tryd.func14 #[.pointer (some ⟨g388,0,none⟩),.slice Ao51 y398.length co51] ?_;(with_reducible refine (spec_l1Rd_of.calls k1 g388 t386 t397 _ _ y398 t401 t402 w _ ?side1 ?side2 ?side3 ?side4 ?side5 A47.out).mono ?_);(case side1=>exact HI388.out);(case side2=>exact HB.out);(case side3=>exact (Kd.R_reads' HO400.out).2.2);(case side4=>exact (Kd.R_reads' HO400.out).2.1);(case side5=>exact far_slice (IsS50.own_ne HI388.out HO400.out (by decide)));rintro e w52 ⟨rfl,hi,hb,hk⟩;refine ⟨_,rfl,?_⟩;replace HO_6:=As0.mk (Kd.N_mono (Kd.N_keep (Kd.N_mono (ok:=fun k_=>(((((w.heap.size ≤ k_)) ∧ k_ ≠ g388) ∧ some k_ ≠ (v395:Value).ownBlock) ∧ some k_ ≠ (.slice Ao51 y398.length co51:Value).ownBlock)) HO_6.out (fun k_ hk_=>(⟨hk_,hk_.1.1.2⟩:_ ∧ k_ ≠ g388))) hk (fun _ h=>h.2)) (fun _ h=>h.1));replace HO396:=As0.mk (Kd.R_mono (Kd.R_keep (IsS50.apart (show IsS50 w _ g388 t386 t397 from HI388.out) HO396.out (by decide)) hk (fun _ h=>h.2)) (fun _ h=>h.1));replace HO400:=As0.mk (Kd.R_mono (Kd.R_keep (IsS50.apart (show IsS50 w _ g388 t386 t397 from HI388.out) HO400.out (by decide)) hk (fun _ h=>h.2)) (fun _ h=>h.1));replace HB:=As0.mk (hb);replace HI388:=As0.mk (hi);clear hb hk hi))
     go_ret3
     exact ⟨_,_,by first|rfl|(simp [errW_none,errW_some] <;> rfl)|(simp [*,errW_none,errW_some] <;> rfl),by (with_reducible repeat (first|apply Kd.Ral|apply Kd.RdN|apply Kd.R_drew));exact Kd.R_mono HO396.out (fun _ hk=>hk.1),by (with_reducible repeat (first|apply Kd.N_alloc|apply Kd.N_drewN|apply Kd.N_drew));exact Kd.N_mono HO_6.out (fun _ hk=>⟨hk.1.1.1,hk.1.2⟩),HB.out⟩
end Go.Proofs.YtlddibclbhhjoaaDoor.P
/-
 DERIVED: THE SHELF's CONTRACTS AT THIS DUMP, IN PLAIN WORDS (tools/lay-plain.mjs out of 'TrydShelf.lean', which tools/lay-shelf.mjs wrote): THE SAME DECLARATIONS UNDER THE SAME NAMES: 'import', 'namespace', 'open', 'def', 'theorem' AND NOTHING ELSE: no command of the shelf's: FOR A HAND-IN. Each laying: the table of numbers ('.._ren') and one theorem, a field a fact of the dump's own or the kernel's comparison; each contract: ONE APPLICATION.
-/
namespace Go.Proofs
open Go.Shelf
def Tryd.lays160_ren:Go.Shelf.Ren:=⟨fun|160=>48|232=>53|231=>52|227=>54|234=>56|233=>55|236=>58|235=>57|228=>59|271=>62|151=>61|197=>60|120=>65|152=>64|260=>63|137=>66|119=>67|224=>68|225=>69|217=>70|266=>71|n=>n,fun|9=>9|4=>4|3=>3|5=>5|117=>75|116=>74|0=>0|124=>78|21=>21|105=>80|46=>85|119=>84|139=>88|138=>87|n=>n,fun|3=>0|4=>1|n=>n⟩
theorem Tryd.lays160:Go.Proofs.Lays.n160 Tryd.prog Tryd.lays160_ren:={
 mixed:=by kernel_rfl
 f119:=Tryd.func67.trans (congrArg some (by kernel_rfl))
 f120:=Tryd.func65.trans (congrArg some (by kernel_rfl))
 f137:=Tryd.func66.trans (congrArg some (by kernel_rfl))
 f151:=Tryd.func61.trans (congrArg some (by kernel_rfl))
 f152:=Tryd.func64.trans (congrArg some (by kernel_rfl))
 f160:=Tryd.func48.trans (congrArg some (by kernel_rfl))
 f197:=Tryd.func60.trans (congrArg some (by kernel_rfl))
 f217:=Tryd.func70.trans (congrArg some (by kernel_rfl))
 f224:=Tryd.func68.trans (congrArg some (by kernel_rfl))
 f225:=Tryd.func69.trans (congrArg some (by kernel_rfl))
 f227:=Tryd.func54.trans (congrArg some (by kernel_rfl))
 f228:=Tryd.func59.trans (congrArg some (by kernel_rfl))
 f231:=Tryd.func52.trans (congrArg some (by kernel_rfl))
 f232:=Tryd.func53.trans (congrArg some (by kernel_rfl))
 f233:=Tryd.func55.trans (congrArg some (by kernel_rfl))
 f234:=Tryd.func56.trans (congrArg some (by kernel_rfl))
 f235:=Tryd.func57.trans (congrArg some (by kernel_rfl))
 f236:=Tryd.func58.trans (congrArg some (by kernel_rfl))
 f260:=Tryd.func63.trans (congrArg some (by kernel_rfl))
 f266:=Tryd.func71.trans (congrArg some (by kernel_rfl))
 f271:=Tryd.func62.trans (congrArg some (by kernel_rfl))
 t0:=Tryd.underlying0
 a0:=Tryd.isAgg0
 z0:=Tryd.sizeOf0
 v0:=Tryd.zeroValue0
 t3:=Tryd.underlying3
 a3:=Tryd.isAgg3
 z3:=Tryd.sizeOf3
 v3:=Tryd.zeroValue3
 t4:=Tryd.underlying4
 a4:=Tryd.isAgg4
 z4:=Tryd.sizeOf4
 v4:=Tryd.zeroValue4
 t5:=Tryd.underlying5
 a5:=Tryd.isAgg5
 z5:=Tryd.sizeOf5
 v5:=Tryd.zeroValue5
 t9:=Tryd.underlying9
 a9:=Tryd.isAgg9
 z9:=Tryd.sizeOf9
 v9:=Tryd.zeroValue9
 t21:=Tryd.underlying21
 a21:=Tryd.isAgg21
 z21:=Tryd.sizeOf21
 v21:=Tryd.zeroValue21
 t46:=Tryd.underlying85
 a46:=Tryd.isAgg85
 z46:=Tryd.sizeOf85
 v46:=Tryd.zeroValue85
 t105:=Tryd.underlying80
 a105:=Tryd.isAgg80
 z105:=Tryd.sizeOf80
 v105:=Tryd.zeroValue80
 t116:=Tryd.underlying74
 a116:=Tryd.isAgg74
 z116:=Tryd.sizeOf74
 t117:=Tryd.underlying75
 a117:=Tryd.isAgg75
 z117:=Tryd.sizeOf75
 v117:=Tryd.zeroValue75
 t119:=Tryd.underlying84
 a119:=Tryd.isAgg84
 z119:=Tryd.sizeOf84
 t124:=Tryd.underlying78
 a124:=Tryd.isAgg78
 z124:=Tryd.sizeOf78
 v124:=Tryd.zeroValue78
 t138:=Tryd.underlying87
 a138:=Tryd.isAgg87
 z138:=Tryd.sizeOf87
 v138:=Tryd.zeroValue87
 t139:=Tryd.underlying88
 a139:=Tryd.isAgg88
 z139:=Tryd.sizeOf88
 v139:=Tryd.zeroValue88
 g3:=by kernel_rfl
 g4:=by kernel_rfl }
end Go.Proofs
namespace Go.Proofs.YtlddibclbhhjoaaDoor.P
open Go.RowKit Go.Proofs.YtlddibclbhhjoaaDoorW.PrintWords Go.Proofs.YtlddibclbhhjoaaDoorW.PrintLast Go.Proofs.YtlddibclbhhjoaaDoorW.PrintMore
attribute [local go_sem] max2_int min2_int max_two min_two max_three min_three max_four min_four
set_option linter.unusedVariables false
set_option linter.unusedSimpArgs false
def strings_Trim.f (a0:ByteArray) (a1:ByteArray):Option (ByteArray):=if a0.size ≤ 9223372036854775807 ∧ a1.size < 4294967281 ∧ a1.data.toList.all (fun b=>decide (b.toNat < 128)) = true then some ⟨(Lib.trimS a0.data.toList a1.data.toList).toArray⟩ else none
theorem strings_Trim.calls (a0:ByteArray) (a1:ByteArray) (r:ByteArray) (w:World) (h:strings_Trim.f a0 a1 = some r) :
 Calls Tryd.prog 48 #[.string a0,.string a1] w fun e w'=>e = .returned (.string r) ∧ Below w.heap.size w w':=by
 unfold strings_Trim.f at h;by_cases hc:a0.size ≤ 9223372036854775807 ∧ a1.size < 4294967281 ∧ a1.data.toList.all (fun b=>decide (b.toNat < 128)) = true
 · rw [if_pos hc] at h
   obtain rfl:=Option.some.inj h
   exact Any.strings_Trim_laid Tryd.lays160 (by kernel_rfl) a0 a1 w hc.1 hc.2.1 (ascii_of_all hc.2.2)
 · rw [if_neg hc] at h
   cases h
def impl_isName.f (a0:ByteArray):Option (Bool):=if (a0.size:Int) ≥ 1 then (if (a0.size:Int) ≤ 6 then ((strings_Trim.f a0 (⟨#[97,98,99,100,101,102,103,104,105,106,107,108,109,110,111,112,113,114,115,116,117,118,119,120,121,122]⟩:ByteArray)).bind fun t438=>(some (t438.toList == ([]:List UInt8)))) else (some false)) else (some false)
set_option maxHeartbeats 40000000 in
set_option maxRecDepth 100000 in
theorem impl_isName.calls (a0:ByteArray) (r:Bool) (w:World) (h:impl_isName.f a0 = some r) :
 Calls Tryd.prog 37 #[.string a0] w fun e w'=>e = .returned (.bool r) ∧ Below w.heap.size w w':=by
 have HB:=As0.mk (Below.refl w.heap.size w);have H:(if (a0.size:Int) ≥ 1 then (if (a0.size:Int) ≤ 6 then ((strings_Trim.f a0 (⟨#[97,98,99,100,101,102,103,104,105,106,107,108,109,110,111,112,113,114,115,116,117,118,119,120,121,122]⟩:ByteArray)).bind fun t438=>(some (t438.toList == ([]:List UInt8)))) else (some false)) else (some false)) = some r:=h;clear h;by_cases c2:(a0.size:Int) ≥ 1
 · rw [if_pos c2] at H
   have c2b0:decide (1 ≤ (a0.size:Int)) = true:=decide_eq_true c2;have c2b1:decide (1 ≤ a0.size) = true:=decide_eq_true (by omega);clear c2;by_cases c3:(a0.size:Int) ≤ 6
   · rw [if_pos c3] at H
     have c3b0:decide ((a0.size:Int) ≤ 6) = true:=decide_eq_true c3;have c3b1:decide (a0.size ≤ 6) = true:=decide_eq_true (by omega);clear c3;replace H:=Option.bind_eq_some_iff.mp H;obtain ⟨t438,A40,H⟩:=H;(try dsimp only at H);have A4:=As0.mk A40;clear A40;obtain rfl:=Option.some.inj H
     go_enter Tryd.func37,Tryd.ntmps37
     go_wp2_with (first|(go_at_call 48;(with_reducible refine (strings_Trim.calls a0 (⟨#[97,98,99,100,101,102,103,104,105,106,107,108,109,110,111,112,113,114,115,116,117,118,119,120,121,122]⟩:ByteArray) t438 _ A4.out).mono ?_);rintro e w5 ⟨rfl,hb⟩;replace HB:=As0.mk (b3 HB.out hb);clear hb))
     go_ret
     exact ⟨eW,by repeat (first|(with_reducible first|exact HB.out|apply bal|apply pbN|apply bd1)|exact HB.out)⟩
   · rw [if_neg c3] at H
     have c3b0:decide ((a0.size:Int) ≤ 6) = false:=decide_eq_false c3;have c3b1:decide (a0.size ≤ 6) = false:=decide_eq_false (by omega);clear c3;obtain rfl:=Option.some.inj H
     go_enter Tryd.func37,Tryd.ntmps37
     go_wp2
     go_ret
     exact ⟨eW,by repeat (first|(with_reducible first|exact HB.out|apply bal|apply pbN|apply bd1)|exact HB.out)⟩
 · rw [if_neg c2] at H
   have c2b0:decide (1 ≤ (a0.size:Int)) = false:=decide_eq_false c2;have c2b1:decide (1 ≤ a0.size) = false:=decide_eq_false (by omega);clear c2;obtain rfl:=Option.some.inj H
   go_enter Tryd.func37,Tryd.ntmps37
   go_wp2
   go_ret
   exact ⟨eW,by repeat (first|(with_reducible first|exact HB.out|apply bal|apply pbN|apply bd1)|exact HB.out)⟩
def impl_isSpace.j0:Nat → Bool → ByteArray → ByteArray → Int → Bool → Int → Option (Bool)
 |0,_,_,_,_,_,_=>none
 |k + 1,x26,x440000,x440001,x440002,x440003,x440004=>if x26 = true then (some false) else (if x440000.toList = ([97,108,108]:List UInt8) then (if x440001.toList = ([]:List UInt8) then (some (!x440003)) else (some false)) else ((impl_isName.f x440001).bind fun t441=>(some t441)))
def impl_isSpace.f (k:Nat) (a0_0:ByteArray) (a0_1:ByteArray) (a0_2:Int) (a0_3:Bool) (a0_4:Int):Option (Bool):=(impl_isName.f a0_0).bind fun t440=>(if t440 = true then (if a0_2 < (-1) then (impl_isSpace.j0 k true a0_0 a0_1 a0_2 a0_3 a0_4) else (if a0_2 > 99999 then (impl_isSpace.j0 k true a0_0 a0_1 a0_2 a0_3 a0_4) else (if a0_4 < 0 then (impl_isSpace.j0 k true a0_0 a0_1 a0_2 a0_3 a0_4) else (impl_isSpace.j0 k (decide (a0_4 > 99999)) a0_0 a0_1 a0_2 a0_3 a0_4)))) else (impl_isSpace.j0 k true a0_0 a0_1 a0_2 a0_3 a0_4))
set_option maxHeartbeats 40000000 in
set_option maxRecDepth 100000 in
theorem impl_isSpace.calls (k:Nat) (a0_0:ByteArray) (a0_1:ByteArray) (a0_2:Int) (a0_3:Bool) (a0_4:Int) (r:Bool) (w:World) (h:impl_isSpace.f k a0_0 a0_1 a0_2 a0_3 a0_4 = some r) :
 Calls Tryd.prog 34 #[.agg #[.string a0_0,.string a0_1,.int .i64 a0_2,.bool a0_3,.int .i64 a0_4]] w fun e w'=>e = .returned (.bool r) ∧ Below w.heap.size w w':=by
 have hu30:=Tryd.underlying30;have HB:=As0.mk (Below.refl w.heap.size w);have H:((impl_isName.f a0_0).bind fun t440=>(if t440 = true then (if a0_2 < (-1) then (impl_isSpace.j0 k true a0_0 a0_1 a0_2 a0_3 a0_4) else (if a0_2 > 99999 then (impl_isSpace.j0 k true a0_0 a0_1 a0_2 a0_3 a0_4) else (if a0_4 < 0 then (impl_isSpace.j0 k true a0_0 a0_1 a0_2 a0_3 a0_4) else (impl_isSpace.j0 k (decide (a0_4 > 99999)) a0_0 a0_1 a0_2 a0_3 a0_4)))) else (impl_isSpace.j0 k true a0_0 a0_1 a0_2 a0_3 a0_4))) = some r:=h;clear h;have HC2:=As0.mk H;clear H
 go_enter Tryd.func34,Tryd.ntmps34
 show _;go_upto_region 1 with (first|((with_reducible refine gate_dst (N:=1) rfl ?_);refine bE 1 #[.string a0_0,.string a0_1,.int .i64 a0_2,.bool a0_3,.int .i64 a0_4] 30 ?_;intro gb439 hg w3 hbox hb;have n0_:=As0.mk (bsp HB.out hb);have n1_:=As0.mk (hbox);have n2_:=As0.mk ((by rw [hg];exact (bsz HB.out):w.heap.size ≤ gb439));have n3_:=As0.mk ((by rw [hg];exact (bsz HB.out):w.heap.size ≤ gb439));clear HB;have HB:=n0_;have BK439:=n1_;have GW439:=n2_;have GE439:=n3_;clear n0_ n1_ n2_ n3_;clear hb hbox hg))
 (try simp only [Act.put,sA,sZ,sS])
 show _;go_cut [26] (fun v26 wc=>∃ (kq:Nat) (x26_1:Bool),v26 = .bool x26_1 ∧ As0 (impl_isSpace.j0 kq x26_1 a0_0 a0_1 a0_2 a0_3 a0_4 = some r) ∧ As0 (kq ≤ k) ∧ As0 (wc.heap[gb439]? = some (.cells #[.string a0_0,.string a0_1,.int .i64 a0_2,.bool a0_3,.int .i64 a0_4] 30 (0,0))) ∧ As0 (Below w.heap.size w wc))
 case first=>
  have H:=HC2.out;clear HC2;replace H:=Option.bind_eq_some_iff.mp H;obtain ⟨t440,A40,H⟩:=H;(try dsimp only at H);have A4:=As0.mk A40;clear A40;by_cases c5:t440 = true
  · subst c5
    have H1:(if a0_2 < (-1) then (impl_isSpace.j0 k true a0_0 a0_1 a0_2 a0_3 a0_4) else (if a0_2 > 99999 then (impl_isSpace.j0 k true a0_0 a0_1 a0_2 a0_3 a0_4) else (if a0_4 < 0 then (impl_isSpace.j0 k true a0_0 a0_1 a0_2 a0_3 a0_4) else (impl_isSpace.j0 k (decide (a0_4 > 99999)) a0_0 a0_1 a0_2 a0_3 a0_4)))) = some r:=by rw [if_pos rfl] at H;exact H
    clear H;have H:=H1;clear H1;by_cases c6:a0_2 < (-1)
    · rw [if_pos c6] at H
      have c6b0:decide (a0_2 < (-1)) = true:=decide_eq_true c6;clear c6
      (first|rw [c6b0]|(simp only [i64_w,i32_w];rw [c6b0])|skip)
      have H':=As0.mk H;clear H;obtain ⟨hcz7_0,hcz7_1,hcz7_2,hcz7_3,hcz7_4⟩:=qc5 BK439.out;obtain ⟨hfz7_0,hfz7_1,hfz7_2,hfz7_3,hfz7_4⟩:=qz5 BK439.out
      go_wp2_with (first|((with_reducible refine gca (f:=37) rfl ?_);refine gL (some 5) Tryd.func37 #[.string a0_0] ?_;(with_reducible refine (impl_isName.calls a0_0 true _ A4.out).mono ?_);rintro e w8 ⟨rfl,hb⟩;refine ⟨_,rfl,?_⟩;replace BK439:=As0.mk (bb hb BK439.out);replace HB:=As0.mk (bsp HB.out hb);clear hb;obtain ⟨hcz9_0,hcz9_1,hcz9_2,hcz9_3,hcz9_4⟩:=qc5 BK439.out;obtain ⟨hfz9_0,hfz9_1,hfz9_2,hfz9_3,hfz9_4⟩:=qz5 BK439.out))
      show _;go_meet
      case rel=>exact ⟨_,(true),(by first|rfl|(simp;done)|(simp [*];done)),H',⟨by first|omega|exact Nat.le_refl _⟩,⟨by exact BK439.out⟩,⟨HB.out⟩⟩
    · rw [if_neg c6] at H
      have c6b0:decide (a0_2 < (-1)) = false:=decide_eq_false c6;clear c6
      (first|rw [c6b0]|(simp only [i64_w,i32_w];rw [c6b0])|skip)
      by_cases c10:a0_2 > 99999
      · rw [if_pos c10] at H
        have c10b0:decide (99999 < a0_2) = true:=decide_eq_true c10;clear c10;have H':=As0.mk H;clear H;obtain ⟨hcz11_0,hcz11_1,hcz11_2,hcz11_3,hcz11_4⟩:=qc5 BK439.out;obtain ⟨hfz11_0,hfz11_1,hfz11_2,hfz11_3,hfz11_4⟩:=qz5 BK439.out
        go_wp2_with (first|((with_reducible refine gca (f:=37) rfl ?_);refine gL (some 5) Tryd.func37 #[.string a0_0] ?_;(with_reducible refine (impl_isName.calls a0_0 true _ A4.out).mono ?_);rintro e w12 ⟨rfl,hb⟩;refine ⟨_,rfl,?_⟩;replace BK439:=As0.mk (bb hb BK439.out);replace HB:=As0.mk (bsp HB.out hb);clear hb;obtain ⟨hcz13_0,hcz13_1,hcz13_2,hcz13_3,hcz13_4⟩:=qc5 BK439.out;obtain ⟨hfz13_0,hfz13_1,hfz13_2,hfz13_3,hfz13_4⟩:=qz5 BK439.out))
        show _;go_meet
        case rel=>exact ⟨_,(true),(by first|rfl|(simp;done)|(simp [*];done)),H',⟨by first|omega|exact Nat.le_refl _⟩,⟨by exact BK439.out⟩,⟨HB.out⟩⟩
      · rw [if_neg c10] at H
        have c10b0:decide (99999 < a0_2) = false:=decide_eq_false c10;clear c10;by_cases c14:a0_4 < 0
        · rw [if_pos c14] at H
          have c14b0:decide (a0_4 < 0) = true:=decide_eq_true c14;clear c14;have H':=As0.mk H;clear H;obtain ⟨hcz15_0,hcz15_1,hcz15_2,hcz15_3,hcz15_4⟩:=qc5 BK439.out;obtain ⟨hfz15_0,hfz15_1,hfz15_2,hfz15_3,hfz15_4⟩:=qz5 BK439.out
          go_wp2_with (first|((with_reducible refine gca (f:=37) rfl ?_);refine gL (some 5) Tryd.func37 #[.string a0_0] ?_;(with_reducible refine (impl_isName.calls a0_0 true _ A4.out).mono ?_);rintro e w16 ⟨rfl,hb⟩;refine ⟨_,rfl,?_⟩;replace BK439:=As0.mk (bb hb BK439.out);replace HB:=As0.mk (bsp HB.out hb);clear hb;obtain ⟨hcz17_0,hcz17_1,hcz17_2,hcz17_3,hcz17_4⟩:=qc5 BK439.out;obtain ⟨hfz17_0,hfz17_1,hfz17_2,hfz17_3,hfz17_4⟩:=qz5 BK439.out))
          show _;go_meet
          case rel=>exact ⟨_,(true),(by first|rfl|(simp;done)|(simp [*];done)),H',⟨by first|omega|exact Nat.le_refl _⟩,⟨by exact BK439.out⟩,⟨HB.out⟩⟩
        · rw [if_neg c14] at H
          have c14b0:decide (a0_4 < 0) = false:=decide_eq_false c14;clear c14;have H':=As0.mk H;clear H;obtain ⟨hcz18_0,hcz18_1,hcz18_2,hcz18_3,hcz18_4⟩:=qc5 BK439.out;obtain ⟨hfz18_0,hfz18_1,hfz18_2,hfz18_3,hfz18_4⟩:=qz5 BK439.out
          go_wp2_with (first|((with_reducible refine gca (f:=37) rfl ?_);refine gL (some 5) Tryd.func37 #[.string a0_0] ?_;(with_reducible refine (impl_isName.calls a0_0 true _ A4.out).mono ?_);rintro e w19 ⟨rfl,hb⟩;refine ⟨_,rfl,?_⟩;replace BK439:=As0.mk (bb hb BK439.out);replace HB:=As0.mk (bsp HB.out hb);clear hb;obtain ⟨hcz20_0,hcz20_1,hcz20_2,hcz20_3,hcz20_4⟩:=qc5 BK439.out;obtain ⟨hfz20_0,hfz20_1,hfz20_2,hfz20_3,hfz20_4⟩:=qz5 BK439.out))
          show _;go_meet
          case rel=>exact ⟨_,(decide (a0_4 > 99999)),(by first|rfl|(simp;done)|(simp [*];done)),H',⟨by first|omega|exact Nat.le_refl _⟩,⟨by exact BK439.out⟩,⟨HB.out⟩⟩
  · replace c5:=Bool.eq_false_iff.mpr c5
    subst c5;have H1:(impl_isSpace.j0 k true a0_0 a0_1 a0_2 a0_3 a0_4) = some r:=by rw [if_neg (show ¬ (false = true) by decide)] at H;exact H
    clear H;have H:=H1;clear H1;have H':=As0.mk H;clear H;obtain ⟨hcz21_0,hcz21_1,hcz21_2,hcz21_3,hcz21_4⟩:=qc5 BK439.out;obtain ⟨hfz21_0,hfz21_1,hfz21_2,hfz21_3,hfz21_4⟩:=qz5 BK439.out
    go_wp2_with (first|((with_reducible refine gca (f:=37) rfl ?_);refine gL (some 5) Tryd.func37 #[.string a0_0] ?_;(with_reducible refine (impl_isName.calls a0_0 false _ A4.out).mono ?_);rintro e w22 ⟨rfl,hb⟩;refine ⟨_,rfl,?_⟩;replace BK439:=As0.mk (bb hb BK439.out);replace HB:=As0.mk (bsp HB.out hb);clear hb))
    show _;go_meet
    case rel=>exact ⟨_,(true),(by first|rfl|(simp;done)|(simp [*];done)),H',⟨by first|omega|exact Nat.le_refl _⟩,⟨by exact BK439.out⟩,⟨HB.out⟩⟩
 case rest=>
  clear HC2
  try clear c1
  try clear p2
  try clear c3
  try clear c5
  try clear c6
  try clear c6b0
  try clear c10
  try clear c10b0
  try clear c14
  try clear c14b0
  try clear hcz11_0
  try clear hcz11_1
  try clear hcz11_2
  try clear hcz11_3
  try clear hcz11_4
  try clear hcz13_0
  try clear hcz13_1
  try clear hcz13_2
  try clear hcz13_3
  try clear hcz13_4
  try clear hcz15_0
  try clear hcz15_1
  try clear hcz15_2
  try clear hcz15_3
  try clear hcz15_4
  try clear hcz17_0
  try clear hcz17_1
  try clear hcz17_2
  try clear hcz17_3
  try clear hcz17_4
  try clear hcz18_0
  try clear hcz18_1
  try clear hcz18_2
  try clear hcz18_3
  try clear hcz18_4
  try clear hcz20_0
  try clear hcz20_1
  try clear hcz20_2
  try clear hcz20_3
  try clear hcz20_4
  try clear hcz21_0
  try clear hcz21_1
  try clear hcz21_2
  try clear hcz21_3
  try clear hcz21_4
  try clear hcz7_0
  try clear hcz7_1
  try clear hcz7_2
  try clear hcz7_3
  try clear hcz7_4
  try clear hcz9_0
  try clear hcz9_1
  try clear hcz9_2
  try clear hcz9_3
  try clear hcz9_4
  try clear hfz11_0
  try clear hfz11_1
  try clear hfz11_2
  try clear hfz11_3
  try clear hfz11_4
  try clear hfz13_0
  try clear hfz13_1
  try clear hfz13_2
  try clear hfz13_3
  try clear hfz13_4
  try clear hfz15_0
  try clear hfz15_1
  try clear hfz15_2
  try clear hfz15_3
  try clear hfz15_4
  try clear hfz17_0
  try clear hfz17_1
  try clear hfz17_2
  try clear hfz17_3
  try clear hfz17_4
  try clear hfz18_0
  try clear hfz18_1
  try clear hfz18_2
  try clear hfz18_3
  try clear hfz18_4
  try clear hfz20_0
  try clear hfz20_1
  try clear hfz20_2
  try clear hfz20_3
  try clear hfz20_4
  try clear hfz21_0
  try clear hfz21_1
  try clear hfz21_2
  try clear hfz21_3
  try clear hfz21_4
  try clear hfz7_0
  try clear hfz7_1
  try clear hfz7_2
  try clear hfz7_3
  try clear hfz7_4
  try clear hfz9_0
  try clear hfz9_1
  try clear hfz9_2
  try clear hfz9_3
  try clear hfz9_4
  obtain ⟨kq,x26_1,rfl,HA,HJ1,BK439,HB⟩:=hcut
  cases kq with
  |zero=>exact absurd HA.out (by simp [impl_isSpace.j0])
  |succ kj1=>
   have H:=HA.out;clear HA;simp only [impl_isSpace.j0] at H;by_cases c23:x26_1 = true
   · subst c23
     have H1:(some false) = some r:=by rw [if_pos rfl] at H;exact H
     clear H;have H:=H1;clear H1;obtain rfl:=Option.some.inj H
     go_wp2
     go_ret
     exact ⟨eW,HB.out⟩
   · replace c23:=Bool.eq_false_iff.mpr c23
     subst c23;have H1:(if a0_0.toList = ([97,108,108]:List UInt8) then (if a0_1.toList = ([]:List UInt8) then (some (!a0_3)) else (some false)) else ((impl_isName.f a0_1).bind fun t441=>(some t441))) = some r:=by rw [if_neg (show ¬ (false = true) by decide)] at H;exact H
     clear H;have H:=H1;clear H1;by_cases c24:a0_0.toList = ([97,108,108]:List UInt8)
     · rw [if_pos c24] at H
       have c24b0:(a0_0.toList == ([97,108,108]:List UInt8)) = true:=beq_iff_eq.mpr c24;have c24b1:(a0_0.toList != ([97,108,108]:List UInt8)) = false:=bne_eq_false_iff_eq.mpr c24;clear c24;by_cases c25:a0_1.toList = ([]:List UInt8)
       · rw [if_pos c25] at H
         have c25b0:(a0_1.toList == ([]:List UInt8)) = true:=beq_iff_eq.mpr c25;have c25b1:(a0_1.toList != ([]:List UInt8)) = false:=bne_eq_false_iff_eq.mpr c25;clear c25;obtain rfl:=Option.some.inj H;obtain ⟨hcz26_0,hcz26_1,hcz26_2,hcz26_3,hcz26_4⟩:=qc5 BK439.out;obtain ⟨hfz26_0,hfz26_1,hfz26_2,hfz26_3,hfz26_4⟩:=qz5 BK439.out
         go_wp2
         go_ret
         exact ⟨eW,HB.out⟩
       · rw [if_neg c25] at H
         have c25b0:(a0_1.toList == ([]:List UInt8)) = false:=beq_eq_false_iff_ne.mpr c25;have c25b1:(a0_1.toList != ([]:List UInt8)) = true:=bne_iff_ne.mpr c25;obtain rfl:=Option.some.inj H;obtain ⟨hcz27_0,hcz27_1,hcz27_2,hcz27_3,hcz27_4⟩:=qc5 BK439.out;obtain ⟨hfz27_0,hfz27_1,hfz27_2,hfz27_3,hfz27_4⟩:=qz5 BK439.out
         go_wp2
         go_ret
         exact ⟨eW,HB.out⟩
     · rw [if_neg c24] at H
       have c24b0:(a0_0.toList == ([97,108,108]:List UInt8)) = false:=beq_eq_false_iff_ne.mpr c24;have c24b1:(a0_0.toList != ([97,108,108]:List UInt8)) = true:=bne_iff_ne.mpr c24;replace H:=Option.bind_eq_some_iff.mp H;obtain ⟨t441,A280,H⟩:=H;(try dsimp only at H);have A28:=As0.mk A280;clear A280;obtain rfl:=Option.some.inj H;obtain ⟨hcz29_0,hcz29_1,hcz29_2,hcz29_3,hcz29_4⟩:=qc5 BK439.out;obtain ⟨hfz29_0,hfz29_1,hfz29_2,hfz29_3,hfz29_4⟩:=qz5 BK439.out
       go_wp2_with (first|((with_reducible refine gca (f:=37) rfl ?_);refine gL (some 40) Tryd.func37 #[.string a0_1] ?_;(with_reducible refine (impl_isName.calls a0_1 t441 _ A28.out).mono ?_);rintro e w30 ⟨rfl,hb⟩;refine ⟨_,rfl,?_⟩;replace BK439:=As0.mk (bb hb BK439.out);replace HB:=As0.mk (bsp HB.out hb);clear hb))
       go_ret
       exact ⟨eW,HB.out⟩
def fsp.p (nm:ByteArray) (x:SiS23):Bool:=(x.f0.toList == nm.toList)
set_option maxHeartbeats 4000000 in
theorem fsp.closure (x:SiS23) (nm:ByteArray) (gn:Nat) (b:Bool) (w:World) (hX:w.heap[gn]? = some (.cells #[.string nm] 9 (0,0))) (hb:fsp.p nm x = b) :
 Calls Tryd.prog 47 #[.agg #[.string x.f0,.string x.f1,.int .i64 x.f2,.bool x.f3,.int .i64 x.f4],.pointer (some ⟨gn,0,none⟩)] w fun r w'=>r = .returned (.bool b) ∧ Below w.heap.size w w':=by
 have hu:=Tryd.underlying30;have HX:=As0.mk hX;have HB:=As0.mk (Below.refl w.heap.size w);clear hX;unfold fsp.p at hb;subst hb
 go_enter Tryd.func47,Tryd.ntmps47
 go_wp2_with ((with_reducible refine gate_dst (N:=2) rfl ?_);refine bE 2 #[.string x.f0,.string x.f1,.int .i64 x.f2,.bool x.f3,.int .i64 x.f4] 30 ?_;intro gb hg w8 hbox hb;replace HB:=As0.mk (bsp HB.out hb);have BK:=As0.mk hbox;replace HX:=As0.mk (blk_below HX.out hb);clear hb hbox hg;have q0:w8.cell? ⟨gb,0,none⟩ = some (.string x.f0):=(bkC BK.out 0).trans rfl;have q1:w8.cell? ⟨gb,1,none⟩ = some (.string x.f1):=(bkC BK.out 1).trans rfl;have q2:w8.cell? ⟨gb,2,none⟩ = some (.int .i64 x.f2):=(bkC BK.out 2).trans rfl;have q3:w8.cell? ⟨gb,3,none⟩ = some (.bool x.f3):=(bkC BK.out 3).trans rfl;have q4:w8.cell? ⟨gb,4,none⟩ = some (.int .i64 x.f4):=(bkC BK.out 4).trans rfl;have u0:w8.cell? ⟨gn,0,none⟩ = some (.string nm):=(bkC HX.out 0).trans rfl)
 go_ret
 exact ⟨by first|rfl|(simp;done),by repeat (first|(with_reducible first|exact HB.out|apply pbN|apply bd1)|exact HB.out)⟩
def fsp.idx {α:Type} (p:α → Bool):List α → Int → Int
 |[],_=>-1
 |x :: r,i=>if p x = true then i else fsp.idx p r (i + 1)
set_option maxHeartbeats 4000000 in
set_option maxRecDepth 100000 in
theorem fsp.index (A:Option Addr) (c:Nat) (l:List (SiS23)) (nm:ByteArray) (gn:Nat) (r:Int) (w:World) (hr:Kd.C k30 w A l.length l) (hX:w.heap[gn]? = some (.cells #[.string nm] 9 (0,0))) (hR:fsp.idx (fsp.p nm) l 0 = r) :
 Calls Tryd.prog 46 #[.slice A l.length c,.func (.func 47) #[] #[.pointer (some ⟨gn,0,none⟩)]] w fun e w'=>e = .returned (.int .i64 r) ∧ Below w.heap.size w w':=by
 have hu:=Tryd.underlying30;have HR:=As0.mk hr;have HX:=As0.mk hX;clear hX;have HB:=As0.mk (Below.refl w.heap.size w);have HQ:=As0.mk hR;clear hr hR
 go_enter Tryd.func46,Tryd.ntmps46
 go_wp2
 show _;go_loopg [8] l.length (fun m v w'=>∃ i:Nat,v = .int .i64 (i:Int) ∧ As0 (i + m = l.length) ∧ As0 (fsp.idx (fsp.p nm) (l.drop i) (i:Int) = r) ∧ As0 (Below w.heap.size w w'))
 case atStart=>exact ⟨0,(by first|rfl|(simp;done)),⟨by simp⟩,⟨HQ.out⟩,HB⟩
 case round=>
  clear HB HQ;obtain ⟨i,rfl,HM,HI,HB⟩:=hrel;have hbound:l.length ≤ 9223372036854775807:=HR.out.2.1
  cases gk with
  |zero=>
   have hm:=HM.out;have t0:decide ((i:Int) < (l.length:Int)) = false:=decide_eq_false (by omega);have t1:decide (i < l.length) = false:=decide_eq_false (by omega);have HE:=As0.mk (show (-1:Int) = r by have h:=HI.out;rw [List.drop_of_length_le (by omega)] at h;exact h);clear hm HI HM hbound
   go_wp2
   go_ret
   exact ⟨by rw [← HE.out];first|done|rfl|(simp;done),HB.out⟩
  |succ k2=>
   have hm:=HM.out;have hi:i < l.length:=by omega
   have t0:decide ((i:Int) < (l.length:Int)) = true:=decide_eq_true (by omega);have t1:decide (i < l.length) = true:=decide_eq_true hi;have hx:riS26 l (i:Int) = l[i]:=by simp [riS26,List.getElem?_eq_getElem hi]
   have hd:l.drop i = riS26 l (i:Int) :: l.drop (i + 1):=by rw [hx];exact List.drop_eq_getElem_cons hi
   have hI:=HI.out;rw [hd,fsp.idx] at hI;obtain ⟨ad,e0,hx0,hx1,hx2,hx3,hx4⟩:=at_T30 HR.out (i:Int) (by omega) (by omega)
   cases e0
   replace hx0:=bx HB.out rfl hx0;replace hx1:=bx HB.out rfl hx1;replace hx2:=bx HB.out rfl hx2;replace hx3:=bx HB.out rfl hx3;replace hx4:=bx HB.out rfl hx4;simp only [Int.toNat_natCast] at hx0 hx1 hx2 hx3 hx4;have p0:(0 ≤ (i:Int)) = True:=eq_true (by omega);have q1:(i < l.length) = True:=eq_true hi;have q2:((i:Int) < (l.length:Int)) = True:=eq_true (by omega);have w0_:wrap64 ((i:Int) + 1) = ((i + 1:Nat):Int):=by unfold wrap64;omega
   have i0_:((i:Int)).toNat = i:=rfl;clear hx hd HI
   cases hp:(fsp.p nm) (riS26 l (i:Int)) with
   |true=>
    have HP:=As0.mk hp;have HE:=As0.mk (show (i:Int) = r by rw [hp] at hI;simpa using hI);clear hp hI hm hi HM w0_
    go_wp2_with (go_at_call 47;(with_reducible refine (fsp.closure _ nm gn _ _ (blk_below HX.out HB.out) HP.out).mono ?_);rintro e w' ⟨rfl,hb⟩;replace HB:=As0.mk (bsp HB.out hb);clear hb)
    go_ret
    exact ⟨by rw [← HE.out];first|done|rfl|(simp;done),by repeat (first|(with_reducible first|exact HB.out|apply pbN|apply bd1)|exact HB.out)⟩
   |false=>
    have HP:=As0.mk hp;have HE:=As0.mk (show fsp.idx (fsp.p nm) (l.drop (i + 1)) ((i:Int) + 1) = r by rw [hp] at hI;simpa using hI);have HM2:=As0.mk (show i + 1 + k2 = l.length by omega);have W0:=As0.mk w0_;clear hp hI hm hi HM w0_
    go_wp2_with (go_at_call 47;(with_reducible refine (fsp.closure _ nm gn _ _ (blk_below HX.out HB.out) HP.out).mono ?_);rintro e w' ⟨rfl,hb⟩;replace HB:=As0.mk (bsp HB.out hb);clear hb)
    show _;go_roundg k2
    case measure=>omega
    case rel=>exact ⟨i + 1,(by first|rw [W0.out]|(simp;done)),HM2,⟨HE.out⟩,⟨by repeat (first|(with_reducible first|exact HB.out|apply pbN|apply bd1)|exact HB.out)⟩⟩
def impl_Space.f (l:List (SiS23)) (nm:ByteArray):Option (Int):=some (fsp.idx (fsp.p nm) l 0)
theorem impl_Space.calls (A:Option Addr) (c:Nat) (l:List (SiS23)) (nm:ByteArray) (gn:Nat) (r:Int) (w:World) (hr:Kd.C k30 w A l.length l) (_:l.length ≤ c)
 (hX:w.heap[gn]? = some (.cells #[.string nm] 9 (0,0))) (h:impl_Space.f l nm = some r) :
 Calls Tryd.prog 46 #[.slice A l.length c,.func (.func 47) #[] #[.pointer (some ⟨gn,0,none⟩)]] w fun e w'=>e = .returned (.int .i64 r) ∧ Below w.heap.size w w':=
 fsp.index A c l nm gn r w hr hX (Option.some.inj h)
def impl_findSpace.f (l0:List (SiS23)) (a1:ByteArray):Option (Int):=(impl_Space.f l0 a1).bind fun t443=>(some t443)
set_option maxHeartbeats 40000000 in
set_option maxRecDepth 100000 in
theorem impl_findSpace.calls (A0:Option Addr) (c0:Nat) (l0:List (SiS23)) (a1:ByteArray) (r:Int) (w:World) (hr0:Kd.C k30 w A0 l0.length l0) (hc0:l0.length ≤ c0) (h:impl_findSpace.f l0 a1 = some r) :
 Calls Tryd.prog 35 #[.slice A0 l0.length c0,.string a1] w fun e w'=>e = .returned (.int .i64 r) ∧ Below w.heap.size w w':=by
 have HR0:=As0.mk hr0;have HC0:=As0.mk hc0;clear hr0 hc0;have HB:=As0.mk (Below.refl w.heap.size w);have H:((impl_Space.f l0 a1).bind fun t443=>(some t443)) = some r:=h;clear h;replace H:=Option.bind_eq_some_iff.mp H;obtain ⟨t443,A30,H⟩:=H;(try dsimp only at H);have A3:=As0.mk A30;clear A30;obtain rfl:=Option.some.inj H
 go_enter Tryd.func35,Tryd.ntmps35
 go_wp2_with (first|((with_reducible refine gate_dst (N:=3) rfl ?_);refine bE 3 #[.string a1] 9 ?_;intro gb442 hg w4 hbox hb;have BK442:=As0.mk (hbox);have GW442:=As0.mk ((by rw [hg];exact (bsz (by repeat (first|(with_reducible first|exact HB.out|apply bal|apply pbN|apply bd1)|exact HB.out))):w.heap.size ≤ gb442));have GE442:=GW442;replace HB:=As0.mk (b3 HB.out hb);clear hb hbox hg)|((with_reducible refine gca (f:=46) rfl ?_);refine gL (some 7) Tryd.func46 #[.slice A0 l0.length c0,.func (.func 47) #[] #[.pointer (some ⟨gb442,0,none⟩)]] ?_;(with_reducible refine (impl_Space.calls _ _ l0 a1 gb442 t443 _ ?side1 ?side2 ?side3 A3.out).mono ?_);(case side1=>repeat (first|exact (Kd.C_below HR0.out HB.out)|(with_reducible first|refine Kd.C_alloc ?_ _|refine Kd.C_drewN ?_ _|refine Kd.C_drew ?_)));(case side2=>exact HC0.out);(case side3=>exact (by (with_reducible repeat (first|refine bkN ?_ _|refine bkD ?_|refine bkA ?_ _));exact BK442.out));rintro e w5 ⟨rfl,hb⟩;refine ⟨_,rfl,?_⟩;replace BK442:=As0.mk (bb hb BK442.out);replace HB:=As0.mk (bsp (by repeat (first|(with_reducible first|exact HB.out|apply bal|apply pbN|apply bd1|refine bst ?_ GE442.out)|exact HB.out)) hb);clear hb))
 go_ret
 exact ⟨eW,by repeat (first|(with_reducible first|exact HB.out|apply bal|apply pbN|apply bd1|refine bst ?_ GE442.out)|exact HB.out)⟩
mutual
def impl_areSpaces.j0:Nat → List (SiS23) → Bool → Option (Bool)
 |0,_,_=>none
 |k + 1,x0,x16=>if x16 = true then (some false) else (impl_areSpaces.l0 k x0 x0 (x0.length:Int) 0)
def impl_areSpaces.l0:Nat → List (SiS23) → List (SiS23) → Int → Int → Option (Bool)
 |0,_,_,_,_=>none
 |k + 1,x0,x17,x18,x19=>if x19 < x18 then (if 0 ≤ x19 then (if x19 < (x17.length:Int) then ((impl_isSpace.f k ((riS26 x17 x19).f0) ((riS26 x17 x19).f1) ((riS26 x17 x19).f2) ((riS26 x17 x19).f3) ((riS26 x17 x19).f4)).bind fun t446=>(if t446 = true then (if x19 > 0 then (if 0 ≤ (wrap64 (x19 - 1)) then (if (wrap64 (x19 - 1)) < (x0.length:Int) then (if ((Op.bytesLess (((riS26 x0 (wrap64 (x19 - 1))).f0).toList) (((riS26 x17 x19).f0).toList)) = true) then (impl_areSpaces.l0 k x0 x17 x18 (wrap64 (x19 + 1))) else (some false)) else (none)) else (none)) else (impl_areSpaces.l0 k x0 x17 x18 (wrap64 (x19 + 1)))) else (some false))) else (none)) else (none)) else (impl_areSpaces.l1 k x0 x0 (x0.length:Int) 0)
def impl_areSpaces.l1:Nat → List (SiS23) → List (SiS23) → Int → Int → Option (Bool)
 |0,_,_,_,_=>none
 |k + 1,x0,x43,x44,x45=>if x45 < x44 then (if 0 ≤ x45 then (if x45 < (x43.length:Int) then (impl_areSpaces.l2 k x0 x43 x44 x45 (x0.length:Int) 0 ((riS26 x43 x45).f0) ((riS26 x43 x45).f1) ((riS26 x43 x45).f2) ((riS26 x43 x45).f3) ((riS26 x43 x45).f4)) else (none)) else (none)) else (some true)
def impl_areSpaces.l2:Nat → List (SiS23) → List (SiS23) → Int → Int → Int → Int → ByteArray → ByteArray → Int → Bool → Int → Option (Bool)
 |0,_,_,_,_,_,_,_,_,_,_,_=>none
 |k + 1,x0,x43,x44,x45,x51,x52,x451000,x451001,x451002,x451003,x451004=>if x52 < x51 then ((impl_findSpace.f x0 x451001).bind fun t451=>(if t451 ≥ 0 then (if 0 ≤ t451 then (if t451 < (x0.length:Int) then (impl_areSpaces.l2 k x0 x43 x44 x45 x51 (wrap64 (x52 + 1)) ((riS26 x0 t451).f0) ((riS26 x0 t451).f1) ((riS26 x0 t451).f2) ((riS26 x0 t451).f3) ((riS26 x0 t451).f4)) else (none)) else (none)) else (impl_areSpaces.l2 k x0 x43 x44 x45 x51 (wrap64 (x52 + 1)) x451000 x451001 x451002 x451003 x451004))) else (if x451000.toList = ([97,108,108]:List UInt8) then (impl_areSpaces.l1 k x0 x43 x44 (wrap64 (x45 + 1))) else (some false))
end
def impl_areSpaces.f (k:Nat) (l0:List (SiS23)):Option (Bool):=if (l0.length:Int) < 1 then (impl_areSpaces.j0 k l0 true) else (impl_areSpaces.j0 k l0 (decide ((l0.length:Int) > 7)))
def impl_areSpaces.T6:Bool × List (List Nat × List Nat):=(true,[([],[]),([0],[0]),([1],[1]),([2,1],[2]),([3],[3]),([4,3],[3,4]),([5,3,3],[3,5]),([6],[6]),([6],[6]),([8,6],[6,8]),([7,9,6],[6,7,9]),([10,6],[6,10]),([11,6],[6,11]),([6],[6]),([13,6],[6,13]),([12,14,6],[6,12,14]),([6,15,3],[3,6,15]),([3,16],[3,16])])
def impl_areSpaces.B6:List Nat:=[0,1,3,7,15,31,63,127,127,383,1023,2047,4095,127,8319,32767,65535,131071]
theorem impl_areSpaces.tab6:rtab .any (opsOf Tryd.f17 6) = impl_areSpaces.T6:=by kernel_rfl
theorem impl_areSpaces.bits6:waitsOk impl_areSpaces.T6.2 impl_areSpaces.B6 = true:=by kernel_rfl
abbrev impl_areSpaces.calls.a0:Array Bool:=#[false,false,false,false,false,false,false,false,false,false,false,false,false,false,false,false,false,false]
abbrev impl_areSpaces.calls.a1:Array Bool:=#[true,false,false,false,false,false,false,false,false,false,false,false,false,false,false,false,false,false]
abbrev impl_areSpaces.calls.a2:Array Bool:=#[true,true,false,false,false,false,false,false,false,false,false,false,false,false,false,false,false,false]
abbrev impl_areSpaces.calls.a3:Array Bool:=#[true,true,true,false,false,false,false,false,false,false,false,false,false,false,false,false,false,false]
abbrev impl_areSpaces.calls.a4:Array Bool:=#[true,true,true,true,false,false,false,false,false,false,false,false,false,false,false,false,false,false]
abbrev impl_areSpaces.calls.a5:Array Bool:=#[true,true,true,true,true,false,false,false,false,false,false,false,false,false,false,false,false,false]
abbrev impl_areSpaces.calls.a6:Array Bool:=#[true,true,true,true,true,true,false,false,false,false,false,false,false,false,false,false,false,false]
abbrev impl_areSpaces.calls.a7:Array Bool:=#[true,true,true,true,true,true,true,false,false,false,false,false,false,false,false,false,false,false]
abbrev impl_areSpaces.calls.a8:Array Bool:=#[true,true,true,true,true,true,true,true,false,false,false,false,false,false,false,false,false,false]
abbrev impl_areSpaces.calls.a9:Array Bool:=#[true,true,true,true,true,true,true,true,true,false,false,false,false,false,false,false,false,false]
abbrev impl_areSpaces.calls.a10:Array Bool:=#[true,true,true,true,true,true,true,true,true,true,false,false,false,false,false,false,false,false]
abbrev impl_areSpaces.calls.a11:Array Bool:=#[true,true,true,true,true,true,true,true,true,true,true,false,false,false,false,false,false,false]
abbrev impl_areSpaces.calls.a12:Array Bool:=#[true,true,true,true,true,true,true,true,true,true,true,true,false,false,false,false,false,false]
abbrev impl_areSpaces.calls.a13:Array Bool:=#[true,true,true,true,true,true,true,true,true,true,true,true,true,true,false,false,false,false]
abbrev impl_areSpaces.calls.a14:Array Bool:=#[true,true,true,true,true,true,true,true,true,true,true,true,true,true,true,false,false,false]
abbrev impl_areSpaces.calls.a15:Array Bool:=#[true,true,true,true,true,true,true,true,true,true,true,true,true,true,true,true,false,false]
abbrev impl_areSpaces.calls.a16:Array Bool:=#[true,true,true,true,true,true,true,true,true,true,true,true,true,true,true,true,true,false]
abbrev impl_areSpaces.calls.a17:Array Bool:=#[true,true,true,true,true,true,true,true,true,true,true,true,true,true,true,true,true,true]
set_option maxHeartbeats 40000000 in
set_option maxRecDepth 100000 in
theorem impl_areSpaces.calls (k:Nat) (A0:Option Addr) (c0:Nat) (l0:List (SiS23)) (r:Bool) (w:World) (hr0:Kd.C k30 w A0 l0.length l0) (hc0:l0.length ≤ c0) (h:impl_areSpaces.f k l0 = some r) :
 Calls Tryd.prog 17 #[.slice A0 l0.length c0] w fun e w'=>e = .returned (.bool r) ∧ Below w.heap.size w w':=by
 have hu30:=Tryd.underlying30;have HR0:=As0.mk hr0;have HC0:=As0.mk hc0;clear hr0 hc0;have HB:=As0.mk (Below.refl w.heap.size w);have H:(if (l0.length:Int) < 1 then (impl_areSpaces.j0 k l0 true) else (impl_areSpaces.j0 k l0 (decide ((l0.length:Int) > 7)))) = some r:=h;clear h;have HC2:=As0.mk H;clear H
 go_enter Tryd.func17,Tryd.ntmps17
 show _;go_upto_region 1 with (fail)
 show _;go_cut [16] (fun v16 wc=>∃ (kq:Nat) (x16_1:Bool),v16 = .bool x16_1 ∧ As0 (impl_areSpaces.j0 kq l0 x16_1 = some r) ∧ As0 (kq ≤ k) ∧ As0 (Below w.heap.size w wc))
 case first=>
  have H:=HC2.out;clear HC2;by_cases c3:(l0.length:Int) < 1
  · rw [if_pos c3] at H
    have c3b0:decide ((l0.length:Int) < 1) = true:=decide_eq_true c3;have c3b1:decide (l0.length < 1) = true:=decide_eq_true (by omega);clear c3
    (first|rw [c3b0]|(simp only [i64_w,i32_w];rw [c3b0])|skip)
    have H':=As0.mk H;clear H
    go_wp2
    show _;go_meet
    case rel=>exact ⟨_,(true),(by first|rfl|(simp;done)|(simp [*];done)),H',⟨by first|omega|exact Nat.le_refl _⟩,⟨HB.out⟩⟩
  · rw [if_neg c3] at H
    have c3b0:decide ((l0.length:Int) < 1) = false:=decide_eq_false c3;have c3b1:decide (l0.length < 1) = false:=decide_eq_false (by omega);clear c3
    (first|rw [c3b0]|(simp only [i64_w,i32_w];rw [c3b0])|skip)
    have H':=As0.mk H;clear H
    go_wp2
    show _;go_meet
    case rel=>exact ⟨_,(decide ((l0.length:Int) > 7)),(by first|rfl|(simp;done)|(simp [*];done)),H',⟨by first|omega|exact Nat.le_refl _⟩,⟨HB.out⟩⟩
 case rest=>
  clear HC2
  try clear c1
  try clear p2
  try clear c3
  try clear c3b0
  try clear c3b1
  obtain ⟨kq,x16_1,rfl,HA,HJ1,HB⟩:=hcut
  cases kq with
  |zero=>exact absurd HA.out (by simp [impl_areSpaces.j0])
  |succ kj1=>
   have H:=HA.out;clear HA;simp only [impl_areSpaces.j0] at H;by_cases c4:x16_1 = true
   · subst c4
     have H1:(some false) = some r:=by rw [if_pos rfl] at H;exact H
     clear H;have H:=H1;clear H1;obtain rfl:=Option.some.inj H
     go_wp2
     go_ret
     exact ⟨eW,HB.out⟩
   · replace c4:=Bool.eq_false_iff.mpr c4
     subst c4;have H1:(impl_areSpaces.l0 kj1 l0 l0 (l0.length:Int) 0) = some r:=by rw [if_neg (show ¬ (false = true) by decide)] at H;exact H
     clear H;have H:=H1;clear H1;have H':=As0.mk H;clear H
     go_wp2
     show _;go_loopg [19] kj1 (fun kq v19 w'=>∃ (x19_2:Int),v19 = .int .i64 x19_2 ∧ As0 (impl_areSpaces.l0 kq l0 l0 (l0.length:Int) x19_2 = some r) ∧ As0 (kq ≤ kj1) ∧ As0 (Below w.heap.size w w'))
     case atStart=>exact ⟨(0),(by first|rfl|(simp;done)|(simp [*];done)),H',⟨Nat.le_refl _⟩,⟨HB.out⟩⟩
     case round=>
      clear H'
      try clear c1
      try clear p2
      try clear c3
      try clear c3b0
      try clear c3b1
      try clear c4
      try clear p2
      obtain ⟨x19_2,rfl,HA,HK2,HB⟩:=hrel
      cases gk with
      |zero=>exact absurd HA.out (by simp [impl_areSpaces.l0])
      |succ k2=>
       have H:=HA.out;clear HA;simp only [impl_areSpaces.l0] at H;by_cases c5:x19_2 < (l0.length:Int)
       · rw [if_pos c5] at H
         have c5b0:decide (x19_2 < (l0.length:Int)) = true:=decide_eq_true c5;clear c5;by_cases c6:0 ≤ x19_2
         · rw [if_pos c6] at H
           have c6b0:decide (0 ≤ x19_2) = true:=decide_eq_true c6;clear c6;by_cases c7:x19_2 < (l0.length:Int)
           · rw [if_pos c7] at H
             have c7b0:decide (x19_2 < (l0.length:Int)) = true:=decide_eq_true c7;clear c7;replace H:=Option.bind_eq_some_iff.mp H;obtain ⟨t446,A80,H⟩:=H;(try dsimp only at H);have A8:=As0.mk A80;clear A80;by_cases c9:t446 = true
             · subst c9
               have H1:(if x19_2 > 0 then (if 0 ≤ (wrap64 (x19_2 - 1)) then (if (wrap64 (x19_2 - 1)) < (l0.length:Int) then (if ((Op.bytesLess (((riS26 l0 (wrap64 (x19_2 - 1))).f0).toList) (((riS26 l0 x19_2).f0).toList)) = true) then (impl_areSpaces.l0 k2 l0 l0 (l0.length:Int) (wrap64 (x19_2 + 1))) else (some false)) else (none)) else (none)) else (impl_areSpaces.l0 k2 l0 l0 (l0.length:Int) (wrap64 (x19_2 + 1)))) = some r:=by rw [if_pos rfl] at H;exact H
               clear H;have H:=H1;clear H1;by_cases c10:x19_2 > 0
               · rw [if_pos c10] at H
                 have c10b0:decide (0 < x19_2) = true:=decide_eq_true c10;clear c10;obtain ⟨ji11,hji11⟩:∃ j_:Int,(wrap64 (x19_2 - 1)) = j_:=⟨_,rfl⟩;replace H:(if 0 ≤ (ji11) then (if (ji11) < (l0.length:Int) then (if ((Op.bytesLess (((riS26 l0 (ji11)).f0).toList) (((riS26 l0 x19_2).f0).toList)) = true) then (impl_areSpaces.l0 k2 l0 l0 (l0.length:Int) (wrap64 (x19_2 + 1))) else (some false)) else (none)) else (none)) = some r:=by first|(rw [hji11] at H;exact H)|(simp only [hji11] at H ⊢;exact H)
                 (try rw [hji11] at A8)
                 have hji11w:(IntKind.i64.wrap (x19_2 - 1)) = ji11:=(i64_w _).trans hji11;by_cases c12:0 ≤ (ji11)
                 · rw [if_pos c12] at H
                   have c12b0:decide (0 ≤ (ji11)) = true:=decide_eq_true c12;clear c12;by_cases c13:(ji11) < (l0.length:Int)
                   · rw [if_pos c13] at H
                     have c13b0:decide ((ji11) < (l0.length:Int)) = true:=decide_eq_true c13;clear c13;by_cases c14:((Op.bytesLess (((riS26 l0 (ji11)).f0).toList) (((riS26 l0 x19_2).f0).toList)) = true)
                     · rw [if_pos c14] at H
                       have c14b0:(Op.bytesLess (((riS26 l0 (ji11)).f0).toList) (((riS26 l0 x19_2).f0).toList)) = true:=c14;clear c14;have H':=As0.mk H;clear H;have p444:0 ≤ (x19_2:Int):=odt;have q444:x19_2 < (l0.length:Int):=odt;obtain ⟨ad444,e444,hx444_0,hx444_1,hx444_2,hx444_3,hx444_4⟩:=at_T30 HR0.out x19_2 p444 q444
                       cases e444
                       replace hx444_0:=bx HB.out rfl hx444_0;replace hx444_1:=bx HB.out rfl hx444_1;replace hx444_2:=bx HB.out rfl hx444_2;replace hx444_3:=bx HB.out rfl hx444_3;replace hx444_4:=bx HB.out rfl hx444_4;replace p444:=eq_true p444;replace q444:=eq_true q444
                       try go_wp2_with (first|((with_reducible refine gate_dst (N:=4) rfl ?_);(try (refine gate_guard (by rfl) ?_;dsimp only));refine bE 4 #[.string ⟨#[]⟩,.string ⟨#[]⟩,.int .i64 0,.bool false,.int .i64 0] 30 ?_;intro gb445 hg w15 hbox hb;have BK445:=As0.mk (hbox);have GW445:=As0.mk ((by rw [hg];exact (bsz HB.out):w.heap.size ≤ gb445));have GE445:=GW445;replace HB:=As0.mk (bsp HB.out hb);clear hb hbox hg;obtain ⟨hcz16_0,hcz16_1,hcz16_2,hcz16_3,hcz16_4⟩:=qc5 BK445.out;obtain ⟨hfz16_0,hfz16_1,hfz16_2,hfz16_3,hfz16_4⟩:=qz5 BK445.out))
                       have n0_:As0 ((((((w15.setCell ⟨gb445,0,none⟩ (.string ((riS26 l0 x19_2).f0))).setCell ⟨gb445,1,none⟩ (.string ((riS26 l0 x19_2).f1))).setCell ⟨gb445,2,none⟩ (.int .i64 ((riS26 l0 x19_2).f2))).setCell ⟨gb445,3,none⟩ (.bool ((riS26 l0 x19_2).f3))).setCell ⟨gb445,4,none⟩ (.int .i64 ((riS26 l0 x19_2).f4))).heap[gb445]? = some (.cells #[.string ((riS26 l0 x19_2).f0),.string ((riS26 l0 x19_2).f1),.int .i64 ((riS26 l0 x19_2).f2),.bool ((riS26 l0 x19_2).f3),.int .i64 ((riS26 l0 x19_2).f4)] 30 (0,0))):=⟨by (with_reducible repeat (first|refine bkN ?_ _|refine bkD ?_|refine bkA ?_ _));refine blk_put (cs:=#[.string ((riS26 l0 x19_2).f0),.string ((riS26 l0 x19_2).f1),.int .i64 ((riS26 l0 x19_2).f2),.bool ((riS26 l0 x19_2).f3),.int .i64 0]) ?_ 4 _ rfl;(with_reducible repeat (first|refine bkN ?_ _|refine bkD ?_|refine bkA ?_ _));refine blk_put (cs:=#[.string ((riS26 l0 x19_2).f0),.string ((riS26 l0 x19_2).f1),.int .i64 ((riS26 l0 x19_2).f2),.bool false,.int .i64 0]) ?_ 3 _ rfl;(with_reducible repeat (first|refine bkN ?_ _|refine bkD ?_|refine bkA ?_ _));refine blk_put (cs:=#[.string ((riS26 l0 x19_2).f0),.string ((riS26 l0 x19_2).f1),.int .i64 0,.bool false,.int .i64 0]) ?_ 2 _ rfl;(with_reducible repeat (first|refine bkN ?_ _|refine bkD ?_|refine bkA ?_ _));refine blk_put (cs:=#[.string ((riS26 l0 x19_2).f0),.string ⟨#[]⟩,.int .i64 0,.bool false,.int .i64 0]) ?_ 1 _ rfl;(with_reducible repeat (first|refine bkN ?_ _|refine bkD ?_|refine bkA ?_ _));refine blk_put (cs:=#[.string ⟨#[]⟩,.string ⟨#[]⟩,.int .i64 0,.bool false,.int .i64 0]) ?_ 0 _ rfl;exact BK445.out⟩;have n1_:As0 (Below w.heap.size w (((((w15.setCell ⟨gb445,0,none⟩ (.string ((riS26 l0 x19_2).f0))).setCell ⟨gb445,1,none⟩ (.string ((riS26 l0 x19_2).f1))).setCell ⟨gb445,2,none⟩ (.int .i64 ((riS26 l0 x19_2).f2))).setCell ⟨gb445,3,none⟩ (.bool ((riS26 l0 x19_2).f3))).setCell ⟨gb445,4,none⟩ (.int .i64 ((riS26 l0 x19_2).f4)))):=⟨by repeat (first|(with_reducible first|exact HB.out|apply bal|apply pbN|apply bd1|refine bst ?_ GE445.out)|exact HB.out)⟩
                       (try clear BK445)
                       (try clear HB)
                       (try rw [Opens.setCell_drewN])
                       generalize (((((w15.setCell ⟨gb445,0,none⟩ (.string ((riS26 l0 x19_2).f0))).setCell ⟨gb445,1,none⟩ (.string ((riS26 l0 x19_2).f1))).setCell ⟨gb445,2,none⟩ (.int .i64 ((riS26 l0 x19_2).f2))).setCell ⟨gb445,3,none⟩ (.bool ((riS26 l0 x19_2).f3))).setCell ⟨gb445,4,none⟩ (.int .i64 ((riS26 l0 x19_2).f4))) = w17 at n0_ n1_ ⊢
                       have BK445:=n0_;have HB:=n1_;clear n0_ n1_;replace BK445:=As0.mk (bkD BK445.out);replace HB:=As0.mk (bd1 HB.out);have p447:0 ≤ ((ji11):Int):=odt;have q447:(ji11) < (l0.length:Int):=odt;obtain ⟨ad447,e447,hx447_0,hx447_1,hx447_2,hx447_3,hx447_4⟩:=at_T30 HR0.out (ji11) p447 q447;have hw447_4:=hx447_4;have hw447_3:=hx447_3;have hw447_2:=hx447_2;have hw447_1:=hx447_1;have hw447_0:=hx447_0;obtain rfl:ad444 = ad447:=(by injection e447);replace hx447_0:=bx HB.out rfl hx447_0;replace hx447_1:=bx HB.out rfl hx447_1;replace hx447_2:=bx HB.out rfl hx447_2;replace hx447_3:=bx HB.out rfl hx447_3;replace hx447_4:=bx HB.out rfl hx447_4;replace p447:=eq_true p447;replace q447:=eq_true q447;refine start_ (n:=18) (S:=fun w'=>w'.cell? ⟨gb445,0,none⟩ = some (.string ((riS26 l0 x19_2).f0)) ∧ w'.cell? ⟨gb445,1,none⟩ = some (.string ((riS26 l0 x19_2).f1)) ∧ w'.cell? ⟨gb445,2,none⟩ = some (.int .i64 ((riS26 l0 x19_2).f2)) ∧ w'.cell? ⟨gb445,3,none⟩ = some (.bool ((riS26 l0 x19_2).f3)) ∧ w'.cell? ⟨gb445,4,none⟩ = some (.int .i64 ((riS26 l0 x19_2).f4)) ∧ w'.cell? (ad444.add (((ji11)).toNat * 5)) = some (.string ((riS26 l0 (ji11)).f0)) ∧ w'.cell? ⟨(ad444.add (((ji11)).toNat * 5)).block,(ad444.add (((ji11)).toNat * 5)).off + 1,none⟩ = some (.string ((riS26 l0 (ji11)).f1)) ∧ w'.cell? ⟨(ad444.add (((ji11)).toNat * 5)).block,(ad444.add (((ji11)).toNat * 5)).off + 2,none⟩ = some (.int .i64 ((riS26 l0 (ji11)).f2)) ∧ w'.cell? ⟨(ad444.add (((ji11)).toNat * 5)).block,(ad444.add (((ji11)).toNat * 5)).off + 3,none⟩ = some (.bool ((riS26 l0 (ji11)).f3)) ∧ w'.cell? ⟨(ad444.add (((ji11)).toNat * 5)).block,(ad444.add (((ji11)).toNat * 5)).off + 4,none⟩ = some (.int .i64 ((riS26 l0 (ji11)).f4))) (ds:=[]) impl_areSpaces.calls.a0 (by kernel_rfl) rfl rfl ⟨(bkC BK445.out 0).trans rfl,(bkC BK445.out 1).trans rfl,(bkC BK445.out 2).trans rfl,(bkC BK445.out 3).trans rfl,(bkC BK445.out 4).trans rfl,((HB.out.cell (World.block_lt_of_cell? w _ hw447_0)).trans hw447_0),((HB.out.cell (World.block_lt_of_cell? w _ hw447_1)).trans hw447_1),((HB.out.cell (World.block_lt_of_cell? w _ hw447_2)).trans hw447_2),((HB.out.cell (World.block_lt_of_cell? w _ hw447_3)).trans hw447_3),((HB.out.cell (World.block_lt_of_cell? w _ hw447_4)).trans hw447_4)⟩ (fun hHeld=>?_);refine with_tabW impl_areSpaces.tab6 impl_areSpaces.bits6 (fun HT_ HW_=>?_);generalize w17.drew = w18 at BK445 HB hx447_0 hx447_1 hx447_2 hx447_3 hx447_4 hHeld ⊢
                       refine tk 0 (some 24) impl_areSpaces.calls.a1 rfl rfl HT_.out HW_.out hHeld (by rintro w' ⟨s0,s1,s2,s3,s4,s5,s6,s7,s8,s9⟩;go_simp;with_reducible rfl) ?_;refine one_ (i:=1) (N:=some 25) impl_areSpaces.calls.a2 rfl rfl (one_of HT_.out (by kernel_rfl)) (by decide) (fun K hK=>?_);refine goes_ Tryd.func34 (by kernel_rfl) rfl #[.agg #[.string ((riS26 l0 x19_2).f0),.string ((riS26 l0 x19_2).f1),.int .i64 ((riS26 l0 x19_2).f2),.bool ((riS26 l0 x19_2).f3),.int .i64 ((riS26 l0 x19_2).f4)]] (by rfl) rfl rfl (by (try simp only [List.map_toArray,List.map_cons,List.map_nil]);first|done|rfl|(simp only [List.length_drop,List.length_take];rfl)) ?_;with_reducible refine (impl_isSpace.calls k2 ((riS26 l0 x19_2).f0) ((riS26 l0 x19_2).f1) ((riS26 l0 x19_2).f2) ((riS26 l0 x19_2).f3) ((riS26 l0 x19_2).f4) true _ A8.out).mono ?_
                       rintro e w19 ⟨rfl,hb⟩;refine ⟨_,rfl,?_⟩;replace BK445:=As0.mk (bb hb BK445.out);replace HB:=As0.mk (bsp HB.out hb)
                            
                            
                            
                            
                       refine hK.out _ _ ⟨(bkC BK445.out 0).trans rfl,(bkC BK445.out 1).trans rfl,(bkC BK445.out 2).trans rfl,(bkC BK445.out 3).trans rfl,(bkC BK445.out 4).trans rfl,((HB.out.cell (World.block_lt_of_cell? w _ hw447_0)).trans hw447_0),((HB.out.cell (World.block_lt_of_cell? w _ hw447_1)).trans hw447_1),((HB.out.cell (World.block_lt_of_cell? w _ hw447_2)).trans hw447_2),((HB.out.cell (World.block_lt_of_cell? w _ hw447_3)).trans hw447_3),((HB.out.cell (World.block_lt_of_cell? w _ hw447_4)).trans hw447_4)⟩ (fun hHeld=>?_);clear hK K;refine norm_ (a':=?_) ?_ ?_;rotate_left
                       · show Act.put _ (some 25) _ = _
                         simp only [Act.put,sA,sZ,sS,i64_w,i32_w];rfl
                       refine pu 2 (some 26) impl_areSpaces.calls.a3 rfl rfl HT_.out ?_;refine pu 3 (some 27) impl_areSpaces.calls.a4 rfl rfl HT_.out ?_;refine pu 4 (some 28) impl_areSpaces.calls.a5 rfl rfl HT_.out ?_;refine pu 5 (some 29) impl_areSpaces.calls.a6 rfl rfl HT_.out ?_;refine pu 6 (some 30) impl_areSpaces.calls.a7 rfl rfl HT_.out ?_;refine pu 7 (some 31) impl_areSpaces.calls.a8 rfl rfl HT_.out ?_;refine pu 8 (some 32) impl_areSpaces.calls.a9 rfl rfl HT_.out ?_;refine pu 9 (some 33) impl_areSpaces.calls.a10 rfl rfl HT_.out ?_;refine pu 10 (some 34) impl_areSpaces.calls.a11 rfl rfl HT_.out ?_;refine pu 11 (some 35) impl_areSpaces.calls.a12 rfl rfl HT_.out ?_;refine pu 13 (some 37) #[true,true,true,true,true,true,true,true,true,true,true,true,false,true,false,false,false,false] rfl rfl HT_.out ?_;refine tk 12 (some 36) impl_areSpaces.calls.a13 rfl rfl HT_.out HW_.out hHeld (by rintro w' ⟨s0,s1,s2,s3,s4,s5,s6,s7,s8,s9⟩;go_simp;with_reducible rfl) ?_;refine tk 14 (some 38) impl_areSpaces.calls.a14 rfl rfl HT_.out HW_.out hHeld (by rintro w' ⟨s0,s1,s2,s3,s4,s5,s6,s7,s8,s9⟩;go_simp;with_reducible rfl) ?_;refine pu 15 (some 39) impl_areSpaces.calls.a15 rfl rfl HT_.out ?_;refine pu 16 (some 40) impl_areSpaces.calls.a16 rfl rfl HT_.out ?_;refine pu 17 (some 41) impl_areSpaces.calls.a17 rfl rfl HT_.out ?_;refine done_ (done_of HT_.out (by kernel_rfl)) ?_
                       try go_wp2
                       show _;go_roundg k2
                       case measure=>have:=HJ1.out;have:=HK2.out;omega
                       case rel=>exact ⟨(wrap64 (x19_2 + 1)),(by first|rfl|(simp;done)|(simp [*];done)),H',⟨by have:=HJ1.out;have:=HK2.out;omega⟩,⟨HB.out⟩⟩
                     · rw [if_neg c14] at H
                       have c14b0:(Op.bytesLess (((riS26 l0 (ji11)).f0).toList) (((riS26 l0 x19_2).f0).toList)) = false:=by simpa using c14
                       clear c14;obtain rfl:=Option.some.inj H;have p444:0 ≤ (x19_2:Int):=odt;have q444:x19_2 < (l0.length:Int):=odt;obtain ⟨ad444,e444,hx444_0,hx444_1,hx444_2,hx444_3,hx444_4⟩:=at_T30 HR0.out x19_2 p444 q444
                       cases e444
                       replace hx444_0:=bx HB.out rfl hx444_0;replace hx444_1:=bx HB.out rfl hx444_1;replace hx444_2:=bx HB.out rfl hx444_2;replace hx444_3:=bx HB.out rfl hx444_3;replace hx444_4:=bx HB.out rfl hx444_4;replace p444:=eq_true p444;replace q444:=eq_true q444
                       try go_wp2_with (first|((with_reducible refine gate_dst (N:=4) rfl ?_);(try (refine gate_guard (by rfl) ?_;dsimp only));refine bE 4 #[.string ⟨#[]⟩,.string ⟨#[]⟩,.int .i64 0,.bool false,.int .i64 0] 30 ?_;intro gb445 hg w20 hbox hb;have BK445:=As0.mk (hbox);have GW445:=As0.mk ((by rw [hg];exact (bsz HB.out):w.heap.size ≤ gb445));have GE445:=GW445;replace HB:=As0.mk (bsp HB.out hb);clear hb hbox hg;obtain ⟨hcz21_0,hcz21_1,hcz21_2,hcz21_3,hcz21_4⟩:=qc5 BK445.out;obtain ⟨hfz21_0,hfz21_1,hfz21_2,hfz21_3,hfz21_4⟩:=qz5 BK445.out))
                       have n0_:As0 ((((((w20.setCell ⟨gb445,0,none⟩ (.string ((riS26 l0 x19_2).f0))).setCell ⟨gb445,1,none⟩ (.string ((riS26 l0 x19_2).f1))).setCell ⟨gb445,2,none⟩ (.int .i64 ((riS26 l0 x19_2).f2))).setCell ⟨gb445,3,none⟩ (.bool ((riS26 l0 x19_2).f3))).setCell ⟨gb445,4,none⟩ (.int .i64 ((riS26 l0 x19_2).f4))).heap[gb445]? = some (.cells #[.string ((riS26 l0 x19_2).f0),.string ((riS26 l0 x19_2).f1),.int .i64 ((riS26 l0 x19_2).f2),.bool ((riS26 l0 x19_2).f3),.int .i64 ((riS26 l0 x19_2).f4)] 30 (0,0))):=⟨by (with_reducible repeat (first|refine bkN ?_ _|refine bkD ?_|refine bkA ?_ _));refine blk_put (cs:=#[.string ((riS26 l0 x19_2).f0),.string ((riS26 l0 x19_2).f1),.int .i64 ((riS26 l0 x19_2).f2),.bool ((riS26 l0 x19_2).f3),.int .i64 0]) ?_ 4 _ rfl;(with_reducible repeat (first|refine bkN ?_ _|refine bkD ?_|refine bkA ?_ _));refine blk_put (cs:=#[.string ((riS26 l0 x19_2).f0),.string ((riS26 l0 x19_2).f1),.int .i64 ((riS26 l0 x19_2).f2),.bool false,.int .i64 0]) ?_ 3 _ rfl;(with_reducible repeat (first|refine bkN ?_ _|refine bkD ?_|refine bkA ?_ _));refine blk_put (cs:=#[.string ((riS26 l0 x19_2).f0),.string ((riS26 l0 x19_2).f1),.int .i64 0,.bool false,.int .i64 0]) ?_ 2 _ rfl;(with_reducible repeat (first|refine bkN ?_ _|refine bkD ?_|refine bkA ?_ _));refine blk_put (cs:=#[.string ((riS26 l0 x19_2).f0),.string ⟨#[]⟩,.int .i64 0,.bool false,.int .i64 0]) ?_ 1 _ rfl;(with_reducible repeat (first|refine bkN ?_ _|refine bkD ?_|refine bkA ?_ _));refine blk_put (cs:=#[.string ⟨#[]⟩,.string ⟨#[]⟩,.int .i64 0,.bool false,.int .i64 0]) ?_ 0 _ rfl;exact BK445.out⟩;have n1_:As0 (Below w.heap.size w (((((w20.setCell ⟨gb445,0,none⟩ (.string ((riS26 l0 x19_2).f0))).setCell ⟨gb445,1,none⟩ (.string ((riS26 l0 x19_2).f1))).setCell ⟨gb445,2,none⟩ (.int .i64 ((riS26 l0 x19_2).f2))).setCell ⟨gb445,3,none⟩ (.bool ((riS26 l0 x19_2).f3))).setCell ⟨gb445,4,none⟩ (.int .i64 ((riS26 l0 x19_2).f4)))):=⟨by repeat (first|(with_reducible first|exact HB.out|apply bal|apply pbN|apply bd1|refine bst ?_ GE445.out)|exact HB.out)⟩
                       (try clear BK445)
                       (try clear HB)
                       (try rw [Opens.setCell_drewN])
                       generalize (((((w20.setCell ⟨gb445,0,none⟩ (.string ((riS26 l0 x19_2).f0))).setCell ⟨gb445,1,none⟩ (.string ((riS26 l0 x19_2).f1))).setCell ⟨gb445,2,none⟩ (.int .i64 ((riS26 l0 x19_2).f2))).setCell ⟨gb445,3,none⟩ (.bool ((riS26 l0 x19_2).f3))).setCell ⟨gb445,4,none⟩ (.int .i64 ((riS26 l0 x19_2).f4))) = w22 at n0_ n1_ ⊢
                       have BK445:=n0_;have HB:=n1_;clear n0_ n1_;replace BK445:=As0.mk (bkD BK445.out);replace HB:=As0.mk (bd1 HB.out);have p447:0 ≤ ((ji11):Int):=odt;have q447:(ji11) < (l0.length:Int):=odt;obtain ⟨ad447,e447,hx447_0,hx447_1,hx447_2,hx447_3,hx447_4⟩:=at_T30 HR0.out (ji11) p447 q447;have hw447_4:=hx447_4;have hw447_3:=hx447_3;have hw447_2:=hx447_2;have hw447_1:=hx447_1;have hw447_0:=hx447_0;obtain rfl:ad444 = ad447:=(by injection e447);replace hx447_0:=bx HB.out rfl hx447_0;replace hx447_1:=bx HB.out rfl hx447_1;replace hx447_2:=bx HB.out rfl hx447_2;replace hx447_3:=bx HB.out rfl hx447_3;replace hx447_4:=bx HB.out rfl hx447_4;replace p447:=eq_true p447;replace q447:=eq_true q447;refine start_ (n:=18) (S:=fun w'=>w'.cell? ⟨gb445,0,none⟩ = some (.string ((riS26 l0 x19_2).f0)) ∧ w'.cell? ⟨gb445,1,none⟩ = some (.string ((riS26 l0 x19_2).f1)) ∧ w'.cell? ⟨gb445,2,none⟩ = some (.int .i64 ((riS26 l0 x19_2).f2)) ∧ w'.cell? ⟨gb445,3,none⟩ = some (.bool ((riS26 l0 x19_2).f3)) ∧ w'.cell? ⟨gb445,4,none⟩ = some (.int .i64 ((riS26 l0 x19_2).f4)) ∧ w'.cell? (ad444.add (((ji11)).toNat * 5)) = some (.string ((riS26 l0 (ji11)).f0)) ∧ w'.cell? ⟨(ad444.add (((ji11)).toNat * 5)).block,(ad444.add (((ji11)).toNat * 5)).off + 1,none⟩ = some (.string ((riS26 l0 (ji11)).f1)) ∧ w'.cell? ⟨(ad444.add (((ji11)).toNat * 5)).block,(ad444.add (((ji11)).toNat * 5)).off + 2,none⟩ = some (.int .i64 ((riS26 l0 (ji11)).f2)) ∧ w'.cell? ⟨(ad444.add (((ji11)).toNat * 5)).block,(ad444.add (((ji11)).toNat * 5)).off + 3,none⟩ = some (.bool ((riS26 l0 (ji11)).f3)) ∧ w'.cell? ⟨(ad444.add (((ji11)).toNat * 5)).block,(ad444.add (((ji11)).toNat * 5)).off + 4,none⟩ = some (.int .i64 ((riS26 l0 (ji11)).f4))) (ds:=[]) impl_areSpaces.calls.a0 (by kernel_rfl) rfl rfl ⟨(bkC BK445.out 0).trans rfl,(bkC BK445.out 1).trans rfl,(bkC BK445.out 2).trans rfl,(bkC BK445.out 3).trans rfl,(bkC BK445.out 4).trans rfl,((HB.out.cell (World.block_lt_of_cell? w _ hw447_0)).trans hw447_0),((HB.out.cell (World.block_lt_of_cell? w _ hw447_1)).trans hw447_1),((HB.out.cell (World.block_lt_of_cell? w _ hw447_2)).trans hw447_2),((HB.out.cell (World.block_lt_of_cell? w _ hw447_3)).trans hw447_3),((HB.out.cell (World.block_lt_of_cell? w _ hw447_4)).trans hw447_4)⟩ (fun hHeld=>?_);refine with_tabW impl_areSpaces.tab6 impl_areSpaces.bits6 (fun HT_ HW_=>?_);generalize w22.drew = w23 at BK445 HB hx447_0 hx447_1 hx447_2 hx447_3 hx447_4 hHeld ⊢
                       refine tk 0 (some 24) impl_areSpaces.calls.a1 rfl rfl HT_.out HW_.out hHeld (by rintro w' ⟨s0,s1,s2,s3,s4,s5,s6,s7,s8,s9⟩;go_simp;with_reducible rfl) ?_;refine one_ (i:=1) (N:=some 25) impl_areSpaces.calls.a2 rfl rfl (one_of HT_.out (by kernel_rfl)) (by decide) (fun K hK=>?_);refine goes_ Tryd.func34 (by kernel_rfl) rfl #[.agg #[.string ((riS26 l0 x19_2).f0),.string ((riS26 l0 x19_2).f1),.int .i64 ((riS26 l0 x19_2).f2),.bool ((riS26 l0 x19_2).f3),.int .i64 ((riS26 l0 x19_2).f4)]] (by rfl) rfl rfl (by (try simp only [List.map_toArray,List.map_cons,List.map_nil]);first|done|rfl|(simp only [List.length_drop,List.length_take];rfl)) ?_;with_reducible refine (impl_isSpace.calls k2 ((riS26 l0 x19_2).f0) ((riS26 l0 x19_2).f1) ((riS26 l0 x19_2).f2) ((riS26 l0 x19_2).f3) ((riS26 l0 x19_2).f4) true _ A8.out).mono ?_
                       rintro e w24 ⟨rfl,hb⟩;refine ⟨_,rfl,?_⟩;replace BK445:=As0.mk (bb hb BK445.out);replace HB:=As0.mk (bsp HB.out hb)
                            
                            
                            
                            
                       refine hK.out _ _ ⟨(bkC BK445.out 0).trans rfl,(bkC BK445.out 1).trans rfl,(bkC BK445.out 2).trans rfl,(bkC BK445.out 3).trans rfl,(bkC BK445.out 4).trans rfl,((HB.out.cell (World.block_lt_of_cell? w _ hw447_0)).trans hw447_0),((HB.out.cell (World.block_lt_of_cell? w _ hw447_1)).trans hw447_1),((HB.out.cell (World.block_lt_of_cell? w _ hw447_2)).trans hw447_2),((HB.out.cell (World.block_lt_of_cell? w _ hw447_3)).trans hw447_3),((HB.out.cell (World.block_lt_of_cell? w _ hw447_4)).trans hw447_4)⟩ (fun hHeld=>?_);clear hK K;refine norm_ (a':=?_) ?_ ?_;rotate_left
                       · show Act.put _ (some 25) _ = _
                         simp only [Act.put,sA,sZ,sS,i64_w,i32_w];rfl
                       refine pu 2 (some 26) impl_areSpaces.calls.a3 rfl rfl HT_.out ?_;refine pu 3 (some 27) impl_areSpaces.calls.a4 rfl rfl HT_.out ?_;refine pu 4 (some 28) impl_areSpaces.calls.a5 rfl rfl HT_.out ?_;refine pu 5 (some 29) impl_areSpaces.calls.a6 rfl rfl HT_.out ?_;refine pu 6 (some 30) impl_areSpaces.calls.a7 rfl rfl HT_.out ?_;refine pu 7 (some 31) impl_areSpaces.calls.a8 rfl rfl HT_.out ?_;refine pu 8 (some 32) impl_areSpaces.calls.a9 rfl rfl HT_.out ?_;refine pu 9 (some 33) impl_areSpaces.calls.a10 rfl rfl HT_.out ?_;refine pu 10 (some 34) impl_areSpaces.calls.a11 rfl rfl HT_.out ?_;refine pu 11 (some 35) impl_areSpaces.calls.a12 rfl rfl HT_.out ?_;refine pu 13 (some 37) #[true,true,true,true,true,true,true,true,true,true,true,true,false,true,false,false,false,false] rfl rfl HT_.out ?_;refine tk 12 (some 36) impl_areSpaces.calls.a13 rfl rfl HT_.out HW_.out hHeld (by rintro w' ⟨s0,s1,s2,s3,s4,s5,s6,s7,s8,s9⟩;go_simp;with_reducible rfl) ?_;refine tk 14 (some 38) impl_areSpaces.calls.a14 rfl rfl HT_.out HW_.out hHeld (by rintro w' ⟨s0,s1,s2,s3,s4,s5,s6,s7,s8,s9⟩;go_simp;with_reducible rfl) ?_;refine pu 15 (some 39) impl_areSpaces.calls.a15 rfl rfl HT_.out ?_;refine pu 16 (some 40) impl_areSpaces.calls.a16 rfl rfl HT_.out ?_;refine pu 17 (some 41) impl_areSpaces.calls.a17 rfl rfl HT_.out ?_;refine done_ (done_of HT_.out (by kernel_rfl)) ?_
                       try go_wp2
                       go_ret
                       exact ⟨by first|rfl|(simp [errW_none,errW_some] <;> rfl)|(simp only [← hji11];first|rfl|(simp [errW_none,errW_some] <;> rfl))|(simp [*,errW_none,errW_some] <;> rfl),HB.out⟩
                   · rw [if_neg c13] at H
                     exact absurd H (by simp)
                 · rw [if_neg c12] at H
                   exact absurd H (by simp)
               · rw [if_neg c10] at H
                 have c10b0:decide (0 < x19_2) = false:=decide_eq_false c10;clear c10;have H':=As0.mk H;clear H;have p444:0 ≤ (x19_2:Int):=odt;have q444:x19_2 < (l0.length:Int):=odt;obtain ⟨ad444,e444,hx444_0,hx444_1,hx444_2,hx444_3,hx444_4⟩:=at_T30 HR0.out x19_2 p444 q444
                 cases e444
                 replace hx444_0:=bx HB.out rfl hx444_0;replace hx444_1:=bx HB.out rfl hx444_1;replace hx444_2:=bx HB.out rfl hx444_2;replace hx444_3:=bx HB.out rfl hx444_3;replace hx444_4:=bx HB.out rfl hx444_4;replace p444:=eq_true p444;replace q444:=eq_true q444
                 try go_wp2_with (first|((with_reducible refine gate_dst (N:=4) rfl ?_);(try (refine gate_guard (by rfl) ?_;dsimp only));refine bE 4 #[.string ⟨#[]⟩,.string ⟨#[]⟩,.int .i64 0,.bool false,.int .i64 0] 30 ?_;intro gb445 hg w25 hbox hb;have BK445:=As0.mk (hbox);have GW445:=As0.mk ((by rw [hg];exact (bsz HB.out):w.heap.size ≤ gb445));have GE445:=GW445;replace HB:=As0.mk (bsp HB.out hb);clear hb hbox hg;obtain ⟨hcz26_0,hcz26_1,hcz26_2,hcz26_3,hcz26_4⟩:=qc5 BK445.out;obtain ⟨hfz26_0,hfz26_1,hfz26_2,hfz26_3,hfz26_4⟩:=qz5 BK445.out))
                 have n0_:As0 ((((((w25.setCell ⟨gb445,0,none⟩ (.string ((riS26 l0 x19_2).f0))).setCell ⟨gb445,1,none⟩ (.string ((riS26 l0 x19_2).f1))).setCell ⟨gb445,2,none⟩ (.int .i64 ((riS26 l0 x19_2).f2))).setCell ⟨gb445,3,none⟩ (.bool ((riS26 l0 x19_2).f3))).setCell ⟨gb445,4,none⟩ (.int .i64 ((riS26 l0 x19_2).f4))).heap[gb445]? = some (.cells #[.string ((riS26 l0 x19_2).f0),.string ((riS26 l0 x19_2).f1),.int .i64 ((riS26 l0 x19_2).f2),.bool ((riS26 l0 x19_2).f3),.int .i64 ((riS26 l0 x19_2).f4)] 30 (0,0))):=⟨by (with_reducible repeat (first|refine bkN ?_ _|refine bkD ?_|refine bkA ?_ _));refine blk_put (cs:=#[.string ((riS26 l0 x19_2).f0),.string ((riS26 l0 x19_2).f1),.int .i64 ((riS26 l0 x19_2).f2),.bool ((riS26 l0 x19_2).f3),.int .i64 0]) ?_ 4 _ rfl;(with_reducible repeat (first|refine bkN ?_ _|refine bkD ?_|refine bkA ?_ _));refine blk_put (cs:=#[.string ((riS26 l0 x19_2).f0),.string ((riS26 l0 x19_2).f1),.int .i64 ((riS26 l0 x19_2).f2),.bool false,.int .i64 0]) ?_ 3 _ rfl;(with_reducible repeat (first|refine bkN ?_ _|refine bkD ?_|refine bkA ?_ _));refine blk_put (cs:=#[.string ((riS26 l0 x19_2).f0),.string ((riS26 l0 x19_2).f1),.int .i64 0,.bool false,.int .i64 0]) ?_ 2 _ rfl;(with_reducible repeat (first|refine bkN ?_ _|refine bkD ?_|refine bkA ?_ _));refine blk_put (cs:=#[.string ((riS26 l0 x19_2).f0),.string ⟨#[]⟩,.int .i64 0,.bool false,.int .i64 0]) ?_ 1 _ rfl;(with_reducible repeat (first|refine bkN ?_ _|refine bkD ?_|refine bkA ?_ _));refine blk_put (cs:=#[.string ⟨#[]⟩,.string ⟨#[]⟩,.int .i64 0,.bool false,.int .i64 0]) ?_ 0 _ rfl;exact BK445.out⟩;have n1_:As0 (Below w.heap.size w (((((w25.setCell ⟨gb445,0,none⟩ (.string ((riS26 l0 x19_2).f0))).setCell ⟨gb445,1,none⟩ (.string ((riS26 l0 x19_2).f1))).setCell ⟨gb445,2,none⟩ (.int .i64 ((riS26 l0 x19_2).f2))).setCell ⟨gb445,3,none⟩ (.bool ((riS26 l0 x19_2).f3))).setCell ⟨gb445,4,none⟩ (.int .i64 ((riS26 l0 x19_2).f4)))):=⟨by repeat (first|(with_reducible first|exact HB.out|apply bal|apply pbN|apply bd1|refine bst ?_ GE445.out)|exact HB.out)⟩
                 (try clear BK445)
                 (try clear HB)
                 (try rw [Opens.setCell_drewN])
                 generalize (((((w25.setCell ⟨gb445,0,none⟩ (.string ((riS26 l0 x19_2).f0))).setCell ⟨gb445,1,none⟩ (.string ((riS26 l0 x19_2).f1))).setCell ⟨gb445,2,none⟩ (.int .i64 ((riS26 l0 x19_2).f2))).setCell ⟨gb445,3,none⟩ (.bool ((riS26 l0 x19_2).f3))).setCell ⟨gb445,4,none⟩ (.int .i64 ((riS26 l0 x19_2).f4))) = w27 at n0_ n1_ ⊢
                 have BK445:=n0_;have HB:=n1_;clear n0_ n1_;replace BK445:=As0.mk (bkD BK445.out);replace HB:=As0.mk (bd1 HB.out);refine start_ (n:=18) (S:=fun w'=>w'.cell? ⟨gb445,0,none⟩ = some (.string ((riS26 l0 x19_2).f0)) ∧ w'.cell? ⟨gb445,1,none⟩ = some (.string ((riS26 l0 x19_2).f1)) ∧ w'.cell? ⟨gb445,2,none⟩ = some (.int .i64 ((riS26 l0 x19_2).f2)) ∧ w'.cell? ⟨gb445,3,none⟩ = some (.bool ((riS26 l0 x19_2).f3)) ∧ w'.cell? ⟨gb445,4,none⟩ = some (.int .i64 ((riS26 l0 x19_2).f4))) (ds:=[]) impl_areSpaces.calls.a0 (by kernel_rfl) rfl rfl (qc5 BK445.out) (fun hHeld=>?_);refine with_tabW impl_areSpaces.tab6 impl_areSpaces.bits6 (fun HT_ HW_=>?_);generalize w27.drew = w28 at BK445 HB hHeld ⊢
                 refine tk 0 (some 24) impl_areSpaces.calls.a1 rfl rfl HT_.out HW_.out hHeld (by rintro w' ⟨s0,s1,s2,s3,s4⟩;go_simp;with_reducible rfl) ?_;refine one_ (i:=1) (N:=some 25) impl_areSpaces.calls.a2 rfl rfl (one_of HT_.out (by kernel_rfl)) (by decide) (fun K hK=>?_);refine goes_ Tryd.func34 (by kernel_rfl) rfl #[.agg #[.string ((riS26 l0 x19_2).f0),.string ((riS26 l0 x19_2).f1),.int .i64 ((riS26 l0 x19_2).f2),.bool ((riS26 l0 x19_2).f3),.int .i64 ((riS26 l0 x19_2).f4)]] (by rfl) rfl rfl (by (try simp only [List.map_toArray,List.map_cons,List.map_nil]);first|done|rfl|(simp only [List.length_drop,List.length_take];rfl)) ?_;with_reducible refine (impl_isSpace.calls k2 ((riS26 l0 x19_2).f0) ((riS26 l0 x19_2).f1) ((riS26 l0 x19_2).f2) ((riS26 l0 x19_2).f3) ((riS26 l0 x19_2).f4) true _ A8.out).mono ?_
                 rintro e w29 ⟨rfl,hb⟩;refine ⟨_,rfl,?_⟩;replace BK445:=As0.mk (bb hb BK445.out);replace HB:=As0.mk (bsp HB.out hb)
                      
                      
                      
                      
                 refine hK.out _ _ (qc5 BK445.out) (fun hHeld=>?_);clear hK K;refine norm_ (a':=?_) ?_ ?_;rotate_left
                 · show Act.put _ (some 25) _ = _
                   simp only [Act.put,sA,sZ,sS,i64_w,i32_w];rfl
                 refine pu 2 (some 26) impl_areSpaces.calls.a3 rfl rfl HT_.out ?_;refine pu 3 (some 27) impl_areSpaces.calls.a4 rfl rfl HT_.out ?_;refine pu 4 (some 28) impl_areSpaces.calls.a5 rfl rfl HT_.out ?_;refine pu 5 (some 29) impl_areSpaces.calls.a6 rfl rfl HT_.out ?_;refine pu 6 (some 30) impl_areSpaces.calls.a7 rfl rfl HT_.out ?_;refine pn 7 (some 31) impl_areSpaces.calls.a8 rfl rfl HT_.out ?_;refine pn 8 (some 32) impl_areSpaces.calls.a9 rfl rfl HT_.out ?_;refine pn 9 (some 33) impl_areSpaces.calls.a10 rfl rfl HT_.out ?_;refine pn 10 (some 34) impl_areSpaces.calls.a11 rfl rfl HT_.out ?_;refine pn 11 (some 35) impl_areSpaces.calls.a12 rfl rfl HT_.out ?_;refine pn 12 (some 36) #[true,true,true,true,true,true,true,true,true,true,true,true,true,false,false,false,false,false] rfl rfl HT_.out ?_;refine pn 13 (some 37) impl_areSpaces.calls.a13 rfl rfl HT_.out ?_;refine pn 14 (some 38) impl_areSpaces.calls.a14 rfl rfl HT_.out ?_;refine pn 15 (some 39) impl_areSpaces.calls.a15 rfl rfl HT_.out ?_;refine pu 16 (some 40) impl_areSpaces.calls.a16 rfl rfl HT_.out ?_;refine pu 17 (some 41) impl_areSpaces.calls.a17 rfl rfl HT_.out ?_;refine done_ (done_of HT_.out (by kernel_rfl)) ?_
                 try go_wp2
                 show _;go_roundg k2
                 case measure=>have:=HJ1.out;have:=HK2.out;omega
                 case rel=>exact ⟨(wrap64 (x19_2 + 1)),(by first|rfl|(simp;done)|(simp [*];done)),H',⟨by have:=HJ1.out;have:=HK2.out;omega⟩,⟨HB.out⟩⟩
             · replace c9:=Bool.eq_false_iff.mpr c9
               subst c9;have H1:(some false) = some r:=by rw [if_neg (show ¬ (false = true) by decide)] at H;exact H
               clear H;have H:=H1;clear H1;obtain rfl:=Option.some.inj H;have p444:0 ≤ (x19_2:Int):=odt;have q444:x19_2 < (l0.length:Int):=odt;obtain ⟨ad444,e444,hx444_0,hx444_1,hx444_2,hx444_3,hx444_4⟩:=at_T30 HR0.out x19_2 p444 q444
               cases e444
               replace hx444_0:=bx HB.out rfl hx444_0;replace hx444_1:=bx HB.out rfl hx444_1;replace hx444_2:=bx HB.out rfl hx444_2;replace hx444_3:=bx HB.out rfl hx444_3;replace hx444_4:=bx HB.out rfl hx444_4;replace p444:=eq_true p444;replace q444:=eq_true q444
               try go_wp2_with (first|((with_reducible refine gate_dst (N:=4) rfl ?_);(try (refine gate_guard (by rfl) ?_;dsimp only));refine bE 4 #[.string ⟨#[]⟩,.string ⟨#[]⟩,.int .i64 0,.bool false,.int .i64 0] 30 ?_;intro gb445 hg w30 hbox hb;have BK445:=As0.mk (hbox);have GW445:=As0.mk ((by rw [hg];exact (bsz HB.out):w.heap.size ≤ gb445));have GE445:=GW445;replace HB:=As0.mk (bsp HB.out hb);clear hb hbox hg;obtain ⟨hcz31_0,hcz31_1,hcz31_2,hcz31_3,hcz31_4⟩:=qc5 BK445.out;obtain ⟨hfz31_0,hfz31_1,hfz31_2,hfz31_3,hfz31_4⟩:=qz5 BK445.out))
               have n0_:As0 ((((((w30.setCell ⟨gb445,0,none⟩ (.string ((riS26 l0 x19_2).f0))).setCell ⟨gb445,1,none⟩ (.string ((riS26 l0 x19_2).f1))).setCell ⟨gb445,2,none⟩ (.int .i64 ((riS26 l0 x19_2).f2))).setCell ⟨gb445,3,none⟩ (.bool ((riS26 l0 x19_2).f3))).setCell ⟨gb445,4,none⟩ (.int .i64 ((riS26 l0 x19_2).f4))).heap[gb445]? = some (.cells #[.string ((riS26 l0 x19_2).f0),.string ((riS26 l0 x19_2).f1),.int .i64 ((riS26 l0 x19_2).f2),.bool ((riS26 l0 x19_2).f3),.int .i64 ((riS26 l0 x19_2).f4)] 30 (0,0))):=⟨by (with_reducible repeat (first|refine bkN ?_ _|refine bkD ?_|refine bkA ?_ _));refine blk_put (cs:=#[.string ((riS26 l0 x19_2).f0),.string ((riS26 l0 x19_2).f1),.int .i64 ((riS26 l0 x19_2).f2),.bool ((riS26 l0 x19_2).f3),.int .i64 0]) ?_ 4 _ rfl;(with_reducible repeat (first|refine bkN ?_ _|refine bkD ?_|refine bkA ?_ _));refine blk_put (cs:=#[.string ((riS26 l0 x19_2).f0),.string ((riS26 l0 x19_2).f1),.int .i64 ((riS26 l0 x19_2).f2),.bool false,.int .i64 0]) ?_ 3 _ rfl;(with_reducible repeat (first|refine bkN ?_ _|refine bkD ?_|refine bkA ?_ _));refine blk_put (cs:=#[.string ((riS26 l0 x19_2).f0),.string ((riS26 l0 x19_2).f1),.int .i64 0,.bool false,.int .i64 0]) ?_ 2 _ rfl;(with_reducible repeat (first|refine bkN ?_ _|refine bkD ?_|refine bkA ?_ _));refine blk_put (cs:=#[.string ((riS26 l0 x19_2).f0),.string ⟨#[]⟩,.int .i64 0,.bool false,.int .i64 0]) ?_ 1 _ rfl;(with_reducible repeat (first|refine bkN ?_ _|refine bkD ?_|refine bkA ?_ _));refine blk_put (cs:=#[.string ⟨#[]⟩,.string ⟨#[]⟩,.int .i64 0,.bool false,.int .i64 0]) ?_ 0 _ rfl;exact BK445.out⟩;have n1_:As0 (Below w.heap.size w (((((w30.setCell ⟨gb445,0,none⟩ (.string ((riS26 l0 x19_2).f0))).setCell ⟨gb445,1,none⟩ (.string ((riS26 l0 x19_2).f1))).setCell ⟨gb445,2,none⟩ (.int .i64 ((riS26 l0 x19_2).f2))).setCell ⟨gb445,3,none⟩ (.bool ((riS26 l0 x19_2).f3))).setCell ⟨gb445,4,none⟩ (.int .i64 ((riS26 l0 x19_2).f4)))):=⟨by repeat (first|(with_reducible first|exact HB.out|apply bal|apply pbN|apply bd1|refine bst ?_ GE445.out)|exact HB.out)⟩
               (try clear BK445)
               (try clear HB)
               (try rw [Opens.setCell_drewN])
               generalize (((((w30.setCell ⟨gb445,0,none⟩ (.string ((riS26 l0 x19_2).f0))).setCell ⟨gb445,1,none⟩ (.string ((riS26 l0 x19_2).f1))).setCell ⟨gb445,2,none⟩ (.int .i64 ((riS26 l0 x19_2).f2))).setCell ⟨gb445,3,none⟩ (.bool ((riS26 l0 x19_2).f3))).setCell ⟨gb445,4,none⟩ (.int .i64 ((riS26 l0 x19_2).f4))) = w32 at n0_ n1_ ⊢
               have BK445:=n0_;have HB:=n1_;clear n0_ n1_;replace BK445:=As0.mk (bkD BK445.out);replace HB:=As0.mk (bd1 HB.out);refine start_ (n:=18) (S:=fun w'=>w'.cell? ⟨gb445,0,none⟩ = some (.string ((riS26 l0 x19_2).f0)) ∧ w'.cell? ⟨gb445,1,none⟩ = some (.string ((riS26 l0 x19_2).f1)) ∧ w'.cell? ⟨gb445,2,none⟩ = some (.int .i64 ((riS26 l0 x19_2).f2)) ∧ w'.cell? ⟨gb445,3,none⟩ = some (.bool ((riS26 l0 x19_2).f3)) ∧ w'.cell? ⟨gb445,4,none⟩ = some (.int .i64 ((riS26 l0 x19_2).f4))) (ds:=[]) impl_areSpaces.calls.a0 (by kernel_rfl) rfl rfl (qc5 BK445.out) (fun hHeld=>?_);refine with_tabW impl_areSpaces.tab6 impl_areSpaces.bits6 (fun HT_ HW_=>?_);generalize w32.drew = w33 at BK445 HB hHeld ⊢
               refine tk 0 (some 24) impl_areSpaces.calls.a1 rfl rfl HT_.out HW_.out hHeld (by rintro w' ⟨s0,s1,s2,s3,s4⟩;go_simp;with_reducible rfl) ?_;refine one_ (i:=1) (N:=some 25) impl_areSpaces.calls.a2 rfl rfl (one_of HT_.out (by kernel_rfl)) (by decide) (fun K hK=>?_);refine goes_ Tryd.func34 (by kernel_rfl) rfl #[.agg #[.string ((riS26 l0 x19_2).f0),.string ((riS26 l0 x19_2).f1),.int .i64 ((riS26 l0 x19_2).f2),.bool ((riS26 l0 x19_2).f3),.int .i64 ((riS26 l0 x19_2).f4)]] (by rfl) rfl rfl (by (try simp only [List.map_toArray,List.map_cons,List.map_nil]);first|done|rfl|(simp only [List.length_drop,List.length_take];rfl)) ?_;with_reducible refine (impl_isSpace.calls k2 ((riS26 l0 x19_2).f0) ((riS26 l0 x19_2).f1) ((riS26 l0 x19_2).f2) ((riS26 l0 x19_2).f3) ((riS26 l0 x19_2).f4) false _ A8.out).mono ?_
               rintro e w34 ⟨rfl,hb⟩;refine ⟨_,rfl,?_⟩;replace BK445:=As0.mk (bb hb BK445.out);replace HB:=As0.mk (bsp HB.out hb)
                    
                    
                    
                    
               refine hK.out _ _ (qc5 BK445.out) (fun hHeld=>?_);clear hK K;refine norm_ (a':=?_) ?_ ?_;rotate_left
               · show Act.put _ (some 25) _ = _
                 simp only [Act.put,sA,sZ,sS,i64_w,i32_w];rfl
               refine pu 2 (some 26) impl_areSpaces.calls.a3 rfl rfl HT_.out ?_;refine pu 3 (some 27) impl_areSpaces.calls.a4 rfl rfl HT_.out ?_;refine pn 4 (some 28) impl_areSpaces.calls.a5 rfl rfl HT_.out ?_;refine pn 5 (some 29) impl_areSpaces.calls.a6 rfl rfl HT_.out ?_;refine pn 6 (some 30) impl_areSpaces.calls.a7 rfl rfl HT_.out ?_;refine pn 7 (some 31) impl_areSpaces.calls.a8 rfl rfl HT_.out ?_;refine pn 8 (some 32) impl_areSpaces.calls.a9 rfl rfl HT_.out ?_;refine pn 9 (some 33) impl_areSpaces.calls.a10 rfl rfl HT_.out ?_;refine pn 10 (some 34) impl_areSpaces.calls.a11 rfl rfl HT_.out ?_;refine pn 11 (some 35) impl_areSpaces.calls.a12 rfl rfl HT_.out ?_;refine pn 12 (some 36) #[true,true,true,true,true,true,true,true,true,true,true,true,true,false,false,false,false,false] rfl rfl HT_.out ?_;refine pn 13 (some 37) impl_areSpaces.calls.a13 rfl rfl HT_.out ?_;refine pn 14 (some 38) impl_areSpaces.calls.a14 rfl rfl HT_.out ?_;refine pn 15 (some 39) impl_areSpaces.calls.a15 rfl rfl HT_.out ?_;refine pn 16 (some 40) impl_areSpaces.calls.a16 rfl rfl HT_.out ?_;refine pu 17 (some 41) impl_areSpaces.calls.a17 rfl rfl HT_.out ?_;refine done_ (done_of HT_.out (by kernel_rfl)) ?_
               try go_wp2
               go_ret
               exact ⟨eW,HB.out⟩
           · rw [if_neg c7] at H
             exact absurd H (by simp)
         · rw [if_neg c6] at H
           exact absurd H (by simp)
       · rw [if_neg c5] at H
         have c5b0:decide (x19_2 < (l0.length:Int)) = false:=decide_eq_false c5;clear c5;have H':=As0.mk H;clear H
         go_wp2
         show _;go_loopg [45] k2 (fun kq v45 w'=>∃ (x45_3:Int),v45 = .int .i64 x45_3 ∧ As0 (impl_areSpaces.l1 kq l0 l0 (l0.length:Int) x45_3 = some r) ∧ As0 (kq ≤ k2) ∧ As0 (Below w.heap.size w w'))
         case atStart=>exact ⟨(0),(by first|rfl|(simp;done)|(simp [*];done)),H',⟨Nat.le_refl _⟩,⟨by repeat (first|(with_reducible first|exact HB.out|apply bal|apply pbN|apply bd1)|exact HB.out)⟩⟩
         case round=>
          clear H'
          try clear c1
          try clear p2
          try clear c3
          try clear p4
          try clear q4
          try clear hx4
          try clear c5
          try clear c5b0
          try clear c6
          try clear p6
          try clear c7
          try clear c9
          try clear c10
          try clear c10b0
          try clear c12
          try clear c13
          try clear c14
          try clear c14b0
          try clear c34
          try clear hcz21_0
          try clear hcz21_1
          try clear hcz21_2
          try clear hcz21_3
          try clear hcz21_4
          try clear hcz26_0
          try clear hcz26_1
          try clear hcz26_2
          try clear hcz26_3
          try clear hcz26_4
          try clear hcz31_0
          try clear hcz31_1
          try clear hcz31_2
          try clear hcz31_3
          try clear hcz31_4
          try clear hfz21_0
          try clear hfz21_1
          try clear hfz21_2
          try clear hfz21_3
          try clear hfz21_4
          try clear hfz26_0
          try clear hfz26_1
          try clear hfz26_2
          try clear hfz26_3
          try clear hfz26_4
          try clear hfz31_0
          try clear hfz31_1
          try clear hfz31_2
          try clear hfz31_3
          try clear hfz31_4
          try clear hx444_0
          try clear hx444_1
          try clear hx444_2
          try clear hx444_3
          try clear hx444_4
          try clear hx447_0
          try clear hx447_1
          try clear hx447_2
          try clear hx447_3
          try clear hx447_4
          try clear p444
          try clear p447
          try clear q444
          try clear q447
          obtain ⟨x45_3,rfl,HA,HK3,HB⟩:=hrel
          cases gk with
          |zero=>exact absurd HA.out (by simp [impl_areSpaces.l1])
          |succ k3=>
           have H:=HA.out;clear HA;simp only [impl_areSpaces.l1] at H;by_cases c35:x45_3 < (l0.length:Int)
           · rw [if_pos c35] at H
             have c35b0:decide (x45_3 < (l0.length:Int)) = true:=decide_eq_true c35;clear c35;by_cases c36:0 ≤ x45_3
             · rw [if_pos c36] at H
               have c36b0:decide (0 ≤ x45_3) = true:=decide_eq_true c36;clear c36;by_cases c37:x45_3 < (l0.length:Int)
               · rw [if_pos c37] at H
                 have c37b0:decide (x45_3 < (l0.length:Int)) = true:=decide_eq_true c37;clear c37;have H':=As0.mk H;clear H;have p448:0 ≤ (x45_3:Int):=odt;have q448:x45_3 < (l0.length:Int):=odt;obtain ⟨ad448,e448,hx448_0,hx448_1,hx448_2,hx448_3,hx448_4⟩:=at_T30 HR0.out x45_3 p448 q448
                 cases e448
                 replace hx448_0:=bx HB.out rfl hx448_0;replace hx448_1:=bx HB.out rfl hx448_1;replace hx448_2:=bx HB.out rfl hx448_2;replace hx448_3:=bx HB.out rfl hx448_3;replace hx448_4:=bx HB.out rfl hx448_4;replace p448:=eq_true p448;replace q448:=eq_true q448
                 go_wp2_with (first|((with_reducible refine gate_dst (N:=6) rfl ?_);(try (refine gate_guard (by rfl) ?_;dsimp only));refine bE 6 #[.string ⟨#[]⟩,.string ⟨#[]⟩,.int .i64 0,.bool false,.int .i64 0] 30 ?_;intro gb449 hg w38 hbox hb;have BK449:=As0.mk (hbox);have GW449:=As0.mk ((by rw [hg];exact (bsz (by repeat (first|(with_reducible first|exact HB.out|apply bal|apply pbN|apply bd1)|exact HB.out))):w.heap.size ≤ gb449));have GE449:=GW449;replace HB:=As0.mk (b3 HB.out hb);clear hb hbox hg;obtain ⟨hcz39_0,hcz39_1,hcz39_2,hcz39_3,hcz39_4⟩:=qc5 BK449.out;obtain ⟨hfz39_0,hfz39_1,hfz39_2,hfz39_3,hfz39_4⟩:=qz5 BK449.out)|((with_reducible refine gate_dst (N:=7) rfl ?_);(try (refine gate_guard (by rfl) ?_;dsimp only));refine bE 7 #[.string ⟨#[]⟩,.string ⟨#[]⟩,.int .i64 0,.bool false,.int .i64 0] 30 ?_;intro gb450 hg w40 hbox hb;have BK450:=As0.mk (hbox);have GW450:=As0.mk ((by rw [hg];exact (bsz (by repeat (first|(with_reducible first|exact HB.out|apply bal|apply pbN|apply bd1|refine bst ?_ GE449.out)|exact HB.out))):w.heap.size ≤ gb450));have GE450:=GW450;replace HB:=As0.mk (bsp (by repeat (first|(with_reducible first|exact HB.out|apply bal|apply pbN|apply bd1|refine bst ?_ GE449.out)|exact HB.out)) hb);have NB449_450:=As0.mk ((by rw [hg];exact Nat.ne_of_lt (blk_lt (g:=gb449) (o:=.cells #[.string ((riS26 l0 x45_3).f0),.string ((riS26 l0 x45_3).f1),.int .i64 ((riS26 l0 x45_3).f2),.bool ((riS26 l0 x45_3).f3),.int .i64 ((riS26 l0 x45_3).f4)] 30 (0,0)) (by (with_reducible repeat (first|refine bkN ?_ _|refine bkD ?_|refine bkA ?_ _));refine blk_put (cs:=#[.string ((riS26 l0 x45_3).f0),.string ((riS26 l0 x45_3).f1),.int .i64 ((riS26 l0 x45_3).f2),.bool ((riS26 l0 x45_3).f3),.int .i64 0]) ?_ 4 _ rfl;(with_reducible repeat (first|refine bkN ?_ _|refine bkD ?_|refine bkA ?_ _));refine blk_put (cs:=#[.string ((riS26 l0 x45_3).f0),.string ((riS26 l0 x45_3).f1),.int .i64 ((riS26 l0 x45_3).f2),.bool false,.int .i64 0]) ?_ 3 _ rfl;(with_reducible repeat (first|refine bkN ?_ _|refine bkD ?_|refine bkA ?_ _));refine blk_put (cs:=#[.string ((riS26 l0 x45_3).f0),.string ((riS26 l0 x45_3).f1),.int .i64 0,.bool false,.int .i64 0]) ?_ 2 _ rfl;(with_reducible repeat (first|refine bkN ?_ _|refine bkD ?_|refine bkA ?_ _));refine blk_put (cs:=#[.string ((riS26 l0 x45_3).f0),.string ⟨#[]⟩,.int .i64 0,.bool false,.int .i64 0]) ?_ 1 _ rfl;(with_reducible repeat (first|refine bkN ?_ _|refine bkD ?_|refine bkA ?_ _));refine blk_put (cs:=#[.string ⟨#[]⟩,.string ⟨#[]⟩,.int .i64 0,.bool false,.int .i64 0]) ?_ 0 _ rfl;(with_reducible repeat (first|refine bkN ?_ _|refine bkD ?_|refine bkA ?_ _));exact BK449.out)):gb449 ≠ gb450));have NB450_449:=As0.mk (Ne.symm NB449_450.out);replace BK449:=As0.mk (blk_below (g:=gb449) (o:=.cells #[.string ((riS26 l0 x45_3).f0),.string ((riS26 l0 x45_3).f1),.int .i64 ((riS26 l0 x45_3).f2),.bool ((riS26 l0 x45_3).f3),.int .i64 ((riS26 l0 x45_3).f4)] 30 (0,0)) (by (with_reducible repeat (first|refine bkN ?_ _|refine bkD ?_|refine bkA ?_ _));refine blk_put (cs:=#[.string ((riS26 l0 x45_3).f0),.string ((riS26 l0 x45_3).f1),.int .i64 ((riS26 l0 x45_3).f2),.bool ((riS26 l0 x45_3).f3),.int .i64 0]) ?_ 4 _ rfl;(with_reducible repeat (first|refine bkN ?_ _|refine bkD ?_|refine bkA ?_ _));refine blk_put (cs:=#[.string ((riS26 l0 x45_3).f0),.string ((riS26 l0 x45_3).f1),.int .i64 ((riS26 l0 x45_3).f2),.bool false,.int .i64 0]) ?_ 3 _ rfl;(with_reducible repeat (first|refine bkN ?_ _|refine bkD ?_|refine bkA ?_ _));refine blk_put (cs:=#[.string ((riS26 l0 x45_3).f0),.string ((riS26 l0 x45_3).f1),.int .i64 0,.bool false,.int .i64 0]) ?_ 2 _ rfl;(with_reducible repeat (first|refine bkN ?_ _|refine bkD ?_|refine bkA ?_ _));refine blk_put (cs:=#[.string ((riS26 l0 x45_3).f0),.string ⟨#[]⟩,.int .i64 0,.bool false,.int .i64 0]) ?_ 1 _ rfl;(with_reducible repeat (first|refine bkN ?_ _|refine bkD ?_|refine bkA ?_ _));refine blk_put (cs:=#[.string ⟨#[]⟩,.string ⟨#[]⟩,.int .i64 0,.bool false,.int .i64 0]) ?_ 0 _ rfl;(with_reducible repeat (first|refine bkN ?_ _|refine bkD ?_|refine bkA ?_ _));exact BK449.out) hb);clear hb hbox hg;have hnb41:=NB450_449.out;have hnc41:=NB449_450.out;obtain ⟨hcz42_0,hcz42_1,hcz42_2,hcz42_3,hcz42_4⟩:=qc5 BK450.out;obtain ⟨hfz42_0,hfz42_1,hfz42_2,hfz42_3,hfz42_4⟩:=qz5 BK450.out))
                 show _;go_loopg [52] k3 (fun kq v52 w'=>∃ (x52_4:Int) (x451000_4:ByteArray) (x451001_4:ByteArray) (x451002_4:Int) (x451003_4:Bool) (x451004_4:Int),v52 = .int .i64 x52_4 ∧ As0 (impl_areSpaces.l2 kq l0 l0 (l0.length:Int) x45_3 (l0.length:Int) x52_4 x451000_4 x451001_4 x451002_4 x451003_4 x451004_4 = some r) ∧ As0 (kq ≤ k3) ∧ As0 (w'.heap[gb449]? = some (.cells #[.string ((riS26 l0 x45_3).f0),.string ((riS26 l0 x45_3).f1),.int .i64 ((riS26 l0 x45_3).f2),.bool ((riS26 l0 x45_3).f3),.int .i64 ((riS26 l0 x45_3).f4)] 30 (0,0))) ∧ As0 (w'.heap[gb450]? = some (.cells #[.string x451000_4,.string x451001_4,.int .i64 x451002_4,.bool x451003_4,.int .i64 x451004_4] 30 (0,0))) ∧ As0 (Below w.heap.size w w'))
                 case atStart=>exact ⟨(0),((riS26 l0 x45_3).f0),((riS26 l0 x45_3).f1),((riS26 l0 x45_3).f2),((riS26 l0 x45_3).f3),((riS26 l0 x45_3).f4),(by first|rfl|(simp;done)|(simp [*];done)),H',⟨Nat.le_refl _⟩,⟨by (with_reducible repeat (first|refine bkN ?_ _|refine bkD ?_|refine bkA ?_ _));refine blk_far ?_ NB449_450.out _;(with_reducible repeat (first|refine bkN ?_ _|refine bkD ?_|refine bkA ?_ _));refine blk_far ?_ NB449_450.out _;(with_reducible repeat (first|refine bkN ?_ _|refine bkD ?_|refine bkA ?_ _));refine blk_far ?_ NB449_450.out _;(with_reducible repeat (first|refine bkN ?_ _|refine bkD ?_|refine bkA ?_ _));refine blk_far ?_ NB449_450.out _;(with_reducible repeat (first|refine bkN ?_ _|refine bkD ?_|refine bkA ?_ _));refine blk_far ?_ NB449_450.out _;(with_reducible repeat (first|refine bkN ?_ _|refine bkD ?_|refine bkA ?_ _));exact BK449.out⟩,⟨by (with_reducible repeat (first|refine bkN ?_ _|refine bkD ?_|refine bkA ?_ _));refine blk_put (cs:=#[.string ((riS26 l0 x45_3).f0),.string ((riS26 l0 x45_3).f1),.int .i64 ((riS26 l0 x45_3).f2),.bool ((riS26 l0 x45_3).f3),.int .i64 0]) ?_ 4 _ rfl;(with_reducible repeat (first|refine bkN ?_ _|refine bkD ?_|refine bkA ?_ _));refine blk_put (cs:=#[.string ((riS26 l0 x45_3).f0),.string ((riS26 l0 x45_3).f1),.int .i64 ((riS26 l0 x45_3).f2),.bool false,.int .i64 0]) ?_ 3 _ rfl;(with_reducible repeat (first|refine bkN ?_ _|refine bkD ?_|refine bkA ?_ _));refine blk_put (cs:=#[.string ((riS26 l0 x45_3).f0),.string ((riS26 l0 x45_3).f1),.int .i64 0,.bool false,.int .i64 0]) ?_ 2 _ rfl;(with_reducible repeat (first|refine bkN ?_ _|refine bkD ?_|refine bkA ?_ _));refine blk_put (cs:=#[.string ((riS26 l0 x45_3).f0),.string ⟨#[]⟩,.int .i64 0,.bool false,.int .i64 0]) ?_ 1 _ rfl;(with_reducible repeat (first|refine bkN ?_ _|refine bkD ?_|refine bkA ?_ _));refine blk_put (cs:=#[.string ⟨#[]⟩,.string ⟨#[]⟩,.int .i64 0,.bool false,.int .i64 0]) ?_ 0 _ rfl;(with_reducible repeat (first|refine bkN ?_ _|refine bkD ?_|refine bkA ?_ _));exact BK450.out⟩,⟨by repeat (first|(with_reducible first|exact HB.out|apply bal|apply pbN|apply bd1|refine bst ?_ GE449.out|refine bst ?_ GE450.out)|exact HB.out)⟩⟩
                 case round=>
                  clear H'
                  try clear c1
                  try clear p2
                  try clear c3
                  try clear c4
                  try clear p4
                  try clear q4
                  try clear hx4
                  try clear c5
                  try clear c5b0
                  try clear c6
                  try clear p6
                  try clear c7
                  try clear c9
                  try clear c10
                  try clear c10b0
                  try clear c12
                  try clear c13
                  try clear c14
                  try clear c14b0
                  try clear c34
                  try clear c35
                  try clear c35b0
                  try clear c36
                  try clear c36b0
                  try clear c37
                  try clear c37b0
                  try clear c41
                  try clear hcz21_0
                  try clear hcz21_1
                  try clear hcz21_2
                  try clear hcz21_3
                  try clear hcz21_4
                  try clear hcz26_0
                  try clear hcz26_1
                  try clear hcz26_2
                  try clear hcz26_3
                  try clear hcz26_4
                  try clear hcz31_0
                  try clear hcz31_1
                  try clear hcz31_2
                  try clear hcz31_3
                  try clear hcz31_4
                  try clear hcz39_0
                  try clear hcz39_1
                  try clear hcz39_2
                  try clear hcz39_3
                  try clear hcz39_4
                  try clear hcz42_0
                  try clear hcz42_1
                  try clear hcz42_2
                  try clear hcz42_3
                  try clear hcz42_4
                  try clear hfz21_0
                  try clear hfz21_1
                  try clear hfz21_2
                  try clear hfz21_3
                  try clear hfz21_4
                  try clear hfz26_0
                  try clear hfz26_1
                  try clear hfz26_2
                  try clear hfz26_3
                  try clear hfz26_4
                  try clear hfz31_0
                  try clear hfz31_1
                  try clear hfz31_2
                  try clear hfz31_3
                  try clear hfz31_4
                  try clear hfz39_0
                  try clear hfz39_1
                  try clear hfz39_2
                  try clear hfz39_3
                  try clear hfz39_4
                  try clear hfz42_0
                  try clear hfz42_1
                  try clear hfz42_2
                  try clear hfz42_3
                  try clear hfz42_4
                  try clear hx444_0
                  try clear hx444_1
                  try clear hx444_2
                  try clear hx444_3
                  try clear hx444_4
                  try clear hx447_0
                  try clear hx447_1
                  try clear hx447_2
                  try clear hx447_3
                  try clear hx447_4
                  try clear hx448_0
                  try clear hx448_1
                  try clear hx448_2
                  try clear hx448_3
                  try clear hx448_4
                  try clear p2
                  try clear p4
                  try clear p444
                  try clear p447
                  try clear p448
                  try clear p6
                  try clear q4
                  try clear q444
                  try clear q447
                  try clear q448
                  obtain ⟨x52_4,x451000_4,x451001_4,x451002_4,x451003_4,x451004_4,rfl,HA,HK4,BK449,BK450,HB⟩:=hrel
                  cases gk with
                  |zero=>exact absurd HA.out (by simp [impl_areSpaces.l2])
                  |succ k4=>
                   have H:=HA.out;clear HA;simp only [impl_areSpaces.l2] at H;by_cases c43:x52_4 < (l0.length:Int)
                   · rw [if_pos c43] at H
                     have c43b0:decide (x52_4 < (l0.length:Int)) = true:=decide_eq_true c43;clear c43;replace H:=Option.bind_eq_some_iff.mp H;obtain ⟨t451,A440,H⟩:=H;(try dsimp only at H);have A44:=As0.mk A440;clear A440;by_cases c45:t451 ≥ 0
                     · rw [if_pos c45] at H
                       have c45b0:decide (0 ≤ t451) = true:=decide_eq_true c45;clear c45;by_cases c46:0 ≤ t451
                       · rw [if_pos c46] at H
                         have c46b0:decide (0 ≤ t451) = true:=decide_eq_true c46;clear c46;by_cases c47:t451 < (l0.length:Int)
                         · rw [if_pos c47] at H
                           have c47b0:decide (t451 < (l0.length:Int)) = true:=decide_eq_true c47;clear c47;have H':=As0.mk H;clear H;have hnb48:=NB450_449.out;have hnc48:=NB449_450.out;obtain ⟨hcz49_0,hcz49_1,hcz49_2,hcz49_3,hcz49_4⟩:=qc5 BK450.out;obtain ⟨hfz49_0,hfz49_1,hfz49_2,hfz49_3,hfz49_4⟩:=qz5 BK450.out
                           go_wp2_with (first|((with_reducible refine gca (f:=35) rfl ?_);refine gL (some 57) Tryd.func35 #[.slice (some ad448) l0.length c0,.string x451001_4] ?_;(with_reducible refine (impl_findSpace.calls _ _ l0 x451001_4 t451 _ ?side1 ?side2 A44.out).mono ?_);(case side1=>exact (Kd.C_below HR0.out HB.out));(case side2=>exact HC0.out);rintro e w50 ⟨rfl,hb⟩;refine ⟨_,rfl,?_⟩;replace BK449:=As0.mk (bb hb BK449.out);replace BK450:=As0.mk (bb hb BK450.out);replace HB:=As0.mk (bsp HB.out hb);clear hb;have p452:0 ≤ (t451:Int):=odt;have q452:t451 < (l0.length:Int):=odt;obtain ⟨ad452,e452,hx452_0,hx452_1,hx452_2,hx452_3,hx452_4⟩:=at_T30 HR0.out t451 p452 q452;obtain rfl:ad448 = ad452:=(by injection e452);replace hx452_0:=bx HB.out rfl hx452_0;replace hx452_1:=bx HB.out rfl hx452_1;replace hx452_2:=bx HB.out rfl hx452_2;replace hx452_3:=bx HB.out rfl hx452_3;replace hx452_4:=bx HB.out rfl hx452_4;replace p452:=eq_true p452;replace q452:=eq_true q452;obtain ⟨hcz51_0,hcz51_1,hcz51_2,hcz51_3,hcz51_4⟩:=qc5 BK450.out;obtain ⟨hfz51_0,hfz51_1,hfz51_2,hfz51_3,hfz51_4⟩:=qz5 BK450.out))
                           show _;go_roundg k4
                           case measure=>have:=HJ1.out;have:=HK2.out;have:=HK3.out;have:=HK4.out;omega
                           case rel=>exact ⟨(wrap64 (x52_4 + 1)),((riS26 l0 t451).f0),((riS26 l0 t451).f1),((riS26 l0 t451).f2),((riS26 l0 t451).f3),((riS26 l0 t451).f4),(by first|rfl|(simp;done)|(simp [*];done)),H',⟨by have:=HJ1.out;have:=HK2.out;have:=HK3.out;have:=HK4.out;omega⟩,⟨by (with_reducible repeat (first|refine bkN ?_ _|refine bkD ?_|refine bkA ?_ _));refine blk_far ?_ NB449_450.out _;(with_reducible repeat (first|refine bkN ?_ _|refine bkD ?_|refine bkA ?_ _));refine blk_far ?_ NB449_450.out _;(with_reducible repeat (first|refine bkN ?_ _|refine bkD ?_|refine bkA ?_ _));refine blk_far ?_ NB449_450.out _;(with_reducible repeat (first|refine bkN ?_ _|refine bkD ?_|refine bkA ?_ _));refine blk_far ?_ NB449_450.out _;(with_reducible repeat (first|refine bkN ?_ _|refine bkD ?_|refine bkA ?_ _));refine blk_far ?_ NB449_450.out _;(with_reducible repeat (first|refine bkN ?_ _|refine bkD ?_|refine bkA ?_ _));exact BK449.out⟩,⟨by (with_reducible repeat (first|refine bkN ?_ _|refine bkD ?_|refine bkA ?_ _));refine blk_put (cs:=#[.string ((riS26 l0 t451).f0),.string ((riS26 l0 t451).f1),.int .i64 ((riS26 l0 t451).f2),.bool ((riS26 l0 t451).f3),.int .i64 x451004_4]) ?_ 4 _ rfl;(with_reducible repeat (first|refine bkN ?_ _|refine bkD ?_|refine bkA ?_ _));refine blk_put (cs:=#[.string ((riS26 l0 t451).f0),.string ((riS26 l0 t451).f1),.int .i64 ((riS26 l0 t451).f2),.bool x451003_4,.int .i64 x451004_4]) ?_ 3 _ rfl;(with_reducible repeat (first|refine bkN ?_ _|refine bkD ?_|refine bkA ?_ _));refine blk_put (cs:=#[.string ((riS26 l0 t451).f0),.string ((riS26 l0 t451).f1),.int .i64 x451002_4,.bool x451003_4,.int .i64 x451004_4]) ?_ 2 _ rfl;(with_reducible repeat (first|refine bkN ?_ _|refine bkD ?_|refine bkA ?_ _));refine blk_put (cs:=#[.string ((riS26 l0 t451).f0),.string x451001_4,.int .i64 x451002_4,.bool x451003_4,.int .i64 x451004_4]) ?_ 1 _ rfl;(with_reducible repeat (first|refine bkN ?_ _|refine bkD ?_|refine bkA ?_ _));refine blk_put (cs:=#[.string x451000_4,.string x451001_4,.int .i64 x451002_4,.bool x451003_4,.int .i64 x451004_4]) ?_ 0 _ rfl;(with_reducible repeat (first|refine bkN ?_ _|refine bkD ?_|refine bkA ?_ _));exact BK450.out⟩,⟨by repeat (first|(with_reducible first|exact HB.out|apply bal|apply pbN|apply bd1|refine bst ?_ GE449.out|refine bst ?_ GE450.out)|exact HB.out)⟩⟩
                         · rw [if_neg c47] at H
                           exact absurd H (by simp)
                       · rw [if_neg c46] at H
                         exact absurd H (by simp)
                     · rw [if_neg c45] at H
                       have c45b0:decide (0 ≤ t451) = false:=decide_eq_false c45;clear c45;have H':=As0.mk H;clear H;have hnb52:=NB450_449.out;have hnc52:=NB449_450.out;obtain ⟨hcz53_0,hcz53_1,hcz53_2,hcz53_3,hcz53_4⟩:=qc5 BK450.out;obtain ⟨hfz53_0,hfz53_1,hfz53_2,hfz53_3,hfz53_4⟩:=qz5 BK450.out
                       go_wp2_with (first|((with_reducible refine gca (f:=35) rfl ?_);refine gL (some 57) Tryd.func35 #[.slice (some ad448) l0.length c0,.string x451001_4] ?_;(with_reducible refine (impl_findSpace.calls _ _ l0 x451001_4 t451 _ ?side1 ?side2 A44.out).mono ?_);(case side1=>exact (Kd.C_below HR0.out HB.out));(case side2=>exact HC0.out);rintro e w54 ⟨rfl,hb⟩;refine ⟨_,rfl,?_⟩;replace BK449:=As0.mk (bb hb BK449.out);replace BK450:=As0.mk (bb hb BK450.out);replace HB:=As0.mk (bsp HB.out hb);clear hb))
                       show _;go_roundg k4
                       case measure=>have:=HJ1.out;have:=HK2.out;have:=HK3.out;have:=HK4.out;omega
                       case rel=>exact ⟨(wrap64 (x52_4 + 1)),(x451000_4),(x451001_4),(x451002_4),(x451003_4),(x451004_4),(by first|rfl|(simp;done)|(simp [*];done)),H',⟨by have:=HJ1.out;have:=HK2.out;have:=HK3.out;have:=HK4.out;omega⟩,⟨by exact BK449.out⟩,⟨by exact BK450.out⟩,⟨HB.out⟩⟩
                   · rw [if_neg c43] at H
                     have c43b0:decide (x52_4 < (l0.length:Int)) = false:=decide_eq_false c43;clear c43;by_cases c55:x451000_4.toList = ([97,108,108]:List UInt8)
                     · rw [if_pos c55] at H
                       have c55b0:(x451000_4.toList == ([97,108,108]:List UInt8)) = true:=beq_iff_eq.mpr c55;have c55b1:(x451000_4.toList != ([97,108,108]:List UInt8)) = false:=bne_eq_false_iff_eq.mpr c55;clear c55;have H':=As0.mk H;clear H;have hnb56:=NB450_449.out;have hnc56:=NB449_450.out;obtain ⟨hcz57_0,hcz57_1,hcz57_2,hcz57_3,hcz57_4⟩:=qc5 BK450.out;obtain ⟨hfz57_0,hfz57_1,hfz57_2,hfz57_3,hfz57_4⟩:=qz5 BK450.out
                       go_wp2
                       show _;go_roundg k4
                       case measure=>have:=HJ1.out;have:=HK2.out;have:=HK3.out;have:=HK4.out;omega
                       case rel=>exact ⟨(wrap64 (x45_3 + 1)),(by first|rfl|(simp;done)|(simp [*];done)),H',⟨by have:=HJ1.out;have:=HK2.out;have:=HK3.out;have:=HK4.out;omega⟩,⟨HB.out⟩⟩
                     · rw [if_neg c55] at H
                       have c55b0:(x451000_4.toList == ([97,108,108]:List UInt8)) = false:=beq_eq_false_iff_ne.mpr c55;have c55b1:(x451000_4.toList != ([97,108,108]:List UInt8)) = true:=bne_iff_ne.mpr c55;obtain rfl:=Option.some.inj H;have hnb58:=NB450_449.out;have hnc58:=NB449_450.out;obtain ⟨hcz59_0,hcz59_1,hcz59_2,hcz59_3,hcz59_4⟩:=qc5 BK450.out;obtain ⟨hfz59_0,hfz59_1,hfz59_2,hfz59_3,hfz59_4⟩:=qz5 BK450.out
                       go_wp2
                       go_ret
                       exact ⟨eW,HB.out⟩
               · rw [if_neg c37] at H
                 exact absurd H (by simp)
             · rw [if_neg c36] at H
               exact absurd H (by simp)
           · rw [if_neg c35] at H
             have c35b0:decide (x45_3 < (l0.length:Int)) = false:=decide_eq_false c35;clear c35;obtain rfl:=Option.some.inj H
             go_wp2
             go_ret
             exact ⟨eW,HB.out⟩
end Go.Proofs.YtlddibclbhhjoaaDoor.P
