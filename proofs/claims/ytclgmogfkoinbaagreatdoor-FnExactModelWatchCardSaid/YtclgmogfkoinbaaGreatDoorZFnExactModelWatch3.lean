/- Functions of the law FnExactModelWatch as_ plain Lean functions, and that the machine's calls do what they say. -/
import Derived.Test.YtclgmogfkoinbaaGreatDoorZFnExactModelWatch0
import Derived.Test.YtclgmogfkoinbaaGreatDoorZFnExactModelWatch2
import Derived.Lib.Hide
import Derived.Shelf.Strings.Trim
import Derived.Shelf.Small.Utf8
import Derived.Shelf.Small.Strs
import Derived.Shelf.Strings.Search1
import Derived.Shelf.Unicode.Decode
import Derived.Shelf.Strings.Runes
import Derived.Shelf.Strings.AsciiSet
import Derived.Shelf.Unicode.DecodeSlow
import Derived.Shelf.Unicode.DecodeAny
import Derived.Shelf.Unicode.DecodeLast
import Derived.Shelf.Slices.Turned
import Derived.Test.YtclgmogfkoinbaaGreatDoorProg
import Derived.Shelf.Strings.SlTrimAscii
namespace Go.Proofs.YtclgmogfkoinbaaGreatDoor.P
open Go.RowKit Go.Proofs.YtclgmogfkoinbaaGreatDoorW.PrintWords Go.Proofs.YtclgmogfkoinbaaGreatDoorW.PrintLast Go.Proofs.YtclgmogfkoinbaaGreatDoorW.PrintMore
attribute [local go_sem] max2_int min2_int max_two min_two max_three min_three max_four min_four
set_option linter.unusedVariables false
set_option linter.unusedSimpArgs false
def laws_markSpaceS.l0:Nat → List (SiS28) → Int → Int → Option (Int × (List (SiS28)))
 |0,_,_,_=>none
 |k + 1,x0,x1,x5=>if x5 < (x0.length:Int) then ((laws_markText.f k x1).bind fun t387=>(if 0 ≤ x5 then ((some (x0.set (x5:Int).toNat (⟨t387,(riS37 x0 x5).f1,(riS37 x0 x5).f2,(riS37 x0 x5).f3,(riS37 x0 x5).f4⟩:SiS28):List (SiS28))).bind fun y388=>((laws_markText.f k (wrap64 (x1 + 1))).bind fun t389=>((some (y388.set (x5:Int).toNat (⟨(riS37 y388 x5).f0,t389,(riS37 y388 x5).f2,(riS37 y388 x5).f3,(riS37 y388 x5).f4⟩:SiS28):List (SiS28))).bind fun y390=>((some (y390.set (x5:Int).toNat (⟨(riS37 y390 x5).f0,(riS37 y390 x5).f1,wrap64 ((wrap64 (x1 + 1)) + 1),(riS37 y390 x5).f3,(riS37 y390 x5).f4⟩:SiS28):List (SiS28))).bind fun y391=>((some (y391.set (x5:Int).toNat (⟨(riS37 y391 x5).f0,(riS37 y391 x5).f1,(riS37 y391 x5).f2,((Int.tmod (wrap64 ((wrap64 ((wrap64 (x1 + 1)) + 1)) + 1)) 3) == 0),(riS37 y391 x5).f4⟩:SiS28):List (SiS28))).bind fun y392=>(laws_markSpaceS.l0 k (y392.set (x5:Int).toNat (⟨(riS37 y392 x5).f0,(riS37 y392 x5).f1,(riS37 y392 x5).f2,(riS37 y392 x5).f3,wrap64 ((wrap64 ((wrap64 ((wrap64 (x1 + 1)) + 1)) + 1)) + 1)⟩:SiS28)) (wrap64 ((wrap64 ((wrap64 ((wrap64 ((wrap64 (x1 + 1)) + 1)) + 1)) + 1)) + 1)) (wrap64 (x5 + 1)))))))) else (none))) else (some (x1,x0))
def laws_markSpaceS.f (k:Nat) (l0:List (SiS28)) (a1:Int):Option (Int × (List (SiS28))):=laws_markSpaceS.l0 k l0 a1 0
set_option maxHeartbeats 40000000 in
set_option maxRecDepth 100000 in
theorem laws_markSpaceS.calls (k:Nat) (P0_:Nat → Prop) (u9000_:Value) (l0:List (SiS28)) (a1:Int) (r1:Int) (r2:List (SiS28)) (w0 w:World) (hB:Below w0.heap.size w0 w) (ho0:Kd.R k70 70 w w0.heap.size P0_ u9000_ l0) (h:laws_markSpaceS.f k l0 a1 = some (r1,r2)) :
 Calls Tryz.prog 54 #[u9000_,.int .i64 a1] w fun e w'=>e = .returned (.int .i64 r1) ∧ Kd.R k70 70 w' w0.heap.size (fun k_=>(P0_ k_ ∨ w.heap.size ≤ k_)) u9000_ r2 ∧ Below w0.heap.size w0 w' ∧ Kept w w' (fun k_=>P0_ k_):=by
 have HO0:=As0.mk (show Kd.R k70 70 w w0.heap.size (fun k_=>(P0_ k_ ∨ w.heap.size ≤ k_)) u9000_ l0 from Kd.R_mono ho0 (fun k_ hk=>(.inl hk)));have HK:=As0.mk (Kept.refl w (fun k_=>P0_ k_));have HW0:=As0.mk hB.size;have HB:=As0.mk hB;clear hB;have H:(laws_markSpaceS.l0 k l0 a1 0) = some (r1,r2):=h;clear h;have H':=As0.mk H;clear H
 go_enter Tryz.func54,Tryz.ntmps54
 go_wp2
 show _;go_loopg [1,5] k (fun kq v1 v5 w'=>∃ (x0_1:List (SiS28)) (x1_1:Int) (x5_1:Int),v1 = .int .i64 x1_1 ∧ v5 = .int .i64 x5_1 ∧ As0 (laws_markSpaceS.l0 kq x0_1 x1_1 x5_1 = some (r1,r2)) ∧ As0 (kq ≤ k) ∧ As0 (Kd.R k70 70 w' w0.heap.size (fun k_=>(P0_ k_ ∨ w.heap.size ≤ k_)) u9000_ x0_1) ∧ As0 (Kept w w' (fun k_=>P0_ k_)) ∧ As0 (Below w0.heap.size w0 w'))
 case atStart=>exact ⟨(l0),(a1),(0),(by first|rfl|(simp;done)|(simp [*];done)),(by first|rfl|(simp;done)|(simp [*];done)),H',⟨Nat.le_refl _⟩,⟨by (with_reducible repeat (first|apply Kd.Ral|apply Kd.RdN|apply Kd.R_drew));exact HO0.out⟩,⟨by repeat (first|(with_reducible first|exact HK.out|apply Kept.alloc|apply Kept.drewN|apply Kept.drew)|exact HK.out)⟩,⟨by repeat (first|(with_reducible first|exact HB.out|apply bal|apply pbN|apply bd1)|exact HB.out)⟩⟩
 case round=>
  clear H'
  try clear p2
  obtain ⟨x0_1,x1_1,x5_1,rfl,rfl,HA,HK1,HO_0,HK,HB⟩:=hrel
  cases gk with
  |zero=>exact absurd HA.out (by simp [laws_markSpaceS.l0])
  |succ k1=>
   have H:=HA.out;clear HA;simp only [laws_markSpaceS.l0] at H;by_cases c3:x5_1 < (x0_1.length:Int)
   · rw [if_pos c3] at H
     have c3b0:decide (x5_1 < (x0_1.length:Int)) = true:=decide_eq_true c3;clear c3;replace H:=Option.bind_eq_some_iff.mp H;obtain ⟨t387,A40,H⟩:=H;(try dsimp only at H);have A4:=As0.mk A40;clear A40;by_cases c5:0 ≤ x5_1
     · rw [if_pos c5] at H
       have c5b0:decide (0 ≤ x5_1) = true:=decide_eq_true c5;clear c5;obtain ⟨y388,hy388⟩:∃ y_:List (SiS28),y_ = (x0_1.set (x5_1:Int).toNat (⟨t387,(riS37 x0_1 x5_1).f1,(riS37 x0_1 x5_1).f2,(riS37 x0_1 x5_1).f3,(riS37 x0_1 x5_1).f4⟩:SiS28)):=⟨_,rfl⟩;replace H:((laws_markText.f k1 (wrap64 (x1_1 + 1))).bind fun t389=>((some (y388.set (x5_1:Int).toNat (⟨(riS37 y388 x5_1).f0,t389,(riS37 y388 x5_1).f2,(riS37 y388 x5_1).f3,(riS37 y388 x5_1).f4⟩:SiS28):List (SiS28))).bind fun y390=>((some (y390.set (x5_1:Int).toNat (⟨(riS37 y390 x5_1).f0,(riS37 y390 x5_1).f1,wrap64 ((wrap64 (x1_1 + 1)) + 1),(riS37 y390 x5_1).f3,(riS37 y390 x5_1).f4⟩:SiS28):List (SiS28))).bind fun y391=>((some (y391.set (x5_1:Int).toNat (⟨(riS37 y391 x5_1).f0,(riS37 y391 x5_1).f1,(riS37 y391 x5_1).f2,((Int.tmod (wrap64 ((wrap64 ((wrap64 (x1_1 + 1)) + 1)) + 1)) 3) == 0),(riS37 y391 x5_1).f4⟩:SiS28):List (SiS28))).bind fun y392=>(laws_markSpaceS.l0 k1 (y392.set (x5_1:Int).toNat (⟨(riS37 y392 x5_1).f0,(riS37 y392 x5_1).f1,(riS37 y392 x5_1).f2,(riS37 y392 x5_1).f3,wrap64 ((wrap64 ((wrap64 ((wrap64 (x1_1 + 1)) + 1)) + 1)) + 1)⟩:SiS28)) (wrap64 ((wrap64 ((wrap64 ((wrap64 ((wrap64 (x1_1 + 1)) + 1)) + 1)) + 1)) + 1)) (wrap64 (x5_1 + 1))))))) = some (r1,r2):=by first|(rw [hy388];with_reducible exact H)|(have H2_:=(Option.bind_some _ _).symm.trans H;rw [hy388];with_reducible exact H2_)|(have H2_:=(Option.bind_some _ _).symm.trans H;with_reducible exact H2_)|with_reducible exact H|(rw [hy388];exact H)|exact H
       have Ny388:=As0.mk hy388;clear hy388;replace H:=Option.bind_eq_some_iff.mp H;obtain ⟨t389,A70,H⟩:=H;(try dsimp only at H);have A7:=As0.mk A70;clear A70;obtain ⟨y390,hy390⟩:∃ y_:List (SiS28),y_ = (y388.set (x5_1:Int).toNat (⟨(riS37 y388 x5_1).f0,t389,(riS37 y388 x5_1).f2,(riS37 y388 x5_1).f3,(riS37 y388 x5_1).f4⟩:SiS28)):=⟨_,rfl⟩;replace H:((some (y390.set (x5_1:Int).toNat (⟨(riS37 y390 x5_1).f0,(riS37 y390 x5_1).f1,wrap64 ((wrap64 (x1_1 + 1)) + 1),(riS37 y390 x5_1).f3,(riS37 y390 x5_1).f4⟩:SiS28):List (SiS28))).bind fun y391=>((some (y391.set (x5_1:Int).toNat (⟨(riS37 y391 x5_1).f0,(riS37 y391 x5_1).f1,(riS37 y391 x5_1).f2,((Int.tmod (wrap64 ((wrap64 ((wrap64 (x1_1 + 1)) + 1)) + 1)) 3) == 0),(riS37 y391 x5_1).f4⟩:SiS28):List (SiS28))).bind fun y392=>(laws_markSpaceS.l0 k1 (y392.set (x5_1:Int).toNat (⟨(riS37 y392 x5_1).f0,(riS37 y392 x5_1).f1,(riS37 y392 x5_1).f2,(riS37 y392 x5_1).f3,wrap64 ((wrap64 ((wrap64 ((wrap64 (x1_1 + 1)) + 1)) + 1)) + 1)⟩:SiS28)) (wrap64 ((wrap64 ((wrap64 ((wrap64 ((wrap64 (x1_1 + 1)) + 1)) + 1)) + 1)) + 1)) (wrap64 (x5_1 + 1))))) = some (r1,r2):=by first|(rw [hy390];with_reducible exact H)|(have H2_:=(Option.bind_some _ _).symm.trans H;rw [hy390];with_reducible exact H2_)|(have H2_:=(Option.bind_some _ _).symm.trans H;with_reducible exact H2_)|with_reducible exact H|(rw [hy390];exact H)|exact H
       have Ny390:=As0.mk hy390;clear hy390;obtain ⟨y391,hy391⟩:∃ y_:List (SiS28),y_ = (y390.set (x5_1:Int).toNat (⟨(riS37 y390 x5_1).f0,(riS37 y390 x5_1).f1,wrap64 ((wrap64 (x1_1 + 1)) + 1),(riS37 y390 x5_1).f3,(riS37 y390 x5_1).f4⟩:SiS28)):=⟨_,rfl⟩;replace H:((some (y391.set (x5_1:Int).toNat (⟨(riS37 y391 x5_1).f0,(riS37 y391 x5_1).f1,(riS37 y391 x5_1).f2,((Int.tmod (wrap64 ((wrap64 ((wrap64 (x1_1 + 1)) + 1)) + 1)) 3) == 0),(riS37 y391 x5_1).f4⟩:SiS28):List (SiS28))).bind fun y392=>(laws_markSpaceS.l0 k1 (y392.set (x5_1:Int).toNat (⟨(riS37 y392 x5_1).f0,(riS37 y392 x5_1).f1,(riS37 y392 x5_1).f2,(riS37 y392 x5_1).f3,wrap64 ((wrap64 ((wrap64 ((wrap64 (x1_1 + 1)) + 1)) + 1)) + 1)⟩:SiS28)) (wrap64 ((wrap64 ((wrap64 ((wrap64 ((wrap64 (x1_1 + 1)) + 1)) + 1)) + 1)) + 1)) (wrap64 (x5_1 + 1)))) = some (r1,r2):=by first|(rw [hy391];with_reducible exact H)|(have H2_:=(Option.bind_some _ _).symm.trans H;rw [hy391];with_reducible exact H2_)|(have H2_:=(Option.bind_some _ _).symm.trans H;with_reducible exact H2_)|with_reducible exact H|(rw [hy391];exact H)|exact H
       have Ny391:=As0.mk hy391;clear hy391;obtain ⟨y392,hy392⟩:∃ y_:List (SiS28),y_ = (y391.set (x5_1:Int).toNat (⟨(riS37 y391 x5_1).f0,(riS37 y391 x5_1).f1,(riS37 y391 x5_1).f2,((Int.tmod (wrap64 ((wrap64 ((wrap64 (x1_1 + 1)) + 1)) + 1)) 3) == 0),(riS37 y391 x5_1).f4⟩:SiS28)):=⟨_,rfl⟩;replace H:(laws_markSpaceS.l0 k1 (y392.set (x5_1:Int).toNat (⟨(riS37 y392 x5_1).f0,(riS37 y392 x5_1).f1,(riS37 y392 x5_1).f2,(riS37 y392 x5_1).f3,wrap64 ((wrap64 ((wrap64 ((wrap64 (x1_1 + 1)) + 1)) + 1)) + 1)⟩:SiS28)) (wrap64 ((wrap64 ((wrap64 ((wrap64 ((wrap64 (x1_1 + 1)) + 1)) + 1)) + 1)) + 1)) (wrap64 (x5_1 + 1))) = some (r1,r2):=by first|(rw [hy392];with_reducible exact H)|(have H2_:=(Option.bind_some _ _).symm.trans H;rw [hy392];with_reducible exact H2_)|(have H2_:=(Option.bind_some _ _).symm.trans H;with_reducible exact H2_)|with_reducible exact H|(rw [hy392];exact H)|exact H
       have Ny392:=As0.mk hy392;clear hy392;obtain ⟨y393,hy393⟩:∃ y_:List (SiS28),y_ = (y392.set (x5_1:Int).toNat (⟨(riS37 y392 x5_1).f0,(riS37 y392 x5_1).f1,(riS37 y392 x5_1).f2,(riS37 y392 x5_1).f3,wrap64 ((wrap64 ((wrap64 ((wrap64 (x1_1 + 1)) + 1)) + 1)) + 1)⟩:SiS28)):=⟨_,rfl⟩;replace H:(laws_markSpaceS.l0 k1 y393 (wrap64 ((wrap64 ((wrap64 ((wrap64 ((wrap64 (x1_1 + 1)) + 1)) + 1)) + 1)) + 1)) (wrap64 (x5_1 + 1))) = some (r1,r2):=by first|(rw [hy393];with_reducible exact H)|(have H2_:=(Option.bind_some _ _).symm.trans H;rw [hy393];with_reducible exact H2_)|(have H2_:=(Option.bind_some _ _).symm.trans H;with_reducible exact H2_)|with_reducible exact H|(rw [hy393];exact H)|exact H
       have Ny393:=As0.mk hy393;clear hy393;have H':=As0.mk H;clear H;obtain ⟨Ao12,co12,eo12⟩:=Kd.R_slice HO_0.out;subst eo12
       go_wp2_with (first|((with_reducible refine gca (f:=57) rfl ?_);refine gL (some 15) Tryz.func57 #[.int .i64 x1_1] ?_;(with_reducible refine (laws_markText.calls k1 x1_1 t387 _ A4.out).mono ?_);rintro e w13 ⟨rfl,hb⟩;refine ⟨_,rfl,?_⟩;replace HO_0:=As0.mk (Kd.R_below (by (with_reducible repeat (first|apply Kd.Ral|apply Kd.RdN|apply Kd.R_drew));exact HO_0.out) hb);replace HK:=As0.mk (Kept.below (S:=(fun k_=>P0_ k_)) (by repeat (first|(with_reducible first|exact HK.out|apply Kept.alloc|apply Kept.drewN|apply Kept.drew)|exact HK.out)) hb);replace HB:=As0.mk (b3 HB.out hb);clear hb;have p6:0 ≤ (x5_1:Int):=odt;have q6:(x5_1:Int) < ((x0_1.length:Int):Int):=odt;obtain ⟨go6,co6,eo6,gb6,gl6,cl6,HG6⟩:=Kd.R_form HO_0.out (by omega);(first|cases eo6|(injection eo6 with ea_ en_ ec_;(first|subst ea_|(injection ea_ with ea_;subst ea_));subst ec_;clear en_));have GB6:=As0.mk gb6;have GG6:=As0.mk HG6;clear gb6 gl6 HG6;have HMgo6:=As0.mk (show (P0_ go6 ∨ w.heap.size ≤ go6) from (HO_0.out.1 _ rfl));obtain ⟨ce6,hcl6,hM6,hcc6,hfr6⟩:=Kd.R_elem HO_0.out ziS45 (x5_1:Int) p6 q6;obtain rfl:=k70_openM hM6;have hx6_0:w13.cell? ⟨go6,(x5_1:Int).toNat * 5,none⟩ = some (.string ((riS37 x0_1 x5_1).f0)):=hcc6 0 _ rfl;have hx6_1:w13.cell? ⟨go6,(x5_1:Int).toNat * 5 + 1,none⟩ = some (.string ((riS37 x0_1 x5_1).f1)):=hcc6 1 _ rfl;have hx6_2:w13.cell? ⟨go6,(x5_1:Int).toNat * 5 + 2,none⟩ = some (.int .i64 ((riS37 x0_1 x5_1).f2)):=hcc6 2 _ rfl;have hx6_3:w13.cell? ⟨go6,(x5_1:Int).toNat * 5 + 3,none⟩ = some (.bool ((riS37 x0_1 x5_1).f3)):=hcc6 3 _ rfl;have hx6_4:w13.cell? ⟨go6,(x5_1:Int).toNat * 5 + 4,none⟩ = some (.int .i64 ((riS37 x0_1 x5_1).f4)):=hcc6 4 _ rfl;have hf6_0:w13.frozen? ⟨go6,(x5_1:Int).toNat * 5,none⟩ = false:=hfr6 0;have hf6_1:w13.frozen? ⟨go6,(x5_1:Int).toNat * 5 + 1,none⟩ = false:=hfr6 1;have hf6_2:w13.frozen? ⟨go6,(x5_1:Int).toNat * 5 + 2,none⟩ = false:=hfr6 2;have hf6_3:w13.frozen? ⟨go6,(x5_1:Int).toNat * 5 + 3,none⟩ = false:=hfr6 3;have hf6_4:w13.frozen? ⟨go6,(x5_1:Int).toNat * 5 + 4,none⟩ = false:=hfr6 4;clear hcl6 hcc6 hfr6 hM6;replace p6:=eq_true p6;replace q6:=eq_true q6;have HX14:=As0.mk (show Kd.R k70 70 w13 w0.heap.size (fun k_=>(P0_ k_ ∨ w.heap.size ≤ k_)) (.slice (some ⟨go6,0,none⟩) x0_1.length co12) x0_1 from (by (with_reducible repeat (first|apply Kd.Ral|apply Kd.RdN|apply Kd.R_drew));exact HO_0.out));obtain ⟨ce14,hcl14,hM14,hcc14,hfr14⟩:=Kd.R_elem HX14.out ziS45 (x5_1:Int) (odt) (by have h_:(x5_1:Int) < ((x0_1.length:Int):Int):=odt;first|exact h_|(have e_:=(Kd.R_reads' HO_0.out).1;omega)|simpa using h_);obtain rfl:=k70_openM hM14;have HP14:=Kd.R_seg HX14.out (x5_1:Int) (odt) (by have h_:(x5_1:Int) < ((x0_1.length:Int):Int):=odt;first|exact h_|(have e_:=(Kd.R_reads' HO_0.out).1;omega)|simpa using h_) (seg:=[.string t387]) (j:=0) hcl14 hcc14 (show 1 ≤ 5 from by decide) (x':=(⟨t387,(riS37 x0_1 x5_1).f1,(riS37 x0_1 x5_1).f2,(riS37 x0_1 x5_1).f3,(riS37 x0_1 x5_1).f4⟩:SiS28)) (k70_mkM _ _ _ (⟨t387,(riS37 x0_1 x5_1).f1,(riS37 x0_1 x5_1).f2,(riS37 x0_1 x5_1).f3,(riS37 x0_1 x5_1).f4⟩:SiS28) ) (fun _ hk=>hk);have hx14_0:=hcc14 0 _ rfl;(try simp only [show (k70).sz = 5 from rfl,Nat.mul_one,Nat.add_zero] at hx14_0);have hf14_0:=hfr14 0;(try simp only [show (k70).sz = 5 from rfl,Nat.mul_one,Nat.add_zero] at hf14_0);clear hcl14 hcc14 hfr14 hM14)|((with_reducible refine gate_store (t:=9) (p:=17) rfl ?_);refine store_event (t:=9) (p:=17) (v:=?vo_w15) (w1:=(w13.setCell ⟨go6,(x5_1:Int).toNat * 5,none⟩ (.string t387))) ?hg ?ho ?hn ?hr ?_;(case ho=>rfl);(case hg=>rfl);(case hn=>rfl);(case hr=>first|(go_simp;done)|(go_simp;rfl));intro w15 hw;have hg:w13.grownBy w15 (some go6):=(by rw [hw];exact HP14.2);have hp_:Kd.R k70 70 w15 w0.heap.size (fun k_=>(P0_ k_ ∨ w.heap.size ≤ k_)) (.slice (some ⟨go6,0,none⟩) x0_1.length co12) y388:=(by rw [hw,Ny388.out];exact HP14.1);clear HP14;replace HB:=As0.mk ((by rw [hw];exact bst (HB.out) GB6.out:Below w0.heap.size w0 w15));replace HK:=As0.mk (Kept.of_grown (S:=(fun k_=>P0_ k_)) hg (by repeat (first|(with_reducible first|exact HK.out|apply Kept.alloc|apply Kept.drewN|apply Kept.drew)|exact HK.out)) (fun k_ e_=>(HO_0.out.1 k_ e_)));replace HO_0:=As0.mk (hp_);clear hg hw hp_)|((with_reducible refine gca (f:=57) rfl ?_);refine gL (some 23) Tryz.func57 #[.int .i64 (wrap64 (x1_1 + 1))] ?_;(with_reducible refine (laws_markText.calls k1 (wrap64 (x1_1 + 1)) t389 _ A7.out).mono ?_);rintro e w16 ⟨rfl,hb⟩;refine ⟨_,rfl,?_⟩;replace HO_0:=As0.mk (Kd.R_below (by (with_reducible repeat (first|apply Kd.Ral|apply Kd.RdN|apply Kd.R_drew));exact HO_0.out) hb);replace HK:=As0.mk (Kept.below (S:=(fun k_=>P0_ k_)) (by repeat (first|(with_reducible first|exact HK.out|apply Kept.alloc|apply Kept.drewN|apply Kept.drew)|exact HK.out)) hb);replace HB:=As0.mk (b3 HB.out hb);clear hb;have p8:0 ≤ (x5_1:Int):=odt;have q8:(x5_1:Int) < ((x0_1.length:Int):Int):=odt;obtain ⟨ce8,hcl8,hM8,hcc8,hfr8⟩:=Kd.R_elem HO_0.out ziS45 (x5_1:Int) p8 q8;obtain rfl:=k70_openM hM8;have hx8_0:w16.cell? ⟨go6,(x5_1:Int).toNat * 5,none⟩ = some (.string ((riS37 y388 x5_1).f0)):=hcc8 0 _ rfl;have hx8_1:w16.cell? ⟨go6,(x5_1:Int).toNat * 5 + 1,none⟩ = some (.string ((riS37 y388 x5_1).f1)):=hcc8 1 _ rfl;have hx8_2:w16.cell? ⟨go6,(x5_1:Int).toNat * 5 + 2,none⟩ = some (.int .i64 ((riS37 y388 x5_1).f2)):=hcc8 2 _ rfl;have hx8_3:w16.cell? ⟨go6,(x5_1:Int).toNat * 5 + 3,none⟩ = some (.bool ((riS37 y388 x5_1).f3)):=hcc8 3 _ rfl;have hx8_4:w16.cell? ⟨go6,(x5_1:Int).toNat * 5 + 4,none⟩ = some (.int .i64 ((riS37 y388 x5_1).f4)):=hcc8 4 _ rfl;have hf8_0:w16.frozen? ⟨go6,(x5_1:Int).toNat * 5,none⟩ = false:=hfr8 0;have hf8_1:w16.frozen? ⟨go6,(x5_1:Int).toNat * 5 + 1,none⟩ = false:=hfr8 1;have hf8_2:w16.frozen? ⟨go6,(x5_1:Int).toNat * 5 + 2,none⟩ = false:=hfr8 2;have hf8_3:w16.frozen? ⟨go6,(x5_1:Int).toNat * 5 + 3,none⟩ = false:=hfr8 3;have hf8_4:w16.frozen? ⟨go6,(x5_1:Int).toNat * 5 + 4,none⟩ = false:=hfr8 4;clear hcl8 hcc8 hfr8 hM8;replace p8:=eq_true p8;replace q8:=eq_true q8;have HX17:=As0.mk (show Kd.R k70 70 w16 w0.heap.size (fun k_=>(P0_ k_ ∨ w.heap.size ≤ k_)) (.slice (some ⟨go6,0,none⟩) x0_1.length co12) y388 from (by (with_reducible repeat (first|apply Kd.Ral|apply Kd.RdN|apply Kd.R_drew));exact HO_0.out));obtain ⟨ce17,hcl17,hM17,hcc17,hfr17⟩:=Kd.R_elem HX17.out ziS45 (x5_1:Int) (odt) (by have h_:(x5_1:Int) < ((x0_1.length:Int):Int):=odt;first|exact h_|(have e_:=(Kd.R_reads' HO_0.out).1;omega)|simpa using h_);obtain rfl:=k70_openM hM17;have HP17:=Kd.R_seg HX17.out (x5_1:Int) (odt) (by have h_:(x5_1:Int) < ((x0_1.length:Int):Int):=odt;first|exact h_|(have e_:=(Kd.R_reads' HO_0.out).1;omega)|simpa using h_) (seg:=[.string t389]) (j:=1) hcl17 hcc17 (show 2 ≤ 5 from by decide) (x':=(⟨(riS37 y388 x5_1).f0,t389,(riS37 y388 x5_1).f2,(riS37 y388 x5_1).f3,(riS37 y388 x5_1).f4⟩:SiS28)) (k70_mkM _ _ _ (⟨(riS37 y388 x5_1).f0,t389,(riS37 y388 x5_1).f2,(riS37 y388 x5_1).f3,(riS37 y388 x5_1).f4⟩:SiS28) ) (fun _ hk=>hk);have hx17_1:=hcc17 1 _ rfl;(try simp only [show (k70).sz = 5 from rfl,Nat.mul_one,Nat.add_zero] at hx17_1);have hf17_1:=hfr17 1;(try simp only [show (k70).sz = 5 from rfl,Nat.mul_one,Nat.add_zero] at hf17_1);clear hcl17 hcc17 hfr17 hM17)|((with_reducible refine gate_store (t:=9) (p:=25) rfl ?_);refine store_event (t:=9) (p:=25) (v:=?vo_w18) (w1:=(w16.setCell ⟨go6,(x5_1:Int).toNat * 5 + 1,none⟩ (.string t389))) ?hg ?ho ?hn ?hr ?_;(case ho=>rfl);(case hg=>rfl);(case hn=>rfl);(case hr=>first|(go_simp;done)|(go_simp;rfl));intro w18 hw;have hg:w16.grownBy w18 (some go6):=(by rw [hw];exact HP17.2);have hp_:Kd.R k70 70 w18 w0.heap.size (fun k_=>(P0_ k_ ∨ w.heap.size ≤ k_)) (.slice (some ⟨go6,0,none⟩) x0_1.length co12) y390:=(by rw [hw,Ny390.out];exact HP17.1);clear HP17;replace HB:=As0.mk ((by rw [hw];exact bst (HB.out) GB6.out:Below w0.heap.size w0 w18));replace HK:=As0.mk (Kept.of_grown (S:=(fun k_=>P0_ k_)) hg (by repeat (first|(with_reducible first|exact HK.out|apply Kept.alloc|apply Kept.drewN|apply Kept.drew)|exact HK.out)) (fun k_ e_=>(HO_0.out.1 k_ e_)));replace HO_0:=As0.mk (hp_);clear hg hw hp_;have p9:0 ≤ (x5_1:Int):=odt;have q9:(x5_1:Int) < ((x0_1.length:Int):Int):=odt;obtain ⟨ce9,hcl9,hM9,hcc9,hfr9⟩:=Kd.R_elem HO_0.out ziS45 (x5_1:Int) p9 q9;obtain rfl:=k70_openM hM9;have hx9_0:w18.cell? ⟨go6,(x5_1:Int).toNat * 5,none⟩ = some (.string ((riS37 y390 x5_1).f0)):=hcc9 0 _ rfl;have hx9_1:w18.cell? ⟨go6,(x5_1:Int).toNat * 5 + 1,none⟩ = some (.string ((riS37 y390 x5_1).f1)):=hcc9 1 _ rfl;have hx9_2:w18.cell? ⟨go6,(x5_1:Int).toNat * 5 + 2,none⟩ = some (.int .i64 ((riS37 y390 x5_1).f2)):=hcc9 2 _ rfl;have hx9_3:w18.cell? ⟨go6,(x5_1:Int).toNat * 5 + 3,none⟩ = some (.bool ((riS37 y390 x5_1).f3)):=hcc9 3 _ rfl;have hx9_4:w18.cell? ⟨go6,(x5_1:Int).toNat * 5 + 4,none⟩ = some (.int .i64 ((riS37 y390 x5_1).f4)):=hcc9 4 _ rfl;have hf9_0:w18.frozen? ⟨go6,(x5_1:Int).toNat * 5,none⟩ = false:=hfr9 0;have hf9_1:w18.frozen? ⟨go6,(x5_1:Int).toNat * 5 + 1,none⟩ = false:=hfr9 1;have hf9_2:w18.frozen? ⟨go6,(x5_1:Int).toNat * 5 + 2,none⟩ = false:=hfr9 2;have hf9_3:w18.frozen? ⟨go6,(x5_1:Int).toNat * 5 + 3,none⟩ = false:=hfr9 3;have hf9_4:w18.frozen? ⟨go6,(x5_1:Int).toNat * 5 + 4,none⟩ = false:=hfr9 4;clear hcl9 hcc9 hfr9 hM9;replace p9:=eq_true p9;replace q9:=eq_true q9;have HX19:=As0.mk (show Kd.R k70 70 w18 w0.heap.size (fun k_=>(P0_ k_ ∨ w.heap.size ≤ k_)) (.slice (some ⟨go6,0,none⟩) x0_1.length co12) y390 from (by (with_reducible repeat (first|apply Kd.Ral|apply Kd.RdN|apply Kd.R_drew));exact HO_0.out));obtain ⟨ce19,hcl19,hM19,hcc19,hfr19⟩:=Kd.R_elem HX19.out ziS45 (x5_1:Int) (odt) (by have h_:(x5_1:Int) < ((x0_1.length:Int):Int):=odt;first|exact h_|(have e_:=(Kd.R_reads' HO_0.out).1;omega)|simpa using h_);obtain rfl:=k70_openM hM19;have HP19:=Kd.R_seg HX19.out (x5_1:Int) (odt) (by have h_:(x5_1:Int) < ((x0_1.length:Int):Int):=odt;first|exact h_|(have e_:=(Kd.R_reads' HO_0.out).1;omega)|simpa using h_) (seg:=[.int .i64 (wrap64 ((wrap64 (x1_1 + 1)) + 1))]) (j:=2) hcl19 hcc19 (show 3 ≤ 5 from by decide) (x':=(⟨(riS37 y390 x5_1).f0,(riS37 y390 x5_1).f1,wrap64 ((wrap64 (x1_1 + 1)) + 1),(riS37 y390 x5_1).f3,(riS37 y390 x5_1).f4⟩:SiS28)) (k70_mkM _ _ _ (⟨(riS37 y390 x5_1).f0,(riS37 y390 x5_1).f1,wrap64 ((wrap64 (x1_1 + 1)) + 1),(riS37 y390 x5_1).f3,(riS37 y390 x5_1).f4⟩:SiS28) ) (fun _ hk=>hk);have hx19_2:=hcc19 2 _ rfl;(try simp only [show (k70).sz = 5 from rfl,Nat.mul_one,Nat.add_zero] at hx19_2);have hf19_2:=hfr19 2;(try simp only [show (k70).sz = 5 from rfl,Nat.mul_one,Nat.add_zero] at hf19_2);clear hcl19 hcc19 hfr19 hM19)|((with_reducible refine gate_store (t:=3) (p:=32) rfl ?_);refine store_event (t:=3) (p:=32) (v:=?vo_w20) (w1:=(w18.setCell ⟨go6,(x5_1:Int).toNat * 5 + 2,none⟩ (.int .i64 (wrap64 ((wrap64 (x1_1 + 1)) + 1))))) ?hg ?ho ?hn ?hr ?_;(case ho=>rfl);(case hg=>rfl);(case hn=>rfl);(case hr=>first|(go_simp;done)|(go_simp;rfl));intro w20 hw;have hg:w18.grownBy w20 (some go6):=(by rw [hw];exact HP19.2);have hp_:Kd.R k70 70 w20 w0.heap.size (fun k_=>(P0_ k_ ∨ w.heap.size ≤ k_)) (.slice (some ⟨go6,0,none⟩) x0_1.length co12) y391:=(by rw [hw,Ny391.out];exact HP19.1);clear HP19;replace HB:=As0.mk ((by rw [hw];exact bst (HB.out) GB6.out:Below w0.heap.size w0 w20));replace HK:=As0.mk (Kept.of_grown (S:=(fun k_=>P0_ k_)) hg (by repeat (first|(with_reducible first|exact HK.out|apply Kept.alloc|apply Kept.drewN|apply Kept.drew)|exact HK.out)) (fun k_ e_=>(HO_0.out.1 k_ e_)));replace HO_0:=As0.mk (hp_);clear hg hw hp_;have p10:0 ≤ (x5_1:Int):=odt;have q10:(x5_1:Int) < ((x0_1.length:Int):Int):=odt;obtain ⟨ce10,hcl10,hM10,hcc10,hfr10⟩:=Kd.R_elem HO_0.out ziS45 (x5_1:Int) p10 q10;obtain rfl:=k70_openM hM10;have hx10_0:w20.cell? ⟨go6,(x5_1:Int).toNat * 5,none⟩ = some (.string ((riS37 y391 x5_1).f0)):=hcc10 0 _ rfl;have hx10_1:w20.cell? ⟨go6,(x5_1:Int).toNat * 5 + 1,none⟩ = some (.string ((riS37 y391 x5_1).f1)):=hcc10 1 _ rfl;have hx10_2:w20.cell? ⟨go6,(x5_1:Int).toNat * 5 + 2,none⟩ = some (.int .i64 ((riS37 y391 x5_1).f2)):=hcc10 2 _ rfl;have hx10_3:w20.cell? ⟨go6,(x5_1:Int).toNat * 5 + 3,none⟩ = some (.bool ((riS37 y391 x5_1).f3)):=hcc10 3 _ rfl;have hx10_4:w20.cell? ⟨go6,(x5_1:Int).toNat * 5 + 4,none⟩ = some (.int .i64 ((riS37 y391 x5_1).f4)):=hcc10 4 _ rfl;have hf10_0:w20.frozen? ⟨go6,(x5_1:Int).toNat * 5,none⟩ = false:=hfr10 0;have hf10_1:w20.frozen? ⟨go6,(x5_1:Int).toNat * 5 + 1,none⟩ = false:=hfr10 1;have hf10_2:w20.frozen? ⟨go6,(x5_1:Int).toNat * 5 + 2,none⟩ = false:=hfr10 2;have hf10_3:w20.frozen? ⟨go6,(x5_1:Int).toNat * 5 + 3,none⟩ = false:=hfr10 3;have hf10_4:w20.frozen? ⟨go6,(x5_1:Int).toNat * 5 + 4,none⟩ = false:=hfr10 4;clear hcl10 hcc10 hfr10 hM10;replace p10:=eq_true p10;replace q10:=eq_true q10;have HX21:=As0.mk (show Kd.R k70 70 w20 w0.heap.size (fun k_=>(P0_ k_ ∨ w.heap.size ≤ k_)) (.slice (some ⟨go6,0,none⟩) x0_1.length co12) y391 from (by (with_reducible repeat (first|apply Kd.Ral|apply Kd.RdN|apply Kd.R_drew));exact HO_0.out));obtain ⟨ce21,hcl21,hM21,hcc21,hfr21⟩:=Kd.R_elem HX21.out ziS45 (x5_1:Int) (odt) (by have h_:(x5_1:Int) < ((x0_1.length:Int):Int):=odt;first|exact h_|(have e_:=(Kd.R_reads' HO_0.out).1;omega)|simpa using h_);obtain rfl:=k70_openM hM21;have HP21:=Kd.R_seg HX21.out (x5_1:Int) (odt) (by have h_:(x5_1:Int) < ((x0_1.length:Int):Int):=odt;first|exact h_|(have e_:=(Kd.R_reads' HO_0.out).1;omega)|simpa using h_) (seg:=[.bool ((Int.tmod (wrap64 ((wrap64 ((wrap64 (x1_1 + 1)) + 1)) + 1)) 3) == 0)]) (j:=3) hcl21 hcc21 (show 4 ≤ 5 from by decide) (x':=(⟨(riS37 y391 x5_1).f0,(riS37 y391 x5_1).f1,(riS37 y391 x5_1).f2,((Int.tmod (wrap64 ((wrap64 ((wrap64 (x1_1 + 1)) + 1)) + 1)) 3) == 0),(riS37 y391 x5_1).f4⟩:SiS28)) (k70_mkM _ _ _ (⟨(riS37 y391 x5_1).f0,(riS37 y391 x5_1).f1,(riS37 y391 x5_1).f2,((Int.tmod (wrap64 ((wrap64 ((wrap64 (x1_1 + 1)) + 1)) + 1)) 3) == 0),(riS37 y391 x5_1).f4⟩:SiS28) ) (fun _ hk=>hk);have hx21_3:=hcc21 3 _ rfl;(try simp only [show (k70).sz = 5 from rfl,Nat.mul_one,Nat.add_zero] at hx21_3);have hf21_3:=hfr21 3;(try simp only [show (k70).sz = 5 from rfl,Nat.mul_one,Nat.add_zero] at hf21_3);clear hcl21 hcc21 hfr21 hM21)|((with_reducible refine gate_store (t:=4) (p:=41) rfl ?_);refine store_event (t:=4) (p:=41) (v:=?vo_w22) (w1:=(w20.setCell ⟨go6,(x5_1:Int).toNat * 5 + 3,none⟩ (.bool ((Int.tmod (wrap64 ((wrap64 ((wrap64 (x1_1 + 1)) + 1)) + 1)) 3) == 0)))) ?hg ?ho ?hn ?hr ?_;(case ho=>rfl);(case hg=>rfl);(case hn=>rfl);(case hr=>first|(go_simp;done)|(go_simp;rfl));intro w22 hw;have hg:w20.grownBy w22 (some go6):=(by rw [hw];exact HP21.2);have hp_:Kd.R k70 70 w22 w0.heap.size (fun k_=>(P0_ k_ ∨ w.heap.size ≤ k_)) (.slice (some ⟨go6,0,none⟩) x0_1.length co12) y392:=(by rw [hw,Ny392.out];exact HP21.1);clear HP21;replace HB:=As0.mk ((by rw [hw];exact bst (HB.out) GB6.out:Below w0.heap.size w0 w22));replace HK:=As0.mk (Kept.of_grown (S:=(fun k_=>P0_ k_)) hg (by repeat (first|(with_reducible first|exact HK.out|apply Kept.alloc|apply Kept.drewN|apply Kept.drew)|exact HK.out)) (fun k_ e_=>(HO_0.out.1 k_ e_)));replace HO_0:=As0.mk (hp_);clear hg hw hp_;have p11:0 ≤ (x5_1:Int):=odt;have q11:(x5_1:Int) < ((x0_1.length:Int):Int):=odt;obtain ⟨ce11,hcl11,hM11,hcc11,hfr11⟩:=Kd.R_elem HO_0.out ziS45 (x5_1:Int) p11 q11;obtain rfl:=k70_openM hM11;have hx11_0:w22.cell? ⟨go6,(x5_1:Int).toNat * 5,none⟩ = some (.string ((riS37 y392 x5_1).f0)):=hcc11 0 _ rfl;have hx11_1:w22.cell? ⟨go6,(x5_1:Int).toNat * 5 + 1,none⟩ = some (.string ((riS37 y392 x5_1).f1)):=hcc11 1 _ rfl;have hx11_2:w22.cell? ⟨go6,(x5_1:Int).toNat * 5 + 2,none⟩ = some (.int .i64 ((riS37 y392 x5_1).f2)):=hcc11 2 _ rfl;have hx11_3:w22.cell? ⟨go6,(x5_1:Int).toNat * 5 + 3,none⟩ = some (.bool ((riS37 y392 x5_1).f3)):=hcc11 3 _ rfl;have hx11_4:w22.cell? ⟨go6,(x5_1:Int).toNat * 5 + 4,none⟩ = some (.int .i64 ((riS37 y392 x5_1).f4)):=hcc11 4 _ rfl;have hf11_0:w22.frozen? ⟨go6,(x5_1:Int).toNat * 5,none⟩ = false:=hfr11 0;have hf11_1:w22.frozen? ⟨go6,(x5_1:Int).toNat * 5 + 1,none⟩ = false:=hfr11 1;have hf11_2:w22.frozen? ⟨go6,(x5_1:Int).toNat * 5 + 2,none⟩ = false:=hfr11 2;have hf11_3:w22.frozen? ⟨go6,(x5_1:Int).toNat * 5 + 3,none⟩ = false:=hfr11 3;have hf11_4:w22.frozen? ⟨go6,(x5_1:Int).toNat * 5 + 4,none⟩ = false:=hfr11 4;clear hcl11 hcc11 hfr11 hM11;replace p11:=eq_true p11;replace q11:=eq_true q11;have HX23:=As0.mk (show Kd.R k70 70 w22 w0.heap.size (fun k_=>(P0_ k_ ∨ w.heap.size ≤ k_)) (.slice (some ⟨go6,0,none⟩) x0_1.length co12) y392 from (by (with_reducible repeat (first|apply Kd.Ral|apply Kd.RdN|apply Kd.R_drew));exact HO_0.out));obtain ⟨ce23,hcl23,hM23,hcc23,hfr23⟩:=Kd.R_elem HX23.out ziS45 (x5_1:Int) (odt) (by have h_:(x5_1:Int) < ((x0_1.length:Int):Int):=odt;first|exact h_|(have e_:=(Kd.R_reads' HO_0.out).1;omega)|simpa using h_);obtain rfl:=k70_openM hM23;have HP23:=Kd.R_seg HX23.out (x5_1:Int) (odt) (by have h_:(x5_1:Int) < ((x0_1.length:Int):Int):=odt;first|exact h_|(have e_:=(Kd.R_reads' HO_0.out).1;omega)|simpa using h_) (seg:=[.int .i64 (wrap64 ((wrap64 ((wrap64 ((wrap64 (x1_1 + 1)) + 1)) + 1)) + 1))]) (j:=4) hcl23 hcc23 (show 5 ≤ 5 from by decide) (x':=(⟨(riS37 y392 x5_1).f0,(riS37 y392 x5_1).f1,(riS37 y392 x5_1).f2,(riS37 y392 x5_1).f3,wrap64 ((wrap64 ((wrap64 ((wrap64 (x1_1 + 1)) + 1)) + 1)) + 1)⟩:SiS28)) (k70_mkM _ _ _ (⟨(riS37 y392 x5_1).f0,(riS37 y392 x5_1).f1,(riS37 y392 x5_1).f2,(riS37 y392 x5_1).f3,wrap64 ((wrap64 ((wrap64 ((wrap64 (x1_1 + 1)) + 1)) + 1)) + 1)⟩:SiS28) ) (fun _ hk=>hk);have hx23_4:=hcc23 4 _ rfl;(try simp only [show (k70).sz = 5 from rfl,Nat.mul_one,Nat.add_zero] at hx23_4);have hf23_4:=hfr23 4;(try simp only [show (k70).sz = 5 from rfl,Nat.mul_one,Nat.add_zero] at hf23_4);clear hcl23 hcc23 hfr23 hM23)|((with_reducible refine gate_store (t:=3) (p:=48) rfl ?_);refine store_event (t:=3) (p:=48) (v:=?vo_w24) (w1:=(w22.setCell ⟨go6,(x5_1:Int).toNat * 5 + 4,none⟩ (.int .i64 (wrap64 ((wrap64 ((wrap64 ((wrap64 (x1_1 + 1)) + 1)) + 1)) + 1))))) ?hg ?ho ?hn ?hr ?_;(case ho=>rfl);(case hg=>rfl);(case hn=>rfl);(case hr=>first|(go_simp;done)|(go_simp;rfl));intro w24 hw;have hg:w22.grownBy w24 (some go6):=(by rw [hw];exact HP23.2);have hp_:Kd.R k70 70 w24 w0.heap.size (fun k_=>(P0_ k_ ∨ w.heap.size ≤ k_)) (.slice (some ⟨go6,0,none⟩) x0_1.length co12) y393:=(by rw [hw,Ny393.out];exact HP23.1);clear HP23;replace HB:=As0.mk ((by rw [hw];exact bst (HB.out) GB6.out:Below w0.heap.size w0 w24));replace HK:=As0.mk (Kept.of_grown (S:=(fun k_=>P0_ k_)) hg (by repeat (first|(with_reducible first|exact HK.out|apply Kept.alloc|apply Kept.drewN|apply Kept.drew)|exact HK.out)) (fun k_ e_=>(HO_0.out.1 k_ e_)));replace HO_0:=As0.mk (hp_);clear hg hw hp_))
       show _;go_roundg k1
       case measure=>have:=HK1.out;omega
       case rel=>exact ⟨(y393),(wrap64 ((wrap64 ((wrap64 ((wrap64 ((wrap64 (x1_1 + 1)) + 1)) + 1)) + 1)) + 1)),(wrap64 (x5_1 + 1)),(by first|rfl|(simp;done)|(simp [*];done)),(by first|rfl|(simp;done)|(simp [*];done)),H',⟨by have:=HK1.out;omega⟩,⟨by (with_reducible repeat (first|apply Kd.Ral|apply Kd.RdN|apply Kd.R_drew));exact HO_0.out⟩,⟨by repeat (first|(with_reducible first|exact HK.out|apply Kept.alloc|apply Kept.drewN|apply Kept.drew)|exact HK.out)⟩,⟨by repeat (first|(with_reducible first|exact HB.out|apply bal|apply pbN|apply bd1)|exact HB.out)⟩⟩
     · rw [if_neg c5] at H
       exact absurd H (by simp)
   · rw [if_neg c3] at H
     have c3b0:decide (x5_1 < (x0_1.length:Int)) = false:=decide_eq_false c3;clear c3;simp only [Option.some.injEq,Prod.mk.injEq] at H;obtain ⟨rfl,rfl⟩:=H;obtain ⟨Ao25,co25,eo25⟩:=Kd.R_slice HO_0.out;subst eo25
     go_wp2
     go_ret
     exact ⟨eW,by (with_reducible repeat (first|apply Kd.Ral|apply Kd.RdN|apply Kd.R_drew));exact HO_0.out,by repeat (first|(with_reducible first|exact HB.out|apply bal|apply pbN|apply bd1)|exact HB.out),by repeat (first|(with_reducible first|exact HK.out|apply Kept.alloc|apply Kept.drewN|apply Kept.drew)|exact HK.out)⟩
def laws_markUseS.l0:Nat → List (SiU30) → Int → Int → Option (Int × (List (SiU30)))
 |0,_,_,_=>none
 |k + 1,x0,x1,x5=>if x5 < (x0.length:Int) then ((laws_markText.f k x1).bind fun t394=>(if 0 ≤ x5 then ((some (x0.set (x5:Int).toNat (⟨t394,(riU39 x0 x5).f1⟩:SiU30):List (SiU30))).bind fun y395=>(laws_markUseS.l0 k (y395.set (x5:Int).toNat (⟨(riU39 y395 x5).f0,wrap64 (x1 + 1)⟩:SiU30)) (wrap64 ((wrap64 (x1 + 1)) + 1)) (wrap64 (x5 + 1)))) else (none))) else (some (x1,x0))
def laws_markUseS.f (k:Nat) (l0:List (SiU30)) (a1:Int):Option (Int × (List (SiU30))):=laws_markUseS.l0 k l0 a1 0
set_option maxHeartbeats 40000000 in
set_option maxRecDepth 100000 in
theorem laws_markUseS.calls (k:Nat) (P0_:Nat → Prop) (u9000_:Value) (l0:List (SiU30)) (a1:Int) (r1:Int) (r2:List (SiU30)) (w0 w:World) (hB:Below w0.heap.size w0 w) (ho0:Kd.R k72 72 w w0.heap.size P0_ u9000_ l0) (h:laws_markUseS.f k l0 a1 = some (r1,r2)) :
 Calls Tryz.prog 55 #[u9000_,.int .i64 a1] w fun e w'=>e = .returned (.int .i64 r1) ∧ Kd.R k72 72 w' w0.heap.size (fun k_=>(P0_ k_ ∨ w.heap.size ≤ k_)) u9000_ r2 ∧ Below w0.heap.size w0 w' ∧ Kept w w' (fun k_=>P0_ k_):=by
 have HO0:=As0.mk (show Kd.R k72 72 w w0.heap.size (fun k_=>(P0_ k_ ∨ w.heap.size ≤ k_)) u9000_ l0 from Kd.R_mono ho0 (fun k_ hk=>(.inl hk)));have HK:=As0.mk (Kept.refl w (fun k_=>P0_ k_));have HW0:=As0.mk hB.size;have HB:=As0.mk hB;clear hB;have H:(laws_markUseS.l0 k l0 a1 0) = some (r1,r2):=h;clear h;have H':=As0.mk H;clear H
 go_enter Tryz.func55,Tryz.ntmps55
 go_wp2
 show _;go_loopg [1,5] k (fun kq v1 v5 w'=>∃ (x0_1:List (SiU30)) (x1_1:Int) (x5_1:Int),v1 = .int .i64 x1_1 ∧ v5 = .int .i64 x5_1 ∧ As0 (laws_markUseS.l0 kq x0_1 x1_1 x5_1 = some (r1,r2)) ∧ As0 (kq ≤ k) ∧ As0 (Kd.R k72 72 w' w0.heap.size (fun k_=>(P0_ k_ ∨ w.heap.size ≤ k_)) u9000_ x0_1) ∧ As0 (Kept w w' (fun k_=>P0_ k_)) ∧ As0 (Below w0.heap.size w0 w'))
 case atStart=>exact ⟨(l0),(a1),(0),(by first|rfl|(simp;done)|(simp [*];done)),(by first|rfl|(simp;done)|(simp [*];done)),H',⟨Nat.le_refl _⟩,⟨by (with_reducible repeat (first|apply Kd.Ral|apply Kd.RdN|apply Kd.R_drew));exact HO0.out⟩,⟨by repeat (first|(with_reducible first|exact HK.out|apply Kept.alloc|apply Kept.drewN|apply Kept.drew)|exact HK.out)⟩,⟨by repeat (first|(with_reducible first|exact HB.out|apply bal|apply pbN|apply bd1)|exact HB.out)⟩⟩
 case round=>
  clear H'
  try clear p2
  obtain ⟨x0_1,x1_1,x5_1,rfl,rfl,HA,HK1,HO_0,HK,HB⟩:=hrel
  cases gk with
  |zero=>exact absurd HA.out (by simp [laws_markUseS.l0])
  |succ k1=>
   have H:=HA.out;clear HA;simp only [laws_markUseS.l0] at H;by_cases c3:x5_1 < (x0_1.length:Int)
   · rw [if_pos c3] at H
     have c3b0:decide (x5_1 < (x0_1.length:Int)) = true:=decide_eq_true c3;clear c3;replace H:=Option.bind_eq_some_iff.mp H;obtain ⟨t394,A40,H⟩:=H;(try dsimp only at H);have A4:=As0.mk A40;clear A40;by_cases c5:0 ≤ x5_1
     · rw [if_pos c5] at H
       have c5b0:decide (0 ≤ x5_1) = true:=decide_eq_true c5;clear c5;obtain ⟨y395,hy395⟩:∃ y_:List (SiU30),y_ = (x0_1.set (x5_1:Int).toNat (⟨t394,(riU39 x0_1 x5_1).f1⟩:SiU30)):=⟨_,rfl⟩;replace H:(laws_markUseS.l0 k1 (y395.set (x5_1:Int).toNat (⟨(riU39 y395 x5_1).f0,wrap64 (x1_1 + 1)⟩:SiU30)) (wrap64 ((wrap64 (x1_1 + 1)) + 1)) (wrap64 (x5_1 + 1))) = some (r1,r2):=by first|(rw [hy395];with_reducible exact H)|(have H2_:=(Option.bind_some _ _).symm.trans H;rw [hy395];with_reducible exact H2_)|(have H2_:=(Option.bind_some _ _).symm.trans H;with_reducible exact H2_)|with_reducible exact H|(rw [hy395];exact H)|exact H
       have Ny395:=As0.mk hy395;clear hy395;obtain ⟨y396,hy396⟩:∃ y_:List (SiU30),y_ = (y395.set (x5_1:Int).toNat (⟨(riU39 y395 x5_1).f0,wrap64 (x1_1 + 1)⟩:SiU30)):=⟨_,rfl⟩;replace H:(laws_markUseS.l0 k1 y396 (wrap64 ((wrap64 (x1_1 + 1)) + 1)) (wrap64 (x5_1 + 1))) = some (r1,r2):=by first|(rw [hy396];with_reducible exact H)|(have H2_:=(Option.bind_some _ _).symm.trans H;rw [hy396];with_reducible exact H2_)|(have H2_:=(Option.bind_some _ _).symm.trans H;with_reducible exact H2_)|with_reducible exact H|(rw [hy396];exact H)|exact H
       have Ny396:=As0.mk hy396;clear hy396;have H':=As0.mk H;clear H;obtain ⟨Ao8,co8,eo8⟩:=Kd.R_slice HO_0.out;subst eo8
       go_wp2_with (first|((with_reducible refine gca (f:=57) rfl ?_);refine gL (some 15) Tryz.func57 #[.int .i64 x1_1] ?_;(with_reducible refine (laws_markText.calls k1 x1_1 t394 _ A4.out).mono ?_);rintro e w9 ⟨rfl,hb⟩;refine ⟨_,rfl,?_⟩;replace HO_0:=As0.mk (Kd.R_below (by (with_reducible repeat (first|apply Kd.Ral|apply Kd.RdN|apply Kd.R_drew));exact HO_0.out) hb);replace HK:=As0.mk (Kept.below (S:=(fun k_=>P0_ k_)) (by repeat (first|(with_reducible first|exact HK.out|apply Kept.alloc|apply Kept.drewN|apply Kept.drew)|exact HK.out)) hb);replace HB:=As0.mk (b3 HB.out hb);clear hb;have p6:0 ≤ (x5_1:Int):=odt;have q6:(x5_1:Int) < ((x0_1.length:Int):Int):=odt;obtain ⟨go6,co6,eo6,gb6,gl6,cl6,HG6⟩:=Kd.R_form HO_0.out (by omega);(first|cases eo6|(injection eo6 with ea_ en_ ec_;(first|subst ea_|(injection ea_ with ea_;subst ea_));subst ec_;clear en_));have GB6:=As0.mk gb6;have GG6:=As0.mk HG6;clear gb6 gl6 HG6;have HMgo6:=As0.mk (show (P0_ go6 ∨ w.heap.size ≤ go6) from (HO_0.out.1 _ rfl));obtain ⟨ce6,hcl6,hM6,hcc6,hfr6⟩:=Kd.R_elem HO_0.out ziU47 (x5_1:Int) p6 q6;obtain rfl:=k72_openM hM6;have hx6_0:w9.cell? ⟨go6,(x5_1:Int).toNat * 2,none⟩ = some (.string ((riU39 x0_1 x5_1).f0)):=hcc6 0 _ rfl;have hx6_1:w9.cell? ⟨go6,(x5_1:Int).toNat * 2 + 1,none⟩ = some (.int .i64 ((riU39 x0_1 x5_1).f1)):=hcc6 1 _ rfl;have hf6_0:w9.frozen? ⟨go6,(x5_1:Int).toNat * 2,none⟩ = false:=hfr6 0;have hf6_1:w9.frozen? ⟨go6,(x5_1:Int).toNat * 2 + 1,none⟩ = false:=hfr6 1;clear hcl6 hcc6 hfr6 hM6;replace p6:=eq_true p6;replace q6:=eq_true q6;have HX10:=As0.mk (show Kd.R k72 72 w9 w0.heap.size (fun k_=>(P0_ k_ ∨ w.heap.size ≤ k_)) (.slice (some ⟨go6,0,none⟩) x0_1.length co8) x0_1 from (by (with_reducible repeat (first|apply Kd.Ral|apply Kd.RdN|apply Kd.R_drew));exact HO_0.out));obtain ⟨ce10,hcl10,hM10,hcc10,hfr10⟩:=Kd.R_elem HX10.out ziU47 (x5_1:Int) (odt) (by have h_:(x5_1:Int) < ((x0_1.length:Int):Int):=odt;first|exact h_|(have e_:=(Kd.R_reads' HO_0.out).1;omega)|simpa using h_);obtain rfl:=k72_openM hM10;have HP10:=Kd.R_seg HX10.out (x5_1:Int) (odt) (by have h_:(x5_1:Int) < ((x0_1.length:Int):Int):=odt;first|exact h_|(have e_:=(Kd.R_reads' HO_0.out).1;omega)|simpa using h_) (seg:=[.string t394]) (j:=0) hcl10 hcc10 (show 1 ≤ 2 from by decide) (x':=(⟨t394,(riU39 x0_1 x5_1).f1⟩:SiU30)) (k72_mkM _ _ _ (⟨t394,(riU39 x0_1 x5_1).f1⟩:SiU30) ) (fun _ hk=>hk);have hx10_0:=hcc10 0 _ rfl;(try simp only [show (k72).sz = 2 from rfl,Nat.mul_one,Nat.add_zero] at hx10_0);have hf10_0:=hfr10 0;(try simp only [show (k72).sz = 2 from rfl,Nat.mul_one,Nat.add_zero] at hf10_0);clear hcl10 hcc10 hfr10 hM10)|((with_reducible refine gate_store (t:=9) (p:=17) rfl ?_);refine store_event (t:=9) (p:=17) (v:=?vo_w11) (w1:=(w9.setCell ⟨go6,(x5_1:Int).toNat * 2,none⟩ (.string t394))) ?hg ?ho ?hn ?hr ?_;(case ho=>rfl);(case hg=>rfl);(case hn=>rfl);(case hr=>first|(go_simp;done)|(go_simp;rfl));intro w11 hw;have hg:w9.grownBy w11 (some go6):=(by rw [hw];exact HP10.2);have hp_:Kd.R k72 72 w11 w0.heap.size (fun k_=>(P0_ k_ ∨ w.heap.size ≤ k_)) (.slice (some ⟨go6,0,none⟩) x0_1.length co8) y395:=(by rw [hw,Ny395.out];exact HP10.1);clear HP10;replace HB:=As0.mk ((by rw [hw];exact bst (HB.out) GB6.out:Below w0.heap.size w0 w11));replace HK:=As0.mk (Kept.of_grown (S:=(fun k_=>P0_ k_)) hg (by repeat (first|(with_reducible first|exact HK.out|apply Kept.alloc|apply Kept.drewN|apply Kept.drew)|exact HK.out)) (fun k_ e_=>(HO_0.out.1 k_ e_)));replace HO_0:=As0.mk (hp_);clear hg hw hp_;have p7:0 ≤ (x5_1:Int):=odt;have q7:(x5_1:Int) < ((x0_1.length:Int):Int):=odt;obtain ⟨ce7,hcl7,hM7,hcc7,hfr7⟩:=Kd.R_elem HO_0.out ziU47 (x5_1:Int) p7 q7;obtain rfl:=k72_openM hM7;have hx7_0:w11.cell? ⟨go6,(x5_1:Int).toNat * 2,none⟩ = some (.string ((riU39 y395 x5_1).f0)):=hcc7 0 _ rfl;have hx7_1:w11.cell? ⟨go6,(x5_1:Int).toNat * 2 + 1,none⟩ = some (.int .i64 ((riU39 y395 x5_1).f1)):=hcc7 1 _ rfl;have hf7_0:w11.frozen? ⟨go6,(x5_1:Int).toNat * 2,none⟩ = false:=hfr7 0;have hf7_1:w11.frozen? ⟨go6,(x5_1:Int).toNat * 2 + 1,none⟩ = false:=hfr7 1;clear hcl7 hcc7 hfr7 hM7;replace p7:=eq_true p7;replace q7:=eq_true q7;have HX12:=As0.mk (show Kd.R k72 72 w11 w0.heap.size (fun k_=>(P0_ k_ ∨ w.heap.size ≤ k_)) (.slice (some ⟨go6,0,none⟩) x0_1.length co8) y395 from (by (with_reducible repeat (first|apply Kd.Ral|apply Kd.RdN|apply Kd.R_drew));exact HO_0.out));obtain ⟨ce12,hcl12,hM12,hcc12,hfr12⟩:=Kd.R_elem HX12.out ziU47 (x5_1:Int) (odt) (by have h_:(x5_1:Int) < ((x0_1.length:Int):Int):=odt;first|exact h_|(have e_:=(Kd.R_reads' HO_0.out).1;omega)|simpa using h_);obtain rfl:=k72_openM hM12;have HP12:=Kd.R_seg HX12.out (x5_1:Int) (odt) (by have h_:(x5_1:Int) < ((x0_1.length:Int):Int):=odt;first|exact h_|(have e_:=(Kd.R_reads' HO_0.out).1;omega)|simpa using h_) (seg:=[.int .i64 (wrap64 (x1_1 + 1))]) (j:=1) hcl12 hcc12 (show 2 ≤ 2 from by decide) (x':=(⟨(riU39 y395 x5_1).f0,wrap64 (x1_1 + 1)⟩:SiU30)) (k72_mkM _ _ _ (⟨(riU39 y395 x5_1).f0,wrap64 (x1_1 + 1)⟩:SiU30) ) (fun _ hk=>hk);have hx12_1:=hcc12 1 _ rfl;(try simp only [show (k72).sz = 2 from rfl,Nat.mul_one,Nat.add_zero] at hx12_1);have hf12_1:=hfr12 1;(try simp only [show (k72).sz = 2 from rfl,Nat.mul_one,Nat.add_zero] at hf12_1);clear hcl12 hcc12 hfr12 hM12)|((with_reducible refine gate_store (t:=3) (p:=24) rfl ?_);refine store_event (t:=3) (p:=24) (v:=?vo_w13) (w1:=(w11.setCell ⟨go6,(x5_1:Int).toNat * 2 + 1,none⟩ (.int .i64 (wrap64 (x1_1 + 1))))) ?hg ?ho ?hn ?hr ?_;(case ho=>rfl);(case hg=>rfl);(case hn=>rfl);(case hr=>first|(go_simp;done)|(go_simp;rfl));intro w13 hw;have hg:w11.grownBy w13 (some go6):=(by rw [hw];exact HP12.2);have hp_:Kd.R k72 72 w13 w0.heap.size (fun k_=>(P0_ k_ ∨ w.heap.size ≤ k_)) (.slice (some ⟨go6,0,none⟩) x0_1.length co8) y396:=(by rw [hw,Ny396.out];exact HP12.1);clear HP12;replace HB:=As0.mk ((by rw [hw];exact bst (HB.out) GB6.out:Below w0.heap.size w0 w13));replace HK:=As0.mk (Kept.of_grown (S:=(fun k_=>P0_ k_)) hg (by repeat (first|(with_reducible first|exact HK.out|apply Kept.alloc|apply Kept.drewN|apply Kept.drew)|exact HK.out)) (fun k_ e_=>(HO_0.out.1 k_ e_)));replace HO_0:=As0.mk (hp_);clear hg hw hp_))
       show _;go_roundg k1
       case measure=>have:=HK1.out;omega
       case rel=>exact ⟨(y396),(wrap64 ((wrap64 (x1_1 + 1)) + 1)),(wrap64 (x5_1 + 1)),(by first|rfl|(simp;done)|(simp [*];done)),(by first|rfl|(simp;done)|(simp [*];done)),H',⟨by have:=HK1.out;omega⟩,⟨by (with_reducible repeat (first|apply Kd.Ral|apply Kd.RdN|apply Kd.R_drew));exact HO_0.out⟩,⟨by repeat (first|(with_reducible first|exact HK.out|apply Kept.alloc|apply Kept.drewN|apply Kept.drew)|exact HK.out)⟩,⟨by repeat (first|(with_reducible first|exact HB.out|apply bal|apply pbN|apply bd1)|exact HB.out)⟩⟩
     · rw [if_neg c5] at H
       exact absurd H (by simp)
   · rw [if_neg c3] at H
     have c3b0:decide (x5_1 < (x0_1.length:Int)) = false:=decide_eq_false c3;clear c3;simp only [Option.some.injEq,Prod.mk.injEq] at H;obtain ⟨rfl,rfl⟩:=H;obtain ⟨Ao14,co14,eo14⟩:=Kd.R_slice HO_0.out;subst eo14
     go_wp2
     go_ret
     exact ⟨eW,by (with_reducible repeat (first|apply Kd.Ral|apply Kd.RdN|apply Kd.R_drew));exact HO_0.out,by repeat (first|(with_reducible first|exact HB.out|apply bal|apply pbN|apply bd1)|exact HB.out),by repeat (first|(with_reducible first|exact HK.out|apply Kept.alloc|apply Kept.drewN|apply Kept.drew)|exact HK.out)⟩
def mth.Mk (w w':World) (P T:Nat → Prop):Prop:=Kept w w' P ∧ ∀ (g:Nat) (cs:Array Value) (t:Nat),w.heap[g]? = some (.cells cs t (0,0)) → ∃ cs':Array Value,w'.heap[g]? = some (.cells cs' t (0,0)) ∧ cs'.size = cs.size ∧ (¬ T t → cs' = cs)
section
variable {w W W2:World} {P P' T T':Nat → Prop}
theorem mth.Mk.refl (w:World) (P T:Nat → Prop):mth.Mk w w P T:=⟨Kept.refl w P,fun _ cs _ h=>⟨cs,h,rfl,fun _=>rfl⟩⟩
theorem mth.Mk.below (h:mth.Mk w W P T) (hb:Below W.heap.size W W2):mth.Mk w W2 P T:=
 ⟨Kept.below h.1 hb,fun g cs t hg=>by obtain ⟨cs',h1,h2⟩:=h.2 g cs t hg;exact ⟨cs',blk_below h1 hb,h2⟩⟩
theorem mth.Mk.weak (h:mth.Mk w W P T) (hp:∀ k,P k → P' k) (ht:∀ k,T k → T' k):mth.Mk w W P' T':=
 ⟨h.1.mono hp,fun g cs t hg=>by obtain ⟨cs',h1,h2,h3⟩:=h.2 g cs t hg;exact ⟨cs',h1,h2,fun hn=>h3 (fun hk=>hn (ht t hk))⟩⟩
theorem mth.Mk.trans (h:mth.Mk w W P T) (k:mth.Mk W W2 P T):mth.Mk w W2 P T:=
 ⟨h.1.then_ k.1 (fun _ hk=>.inl hk),fun g cs t hg=>by
  obtain ⟨c1,h1,h2,h3⟩:=h.2 g cs t hg;obtain ⟨c2,k1,k2,k3⟩:=k.2 g c1 t h1
  exact ⟨c2,k1,k2.trans h2,fun hn=>(k3 hn).trans (h3 hn)⟩⟩
theorem mth.Mk.put (h:mth.Mk w W P T) {g:Nat} {cs:Array Value} {t:Nat} (hg:W.heap[g]? = some (.cells cs t (0,0))) (hP:P g) (hT:T t) (i:Nat) (u:Value):mth.Mk w (W.setCell ⟨g,i,none⟩ u) P T:=by
 refine ⟨⟨by have:=h.1.1;simpa [World.setCell] using this,fun q hq hn=>?_⟩,fun q c1 t1 hq=>?_⟩
 · rw [Below.heap_setCell W _ u q (fun e=>hn (by rw [e];exact hP))]
   exact h.1.2 q hq hn
 · obtain ⟨c2,h1,h2,h3⟩:=h.2 q c1 t1 hq
   by_cases he:q = g
   · subst he
     rw [hg] at h1;injection h1 with h1
     injection h1 with h4 h5
     subst h4 h5
     exact ⟨_,blk_set hg i u,by rw [Array.size_setIfInBounds];exact h2,fun hn=>absurd hT hn⟩
   · exact ⟨c2,(Below.heap_setCell W _ u q he).trans h1,h2,h3⟩
end
def mth.Row (w:World) (P:Nat → Prop) (A:Option Addr) (n:Nat):Prop:=n ≤ 9223372036854775807 ∧ (n = 0 ∨ ∃ (g:Nat) (cs:Array Value),A = some ⟨g,0,none⟩ ∧ P g ∧ w.heap[g]? = some (.cells cs 9 (0,0)) ∧ n ≤ cs.size)
theorem mth.Row.mk {w W:World} {P T:Nat → Prop} {A:Option Addr} {n:Nat} (h:mth.Row w P A n) (hk:mth.Mk w W P T):mth.Row W P A n:=
 ⟨h.1,h.2.imp id fun ⟨g,cs,ha,hp,hg,hn⟩=>by
  obtain ⟨cs',h1,h2,_⟩:=hk.2 g cs _ hg
  exact ⟨g,cs',ha,hp,h1,by omega⟩⟩
def mth.up (k:Nat):Nat → Int → Option Int
 |0,a=>some a
 |n + 1,a=>(laws_markText.f k a).bind fun _=>mth.up k n (wrap64 (a + 1))
set_option maxHeartbeats 4000000 in
set_option maxRecDepth 100000 in
theorem mth.strs (k n:Nat) (P:Nat → Prop) (A:Option Addr) (c:Nat) (a r:Int) (w0 w:World) (hB:Below w0.heap.size w0 w) (hP:∀ g,P g → w0.heap.size ≤ g) (hr:mth.Row w P A n) (h:mth.up k n a = some r) :
 Calls Tryz.prog 23 #[.slice A n c,.int .i64 a] w fun e w'=>e = .returned (.int .i64 r) ∧ Below w0.heap.size w0 w' ∧ mth.Mk w w' P (fun t=>t = 9):=by
 have HR:=As0.mk hr;have HP:=As0.mk hP;have HQ:=As0.mk h;have HB:=As0.mk hB;have HK:=As0.mk (mth.Mk.refl w P (fun t=>t = 9));clear hr hP h hB
 go_enter Tryz.func23,Tryz.ntmps23
 go_wp2
 show _;go_loopg [1,5] n (fun m v1 v5 w'=>∃ (i:Nat) (b:Int),v1 = .int .i64 b ∧ v5 = .int .i64 (i:Int) ∧ As0 (i + m = n) ∧ As0 (mth.up k m b = some r) ∧ As0 (Below w0.heap.size w0 w') ∧ As0 (mth.Mk w w' P (fun t=>t = 9)))
 case atStart=>exact ⟨0,a,rfl,(by first|rfl|(simp;done)),⟨by simp⟩,HQ,HB,HK⟩
 case round=>
  clear HB HQ HK;obtain ⟨i,b,rfl,rfl,HM,HI,HB,HK⟩:=hrel
  cases gk with
  |zero=>
   have hm:=HM.out;have t0:decide ((i:Int) < (n:Int)) = false:=decide_eq_false (by omega);have t1:decide (i < n) = false:=decide_eq_false (by omega);have HE:=As0.mk (show b = r from Option.some.inj HI.out);clear hm HI HM
   go_wp2
   go_ret
   exact ⟨by rw [← HE.out];first|done|rfl|(simp;done),HB.out,HK.out⟩
  |succ k2=>
   have hm:=HM.out;have hi:i < n:=by omega
   have hb9:=HR.out.1;have t0:decide ((i:Int) < (n:Int)) = true:=decide_eq_true (by omega);have t1:decide (i < n) = true:=decide_eq_true hi;have hI:=HI.out;rw [mth.up] at hI;obtain ⟨t,hT,hI2⟩:=Option.bind_eq_some_iff.mp hI;obtain ⟨g,cs0,hA,hPg,hb0,hn0⟩:=HR.out.2.resolve_left (by omega);subst hA;obtain ⟨cs,hb1,hsz,hs3⟩:=HK.out.2 g cs0 _ hb0;have hic:i < cs.size:=by omega
   have HG:=As0.mk hb1;have HT:=As0.mk hT;have HI2:=As0.mk hI2;have HPg:=As0.mk hPg;have HV:=As0.mk (show cs[i]? = some cs[i] from Array.getElem?_eq_getElem hic);have p0:(0 ≤ (i:Int)) = True:=eq_true (by omega);have q1_:(i < n) = True:=eq_true hi;have q2_:((i:Int) < (n:Int)) = True:=eq_true (by omega);have w0_:wrap64 ((i:Int) + 1) = ((i + 1:Nat):Int):=by unfold wrap64;omega
   have i0_:((i:Int)).toNat = i:=rfl;have HM2:=As0.mk (show i + 1 + k2 = n by omega);have W0:=As0.mk w0_;generalize cs[i] = vi at HV
   clear hs3 hI hm HM w0_ hT hI2 HI hPg hb0 hn0 hb1 hsz hic hb9 hi;clear cs0
   go_wp2_with (first
    |(go_at_call 57;(with_reducible refine (laws_markText.calls k b t _ HT.out).mono ?_);rintro e w8 ⟨rfl,hb⟩;have n0_:=As0.mk (bsp HB.out hb);have n1_:=As0.mk (HK.out.below hb);have n2_:=As0.mk (blk_below HG.out hb);clear HB HK HG hb;have HB:=n0_;have HK:=n1_;have HG:=n2_;clear n0_ n1_ n2_;have hx:w8.cell? ⟨g,i,none⟩ = some vi:=(bkC HG.out i).trans HV.out;have hf:w8.frozen? ⟨g,i,none⟩ = false:=bkF HG.out i)
    |((with_reducible refine gate_store (t:=9) (p:=16) rfl ?_);refine store_event (t:=9) (p:=16) (v:=?vo_w8) (w1:=(w8.setCell ⟨g,i,none⟩ (.string t))) ?hg ?ho ?hn ?hr ?_;(case ho=>rfl);(case hg=>rfl);(case hn=>rfl);(case hr=>first|(go_simp;done)|(go_simp;rfl));intro w9 hw;have n0_:=As0.mk ((by rw [hw];exact bst HB.out (HP.out _ HPg.out)):Below w0.heap.size w0 w9);have n1_:=As0.mk ((by rw [hw];exact HK.out.put HG.out HPg.out rfl i _):mth.Mk w w9 P (fun t=>t = 9));clear HB HK HG hx hf hw;have HB:=n0_;have HK:=n1_;clear n0_ n1_))
   show _;go_roundg k2
   case measure=>omega
   case rel=>exact ⟨i + 1,wrap64 (b + 1),(by first|rfl|(simp;done)),(by first|rw [W0.out]|(simp;done)),HM2,HI2,HB,HK⟩
def mth.TB (w:World) (P:Nat → Prop) (g N:Nat) (fs:Nat → Option Value):Prop:=P g ∧ ∃ cs:Array Value,w.heap[g]? = some (.cells cs 44 (0,0)) ∧ cs.size = N ∧ ∀ q,cs[7 * q + 5]? = fs q
def mth.St (w0 w W:World) (P:Nat → Prop) (g N:Nat) (fs:Nat → Option Value):Prop:=Below w0.heap.size w0 W ∧ mth.Mk w W P (fun _=>True) ∧ mth.TB W P g N fs
section
variable {w0 w W W2:World} {P:Nat → Prop} {g N:Nat} {fs:Nat → Option Value}
theorem mth.St.below (h:mth.St w0 w W P g N fs) (hb:Below W.heap.size W W2):mth.St w0 w W2 P g N fs:=
 ⟨bsp h.1 hb,h.2.1.below hb,h.2.2.1,by obtain ⟨cs,h1,h2⟩:=h.2.2.2;exact ⟨cs,blk_below h1 hb,h2⟩⟩
theorem mth.St.put (h:mth.St w0 w W P g N fs) (hP:∀ g,P g → w0.heap.size ≤ g) (j:Nat) (hj:∀ q,7 * q + 5 ≠ j) (u:Value):mth.St w0 w (W.setCell ⟨g,j,none⟩ u) P g N fs:=by
 obtain ⟨h1,h2,h3,cs,h4,h5,h6⟩:=h;refine ⟨bst h1 (hP _ h3),h2.put h4 h3 trivial j u,h3,_,blk_set h4 j u,by rw [Array.size_setIfInBounds];exact h5,fun q=>?_⟩;rw [Array.getElem?_setIfInBounds_ne (fun e=>hj q e.symm)]
 exact h6 q
theorem mth.St.strs (h:mth.St w0 w W P g N fs) (hb:Below w0.heap.size w0 W2) (hk:mth.Mk W W2 P (fun t=>t = 9)):mth.St w0 w W2 P g N fs:=by
 obtain ⟨h1,h2,h3,cs,h4,h5,h6⟩:=h;obtain ⟨cs',k1,k2,k3⟩:=hk.2 g cs _ h4;have:=k3 (by decide);subst this
 exact ⟨hb,h2.trans (hk.weak (fun _ h=>h) (fun _ _=>trivial)),h3,cs',k1,h5,h6⟩
theorem mth.St.b (h:mth.St w0 w W P g N fs):Below w0.heap.size w0 W:=h.1
theorem mth.St.k (h:mth.St w0 w W P g N fs):mth.Mk w W P (fun _=>True):=h.2.1
theorem mth.St.cell (h:mth.St w0 w W P g N fs) (j:Nat) (hj:j < N):∃ v,W.cell? ⟨g,j,none⟩ = some v:=by
 obtain ⟨h1,h2,h3,cs,h4,h5,h6⟩:=h
 exact ⟨cs[j],(bkC h4 j).trans (Array.getElem?_eq_getElem (by omega))⟩
theorem mth.St.froz (h:mth.St w0 w W P g N fs) (j:Nat):W.frozen? ⟨g,j,none⟩ = false:=by
 obtain ⟨h1,h2,h3,cs,h4,h5,h6⟩:=h
 exact bkF h4 j
theorem mth.St.row (h:mth.St w0 w W P g N fs) (q:Nat) {v:Value} (hq:fs q = some v):W.cell? ⟨g,q * 7 + 5,none⟩ = some v:=by
 obtain ⟨h1,h2,h3,cs,h4,h5,h6⟩:=h;rw [bkC h4,Nat.mul_comm,h6,hq]
end
theorem mth.lt {i n N:Nat} (hi:i + 1 ≤ n) (hN:n * 7 ≤ N) {j:Nat} (hj:j < 7):i * 7 + j < N:=Nat.lt_of_lt_of_le (Nat.add_lt_add_left hj _) (Nat.le_trans (by rw [← Nat.succ_mul];exact Nat.mul_le_mul_right 7 hi) hN)
theorem mth.ne (q i j:Nat) (hj:j < 7) (h5:j ≠ 5):7 * q + 5 ≠ i * 7 + j:=by omega
def laws_markThingS.f (k:Nat):List (SiT29) → Int → Option Int
 |[],a=>some a
 |x :: r,a=>(laws_markText.f k a).bind fun _=>(laws_markText.f k (wrap64 (a + 1))).bind fun _=>(mth.up k x.f5.length (wrap64 (wrap64 (wrap64 (wrap64 (wrap64 (a + 1) + 1) + 1) + 1) + 1))).bind fun b=>(laws_markText.f k b).bind fun _=>laws_markThingS.f k r (wrap64 (b + 1))
theorem mth.start {w0 w:World} {P:Nat → Prop} {A:Option Addr} {c:Nat} {l:List (SiT29)} (hB:Below w0.heap.size w0 w) (ho:Kd.R k44 44 w w0.heap.size P (.slice A l.length c) l) (hl:l ≠ []) :
 ∃ g N fs,A = some ⟨g,0,none⟩ ∧ l.length * 7 ≤ N ∧ mth.St w0 w w (fun k=>w0.heap.size ≤ k ∧ P k) g N fs ∧ ∀ i x,l[i]? = some x → ∃ A' c',fs i = some (.slice A' x.f5.length c') ∧ mth.Row w (fun k=>w0.heap.size ≤ k ∧ P k) A' x.f5.length:=by
 obtain ⟨h0,inner,⟨hlen,ho⟩,hr⟩:=ho;have hl0:0 < l.length:=List.length_pos_iff.2 hl;rcases ho with ⟨_,hn⟩|⟨g,cap,cur,he,hg,hh,hnc,hcm,hsz,ht⟩
 · omega
 · injection he with he1 _ he3
   subst he1 he3;have hsz7:cur.size = c * 7:=hsz;have ht7:cur.toList.take (l.length * 7) = inner:=ht;refine ⟨g,cur.size,fun q=>cur[7 * q + 5]?,rfl,by omega,⟨hB,mth.Mk.refl _ _ _,⟨hg,h0 g rfl⟩,cur,hh,rfl,fun _=>rfl⟩,fun i x hx=>?_⟩;obtain ⟨hM0,hM⟩:=hr;have hi:i < l.length:=(List.getElem?_eq_some_iff.1 hx).1;have h2:=hM i x hx
   obtain ⟨v5,hv5,hR5⟩:∃ v5,(List.take 7 (List.drop (i * 7) inner))[5]? = some v5 ∧ Kd.R Kd.string 9 w w0.heap.size (fun k=>P k ∧ some k ≠ (Value.slice (some ⟨g,0,none⟩) l.length c).ownBlock) v5 x.f5:=by
    obtain ⟨c0,d0,e0,m0,c1,d1,e1,m1,c2,d2,e2,m2,c3,d3,e3,m3,c4,d4,e4,m4,c5,d5,e5,⟨v5,rfl,m5⟩,m6⟩:=h2;have s0:c0 = [_]:=m0;have s1:c1 = [_]:=m1;have s2:c2 = [_]:=m2;have s3:c3 = [_]:=m3;have s4:c4 = [_]:=m4;refine ⟨v5,?_,m5⟩;have e0':List.take 7 (List.drop (i * 7) inner) = c0 ++ d0:=e0;rw [e0',e1,e2,e3,e4,e5,s0,s1,s2,s3,s4];rfl
   have hc5:cur[7 * i + 5]? = some v5:=by
    rw [List.getElem?_take_of_lt (by omega),List.getElem?_drop,← ht7,List.getElem?_take_of_lt (by omega),Nat.mul_comm i 7] at hv5;rw [← hv5,Array.getElem?_toList]
   obtain ⟨h50,inner5,⟨hlen5,ho5⟩,_⟩:=hR5;rcases ho5 with ⟨rfl,hn5⟩|⟨g5,cap5,cur5,rfl,hg5,hh5,hnc5,hcm5,hsz5,_⟩
   · exact ⟨none,0,by rw [show x.f5.length = 0 from hn5];exact hc5,by omega,.inl hn5⟩
   · exact ⟨_,cap5,hc5,by unfold maxLen at hcm5;omega,.inr ⟨g5,cur5,rfl,⟨hg5,(h50 g5 rfl).1⟩,hh5,by have:cur5.size = cap5 * 1:=hsz5;omega⟩⟩
set_option maxHeartbeats 40000000 in
set_option maxRecDepth 100000 in
theorem laws_markThingS.calls (k:Nat) (P0_:Nat → Prop) (u9000_:Value) (l0:List (SiT29)) (a1:Int) (r1:Int) (w0 w:World) (hB:Below w0.heap.size w0 w) (ho0:Kd.R k44 44 w w0.heap.size P0_ u9000_ l0) (h:laws_markThingS.f k l0 a1 = some r1) :
 Calls Tryz.prog 56 #[u9000_,.int .i64 a1] w fun e w'=>e = .returned (.int .i64 r1) ∧ Below w0.heap.size w0 w' ∧ Kept w w' (fun k_=>P0_ k_):=by
 obtain ⟨A,c,rfl⟩:=Kd.R_slice ho0;have hbound:l0.length ≤ 9223372036854775807:=(Kd.R_reads' ho0).2.2.2.1;obtain ⟨P,hPd⟩:∃ P:Nat → Prop,P = fun k=>w0.heap.size ≤ k ∧ P0_ k:=⟨_,rfl⟩
 obtain ⟨g,N,fs,hA,hN,hS,hrows⟩:∃ (g N:Nat) (fs:Nat → Option Value),(l0 = [] ∨ A = some ⟨g,0,none⟩) ∧ l0.length * 7 ≤ N ∧ (l0 = [] ∨ mth.St w0 w w P g N fs) ∧ ∀ i x,l0[i]? = some x → ∃ A' c',fs i = some (.slice A' x.f5.length c') ∧ mth.Row w P A' x.f5.length:=by
  rw [hPd];by_cases hl:l0 = []
  · exact ⟨0,0,fun _=>none,.inl hl,by rw [hl];exact Nat.le_refl _,.inl hl,fun i x hx=>by rw [hl] at hx;simp at hx⟩
  · obtain ⟨g,N,fs,h1,h2,h3,h4⟩:=mth.start hB ho0 hl
    exact ⟨g,N,fs,.inr h1,h2,.inr h3,h4⟩
 have HP:=As0.mk (show ∀ g,P g → w0.heap.size ≤ g from by rw [hPd];exact fun g hg=>hg.1);have HP2:=As0.mk (show ∀ g,P g → P0_ g from by rw [hPd];exact fun g hg=>hg.2);have HQ:=As0.mk h;have HB:=As0.mk hB;have HA:=As0.mk hA;have HN:=As0.mk hN;have HS:=As0.mk hS;have HRW:=As0.mk hrows;have HBD:=As0.mk hbound;have HE0:=As0.mk (mth.Mk.refl w P (fun _=>True));clear hB ho0 h hA hN hS hrows hbound hPd
 go_enter Tryz.func56,Tryz.ntmps56
 go_wp2
 show _;go_loopg [1,5] l0.length (fun m v1 v5 w'=>∃ (i:Nat) (b:Int),v1 = .int .i64 b ∧ v5 = .int .i64 (i:Int) ∧ As0 (i + m = l0.length) ∧ As0 (laws_markThingS.f k (l0.drop i) b = some r1) ∧ As0 (Below w0.heap.size w0 w') ∧ As0 (mth.Mk w w' P (fun _=>True)) ∧ As0 (l0 = [] ∨ mth.St w0 w w' P g N fs))
 case atStart=>exact ⟨0,a1,rfl,(by first|rfl|(simp;done)),⟨by simp⟩,⟨HQ.out⟩,HB,HE0,HS⟩
 case round=>
  clear HB HQ HE0 HS;obtain ⟨i,b,rfl,rfl,HM,HI,HB,HK,HS⟩:=hrel
  cases gk with
  |zero=>
   have hm:=HM.out;have t0:decide ((i:Int) < (l0.length:Int)) = false:=decide_eq_false (by omega);have t1:decide (i < l0.length) = false:=decide_eq_false (by omega);have HE:=As0.mk (show b = r1 from by have h:=HI.out;rw [List.drop_of_length_le (by omega)] at h;exact Option.some.inj h);clear hm HI HM
   go_wp2
   go_ret
   exact ⟨by rw [← HE.out];first|done|rfl|(simp;done),HB.out,HK.out.1.mono HP2.out⟩
  |succ k2=>
   have hm:=HM.out;have hi:i < l0.length:=by omega
   have hne:l0 ≠ []:=fun e=>by rw [e] at hi;simp at hi
   have hbd:=HBD.out;have hA:=HA.out.resolve_left hne;subst hA;have hS:=HS.out.resolve_left hne;have hN:=HN.out;have t0:decide ((i:Int) < (l0.length:Int)) = true:=decide_eq_true (by omega);have t1:decide (i < l0.length) = true:=decide_eq_true hi;obtain ⟨x,hx⟩:∃ x,l0[i]? = some x:=⟨_,List.getElem?_eq_getElem hi⟩;have hd:l0.drop i = x :: l0.drop (i + 1):=by rw [List.drop_eq_getElem_cons hi];rw [List.getElem?_eq_getElem hi] at hx;rw [Option.some.inj hx]
   have hI:=HI.out;rw [hd,laws_markThingS.f] at hI;replace hI:=Option.bind_eq_some_iff.mp hI;obtain ⟨s0,hs0,hI⟩:=hI;replace hI:=Option.bind_eq_some_iff.mp hI;obtain ⟨s1,hs1,hI⟩:=hI;replace hI:=Option.bind_eq_some_iff.mp hI;obtain ⟨b6,hb6,hI⟩:=hI;replace hI:=Option.bind_eq_some_iff.mp hI;obtain ⟨s6,hs6,hI⟩:=hI;obtain ⟨b1,hb1⟩:∃ z,wrap64 (b + 1) = z:=⟨_,rfl⟩;rw [hb1] at hs1 hb6;obtain ⟨b2,hb2⟩:∃ z,wrap64 (b1 + 1) = z:=⟨_,rfl⟩;rw [hb2] at hb6;obtain ⟨b3,hb3⟩:∃ z,wrap64 (b2 + 1) = z:=⟨_,rfl⟩;rw [hb3] at hb6;obtain ⟨b4,hb4⟩:∃ z,wrap64 (b3 + 1) = z:=⟨_,rfl⟩;rw [hb4] at hb6;obtain ⟨b5,hb5⟩:∃ z,wrap64 (b4 + 1) = z:=⟨_,rfl⟩;rw [hb5] at hb6;obtain ⟨b7,hb7⟩:∃ z,wrap64 (b6 + 1) = z:=⟨_,rfl⟩;rw [hb7] at hI;have e1:IntKind.i64.wrap (b + 1) = b1:=(i64_w _).trans hb1;have e2:IntKind.i64.wrap (b1 + 1) = b2:=(i64_w _).trans hb2;have e3:IntKind.i64.wrap (b2 + 1) = b3:=(i64_w _).trans hb3;have e4:IntKind.i64.wrap (b3 + 1) = b4:=(i64_w _).trans hb4;have e5:IntKind.i64.wrap (b4 + 1) = b5:=(i64_w _).trans hb5;have e7:IntKind.i64.wrap (b6 + 1) = b7:=(i64_w _).trans hb7;obtain ⟨A',c',hfs,hrow⟩:=HRW.out i x hx;have HF:=As0.mk hfs;have HRO:=As0.mk hrow;have HC0:=As0.mk hs0;have HC1:=As0.mk hs1;have HC5:=As0.mk hb6;have HC6:=As0.mk hs6;have HI2:=As0.mk hI;have HT:=As0.mk hS;have p0:(0 ≤ (i:Int)) = True:=eq_true (by omega);have q1_:(i < l0.length) = True:=eq_true hi;have q2_:((i:Int) < (l0.length:Int)) = True:=eq_true (by omega);have w0_:wrap64 ((i:Int) + 1) = ((i + 1:Nat):Int):=by unfold wrap64;omega
   have i0_:((i:Int)).toNat = i:=rfl;have HM2:=As0.mk (show i + 1 + k2 = l0.length from by rw [← hm,Nat.add_assoc,Nat.add_comm 1]);have HN7:=As0.mk (fun (j:Nat) (hj:j < 7)=>mth.lt (i:=i) hi hN hj);have W0:=As0.mk w0_;clear hI hs0 hs1 hs6 hb6 hb1 hb2 hb3 hb4 hb5 hb7 hm HM w0_ HI hfs hrow hS hN hbd hd hne HS hi HB HK hx HA
   go_wp2_with (first
    |(go_at_call 57;(with_reducible refine (laws_markText.calls k b s0 _ HC0.out).mono ?_);rintro e w1 ⟨rfl,hb⟩;have n0_:=As0.mk (HT.out.below hb);clear HT hb;have HT:=n0_;clear n0_;obtain ⟨v,hx⟩:=HT.out.cell (i * 7) (HN7.out 0 (by decide));have hf:=HT.out.froz (i * 7))
    |((with_reducible refine gate_store (t:=9) (p:=17) rfl ?_);refine store_event (t:=9) (p:=17) (v:=?vo_w1) (w1:=(w1.setCell ⟨g,i * 7,none⟩ (.string s0))) ?hg ?ho ?hn ?hr ?_;(case ho=>rfl);(case hg=>rfl);(case hn=>rfl);(case hr=>first|(go_simp;done)|(go_simp;rfl));intro w2 hw;have n0_:=As0.mk ((by rw [hw];exact HT.out.put HP.out (i * 7) (fun q=>mth.ne q i 0 (by decide) (by decide)) _):mth.St w0 w w2 P g N fs);clear hw HT hx hf;have HT:=n0_;clear n0_)
    |(go_at_call 57;(with_reducible refine (laws_markText.calls k b1 s1 _ HC1.out).mono ?_);rintro e w3 ⟨rfl,hb⟩;have n0_:=As0.mk (HT.out.below hb);clear HT hb;have HT:=n0_;clear n0_;obtain ⟨v,hx⟩:=HT.out.cell (i * 7 + 1) (HN7.out 1 (by decide));have hf:=HT.out.froz (i * 7 + 1))
    |((with_reducible refine gate_store (t:=9) (p:=25) rfl ?_);refine store_event (t:=9) (p:=25) (v:=?vo_w3) (w1:=(w3.setCell ⟨g,i * 7 + 1,none⟩ (.string s1))) ?hg ?ho ?hn ?hr ?_;(case ho=>rfl);(case hg=>rfl);(case hn=>rfl);(case hr=>first|(go_simp;done)|(go_simp;rfl));intro w4 hw;have n0_:=As0.mk ((by rw [hw];exact HT.out.put HP.out (i * 7 + 1) (fun q=>mth.ne q i 1 (by decide) (by decide)) _):mth.St w0 w w4 P g N fs);clear hw HT hx hf;have HT:=n0_;clear n0_;obtain ⟨v,hx⟩:=HT.out.cell (i * 7 + 2) (HN7.out 2 (by decide));have hf:=HT.out.froz (i * 7 + 2))
    |((with_reducible refine gate_store (t:=3) (p:=32) rfl ?_);refine store_event (t:=3) (p:=32) (v:=?vo_w4) (w1:=(w4.setCell ⟨g,i * 7 + 2,none⟩ (.int .i64 b2))) ?hg ?ho ?hn ?hr ?_;(case ho=>rfl);(case hg=>rfl);(case hn=>rfl);(case hr=>first|(go_simp;done)|(go_simp;rfl));intro w5 hw;have n0_:=As0.mk ((by rw [hw];exact HT.out.put HP.out (i * 7 + 2) (fun q=>mth.ne q i 2 (by decide) (by decide)) _):mth.St w0 w w5 P g N fs);clear hw HT hx hf;have HT:=n0_;clear n0_;obtain ⟨v,hx⟩:=HT.out.cell (i * 7 + 3) (HN7.out 3 (by decide));have hf:=HT.out.froz (i * 7 + 3))
    |((with_reducible refine gate_store (t:=3) (p:=39) rfl ?_);refine store_event (t:=3) (p:=39) (v:=?vo_w5) (w1:=(w5.setCell ⟨g,i * 7 + 3,none⟩ (.int .i64 b3))) ?hg ?ho ?hn ?hr ?_;(case ho=>rfl);(case hg=>rfl);(case hn=>rfl);(case hr=>first|(go_simp;done)|(go_simp;rfl));intro w6 hw;have n0_:=As0.mk ((by rw [hw];exact HT.out.put HP.out (i * 7 + 3) (fun q=>mth.ne q i 3 (by decide) (by decide)) _):mth.St w0 w w6 P g N fs);clear hw HT hx hf;have HT:=n0_;clear n0_;obtain ⟨v,hx⟩:=HT.out.cell (i * 7 + 4) (HN7.out 4 (by decide));have hf:=HT.out.froz (i * 7 + 4))
    |((with_reducible refine gate_store (t:=4) (p:=48) rfl ?_);refine store_event (t:=4) (p:=48) (v:=?vo_w6) (w1:=(w6.setCell ⟨g,i * 7 + 4,none⟩ (.bool (Int.tmod b4 3 == 0)))) ?hg ?ho ?hn ?hr ?_;(case ho=>rfl);(case hg=>rfl);(case hn=>rfl);(case hr=>first|(go_simp;done)|(go_simp;rfl));intro w7 hw;have n0_:=As0.mk ((by rw [hw];exact HT.out.put HP.out (i * 7 + 4) (fun q=>mth.ne q i 4 (by decide) (by decide)) _):mth.St w0 w w7 P g N fs);clear hw HT hx hf;have HT:=n0_;clear n0_;have hx:=HT.out.row i HF.out)
    |(go_at_call 23;(with_reducible refine (mth.strs k x.f5.length P A' c' b5 b6 w0 _ HT.out.b HP.out (HRO.out.mk HT.out.k) HC5.out).mono ?_);rintro e w8 ⟨rfl,hb,hk⟩;have n0_:=As0.mk (HT.out.strs hb hk);clear HT hb hk hx;have HT:=n0_;clear n0_)
    |(go_at_call 57;(with_reducible refine (laws_markText.calls k b6 s6 _ HC6.out).mono ?_);rintro e w9 ⟨rfl,hb⟩;have n0_:=As0.mk (HT.out.below hb);clear HT hb;have HT:=n0_;clear n0_;obtain ⟨v,hx⟩:=HT.out.cell (i * 7 + 6) (HN7.out 6 (by decide));have hf:=HT.out.froz (i * 7 + 6))
    |((with_reducible refine gate_store (t:=9) (p:=63) rfl ?_);refine store_event (t:=9) (p:=63) (v:=?vo_w9) (w1:=(w9.setCell ⟨g,i * 7 + 6,none⟩ (.string s6))) ?hg ?ho ?hn ?hr ?_;(case ho=>rfl);(case hg=>rfl);(case hn=>rfl);(case hr=>first|(go_simp;done)|(go_simp;rfl));intro w10 hw;have n0_:=As0.mk ((by rw [hw];exact HT.out.put HP.out (i * 7 + 6) (fun q=>mth.ne q i 6 (by decide) (by decide)) _):mth.St w0 w w10 P g N fs);clear hw HT hx hf;have HT:=n0_;clear n0_))
   show _;go_roundg k2
   case measure=>omega
   case rel=>exact ⟨i + 1,b7,(by first|rfl|(simp;done)),(by first|rw [W0.out]|(simp;done)),HM2,HI2,⟨HT.out.b⟩,⟨HT.out.k⟩,⟨.inr HT.out⟩⟩
def mkm.ok (w:World) (PX:Nat → Prop) (S:List Nat) (k:Nat):Prop:=PX k ∧ k < w.heap.size ∧ ∃ q,q ∈ S ∧ ∃ cells,w.heap[k]? = some (.cells cells q (0,0))
section
variable {α:Type} {d:Kd α} {e:Nat} {w W W2:World} {base:Nat} {PX:Nat → Prop} {S S':List Nat} {v:Value} {xs:List α}
theorem mkm.apart {k:Nat} (h:mkm.ok w PX S k) (h':mkm.ok w PX S' k) (hd:∀ q ∈ S,q ∉ S'):False:=by
 obtain ⟨_,_,q,hq,c,hc⟩:=h;obtain ⟨_,_,q',hq',c',hc'⟩:=h';rw [hc] at hc';injection hc' with hc'
 injection hc' with _ h2
 subst h2
 exact hd q hq hq'
theorem mkm.row (h:d.R e w base PX v xs) (hb:Below w.heap.size w W):d.R e W base (mkm.ok w PX (e :: d.E)) v xs:=
 Kd.R_below (Kd.R_mono (Kd.R_bound h) (fun _ hk=>⟨hk.1,hk.2.2.1,hk.2.2.2⟩)) hb
theorem mkm.step (h:d.R e W base (mkm.ok w PX S) v xs) (hk:Kept W W2 (mkm.ok w PX S')) (hd:∀ q ∈ S,q ∉ S'):d.R e W2 base (mkm.ok w PX S) v xs:=
 Kd.R_step h (fun k ho hlt=>hk.2 k hlt (fun h'=>mkm.apart ho h' hd))
theorem mkm.blk {g:Nat} {o:Obj} (h:W.heap[g]? = some o) (hg:w.heap.size ≤ g) (hk:Kept W W2 (mkm.ok w PX S')):W2.heap[g]? = some o:=
 (hk.2 g (blk_lt h) (fun h'=>by have:=h'.2.1;omega)).trans h
end
def laws_markModel.f (k:Nat) (sp:List (SiS28)) (us:List (SiU30)) (T:List (SiT29)) (P:List (SiP27)) (a:Int):Option Int:=
 (laws_markSpaceS.f k sp a).bind fun x=>(laws_markUseS.f k us x.1).bind fun y=>(laws_markThingS.f k T y.1).bind fun z=>(laws_markPastS.f k P z).bind fun p=>some p.1
set_option maxHeartbeats 40000000 in
set_option maxRecDepth 100000 in
theorem laws_markModel.calls (k:Nat) (PX:Nat → Prop) (b0 b1 b2:Int) (v3 v4 v5 v6:Value) (sp:List (SiS28)) (us:List (SiU30)) (T:List (SiT29)) (P:List (SiP27)) (a r:Int) (w0 w:World) (hB:Below w0.heap.size w0 w)
 (h3:Kd.R k70 70 w w0.heap.size PX v3 sp) (h4:Kd.R k72 72 w w0.heap.size PX v4 us) (h5:Kd.R k44 44 w w0.heap.size PX v5 T) (h6:Kd.R k36 36 w w0.heap.size PX v6 P) (h:laws_markModel.f k sp us T P a = some r) :
 Calls Tryz.prog 22 #[.agg #[.int .i64 b0,.int .i64 b1,.int .i64 b2,v3,v4,v5,v6],.int .i64 a] w fun e w'=>e = .returned (.int .i64 r) ∧ Below w0.heap.size w0 w' ∧ Kept w w' PX:=by
 unfold laws_markModel.f at h;obtain ⟨⟨x,sp'⟩,hx,h⟩:=Option.bind_eq_some_iff.mp h;obtain ⟨⟨y,us'⟩,hy,h⟩:=Option.bind_eq_some_iff.mp h;obtain ⟨z,hz,h⟩:=Option.bind_eq_some_iff.mp h;obtain ⟨⟨p,P'⟩,hp,h⟩:=Option.bind_eq_some_iff.mp h;obtain rfl:=Option.some.inj h;obtain ⟨A3,c3,rfl⟩:=Kd.R_slice h3;obtain ⟨A4,c4,rfl⟩:=Kd.R_slice h4;obtain ⟨A5,c5,rfl⟩:=Kd.R_slice h5;obtain ⟨A6,c6,rfl⟩:=Kd.R_slice h6;have hu:=Tryz.underlying28;have HX:=As0.mk hx;have HY:=As0.mk hy;have HZ:=As0.mk hz;have HP:=As0.mk hp;have HB:=As0.mk hB;have H3:=As0.mk h3;have H4:=As0.mk h4;have H5:=As0.mk h5;have H6:=As0.mk h6;clear hx hy hz hp hB h3 h4 h5 h6 h
 go_enter Tryz.func22,Tryz.ntmps22
 go_wp2_with (first
  |((with_reducible refine gate_dst (N:=2) rfl ?_);refine bE 2 #[.int .i64 b0,.int .i64 b1,.int .i64 b2,.slice A3 sp.length c3,.slice A4 us.length c4,.slice A5 T.length c5,.slice A6 P.length c6] 28 ?_;intro gb hg w1 hbox hb;have n0_:=As0.mk (mkm.row H3.out hb);have n1_:=As0.mk (mkm.row H4.out hb);have n2_:=As0.mk (mkm.row H5.out hb);have n3_:=As0.mk (mkm.row H6.out hb);have n4_:=As0.mk (bsp HB.out hb);have HK:=As0.mk (Kept.of_below hb PX);have BK:=As0.mk hbox;have HG:=As0.mk (show w.heap.size ≤ gb by omega);clear H3 H4 H5 H6 HB hb hg hbox;have H3:=n0_;have H4:=n1_;have H5:=n2_;have H6:=n3_;have HB:=n4_;clear n0_ n1_ n2_ n3_ n4_;have hc:=(bkC BK.out 3).trans rfl)
  |(go_at_call 54;(with_reducible refine (laws_markSpaceS.calls k _ _ sp a x sp' w0 _ HB.out H3.out HX.out).mono ?_);rintro e w2 ⟨rfl,-,hb,hk⟩;have n1_:=As0.mk (mkm.step H4.out hk (by decide));have n2_:=As0.mk (mkm.step H5.out hk (by decide));have n3_:=As0.mk (mkm.step H6.out hk (by decide));have n4_:=As0.mk hb;have n5_:=As0.mk (mkm.blk BK.out HG.out hk);have n6_:=As0.mk (HK.out.then_ hk (fun _ hk=>.inl hk.1));clear H3 H4 H5 H6 HB BK HK hb hk hc;have H4:=n1_;have H5:=n2_;have H6:=n3_;have HB:=n4_;have BK:=n5_;have HK:=n6_;clear n1_ n2_ n3_ n4_ n5_ n6_;have hc:=(bkC BK.out 4).trans rfl)
  |(go_at_call 55;(with_reducible refine (laws_markUseS.calls k _ _ us x y us' w0 _ HB.out H4.out HY.out).mono ?_);rintro e w3 ⟨rfl,-,hb,hk⟩;have n2_:=As0.mk (mkm.step H5.out hk (by decide));have n3_:=As0.mk (mkm.step H6.out hk (by decide));have n4_:=As0.mk hb;have n5_:=As0.mk (mkm.blk BK.out HG.out hk);have n6_:=As0.mk (HK.out.then_ hk (fun _ hk=>.inl hk.1));clear H4 H5 H6 HB BK HK hb hk hc;have H5:=n2_;have H6:=n3_;have HB:=n4_;have BK:=n5_;have HK:=n6_;clear n2_ n3_ n4_ n5_ n6_;have hc:=(bkC BK.out 5).trans rfl)
  |(go_at_call 56;(with_reducible refine (laws_markThingS.calls k _ _ T y z w0 _ HB.out H5.out HZ.out).mono ?_);rintro e w4 ⟨rfl,hb,hk⟩;have n3_:=As0.mk (mkm.step H6.out hk (by decide));have n4_:=As0.mk hb;have n5_:=As0.mk (mkm.blk BK.out HG.out hk);have n6_:=As0.mk (HK.out.then_ hk (fun _ hk=>.inl hk.1));clear H5 H6 HB BK HK hb hk hc;have H6:=n3_;have HB:=n4_;have BK:=n5_;have HK:=n6_;clear n3_ n4_ n5_ n6_;have hc:=(bkC BK.out 6).trans rfl)
  |(go_at_call 26;(with_reducible refine (laws_markPastS.calls k _ _ P z p P' w0 _ HB.out H6.out HP.out).mono ?_);rintro e w5 ⟨rfl,-,hb,hk⟩;have n4_:=As0.mk hb;have n6_:=As0.mk (HK.out.then_ hk (fun _ hk=>.inl hk.1));clear H6 HB BK HK hb hk hc;have HB:=n4_;have HK:=n6_;clear n4_ n6_))
 go_ret
 exact ⟨by first|rfl|(simp;done),HB.out,HK.out⟩
def fsp.p (nm:ByteArray) (x:SiS28):Bool:=(x.f0.toList == nm.toList)
set_option maxHeartbeats 4000000 in
theorem fsp.closure (x:SiS28) (nm:ByteArray) (gn:Nat) (b:Bool) (w:World) (hX:w.heap[gn]? = some (.cells #[.string nm] 9 (0,0))) (hb:fsp.p nm x = b) :
 Calls Tryz.prog 100 #[.agg #[.string x.f0,.string x.f1,.int .i64 x.f2,.bool x.f3,.int .i64 x.f4],.pointer (some ⟨gn,0,none⟩)] w fun r w'=>r = .returned (.bool b) ∧ Below w.heap.size w w':=by
 have hu:=Tryz.underlying70;have HX:=As0.mk hX;have HB:=As0.mk (Below.refl w.heap.size w);clear hX;unfold fsp.p at hb;subst hb
 go_enter Tryz.func100,Tryz.ntmps100
 go_wp2_with ((with_reducible refine gate_dst (N:=2) rfl ?_);refine bE 2 #[.string x.f0,.string x.f1,.int .i64 x.f2,.bool x.f3,.int .i64 x.f4] 70 ?_;intro gb hg w8 hbox hb;replace HB:=As0.mk (bsp HB.out hb);have BK:=As0.mk hbox;replace HX:=As0.mk (blk_below HX.out hb);clear hb hbox hg;have q0:w8.cell? ⟨gb,0,none⟩ = some (.string x.f0):=(bkC BK.out 0).trans rfl;have q1:w8.cell? ⟨gb,1,none⟩ = some (.string x.f1):=(bkC BK.out 1).trans rfl;have q2:w8.cell? ⟨gb,2,none⟩ = some (.int .i64 x.f2):=(bkC BK.out 2).trans rfl;have q3:w8.cell? ⟨gb,3,none⟩ = some (.bool x.f3):=(bkC BK.out 3).trans rfl;have q4:w8.cell? ⟨gb,4,none⟩ = some (.int .i64 x.f4):=(bkC BK.out 4).trans rfl;have u0:w8.cell? ⟨gn,0,none⟩ = some (.string nm):=(bkC HX.out 0).trans rfl)
 go_ret
 exact ⟨by first|rfl|(simp;done),by repeat (first|(with_reducible first|exact HB.out|apply pbN|apply bd1)|exact HB.out)⟩
def fsp.idx {α:Type} (p:α → Bool):List α → Int → Int
 |[],_=>-1
 |x :: r,i=>if p x = true then i else fsp.idx p r (i + 1)
set_option maxHeartbeats 4000000 in
set_option maxRecDepth 100000 in
theorem fsp.index (A:Option Addr) (c:Nat) (l:List (SiS28)) (nm:ByteArray) (gn:Nat) (r:Int) (w:World) (hr:Kd.C k70 w A l.length l) (hX:w.heap[gn]? = some (.cells #[.string nm] 9 (0,0))) (hR:fsp.idx (fsp.p nm) l 0 = r) :
 Calls Tryz.prog 99 #[.slice A l.length c,.func (.func 100) #[] #[.pointer (some ⟨gn,0,none⟩)]] w fun e w'=>e = .returned (.int .i64 r) ∧ Below w.heap.size w w':=by
 have hu:=Tryz.underlying70;have HR:=As0.mk hr;have HX:=As0.mk hX;clear hX;have HB:=As0.mk (Below.refl w.heap.size w);have HQ:=As0.mk hR;clear hr hR
 go_enter Tryz.func99,Tryz.ntmps99
 go_wp2
 show _;go_loopg [8] l.length (fun m v w'=>∃ i:Nat,v = .int .i64 (i:Int) ∧ As0 (i + m = l.length) ∧ As0 (fsp.idx (fsp.p nm) (l.drop i) (i:Int) = r) ∧ As0 (Below w.heap.size w w'))
 case atStart=>exact ⟨0,(by first|rfl|(simp;done)),⟨by simp⟩,⟨HQ.out⟩,HB⟩
 case round=>
  clear HB HQ;obtain ⟨i,rfl,HM,HI,HB⟩:=hrel;have hbound:l.length ≤ 9223372036854775807:=HR.out.2.1
  cases gk with
  |zero=>
   have hm:=HM.out;have t0:decide ((i:Int) < (l.length:Int)) = false:=decide_eq_false (by omega);have t1:decide (i < l.length) = false:=decide_eq_false (by omega);have HE:=As0.mk (show (-1:Int) = r by have h:=HI.out;rw [List.drop_of_length_le (by omega)] at h;exact h);clear hm HI HM hbound
   go_wp2
   go_ret
   exact ⟨by rw [← HE.out];first|done|rfl|(simp;done),HB.out⟩
  |succ k2=>
   have hm:=HM.out;have hi:i < l.length:=by omega
   have t0:decide ((i:Int) < (l.length:Int)) = true:=decide_eq_true (by omega);have t1:decide (i < l.length) = true:=decide_eq_true hi;have hx:riS37 l (i:Int) = l[i]:=by simp [riS37,List.getElem?_eq_getElem hi]
   have hd:l.drop i = riS37 l (i:Int) :: l.drop (i + 1):=by rw [hx];exact List.drop_eq_getElem_cons hi
   have hI:=HI.out;rw [hd,fsp.idx] at hI;obtain ⟨ad,e0,hx0,hx1,hx2,hx3,hx4⟩:=at_T70 HR.out (i:Int) (by omega) (by omega)
   cases e0
   replace hx0:=bx HB.out rfl hx0;replace hx1:=bx HB.out rfl hx1;replace hx2:=bx HB.out rfl hx2;replace hx3:=bx HB.out rfl hx3;replace hx4:=bx HB.out rfl hx4;simp only [Int.toNat_natCast] at hx0 hx1 hx2 hx3 hx4;have p0:(0 ≤ (i:Int)) = True:=eq_true (by omega);have q1:(i < l.length) = True:=eq_true hi;have q2:((i:Int) < (l.length:Int)) = True:=eq_true (by omega);have w0_:wrap64 ((i:Int) + 1) = ((i + 1:Nat):Int):=by unfold wrap64;omega
   have i0_:((i:Int)).toNat = i:=rfl;clear hx hd HI
   cases hp:(fsp.p nm) (riS37 l (i:Int)) with
   |true=>
    have HP:=As0.mk hp;have HE:=As0.mk (show (i:Int) = r by rw [hp] at hI;simpa using hI);clear hp hI hm hi HM w0_
    go_wp2_with (go_at_call 100;(with_reducible refine (fsp.closure _ nm gn _ _ (blk_below HX.out HB.out) HP.out).mono ?_);rintro e w' ⟨rfl,hb⟩;replace HB:=As0.mk (bsp HB.out hb);clear hb)
    go_ret
    exact ⟨by rw [← HE.out];first|done|rfl|(simp;done),by repeat (first|(with_reducible first|exact HB.out|apply pbN|apply bd1)|exact HB.out)⟩
   |false=>
    have HP:=As0.mk hp;have HE:=As0.mk (show fsp.idx (fsp.p nm) (l.drop (i + 1)) ((i:Int) + 1) = r by rw [hp] at hI;simpa using hI);have HM2:=As0.mk (show i + 1 + k2 = l.length by omega);have W0:=As0.mk w0_;clear hp hI hm hi HM w0_
    go_wp2_with (go_at_call 100;(with_reducible refine (fsp.closure _ nm gn _ _ (blk_below HX.out HB.out) HP.out).mono ?_);rintro e w' ⟨rfl,hb⟩;replace HB:=As0.mk (bsp HB.out hb);clear hb)
    show _;go_roundg k2
    case measure=>omega
    case rel=>exact ⟨i + 1,(by first|rw [W0.out]|(simp;done)),HM2,⟨HE.out⟩,⟨by repeat (first|(with_reducible first|exact HB.out|apply pbN|apply bd1)|exact HB.out)⟩⟩
def impl_Space.f (l:List (SiS28)) (nm:ByteArray):Option (Int):=some (fsp.idx (fsp.p nm) l 0)
theorem impl_Space.calls (A:Option Addr) (c:Nat) (l:List (SiS28)) (nm:ByteArray) (gn:Nat) (r:Int) (w:World) (hr:Kd.C k70 w A l.length l) (_:l.length ≤ c)
 (hX:w.heap[gn]? = some (.cells #[.string nm] 9 (0,0))) (h:impl_Space.f l nm = some r) :
 Calls Tryz.prog 99 #[.slice A l.length c,.func (.func 100) #[] #[.pointer (some ⟨gn,0,none⟩)]] w fun e w'=>e = .returned (.int .i64 r) ∧ Below w.heap.size w w':=
 fsp.index A c l nm gn r w hr hX (Option.some.inj h)
def impl_findSpace.f (l0:List (SiS28)) (a1:ByteArray):Option (Int):=(impl_Space.f l0 a1).bind fun t102=>(some t102)
set_option maxHeartbeats 40000000 in
set_option maxRecDepth 100000 in
theorem impl_findSpace.calls (A0:Option Addr) (c0:Nat) (l0:List (SiS28)) (a1:ByteArray) (r:Int) (w:World) (hr0:Kd.C k70 w A0 l0.length l0) (hc0:l0.length ≤ c0) (h:impl_findSpace.f l0 a1 = some r) :
 Calls Tryz.prog 65 #[.slice A0 l0.length c0,.string a1] w fun e w'=>e = .returned (.int .i64 r) ∧ Below w.heap.size w w':=by
 have HR0:=As0.mk hr0;have HC0:=As0.mk hc0;clear hr0 hc0;have HB:=As0.mk (Below.refl w.heap.size w);have H:((impl_Space.f l0 a1).bind fun t102=>(some t102)) = some r:=h;clear h;replace H:=Option.bind_eq_some_iff.mp H;obtain ⟨t102,A30,H⟩:=H;(try dsimp only at H);have A3:=As0.mk A30;clear A30;obtain rfl:=Option.some.inj H
 go_enter Tryz.func65,Tryz.ntmps65
 go_wp2_with (first|((with_reducible refine gate_dst (N:=3) rfl ?_);refine bE 3 #[.string a1] 9 ?_;intro gb101 hg w4 hbox hb;have BK101:=As0.mk (hbox);have GW101:=As0.mk ((by rw [hg];exact (bsz (by repeat (first|(with_reducible first|exact HB.out|apply bal|apply pbN|apply bd1)|exact HB.out))):w.heap.size ≤ gb101));have GE101:=GW101;replace HB:=As0.mk (b3 HB.out hb);clear hb hbox hg)|((with_reducible refine gca (f:=99) rfl ?_);refine gL (some 7) Tryz.func99 #[.slice A0 l0.length c0,.func (.func 100) #[] #[.pointer (some ⟨gb101,0,none⟩)]] ?_;(with_reducible refine (impl_Space.calls _ _ l0 a1 gb101 t102 _ ?side1 ?side2 ?side3 A3.out).mono ?_);(case side1=>repeat (first|exact (Kd.C_below HR0.out HB.out)|(with_reducible first|refine Kd.C_alloc ?_ _|refine Kd.C_drewN ?_ _|refine Kd.C_drew ?_)));(case side2=>exact HC0.out);(case side3=>exact (by (with_reducible repeat (first|refine bkN ?_ _|refine bkD ?_|refine bkA ?_ _));exact BK101.out));rintro e w5 ⟨rfl,hb⟩;refine ⟨_,rfl,?_⟩;replace BK101:=As0.mk (bb hb BK101.out);replace HB:=As0.mk (bsp (by repeat (first|(with_reducible first|exact HB.out|apply bal|apply pbN|apply bd1|refine bst ?_ GE101.out)|exact HB.out)) hb);clear hb))
 go_ret
 exact ⟨eW,by repeat (first|(with_reducible first|exact HB.out|apply bal|apply pbN|apply bd1|refine bst ?_ GE101.out)|exact HB.out)⟩
end Go.Proofs.YtclgmogfkoinbaaGreatDoor.P
/-
 DERIVED: THE SHELF's CONTRACTS AT THIS DUMP, IN PLAIN WORDS (tools/lay-plain.mjs out of 'TryzShelf.lean', which tools/lay-shelf.mjs wrote): THE SAME DECLARATIONS UNDER THE SAME NAMES: 'import', 'namespace', 'open', 'def', 'theorem' AND NOTHING ELSE: no command of the shelf's: FOR A HAND-IN. Each laying: the table of numbers ('.._ren') and one theorem, a field a fact of the dump's own or the kernel's comparison; each contract: ONE APPLICATION.
-/
namespace Go.Proofs
open Go.Shelf
def Tryz.lays160_ren:Go.Shelf.Ren:=⟨fun|160=>121|232=>144|231=>143|227=>145|234=>147|233=>146|236=>149|235=>148|228=>157|271=>160|151=>159|197=>158|120=>163|152=>162|260=>161|137=>164|119=>165|224=>166|225=>167|217=>168|266=>169|n=>n,fun|9=>9|4=>4|3=>3|5=>5|117=>160|116=>159|0=>0|124=>163|21=>21|105=>171|46=>176|119=>175|139=>179|138=>178|n=>n,fun|3=>0|4=>1|n=>n⟩
theorem Tryz.lays160:Go.Proofs.Lays.n160 Tryz.prog Tryz.lays160_ren:={
 mixed:=by kernel_rfl
 f119:=Tryz.func165.trans (congrArg some (by kernel_rfl))
 f120:=Tryz.func163.trans (congrArg some (by kernel_rfl))
 f137:=Tryz.func164.trans (congrArg some (by kernel_rfl))
 f151:=Tryz.func159.trans (congrArg some (by kernel_rfl))
 f152:=Tryz.func162.trans (congrArg some (by kernel_rfl))
 f160:=Tryz.func121.trans (congrArg some (by kernel_rfl))
 f197:=Tryz.func158.trans (congrArg some (by kernel_rfl))
 f217:=Tryz.func168.trans (congrArg some (by kernel_rfl))
 f224:=Tryz.func166.trans (congrArg some (by kernel_rfl))
 f225:=Tryz.func167.trans (congrArg some (by kernel_rfl))
 f227:=Tryz.func145.trans (congrArg some (by kernel_rfl))
 f228:=Tryz.func157.trans (congrArg some (by kernel_rfl))
 f231:=Tryz.func143.trans (congrArg some (by kernel_rfl))
 f232:=Tryz.func144.trans (congrArg some (by kernel_rfl))
 f233:=Tryz.func146.trans (congrArg some (by kernel_rfl))
 f234:=Tryz.func147.trans (congrArg some (by kernel_rfl))
 f235:=Tryz.func148.trans (congrArg some (by kernel_rfl))
 f236:=Tryz.func149.trans (congrArg some (by kernel_rfl))
 f260:=Tryz.func161.trans (congrArg some (by kernel_rfl))
 f266:=Tryz.func169.trans (congrArg some (by kernel_rfl))
 f271:=Tryz.func160.trans (congrArg some (by kernel_rfl))
 t0:=Tryz.underlying0
 a0:=Tryz.isAgg0
 z0:=Tryz.sizeOf0
 v0:=Tryz.zeroValue0
 t3:=Tryz.underlying3
 a3:=Tryz.isAgg3
 z3:=Tryz.sizeOf3
 v3:=Tryz.zeroValue3
 t4:=Tryz.underlying4
 a4:=Tryz.isAgg4
 z4:=Tryz.sizeOf4
 v4:=Tryz.zeroValue4
 t5:=Tryz.underlying5
 a5:=Tryz.isAgg5
 z5:=Tryz.sizeOf5
 v5:=Tryz.zeroValue5
 t9:=Tryz.underlying9
 a9:=Tryz.isAgg9
 z9:=Tryz.sizeOf9
 v9:=Tryz.zeroValue9
 t21:=Tryz.underlying21
 a21:=Tryz.isAgg21
 z21:=Tryz.sizeOf21
 v21:=Tryz.zeroValue21
 t46:=Tryz.underlying176
 a46:=Tryz.isAgg176
 z46:=Tryz.sizeOf176
 v46:=Tryz.zeroValue176
 t105:=Tryz.underlying171
 a105:=Tryz.isAgg171
 z105:=Tryz.sizeOf171
 v105:=Tryz.zeroValue171
 t116:=Tryz.underlying159
 a116:=Tryz.isAgg159
 z116:=Tryz.sizeOf159
 t117:=Tryz.underlying160
 a117:=Tryz.isAgg160
 z117:=Tryz.sizeOf160
 v117:=Tryz.zeroValue160
 t119:=Tryz.underlying175
 a119:=Tryz.isAgg175
 z119:=Tryz.sizeOf175
 t124:=Tryz.underlying163
 a124:=Tryz.isAgg163
 z124:=Tryz.sizeOf163
 v124:=Tryz.zeroValue163
 t138:=Tryz.underlying178
 a138:=Tryz.isAgg178
 z138:=Tryz.sizeOf178
 v138:=Tryz.zeroValue178
 t139:=Tryz.underlying179
 a139:=Tryz.isAgg179
 z139:=Tryz.sizeOf179
 v139:=Tryz.zeroValue179
 g3:=by kernel_rfl
 g4:=by kernel_rfl }
end Go.Proofs
namespace Go.Proofs.YtclgmogfkoinbaaGreatDoor.P
open Go.RowKit Go.Proofs.YtclgmogfkoinbaaGreatDoorW.PrintWords Go.Proofs.YtclgmogfkoinbaaGreatDoorW.PrintLast Go.Proofs.YtclgmogfkoinbaaGreatDoorW.PrintMore
attribute [local go_sem] max2_int min2_int max_two min_two max_three min_three max_four min_four
set_option linter.unusedVariables false
set_option linter.unusedSimpArgs false
def strings_Trim.f (a0:ByteArray) (a1:ByteArray):Option (ByteArray):=if a0.size ≤ 9223372036854775807 ∧ a1.size < 4294967281 ∧ a1.data.toList.all (fun b=>decide (b.toNat < 128)) = true then some ⟨(Lib.trimS a0.data.toList a1.data.toList).toArray⟩ else none
theorem strings_Trim.calls (a0:ByteArray) (a1:ByteArray) (r:ByteArray) (w:World) (h:strings_Trim.f a0 a1 = some r) :
 Calls Tryz.prog 121 #[.string a0,.string a1] w fun e w'=>e = .returned (.string r) ∧ Below w.heap.size w w':=by
 unfold strings_Trim.f at h;by_cases hc:a0.size ≤ 9223372036854775807 ∧ a1.size < 4294967281 ∧ a1.data.toList.all (fun b=>decide (b.toNat < 128)) = true
 · rw [if_pos hc] at h
   obtain rfl:=Option.some.inj h
   exact Any.strings_Trim_laid Tryz.lays160 (by kernel_rfl) a0 a1 w hc.1 hc.2.1 (ascii_of_all hc.2.2)
 · rw [if_neg hc] at h
   cases h
def impl_isName.f (a0:ByteArray):Option (Bool):=if (a0.size:Int) ≥ 1 then (if (a0.size:Int) ≤ 6 then ((strings_Trim.f a0 (⟨#[97,98,99,100,101,102,103,104,105,106,107,108,109,110,111,112,113,114,115,116,117,118,119,120,121,122]⟩:ByteArray)).bind fun t104=>(some (t104.toList == ([]:List UInt8)))) else (some false)) else (some false)
set_option maxHeartbeats 40000000 in
set_option maxRecDepth 100000 in
theorem impl_isName.calls (a0:ByteArray) (r:Bool) (w:World) (h:impl_isName.f a0 = some r) :
 Calls Tryz.prog 97 #[.string a0] w fun e w'=>e = .returned (.bool r) ∧ Below w.heap.size w w':=by
 have HB:=As0.mk (Below.refl w.heap.size w);have H:(if (a0.size:Int) ≥ 1 then (if (a0.size:Int) ≤ 6 then ((strings_Trim.f a0 (⟨#[97,98,99,100,101,102,103,104,105,106,107,108,109,110,111,112,113,114,115,116,117,118,119,120,121,122]⟩:ByteArray)).bind fun t104=>(some (t104.toList == ([]:List UInt8)))) else (some false)) else (some false)) = some r:=h;clear h;by_cases c2:(a0.size:Int) ≥ 1
 · rw [if_pos c2] at H
   have c2b0:decide (1 ≤ (a0.size:Int)) = true:=decide_eq_true c2;have c2b1:decide (1 ≤ a0.size) = true:=decide_eq_true (by omega);clear c2;by_cases c3:(a0.size:Int) ≤ 6
   · rw [if_pos c3] at H
     have c3b0:decide ((a0.size:Int) ≤ 6) = true:=decide_eq_true c3;have c3b1:decide (a0.size ≤ 6) = true:=decide_eq_true (by omega);clear c3;replace H:=Option.bind_eq_some_iff.mp H;obtain ⟨t104,A40,H⟩:=H;(try dsimp only at H);have A4:=As0.mk A40;clear A40;obtain rfl:=Option.some.inj H
     go_enter Tryz.func97,Tryz.ntmps97
     go_wp2_with (first|(go_at_call 121;(with_reducible refine (strings_Trim.calls a0 (⟨#[97,98,99,100,101,102,103,104,105,106,107,108,109,110,111,112,113,114,115,116,117,118,119,120,121,122]⟩:ByteArray) t104 _ A4.out).mono ?_);rintro e w5 ⟨rfl,hb⟩;replace HB:=As0.mk (b3 HB.out hb);clear hb))
     go_ret
     exact ⟨eW,by repeat (first|(with_reducible first|exact HB.out|apply bal|apply pbN|apply bd1)|exact HB.out)⟩
   · rw [if_neg c3] at H
     have c3b0:decide ((a0.size:Int) ≤ 6) = false:=decide_eq_false c3;have c3b1:decide (a0.size ≤ 6) = false:=decide_eq_false (by omega);clear c3;obtain rfl:=Option.some.inj H
     go_enter Tryz.func97,Tryz.ntmps97
     go_wp2
     go_ret
     exact ⟨eW,by repeat (first|(with_reducible first|exact HB.out|apply bal|apply pbN|apply bd1)|exact HB.out)⟩
 · rw [if_neg c2] at H
   have c2b0:decide (1 ≤ (a0.size:Int)) = false:=decide_eq_false c2;have c2b1:decide (1 ≤ a0.size) = false:=decide_eq_false (by omega);clear c2;obtain rfl:=Option.some.inj H
   go_enter Tryz.func97,Tryz.ntmps97
   go_wp2
   go_ret
   exact ⟨eW,by repeat (first|(with_reducible first|exact HB.out|apply bal|apply pbN|apply bd1)|exact HB.out)⟩
def impl_isSpace.j0:Nat → Bool → ByteArray → ByteArray → Int → Bool → Int → Option (Bool)
 |0,_,_,_,_,_,_=>none
 |k + 1,x26,x106000,x106001,x106002,x106003,x106004=>if x26 = true then (some false) else (if x106000.toList = ([97,108,108]:List UInt8) then (if x106001.toList = ([]:List UInt8) then (some (!x106003)) else (some false)) else ((impl_isName.f x106001).bind fun t107=>(some t107)))
def impl_isSpace.f (k:Nat) (a0_0:ByteArray) (a0_1:ByteArray) (a0_2:Int) (a0_3:Bool) (a0_4:Int):Option (Bool):=(impl_isName.f a0_0).bind fun t106=>(if t106 = true then (if a0_2 < (-1) then (impl_isSpace.j0 k true a0_0 a0_1 a0_2 a0_3 a0_4) else (if a0_2 > 99999 then (impl_isSpace.j0 k true a0_0 a0_1 a0_2 a0_3 a0_4) else (if a0_4 < 0 then (impl_isSpace.j0 k true a0_0 a0_1 a0_2 a0_3 a0_4) else (impl_isSpace.j0 k (decide (a0_4 > 99999)) a0_0 a0_1 a0_2 a0_3 a0_4)))) else (impl_isSpace.j0 k true a0_0 a0_1 a0_2 a0_3 a0_4))
set_option maxHeartbeats 40000000 in
set_option maxRecDepth 100000 in
theorem impl_isSpace.calls (k:Nat) (a0_0:ByteArray) (a0_1:ByteArray) (a0_2:Int) (a0_3:Bool) (a0_4:Int) (r:Bool) (w:World) (h:impl_isSpace.f k a0_0 a0_1 a0_2 a0_3 a0_4 = some r) :
 Calls Tryz.prog 96 #[.agg #[.string a0_0,.string a0_1,.int .i64 a0_2,.bool a0_3,.int .i64 a0_4]] w fun e w'=>e = .returned (.bool r) ∧ Below w.heap.size w w':=by
 have hu70:=Tryz.underlying70;have HB:=As0.mk (Below.refl w.heap.size w);have H:((impl_isName.f a0_0).bind fun t106=>(if t106 = true then (if a0_2 < (-1) then (impl_isSpace.j0 k true a0_0 a0_1 a0_2 a0_3 a0_4) else (if a0_2 > 99999 then (impl_isSpace.j0 k true a0_0 a0_1 a0_2 a0_3 a0_4) else (if a0_4 < 0 then (impl_isSpace.j0 k true a0_0 a0_1 a0_2 a0_3 a0_4) else (impl_isSpace.j0 k (decide (a0_4 > 99999)) a0_0 a0_1 a0_2 a0_3 a0_4)))) else (impl_isSpace.j0 k true a0_0 a0_1 a0_2 a0_3 a0_4))) = some r:=h;clear h;have HC2:=As0.mk H;clear H
 go_enter Tryz.func96,Tryz.ntmps96
 show _;go_upto_region 1 with (first|((with_reducible refine gate_dst (N:=1) rfl ?_);refine bE 1 #[.string a0_0,.string a0_1,.int .i64 a0_2,.bool a0_3,.int .i64 a0_4] 70 ?_;intro gb105 hg w3 hbox hb;have n0_:=As0.mk (b3 HB.out hb);have n1_:=As0.mk (hbox);have n2_:=As0.mk ((by rw [hg];exact (bsz (by repeat (first|(with_reducible first|exact HB.out|apply bal|apply pbN|apply bd1)|exact HB.out))):w.heap.size ≤ gb105));have n3_:=As0.mk ((by rw [hg];exact (bsz (by repeat (first|(with_reducible first|exact HB.out|apply bal|apply pbN|apply bd1)|exact HB.out))):w.heap.size ≤ gb105));clear HB;have HB:=n0_;have BK105:=n1_;have GW105:=n2_;have GE105:=n3_;clear n0_ n1_ n2_ n3_;clear hb hbox hg))
 (try simp only [Act.put,sA,sZ,sS])
 show _;go_cut [26] (fun v26 wc=>∃ (kq:Nat) (x26_1:Bool),v26 = .bool x26_1 ∧ As0 (impl_isSpace.j0 kq x26_1 a0_0 a0_1 a0_2 a0_3 a0_4 = some r) ∧ As0 (kq ≤ k) ∧ As0 (wc.heap[gb105]? = some (.cells #[.string a0_0,.string a0_1,.int .i64 a0_2,.bool a0_3,.int .i64 a0_4] 70 (0,0))) ∧ As0 (Below w.heap.size w wc))
 case first=>
  have H:=HC2.out;clear HC2;replace H:=Option.bind_eq_some_iff.mp H;obtain ⟨t106,A40,H⟩:=H;(try dsimp only at H);have A4:=As0.mk A40;clear A40;by_cases c5:t106 = true
  · subst c5
    have H1:(if a0_2 < (-1) then (impl_isSpace.j0 k true a0_0 a0_1 a0_2 a0_3 a0_4) else (if a0_2 > 99999 then (impl_isSpace.j0 k true a0_0 a0_1 a0_2 a0_3 a0_4) else (if a0_4 < 0 then (impl_isSpace.j0 k true a0_0 a0_1 a0_2 a0_3 a0_4) else (impl_isSpace.j0 k (decide (a0_4 > 99999)) a0_0 a0_1 a0_2 a0_3 a0_4)))) = some r:=by rw [if_pos rfl] at H;exact H
    clear H;have H:=H1;clear H1;by_cases c6:a0_2 < (-1)
    · rw [if_pos c6] at H
      have c6b0:decide (a0_2 < (-1)) = true:=decide_eq_true c6;clear c6
      (first|rw [c6b0]|(simp only [i64_w,i32_w];rw [c6b0])|skip)
      have H':=As0.mk H;clear H;obtain ⟨hcz7_0,hcz7_1,hcz7_2,hcz7_3,hcz7_4⟩:=qc5 BK105.out;obtain ⟨hfz7_0,hfz7_1,hfz7_2,hfz7_3,hfz7_4⟩:=qz5 BK105.out
      go_wp2_with (first|((with_reducible refine gca (f:=97) rfl ?_);refine gL (some 5) Tryz.func97 #[.string a0_0] ?_;(with_reducible refine (impl_isName.calls a0_0 true _ A4.out).mono ?_);rintro e w8 ⟨rfl,hb⟩;refine ⟨_,rfl,?_⟩;replace BK105:=As0.mk (bb hb BK105.out);replace HB:=As0.mk (bsp (by repeat (first|(with_reducible first|exact HB.out|apply bal|apply pbN|apply bd1|refine bst ?_ GE105.out)|exact HB.out)) hb);clear hb;obtain ⟨hcz9_0,hcz9_1,hcz9_2,hcz9_3,hcz9_4⟩:=qc5 BK105.out;obtain ⟨hfz9_0,hfz9_1,hfz9_2,hfz9_3,hfz9_4⟩:=qz5 BK105.out))
      show _;go_meet
      case rel=>exact ⟨_,(true),(by first|rfl|(simp;done)|(simp [*];done)),H',⟨by first|omega|exact Nat.le_refl _⟩,⟨by (with_reducible repeat (first|refine bkN ?_ _|refine bkD ?_|refine bkA ?_ _));exact BK105.out⟩,⟨by repeat (first|(with_reducible first|exact HB.out|apply bal|apply pbN|apply bd1|refine bst ?_ GE105.out)|exact HB.out)⟩⟩
    · rw [if_neg c6] at H
      have c6b0:decide (a0_2 < (-1)) = false:=decide_eq_false c6;clear c6
      (first|rw [c6b0]|(simp only [i64_w,i32_w];rw [c6b0])|skip)
      by_cases c10:a0_2 > 99999
      · rw [if_pos c10] at H
        have c10b0:decide (99999 < a0_2) = true:=decide_eq_true c10;clear c10;have H':=As0.mk H;clear H;obtain ⟨hcz11_0,hcz11_1,hcz11_2,hcz11_3,hcz11_4⟩:=qc5 BK105.out;obtain ⟨hfz11_0,hfz11_1,hfz11_2,hfz11_3,hfz11_4⟩:=qz5 BK105.out
        go_wp2_with (first|((with_reducible refine gca (f:=97) rfl ?_);refine gL (some 5) Tryz.func97 #[.string a0_0] ?_;(with_reducible refine (impl_isName.calls a0_0 true _ A4.out).mono ?_);rintro e w12 ⟨rfl,hb⟩;refine ⟨_,rfl,?_⟩;replace BK105:=As0.mk (bb hb BK105.out);replace HB:=As0.mk (bsp (by repeat (first|(with_reducible first|exact HB.out|apply bal|apply pbN|apply bd1|refine bst ?_ GE105.out)|exact HB.out)) hb);clear hb;obtain ⟨hcz13_0,hcz13_1,hcz13_2,hcz13_3,hcz13_4⟩:=qc5 BK105.out;obtain ⟨hfz13_0,hfz13_1,hfz13_2,hfz13_3,hfz13_4⟩:=qz5 BK105.out))
        show _;go_meet
        case rel=>exact ⟨_,(true),(by first|rfl|(simp;done)|(simp [*];done)),H',⟨by first|omega|exact Nat.le_refl _⟩,⟨by (with_reducible repeat (first|refine bkN ?_ _|refine bkD ?_|refine bkA ?_ _));exact BK105.out⟩,⟨by repeat (first|(with_reducible first|exact HB.out|apply bal|apply pbN|apply bd1|refine bst ?_ GE105.out)|exact HB.out)⟩⟩
      · rw [if_neg c10] at H
        have c10b0:decide (99999 < a0_2) = false:=decide_eq_false c10;clear c10;by_cases c14:a0_4 < 0
        · rw [if_pos c14] at H
          have c14b0:decide (a0_4 < 0) = true:=decide_eq_true c14;clear c14;have H':=As0.mk H;clear H;obtain ⟨hcz15_0,hcz15_1,hcz15_2,hcz15_3,hcz15_4⟩:=qc5 BK105.out;obtain ⟨hfz15_0,hfz15_1,hfz15_2,hfz15_3,hfz15_4⟩:=qz5 BK105.out
          go_wp2_with (first|((with_reducible refine gca (f:=97) rfl ?_);refine gL (some 5) Tryz.func97 #[.string a0_0] ?_;(with_reducible refine (impl_isName.calls a0_0 true _ A4.out).mono ?_);rintro e w16 ⟨rfl,hb⟩;refine ⟨_,rfl,?_⟩;replace BK105:=As0.mk (bb hb BK105.out);replace HB:=As0.mk (bsp (by repeat (first|(with_reducible first|exact HB.out|apply bal|apply pbN|apply bd1|refine bst ?_ GE105.out)|exact HB.out)) hb);clear hb;obtain ⟨hcz17_0,hcz17_1,hcz17_2,hcz17_3,hcz17_4⟩:=qc5 BK105.out;obtain ⟨hfz17_0,hfz17_1,hfz17_2,hfz17_3,hfz17_4⟩:=qz5 BK105.out))
          show _;go_meet
          case rel=>exact ⟨_,(true),(by first|rfl|(simp;done)|(simp [*];done)),H',⟨by first|omega|exact Nat.le_refl _⟩,⟨by (with_reducible repeat (first|refine bkN ?_ _|refine bkD ?_|refine bkA ?_ _));exact BK105.out⟩,⟨by repeat (first|(with_reducible first|exact HB.out|apply bal|apply pbN|apply bd1|refine bst ?_ GE105.out)|exact HB.out)⟩⟩
        · rw [if_neg c14] at H
          have c14b0:decide (a0_4 < 0) = false:=decide_eq_false c14;clear c14;have H':=As0.mk H;clear H;obtain ⟨hcz18_0,hcz18_1,hcz18_2,hcz18_3,hcz18_4⟩:=qc5 BK105.out;obtain ⟨hfz18_0,hfz18_1,hfz18_2,hfz18_3,hfz18_4⟩:=qz5 BK105.out
          go_wp2_with (first|((with_reducible refine gca (f:=97) rfl ?_);refine gL (some 5) Tryz.func97 #[.string a0_0] ?_;(with_reducible refine (impl_isName.calls a0_0 true _ A4.out).mono ?_);rintro e w19 ⟨rfl,hb⟩;refine ⟨_,rfl,?_⟩;replace BK105:=As0.mk (bb hb BK105.out);replace HB:=As0.mk (bsp (by repeat (first|(with_reducible first|exact HB.out|apply bal|apply pbN|apply bd1|refine bst ?_ GE105.out)|exact HB.out)) hb);clear hb;obtain ⟨hcz20_0,hcz20_1,hcz20_2,hcz20_3,hcz20_4⟩:=qc5 BK105.out;obtain ⟨hfz20_0,hfz20_1,hfz20_2,hfz20_3,hfz20_4⟩:=qz5 BK105.out))
          show _;go_meet
          case rel=>exact ⟨_,(decide (a0_4 > 99999)),(by first|rfl|(simp;done)|(simp [*];done)),H',⟨by first|omega|exact Nat.le_refl _⟩,⟨by (with_reducible repeat (first|refine bkN ?_ _|refine bkD ?_|refine bkA ?_ _));exact BK105.out⟩,⟨by repeat (first|(with_reducible first|exact HB.out|apply bal|apply pbN|apply bd1|refine bst ?_ GE105.out)|exact HB.out)⟩⟩
  · replace c5:=Bool.eq_false_iff.mpr c5
    subst c5;have H1:(impl_isSpace.j0 k true a0_0 a0_1 a0_2 a0_3 a0_4) = some r:=by rw [if_neg (show ¬ (false = true) by decide)] at H;exact H
    clear H;have H:=H1;clear H1;have H':=As0.mk H;clear H;obtain ⟨hcz21_0,hcz21_1,hcz21_2,hcz21_3,hcz21_4⟩:=qc5 BK105.out;obtain ⟨hfz21_0,hfz21_1,hfz21_2,hfz21_3,hfz21_4⟩:=qz5 BK105.out
    go_wp2_with (first|((with_reducible refine gca (f:=97) rfl ?_);refine gL (some 5) Tryz.func97 #[.string a0_0] ?_;(with_reducible refine (impl_isName.calls a0_0 false _ A4.out).mono ?_);rintro e w22 ⟨rfl,hb⟩;refine ⟨_,rfl,?_⟩;replace BK105:=As0.mk (bb hb BK105.out);replace HB:=As0.mk (bsp (by repeat (first|(with_reducible first|exact HB.out|apply bal|apply pbN|apply bd1|refine bst ?_ GE105.out)|exact HB.out)) hb);clear hb))
    show _;go_meet
    case rel=>exact ⟨_,(true),(by first|rfl|(simp;done)|(simp [*];done)),H',⟨by first|omega|exact Nat.le_refl _⟩,⟨by (with_reducible repeat (first|refine bkN ?_ _|refine bkD ?_|refine bkA ?_ _));exact BK105.out⟩,⟨by repeat (first|(with_reducible first|exact HB.out|apply bal|apply pbN|apply bd1|refine bst ?_ GE105.out)|exact HB.out)⟩⟩
 case rest=>
  clear HC2
  try clear c1
  try clear p2
  try clear c5
  try clear c6
  try clear c6b0
  try clear c9
  try clear c10
  try clear c10b0
  try clear c14
  try clear c14b0
  try clear hcz11_0
  try clear hcz11_1
  try clear hcz11_2
  try clear hcz11_3
  try clear hcz11_4
  try clear hcz13_0
  try clear hcz13_1
  try clear hcz13_2
  try clear hcz13_3
  try clear hcz13_4
  try clear hcz15_0
  try clear hcz15_1
  try clear hcz15_2
  try clear hcz15_3
  try clear hcz15_4
  try clear hcz17_0
  try clear hcz17_1
  try clear hcz17_2
  try clear hcz17_3
  try clear hcz17_4
  try clear hcz18_0
  try clear hcz18_1
  try clear hcz18_2
  try clear hcz18_3
  try clear hcz18_4
  try clear hcz20_0
  try clear hcz20_1
  try clear hcz20_2
  try clear hcz20_3
  try clear hcz20_4
  try clear hcz21_0
  try clear hcz21_1
  try clear hcz21_2
  try clear hcz21_3
  try clear hcz21_4
  try clear hcz7_0
  try clear hcz7_1
  try clear hcz7_2
  try clear hcz7_3
  try clear hcz7_4
  try clear hcz9_0
  try clear hcz9_1
  try clear hcz9_2
  try clear hcz9_3
  try clear hcz9_4
  try clear hfz11_0
  try clear hfz11_1
  try clear hfz11_2
  try clear hfz11_3
  try clear hfz11_4
  try clear hfz13_0
  try clear hfz13_1
  try clear hfz13_2
  try clear hfz13_3
  try clear hfz13_4
  try clear hfz15_0
  try clear hfz15_1
  try clear hfz15_2
  try clear hfz15_3
  try clear hfz15_4
  try clear hfz17_0
  try clear hfz17_1
  try clear hfz17_2
  try clear hfz17_3
  try clear hfz17_4
  try clear hfz18_0
  try clear hfz18_1
  try clear hfz18_2
  try clear hfz18_3
  try clear hfz18_4
  try clear hfz20_0
  try clear hfz20_1
  try clear hfz20_2
  try clear hfz20_3
  try clear hfz20_4
  try clear hfz21_0
  try clear hfz21_1
  try clear hfz21_2
  try clear hfz21_3
  try clear hfz21_4
  try clear hfz7_0
  try clear hfz7_1
  try clear hfz7_2
  try clear hfz7_3
  try clear hfz7_4
  try clear hfz9_0
  try clear hfz9_1
  try clear hfz9_2
  try clear hfz9_3
  try clear hfz9_4
  obtain ⟨kq,x26_1,rfl,HA,HJ1,BK105,HB⟩:=hcut
  cases kq with
  |zero=>exact absurd HA.out (by simp [impl_isSpace.j0])
  |succ kj1=>
   have H:=HA.out;clear HA;simp only [impl_isSpace.j0] at H;by_cases c23:x26_1 = true
   · subst c23
     have H1:(some false) = some r:=by rw [if_pos rfl] at H;exact H
     clear H;have H:=H1;clear H1;obtain rfl:=Option.some.inj H
     go_wp2
     go_ret
     exact ⟨eW,by repeat (first|(with_reducible first|exact HB.out|apply bal|apply pbN|apply bd1|refine bst ?_ GE105.out)|exact HB.out)⟩
   · replace c23:=Bool.eq_false_iff.mpr c23
     subst c23;have H1:(if a0_0.toList = ([97,108,108]:List UInt8) then (if a0_1.toList = ([]:List UInt8) then (some (!a0_3)) else (some false)) else ((impl_isName.f a0_1).bind fun t107=>(some t107))) = some r:=by rw [if_neg (show ¬ (false = true) by decide)] at H;exact H
     clear H;have H:=H1;clear H1;by_cases c24:a0_0.toList = ([97,108,108]:List UInt8)
     · rw [if_pos c24] at H
       have c24b0:(a0_0.toList == ([97,108,108]:List UInt8)) = true:=beq_iff_eq.mpr c24;have c24b1:(a0_0.toList != ([97,108,108]:List UInt8)) = false:=bne_eq_false_iff_eq.mpr c24;clear c24;by_cases c25:a0_1.toList = ([]:List UInt8)
       · rw [if_pos c25] at H
         have c25b0:(a0_1.toList == ([]:List UInt8)) = true:=beq_iff_eq.mpr c25;have c25b1:(a0_1.toList != ([]:List UInt8)) = false:=bne_eq_false_iff_eq.mpr c25;clear c25;obtain rfl:=Option.some.inj H;obtain ⟨hcz26_0,hcz26_1,hcz26_2,hcz26_3,hcz26_4⟩:=qc5 BK105.out;obtain ⟨hfz26_0,hfz26_1,hfz26_2,hfz26_3,hfz26_4⟩:=qz5 BK105.out
         go_wp2
         go_ret
         exact ⟨eW,by repeat (first|(with_reducible first|exact HB.out|apply bal|apply pbN|apply bd1|refine bst ?_ GE105.out)|exact HB.out)⟩
       · rw [if_neg c25] at H
         have c25b0:(a0_1.toList == ([]:List UInt8)) = false:=beq_eq_false_iff_ne.mpr c25;have c25b1:(a0_1.toList != ([]:List UInt8)) = true:=bne_iff_ne.mpr c25;obtain rfl:=Option.some.inj H;obtain ⟨hcz27_0,hcz27_1,hcz27_2,hcz27_3,hcz27_4⟩:=qc5 BK105.out;obtain ⟨hfz27_0,hfz27_1,hfz27_2,hfz27_3,hfz27_4⟩:=qz5 BK105.out
         go_wp2
         go_ret
         exact ⟨eW,by repeat (first|(with_reducible first|exact HB.out|apply bal|apply pbN|apply bd1|refine bst ?_ GE105.out)|exact HB.out)⟩
     · rw [if_neg c24] at H
       have c24b0:(a0_0.toList == ([97,108,108]:List UInt8)) = false:=beq_eq_false_iff_ne.mpr c24;have c24b1:(a0_0.toList != ([97,108,108]:List UInt8)) = true:=bne_iff_ne.mpr c24;replace H:=Option.bind_eq_some_iff.mp H;obtain ⟨t107,A280,H⟩:=H;(try dsimp only at H);have A28:=As0.mk A280;clear A280;obtain rfl:=Option.some.inj H;obtain ⟨hcz29_0,hcz29_1,hcz29_2,hcz29_3,hcz29_4⟩:=qc5 BK105.out;obtain ⟨hfz29_0,hfz29_1,hfz29_2,hfz29_3,hfz29_4⟩:=qz5 BK105.out
       go_wp2_with (first|((with_reducible refine gca (f:=97) rfl ?_);refine gL (some 40) Tryz.func97 #[.string a0_1] ?_;(with_reducible refine (impl_isName.calls a0_1 t107 _ A28.out).mono ?_);rintro e w30 ⟨rfl,hb⟩;refine ⟨_,rfl,?_⟩;replace BK105:=As0.mk (bb hb BK105.out);replace HB:=As0.mk (bsp (by repeat (first|(with_reducible first|exact HB.out|apply bal|apply pbN|apply bd1|refine bst ?_ GE105.out)|exact HB.out)) hb);clear hb))
       go_ret
       exact ⟨eW,by repeat (first|(with_reducible first|exact HB.out|apply bal|apply pbN|apply bd1|refine bst ?_ GE105.out)|exact HB.out)⟩
end Go.Proofs.YtclgmogfkoinbaaGreatDoor.P
