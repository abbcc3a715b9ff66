/- Functions of the law FnExactModelWatch as_ plain Lean functions, and that the machine's calls do what they say. -/
import Derived.Test.YtclgmogfkoinbaaGreatDoorZFnExactModelWatch0
import Derived.Test.YtclgmogfkoinbaaGreatDoorZFnExactModelWatch6
import Derived.Test.YtclgmogfkoinbaaGreatDoorZFnExactModelWatch4
import Derived.Test.YtclgmogfkoinbaaGreatDoorZFnExactModelWatch5
import Derived.Test.YtclgmogfkoinbaaGreatDoorZFnExactModelWatch2
import Derived.Test.YtclgmogfkoinbaaGreatDoorZFnExactModelWatch1
import Derived.Test.YtclgmogfkoinbaaGreatDoorZFnExactModelWatch3
namespace Go.Proofs.YtclgmogfkoinbaaGreatDoor.P
open Go.RowKit Go.Proofs.YtclgmogfkoinbaaGreatDoorW.PrintWords Go.Proofs.YtclgmogfkoinbaaGreatDoorW.PrintLast Go.Proofs.YtclgmogfkoinbaaGreatDoorW.PrintMore
attribute [local go_sem] max2_int min2_int max_two min_two max_three min_three max_four min_four
set_option linter.unusedVariables false
set_option linter.unusedSimpArgs false
def spec_l10Things.th (k:Nat) (rev uid:Int) (sp:List (SiS28)) (x:SiT29) (p:Option (SiT29)):Option Bool:=
 (spec_ThingOk.f k x.f0 x.f1 x.f2 x.f3 x.f4 x.f5 x.f6).bind fun b=>if b = true then (spec_l8At.f k sp x.f0).bind fun i=>if i < 0 then some false else if rev < x.f3 then some false else if uid < x.f2 then some false else (match p with|none=>some true|some y=>(spec_l10Less.f y.f0 y.f1 y.f2 y.f3 y.f4 y.f5 y.f6 x.f0 x.f1 x.f2 x.f3 x.f4 x.f5 x.f6).bind fun c=>some c) else some false
def spec_l10Things.l1 (k:Nat) (rev uid:Int) (sp:List (SiS28)) (T:List (SiT29)):Nat → Int → Option Bool
 |0,_=>some true
 |m + 1,i=>(spec_l10Things.th k rev uid sp (riT38 T i) (if 0 < i then some (riT38 T (i - 1)) else none)).bind fun b=>if b = true then (if (T.take i.toNat).any (fun y=>decide (y.f2 = (riT38 T i).f2)) = true then some false else spec_l10Things.l1 k rev uid sp T m (i + 1)) else some false
def spec_l10Things.f (k:Nat) (rev uid fl:Int) (sp:List (SiS28)) (us:List (SiU30)) (T:List (SiT29)) (P:List (SiP27)):Option Bool:=
 (spec_l10Things.l1 k rev uid sp T T.length 0).bind fun b=>if b = true then some (decide (T.length ≤ 10)) else some false
theorem spec_l10Things.th_cases {k:Nat} {rev uid:Int} {sp:List (SiS28)} {x y:SiT29} {p:Option (SiT29)} {b:Bool} (h:spec_l10Things.th k rev uid sp x p = some b) (hp:p = none ∨ p = some y) :
 (b = false ∧ As0 (spec_ThingOk.f k x.f0 x.f1 x.f2 x.f3 x.f4 x.f5 x.f6 = some false)) ∨ (∃ i,(b = false ∧ As0 (spec_ThingOk.f k x.f0 x.f1 x.f2 x.f3 x.f4 x.f5 x.f6 = some true) ∧ As0 (spec_l8At.f k sp x.f0 = some i) ∧ decide (i < 0) = true)) ∨ (∃ i,(b = false ∧ As0 (spec_ThingOk.f k x.f0 x.f1 x.f2 x.f3 x.f4 x.f5 x.f6 = some true) ∧ As0 (spec_l8At.f k sp x.f0 = some i) ∧ decide (i < 0) = false ∧ decide (rev < x.f3) = true)) ∨ (∃ i,(b = false ∧ As0 (spec_ThingOk.f k x.f0 x.f1 x.f2 x.f3 x.f4 x.f5 x.f6 = some true) ∧ As0 (spec_l8At.f k sp x.f0 = some i) ∧ decide (i < 0) = false ∧ decide (rev < x.f3) = false ∧ decide (uid < x.f2) = true)) ∨ (∃ i,(p = none ∧ b = true ∧ As0 (spec_ThingOk.f k x.f0 x.f1 x.f2 x.f3 x.f4 x.f5 x.f6 = some true) ∧ As0 (spec_l8At.f k sp x.f0 = some i) ∧ decide (i < 0) = false ∧ decide (rev < x.f3) = false ∧ decide (uid < x.f2) = false)) ∨ (∃ i,(p = some y ∧ As0 (spec_ThingOk.f k x.f0 x.f1 x.f2 x.f3 x.f4 x.f5 x.f6 = some true) ∧ As0 (spec_l8At.f k sp x.f0 = some i) ∧ decide (i < 0) = false ∧ decide (rev < x.f3) = false ∧ decide (uid < x.f2) = false ∧ As0 (spec_l10Less.f y.f0 y.f1 y.f2 y.f3 y.f4 y.f5 y.f6 x.f0 x.f1 x.f2 x.f3 x.f4 x.f5 x.f6 = some b))):=by
 unfold spec_l10Things.th at h;obtain ⟨t,ht,h⟩:=Option.bind_eq_some_iff.mp h
 cases t with
 |false=>exact .inl ⟨by simpa using h.symm,⟨ht⟩⟩
 |true=>
 rw [if_pos rfl] at h;obtain ⟨i,hi,h⟩:=Option.bind_eq_some_iff.mp h;by_cases c1:i < 0
 · rw [if_pos c1] at h;exact .inr (.inl ⟨i,(Option.some.inj h).symm,⟨ht⟩,⟨hi⟩,decide_eq_true c1⟩)
 rw [if_neg c1] at h;by_cases c2:rev < x.f3
 · rw [if_pos c2] at h;exact .inr (.inr (.inl ⟨i,(Option.some.inj h).symm,⟨ht⟩,⟨hi⟩,decide_eq_false c1,decide_eq_true c2⟩))
 rw [if_neg c2] at h;by_cases c3:uid < x.f2
 · rw [if_pos c3] at h;exact .inr (.inr (.inr (.inl ⟨i,(Option.some.inj h).symm,⟨ht⟩,⟨hi⟩,decide_eq_false c1,decide_eq_false c2,decide_eq_true c3⟩)))
 rw [if_neg c3] at h;rcases hp with rfl|rfl
 · exact .inr (.inr (.inr (.inr (.inl ⟨i,rfl,(Option.some.inj h).symm,⟨ht⟩,⟨hi⟩,decide_eq_false c1,decide_eq_false c2,decide_eq_false c3⟩))))
 · obtain ⟨c,hc,h⟩:=Option.bind_eq_some_iff.mp h
   obtain rfl:=Option.some.inj h
   exact .inr (.inr (.inr (.inr (.inr ⟨i,rfl,⟨ht⟩,⟨hi⟩,decide_eq_false c1,decide_eq_false c2,decide_eq_false c3,⟨hc⟩⟩))))
set_option maxHeartbeats 16000000 in
set_option maxRecDepth 100000 in
theorem spec_l10Things.calls (k:Nat) (rev uid fl:Int) (A3:Option Addr) (c3:Nat) (sp:List (SiS28)) (A4:Option Addr) (c4:Nat) (us:List (SiU30)) (A5:Option Addr) (c5:Nat) (T:List (SiT29)) (A6:Option Addr) (c6:Nat) (P:List (SiP27)) (r:Bool) (w:World) (hr3:Kd.C k70 w A3 sp.length sp) (hc3:sp.length ≤ c3) (hr4:Kd.C k72 w A4 us.length us) (hc4:us.length ≤ c4) (hr5:Kd.C k44 w A5 T.length T) (hc5:T.length ≤ c5) (hr6:Kd.C k36 w A6 P.length P) (hc6:P.length ≤ c6) (h:spec_l10Things.f k rev uid fl sp us T P = some r) :
 Calls Tryz.prog 38 #[.agg #[.int .i64 rev,.int .i64 uid,.int .i64 fl,.slice A3 sp.length c3,.slice A4 us.length c4,.slice A5 T.length c5,.slice A6 P.length c6]] w fun e w'=>e = .returned (.bool r) ∧ Below w.heap.size w w':=by
 have hu28:=Tryz.underlying28;have hu44:=Tryz.underlying44;have HR3:=As0.mk hr3;have HC3:=As0.mk hc3;clear hr3 hc3;have HR4:=As0.mk hr4;have HC4:=As0.mk hc4;clear hr4 hc4;have HR5:=As0.mk hr5;have HC5:=As0.mk hc5;clear hr5 hc5;have HR6:=As0.mk hr6;have HC6:=As0.mk hc6;clear hr6 hc6;have HB:=As0.mk (Below.refl w.heap.size w);unfold spec_l10Things.f at h;obtain ⟨b4,hb4,h⟩:=Option.bind_eq_some_iff.mp h;have H:=As0.mk hb4;have HE:=As0.mk h;clear h hb4;have hb5:T.length ≤ 9223372036854775807:=HR5.out.2.1;have HN5:=As0.mk hb5;clear hb5
 go_enter Tryz.func38,Tryz.ntmps38
 go_wp2_with (first
  |((with_reducible refine gate_dst (N:=1) rfl ?_);refine bE 1 #[.int .i64 rev,.int .i64 uid,.int .i64 fl,.slice A3 sp.length c3,.slice A4 us.length c4,.slice A5 T.length c5,.slice A6 P.length c6] 28 ?_;intro gb hg w1 hbox hb;have n0_:=As0.mk (bsp HB.out hb);have BM:=As0.mk hbox;clear HB hb hg hbox;have HB:=n0_;clear n0_))
 show _;go_loopg [3] T.length (fun m v w'=>∃ ii:Int,v = .int .i64 ii ∧ As0 (0 ≤ ii ∧ ii + m = T.length) ∧ As0 (spec_l10Things.l1 k rev uid sp T m ii = some b4) ∧ As0 (Below w.heap.size w w') ∧ As0 (w'.heap[gb]? = some (.cells #[.int .i64 rev,.int .i64 uid,.int .i64 fl,.slice A3 sp.length c3,.slice A4 us.length c4,.slice A5 T.length c5,.slice A6 P.length c6] 28 (0,0))))
 case atStart=>exact ⟨0,(by first|rfl|(simp;done)),⟨⟨Int.le_refl _,by simp⟩⟩,⟨H.out⟩,HB,BM⟩
 case round=>
  clear HB BM H;obtain ⟨ii,rfl,HM,H,HB,BM⟩:=hrel;obtain ⟨kc0,kc1,kc2,kc3,kc4,kc5,kc6⟩:=mq.b7 BM.out
  cases gk with
  |zero=>
   have hm:=HM.out;have t0:decide (ii < (T.length:Int)) = false:=decide_eq_false (by have:=hm.2;omega);have h:=H.out;rw [spec_l10Things.l1] at h;obtain rfl:=Option.some.inj h;have h:=HE.out;rw [if_pos rfl] at h;obtain rfl:=Option.some.inj h;clear hm HM H HE h
   go_wp2
   go_ret
   exact ⟨by first|rfl|(simp;done)|(congr 2;simp;omega),HB.out⟩
  |succ k2=>
   have hm:=HM.out;have hi0:0 ≤ ii:=hm.1;have hin:ii < (T.length:Int):=by have:=hm.2;omega
   have t0:decide (ii < (T.length:Int)) = true:=decide_eq_true hin;have p0:(0 ≤ ii) = True:=eq_true hi0;have q0:(ii < (T.length:Int)) = True:=eq_true hin;have q1_:(ii.toNat < T.length) = True:=eq_true (by omega);have hw1:wrap64 (ii + 1) = ii + 1:=mq.wid (by have:=HN5.out;omega) (by have:=HN5.out;omega);have W0:=As0.mk hw1;have hit:ii.toNat ≤ T.length:=by omega
   have HM2:=As0.mk (show 0 ≤ ii + 1 ∧ ii + 1 + (k2:Nat) = (T.length:Int) from by have:=hm.2;constructor <;> omega);obtain ⟨ad,X5,y5,e0,hx0,hx1,hx2,hx3,hx4,hx5,hx6,l5,g5⟩:=at_T44 HR5.out ii hi0 hin
   cases e0
   replace hx0:=bx HB.out rfl hx0;replace hx1:=bx HB.out rfl hx1;replace hx2:=bx HB.out rfl hx2;replace hx3:=bx HB.out rfl hx3;replace hx4:=bx HB.out rfl hx4;replace hx5:=bx HB.out rfl hx5;replace hx6:=bx HB.out rfl hx6;have L5:=As0.mk l5;have G5:=As0.mk g5;clear l5 g5;have h:=H.out;rw [spec_l10Things.l1] at h;obtain ⟨b,hb,h⟩:=Option.bind_eq_some_iff.mp h
   show _;go_upto_region 5 with (first
    |((with_reducible refine gate_dst (N:=4) rfl ?_);refine bE 4 #[.string ⟨#[]⟩,.string ⟨#[]⟩,.int .i64 0,.int .i64 0,.bool false,.slice none 0 0,.string ⟨#[]⟩] 44 ?_;intro gx hg w6 hbox hb;have BZ:=As0.mk hbox;have HZ:=As0.mk hb;have GX:=As0.mk (show wr.heap.size ≤ gx from Nat.le_of_eq hg.symm);clear hb hg hbox;have z0:=bkF BZ.out 0;have z1:=bkF BZ.out 1;have z2:=bkF BZ.out 2;have z3:=bkF BZ.out 3;have z4:=bkF BZ.out 4;have z5:=bkF BZ.out 5;have z6:=bkF BZ.out 6;obtain ⟨j0,j1,j2,j3,j4,j5,j6⟩:=mq.b7 BZ.out)
    |((with_reducible refine gate_store (t:=44) (p:=4) rfl ?_);refine store_event (t:=44) (p:=4) (v:=?vo_c) (w1:=mq.put7 w6 gx (.string (riT38 T ii).f0) (.string (riT38 T ii).f1) (.int .i64 (riT38 T ii).f2) (.int .i64 (riT38 T ii).f3) (.bool (riT38 T ii).f4) (.slice X5 (riT38 T ii).f5.length y5) (.string (riT38 T ii).f6)) ?hg ?ho ?hn ?hr ?_;(case ho=>rfl);(case hg=>rfl);(case hn=>rfl);(case hr=>(first|(unfold mq.put7;unfold mq.put5)|unfold mq.put5);first|done|(go_simp;done)|(go_simp;rfl));intro w7 hw;have hb:=mq.below7 HZ.out GX.out hw;have BX:=As0.mk (mq.blk7 BZ.out hw);clear hw HZ BZ GX z0 z1 z2 z3 z4 z5 z6 j0 j1 j2 j3 j4 j5 j6 kc0 kc1 kc2 kc3 kc4 kc5 kc6;have n0_:=As0.mk (bsp HB.out hb);have n1_:=As0.mk (blk_below BM.out hb);clear HB BM hb;have HB:=n0_;have BM:=n1_;clear n0_ n1_;clear hx0 hx1 hx2 hx3 hx4 hx5 hx6))
   (try simp only [Act.put,sA,sZ,sS])
   have hA5:=HC5.out;obtain ⟨q0,q1,q2,q3,q4,q5,q6⟩:=mq.c7 BM.out;obtain ⟨g0,g1,g2,g3,g4,g5_,g6⟩:=mq.c7 BX.out;obtain ⟨y,hy⟩:∃ y,y = riT38 T (ii - 1):=⟨_,rfl⟩
   have hp:(if 0 < ii then some (riT38 T (ii - 1)) else none) = none ∨ (if 0 < ii then some (riT38 T (ii - 1)) else none) = some y:=by
    rw [hy];split <;> simp
   have hn0:(if 0 < ii then some (riT38 T (ii - 1)) else none) = none → decide (0 < ii) = false:=fun h_=>by
    by_cases c_:0 < ii
    · rw [if_pos c_] at h_;cases h_
    · exact decide_eq_false c_
   have hn1:(if 0 < ii then some (riT38 T (ii - 1)) else none) = some y → 0 < ii:=fun h_=>by
    by_cases c_:0 < ii
    · exact c_
    · rw [if_neg c_] at h_;cases h_
   clear hm HM H hw1
   cases b with
   |false=>
    rw [if_neg (by decide)] at h;obtain rfl:=Option.some.inj h;have h:=HE.out;rw [if_neg (by decide)] at h;obtain rfl:=Option.some.inj h;clear h HE;rcases spec_l10Things.th_cases hb hp with ⟨hc,A1⟩|⟨i0,hc,A1,A2,u1⟩|⟨i0,hc,A1,A2,u1,u2⟩|⟨i0,hc,A1,A2,u1,u2,u3⟩|⟨i0,hn,hc,A1,A2,u1,u2,u3⟩|⟨i0,hn,A1,A2,u1,u2,u3,AL6⟩
    rotate_left 5;have hii:=hn1 hn;have v0:decide (0 < ii) = true:=decide_eq_true hii;obtain ⟨pj,hpj⟩:∃ z,ii - 1 = z:=⟨_,rfl⟩;have hj0:0 ≤ pj:=by omega
    have hj1:pj < (T.length:Int):=by omega
    have hj2:pj.toNat < T.length:=by omega
    have hj3:wrap64 (ii - 1) = pj:=by rw [hpj];exact mq.wid (by omega) (by have:=HN5.out;omega)
    have e1:IntKind.i64.wrap (ii - 1) = pj:=(i64_w _).trans hj3;rw [hpj] at hy;subst hy;obtain ⟨ad',Z5,y6,e0,ex0,ex1,ex2,ex3,ex4,ex5,ex6,l6,G6_⟩:=at_T44 HR5.out pj hj0 hj1;obtain rfl:ad = ad':=by injection e0
    have d0:=mq.cell ((HB.out.cell (World.block_lt_of_cell? w _ ex0)).trans ex0);have d1:=mq.cell ((HB.out.cell (World.block_lt_of_cell? w _ ex1)).trans ex1);have d2:=mq.cell ((HB.out.cell (World.block_lt_of_cell? w _ ex2)).trans ex2);have d3:=mq.cell ((HB.out.cell (World.block_lt_of_cell? w _ ex3)).trans ex3);have d4:=mq.cell ((HB.out.cell (World.block_lt_of_cell? w _ ex4)).trans ex4);have d5:=mq.cell ((HB.out.cell (World.block_lt_of_cell? w _ ex5)).trans ex5);have d6:=mq.cell ((HB.out.cell (World.block_lt_of_cell? w _ ex6)).trans ex6);have G6:=As0.mk G6_;have L6:=As0.mk l6;have j0_:(0 ≤ pj) = True:=eq_true hj0;have j1_:(pj < (T.length:Int)) = True:=eq_true hj1;have j2_:(pj.toNat < T.length) = True:=eq_true hj2;clear ex0 ex1 ex2 ex3 ex4 ex5 ex6 G6_ l6 e0 hj0 hj1 hj2 hpj hii;rotate_right
    exact absurd hc (by decide)
    all_goals
     clear hp hn0 hn1 hb hit hin hi0 hA5;refine mq.region (by kernel_rfl) (by kernel_rfl) ?_
     repeat (go_big_quiet_step (first
      |(rename_i x;go_at_call 75;refine (spec_ThingOk.calls k _ _ _ _ _ _ _ _ _ _ _ (Kd.C_below (Kd.C_below G5.out HB.out) x.2) L5.out A1.out).mono ?_;rintro e w8 ⟨rfl,hb⟩;exact ⟨rfl,⟨_,bsp x.2 hb⟩,rfl⟩)
      |(rename_i x;go_at_call 74;refine (spec_l8At.calls k _ _ sp _ _ _ (Kd.C_below (Kd.C_below HR3.out HB.out) x.2) HC3.out A2.out).mono ?_;rintro e w8 ⟨rfl,hd⟩;have hb:=hd.below;exact ⟨rfl,⟨_,bsp x.2 hb⟩,rfl⟩)
      |(rename_i x;go_at_call 76;refine (spec_l10Less.calls _ _ _ _ _ _ _ _ _ _ _ _ _ _ _ _ _ _ _ _ (Kd.C_below (Kd.C_below G6.out HB.out) x.2) L6.out (Kd.C_below (Kd.C_below G5.out HB.out) x.2) L5.out AL6.out).mono ?_;rintro e w8 ⟨rfl,hb⟩;exact ⟨rfl,⟨_,bsp x.2 hb⟩,rfl⟩)))
     refine wpQuiet_nil ?_;intro w8 hb;replace HB:=As0.mk (bsp HB.out hb);replace BM:=As0.mk (blk_below BM.out hb);replace BX:=As0.mk (blk_below BX.out hb);clear hb q0 q1 q2 q3 q4 q5 q6 g0 g1 g2 g3 g4 g5_ g6
     go_wp2
     go_ret
     exact ⟨by first|rfl|(simp;done),HB.out⟩
   |true=>
    rw [if_pos rfl] at h;have HII:=As0.mk (show 0 ≤ ii ∧ ii < (T.length:Int) from ⟨hi0,hin⟩);rcases spec_l10Things.th_cases hb hp with ⟨hc,A1⟩|⟨i0,hc,A1,A2,u1⟩|⟨i0,hc,A1,A2,u1,u2⟩|⟨i0,hc,A1,A2,u1,u2,u3⟩|⟨i0,hn,hc,A1,A2,u1,u2,u3⟩|⟨i0,hn,A1,A2,u1,u2,u3,AL6⟩
    all_goals try exact absurd hc (by decide)
    rotate_left;have hii:=hn1 hn;have v0:decide (0 < ii) = true:=decide_eq_true hii;obtain ⟨pj,hpj⟩:∃ z,ii - 1 = z:=⟨_,rfl⟩;have hj0:0 ≤ pj:=by omega
    have hj1:pj < (T.length:Int):=by omega
    have hj2:pj.toNat < T.length:=by omega
    have hj3:wrap64 (ii - 1) = pj:=by rw [hpj];exact mq.wid (by omega) (by have:=HN5.out;omega)
    have e1:IntKind.i64.wrap (ii - 1) = pj:=(i64_w _).trans hj3;rw [hpj] at hy;subst hy;obtain ⟨ad',Z5,y6,e0,ex0,ex1,ex2,ex3,ex4,ex5,ex6,l6,G6_⟩:=at_T44 HR5.out pj hj0 hj1;obtain rfl:ad = ad':=by injection e0
    have d0:=mq.cell ((HB.out.cell (World.block_lt_of_cell? w _ ex0)).trans ex0);have d1:=mq.cell ((HB.out.cell (World.block_lt_of_cell? w _ ex1)).trans ex1);have d2:=mq.cell ((HB.out.cell (World.block_lt_of_cell? w _ ex2)).trans ex2);have d3:=mq.cell ((HB.out.cell (World.block_lt_of_cell? w _ ex3)).trans ex3);have d4:=mq.cell ((HB.out.cell (World.block_lt_of_cell? w _ ex4)).trans ex4);have d5:=mq.cell ((HB.out.cell (World.block_lt_of_cell? w _ ex5)).trans ex5);have d6:=mq.cell ((HB.out.cell (World.block_lt_of_cell? w _ ex6)).trans ex6);have G6:=As0.mk G6_;have L6:=As0.mk l6;have j0_:(0 ≤ pj) = True:=eq_true hj0;have j1_:(pj < (T.length:Int)) = True:=eq_true hj1;have j2_:(pj.toNat < T.length) = True:=eq_true hj2;clear ex0 ex1 ex2 ex3 ex4 ex5 ex6 G6_ l6 e0 hj0 hj1 hj2 hpj hii;rotate_left;have v0:=hn0 hn
    all_goals
     clear hp hn0 hn1 hb hit hin hi0 hA5;refine mq.region (by kernel_rfl) (by kernel_rfl) ?_
     repeat (go_big_quiet_step (first
      |(rename_i x;go_at_call 75;refine (spec_ThingOk.calls k _ _ _ _ _ _ _ _ _ _ _ (Kd.C_below (Kd.C_below G5.out HB.out) x.2) L5.out A1.out).mono ?_;rintro e w8 ⟨rfl,hb⟩;exact ⟨rfl,⟨_,bsp x.2 hb⟩,rfl⟩)
      |(rename_i x;go_at_call 74;refine (spec_l8At.calls k _ _ sp _ _ _ (Kd.C_below (Kd.C_below HR3.out HB.out) x.2) HC3.out A2.out).mono ?_;rintro e w8 ⟨rfl,hd⟩;have hb:=hd.below;exact ⟨rfl,⟨_,bsp x.2 hb⟩,rfl⟩)
      |(rename_i x;go_at_call 76;refine (spec_l10Less.calls _ _ _ _ _ _ _ _ _ _ _ _ _ _ _ _ _ _ _ _ (Kd.C_below (Kd.C_below G6.out HB.out) x.2) L6.out (Kd.C_below (Kd.C_below G5.out HB.out) x.2) L5.out AL6.out).mono ?_;rintro e w8 ⟨rfl,hb⟩;exact ⟨rfl,⟨_,bsp x.2 hb⟩,rfl⟩)))
     refine wpQuiet_nil ?_;intro w8 hb;replace HB:=As0.mk (bsp HB.out hb);replace BM:=As0.mk (blk_below BM.out hb);replace BX:=As0.mk (blk_below BX.out hb);clear hb q0 q1 q2 q3 q4 q5 q6 g0 g1 g2 g3 g4 g5_ g6
     show _;go_upto_region 7 with (fail)
     go_wp2
     have HIN:=As0.mk h;clear h
     (try clear d0 d1 d2 d3 d4 d5 d6)
     show _;go_loopg [5] ii.toNat (fun m v w'=>∃ jj:Int,v = .int .i64 jj ∧ As0 (0 ≤ jj ∧ jj + m = ii) ∧ As0 ((if ((T.take ii.toNat).drop jj.toNat).any (fun y=>decide (y.f2 = (riT38 T ii).f2)) = true then some false else spec_l10Things.l1 k rev uid sp T k2 (ii + 1)) = some b4) ∧ As0 (Below w.heap.size w w') ∧ As0 (w'.heap[gb]? = some (.cells #[.int .i64 rev,.int .i64 uid,.int .i64 fl,.slice A3 sp.length c3,.slice A4 us.length c4,.slice (some ad) T.length c5,.slice A6 P.length c6] 28 (0,0))) ∧ As0 (w'.heap[gx]? = some (.cells #[.string (riT38 T ii).f0,.string (riT38 T ii).f1,.int .i64 (riT38 T ii).f2,.int .i64 (riT38 T ii).f3,.bool (riT38 T ii).f4,.slice X5 (riT38 T ii).f5.length y5,.string (riT38 T ii).f6] 44 (0,0))))
     case atStart=>exact ⟨0,(by first|rfl|(simp;done)),⟨⟨Int.le_refl _,by have:=HII.out.1;omega⟩⟩,⟨HIN.out⟩,HB,BM,BX⟩
     case round=>
      clear HB BM BX HIN;obtain ⟨jj,rfl,HJ,HIN,HB,BM,BX⟩:=hrel
      cases gk with
      |zero=>
       have hj:=HJ.out;have t8:decide (jj < ii) = false:=decide_eq_false (by have:=hj.2;omega);have h:=HIN.out;rw [List.drop_of_length_le (by rw [List.length_take];have:=hj.2;omega),List.any_nil,if_neg (by decide)] at h;have H:=As0.mk h;clear h hj HJ HIN
       go_wp2
       show _;go_roundg k2
       case measure=>omega
       case rel=>exact ⟨ii + 1,(by first|rw [W0.out]|(simp [W0.out];done)|(simp;done)),HM2,H,HB,BM⟩
      |succ k3=>
       have hj:=HJ.out;have hj0:0 ≤ jj:=hj.1;have hji:jj < ii:=by have:=hj.2;omega
       have hjn:jj < (T.length:Int):=Int.lt_trans hji HII.out.2;have hjt:jj.toNat < (T.take ii.toNat).length:=by rw [List.length_take];have:=HII.out.2;omega
       have h:=HIN.out
       have hrd:(T.take ii.toNat)[jj.toNat] = riT38 T jj:=by
        rw [List.getElem_take];simp [riT38,List.getElem?_eq_getElem (show jj.toNat < T.length by omega)]
       rw [List.drop_eq_getElem_cons hjt,List.any_cons,hrd] at h;have HJ2:=As0.mk (show 0 ≤ jj + 1 ∧ jj + 1 + (k3:Nat) = ii from by have:=hj.2;constructor <;> omega);have hw2:wrap64 (jj + 1) = jj + 1:=mq.wid (by omega) (by have:=HN5.out;omega);have W2:=As0.mk hw2;have t8:decide (jj < ii) = true:=decide_eq_true hji;obtain ⟨ad2,Z5,z5,e0,ex0,ex1,ex2,ex3,ex4,ex5,ex6,l6,g6_⟩:=at_T44 HR5.out jj hj0 hjn;obtain rfl:ad = ad2:=by injection e0
       have d2:=mq.cell ((HB.out.cell (World.block_lt_of_cell? w _ ex2)).trans ex2);have j0_:(0 ≤ jj) = True:=eq_true hj0;have j1_:(jj < (T.length:Int)) = True:=eq_true hjn;have j2_:(jj.toNat < T.length) = True:=eq_true (by omega);have hjj:(jj + 1).toNat = jj.toNat + 1:=by omega
       clear ex0 ex1 ex2 ex3 ex4 ex5 ex6 l6 g6_ e0 hrd hw2 hj HJ HIN hjt;obtain ⟨q0,q1,q2,q3,q4,q5,q6⟩:=mq.c7 BM.out;obtain ⟨g0,g1,g2,g3,g4,g5_,g6⟩:=mq.c7 BX.out;by_cases hv:(riT38 T jj).f2 = (riT38 T ii).f2
       · rw [decide_eq_true hv,Bool.true_or,if_pos rfl] at h
         obtain rfl:=Option.some.inj h;have h:=HE.out;rw [if_neg (by decide)] at h;obtain rfl:=Option.some.inj h;have t9:((riT38 T jj).f2 == (riT38 T ii).f2) = true:=beq_iff_eq.mpr hv;have t10:decide ((riT38 T jj).f2 = (riT38 T ii).f2) = true:=decide_eq_true hv;clear h hv HE
         show _;go_upto_region 10 with (fail)
         refine mq.region (by kernel_rfl) (by kernel_rfl) ?_
         repeat (go_big_quiet_step (fail))
         refine wpQuiet_nil ?_;intro w8 hb;replace HB:=As0.mk (bsp HB.out hb);replace BM:=As0.mk (blk_below BM.out hb);replace BX:=As0.mk (blk_below BX.out hb);clear hb q0 q1 q2 q3 q4 q5 q6 g0 g1 g2 g3 g4 g5_ g6 d2
         go_wp2
         go_ret
         exact ⟨by first|rfl|(simp;done),HB.out⟩
       · rw [decide_eq_false hv,Bool.false_or] at h
         have t9:((riT38 T jj).f2 == (riT38 T ii).f2) = false:=beq_eq_false_iff_ne.mpr hv;have t10:decide ((riT38 T jj).f2 = (riT38 T ii).f2) = false:=decide_eq_false hv;have HIN:=As0.mk (show (if ((T.take ii.toNat).drop (jj + 1).toNat).any (fun y=>decide (y.f2 = (riT38 T ii).f2)) = true then some false else spec_l10Things.l1 k rev uid sp T k2 (ii + 1)) = some b4 from by rw [hjj];exact h);clear h hv hjj
         show _;go_upto_region 10 with (fail)
         refine mq.region (by kernel_rfl) (by kernel_rfl) ?_
         repeat (go_big_quiet_step (fail))
         refine wpQuiet_nil ?_;intro w8 hb;replace HB:=As0.mk (bsp HB.out hb);replace BM:=As0.mk (blk_below BM.out hb);replace BX:=As0.mk (blk_below BX.out hb);clear hb q0 q1 q2 q3 q4 q5 q6 g0 g1 g2 g3 g4 g5_ g6 d2
         go_wp2
         show _;go_roundg k3
         case measure=>omega
         case rel=>exact ⟨jj + 1,(by first|rw [W2.out]|(simp [W2.out];done)|(simp;done)),HJ2,HIN,HB,BM,BX⟩
def spec_l10Past.f (k:Nat) (a0_0:Int) (a0_1:ByteArray) (a0_2:ByteArray) (a0_3:ByteArray):Option (Bool):=(spec_l1In.f a0_0 1 99999).bind fun t219=>(if t219 = true then (if a0_1.toList = ([43]:List UInt8) then ((spec_NameOk.f k a0_2).bind fun t220=>(if t220 = true then (if a0_3.toList = ([]:List UInt8) then (some true) else ((spec_NameOk.f k a0_3).bind fun t221=>(some t221))) else (some false))) else (if a0_1.toList = ([61]:List UInt8) then ((spec_NameOk.f k a0_2).bind fun t222=>(if t222 = true then (if a0_3.toList = ([]:List UInt8) then (some true) else ((spec_NameOk.f k a0_3).bind fun t223=>(some t223))) else (some false))) else (if a0_1.toList = ([45]:List UInt8) then ((spec_NameOk.f k a0_2).bind fun t224=>(if t224 = true then (if a0_3.toList = ([]:List UInt8) then (some true) else ((spec_NameOk.f k a0_3).bind fun t225=>(some t225))) else (some false))) else (some false)))) else (some false))
set_option maxHeartbeats 40000000 in
set_option maxRecDepth 100000 in
theorem spec_l10Past.calls (k:Nat) (a0_0:Int) (a0_1:ByteArray) (a0_2:ByteArray) (a0_3:ByteArray) (r:Bool) (w:World) (h:spec_l10Past.f k a0_0 a0_1 a0_2 a0_3 = some r) :
 Calls Tryz.prog 77 #[.agg #[.int .i64 a0_0,.string a0_1,.string a0_2,.string a0_3]] w fun e w'=>e = .returned (.bool r) ∧ Below w.heap.size w w':=by
 have hu36:=Tryz.underlying36;have HB:=As0.mk (Below.refl w.heap.size w);have H:((spec_l1In.f a0_0 1 99999).bind fun t219=>(if t219 = true then (if a0_1.toList = ([43]:List UInt8) then ((spec_NameOk.f k a0_2).bind fun t220=>(if t220 = true then (if a0_3.toList = ([]:List UInt8) then (some true) else ((spec_NameOk.f k a0_3).bind fun t221=>(some t221))) else (some false))) else (if a0_1.toList = ([61]:List UInt8) then ((spec_NameOk.f k a0_2).bind fun t222=>(if t222 = true then (if a0_3.toList = ([]:List UInt8) then (some true) else ((spec_NameOk.f k a0_3).bind fun t223=>(some t223))) else (some false))) else (if a0_1.toList = ([45]:List UInt8) then ((spec_NameOk.f k a0_2).bind fun t224=>(if t224 = true then (if a0_3.toList = ([]:List UInt8) then (some true) else ((spec_NameOk.f k a0_3).bind fun t225=>(some t225))) else (some false))) else (some false)))) else (some false))) = some r:=h;clear h;replace H:=Option.bind_eq_some_iff.mp H;obtain ⟨t219,A20,H⟩:=H;(try dsimp only at H);have A2:=As0.mk A20;clear A20;by_cases c3:t219 = true
 · subst c3
   have H1:(if a0_1.toList = ([43]:List UInt8) then ((spec_NameOk.f k a0_2).bind fun t220=>(if t220 = true then (if a0_3.toList = ([]:List UInt8) then (some true) else ((spec_NameOk.f k a0_3).bind fun t221=>(some t221))) else (some false))) else (if a0_1.toList = ([61]:List UInt8) then ((spec_NameOk.f k a0_2).bind fun t222=>(if t222 = true then (if a0_3.toList = ([]:List UInt8) then (some true) else ((spec_NameOk.f k a0_3).bind fun t223=>(some t223))) else (some false))) else (if a0_1.toList = ([45]:List UInt8) then ((spec_NameOk.f k a0_2).bind fun t224=>(if t224 = true then (if a0_3.toList = ([]:List UInt8) then (some true) else ((spec_NameOk.f k a0_3).bind fun t225=>(some t225))) else (some false))) else (some false)))) = some r:=by rw [if_pos rfl] at H;exact H
   clear H;have H:=H1;clear H1;by_cases c4:a0_1.toList = ([43]:List UInt8)
   · rw [if_pos c4] at H
     have c4b0:(a0_1.toList == ([43]:List UInt8)) = true:=beq_iff_eq.mpr c4;have c4b1:(a0_1.toList != ([43]:List UInt8)) = false:=bne_eq_false_iff_eq.mpr c4;clear c4;replace H:=Option.bind_eq_some_iff.mp H;obtain ⟨t220,A50,H⟩:=H;(try dsimp only at H);have A5:=As0.mk A50;clear A50;by_cases c6:t220 = true
     · subst c6
       have H1:(if a0_3.toList = ([]:List UInt8) then (some true) else ((spec_NameOk.f k a0_3).bind fun t221=>(some t221))) = some r:=by rw [if_pos rfl] at H;exact H
       clear H;have H:=H1;clear H1;by_cases c7:a0_3.toList = ([]:List UInt8)
       · rw [if_pos c7] at H
         have c7b0:(a0_3.toList == ([]:List UInt8)) = true:=beq_iff_eq.mpr c7;have c7b1:(a0_3.toList != ([]:List UInt8)) = false:=bne_eq_false_iff_eq.mpr c7;clear c7;obtain rfl:=Option.some.inj H
         go_enter Tryz.func77,Tryz.ntmps77
         go_wp2_with (first|((with_reducible refine gate_dst (N:=1) rfl ?_);refine bE 1 #[.int .i64 a0_0,.string a0_1,.string a0_2,.string a0_3] 36 ?_;intro gb218 hg w8 hbox hb;have BK218:=As0.mk (hbox);have GW218:=As0.mk ((by rw [hg];exact (bsz (by repeat (first|(with_reducible first|exact HB.out|apply bal|apply pbN|apply bd1)|exact HB.out))):w.heap.size ≤ gb218));have GE218:=GW218;replace HB:=As0.mk (b3 HB.out hb);clear hb hbox hg;obtain ⟨hcz9_0,hcz9_1,hcz9_2,hcz9_3⟩:=qc4 BK218.out;obtain ⟨hfz9_0,hfz9_1,hfz9_2,hfz9_3⟩:=qz4 BK218.out)|((with_reducible refine gca (f:=35) rfl ?_);refine gL (some 5) Tryz.func35 #[.int .i64 a0_0,.int .i64 1,.int .i64 99999] ?_;(with_reducible refine (spec_l1In.calls a0_0 1 99999 true _ A2.out).mono ?_);rintro e w' ⟨rfl,⟨nd,rfl⟩⟩;refine ⟨_,rfl,?_⟩)|(go_at_call 108;(with_reducible refine (spec_NameOk.calls k a0_2 true _ A5.out).mono ?_);rintro e w' ⟨rfl,⟨nd,rfl⟩⟩))
         go_ret
         exact ⟨eW,by repeat (first|(with_reducible first|exact HB.out|apply bal|apply pbN|apply bd1|refine bst ?_ GE218.out)|exact HB.out)⟩
       · rw [if_neg c7] at H
         have c7b0:(a0_3.toList == ([]:List UInt8)) = false:=beq_eq_false_iff_ne.mpr c7;have c7b1:(a0_3.toList != ([]:List UInt8)) = true:=bne_iff_ne.mpr c7;replace H:=Option.bind_eq_some_iff.mp H;obtain ⟨t221,A100,H⟩:=H;(try dsimp only at H);have A10:=As0.mk A100;clear A100;obtain rfl:=Option.some.inj H
         go_enter Tryz.func77,Tryz.ntmps77
         go_wp2_with (first|((with_reducible refine gate_dst (N:=1) rfl ?_);refine bE 1 #[.int .i64 a0_0,.string a0_1,.string a0_2,.string a0_3] 36 ?_;intro gb218 hg w11 hbox hb;have BK218:=As0.mk (hbox);have GW218:=As0.mk ((by rw [hg];exact (bsz (by repeat (first|(with_reducible first|exact HB.out|apply bal|apply pbN|apply bd1)|exact HB.out))):w.heap.size ≤ gb218));have GE218:=GW218;replace HB:=As0.mk (b3 HB.out hb);clear hb hbox hg;obtain ⟨hcz12_0,hcz12_1,hcz12_2,hcz12_3⟩:=qc4 BK218.out;obtain ⟨hfz12_0,hfz12_1,hfz12_2,hfz12_3⟩:=qz4 BK218.out)|((with_reducible refine gca (f:=35) rfl ?_);refine gL (some 5) Tryz.func35 #[.int .i64 a0_0,.int .i64 1,.int .i64 99999] ?_;(with_reducible refine (spec_l1In.calls a0_0 1 99999 true _ A2.out).mono ?_);rintro e w' ⟨rfl,⟨nd,rfl⟩⟩;refine ⟨_,rfl,?_⟩)|(go_at_call 108;(with_reducible refine (spec_NameOk.calls k a0_2 true _ A5.out).mono ?_);rintro e w' ⟨rfl,⟨nd,rfl⟩⟩)|(go_at_call 108;(with_reducible refine (spec_NameOk.calls k a0_3 t221 _ A10.out).mono ?_);rintro e w' ⟨rfl,⟨nd,rfl⟩⟩))
         go_ret
         exact ⟨eW,by repeat (first|(with_reducible first|exact HB.out|apply bal|apply pbN|apply bd1|refine bst ?_ GE218.out)|exact HB.out)⟩
     · replace c6:=Bool.eq_false_iff.mpr c6
       subst c6;have H1:(some false) = some r:=by rw [if_neg (show ¬ (false = true) by decide)] at H;exact H
       clear H;have H:=H1;clear H1;obtain rfl:=Option.some.inj H
       go_enter Tryz.func77,Tryz.ntmps77
       go_wp2_with (first|((with_reducible refine gate_dst (N:=1) rfl ?_);refine bE 1 #[.int .i64 a0_0,.string a0_1,.string a0_2,.string a0_3] 36 ?_;intro gb218 hg w13 hbox hb;have BK218:=As0.mk (hbox);have GW218:=As0.mk ((by rw [hg];exact (bsz (by repeat (first|(with_reducible first|exact HB.out|apply bal|apply pbN|apply bd1)|exact HB.out))):w.heap.size ≤ gb218));have GE218:=GW218;replace HB:=As0.mk (b3 HB.out hb);clear hb hbox hg;obtain ⟨hcz14_0,hcz14_1,hcz14_2,hcz14_3⟩:=qc4 BK218.out;obtain ⟨hfz14_0,hfz14_1,hfz14_2,hfz14_3⟩:=qz4 BK218.out)|((with_reducible refine gca (f:=35) rfl ?_);refine gL (some 5) Tryz.func35 #[.int .i64 a0_0,.int .i64 1,.int .i64 99999] ?_;(with_reducible refine (spec_l1In.calls a0_0 1 99999 true _ A2.out).mono ?_);rintro e w' ⟨rfl,⟨nd,rfl⟩⟩;refine ⟨_,rfl,?_⟩)|(go_at_call 108;(with_reducible refine (spec_NameOk.calls k a0_2 false _ A5.out).mono ?_);rintro e w' ⟨rfl,⟨nd,rfl⟩⟩))
       go_ret
       exact ⟨eW,by repeat (first|(with_reducible first|exact HB.out|apply bal|apply pbN|apply bd1|refine bst ?_ GE218.out)|exact HB.out)⟩
   · rw [if_neg c4] at H
     have c4b0:(a0_1.toList == ([43]:List UInt8)) = false:=beq_eq_false_iff_ne.mpr c4;have c4b1:(a0_1.toList != ([43]:List UInt8)) = true:=bne_iff_ne.mpr c4;by_cases c15:a0_1.toList = ([61]:List UInt8)
     · rw [if_pos c15] at H
       have c15b0:(a0_1.toList == ([61]:List UInt8)) = true:=beq_iff_eq.mpr c15;have c15b1:(a0_1.toList != ([61]:List UInt8)) = false:=bne_eq_false_iff_eq.mpr c15;clear c15;replace H:=Option.bind_eq_some_iff.mp H;obtain ⟨t222,A160,H⟩:=H;(try dsimp only at H);have A16:=As0.mk A160;clear A160;by_cases c17:t222 = true
       · subst c17
         have H1:(if a0_3.toList = ([]:List UInt8) then (some true) else ((spec_NameOk.f k a0_3).bind fun t223=>(some t223))) = some r:=by rw [if_pos rfl] at H;exact H
         clear H;have H:=H1;clear H1;by_cases c18:a0_3.toList = ([]:List UInt8)
         · rw [if_pos c18] at H
           have c18b0:(a0_3.toList == ([]:List UInt8)) = true:=beq_iff_eq.mpr c18;have c18b1:(a0_3.toList != ([]:List UInt8)) = false:=bne_eq_false_iff_eq.mpr c18;clear c18;obtain rfl:=Option.some.inj H
           go_enter Tryz.func77,Tryz.ntmps77
           go_wp2_with (first|((with_reducible refine gate_dst (N:=1) rfl ?_);refine bE 1 #[.int .i64 a0_0,.string a0_1,.string a0_2,.string a0_3] 36 ?_;intro gb218 hg w19 hbox hb;have BK218:=As0.mk (hbox);have GW218:=As0.mk ((by rw [hg];exact (bsz (by repeat (first|(with_reducible first|exact HB.out|apply bal|apply pbN|apply bd1)|exact HB.out))):w.heap.size ≤ gb218));have GE218:=GW218;replace HB:=As0.mk (b3 HB.out hb);clear hb hbox hg;obtain ⟨hcz20_0,hcz20_1,hcz20_2,hcz20_3⟩:=qc4 BK218.out;obtain ⟨hfz20_0,hfz20_1,hfz20_2,hfz20_3⟩:=qz4 BK218.out)|((with_reducible refine gca (f:=35) rfl ?_);refine gL (some 5) Tryz.func35 #[.int .i64 a0_0,.int .i64 1,.int .i64 99999] ?_;(with_reducible refine (spec_l1In.calls a0_0 1 99999 true _ A2.out).mono ?_);rintro e w' ⟨rfl,⟨nd,rfl⟩⟩;refine ⟨_,rfl,?_⟩)|(go_at_call 108;(with_reducible refine (spec_NameOk.calls k a0_2 true _ A16.out).mono ?_);rintro e w' ⟨rfl,⟨nd,rfl⟩⟩))
           go_ret
           exact ⟨eW,by repeat (first|(with_reducible first|exact HB.out|apply bal|apply pbN|apply bd1|refine bst ?_ GE218.out)|exact HB.out)⟩
         · rw [if_neg c18] at H
           have c18b0:(a0_3.toList == ([]:List UInt8)) = false:=beq_eq_false_iff_ne.mpr c18;have c18b1:(a0_3.toList != ([]:List UInt8)) = true:=bne_iff_ne.mpr c18;replace H:=Option.bind_eq_some_iff.mp H;obtain ⟨t223,A210,H⟩:=H;(try dsimp only at H);have A21:=As0.mk A210;clear A210;obtain rfl:=Option.some.inj H
           go_enter Tryz.func77,Tryz.ntmps77
           go_wp2_with (first|((with_reducible refine gate_dst (N:=1) rfl ?_);refine bE 1 #[.int .i64 a0_0,.string a0_1,.string a0_2,.string a0_3] 36 ?_;intro gb218 hg w22 hbox hb;have BK218:=As0.mk (hbox);have GW218:=As0.mk ((by rw [hg];exact (bsz (by repeat (first|(with_reducible first|exact HB.out|apply bal|apply pbN|apply bd1)|exact HB.out))):w.heap.size ≤ gb218));have GE218:=GW218;replace HB:=As0.mk (b3 HB.out hb);clear hb hbox hg;obtain ⟨hcz23_0,hcz23_1,hcz23_2,hcz23_3⟩:=qc4 BK218.out;obtain ⟨hfz23_0,hfz23_1,hfz23_2,hfz23_3⟩:=qz4 BK218.out)|((with_reducible refine gca (f:=35) rfl ?_);refine gL (some 5) Tryz.func35 #[.int .i64 a0_0,.int .i64 1,.int .i64 99999] ?_;(with_reducible refine (spec_l1In.calls a0_0 1 99999 true _ A2.out).mono ?_);rintro e w' ⟨rfl,⟨nd,rfl⟩⟩;refine ⟨_,rfl,?_⟩)|(go_at_call 108;(with_reducible refine (spec_NameOk.calls k a0_2 true _ A16.out).mono ?_);rintro e w' ⟨rfl,⟨nd,rfl⟩⟩)|(go_at_call 108;(with_reducible refine (spec_NameOk.calls k a0_3 t223 _ A21.out).mono ?_);rintro e w' ⟨rfl,⟨nd,rfl⟩⟩))
           go_ret
           exact ⟨eW,by repeat (first|(with_reducible first|exact HB.out|apply bal|apply pbN|apply bd1|refine bst ?_ GE218.out)|exact HB.out)⟩
       · replace c17:=Bool.eq_false_iff.mpr c17
         subst c17;have H1:(some false) = some r:=by rw [if_neg (show ¬ (false = true) by decide)] at H;exact H
         clear H;have H:=H1;clear H1;obtain rfl:=Option.some.inj H
         go_enter Tryz.func77,Tryz.ntmps77
         go_wp2_with (first|((with_reducible refine gate_dst (N:=1) rfl ?_);refine bE 1 #[.int .i64 a0_0,.string a0_1,.string a0_2,.string a0_3] 36 ?_;intro gb218 hg w24 hbox hb;have BK218:=As0.mk (hbox);have GW218:=As0.mk ((by rw [hg];exact (bsz (by repeat (first|(with_reducible first|exact HB.out|apply bal|apply pbN|apply bd1)|exact HB.out))):w.heap.size ≤ gb218));have GE218:=GW218;replace HB:=As0.mk (b3 HB.out hb);clear hb hbox hg;obtain ⟨hcz25_0,hcz25_1,hcz25_2,hcz25_3⟩:=qc4 BK218.out;obtain ⟨hfz25_0,hfz25_1,hfz25_2,hfz25_3⟩:=qz4 BK218.out)|((with_reducible refine gca (f:=35) rfl ?_);refine gL (some 5) Tryz.func35 #[.int .i64 a0_0,.int .i64 1,.int .i64 99999] ?_;(with_reducible refine (spec_l1In.calls a0_0 1 99999 true _ A2.out).mono ?_);rintro e w' ⟨rfl,⟨nd,rfl⟩⟩;refine ⟨_,rfl,?_⟩)|(go_at_call 108;(with_reducible refine (spec_NameOk.calls k a0_2 false _ A16.out).mono ?_);rintro e w' ⟨rfl,⟨nd,rfl⟩⟩))
         go_ret
         exact ⟨eW,by repeat (first|(with_reducible first|exact HB.out|apply bal|apply pbN|apply bd1|refine bst ?_ GE218.out)|exact HB.out)⟩
     · rw [if_neg c15] at H
       have c15b0:(a0_1.toList == ([61]:List UInt8)) = false:=beq_eq_false_iff_ne.mpr c15;have c15b1:(a0_1.toList != ([61]:List UInt8)) = true:=bne_iff_ne.mpr c15;by_cases c26:a0_1.toList = ([45]:List UInt8)
       · rw [if_pos c26] at H
         have c26b0:(a0_1.toList == ([45]:List UInt8)) = true:=beq_iff_eq.mpr c26;have c26b1:(a0_1.toList != ([45]:List UInt8)) = false:=bne_eq_false_iff_eq.mpr c26;clear c26;replace H:=Option.bind_eq_some_iff.mp H;obtain ⟨t224,A270,H⟩:=H;(try dsimp only at H);have A27:=As0.mk A270;clear A270;by_cases c28:t224 = true
         · subst c28
           have H1:(if a0_3.toList = ([]:List UInt8) then (some true) else ((spec_NameOk.f k a0_3).bind fun t225=>(some t225))) = some r:=by rw [if_pos rfl] at H;exact H
           clear H;have H:=H1;clear H1;by_cases c29:a0_3.toList = ([]:List UInt8)
           · rw [if_pos c29] at H
             have c29b0:(a0_3.toList == ([]:List UInt8)) = true:=beq_iff_eq.mpr c29;have c29b1:(a0_3.toList != ([]:List UInt8)) = false:=bne_eq_false_iff_eq.mpr c29;clear c29;obtain rfl:=Option.some.inj H
             go_enter Tryz.func77,Tryz.ntmps77
             go_wp2_with (first|((with_reducible refine gate_dst (N:=1) rfl ?_);refine bE 1 #[.int .i64 a0_0,.string a0_1,.string a0_2,.string a0_3] 36 ?_;intro gb218 hg w30 hbox hb;have BK218:=As0.mk (hbox);have GW218:=As0.mk ((by rw [hg];exact (bsz (by repeat (first|(with_reducible first|exact HB.out|apply bal|apply pbN|apply bd1)|exact HB.out))):w.heap.size ≤ gb218));have GE218:=GW218;replace HB:=As0.mk (b3 HB.out hb);clear hb hbox hg;obtain ⟨hcz31_0,hcz31_1,hcz31_2,hcz31_3⟩:=qc4 BK218.out;obtain ⟨hfz31_0,hfz31_1,hfz31_2,hfz31_3⟩:=qz4 BK218.out)|((with_reducible refine gca (f:=35) rfl ?_);refine gL (some 5) Tryz.func35 #[.int .i64 a0_0,.int .i64 1,.int .i64 99999] ?_;(with_reducible refine (spec_l1In.calls a0_0 1 99999 true _ A2.out).mono ?_);rintro e w' ⟨rfl,⟨nd,rfl⟩⟩;refine ⟨_,rfl,?_⟩)|(go_at_call 108;(with_reducible refine (spec_NameOk.calls k a0_2 true _ A27.out).mono ?_);rintro e w' ⟨rfl,⟨nd,rfl⟩⟩))
             go_ret
             exact ⟨eW,by repeat (first|(with_reducible first|exact HB.out|apply bal|apply pbN|apply bd1|refine bst ?_ GE218.out)|exact HB.out)⟩
           · rw [if_neg c29] at H
             have c29b0:(a0_3.toList == ([]:List UInt8)) = false:=beq_eq_false_iff_ne.mpr c29;have c29b1:(a0_3.toList != ([]:List UInt8)) = true:=bne_iff_ne.mpr c29;replace H:=Option.bind_eq_some_iff.mp H;obtain ⟨t225,A320,H⟩:=H;(try dsimp only at H);have A32:=As0.mk A320;clear A320;obtain rfl:=Option.some.inj H
             go_enter Tryz.func77,Tryz.ntmps77
             go_wp2_with (first|((with_reducible refine gate_dst (N:=1) rfl ?_);refine bE 1 #[.int .i64 a0_0,.string a0_1,.string a0_2,.string a0_3] 36 ?_;intro gb218 hg w33 hbox hb;have BK218:=As0.mk (hbox);have GW218:=As0.mk ((by rw [hg];exact (bsz (by repeat (first|(with_reducible first|exact HB.out|apply bal|apply pbN|apply bd1)|exact HB.out))):w.heap.size ≤ gb218));have GE218:=GW218;replace HB:=As0.mk (b3 HB.out hb);clear hb hbox hg;obtain ⟨hcz34_0,hcz34_1,hcz34_2,hcz34_3⟩:=qc4 BK218.out;obtain ⟨hfz34_0,hfz34_1,hfz34_2,hfz34_3⟩:=qz4 BK218.out)|((with_reducible refine gca (f:=35) rfl ?_);refine gL (some 5) Tryz.func35 #[.int .i64 a0_0,.int .i64 1,.int .i64 99999] ?_;(with_reducible refine (spec_l1In.calls a0_0 1 99999 true _ A2.out).mono ?_);rintro e w' ⟨rfl,⟨nd,rfl⟩⟩;refine ⟨_,rfl,?_⟩)|(go_at_call 108;(with_reducible refine (spec_NameOk.calls k a0_2 true _ A27.out).mono ?_);rintro e w' ⟨rfl,⟨nd,rfl⟩⟩)|(go_at_call 108;(with_reducible refine (spec_NameOk.calls k a0_3 t225 _ A32.out).mono ?_);rintro e w' ⟨rfl,⟨nd,rfl⟩⟩))
             go_ret
             exact ⟨eW,by repeat (first|(with_reducible first|exact HB.out|apply bal|apply pbN|apply bd1|refine bst ?_ GE218.out)|exact HB.out)⟩
         · replace c28:=Bool.eq_false_iff.mpr c28
           subst c28;have H1:(some false) = some r:=by rw [if_neg (show ¬ (false = true) by decide)] at H;exact H
           clear H;have H:=H1;clear H1;obtain rfl:=Option.some.inj H
           go_enter Tryz.func77,Tryz.ntmps77
           go_wp2_with (first|((with_reducible refine gate_dst (N:=1) rfl ?_);refine bE 1 #[.int .i64 a0_0,.string a0_1,.string a0_2,.string a0_3] 36 ?_;intro gb218 hg w35 hbox hb;have BK218:=As0.mk (hbox);have GW218:=As0.mk ((by rw [hg];exact (bsz (by repeat (first|(with_reducible first|exact HB.out|apply bal|apply pbN|apply bd1)|exact HB.out))):w.heap.size ≤ gb218));have GE218:=GW218;replace HB:=As0.mk (b3 HB.out hb);clear hb hbox hg;obtain ⟨hcz36_0,hcz36_1,hcz36_2,hcz36_3⟩:=qc4 BK218.out;obtain ⟨hfz36_0,hfz36_1,hfz36_2,hfz36_3⟩:=qz4 BK218.out)|((with_reducible refine gca (f:=35) rfl ?_);refine gL (some 5) Tryz.func35 #[.int .i64 a0_0,.int .i64 1,.int .i64 99999] ?_;(with_reducible refine (spec_l1In.calls a0_0 1 99999 true _ A2.out).mono ?_);rintro e w' ⟨rfl,⟨nd,rfl⟩⟩;refine ⟨_,rfl,?_⟩)|(go_at_call 108;(with_reducible refine (spec_NameOk.calls k a0_2 false _ A27.out).mono ?_);rintro e w' ⟨rfl,⟨nd,rfl⟩⟩))
           go_ret
           exact ⟨eW,by repeat (first|(with_reducible first|exact HB.out|apply bal|apply pbN|apply bd1|refine bst ?_ GE218.out)|exact HB.out)⟩
       · rw [if_neg c26] at H
         have c26b0:(a0_1.toList == ([45]:List UInt8)) = false:=beq_eq_false_iff_ne.mpr c26;have c26b1:(a0_1.toList != ([45]:List UInt8)) = true:=bne_iff_ne.mpr c26;obtain rfl:=Option.some.inj H
         go_enter Tryz.func77,Tryz.ntmps77
         go_wp2_with (first|((with_reducible refine gate_dst (N:=1) rfl ?_);refine bE 1 #[.int .i64 a0_0,.string a0_1,.string a0_2,.string a0_3] 36 ?_;intro gb218 hg w37 hbox hb;have BK218:=As0.mk (hbox);have GW218:=As0.mk ((by rw [hg];exact (bsz (by repeat (first|(with_reducible first|exact HB.out|apply bal|apply pbN|apply bd1)|exact HB.out))):w.heap.size ≤ gb218));have GE218:=GW218;replace HB:=As0.mk (b3 HB.out hb);clear hb hbox hg;obtain ⟨hcz38_0,hcz38_1,hcz38_2,hcz38_3⟩:=qc4 BK218.out;obtain ⟨hfz38_0,hfz38_1,hfz38_2,hfz38_3⟩:=qz4 BK218.out)|((with_reducible refine gca (f:=35) rfl ?_);refine gL (some 5) Tryz.func35 #[.int .i64 a0_0,.int .i64 1,.int .i64 99999] ?_;(with_reducible refine (spec_l1In.calls a0_0 1 99999 true _ A2.out).mono ?_);rintro e w' ⟨rfl,⟨nd,rfl⟩⟩;refine ⟨_,rfl,?_⟩))
         go_ret
         exact ⟨eW,by repeat (first|(with_reducible first|exact HB.out|apply bal|apply pbN|apply bd1|refine bst ?_ GE218.out)|exact HB.out)⟩
 · replace c3:=Bool.eq_false_iff.mpr c3
   subst c3;have H1:(some false) = some r:=by rw [if_neg (show ¬ (false = true) by decide)] at H;exact H
   clear H;have H:=H1;clear H1;obtain rfl:=Option.some.inj H
   go_enter Tryz.func77,Tryz.ntmps77
   go_wp2_with (first|((with_reducible refine gate_dst (N:=1) rfl ?_);refine bE 1 #[.int .i64 a0_0,.string a0_1,.string a0_2,.string a0_3] 36 ?_;intro gb218 hg w39 hbox hb;have BK218:=As0.mk (hbox);have GW218:=As0.mk ((by rw [hg];exact (bsz (by repeat (first|(with_reducible first|exact HB.out|apply bal|apply pbN|apply bd1)|exact HB.out))):w.heap.size ≤ gb218));have GE218:=GW218;replace HB:=As0.mk (b3 HB.out hb);clear hb hbox hg;obtain ⟨hcz40_0,hcz40_1,hcz40_2,hcz40_3⟩:=qc4 BK218.out;obtain ⟨hfz40_0,hfz40_1,hfz40_2,hfz40_3⟩:=qz4 BK218.out)|((with_reducible refine gca (f:=35) rfl ?_);refine gL (some 5) Tryz.func35 #[.int .i64 a0_0,.int .i64 1,.int .i64 99999] ?_;(with_reducible refine (spec_l1In.calls a0_0 1 99999 false _ A2.out).mono ?_);rintro e w' ⟨rfl,⟨nd,rfl⟩⟩;refine ⟨_,rfl,?_⟩))
   go_ret
   exact ⟨eW,by repeat (first|(with_reducible first|exact HB.out|apply bal|apply pbN|apply bd1|refine bst ?_ GE218.out)|exact HB.out)⟩
def spec_l10Pasts.l0:Nat → Int → Int → Int → Int → List (SiS28) → List (SiU30) → List (SiT29) → List (SiP27) → Option (Bool)
 |0,_,_,_,_,_,_,_,_=>none
 |k + 1,x3,x227000,x227001,x227002,x227003,x227004,x227005,x227006=>if x3 < (x227006.length:Int) then (if 0 ≤ x3 then ((spec_l10Past.f k ((riP36 x227006 x3).f0) ((riP36 x227006 x3).f1) ((riP36 x227006 x3).f2) ((riP36 x227006 x3).f3)).bind fun t228=>(if t228 = true then (if ((riP36 x227006 x3).f0) = (wrap64 ((wrap64 (x227002 + x3)) + 1)) then (spec_l10Pasts.l0 k (wrap64 (x3 + 1)) x227000 x227001 x227002 x227003 x227004 x227005 x227006) else (some false)) else (some false))) else (none)) else (if (wrap64 (x227002 + (x227006.length:Int))) = x227000 then (some (decide ((x227006.length:Int) ≤ 8))) else (some false))
def spec_l10Pasts.f (k:Nat) (a0_0:Int) (a0_1:Int) (a0_2:Int) (l0_3:List (SiS28)) (l0_4:List (SiU30)) (l0_5:List (SiT29)) (l0_6:List (SiP27)):Option (Bool):=spec_l10Pasts.l0 k 0 a0_0 a0_1 a0_2 l0_3 l0_4 l0_5 l0_6
def spec_l10Pasts.T4:Bool × List (List Nat × List Nat):=(true,[([],[]),([0],[0]),([],[]),([1,2],[1,2]),([3],[3]),([4],[4]),([5],[5]),([6,5],[6]),([7],[7]),([8,7],[7,8]),([7],[7]),([9,10,7],[7,9,10]),([11,7],[7,11]),([12,7],[7,12]),([7],[7]),([14,7],[7,14]),([7],[7]),([15,16,7],[7,15,16]),([17,7],[7,17]),([13,18,7],[7,13,18]),([7,19],[7,19])])
def spec_l10Pasts.B4:List Nat:=[0,1,0,7,15,31,63,127,255,511,255,2047,4095,8191,255,16639,255,114943,246015,524287,1048575]
theorem spec_l10Pasts.tab4:rtab .any (opsOf Tryz.f39 4) = spec_l10Pasts.T4:=by kernel_rfl
theorem spec_l10Pasts.bits4:waitsOk spec_l10Pasts.T4.2 spec_l10Pasts.B4 = true:=by kernel_rfl
abbrev spec_l10Pasts.calls.a0:Array Bool:=#[false,false,false,false,false,false,false,false,false,false,false,false,false,false,false,false,false,false,false,false,false]
abbrev spec_l10Pasts.calls.a1:Array Bool:=#[true,false,false,false,false,false,false,false,false,false,false,false,false,false,false,false,false,false,false,false,false]
abbrev spec_l10Pasts.calls.a2:Array Bool:=#[true,false,true,false,false,false,false,false,false,false,false,false,false,false,false,false,false,false,false,false,false]
abbrev spec_l10Pasts.calls.a3:Array Bool:=#[true,true,true,false,false,false,false,false,false,false,false,false,false,false,false,false,false,false,false,false,false]
abbrev spec_l10Pasts.calls.a4:Array Bool:=#[true,true,true,true,false,false,false,false,false,false,false,false,false,false,false,false,false,false,false,false,false]
abbrev spec_l10Pasts.calls.a5:Array Bool:=#[true,true,true,true,true,false,false,false,false,false,false,false,false,false,false,false,false,false,false,false,false]
abbrev spec_l10Pasts.calls.a6:Array Bool:=#[true,true,true,true,true,true,false,false,false,false,false,false,false,false,false,false,false,false,false,false,false]
abbrev spec_l10Pasts.calls.a7:Array Bool:=#[true,true,true,true,true,true,true,false,false,false,false,false,false,false,false,false,false,false,false,false,false]
abbrev spec_l10Pasts.calls.a8:Array Bool:=#[true,true,true,true,true,true,true,true,false,false,false,false,false,false,false,false,false,false,false,false,false]
abbrev spec_l10Pasts.calls.a9:Array Bool:=#[true,true,true,true,true,true,true,true,true,false,false,false,false,false,false,false,false,false,false,false,false]
abbrev spec_l10Pasts.calls.a10:Array Bool:=#[true,true,true,true,true,true,true,true,true,true,true,true,true,true,true,true,true,false,false,false,false]
abbrev spec_l10Pasts.calls.a11:Array Bool:=#[true,true,true,true,true,true,true,true,true,true,true,true,true,true,true,true,true,true,false,false,false]
abbrev spec_l10Pasts.calls.a12:Array Bool:=#[true,true,true,true,true,true,true,true,true,true,true,true,true,true,true,true,true,true,true,false,false]
abbrev spec_l10Pasts.calls.a13:Array Bool:=#[true,true,true,true,true,true,true,true,true,true,true,true,true,true,true,true,true,true,true,true,false]
abbrev spec_l10Pasts.calls.a14:Array Bool:=#[true,true,true,true,true,true,true,true,true,true,true,true,true,true,true,true,true,true,true,true,true]
abbrev spec_l10Pasts.calls.a15:Array Bool:=#[true,true,true,true,true,true,true,true,true,false,true,false,false,false,false,false,false,false,false,false,false]
abbrev spec_l10Pasts.calls.a16:Array Bool:=#[true,true,true,true,true,true,true,true,true,false,true,false,false,false,true,false,false,false,false,false,false]
abbrev spec_l10Pasts.calls.a17:Array Bool:=#[true,true,true,true,true,true,true,true,true,false,true,false,false,false,true,false,true,false,false,false,false]
abbrev spec_l10Pasts.calls.a18:Array Bool:=#[true,true,true,true,true,true,true,true,true,true,true,false,false,false,true,false,true,false,false,false,false]
abbrev spec_l10Pasts.calls.a19:Array Bool:=#[true,true,true,true,true,true,true,true,true,true,true,true,false,false,true,false,true,false,false,false,false]
abbrev spec_l10Pasts.calls.a20:Array Bool:=#[true,true,true,true,true,true,true,true,true,true,true,true,true,false,true,false,true,false,false,false,false]
abbrev spec_l10Pasts.calls.a21:Array Bool:=#[true,true,true,true,true,true,true,true,true,true,true,true,true,true,true,false,true,false,false,false,false]
set_option maxHeartbeats 40000000 in
set_option maxRecDepth 100000 in
theorem spec_l10Pasts.calls (k:Nat) (a0_0:Int) (a0_1:Int) (a0_2:Int) (A0_3:Option Addr) (c0_3:Nat) (l0_3:List (SiS28)) (A0_4:Option Addr) (c0_4:Nat) (l0_4:List (SiU30)) (A0_5:Option Addr) (c0_5:Nat) (l0_5:List (SiT29)) (A0_6:Option Addr) (c0_6:Nat) (l0_6:List (SiP27)) (r:Bool) (w:World) (hr0_3:Kd.C k70 w A0_3 l0_3.length l0_3) (hc0_3:l0_3.length ≤ c0_3) (hr0_4:Kd.C k72 w A0_4 l0_4.length l0_4) (hc0_4:l0_4.length ≤ c0_4) (hr0_5:Kd.C k44 w A0_5 l0_5.length l0_5) (hc0_5:l0_5.length ≤ c0_5) (hr0_6:Kd.C k36 w A0_6 l0_6.length l0_6) (hc0_6:l0_6.length ≤ c0_6) (h:spec_l10Pasts.f k a0_0 a0_1 a0_2 l0_3 l0_4 l0_5 l0_6 = some r) :
 Calls Tryz.prog 39 #[.agg #[.int .i64 a0_0,.int .i64 a0_1,.int .i64 a0_2,.slice A0_3 l0_3.length c0_3,.slice A0_4 l0_4.length c0_4,.slice A0_5 l0_5.length c0_5,.slice A0_6 l0_6.length c0_6]] w fun e w'=>e = .returned (.bool r) ∧ Below w.heap.size w w':=by
 have hu28:=Tryz.underlying28;have hu36:=Tryz.underlying36;have HR0_3:=As0.mk hr0_3;have HC0_3:=As0.mk hc0_3;clear hr0_3 hc0_3;have HR0_4:=As0.mk hr0_4;have HC0_4:=As0.mk hc0_4;clear hr0_4 hc0_4;have HR0_5:=As0.mk hr0_5;have HC0_5:=As0.mk hc0_5;clear hr0_5 hc0_5;have HR0_6:=As0.mk hr0_6;have HC0_6:=As0.mk hc0_6;clear hr0_6 hc0_6;have HB:=As0.mk (Below.refl w.heap.size w);have H:(spec_l10Pasts.l0 k 0 a0_0 a0_1 a0_2 l0_3 l0_4 l0_5 l0_6) = some r:=h;clear h;have H':=As0.mk H;clear H
 go_enter Tryz.func39,Tryz.ntmps39
 go_wp2_with (first|((with_reducible refine gate_dst (N:=1) rfl ?_);(try (refine gate_guard (by rfl) ?_;dsimp only));refine bE 1 #[.int .i64 a0_0,.int .i64 a0_1,.int .i64 a0_2,.slice A0_3 l0_3.length c0_3,.slice A0_4 l0_4.length c0_4,.slice A0_5 l0_5.length c0_5,.slice A0_6 l0_6.length c0_6] 28 ?_;intro gb226 hg w2 hbox hb;have BK226:=As0.mk (hbox);have GW226:=As0.mk ((by rw [hg];exact (bsz (by repeat (first|(with_reducible first|exact HB.out|apply bal|apply pbN|apply bd1)|exact HB.out))):w.heap.size ≤ gb226));have GE226:=GW226;replace HB:=As0.mk (b3 HB.out hb);clear hb hbox hg))
 show _;go_loopg [3] k (fun kq v3 w'=>∃ (x3_1:Int),v3 = .int .i64 x3_1 ∧ As0 (spec_l10Pasts.l0 kq x3_1 a0_0 a0_1 a0_2 l0_3 l0_4 l0_5 l0_6 = some r) ∧ As0 (kq ≤ k) ∧ As0 (w'.heap[gb226]? = some (.cells #[.int .i64 a0_0,.int .i64 a0_1,.int .i64 a0_2,(.slice A0_3 l0_3.length c0_3),(.slice A0_4 l0_4.length c0_4),(.slice A0_5 l0_5.length c0_5),(.slice A0_6 l0_6.length c0_6)] 28 (0,0))) ∧ As0 (Below w.heap.size w w'))
 case atStart=>exact ⟨(0),(by first|rfl|(simp;done)|(simp [*];done)),H',⟨Nat.le_refl _⟩,⟨by (with_reducible repeat (first|refine bkN ?_ _|refine bkD ?_|refine bkA ?_ _));exact BK226.out⟩,⟨by repeat (first|(with_reducible first|exact HB.out|apply bal|apply pbN|apply bd1|refine bst ?_ GE226.out)|exact HB.out)⟩⟩
 case round=>
  clear H'
  try clear p2
  obtain ⟨x3_1,rfl,HA,HK1,BK226,HB⟩:=hrel
  cases gk with
  |zero=>exact absurd HA.out (by simp [spec_l10Pasts.l0])
  |succ k1=>
   have H:=HA.out;clear HA;simp only [spec_l10Pasts.l0] at H;by_cases c3:x3_1 < (l0_6.length:Int)
   · rw [if_pos c3] at H
     have c3b0:decide (x3_1 < (l0_6.length:Int)) = true:=decide_eq_true c3;clear c3;by_cases c4:0 ≤ x3_1
     · rw [if_pos c4] at H
       have c4b0:decide (0 ≤ x3_1) = true:=decide_eq_true c4;clear c4;replace H:=Option.bind_eq_some_iff.mp H;obtain ⟨t228,A50,H⟩:=H;(try dsimp only at H);have A5:=As0.mk A50;clear A50;by_cases c6:t228 = true
       · subst c6
         have H1:(if ((riP36 l0_6 x3_1).f0) = (wrap64 ((wrap64 (a0_2 + x3_1)) + 1)) then (spec_l10Pasts.l0 k1 (wrap64 (x3_1 + 1)) a0_0 a0_1 a0_2 l0_3 l0_4 l0_5 l0_6) else (some false)) = some r:=by rw [if_pos rfl] at H;exact H
         clear H;have H:=H1;clear H1;by_cases c7:((riP36 l0_6 x3_1).f0) = (wrap64 ((wrap64 (a0_2 + x3_1)) + 1))
         · rw [if_pos c7] at H
           have c7b0:(((riP36 l0_6 x3_1).f0) == (wrap64 ((wrap64 (a0_2 + x3_1)) + 1))) = true:=beq_iff_eq.mpr c7;have c7b1:(((riP36 l0_6 x3_1).f0) != (wrap64 ((wrap64 (a0_2 + x3_1)) + 1))) = false:=bne_eq_false_iff_eq.mpr c7;clear c7;have H':=As0.mk H;clear H;obtain ⟨hcz8_0,hcz8_1,hcz8_2,hcz8_3,hcz8_4,hcz8_5,hcz8_6⟩:=qc7 BK226.out;obtain ⟨hfz8_0,hfz8_1,hfz8_2,hfz8_3,hfz8_4,hfz8_5,hfz8_6⟩:=qz7 BK226.out
           try go_wp2
           replace BK226:=As0.mk (bkD BK226.out);replace HB:=As0.mk (bd1 HB.out);have p227:0 ≤ (x3_1:Int):=odt;have q227:x3_1 < (l0_6.length:Int):=odt;obtain ⟨ad227,e227,hx227_0,hx227_1,hx227_2,hx227_3⟩:=at_T36 HR0_6.out x3_1 p227 q227;have hw227_3:=hx227_3;have hw227_2:=hx227_2;have hw227_1:=hx227_1;have hw227_0:=hx227_0
           cases e227
           replace hx227_0:=bx HB.out rfl hx227_0;replace hx227_1:=bx HB.out rfl hx227_1;replace hx227_2:=bx HB.out rfl hx227_2;replace hx227_3:=bx HB.out rfl hx227_3;replace p227:=eq_true p227;replace q227:=eq_true q227;have p229:0 ≤ (x3_1:Int):=odt;have q229:x3_1 < (l0_6.length:Int):=odt;obtain ⟨ad229,e229,hx229_0,hx229_1,hx229_2,hx229_3⟩:=at_T36 HR0_6.out x3_1 p229 q229;have hw229_3:=hx229_3;have hw229_2:=hx229_2;have hw229_1:=hx229_1;have hw229_0:=hx229_0;obtain rfl:ad227 = ad229:=(by injection e229);replace hx229_0:=bx HB.out rfl hx229_0;replace hx229_1:=bx HB.out rfl hx229_1;replace hx229_2:=bx HB.out rfl hx229_2;replace hx229_3:=bx HB.out rfl hx229_3;replace p229:=eq_true p229;replace q229:=eq_true q229;refine start_ (n:=21) (S:=fun w'=>w'.cell? ⟨gb226,0,none⟩ = some (.int .i64 a0_0) ∧ w'.cell? ⟨gb226,1,none⟩ = some (.int .i64 a0_1) ∧ w'.cell? ⟨gb226,2,none⟩ = some (.int .i64 a0_2) ∧ w'.cell? ⟨gb226,3,none⟩ = some (.slice A0_3 l0_3.length c0_3) ∧ w'.cell? ⟨gb226,4,none⟩ = some (.slice A0_4 l0_4.length c0_4) ∧ w'.cell? ⟨gb226,5,none⟩ = some (.slice A0_5 l0_5.length c0_5) ∧ w'.cell? ⟨gb226,6,none⟩ = some (.slice (some ad227) l0_6.length c0_6) ∧ w'.cell? (ad227.add ((x3_1).toNat * 4)) = some (.int .i64 ((riP36 l0_6 x3_1).f0)) ∧ w'.cell? ⟨(ad227.add ((x3_1).toNat * 4)).block,(ad227.add ((x3_1).toNat * 4)).off + 1,none⟩ = some (.string ((riP36 l0_6 x3_1).f1)) ∧ w'.cell? ⟨(ad227.add ((x3_1).toNat * 4)).block,(ad227.add ((x3_1).toNat * 4)).off + 2,none⟩ = some (.string ((riP36 l0_6 x3_1).f2)) ∧ w'.cell? ⟨(ad227.add ((x3_1).toNat * 4)).block,(ad227.add ((x3_1).toNat * 4)).off + 3,none⟩ = some (.string ((riP36 l0_6 x3_1).f3)) ∧ w'.cell? (ad227.add ((x3_1).toNat * 4)) = some (.int .i64 ((riP36 l0_6 x3_1).f0)) ∧ w'.cell? ⟨(ad227.add ((x3_1).toNat * 4)).block,(ad227.add ((x3_1).toNat * 4)).off + 1,none⟩ = some (.string ((riP36 l0_6 x3_1).f1)) ∧ w'.cell? ⟨(ad227.add ((x3_1).toNat * 4)).block,(ad227.add ((x3_1).toNat * 4)).off + 2,none⟩ = some (.string ((riP36 l0_6 x3_1).f2)) ∧ w'.cell? ⟨(ad227.add ((x3_1).toNat * 4)).block,(ad227.add ((x3_1).toNat * 4)).off + 3,none⟩ = some (.string ((riP36 l0_6 x3_1).f3))) (ds:=[]) spec_l10Pasts.calls.a0 (by kernel_rfl) rfl rfl ⟨(bkC BK226.out 0).trans rfl,(bkC BK226.out 1).trans rfl,(bkC BK226.out 2).trans rfl,(bkC BK226.out 3).trans rfl,(bkC BK226.out 4).trans rfl,(bkC BK226.out 5).trans rfl,(bkC BK226.out 6).trans rfl,((HB.out.cell (World.block_lt_of_cell? w _ hw227_0)).trans hw227_0),((HB.out.cell (World.block_lt_of_cell? w _ hw227_1)).trans hw227_1),((HB.out.cell (World.block_lt_of_cell? w _ hw227_2)).trans hw227_2),((HB.out.cell (World.block_lt_of_cell? w _ hw227_3)).trans hw227_3),((HB.out.cell (World.block_lt_of_cell? w _ hw229_0)).trans hw229_0),((HB.out.cell (World.block_lt_of_cell? w _ hw229_1)).trans hw229_1),((HB.out.cell (World.block_lt_of_cell? w _ hw229_2)).trans hw229_2),((HB.out.cell (World.block_lt_of_cell? w _ hw229_3)).trans hw229_3)⟩ (fun hHeld=>?_);refine with_tabW spec_l10Pasts.tab4 spec_l10Pasts.bits4 (fun HT_ HW_=>?_);generalize wr.drew = w9 at BK226 HB hx227_0 hx227_1 hx227_2 hx227_3 hx229_0 hx229_1 hx229_2 hx229_3 hHeld ⊢
           refine pu 0 (some 11) spec_l10Pasts.calls.a1 rfl rfl HT_.out ?_;refine pu 2 (some 13) spec_l10Pasts.calls.a2 rfl rfl HT_.out ?_;refine tk 1 (some 12) spec_l10Pasts.calls.a3 rfl rfl HT_.out HW_.out hHeld (by rintro w' ⟨s0,s1,s2,s3,s4,s5,s6,s7,s8,s9,s10,s11,s12,s13,s14⟩;go_simp;with_reducible rfl) ?_;refine pu 3 (some 14) spec_l10Pasts.calls.a4 rfl rfl HT_.out ?_;refine tk 4 (some 15) spec_l10Pasts.calls.a5 rfl rfl HT_.out HW_.out hHeld (by rintro w' ⟨s0,s1,s2,s3,s4,s5,s6,s7,s8,s9,s10,s11,s12,s13,s14⟩;go_simp;with_reducible rfl) ?_;refine one_ (i:=5) (N:=some 16) spec_l10Pasts.calls.a6 rfl rfl (one_of HT_.out (by kernel_rfl)) (by decide) (fun K hK=>?_);refine goes_ Tryz.func77 (by kernel_rfl) rfl #[.agg #[.int .i64 ((riP36 l0_6 x3_1).f0),.string ((riP36 l0_6 x3_1).f1),.string ((riP36 l0_6 x3_1).f2),.string ((riP36 l0_6 x3_1).f3)]] (by rfl) rfl rfl (by (try simp only [List.map_toArray,List.map_cons,List.map_nil]);first|done|rfl|(simp only [List.length_drop,List.length_take];rfl)) ?_;with_reducible refine (spec_l10Past.calls k1 ((riP36 l0_6 x3_1).f0) ((riP36 l0_6 x3_1).f1) ((riP36 l0_6 x3_1).f2) ((riP36 l0_6 x3_1).f3) true _ A5.out).mono ?_
           rintro e w10 ⟨rfl,hb⟩;refine ⟨_,rfl,?_⟩;replace BK226:=As0.mk (bb hb BK226.out);replace HB:=As0.mk (bsp (by repeat (first|(with_reducible first|exact HB.out|apply bal|apply pbN|apply bd1|refine bst ?_ GE226.out)|exact HB.out)) hb)
              
              
              
              
           refine hK.out _ _ ⟨(bkC BK226.out 0).trans rfl,(bkC BK226.out 1).trans rfl,(bkC BK226.out 2).trans rfl,(bkC BK226.out 3).trans rfl,(bkC BK226.out 4).trans rfl,(bkC BK226.out 5).trans rfl,(bkC BK226.out 6).trans rfl,((HB.out.cell (World.block_lt_of_cell? w _ hw227_0)).trans hw227_0),((HB.out.cell (World.block_lt_of_cell? w _ hw227_1)).trans hw227_1),((HB.out.cell (World.block_lt_of_cell? w _ hw227_2)).trans hw227_2),((HB.out.cell (World.block_lt_of_cell? w _ hw227_3)).trans hw227_3),((HB.out.cell (World.block_lt_of_cell? w _ hw229_0)).trans hw229_0),((HB.out.cell (World.block_lt_of_cell? w _ hw229_1)).trans hw229_1),((HB.out.cell (World.block_lt_of_cell? w _ hw229_2)).trans hw229_2),((HB.out.cell (World.block_lt_of_cell? w _ hw229_3)).trans hw229_3)⟩ (fun hHeld=>?_);clear hK K;refine norm_ (a':=?_) ?_ ?_;rotate_left
           · show Act.put _ (some 16) _ = _
             simp only [Act.put,sA,sZ,sS,i64_w,i32_w];rfl
           refine pu 6 (some 17) spec_l10Pasts.calls.a7 rfl rfl HT_.out ?_;refine pu 7 (some 18) spec_l10Pasts.calls.a8 rfl rfl HT_.out ?_;refine pu 8 (some 19) spec_l10Pasts.calls.a9 rfl rfl HT_.out ?_;refine pu 10 (some 21) spec_l10Pasts.calls.a15 rfl rfl HT_.out ?_;refine pu 14 (some 25) spec_l10Pasts.calls.a16 rfl rfl HT_.out ?_;refine pu 16 (some 27) spec_l10Pasts.calls.a17 rfl rfl HT_.out ?_;refine tk 9 (some 20) spec_l10Pasts.calls.a18 rfl rfl HT_.out HW_.out hHeld (by rintro w' ⟨s0,s1,s2,s3,s4,s5,s6,s7,s8,s9,s10,s11,s12,s13,s14⟩;go_simp;with_reducible rfl) ?_;refine pu 11 (some 22) spec_l10Pasts.calls.a19 rfl rfl HT_.out ?_;refine pu 12 (some 23) spec_l10Pasts.calls.a20 rfl rfl HT_.out ?_;refine tk 13 (some 24) spec_l10Pasts.calls.a21 rfl rfl HT_.out HW_.out hHeld (by rintro w' ⟨s0,s1,s2,s3,s4,s5,s6,s7,s8,s9,s10,s11,s12,s13,s14⟩;go_simp;with_reducible rfl) ?_;refine tk 15 (some 26) spec_l10Pasts.calls.a10 rfl rfl HT_.out HW_.out hHeld (by rintro w' ⟨s0,s1,s2,s3,s4,s5,s6,s7,s8,s9,s10,s11,s12,s13,s14⟩;go_simp;with_reducible rfl) ?_;refine pu 17 (some 28) spec_l10Pasts.calls.a11 rfl rfl HT_.out ?_;refine pu 18 (some 29) spec_l10Pasts.calls.a12 rfl rfl HT_.out ?_;refine pu 19 (some 30) spec_l10Pasts.calls.a13 rfl rfl HT_.out ?_;refine pu 20 (some 31) spec_l10Pasts.calls.a14 rfl rfl HT_.out ?_;refine done_ (done_of HT_.out (by kernel_rfl)) ?_
           try go_wp2
           show _;go_roundg k1
           case measure=>have:=HK1.out;omega
           case rel=>exact ⟨(wrap64 (x3_1 + 1)),(by first|rfl|(simp;done)|(simp [*];done)),H',⟨by have:=HK1.out;omega⟩,⟨by (with_reducible repeat (first|refine bkN ?_ _|refine bkD ?_|refine bkA ?_ _));exact BK226.out⟩,⟨by repeat (first|(with_reducible first|exact HB.out|apply bal|apply pbN|apply bd1|refine bst ?_ GE226.out)|exact HB.out)⟩⟩
         · rw [if_neg c7] at H
           have c7b0:(((riP36 l0_6 x3_1).f0) == (wrap64 ((wrap64 (a0_2 + x3_1)) + 1))) = false:=beq_eq_false_iff_ne.mpr c7;have c7b1:(((riP36 l0_6 x3_1).f0) != (wrap64 ((wrap64 (a0_2 + x3_1)) + 1))) = true:=bne_iff_ne.mpr c7;obtain rfl:=Option.some.inj H;obtain ⟨hcz11_0,hcz11_1,hcz11_2,hcz11_3,hcz11_4,hcz11_5,hcz11_6⟩:=qc7 BK226.out;obtain ⟨hfz11_0,hfz11_1,hfz11_2,hfz11_3,hfz11_4,hfz11_5,hfz11_6⟩:=qz7 BK226.out
           try go_wp2
           replace BK226:=As0.mk (bkD BK226.out);replace HB:=As0.mk (bd1 HB.out);have p227:0 ≤ (x3_1:Int):=odt;have q227:x3_1 < (l0_6.length:Int):=odt;obtain ⟨ad227,e227,hx227_0,hx227_1,hx227_2,hx227_3⟩:=at_T36 HR0_6.out x3_1 p227 q227;have hw227_3:=hx227_3;have hw227_2:=hx227_2;have hw227_1:=hx227_1;have hw227_0:=hx227_0
           cases e227
           replace hx227_0:=bx HB.out rfl hx227_0;replace hx227_1:=bx HB.out rfl hx227_1;replace hx227_2:=bx HB.out rfl hx227_2;replace hx227_3:=bx HB.out rfl hx227_3;replace p227:=eq_true p227;replace q227:=eq_true q227;have p229:0 ≤ (x3_1:Int):=odt;have q229:x3_1 < (l0_6.length:Int):=odt;obtain ⟨ad229,e229,hx229_0,hx229_1,hx229_2,hx229_3⟩:=at_T36 HR0_6.out x3_1 p229 q229;have hw229_3:=hx229_3;have hw229_2:=hx229_2;have hw229_1:=hx229_1;have hw229_0:=hx229_0;obtain rfl:ad227 = ad229:=(by injection e229);replace hx229_0:=bx HB.out rfl hx229_0;replace hx229_1:=bx HB.out rfl hx229_1;replace hx229_2:=bx HB.out rfl hx229_2;replace hx229_3:=bx HB.out rfl hx229_3;replace p229:=eq_true p229;replace q229:=eq_true q229;refine start_ (n:=21) (S:=fun w'=>w'.cell? ⟨gb226,0,none⟩ = some (.int .i64 a0_0) ∧ w'.cell? ⟨gb226,1,none⟩ = some (.int .i64 a0_1) ∧ w'.cell? ⟨gb226,2,none⟩ = some (.int .i64 a0_2) ∧ w'.cell? ⟨gb226,3,none⟩ = some (.slice A0_3 l0_3.length c0_3) ∧ w'.cell? ⟨gb226,4,none⟩ = some (.slice A0_4 l0_4.length c0_4) ∧ w'.cell? ⟨gb226,5,none⟩ = some (.slice A0_5 l0_5.length c0_5) ∧ w'.cell? ⟨gb226,6,none⟩ = some (.slice (some ad227) l0_6.length c0_6) ∧ w'.cell? (ad227.add ((x3_1).toNat * 4)) = some (.int .i64 ((riP36 l0_6 x3_1).f0)) ∧ w'.cell? ⟨(ad227.add ((x3_1).toNat * 4)).block,(ad227.add ((x3_1).toNat * 4)).off + 1,none⟩ = some (.string ((riP36 l0_6 x3_1).f1)) ∧ w'.cell? ⟨(ad227.add ((x3_1).toNat * 4)).block,(ad227.add ((x3_1).toNat * 4)).off + 2,none⟩ = some (.string ((riP36 l0_6 x3_1).f2)) ∧ w'.cell? ⟨(ad227.add ((x3_1).toNat * 4)).block,(ad227.add ((x3_1).toNat * 4)).off + 3,none⟩ = some (.string ((riP36 l0_6 x3_1).f3)) ∧ w'.cell? (ad227.add ((x3_1).toNat * 4)) = some (.int .i64 ((riP36 l0_6 x3_1).f0)) ∧ w'.cell? ⟨(ad227.add ((x3_1).toNat * 4)).block,(ad227.add ((x3_1).toNat * 4)).off + 1,none⟩ = some (.string ((riP36 l0_6 x3_1).f1)) ∧ w'.cell? ⟨(ad227.add ((x3_1).toNat * 4)).block,(ad227.add ((x3_1).toNat * 4)).off + 2,none⟩ = some (.string ((riP36 l0_6 x3_1).f2)) ∧ w'.cell? ⟨(ad227.add ((x3_1).toNat * 4)).block,(ad227.add ((x3_1).toNat * 4)).off + 3,none⟩ = some (.string ((riP36 l0_6 x3_1).f3))) (ds:=[]) spec_l10Pasts.calls.a0 (by kernel_rfl) rfl rfl ⟨(bkC BK226.out 0).trans rfl,(bkC BK226.out 1).trans rfl,(bkC BK226.out 2).trans rfl,(bkC BK226.out 3).trans rfl,(bkC BK226.out 4).trans rfl,(bkC BK226.out 5).trans rfl,(bkC BK226.out 6).trans rfl,((HB.out.cell (World.block_lt_of_cell? w _ hw227_0)).trans hw227_0),((HB.out.cell (World.block_lt_of_cell? w _ hw227_1)).trans hw227_1),((HB.out.cell (World.block_lt_of_cell? w _ hw227_2)).trans hw227_2),((HB.out.cell (World.block_lt_of_cell? w _ hw227_3)).trans hw227_3),((HB.out.cell (World.block_lt_of_cell? w _ hw229_0)).trans hw229_0),((HB.out.cell (World.block_lt_of_cell? w _ hw229_1)).trans hw229_1),((HB.out.cell (World.block_lt_of_cell? w _ hw229_2)).trans hw229_2),((HB.out.cell (World.block_lt_of_cell? w _ hw229_3)).trans hw229_3)⟩ (fun hHeld=>?_);refine with_tabW spec_l10Pasts.tab4 spec_l10Pasts.bits4 (fun HT_ HW_=>?_);generalize wr.drew = w12 at BK226 HB hx227_0 hx227_1 hx227_2 hx227_3 hx229_0 hx229_1 hx229_2 hx229_3 hHeld ⊢
           refine pu 0 (some 11) spec_l10Pasts.calls.a1 rfl rfl HT_.out ?_;refine pu 2 (some 13) spec_l10Pasts.calls.a2 rfl rfl HT_.out ?_;refine tk 1 (some 12) spec_l10Pasts.calls.a3 rfl rfl HT_.out HW_.out hHeld (by rintro w' ⟨s0,s1,s2,s3,s4,s5,s6,s7,s8,s9,s10,s11,s12,s13,s14⟩;go_simp;with_reducible rfl) ?_;refine pu 3 (some 14) spec_l10Pasts.calls.a4 rfl rfl HT_.out ?_;refine tk 4 (some 15) spec_l10Pasts.calls.a5 rfl rfl HT_.out HW_.out hHeld (by rintro w' ⟨s0,s1,s2,s3,s4,s5,s6,s7,s8,s9,s10,s11,s12,s13,s14⟩;go_simp;with_reducible rfl) ?_;refine one_ (i:=5) (N:=some 16) spec_l10Pasts.calls.a6 rfl rfl (one_of HT_.out (by kernel_rfl)) (by decide) (fun K hK=>?_);refine goes_ Tryz.func77 (by kernel_rfl) rfl #[.agg #[.int .i64 ((riP36 l0_6 x3_1).f0),.string ((riP36 l0_6 x3_1).f1),.string ((riP36 l0_6 x3_1).f2),.string ((riP36 l0_6 x3_1).f3)]] (by rfl) rfl rfl (by (try simp only [List.map_toArray,List.map_cons,List.map_nil]);first|done|rfl|(simp only [List.length_drop,List.length_take];rfl)) ?_;with_reducible refine (spec_l10Past.calls k1 ((riP36 l0_6 x3_1).f0) ((riP36 l0_6 x3_1).f1) ((riP36 l0_6 x3_1).f2) ((riP36 l0_6 x3_1).f3) true _ A5.out).mono ?_
           rintro e w13 ⟨rfl,hb⟩;refine ⟨_,rfl,?_⟩;replace BK226:=As0.mk (bb hb BK226.out);replace HB:=As0.mk (bsp (by repeat (first|(with_reducible first|exact HB.out|apply bal|apply pbN|apply bd1|refine bst ?_ GE226.out)|exact HB.out)) hb)
              
              
              
              
           refine hK.out _ _ ⟨(bkC BK226.out 0).trans rfl,(bkC BK226.out 1).trans rfl,(bkC BK226.out 2).trans rfl,(bkC BK226.out 3).trans rfl,(bkC BK226.out 4).trans rfl,(bkC BK226.out 5).trans rfl,(bkC BK226.out 6).trans rfl,((HB.out.cell (World.block_lt_of_cell? w _ hw227_0)).trans hw227_0),((HB.out.cell (World.block_lt_of_cell? w _ hw227_1)).trans hw227_1),((HB.out.cell (World.block_lt_of_cell? w _ hw227_2)).trans hw227_2),((HB.out.cell (World.block_lt_of_cell? w _ hw227_3)).trans hw227_3),((HB.out.cell (World.block_lt_of_cell? w _ hw229_0)).trans hw229_0),((HB.out.cell (World.block_lt_of_cell? w _ hw229_1)).trans hw229_1),((HB.out.cell (World.block_lt_of_cell? w _ hw229_2)).trans hw229_2),((HB.out.cell (World.block_lt_of_cell? w _ hw229_3)).trans hw229_3)⟩ (fun hHeld=>?_);clear hK K;refine norm_ (a':=?_) ?_ ?_;rotate_left
           · show Act.put _ (some 16) _ = _
             simp only [Act.put,sA,sZ,sS,i64_w,i32_w];rfl
           refine pu 6 (some 17) spec_l10Pasts.calls.a7 rfl rfl HT_.out ?_;refine pu 7 (some 18) spec_l10Pasts.calls.a8 rfl rfl HT_.out ?_;refine pu 8 (some 19) spec_l10Pasts.calls.a9 rfl rfl HT_.out ?_;refine pu 10 (some 21) spec_l10Pasts.calls.a15 rfl rfl HT_.out ?_;refine pu 14 (some 25) spec_l10Pasts.calls.a16 rfl rfl HT_.out ?_;refine pu 16 (some 27) spec_l10Pasts.calls.a17 rfl rfl HT_.out ?_;refine tk 9 (some 20) spec_l10Pasts.calls.a18 rfl rfl HT_.out HW_.out hHeld (by rintro w' ⟨s0,s1,s2,s3,s4,s5,s6,s7,s8,s9,s10,s11,s12,s13,s14⟩;go_simp;with_reducible rfl) ?_;refine pu 11 (some 22) spec_l10Pasts.calls.a19 rfl rfl HT_.out ?_;refine pu 12 (some 23) spec_l10Pasts.calls.a20 rfl rfl HT_.out ?_;refine tk 13 (some 24) spec_l10Pasts.calls.a21 rfl rfl HT_.out HW_.out hHeld (by rintro w' ⟨s0,s1,s2,s3,s4,s5,s6,s7,s8,s9,s10,s11,s12,s13,s14⟩;go_simp;with_reducible rfl) ?_;refine tk 15 (some 26) spec_l10Pasts.calls.a10 rfl rfl HT_.out HW_.out hHeld (by rintro w' ⟨s0,s1,s2,s3,s4,s5,s6,s7,s8,s9,s10,s11,s12,s13,s14⟩;go_simp;with_reducible rfl) ?_;refine pu 17 (some 28) spec_l10Pasts.calls.a11 rfl rfl HT_.out ?_;refine pu 18 (some 29) spec_l10Pasts.calls.a12 rfl rfl HT_.out ?_;refine pu 19 (some 30) spec_l10Pasts.calls.a13 rfl rfl HT_.out ?_;refine pu 20 (some 31) spec_l10Pasts.calls.a14 rfl rfl HT_.out ?_;refine done_ (done_of HT_.out (by kernel_rfl)) ?_
           try go_wp2
           go_ret
           exact ⟨eW,by repeat (first|(with_reducible first|exact HB.out|apply bal|apply pbN|apply bd1|refine bst ?_ GE226.out)|exact HB.out)⟩
       · replace c6:=Bool.eq_false_iff.mpr c6
         subst c6;have H1:(some false) = some r:=by rw [if_neg (show ¬ (false = true) by decide)] at H;exact H
         clear H;have H:=H1;clear H1;obtain rfl:=Option.some.inj H;obtain ⟨hcz14_0,hcz14_1,hcz14_2,hcz14_3,hcz14_4,hcz14_5,hcz14_6⟩:=qc7 BK226.out;obtain ⟨hfz14_0,hfz14_1,hfz14_2,hfz14_3,hfz14_4,hfz14_5,hfz14_6⟩:=qz7 BK226.out
         try go_wp2
         replace BK226:=As0.mk (bkD BK226.out);replace HB:=As0.mk (bd1 HB.out);have p227:0 ≤ (x3_1:Int):=odt;have q227:x3_1 < (l0_6.length:Int):=odt;obtain ⟨ad227,e227,hx227_0,hx227_1,hx227_2,hx227_3⟩:=at_T36 HR0_6.out x3_1 p227 q227;have hw227_3:=hx227_3;have hw227_2:=hx227_2;have hw227_1:=hx227_1;have hw227_0:=hx227_0
         cases e227
         replace hx227_0:=bx HB.out rfl hx227_0;replace hx227_1:=bx HB.out rfl hx227_1;replace hx227_2:=bx HB.out rfl hx227_2;replace hx227_3:=bx HB.out rfl hx227_3;replace p227:=eq_true p227;replace q227:=eq_true q227;refine start_ (n:=21) (S:=fun w'=>w'.cell? ⟨gb226,0,none⟩ = some (.int .i64 a0_0) ∧ w'.cell? ⟨gb226,1,none⟩ = some (.int .i64 a0_1) ∧ w'.cell? ⟨gb226,2,none⟩ = some (.int .i64 a0_2) ∧ w'.cell? ⟨gb226,3,none⟩ = some (.slice A0_3 l0_3.length c0_3) ∧ w'.cell? ⟨gb226,4,none⟩ = some (.slice A0_4 l0_4.length c0_4) ∧ w'.cell? ⟨gb226,5,none⟩ = some (.slice A0_5 l0_5.length c0_5) ∧ w'.cell? ⟨gb226,6,none⟩ = some (.slice (some ad227) l0_6.length c0_6) ∧ w'.cell? (ad227.add ((x3_1).toNat * 4)) = some (.int .i64 ((riP36 l0_6 x3_1).f0)) ∧ w'.cell? ⟨(ad227.add ((x3_1).toNat * 4)).block,(ad227.add ((x3_1).toNat * 4)).off + 1,none⟩ = some (.string ((riP36 l0_6 x3_1).f1)) ∧ w'.cell? ⟨(ad227.add ((x3_1).toNat * 4)).block,(ad227.add ((x3_1).toNat * 4)).off + 2,none⟩ = some (.string ((riP36 l0_6 x3_1).f2)) ∧ w'.cell? ⟨(ad227.add ((x3_1).toNat * 4)).block,(ad227.add ((x3_1).toNat * 4)).off + 3,none⟩ = some (.string ((riP36 l0_6 x3_1).f3))) (ds:=[]) spec_l10Pasts.calls.a0 (by kernel_rfl) rfl rfl ⟨(bkC BK226.out 0).trans rfl,(bkC BK226.out 1).trans rfl,(bkC BK226.out 2).trans rfl,(bkC BK226.out 3).trans rfl,(bkC BK226.out 4).trans rfl,(bkC BK226.out 5).trans rfl,(bkC BK226.out 6).trans rfl,((HB.out.cell (World.block_lt_of_cell? w _ hw227_0)).trans hw227_0),((HB.out.cell (World.block_lt_of_cell? w _ hw227_1)).trans hw227_1),((HB.out.cell (World.block_lt_of_cell? w _ hw227_2)).trans hw227_2),((HB.out.cell (World.block_lt_of_cell? w _ hw227_3)).trans hw227_3)⟩ (fun hHeld=>?_);refine with_tabW spec_l10Pasts.tab4 spec_l10Pasts.bits4 (fun HT_ HW_=>?_);generalize wr.drew = w15 at BK226 HB hx227_0 hx227_1 hx227_2 hx227_3 hHeld ⊢
         refine pu 0 (some 11) spec_l10Pasts.calls.a1 rfl rfl HT_.out ?_;refine pu 2 (some 13) spec_l10Pasts.calls.a2 rfl rfl HT_.out ?_;refine tk 1 (some 12) spec_l10Pasts.calls.a3 rfl rfl HT_.out HW_.out hHeld (by rintro w' ⟨s0,s1,s2,s3,s4,s5,s6,s7,s8,s9,s10⟩;go_simp;with_reducible rfl) ?_;refine pu 3 (some 14) spec_l10Pasts.calls.a4 rfl rfl HT_.out ?_;refine tk 4 (some 15) spec_l10Pasts.calls.a5 rfl rfl HT_.out HW_.out hHeld (by rintro w' ⟨s0,s1,s2,s3,s4,s5,s6,s7,s8,s9,s10⟩;go_simp;with_reducible rfl) ?_;refine one_ (i:=5) (N:=some 16) spec_l10Pasts.calls.a6 rfl rfl (one_of HT_.out (by kernel_rfl)) (by decide) (fun K hK=>?_);refine goes_ Tryz.func77 (by kernel_rfl) rfl #[.agg #[.int .i64 ((riP36 l0_6 x3_1).f0),.string ((riP36 l0_6 x3_1).f1),.string ((riP36 l0_6 x3_1).f2),.string ((riP36 l0_6 x3_1).f3)]] (by rfl) rfl rfl (by (try simp only [List.map_toArray,List.map_cons,List.map_nil]);first|done|rfl|(simp only [List.length_drop,List.length_take];rfl)) ?_;with_reducible refine (spec_l10Past.calls k1 ((riP36 l0_6 x3_1).f0) ((riP36 l0_6 x3_1).f1) ((riP36 l0_6 x3_1).f2) ((riP36 l0_6 x3_1).f3) false _ A5.out).mono ?_
         rintro e w16 ⟨rfl,hb⟩;refine ⟨_,rfl,?_⟩;replace BK226:=As0.mk (bb hb BK226.out);replace HB:=As0.mk (bsp (by repeat (first|(with_reducible first|exact HB.out|apply bal|apply pbN|apply bd1|refine bst ?_ GE226.out)|exact HB.out)) hb)
            
            
            
            
         refine hK.out _ _ ⟨(bkC BK226.out 0).trans rfl,(bkC BK226.out 1).trans rfl,(bkC BK226.out 2).trans rfl,(bkC BK226.out 3).trans rfl,(bkC BK226.out 4).trans rfl,(bkC BK226.out 5).trans rfl,(bkC BK226.out 6).trans rfl,((HB.out.cell (World.block_lt_of_cell? w _ hw227_0)).trans hw227_0),((HB.out.cell (World.block_lt_of_cell? w _ hw227_1)).trans hw227_1),((HB.out.cell (World.block_lt_of_cell? w _ hw227_2)).trans hw227_2),((HB.out.cell (World.block_lt_of_cell? w _ hw227_3)).trans hw227_3)⟩ (fun hHeld=>?_);clear hK K;refine norm_ (a':=?_) ?_ ?_;rotate_left
         · show Act.put _ (some 16) _ = _
           simp only [Act.put,sA,sZ,sS,i64_w,i32_w];rfl
         refine pu 6 (some 17) spec_l10Pasts.calls.a7 rfl rfl HT_.out ?_;refine pu 7 (some 18) spec_l10Pasts.calls.a8 rfl rfl HT_.out ?_;refine pn 8 (some 19) spec_l10Pasts.calls.a9 rfl rfl HT_.out ?_;refine pn 9 (some 20) #[true,true,true,true,true,true,true,true,true,true,false,false,false,false,false,false,false,false,false,false,false] rfl rfl HT_.out ?_;refine pn 10 (some 21) #[true,true,true,true,true,true,true,true,true,true,true,false,false,false,false,false,false,false,false,false,false] rfl rfl HT_.out ?_;refine pn 11 (some 22) #[true,true,true,true,true,true,true,true,true,true,true,true,false,false,false,false,false,false,false,false,false] rfl rfl HT_.out ?_;refine pn 12 (some 23) #[true,true,true,true,true,true,true,true,true,true,true,true,true,false,false,false,false,false,false,false,false] rfl rfl HT_.out ?_;refine pn 13 (some 24) #[true,true,true,true,true,true,true,true,true,true,true,true,true,true,false,false,false,false,false,false,false] rfl rfl HT_.out ?_;refine pn 14 (some 25) #[true,true,true,true,true,true,true,true,true,true,true,true,true,true,true,false,false,false,false,false,false] rfl rfl HT_.out ?_;refine pn 15 (some 26) #[true,true,true,true,true,true,true,true,true,true,true,true,true,true,true,true,false,false,false,false,false] rfl rfl HT_.out ?_;refine pn 16 (some 27) spec_l10Pasts.calls.a10 rfl rfl HT_.out ?_;refine pn 17 (some 28) spec_l10Pasts.calls.a11 rfl rfl HT_.out ?_;refine pn 18 (some 29) spec_l10Pasts.calls.a12 rfl rfl HT_.out ?_;refine pn 19 (some 30) spec_l10Pasts.calls.a13 rfl rfl HT_.out ?_;refine pu 20 (some 31) spec_l10Pasts.calls.a14 rfl rfl HT_.out ?_;refine done_ (done_of HT_.out (by kernel_rfl)) ?_
         try go_wp2
         go_ret
         exact ⟨eW,by repeat (first|(with_reducible first|exact HB.out|apply bal|apply pbN|apply bd1|refine bst ?_ GE226.out)|exact HB.out)⟩
     · rw [if_neg c4] at H
       exact absurd H (by simp)
   · rw [if_neg c3] at H
     have c3b0:decide (x3_1 < (l0_6.length:Int)) = false:=decide_eq_false c3;clear c3;by_cases c17:(wrap64 (a0_2 + (l0_6.length:Int))) = a0_0
     · rw [if_pos c17] at H
       have c17b0:((wrap64 (a0_2 + (l0_6.length:Int))) == a0_0) = true:=beq_iff_eq.mpr c17;have c17b1:((wrap64 (a0_2 + (l0_6.length:Int))) != a0_0) = false:=bne_eq_false_iff_eq.mpr c17;clear c17;obtain rfl:=Option.some.inj H;obtain ⟨hcz18_0,hcz18_1,hcz18_2,hcz18_3,hcz18_4,hcz18_5,hcz18_6⟩:=qc7 BK226.out;obtain ⟨hfz18_0,hfz18_1,hfz18_2,hfz18_3,hfz18_4,hfz18_5,hfz18_6⟩:=qz7 BK226.out
       go_wp2
       go_ret
       exact ⟨eW,by repeat (first|(with_reducible first|exact HB.out|apply bal|apply pbN|apply bd1|refine bst ?_ GE226.out)|exact HB.out)⟩
     · rw [if_neg c17] at H
       have c17b0:((wrap64 (a0_2 + (l0_6.length:Int))) == a0_0) = false:=beq_eq_false_iff_ne.mpr c17;have c17b1:((wrap64 (a0_2 + (l0_6.length:Int))) != a0_0) = true:=bne_iff_ne.mpr c17;obtain rfl:=Option.some.inj H;obtain ⟨hcz19_0,hcz19_1,hcz19_2,hcz19_3,hcz19_4,hcz19_5,hcz19_6⟩:=qc7 BK226.out;obtain ⟨hfz19_0,hfz19_1,hfz19_2,hfz19_3,hfz19_4,hfz19_5,hfz19_6⟩:=qz7 BK226.out
       go_wp2
       go_ret
       exact ⟨eW,by repeat (first|(with_reducible first|exact HB.out|apply bal|apply pbN|apply bd1|refine bst ?_ GE226.out)|exact HB.out)⟩
def spec_l8In.l0:Nat → ByteArray → List ByteArray → Int → Option (Bool)
 |0,_,_,_=>none
 |k + 1,x2,x7,x8=>if x8 < (x7.length:Int) then (if 0 ≤ x8 then (if (rdOf ByteArray.empty x7 x8).toList = x2.toList then (some true) else (spec_l8In.l0 k x2 x7 (wrap64 (x8 + 1)))) else (none)) else (some false)
def spec_l8In.f (k:Nat) (l0:List (SiS28)) (a1:ByteArray) (a2:ByteArray):Option (Bool):=(spec_l8Up.f k l0 a1).bind fun t230=>(spec_l8In.l0 k a2 t230 0)
set_option maxHeartbeats 40000000 in
set_option maxRecDepth 100000 in
theorem spec_l8In.calls (k:Nat) (A0:Option Addr) (c0:Nat) (l0:List (SiS28)) (a1:ByteArray) (a2:ByteArray) (r:Bool) (w:World) (hr0:Kd.C k70 w A0 l0.length l0) (hc0:l0.length ≤ c0) (h:spec_l8In.f k l0 a1 a2 = some r) :
 Calls Tryz.prog 78 #[.slice A0 l0.length c0,.string a1,.string a2] w fun e w'=>e = .returned (.bool r) ∧ Below w.heap.size w w':=by
 have HR0:=As0.mk hr0;have HC0:=As0.mk hc0;clear hr0 hc0;have HB:=As0.mk (Below.refl w.heap.size w);have H:((spec_l8Up.f k l0 a1).bind fun t230=>(spec_l8In.l0 k a2 t230 0)) = some r:=h;clear h;replace H:=Option.bind_eq_some_iff.mp H;obtain ⟨t230,A40,H⟩:=H;(try dsimp only at H);have A4:=As0.mk A40;clear A40;have H':=As0.mk H;clear H
 go_enter Tryz.func78,Tryz.ntmps78
 go_wp2_with (first|((with_reducible refine gca (f:=73) rfl ?_);refine gL (some 11) Tryz.func73 #[.slice A0 l0.length c0,.string a1] ?_;(with_reducible refine (spec_l8Up.calls k _ _ l0 a1 t230 _ ?side1 ?side2 A4.out).mono ?_);(case side1=>repeat (first|exact HR0.out|(with_reducible first|refine Kd.C_alloc ?_ _|refine Kd.C_drewN ?_ _|refine Kd.C_drew ?_)));(case side2=>exact HC0.out);rintro e w5 ⟨v231,rfl,ho0,hb⟩;refine ⟨_,rfl,?_⟩;have HO232:=As0.mk (Kd.R_lower ho0 (bsz (by repeat (first|(with_reducible first|exact HB.out|apply bal|apply pbN|apply bd1)|exact HB.out))));replace HB:=As0.mk (b3 HB.out hb);clear hb ho0))
 show _;go_loopg [8] k (fun kq v8 w'=>∃ (x8_1:Int),v8 = .int .i64 x8_1 ∧ As0 (spec_l8In.l0 kq a2 t230 x8_1 = some r) ∧ As0 (kq ≤ k) ∧ As0 (Kd.R Kd.string 9 w' w.heap.size (fun _=>True) v231 t230) ∧ As0 (Below w.heap.size w w'))
 case atStart=>exact ⟨(0),(by first|rfl|(simp;done)|(simp [*];done)),H',⟨Nat.le_refl _⟩,⟨by (with_reducible repeat (first|apply Kd.Ral|apply Kd.RdN|apply Kd.R_drew));exact HO232.out⟩,⟨by repeat (first|(with_reducible first|exact HB.out|apply bal|apply pbN|apply bd1)|exact HB.out)⟩⟩
 case round=>
  clear H'
  try clear p2
  obtain ⟨x8_1,rfl,HA,HK1,HO_7,HB⟩:=hrel
  cases gk with
  |zero=>exact absurd HA.out (by simp [spec_l8In.l0])
  |succ k1=>
   have H:=HA.out;clear HA;simp only [spec_l8In.l0] at H;by_cases c6:x8_1 < (t230.length:Int)
   · rw [if_pos c6] at H
     have c6b0:decide (x8_1 < (t230.length:Int)) = true:=decide_eq_true c6;clear c6;by_cases c7:0 ≤ x8_1
     · rw [if_pos c7] at H
       have c7b0:decide (0 ≤ x8_1) = true:=decide_eq_true c7;clear c7;by_cases c8:(rdOf ByteArray.empty t230 x8_1).toList = a2.toList
       · rw [if_pos c8] at H
         have c8b0:((rdOf ByteArray.empty t230 x8_1).toList == a2.toList) = true:=beq_iff_eq.mpr c8;have c8b1:((rdOf ByteArray.empty t230 x8_1).toList != a2.toList) = false:=bne_eq_false_iff_eq.mpr c8;clear c8;obtain rfl:=Option.some.inj H;obtain ⟨Ao9,co9,eo9⟩:=Kd.R_slice HO_7.out;subst eo9;have p233:0 ≤ (x8_1:Int):=odt;have q233:x8_1 < (t230.length:Int):=odt;obtain ⟨ad233,e233,hx233_0⟩:=Kd.at_string (Kd.R_reads' HO_7.out).2.2 x8_1 p233 q233
         cases e233
         replace p233:=eq_true p233;replace q233:=eq_true q233
         go_wp2
         go_ret
         exact ⟨eW,by repeat (first|(with_reducible first|exact HB.out|apply bal|apply pbN|apply bd1)|exact HB.out)⟩
       · rw [if_neg c8] at H
         have c8b0:((rdOf ByteArray.empty t230 x8_1).toList == a2.toList) = false:=beq_eq_false_iff_ne.mpr c8;have c8b1:((rdOf ByteArray.empty t230 x8_1).toList != a2.toList) = true:=bne_iff_ne.mpr c8;have H':=As0.mk H;clear H;obtain ⟨Ao10,co10,eo10⟩:=Kd.R_slice HO_7.out;subst eo10;have p233:0 ≤ (x8_1:Int):=odt;have q233:x8_1 < (t230.length:Int):=odt;obtain ⟨ad233,e233,hx233_0⟩:=Kd.at_string (Kd.R_reads' HO_7.out).2.2 x8_1 p233 q233
         cases e233
         replace p233:=eq_true p233;replace q233:=eq_true q233
         go_wp2
         show _;go_roundg k1
         case measure=>have:=HK1.out;omega
         case rel=>exact ⟨(wrap64 (x8_1 + 1)),(by first|rfl|(simp;done)|(simp [*];done)),H',⟨by have:=HK1.out;omega⟩,⟨by (with_reducible repeat (first|apply Kd.Ral|apply Kd.RdN|apply Kd.R_drew));exact HO_7.out⟩,⟨by repeat (first|(with_reducible first|exact HB.out|apply bal|apply pbN|apply bd1)|exact HB.out)⟩⟩
     · rw [if_neg c7] at H
       exact absurd H (by simp)
   · rw [if_neg c6] at H
     have c6b0:decide (x8_1 < (t230.length:Int)) = false:=decide_eq_false c6;clear c6;obtain rfl:=Option.some.inj H;obtain ⟨Ao11,co11,eo11⟩:=Kd.R_slice HO_7.out;subst eo11
     go_wp2
     go_ret
     exact ⟨eW,by repeat (first|(with_reducible first|exact HB.out|apply bal|apply pbN|apply bd1)|exact HB.out)⟩
def spec_l8Sum.l0:Nat → List (SiS28) → List (SiT29) → ByteArray → Int → Int → Option (Int)
 |0,_,_,_,_,_=>none
 |k + 1,x0,x1,x2,x7,x8=>if x8 < (x1.length:Int) then (if 0 ≤ x8 then ((spec_l8In.f k x0 ((riT38 x1 x8).f0) x2).bind fun t235=>(if t235 = true then (spec_l8Sum.l0 k x0 x1 x2 (wrap64 ((wrap64 (x7 + 1)) + (((riT38 x1 x8).f6).size:Int))) (wrap64 (x8 + 1))) else (spec_l8Sum.l0 k x0 x1 x2 x7 (wrap64 (x8 + 1))))) else (none)) else (some x7)
def spec_l8Sum.f (k:Nat) (l0:List (SiS28)) (l1:List (SiT29)) (a2:ByteArray):Option (Int):=spec_l8Sum.l0 k l0 l1 a2 0 0
set_option maxHeartbeats 40000000 in
set_option maxRecDepth 100000 in
theorem spec_l8Sum.calls (k:Nat) (A0:Option Addr) (c0:Nat) (l0:List (SiS28)) (A1:Option Addr) (c1:Nat) (l1:List (SiT29)) (a2:ByteArray) (r:Int) (w:World) (hr0:Kd.C k70 w A0 l0.length l0) (hc0:l0.length ≤ c0) (hr1:Kd.C k44 w A1 l1.length l1) (hc1:l1.length ≤ c1) (h:spec_l8Sum.f k l0 l1 a2 = some r) :
 Calls Tryz.prog 40 #[.slice A0 l0.length c0,.slice A1 l1.length c1,.string a2] w fun e w'=>e = .returned (.int .i64 r) ∧ Below w.heap.size w w':=by
 have HR0:=As0.mk hr0;have HC0:=As0.mk hc0;clear hr0 hc0;have HR1:=As0.mk hr1;have HC1:=As0.mk hc1;clear hr1 hc1;have HB:=As0.mk (Below.refl w.heap.size w);have H:(spec_l8Sum.l0 k l0 l1 a2 0 0) = some r:=h;clear h;have H':=As0.mk H;clear H
 go_enter Tryz.func40,Tryz.ntmps40
 go_wp2
 show _;go_loopg [7,8] k (fun kq v7 v8 w'=>∃ (x7_1:Int) (x8_1:Int),v7 = .int .i64 x7_1 ∧ v8 = .int .i64 x8_1 ∧ As0 (spec_l8Sum.l0 kq l0 l1 a2 x7_1 x8_1 = some r) ∧ As0 (kq ≤ k) ∧ As0 (Below w.heap.size w w'))
 case atStart=>exact ⟨(0),(0),(by first|rfl|(simp;done)|(simp [*];done)),(by first|rfl|(simp;done)|(simp [*];done)),H',⟨Nat.le_refl _⟩,⟨by repeat (first|(with_reducible first|exact HB.out|apply bal|apply pbN|apply bd1)|exact HB.out)⟩⟩
 case round=>
  clear H'
  try clear c1
  try clear p2
  obtain ⟨x7_1,x8_1,rfl,rfl,HA,HK1,HB⟩:=hrel
  cases gk with
  |zero=>exact absurd HA.out (by simp [spec_l8Sum.l0])
  |succ k1=>
   have H:=HA.out;clear HA;simp only [spec_l8Sum.l0] at H;by_cases c4:x8_1 < (l1.length:Int)
   · rw [if_pos c4] at H
     have c4b0:decide (x8_1 < (l1.length:Int)) = true:=decide_eq_true c4;clear c4;by_cases c5:0 ≤ x8_1
     · rw [if_pos c5] at H
       have c5b0:decide (0 ≤ x8_1) = true:=decide_eq_true c5;clear c5;replace H:=Option.bind_eq_some_iff.mp H;obtain ⟨t235,A60,H⟩:=H;(try dsimp only at H);have A6:=As0.mk A60;clear A60;by_cases c7:t235 = true
       · subst c7
         have H1:(spec_l8Sum.l0 k1 l0 l1 a2 (wrap64 ((wrap64 (x7_1 + 1)) + (((riT38 l1 x8_1).f6).size:Int))) (wrap64 (x8_1 + 1))) = some r:=by rw [if_pos rfl] at H;exact H
         clear H;have H:=H1;clear H1;have H':=As0.mk H;clear H;have p234:0 ≤ (x8_1:Int):=odt;have q234:x8_1 < (l1.length:Int):=odt;obtain ⟨ad234,A234_5,c234_5,e234,hx234_0,hx234_1,hx234_2,hx234_3,hx234_4,hx234_5,hx234_6,hl234_5,hi234_5⟩:=at_T44 HR1.out x8_1 p234 q234
         cases e234
         replace hx234_0:=bx HB.out rfl hx234_0;replace hx234_1:=bx HB.out rfl hx234_1;replace hx234_2:=bx HB.out rfl hx234_2;replace hx234_3:=bx HB.out rfl hx234_3;replace hx234_4:=bx HB.out rfl hx234_4;replace hx234_5:=bx HB.out rfl hx234_5;replace hx234_6:=bx HB.out rfl hx234_6;have HR234_5:=As0.mk hi234_5;have HC234_5:=As0.mk hl234_5;clear hi234_5 hl234_5;replace p234:=eq_true p234;replace q234:=eq_true q234
         go_wp2_with (first|((with_reducible refine gca (f:=78) rfl ?_);refine gL (some 22) Tryz.func78 #[.slice A0 l0.length c0,.string ((riT38 l1 x8_1).f0),.string a2] ?_;(with_reducible refine (spec_l8In.calls k1 _ _ l0 ((riT38 l1 x8_1).f0) a2 true _ ?side1 ?side2 A6.out).mono ?_);(case side1=>repeat (first|exact (Kd.C_below HR0.out HB.out)|(with_reducible first|refine Kd.C_alloc ?_ _|refine Kd.C_drewN ?_ _|refine Kd.C_drew ?_)));(case side2=>exact HC0.out);rintro e w8 ⟨rfl,hb⟩;refine ⟨_,rfl,?_⟩;replace HB:=As0.mk (b3 HB.out hb);clear hb;have p236:0 ≤ (x8_1:Int):=odt;have q236:x8_1 < (l1.length:Int):=odt;obtain ⟨ad236,A236_5,c236_5,e236,hx236_0,hx236_1,hx236_2,hx236_3,hx236_4,hx236_5,hx236_6,hl236_5,hi236_5⟩:=at_T44 HR1.out x8_1 p236 q236;obtain rfl:ad234 = ad236:=(by injection e236);replace hx236_0:=bx HB.out rfl hx236_0;replace hx236_1:=bx HB.out rfl hx236_1;replace hx236_2:=bx HB.out rfl hx236_2;replace hx236_3:=bx HB.out rfl hx236_3;replace hx236_4:=bx HB.out rfl hx236_4;replace hx236_5:=bx HB.out rfl hx236_5;replace hx236_6:=bx HB.out rfl hx236_6;have HR236_5:=As0.mk hi236_5;have HC236_5:=As0.mk hl236_5;clear hi236_5 hl236_5;replace p236:=eq_true p236;replace q236:=eq_true q236))
         show _;go_roundg k1
         case measure=>have:=HK1.out;omega
         case rel=>exact ⟨(wrap64 ((wrap64 (x7_1 + 1)) + (((riT38 l1 x8_1).f6).size:Int))),(wrap64 (x8_1 + 1)),(by first|rfl|(simp;done)|(simp [*];done)),(by first|rfl|(simp;done)|(simp [*];done)),H',⟨by have:=HK1.out;omega⟩,⟨by repeat (first|(with_reducible first|exact HB.out|apply bal|apply pbN|apply bd1)|exact HB.out)⟩⟩
       · replace c7:=Bool.eq_false_iff.mpr c7
         subst c7;have H1:(spec_l8Sum.l0 k1 l0 l1 a2 x7_1 (wrap64 (x8_1 + 1))) = some r:=by rw [if_neg (show ¬ (false = true) by decide)] at H;exact H
         clear H;have H:=H1;clear H1;have H':=As0.mk H;clear H;have p234:0 ≤ (x8_1:Int):=odt;have q234:x8_1 < (l1.length:Int):=odt;obtain ⟨ad234,A234_5,c234_5,e234,hx234_0,hx234_1,hx234_2,hx234_3,hx234_4,hx234_5,hx234_6,hl234_5,hi234_5⟩:=at_T44 HR1.out x8_1 p234 q234
         cases e234
         replace hx234_0:=bx HB.out rfl hx234_0;replace hx234_1:=bx HB.out rfl hx234_1;replace hx234_2:=bx HB.out rfl hx234_2;replace hx234_3:=bx HB.out rfl hx234_3;replace hx234_4:=bx HB.out rfl hx234_4;replace hx234_5:=bx HB.out rfl hx234_5;replace hx234_6:=bx HB.out rfl hx234_6;have HR234_5:=As0.mk hi234_5;have HC234_5:=As0.mk hl234_5;clear hi234_5 hl234_5;replace p234:=eq_true p234;replace q234:=eq_true q234
         go_wp2_with (first|((with_reducible refine gca (f:=78) rfl ?_);refine gL (some 22) Tryz.func78 #[.slice A0 l0.length c0,.string ((riT38 l1 x8_1).f0),.string a2] ?_;(with_reducible refine (spec_l8In.calls k1 _ _ l0 ((riT38 l1 x8_1).f0) a2 false _ ?side1 ?side2 A6.out).mono ?_);(case side1=>repeat (first|exact (Kd.C_below HR0.out HB.out)|(with_reducible first|refine Kd.C_alloc ?_ _|refine Kd.C_drewN ?_ _|refine Kd.C_drew ?_)));(case side2=>exact HC0.out);rintro e w9 ⟨rfl,hb⟩;refine ⟨_,rfl,?_⟩;replace HB:=As0.mk (b3 HB.out hb);clear hb))
         show _;go_roundg k1
         case measure=>have:=HK1.out;omega
         case rel=>exact ⟨(x7_1),(wrap64 (x8_1 + 1)),(by first|rfl|(simp;done)|(simp [*];done)),(by first|rfl|(simp;done)|(simp [*];done)),H',⟨by have:=HK1.out;omega⟩,⟨by repeat (first|(with_reducible first|exact HB.out|apply bal|apply pbN|apply bd1)|exact HB.out)⟩⟩
     · rw [if_neg c5] at H
       exact absurd H (by simp)
   · rw [if_neg c4] at H
     have c4b0:decide (x8_1 < (l1.length:Int)) = false:=decide_eq_false c4;clear c4;obtain rfl:=Option.some.inj H
     go_wp2
     go_ret
     exact ⟨eW,by repeat (first|(with_reducible first|exact HB.out|apply bal|apply pbN|apply bd1)|exact HB.out)⟩
def spec_ModelOk.l1 (k:Nat) (rev:Int) (sp:List (SiS28)) (us:List (SiU30)) (T:List (SiT29)):Nat → Int → Option Bool
 |0,_=>some true
 |m + 1,i=>if rev < (riS37 sp i).f4 then some false else if i < us.length then (spec_l8Sum.f k sp T (riS37 sp i).f0).bind fun s=>if (riU39 us i).f1 = s then spec_ModelOk.l1 k rev sp us T m (i + 1) else some false else none
def spec_ModelOk.f (k:Nat) (rev uid fl:Int) (sp:List (SiS28)) (us:List (SiU30)) (T:List (SiT29)) (P:List (SiP27)):Option Bool:=
 (spec_l1In.f rev 0 99999).bind fun b=>if b = true then (spec_l1In.f uid 0 99999).bind fun b=>if b = true then (spec_l1In.f fl 0 rev).bind fun b=>if b = true then (spec_SpacesOk.f k sp).bind fun b=>if b = true then (spec_l8Uses.f k sp us).bind fun b=>if b = true then (spec_l10Things.f k rev uid fl sp us T P).bind fun b=>if b = true then (spec_l10Pasts.f k rev uid fl sp us T P).bind fun b=>if b = true then spec_ModelOk.l1 k rev sp us T sp.length 0 else some false else some false else some false else some false else some false else some false else some false
set_option maxHeartbeats 40000000 in
set_option maxRecDepth 100000 in
theorem spec_ModelOk.calls (k:Nat) (rev uid fl:Int) (A3:Option Addr) (c3:Nat) (sp:List (SiS28)) (A4:Option Addr) (c4:Nat) (us:List (SiU30)) (A5:Option Addr) (c5:Nat) (T:List (SiT29)) (A6:Option Addr) (c6:Nat) (P:List (SiP27)) (r:Bool) (w:World) (hr3:Kd.C k70 w A3 sp.length sp) (hc3:sp.length ≤ c3) (hr4:Kd.C k72 w A4 us.length us) (hc4:us.length ≤ c4) (hr5:Kd.C k44 w A5 T.length T) (hc5:T.length ≤ c5) (hr6:Kd.C k36 w A6 P.length P) (hc6:P.length ≤ c6) (h:spec_ModelOk.f k rev uid fl sp us T P = some r) :
 Calls Tryz.prog 12 #[.agg #[.int .i64 rev,.int .i64 uid,.int .i64 fl,.slice A3 sp.length c3,.slice A4 us.length c4,.slice A5 T.length c5,.slice A6 P.length c6]] w fun e w'=>e = .returned (.bool r) ∧ Below w.heap.size w w':=by
 have hu28:=Tryz.underlying28;have hu70:=Tryz.underlying70;have hu72:=Tryz.underlying72;have HR3:=As0.mk hr3;have HC3:=As0.mk hc3;clear hr3 hc3;have HR4:=As0.mk hr4;have HC4:=As0.mk hc4;clear hr4 hc4;have HR5:=As0.mk hr5;have HC5:=As0.mk hc5;clear hr5 hc5;have HR6:=As0.mk hr6;have HC6:=As0.mk hc6;clear hr6 hc6;have HB:=As0.mk (Below.refl w.heap.size w);have HN3:=As0.mk HR3.out.2.1;unfold spec_ModelOk.f at h
 go_enter Tryz.func12,Tryz.ntmps12
 show _;go_upto_region 1 with (first
  |((with_reducible refine gate_dst (N:=1) rfl ?_);refine bE 1 #[.int .i64 rev,.int .i64 uid,.int .i64 fl,.slice A3 sp.length c3,.slice A4 us.length c4,.slice A5 T.length c5,.slice A6 P.length c6] 28 ?_;intro gb hg w1 hbox hb;have n0_:=As0.mk (bsp HB.out hb);have BM:=As0.mk hbox;clear HB hb hg hbox;have HB:=n0_;clear n0_;obtain ⟨kc0,kc1,kc2,kc3,kc4,kc5,kc6⟩:=mq.b7 BM.out))
 obtain ⟨b,hb,h⟩:=Option.bind_eq_some_iff.mp h;have E1:=As0.mk hb;clear hb;cases b;rotate_left;rw [if_pos rfl] at h;obtain ⟨b,hb,h⟩:=Option.bind_eq_some_iff.mp h;have E2:=As0.mk hb;clear hb;cases b;rotate_left;rw [if_pos rfl] at h;obtain ⟨b,hb,h⟩:=Option.bind_eq_some_iff.mp h;have E3:=As0.mk hb;clear hb;cases b;rotate_left;rw [if_pos rfl] at h;obtain ⟨b,hb,h⟩:=Option.bind_eq_some_iff.mp h;have E4:=As0.mk hb;clear hb;cases b;rotate_left;rw [if_pos rfl] at h;obtain ⟨b,hb,h⟩:=Option.bind_eq_some_iff.mp h;have E5:=As0.mk hb;clear hb;cases b;rotate_left;rw [if_pos rfl] at h;obtain ⟨b,hb,h⟩:=Option.bind_eq_some_iff.mp h;have E6:=As0.mk hb;clear hb;cases b;rotate_left;rw [if_pos rfl] at h;obtain ⟨b,hb,h⟩:=Option.bind_eq_some_iff.mp h;have E7:=As0.mk hb;clear hb;cases b;rotate_left;rw [if_pos rfl] at h;rotate_left
 iterate 7
  · rw [if_neg (by decide)] at h
    obtain rfl:=Option.some.inj h;clear h
    go_wp2_with (first
     |(go_at_call 35;(with_reducible refine (spec_l1In.calls _ _ _ _ _ E1.out).mono ?_);rintro e w2 ⟨rfl,hd⟩;have hb:=hd.below;clear hd;have n_:=As0.mk (bsp HB.out hb);have n_BM:=As0.mk (blk_below BM.out hb);clear HB BM hb kc0 kc1 kc2 kc3 kc4 kc5 kc6;have HB:=n_;clear n_;have BM:=n_BM;clear n_BM;obtain ⟨kc0,kc1,kc2,kc3,kc4,kc5,kc6⟩:=mq.b7 BM.out)
     |(go_at_call 35;(with_reducible refine (spec_l1In.calls _ _ _ _ _ E2.out).mono ?_);rintro e w2 ⟨rfl,hd⟩;have hb:=hd.below;clear hd;have n_:=As0.mk (bsp HB.out hb);have n_BM:=As0.mk (blk_below BM.out hb);clear HB BM hb kc0 kc1 kc2 kc3 kc4 kc5 kc6;have HB:=n_;clear n_;have BM:=n_BM;clear n_BM;obtain ⟨kc0,kc1,kc2,kc3,kc4,kc5,kc6⟩:=mq.b7 BM.out)
     |(go_at_call 35;(with_reducible refine (spec_l1In.calls _ _ _ _ _ E3.out).mono ?_);rintro e w2 ⟨rfl,hd⟩;have hb:=hd.below;clear hd;have n_:=As0.mk (bsp HB.out hb);have n_BM:=As0.mk (blk_below BM.out hb);clear HB BM hb kc0 kc1 kc2 kc3 kc4 kc5 kc6;have HB:=n_;clear n_;have BM:=n_BM;clear n_BM;obtain ⟨kc0,kc1,kc2,kc3,kc4,kc5,kc6⟩:=mq.b7 BM.out)
     |(go_at_call 36;(with_reducible refine (spec_SpacesOk.calls k _ _ sp _ _ (Kd.C_below HR3.out HB.out) HC3.out E4.out).mono ?_);rintro e w2 ⟨rfl,hb⟩;have n_:=As0.mk (bsp HB.out hb);have n_BM:=As0.mk (blk_below BM.out hb);clear HB BM hb kc0 kc1 kc2 kc3 kc4 kc5 kc6;have HB:=n_;clear n_;have BM:=n_BM;clear n_BM;obtain ⟨kc0,kc1,kc2,kc3,kc4,kc5,kc6⟩:=mq.b7 BM.out)
     |(go_at_call 37;(with_reducible refine (spec_l8Uses.calls k _ _ sp _ _ us _ _ (Kd.C_below HR3.out HB.out) HC3.out (Kd.C_below HR4.out HB.out) HC4.out E5.out).mono ?_);rintro e w2 ⟨rfl,hd⟩;have hb:=hd.below;clear hd;have n_:=As0.mk (bsp HB.out hb);have n_BM:=As0.mk (blk_below BM.out hb);clear HB BM hb kc0 kc1 kc2 kc3 kc4 kc5 kc6;have HB:=n_;clear n_;have BM:=n_BM;clear n_BM;obtain ⟨kc0,kc1,kc2,kc3,kc4,kc5,kc6⟩:=mq.b7 BM.out)
     |(go_at_call 38;(with_reducible refine (spec_l10Things.calls k rev uid fl _ _ sp _ _ us _ _ T _ _ P _ _ (Kd.C_below HR3.out HB.out) HC3.out (Kd.C_below HR4.out HB.out) HC4.out (Kd.C_below HR5.out HB.out) HC5.out (Kd.C_below HR6.out HB.out) HC6.out E6.out).mono ?_);rintro e w2 ⟨rfl,hb⟩;have n_:=As0.mk (bsp HB.out hb);have n_BM:=As0.mk (blk_below BM.out hb);clear HB BM hb kc0 kc1 kc2 kc3 kc4 kc5 kc6;have HB:=n_;clear n_;have BM:=n_BM;clear n_BM;obtain ⟨kc0,kc1,kc2,kc3,kc4,kc5,kc6⟩:=mq.b7 BM.out)
     |(go_at_call 39;(with_reducible refine (spec_l10Pasts.calls k rev uid fl _ _ sp _ _ us _ _ T _ _ P _ _ (Kd.C_below HR3.out HB.out) HC3.out (Kd.C_below HR4.out HB.out) HC4.out (Kd.C_below HR5.out HB.out) HC5.out (Kd.C_below HR6.out HB.out) HC6.out E7.out).mono ?_);rintro e w2 ⟨rfl,hb⟩;have n_:=As0.mk (bsp HB.out hb);have n_BM:=As0.mk (blk_below BM.out hb);clear HB BM hb kc0 kc1 kc2 kc3 kc4 kc5 kc6;have HB:=n_;clear n_;have BM:=n_BM;clear n_BM;obtain ⟨kc0,kc1,kc2,kc3,kc4,kc5,kc6⟩:=mq.b7 BM.out))
    go_ret
    exact ⟨by first|rfl|(simp;done),HB.out⟩
 have H:=As0.mk h;clear h
 go_wp2_with (first
  |(go_at_call 35;(with_reducible refine (spec_l1In.calls _ _ _ _ _ E1.out).mono ?_);rintro e w2 ⟨rfl,hd⟩;have hb:=hd.below;clear hd;have n_:=As0.mk (bsp HB.out hb);have n_BM:=As0.mk (blk_below BM.out hb);clear HB BM hb kc0 kc1 kc2 kc3 kc4 kc5 kc6;have HB:=n_;clear n_;have BM:=n_BM;clear n_BM;obtain ⟨kc0,kc1,kc2,kc3,kc4,kc5,kc6⟩:=mq.b7 BM.out)
  |(go_at_call 35;(with_reducible refine (spec_l1In.calls _ _ _ _ _ E2.out).mono ?_);rintro e w2 ⟨rfl,hd⟩;have hb:=hd.below;clear hd;have n_:=As0.mk (bsp HB.out hb);have n_BM:=As0.mk (blk_below BM.out hb);clear HB BM hb kc0 kc1 kc2 kc3 kc4 kc5 kc6;have HB:=n_;clear n_;have BM:=n_BM;clear n_BM;obtain ⟨kc0,kc1,kc2,kc3,kc4,kc5,kc6⟩:=mq.b7 BM.out)
  |(go_at_call 35;(with_reducible refine (spec_l1In.calls _ _ _ _ _ E3.out).mono ?_);rintro e w2 ⟨rfl,hd⟩;have hb:=hd.below;clear hd;have n_:=As0.mk (bsp HB.out hb);have n_BM:=As0.mk (blk_below BM.out hb);clear HB BM hb kc0 kc1 kc2 kc3 kc4 kc5 kc6;have HB:=n_;clear n_;have BM:=n_BM;clear n_BM;obtain ⟨kc0,kc1,kc2,kc3,kc4,kc5,kc6⟩:=mq.b7 BM.out)
  |(go_at_call 36;(with_reducible refine (spec_SpacesOk.calls k _ _ sp _ _ (Kd.C_below HR3.out HB.out) HC3.out E4.out).mono ?_);rintro e w2 ⟨rfl,hb⟩;have n_:=As0.mk (bsp HB.out hb);have n_BM:=As0.mk (blk_below BM.out hb);clear HB BM hb kc0 kc1 kc2 kc3 kc4 kc5 kc6;have HB:=n_;clear n_;have BM:=n_BM;clear n_BM;obtain ⟨kc0,kc1,kc2,kc3,kc4,kc5,kc6⟩:=mq.b7 BM.out)
  |(go_at_call 37;(with_reducible refine (spec_l8Uses.calls k _ _ sp _ _ us _ _ (Kd.C_below HR3.out HB.out) HC3.out (Kd.C_below HR4.out HB.out) HC4.out E5.out).mono ?_);rintro e w2 ⟨rfl,hd⟩;have hb:=hd.below;clear hd;have n_:=As0.mk (bsp HB.out hb);have n_BM:=As0.mk (blk_below BM.out hb);clear HB BM hb kc0 kc1 kc2 kc3 kc4 kc5 kc6;have HB:=n_;clear n_;have BM:=n_BM;clear n_BM;obtain ⟨kc0,kc1,kc2,kc3,kc4,kc5,kc6⟩:=mq.b7 BM.out)
  |(go_at_call 38;(with_reducible refine (spec_l10Things.calls k rev uid fl _ _ sp _ _ us _ _ T _ _ P _ _ (Kd.C_below HR3.out HB.out) HC3.out (Kd.C_below HR4.out HB.out) HC4.out (Kd.C_below HR5.out HB.out) HC5.out (Kd.C_below HR6.out HB.out) HC6.out E6.out).mono ?_);rintro e w2 ⟨rfl,hb⟩;have n_:=As0.mk (bsp HB.out hb);have n_BM:=As0.mk (blk_below BM.out hb);clear HB BM hb kc0 kc1 kc2 kc3 kc4 kc5 kc6;have HB:=n_;clear n_;have BM:=n_BM;clear n_BM;obtain ⟨kc0,kc1,kc2,kc3,kc4,kc5,kc6⟩:=mq.b7 BM.out)
  |(go_at_call 39;(with_reducible refine (spec_l10Pasts.calls k rev uid fl _ _ sp _ _ us _ _ T _ _ P _ _ (Kd.C_below HR3.out HB.out) HC3.out (Kd.C_below HR4.out HB.out) HC4.out (Kd.C_below HR5.out HB.out) HC5.out (Kd.C_below HR6.out HB.out) HC6.out E7.out).mono ?_);rintro e w2 ⟨rfl,hb⟩;have n_:=As0.mk (bsp HB.out hb);have n_BM:=As0.mk (blk_below BM.out hb);clear HB BM hb kc0 kc1 kc2 kc3 kc4 kc5 kc6;have HB:=n_;clear n_;have BM:=n_BM;clear n_BM;obtain ⟨kc0,kc1,kc2,kc3,kc4,kc5,kc6⟩:=mq.b7 BM.out))
 clear E1 E2 E3 E4 E5 E6 E7
 show _;go_loopg [3] sp.length (fun m v w'=>∃ ii:Int,v = .int .i64 ii ∧ As0 (0 ≤ ii ∧ ii + m = sp.length) ∧ As0 (spec_ModelOk.l1 k rev sp us T m ii = some r) ∧ As0 (Below w.heap.size w w') ∧ As0 (w'.heap[gb]? = some (.cells #[.int .i64 rev,.int .i64 uid,.int .i64 fl,.slice A3 sp.length c3,.slice A4 us.length c4,.slice A5 T.length c5,.slice A6 P.length c6] 28 (0,0))))
 case atStart=>exact ⟨0,(by first|rfl|(simp;done)),⟨⟨Int.le_refl _,by simp⟩⟩,⟨H.out⟩,HB,BM⟩
 case round=>
  clear HB BM H kc0 kc1 kc2 kc3 kc4 kc5 kc6;obtain ⟨ii,rfl,HM,H,HB,BM⟩:=hrel;obtain ⟨kc0,kc1,kc2,kc3,kc4,kc5,kc6⟩:=mq.b7 BM.out
  cases gk with
  |zero=>
   have hm:=HM.out;have t0:decide (ii < (sp.length:Int)) = false:=decide_eq_false (by have:=hm.2;omega);obtain rfl:=Option.some.inj H.out;clear hm HM H
   go_wp2
   go_ret
   exact ⟨by first|rfl|(simp;done),HB.out⟩
  |succ k2=>
   have hm:=HM.out;have hi0:0 ≤ ii:=hm.1;have hin:ii < (sp.length:Int):=by have:=hm.2;omega
   have t0:decide (ii < (sp.length:Int)) = true:=decide_eq_true hin;have p0:(0 ≤ ii) = True:=eq_true hi0;have q0:(ii < (sp.length:Int)) = True:=eq_true hin;have q1_:(ii.toNat < sp.length) = True:=eq_true (by omega);have hw1:wrap64 (ii + 1) = ii + 1:=mq.wid (by have:=HN3.out;omega) (by have:=HN3.out;omega);have W0:=As0.mk hw1;have HM2:=As0.mk (show 0 ≤ ii + 1 ∧ ii + 1 + (k2:Nat) = (sp.length:Int) from by have:=hm.2;constructor <;> omega);obtain ⟨ad,e0,x0,x1,x2,x3,x4⟩:=at_T70 HR3.out ii hi0 hin
   cases e0
   have d0:=mq.cell ((HB.out.cell (World.block_lt_of_cell? w _ x0)).trans x0);have d4:=mq.cell ((HB.out.cell (World.block_lt_of_cell? w _ x4)).trans x4);have h:=H.out;rw [spec_ModelOk.l1] at h;clear H HM hm hw1 hin x0 x1 x2 x3 x4
   show _;go_upto_region 6 with (fail)
   (try simp only [Act.put,sA,sZ,sS])
   obtain ⟨q0_,q1,q2,q3,q4,q5,q6⟩:=mq.c7 BM.out;by_cases hv:rev < (riS37 sp ii).f4
   · rw [if_pos hv] at h
     obtain rfl:=Option.some.inj h;have t3:decide (rev < (riS37 sp ii).f4) = true:=decide_eq_true hv;clear hv h;refine mq.region (by kernel_rfl) (by kernel_rfl) ?_
     repeat (go_big_quiet_step (first
      |(rename_i x;go_at_call 40;refine (spec_l8Sum.calls k _ _ sp _ _ T _ _ _ (Kd.C_below (Kd.C_below HR3.out HB.out) x.2) HC3.out (Kd.C_below (Kd.C_below HR5.out HB.out) x.2) HC5.out E1.out).mono ?_;rintro e w8 ⟨rfl,hb⟩;exact ⟨rfl,⟨_,bsp x.2 hb⟩,rfl⟩)))
     refine wpQuiet_nil ?_;intro w8 hb;replace HB:=As0.mk (bsp HB.out hb);replace BM:=As0.mk (blk_below BM.out hb);clear hb q0_ q1 q2 q3 q4 q5 q6 d0 d4
     go_wp2
     go_ret
     exact ⟨by first|rfl|(simp;done),HB.out⟩
   rw [if_neg hv] at h;have t3:decide (rev < (riS37 sp ii).f4) = false:=decide_eq_false hv;clear hv;by_cases hu:ii < (us.length:Int)
   rotate_left
   · rw [if_neg hu] at h;cases h
   rw [if_pos hu] at h;obtain ⟨s,hs,h⟩:=Option.bind_eq_some_iff.mp h;have E1:=As0.mk hs;obtain ⟨ad2,e0,x0,x1⟩:=at_T72 HR4.out ii hi0 hu
   cases e0
   have f1:=mq.cell ((HB.out.cell (World.block_lt_of_cell? w _ x1)).trans x1);have u0:(ii < (us.length:Int)) = True:=eq_true hu;have u1:(ii.toNat < us.length) = True:=eq_true (by omega);clear hs x0 x1 hu hi0;by_cases he:(riU39 us ii).f1 = s
   · rw [if_pos he] at h
     have H:=As0.mk h;have s1:((riU39 us ii).f1 == s) = true:=beq_iff_eq.mpr he;have s2:=mq.bt s1;clear he h;refine mq.region (by kernel_rfl) (by kernel_rfl) ?_
     repeat (go_big_quiet_step (first
      |(rename_i x;go_at_call 40;refine (spec_l8Sum.calls k _ _ sp _ _ T _ _ _ (Kd.C_below (Kd.C_below HR3.out HB.out) x.2) HC3.out (Kd.C_below (Kd.C_below HR5.out HB.out) x.2) HC5.out E1.out).mono ?_;rintro e w8 ⟨rfl,hb⟩;exact ⟨rfl,⟨_,bsp x.2 hb⟩,rfl⟩)))
     refine wpQuiet_nil ?_;intro w8 hb;replace HB:=As0.mk (bsp HB.out hb);replace BM:=As0.mk (blk_below BM.out hb);clear hb q0_ q1 q2 q3 q4 q5 q6 d0 d4
     go_wp2
     show _;go_roundg k2
     case measure=>omega
     case rel=>exact ⟨ii + 1,(by first|rw [W0.out]|(simp [W0.out];done)|(simp;done)),HM2,H,HB,BM⟩
   · rw [if_neg he] at h
     obtain rfl:=Option.some.inj h;have s1:((riU39 us ii).f1 == s) = false:=beq_eq_false_iff_ne.mpr he;have s2:=mq.bf s1;clear he h;refine mq.region (by kernel_rfl) (by kernel_rfl) ?_
     repeat (go_big_quiet_step (first
      |(rename_i x;go_at_call 40;refine (spec_l8Sum.calls k _ _ sp _ _ T _ _ _ (Kd.C_below (Kd.C_below HR3.out HB.out) x.2) HC3.out (Kd.C_below (Kd.C_below HR5.out HB.out) x.2) HC5.out E1.out).mono ?_;rintro e w8 ⟨rfl,hb⟩;exact ⟨rfl,⟨_,bsp x.2 hb⟩,rfl⟩)))
     refine wpQuiet_nil ?_;intro w8 hb;replace HB:=As0.mk (bsp HB.out hb);replace BM:=As0.mk (blk_below BM.out hb);clear hb q0_ q1 q2 q3 q4 q5 q6 d0 d4
     go_wp2
     go_ret
     exact ⟨by first|rfl|(simp;done),HB.out⟩
section
variable {α:Type} {d:Kd α} {e:Nat} {w W W2:World} {base b0 N M:Nat} {v:Value} {xs:List α} {ok:Nat → Prop}
theorem ml.mk (h:d.R e W base ok v xs) (hb:b0 ≤ base):d.R e W b0 (fun k=>base ≤ k ∧ k < W.heap.size) v xs:=
 Kd.R_lower (Kd.R_mono (Kd.R_bound h) (fun _ hk=>⟨hk.2.1,hk.2.2.1⟩)) hb
theorem ml.kept {PX:Nat → Prop} (h:d.R e W base ok v xs) (hk:Kept W W2 PX) (hn:∀ k,ok k → ¬ PX k):d.R e W2 base ok v xs:=Kd.R_step h (fun k ho hlt=>hk.2 k hlt (hn k ho))
theorem ml.kblk {PX:Nat → Prop} {g:Nat} {o:Obj} (h:W.heap[g]? = some o) (hk:Kept W W2 PX) (hn:¬ PX g):W2.heap[g]? = some o:=(hk.2 g (blk_lt h) hn).trans h
end
def impl_watched.l0:Nat → ByteArray → Int → List (SiP27) → List (SiP27) → Int → Int → Option ((List (SiP27)))
 |0,_,_,_,_,_,_=>none
 |k + 1,x1,x2,x7,x12,x13,x14=>if x14 < x13 then (if 0 ≤ x14 then (if x14 < (x12.length:Int) then (if ((riP36 x12 x14).f2).toList = x1.toList then (if ((riP36 x12 x14).f0) > x2 then (if x7.length < 2513169434916 then (impl_watched.l0 k x1 x2 (x7 ++ [(⟨(riP36 x12 x14).f0,(riP36 x12 x14).f1,(riP36 x12 x14).f2,(riP36 x12 x14).f3⟩:SiP27)]) x12 x13 (wrap64 (x14 + 1))) else (none)) else (impl_watched.l0 k x1 x2 x7 x12 x13 (wrap64 (x14 + 1)))) else (impl_watched.l0 k x1 x2 x7 x12 x13 (wrap64 (x14 + 1)))) else (none)) else (none)) else (some x7)
def impl_watched.f (k:Nat) (a0_0:Int) (a0_1:Int) (a0_2:Int) (l0_3:List (SiS28)) (l0_4:List (SiU30)) (l0_5:List (SiT29)) (l0_6:List (SiP27)) (a1:ByteArray) (a2:Int):Option ((List (SiP27))):=impl_watched.l0 k a1 a2 (([]:List (SiP27))) l0_6 (l0_6.length:Int) 0
set_option maxHeartbeats 40000000 in
set_option maxRecDepth 100000 in
theorem impl_watched.calls (k:Nat) (a0_0:Int) (a0_1:Int) (a0_2:Int) (A0_3:Option Addr) (c0_3:Nat) (l0_3:List (SiS28)) (A0_4:Option Addr) (c0_4:Nat) (l0_4:List (SiU30)) (A0_5:Option Addr) (c0_5:Nat) (l0_5:List (SiT29)) (A0_6:Option Addr) (c0_6:Nat) (l0_6:List (SiP27)) (a1:ByteArray) (a2:Int) (r:List (SiP27)) (w:World) (hr0_3:Kd.C k70 w A0_3 l0_3.length l0_3) (hc0_3:l0_3.length ≤ c0_3) (hr0_4:Kd.C k72 w A0_4 l0_4.length l0_4) (hc0_4:l0_4.length ≤ c0_4) (hr0_5:Kd.C k44 w A0_5 l0_5.length l0_5) (hc0_5:l0_5.length ≤ c0_5) (hr0_6:Kd.C k36 w A0_6 l0_6.length l0_6) (hc0_6:l0_6.length ≤ c0_6) (h:impl_watched.f k a0_0 a0_1 a0_2 l0_3 l0_4 l0_5 l0_6 a1 a2 = some r) :
 Calls Tryz.prog 33 #[.agg #[.int .i64 a0_0,.int .i64 a0_1,.int .i64 a0_2,.slice A0_3 l0_3.length c0_3,.slice A0_4 l0_4.length c0_4,.slice A0_5 l0_5.length c0_5,.slice A0_6 l0_6.length c0_6],.string a1,.int .i64 a2] w fun e w'=>∃ v0_:Value,e = .returned (v0_) ∧ Kd.R k36 36 w' w.heap.size (fun _=>True) v0_ r ∧ Below w.heap.size w w':=by
 have hu28:=Tryz.underlying28;have hu36:=Tryz.underlying36;have HR0_3:=As0.mk hr0_3;have HC0_3:=As0.mk hc0_3;clear hr0_3 hc0_3;have HR0_4:=As0.mk hr0_4;have HC0_4:=As0.mk hc0_4;clear hr0_4 hc0_4;have HR0_5:=As0.mk hr0_5;have HC0_5:=As0.mk hc0_5;clear hr0_5 hc0_5;have HR0_6:=As0.mk hr0_6;have HC0_6:=As0.mk hc0_6;clear hr0_6 hc0_6;have HB:=As0.mk (Below.refl w.heap.size w);have H:(impl_watched.l0 k a1 a2 (([]:List (SiP27))) l0_6 (l0_6.length:Int) 0) = some r:=h;clear h;obtain ⟨y402,hy402⟩:∃ y_:List (SiP27),y_ = (([]:List (SiP27))):=⟨_,rfl⟩;replace H:(impl_watched.l0 k a1 a2 y402 l0_6 (l0_6.length:Int) 0) = some r:=by first|(rw [hy402];with_reducible exact H)|(have H2_:=(Option.bind_some _ _).symm.trans H;rw [hy402];with_reducible exact H2_)|(have H2_:=(Option.bind_some _ _).symm.trans H;with_reducible exact H2_)|with_reducible exact H|(rw [hy402];exact H)|exact H
 have Ny402:=As0.mk hy402;clear hy402;have H':=As0.mk H;clear H
 go_enter Tryz.func33,Tryz.ntmps33
 go_wp2_with (first|((with_reducible refine gate_dst (N:=3) rfl ?_);refine bE 3 #[.int .i64 a0_0,.int .i64 a0_1,.int .i64 a0_2,.slice A0_3 l0_3.length c0_3,.slice A0_4 l0_4.length c0_4,.slice A0_5 l0_5.length c0_5,.slice A0_6 l0_6.length c0_6] 28 ?_;intro gb401 hg w4 hbox hb;have BK401:=As0.mk (hbox);have GW401:=As0.mk ((by rw [hg];exact (bsz (by repeat (first|(with_reducible first|exact HB.out|apply bal|apply pbN|apply bd1)|exact HB.out))):w.heap.size ≤ gb401));have GE401:=GW401;replace HB:=As0.mk (b3 HB.out hb);clear hb hbox hg)|((with_reducible refine gate_dst (N:=10) rfl ?_);refine Kd.R_lit k36 _ 36 ?hg (N:=10) ?hd (xs:=([]:List (SiP27))) (inner:=[]) (ok:=fun _=>True) (okp:=fun _=>True) ?hr ?hp (fun _ hk=>hk) trivial (Below.refl _ _) (Nat.le_refl _) (by simp) ?_;(case hd=>rfl);(case hg=>rfl);(case hr=>first|(go_simp;done)|(go_simp;rfl));(case hp=>exact (Reps.none _ _));intro v403 w5 ho6 hb hg_ hnew_;clear hg_ hnew_;(first|rw [← Ny402.out] at ho6|(simp only [Int.reduceToNat] at ho6;rw [← Ny402.out] at ho6));have HO404:=As0.mk (Kd.R_lower ho6 (bsz (by repeat (first|(with_reducible first|exact HB.out|apply bal|apply pbN|apply bd1|refine bst ?_ GE401.out)|exact HB.out))));replace BK401:=As0.mk (bb hb BK401.out);replace HB:=As0.mk (bsp (by repeat (first|(with_reducible first|exact HB.out|apply bal|apply pbN|apply bd1|refine bst ?_ GE401.out)|exact HB.out)) hb);clear hb ho6;obtain ⟨hcz7_0,hcz7_1,hcz7_2,hcz7_3,hcz7_4,hcz7_5,hcz7_6⟩:=qc7 BK401.out;obtain ⟨hfz7_0,hfz7_1,hfz7_2,hfz7_3,hfz7_4,hfz7_5,hfz7_6⟩:=qz7 BK401.out))
 show _;go_loopg [7,14] k (fun kq v7 v14 w'=>∃ (x7_1:List (SiP27)) (x14_1:Int),v14 = .int .i64 x14_1 ∧ As0 (impl_watched.l0 kq a1 a2 x7_1 l0_6 (l0_6.length:Int) x14_1 = some r) ∧ As0 (kq ≤ k) ∧ As0 (Kd.R k36 36 w' w.heap.size (fun _=>True) v7 x7_1) ∧ As0 (w'.heap[gb401]? = some (.cells #[.int .i64 a0_0,.int .i64 a0_1,.int .i64 a0_2,(.slice A0_3 l0_3.length c0_3),(.slice A0_4 l0_4.length c0_4),(.slice A0_5 l0_5.length c0_5),(.slice A0_6 l0_6.length c0_6)] 28 (0,0))) ∧ As0 (Below w.heap.size w w'))
 case atStart=>exact ⟨(y402),(0),(by first|rfl|(simp;done)|(simp [*];done)),H',⟨Nat.le_refl _⟩,⟨by (with_reducible repeat (first|apply Kd.Ral|apply Kd.RdN|apply Kd.R_drew));exact HO404.out⟩,⟨by (with_reducible repeat (first|refine bkN ?_ _|refine bkD ?_|refine bkA ?_ _));exact BK401.out⟩,⟨by repeat (first|(with_reducible first|exact HB.out|apply bal|apply pbN|apply bd1|refine bst ?_ GE401.out)|exact HB.out)⟩⟩
 case round=>
  clear H'
  try clear p2
  try clear c3
  try clear hcz7_0
  try clear hcz7_1
  try clear hcz7_2
  try clear hcz7_3
  try clear hcz7_4
  try clear hcz7_5
  try clear hcz7_6
  try clear hfz7_0
  try clear hfz7_1
  try clear hfz7_2
  try clear hfz7_3
  try clear hfz7_4
  try clear hfz7_5
  try clear hfz7_6
  obtain ⟨x7_1,x14_1,rfl,HA,HK1,HO_7,BK401,HB⟩:=hrel
  cases gk with
  |zero=>exact absurd HA.out (by simp [impl_watched.l0])
  |succ k1=>
   have H:=HA.out;clear HA;simp only [impl_watched.l0] at H;by_cases c8:x14_1 < (l0_6.length:Int)
   · rw [if_pos c8] at H
     have c8b0:decide (x14_1 < (l0_6.length:Int)) = true:=decide_eq_true c8;clear c8;by_cases c9:0 ≤ x14_1
     · rw [if_pos c9] at H
       have c9b0:decide (0 ≤ x14_1) = true:=decide_eq_true c9;clear c9;by_cases c10:x14_1 < (l0_6.length:Int)
       · rw [if_pos c10] at H
         have c10b0:decide (x14_1 < (l0_6.length:Int)) = true:=decide_eq_true c10;clear c10;by_cases c11:((riP36 l0_6 x14_1).f2).toList = a1.toList
         · rw [if_pos c11] at H
           have c11b0:(((riP36 l0_6 x14_1).f2).toList == a1.toList) = true:=beq_iff_eq.mpr c11;have c11b1:(((riP36 l0_6 x14_1).f2).toList != a1.toList) = false:=bne_eq_false_iff_eq.mpr c11;clear c11;by_cases c12:((riP36 l0_6 x14_1).f0) > a2
           · rw [if_pos c12] at H
             have c12b0:decide (a2 < ((riP36 l0_6 x14_1).f0)) = true:=decide_eq_true c12;clear c12;by_cases c13:x7_1.length < 2513169434916
             · rw [if_pos c13] at H
               have LMc13:=As0.mk c13;clear c13;obtain ⟨y407,hy407⟩:∃ y_:List (SiP27),y_ = (x7_1 ++ [(⟨(riP36 l0_6 x14_1).f0,(riP36 l0_6 x14_1).f1,(riP36 l0_6 x14_1).f2,(riP36 l0_6 x14_1).f3⟩:SiP27)]):=⟨_,rfl⟩;replace H:(impl_watched.l0 k1 a1 a2 y407 l0_6 (l0_6.length:Int) (wrap64 (x14_1 + 1))) = some r:=by first|(rw [hy407];with_reducible exact H)|(have H2_:=(Option.bind_some _ _).symm.trans H;rw [hy407];with_reducible exact H2_)|(have H2_:=(Option.bind_some _ _).symm.trans H;with_reducible exact H2_)|with_reducible exact H|(rw [hy407];exact H)|exact H
               have Ny407:=As0.mk hy407;clear hy407;have H':=As0.mk H;clear H;have p405:0 ≤ (x14_1:Int):=odt;have q405:x14_1 < (l0_6.length:Int):=odt;obtain ⟨ad405,e405,hx405_0,hx405_1,hx405_2,hx405_3⟩:=at_T36 HR0_6.out x14_1 p405 q405
               cases e405
               replace hx405_0:=bx HB.out rfl hx405_0;replace hx405_1:=bx HB.out rfl hx405_1;replace hx405_2:=bx HB.out rfl hx405_2;replace hx405_3:=bx HB.out rfl hx405_3;replace p405:=eq_true p405;replace q405:=eq_true q405
               go_wp2_with (first|((with_reducible refine gate_dst (N:=9) rfl ?_);refine bE 9 #[.int .i64 0,.string ⟨#[]⟩,.string ⟨#[]⟩,.string ⟨#[]⟩] 36 ?_;intro gb406 hg w14 hbox hb;replace HO_7:=As0.mk (Kd.R_below (Kd.R_elderB (by (with_reducible repeat (first|apply Kd.Ral|apply Kd.RdN|apply Kd.R_drew));exact HO_7.out) gb406 (Nat.le_of_eq hg.symm)) hb);have BK406:=As0.mk (hbox);have GW406:=As0.mk ((by rw [hg];exact (bsz (by repeat (first|(with_reducible first|exact HB.out|apply bal|apply pbN|apply bd1|refine bst ?_ GE401.out)|exact HB.out))):w.heap.size ≤ gb406));have GE406:=GW406;replace HB:=As0.mk (bsp (by repeat (first|(with_reducible first|exact HB.out|apply bal|apply pbN|apply bd1|refine bst ?_ GE401.out)|exact HB.out)) hb);have NB401_406:=As0.mk ((by rw [hg];exact Nat.ne_of_lt (blk_lt (g:=gb401) (o:=.cells #[.int .i64 a0_0,.int .i64 a0_1,.int .i64 a0_2,.slice A0_3 l0_3.length c0_3,.slice A0_4 l0_4.length c0_4,.slice A0_5 l0_5.length c0_5,.slice (some ad405) l0_6.length c0_6] 28 (0,0)) (by (with_reducible repeat (first|refine bkN ?_ _|refine bkD ?_|refine bkA ?_ _));exact BK401.out)):gb401 ≠ gb406));have NB406_401:=As0.mk (Ne.symm NB401_406.out);replace BK401:=As0.mk (bb hb BK401.out);clear hb hbox hg;have hnb15:=NB406_401.out;have hnc15:=NB401_406.out;obtain ⟨hcz16_0,hcz16_1,hcz16_2,hcz16_3⟩:=qc4 BK406.out;obtain ⟨hfz16_0,hfz16_1,hfz16_2,hfz16_3⟩:=qz4 BK406.out)|((with_reducible refine gbi (b:=.append) (xs:=#[.tmp 28,.tmp 30]) rfl ?_);at_builtin;refine Kd.R_append k36 (w0:=w) w.heap.size rfl (.tmp 28) (.tmp 30) 26 36 (.agg #[(.int .i64 0),(.string ⟨#[]⟩),(.string ⟨#[]⟩),(.string ⟨#[]⟩)]) 56 rfl Tryz.underlying26 info36 rfl (by decide) (by omega) u7 x7_1 (⟨(riP36 l0_6 x14_1).f0,(riP36 l0_6 x14_1).f1,(riP36 l0_6 x14_1).f2,(riP36 l0_6 x14_1).f3⟩:SiP27) [.int .i64 ((riP36 l0_6 x14_1).f0),.string ((riP36 l0_6 x14_1).f1),.string ((riP36 l0_6 x14_1).f2),.string ((riP36 l0_6 x14_1).f3)] (fun k_=>k_ ≠ gb406) (fun _=>False) rfl (by first|(go_simp;done)|(go_simp;rfl)) ?aP (fun _ hk=>hk.elim) ?aF ?aO ?aB ?aS ?aL ?_;(case aP=>exact k36_mkM _ _ _ (⟨(riP36 l0_6 x14_1).f0,(riP36 l0_6 x14_1).f1,(riP36 l0_6 x14_1).f2,(riP36 l0_6 x14_1).f3⟩:SiP27));(case aB=>exact (by repeat (first|(with_reducible first|exact HB.out|apply bal|apply pbN|apply bd1|refine bst ?_ GE401.out|refine bst ?_ GE406.out)|exact HB.out)));(case aF=>exact (fun k_ hk=>Kd.freshB (g:=gb406) (o:=.cells #[.int .i64 ((riP36 l0_6 x14_1).f0),.string ((riP36 l0_6 x14_1).f1),.string ((riP36 l0_6 x14_1).f2),.string ((riP36 l0_6 x14_1).f3)] 36 (0,0)) (by (with_reducible repeat (first|refine bkN ?_ _|refine bkD ?_|refine bkA ?_ _));refine blk_put (cs:=#[.int .i64 ((riP36 l0_6 x14_1).f0),.string ((riP36 l0_6 x14_1).f1),.string ((riP36 l0_6 x14_1).f2),.string ⟨#[]⟩]) ?_ 3 _ rfl;(with_reducible repeat (first|refine bkN ?_ _|refine bkD ?_|refine bkA ?_ _));refine blk_put (cs:=#[.int .i64 ((riP36 l0_6 x14_1).f0),.string ((riP36 l0_6 x14_1).f1),.string ⟨#[]⟩,.string ⟨#[]⟩]) ?_ 2 _ rfl;(with_reducible repeat (first|refine bkN ?_ _|refine bkD ?_|refine bkA ?_ _));refine blk_put (cs:=#[.int .i64 ((riP36 l0_6 x14_1).f0),.string ⟨#[]⟩,.string ⟨#[]⟩,.string ⟨#[]⟩]) ?_ 1 _ rfl;(with_reducible repeat (first|refine bkN ?_ _|refine bkD ?_|refine bkA ?_ _));refine blk_put (cs:=#[.int .i64 0,.string ⟨#[]⟩,.string ⟨#[]⟩,.string ⟨#[]⟩]) ?_ 0 _ rfl;(with_reducible repeat (first|refine bkN ?_ _|refine bkD ?_|refine bkA ?_ _));exact BK406.out) k_ hk));(case aO=>exact (by (with_reducible repeat (first|apply Kd.Ral|apply Kd.RdN|apply Kd.R_drew));exact Kd.R_mono (Kd.R_far (p:=⟨gb406,3,none⟩) (Kd.R_far (p:=⟨gb406,2,none⟩) (Kd.R_far (p:=⟨gb406,1,none⟩) (Kd.R_far (p:=⟨gb406,0,none⟩) (Kd.R_mono HO_7.out (fun k_ hk=>(⟨hk,hk.2⟩:_ ∧ k_ ≠ gb406))) (fun _ hk=>hk.2) (.int .i64 ((riP36 l0_6 x14_1).f0))) (fun _ hk=>hk.2) (.string ((riP36 l0_6 x14_1).f1))) (fun _ hk=>hk.2) (.string ((riP36 l0_6 x14_1).f2))) (fun _ hk=>hk.2) (.string ((riP36 l0_6 x14_1).f3))) (fun _ hk=>hk.1.2)));(case aS=>exact (bsz (by repeat (first|(with_reducible first|exact HB.out|apply bal|apply pbN|apply bd1|refine bst ?_ GE401.out|refine bst ?_ GE406.out)|exact HB.out))));(case aL=>have:=LMc13.out;omega);intro v408 w17 ho hb hg hat;rw [← Ny407.out] at ho;replace BK401:=As0.mk (blk_grown (g:=gb401) (o:=.cells #[.int .i64 a0_0,.int .i64 a0_1,.int .i64 a0_2,.slice A0_3 l0_3.length c0_3,.slice A0_4 l0_4.length c0_4,.slice A0_5 l0_5.length c0_5,.slice (some ad405) l0_6.length c0_6] 28 (0,0)) (by (with_reducible repeat (first|refine bkN ?_ _|refine bkD ?_|refine bkA ?_ _));refine blk_far ?_ NB401_406.out _;(with_reducible repeat (first|refine bkN ?_ _|refine bkD ?_|refine bkA ?_ _));refine blk_far ?_ NB401_406.out _;(with_reducible repeat (first|refine bkN ?_ _|refine bkD ?_|refine bkA ?_ _));refine blk_far ?_ NB401_406.out _;(with_reducible repeat (first|refine bkN ?_ _|refine bkD ?_|refine bkA ?_ _));refine blk_far ?_ NB401_406.out _;(with_reducible repeat (first|refine bkN ?_ _|refine bkD ?_|refine bkA ?_ _));exact BK401.out) hg (Kd.R_ne HO_7.out BK401.out (by decide)));replace BK406:=As0.mk (blk_grown (g:=gb406) (o:=.cells #[.int .i64 ((riP36 l0_6 x14_1).f0),.string ((riP36 l0_6 x14_1).f1),.string ((riP36 l0_6 x14_1).f2),.string ((riP36 l0_6 x14_1).f3)] 36 (0,0)) (by (with_reducible repeat (first|refine bkN ?_ _|refine bkD ?_|refine bkA ?_ _));refine blk_put (cs:=#[.int .i64 ((riP36 l0_6 x14_1).f0),.string ((riP36 l0_6 x14_1).f1),.string ((riP36 l0_6 x14_1).f2),.string ⟨#[]⟩]) ?_ 3 _ rfl;(with_reducible repeat (first|refine bkN ?_ _|refine bkD ?_|refine bkA ?_ _));refine blk_put (cs:=#[.int .i64 ((riP36 l0_6 x14_1).f0),.string ((riP36 l0_6 x14_1).f1),.string ⟨#[]⟩,.string ⟨#[]⟩]) ?_ 2 _ rfl;(with_reducible repeat (first|refine bkN ?_ _|refine bkD ?_|refine bkA ?_ _));refine blk_put (cs:=#[.int .i64 ((riP36 l0_6 x14_1).f0),.string ⟨#[]⟩,.string ⟨#[]⟩,.string ⟨#[]⟩]) ?_ 1 _ rfl;(with_reducible repeat (first|refine bkN ?_ _|refine bkD ?_|refine bkA ?_ _));refine blk_put (cs:=#[.int .i64 0,.string ⟨#[]⟩,.string ⟨#[]⟩,.string ⟨#[]⟩]) ?_ 0 _ rfl;(with_reducible repeat (first|refine bkN ?_ _|refine bkD ?_|refine bkA ?_ _));exact BK406.out) hg (Kd.R_away HO_7.out (fun _ hk=>hk.2)));replace HB:=As0.mk (hb);have HO409:=As0.mk (ho);clear HO_7 ho hb hg hat))
               show _;go_roundg k1
               case measure=>have:=HK1.out;omega
               case rel=>exact ⟨(y407),(wrap64 (x14_1 + 1)),(by first|rfl|(simp;done)|(simp [*];done)),H',⟨by have:=HK1.out;omega⟩,⟨by (with_reducible repeat (first|apply Kd.Ral|apply Kd.RdN|apply Kd.R_drew));exact Kd.R_mono HO409.out (fun _ hk=>trivial)⟩,⟨by (with_reducible repeat (first|refine bkN ?_ _|refine bkD ?_|refine bkA ?_ _));exact BK401.out⟩,⟨by repeat (first|(with_reducible first|exact HB.out|apply bal|apply pbN|apply bd1|refine bst ?_ GE401.out|refine bst ?_ GE406.out)|exact HB.out)⟩⟩
             · rw [if_neg c13] at H
               exact absurd H (by simp)
           · rw [if_neg c12] at H
             have c12b0:decide (a2 < ((riP36 l0_6 x14_1).f0)) = false:=decide_eq_false c12;clear c12;have H':=As0.mk H;clear H;have p405:0 ≤ (x14_1:Int):=odt;have q405:x14_1 < (l0_6.length:Int):=odt;obtain ⟨ad405,e405,hx405_0,hx405_1,hx405_2,hx405_3⟩:=at_T36 HR0_6.out x14_1 p405 q405
             cases e405
             replace hx405_0:=bx HB.out rfl hx405_0;replace hx405_1:=bx HB.out rfl hx405_1;replace hx405_2:=bx HB.out rfl hx405_2;replace hx405_3:=bx HB.out rfl hx405_3;replace p405:=eq_true p405;replace q405:=eq_true q405
             go_wp2_with (first|((with_reducible refine gate_dst (N:=9) rfl ?_);refine bE 9 #[.int .i64 0,.string ⟨#[]⟩,.string ⟨#[]⟩,.string ⟨#[]⟩] 36 ?_;intro gb406 hg w18 hbox hb;replace HO_7:=As0.mk (Kd.R_below (Kd.R_elderB (by (with_reducible repeat (first|apply Kd.Ral|apply Kd.RdN|apply Kd.R_drew));exact HO_7.out) gb406 (Nat.le_of_eq hg.symm)) hb);have BK406:=As0.mk (hbox);have GW406:=As0.mk ((by rw [hg];exact (bsz (by repeat (first|(with_reducible first|exact HB.out|apply bal|apply pbN|apply bd1|refine bst ?_ GE401.out)|exact HB.out))):w.heap.size ≤ gb406));have GE406:=GW406;replace HB:=As0.mk (bsp (by repeat (first|(with_reducible first|exact HB.out|apply bal|apply pbN|apply bd1|refine bst ?_ GE401.out)|exact HB.out)) hb);have NB401_406:=As0.mk ((by rw [hg];exact Nat.ne_of_lt (blk_lt (g:=gb401) (o:=.cells #[.int .i64 a0_0,.int .i64 a0_1,.int .i64 a0_2,.slice A0_3 l0_3.length c0_3,.slice A0_4 l0_4.length c0_4,.slice A0_5 l0_5.length c0_5,.slice (some ad405) l0_6.length c0_6] 28 (0,0)) (by (with_reducible repeat (first|refine bkN ?_ _|refine bkD ?_|refine bkA ?_ _));exact BK401.out)):gb401 ≠ gb406));have NB406_401:=As0.mk (Ne.symm NB401_406.out);replace BK401:=As0.mk (bb hb BK401.out);clear hb hbox hg;have hnb19:=NB406_401.out;have hnc19:=NB401_406.out;obtain ⟨hcz20_0,hcz20_1,hcz20_2,hcz20_3⟩:=qc4 BK406.out;obtain ⟨hfz20_0,hfz20_1,hfz20_2,hfz20_3⟩:=qz4 BK406.out))
             show _;go_roundg k1
             case measure=>have:=HK1.out;omega
             case rel=>exact ⟨(x7_1),(wrap64 (x14_1 + 1)),(by first|rfl|(simp;done)|(simp [*];done)),H',⟨by have:=HK1.out;omega⟩,⟨by (with_reducible repeat (first|apply Kd.Ral|apply Kd.RdN|apply Kd.R_drew));exact Kd.R_mono (Kd.R_far (p:=⟨gb406,3,none⟩) (Kd.R_far (p:=⟨gb406,2,none⟩) (Kd.R_far (p:=⟨gb406,1,none⟩) (Kd.R_far (p:=⟨gb406,0,none⟩) (Kd.R_mono HO_7.out (fun k_ hk=>(⟨hk,hk.2⟩:_ ∧ k_ ≠ gb406))) (fun _ hk=>hk.2) (.int .i64 ((riP36 l0_6 x14_1).f0))) (fun _ hk=>hk.2) (.string ((riP36 l0_6 x14_1).f1))) (fun _ hk=>hk.2) (.string ((riP36 l0_6 x14_1).f2))) (fun _ hk=>hk.2) (.string ((riP36 l0_6 x14_1).f3))) (fun _ hk=>trivial)⟩,⟨by (with_reducible repeat (first|refine bkN ?_ _|refine bkD ?_|refine bkA ?_ _));refine blk_far ?_ NB401_406.out _;(with_reducible repeat (first|refine bkN ?_ _|refine bkD ?_|refine bkA ?_ _));refine blk_far ?_ NB401_406.out _;(with_reducible repeat (first|refine bkN ?_ _|refine bkD ?_|refine bkA ?_ _));refine blk_far ?_ NB401_406.out _;(with_reducible repeat (first|refine bkN ?_ _|refine bkD ?_|refine bkA ?_ _));refine blk_far ?_ NB401_406.out _;(with_reducible repeat (first|refine bkN ?_ _|refine bkD ?_|refine bkA ?_ _));exact BK401.out⟩,⟨by repeat (first|(with_reducible first|exact HB.out|apply bal|apply pbN|apply bd1|refine bst ?_ GE401.out|refine bst ?_ GE406.out)|exact HB.out)⟩⟩
         · rw [if_neg c11] at H
           have c11b0:(((riP36 l0_6 x14_1).f2).toList == a1.toList) = false:=beq_eq_false_iff_ne.mpr c11;have c11b1:(((riP36 l0_6 x14_1).f2).toList != a1.toList) = true:=bne_iff_ne.mpr c11;have H':=As0.mk H;clear H;have p405:0 ≤ (x14_1:Int):=odt;have q405:x14_1 < (l0_6.length:Int):=odt;obtain ⟨ad405,e405,hx405_0,hx405_1,hx405_2,hx405_3⟩:=at_T36 HR0_6.out x14_1 p405 q405
           cases e405
           replace hx405_0:=bx HB.out rfl hx405_0;replace hx405_1:=bx HB.out rfl hx405_1;replace hx405_2:=bx HB.out rfl hx405_2;replace hx405_3:=bx HB.out rfl hx405_3;replace p405:=eq_true p405;replace q405:=eq_true q405
           go_wp2_with (first|((with_reducible refine gate_dst (N:=9) rfl ?_);refine bE 9 #[.int .i64 0,.string ⟨#[]⟩,.string ⟨#[]⟩,.string ⟨#[]⟩] 36 ?_;intro gb406 hg w21 hbox hb;replace HO_7:=As0.mk (Kd.R_below (Kd.R_elderB (by (with_reducible repeat (first|apply Kd.Ral|apply Kd.RdN|apply Kd.R_drew));exact HO_7.out) gb406 (Nat.le_of_eq hg.symm)) hb);have BK406:=As0.mk (hbox);have GW406:=As0.mk ((by rw [hg];exact (bsz (by repeat (first|(with_reducible first|exact HB.out|apply bal|apply pbN|apply bd1|refine bst ?_ GE401.out)|exact HB.out))):w.heap.size ≤ gb406));have GE406:=GW406;replace HB:=As0.mk (bsp (by repeat (first|(with_reducible first|exact HB.out|apply bal|apply pbN|apply bd1|refine bst ?_ GE401.out)|exact HB.out)) hb);have NB401_406:=As0.mk ((by rw [hg];exact Nat.ne_of_lt (blk_lt (g:=gb401) (o:=.cells #[.int .i64 a0_0,.int .i64 a0_1,.int .i64 a0_2,.slice A0_3 l0_3.length c0_3,.slice A0_4 l0_4.length c0_4,.slice A0_5 l0_5.length c0_5,.slice (some ad405) l0_6.length c0_6] 28 (0,0)) (by (with_reducible repeat (first|refine bkN ?_ _|refine bkD ?_|refine bkA ?_ _));exact BK401.out)):gb401 ≠ gb406));have NB406_401:=As0.mk (Ne.symm NB401_406.out);replace BK401:=As0.mk (bb hb BK401.out);clear hb hbox hg;have hnb22:=NB406_401.out;have hnc22:=NB401_406.out;obtain ⟨hcz23_0,hcz23_1,hcz23_2,hcz23_3⟩:=qc4 BK406.out;obtain ⟨hfz23_0,hfz23_1,hfz23_2,hfz23_3⟩:=qz4 BK406.out))
           show _;go_roundg k1
           case measure=>have:=HK1.out;omega
           case rel=>exact ⟨(x7_1),(wrap64 (x14_1 + 1)),(by first|rfl|(simp;done)|(simp [*];done)),H',⟨by have:=HK1.out;omega⟩,⟨by (with_reducible repeat (first|apply Kd.Ral|apply Kd.RdN|apply Kd.R_drew));exact Kd.R_mono (Kd.R_far (p:=⟨gb406,3,none⟩) (Kd.R_far (p:=⟨gb406,2,none⟩) (Kd.R_far (p:=⟨gb406,1,none⟩) (Kd.R_far (p:=⟨gb406,0,none⟩) (Kd.R_mono HO_7.out (fun k_ hk=>(⟨hk,hk.2⟩:_ ∧ k_ ≠ gb406))) (fun _ hk=>hk.2) (.int .i64 ((riP36 l0_6 x14_1).f0))) (fun _ hk=>hk.2) (.string ((riP36 l0_6 x14_1).f1))) (fun _ hk=>hk.2) (.string ((riP36 l0_6 x14_1).f2))) (fun _ hk=>hk.2) (.string ((riP36 l0_6 x14_1).f3))) (fun _ hk=>trivial)⟩,⟨by (with_reducible repeat (first|refine bkN ?_ _|refine bkD ?_|refine bkA ?_ _));refine blk_far ?_ NB401_406.out _;(with_reducible repeat (first|refine bkN ?_ _|refine bkD ?_|refine bkA ?_ _));refine blk_far ?_ NB401_406.out _;(with_reducible repeat (first|refine bkN ?_ _|refine bkD ?_|refine bkA ?_ _));refine blk_far ?_ NB401_406.out _;(with_reducible repeat (first|refine bkN ?_ _|refine bkD ?_|refine bkA ?_ _));refine blk_far ?_ NB401_406.out _;(with_reducible repeat (first|refine bkN ?_ _|refine bkD ?_|refine bkA ?_ _));exact BK401.out⟩,⟨by repeat (first|(with_reducible first|exact HB.out|apply bal|apply pbN|apply bd1|refine bst ?_ GE401.out|refine bst ?_ GE406.out)|exact HB.out)⟩⟩
       · rw [if_neg c10] at H
         exact absurd H (by simp)
     · rw [if_neg c9] at H
       exact absurd H (by simp)
   · rw [if_neg c8] at H
     have c8b0:decide (x14_1 < (l0_6.length:Int)) = false:=decide_eq_false c8;clear c8;obtain rfl:=Option.some.inj H
     go_wp2
     go_ret
     exact ⟨_,by first|rfl|(simp [errW_none,errW_some] <;> rfl)|(simp [*,errW_none,errW_some] <;> rfl),by (with_reducible repeat (first|apply Kd.Ral|apply Kd.RdN|apply Kd.R_drew));exact HO_7.out,by repeat (first|(with_reducible first|exact HB.out|apply bal|apply pbN|apply bd1|refine bst ?_ GE401.out)|exact HB.out)⟩
def impl_ModelWatch.f (k:Nat) (a0_0:Int) (a0_1:Int) (a0_2:Int) (l0_3:List (SiS28)) (l0_4:List (SiU30)) (l0_5:List (SiT29)) (l0_6:List (SiP27)) (a1:ByteArray) (a2:Int):Option ((List (SiP27)) × Bool):=(impl_isModel.f k a0_0 a0_1 a0_2 l0_3 l0_4 l0_5 l0_6).bind fun t411=>(if t411 = true then (if a2 < a0_2 then (some (([]:List (SiP27)),false)) else ((impl_watched.f k a0_0 a0_1 a0_2 l0_3 l0_4 l0_5 l0_6 a1 a2).bind fun t412=>(some (t412,true)))) else (some (([]:List (SiP27)),false)))
set_option maxHeartbeats 40000000 in
set_option maxRecDepth 100000 in
theorem impl_ModelWatch.calls (k:Nat) (a0_0:Int) (a0_1:Int) (a0_2:Int) (A0_3:Option Addr) (c0_3:Nat) (l0_3:List (SiS28)) (A0_4:Option Addr) (c0_4:Nat) (l0_4:List (SiU30)) (A0_5:Option Addr) (c0_5:Nat) (l0_5:List (SiT29)) (A0_6:Option Addr) (c0_6:Nat) (l0_6:List (SiP27)) (a1:ByteArray) (a2:Int) (r1:List (SiP27)) (r2:Bool) (w:World) (hr0_3:Kd.C k70 w A0_3 l0_3.length l0_3) (hc0_3:l0_3.length ≤ c0_3) (hr0_4:Kd.C k72 w A0_4 l0_4.length l0_4) (hc0_4:l0_4.length ≤ c0_4) (hr0_5:Kd.C k44 w A0_5 l0_5.length l0_5) (hc0_5:l0_5.length ≤ c0_5) (hr0_6:Kd.C k36 w A0_6 l0_6.length l0_6) (hc0_6:l0_6.length ≤ c0_6) (h:impl_ModelWatch.f k a0_0 a0_1 a0_2 l0_3 l0_4 l0_5 l0_6 a1 a2 = some (r1,r2)) :
 Calls Tryz.prog 8 #[.agg #[.int .i64 a0_0,.int .i64 a0_1,.int .i64 a0_2,.slice A0_3 l0_3.length c0_3,.slice A0_4 l0_4.length c0_4,.slice A0_5 l0_5.length c0_5,.slice A0_6 l0_6.length c0_6],.string a1,.int .i64 a2] w fun e w'=>∃ v0_:Value,e = .returned (.tuple #[v0_,.bool r2]) ∧ Kd.R k36 36 w' w.heap.size (fun _=>True) v0_ r1 ∧ Below w.heap.size w w':=by
 have hu28:=Tryz.underlying28;have HR0_3:=As0.mk hr0_3;have HC0_3:=As0.mk hc0_3;clear hr0_3 hc0_3;have HR0_4:=As0.mk hr0_4;have HC0_4:=As0.mk hc0_4;clear hr0_4 hc0_4;have HR0_5:=As0.mk hr0_5;have HC0_5:=As0.mk hc0_5;clear hr0_5 hc0_5;have HR0_6:=As0.mk hr0_6;have HC0_6:=As0.mk hc0_6;clear hr0_6 hc0_6;have HB:=As0.mk (Below.refl w.heap.size w);have H:((impl_isModel.f k a0_0 a0_1 a0_2 l0_3 l0_4 l0_5 l0_6).bind fun t411=>(if t411 = true then (if a2 < a0_2 then (some (([]:List (SiP27)),false)) else ((impl_watched.f k a0_0 a0_1 a0_2 l0_3 l0_4 l0_5 l0_6 a1 a2).bind fun t412=>(some (t412,true)))) else (some (([]:List (SiP27)),false)))) = some (r1,r2):=h;clear h;replace H:=Option.bind_eq_some_iff.mp H;obtain ⟨t411,A40,H⟩:=H;(try dsimp only at H);have A4:=As0.mk A40;clear A40;by_cases c5:t411 = true
 · subst c5
   have H1:(if a2 < a0_2 then (some (([]:List (SiP27)),false)) else ((impl_watched.f k a0_0 a0_1 a0_2 l0_3 l0_4 l0_5 l0_6 a1 a2).bind fun t412=>(some (t412,true)))) = some (r1,r2):=by rw [if_pos rfl] at H;exact H
   clear H;have H:=H1;clear H1;by_cases c6:a2 < a0_2
   · rw [if_pos c6] at H
     have c6b0:decide (a2 < a0_2) = true:=decide_eq_true c6;clear c6;simp only [Option.some.injEq,Prod.mk.injEq] at H;obtain ⟨rfl,rfl⟩:=H
     go_enter Tryz.func8,Tryz.ntmps8
     go_wp2_with (first|((with_reducible refine gate_dst (N:=3) rfl ?_);refine bE 3 #[.int .i64 a0_0,.int .i64 a0_1,.int .i64 a0_2,.slice A0_3 l0_3.length c0_3,.slice A0_4 l0_4.length c0_4,.slice A0_5 l0_5.length c0_5,.slice A0_6 l0_6.length c0_6] 28 ?_;intro gb410 hg w7 hbox hb;have BK410:=As0.mk (hbox);have GW410:=As0.mk ((by rw [hg];exact (bsz (by repeat (first|(with_reducible first|exact HB.out|apply bal|apply pbN|apply bd1)|exact HB.out))):w.heap.size ≤ gb410));have GE410:=GW410;replace HB:=As0.mk (b3 HB.out hb);clear hb hbox hg;obtain ⟨hcz8_0,hcz8_1,hcz8_2,hcz8_3,hcz8_4,hcz8_5,hcz8_6⟩:=qc7 BK410.out;obtain ⟨hfz8_0,hfz8_1,hfz8_2,hfz8_3,hfz8_4,hfz8_5,hfz8_6⟩:=qz7 BK410.out)|((with_reducible refine gca (f:=32) rfl ?_);refine gL (some 9) Tryz.func32 #[.agg #[.int .i64 a0_0,.int .i64 a0_1,.int .i64 a0_2,.slice A0_3 l0_3.length c0_3,.slice A0_4 l0_4.length c0_4,.slice A0_5 l0_5.length c0_5,.slice A0_6 l0_6.length c0_6]] ?_;(with_reducible refine (impl_isModel.calls k a0_0 a0_1 a0_2 _ _ l0_3 _ _ l0_4 _ _ l0_5 _ _ l0_6 true _ ?side1 ?side2 ?side3 ?side4 ?side5 ?side6 ?side7 ?side8 A4.out).mono ?_);(case side1=>repeat (first|exact (Kd.C_below HR0_3.out HB.out)|(with_reducible first|refine Kd.C_alloc ?_ _|refine Kd.C_drewN ?_ _|refine Kd.C_drew ?_)));(case side2=>exact HC0_3.out);(case side3=>repeat (first|exact (Kd.C_below HR0_4.out HB.out)|(with_reducible first|refine Kd.C_alloc ?_ _|refine Kd.C_drewN ?_ _|refine Kd.C_drew ?_)));(case side4=>exact HC0_4.out);(case side5=>repeat (first|exact (Kd.C_below HR0_5.out HB.out)|(with_reducible first|refine Kd.C_alloc ?_ _|refine Kd.C_drewN ?_ _|refine Kd.C_drew ?_)));(case side6=>exact HC0_5.out);(case side7=>repeat (first|exact (Kd.C_below HR0_6.out HB.out)|(with_reducible first|refine Kd.C_alloc ?_ _|refine Kd.C_drewN ?_ _|refine Kd.C_drew ?_)));(case side8=>exact HC0_6.out);rintro e w9 ⟨rfl,hb⟩;refine ⟨_,rfl,?_⟩;replace BK410:=As0.mk (bb hb BK410.out);replace HB:=As0.mk (bsp (by repeat (first|(with_reducible first|exact HB.out|apply bal|apply pbN|apply bd1|refine bst ?_ GE410.out)|exact HB.out)) hb);clear hb;obtain ⟨hcz10_0,hcz10_1,hcz10_2,hcz10_3,hcz10_4,hcz10_5,hcz10_6⟩:=qc7 BK410.out;obtain ⟨hfz10_0,hfz10_1,hfz10_2,hfz10_3,hfz10_4,hfz10_5,hfz10_6⟩:=qz7 BK410.out))
     go_ret2
     exact ⟨_,by first|rfl|(simp [errW_none,errW_some] <;> rfl)|(simp [*,errW_none,errW_some] <;> rfl),by first|exact Kd.R_nil _ _ _ _ _|exact Kd.N_nil _ _ _ _ _|exact Kd.V_nil _ _ _ _ _|exact Kd.Q_nil _ _ _ _ _|exact Kd.S_nil _ _ _ _ _,by repeat (first|(with_reducible first|exact HB.out|apply bal|apply pbN|apply bd1|refine bst ?_ GE410.out)|exact HB.out)⟩
   · rw [if_neg c6] at H
     have c6b0:decide (a2 < a0_2) = false:=decide_eq_false c6;clear c6;replace H:=Option.bind_eq_some_iff.mp H;obtain ⟨t412,A110,H⟩:=H;(try dsimp only at H);have A11:=As0.mk A110;clear A110;simp only [Option.some.injEq,Prod.mk.injEq] at H;obtain ⟨rfl,rfl⟩:=H
     go_enter Tryz.func8,Tryz.ntmps8
     go_wp2_with (first|((with_reducible refine gate_dst (N:=3) rfl ?_);refine bE 3 #[.int .i64 a0_0,.int .i64 a0_1,.int .i64 a0_2,.slice A0_3 l0_3.length c0_3,.slice A0_4 l0_4.length c0_4,.slice A0_5 l0_5.length c0_5,.slice A0_6 l0_6.length c0_6] 28 ?_;intro gb410 hg w12 hbox hb;have BK410:=As0.mk (hbox);have GW410:=As0.mk ((by rw [hg];exact (bsz (by repeat (first|(with_reducible first|exact HB.out|apply bal|apply pbN|apply bd1)|exact HB.out))):w.heap.size ≤ gb410));have GE410:=GW410;replace HB:=As0.mk (b3 HB.out hb);clear hb hbox hg;obtain ⟨hcz13_0,hcz13_1,hcz13_2,hcz13_3,hcz13_4,hcz13_5,hcz13_6⟩:=qc7 BK410.out;obtain ⟨hfz13_0,hfz13_1,hfz13_2,hfz13_3,hfz13_4,hfz13_5,hfz13_6⟩:=qz7 BK410.out)|((with_reducible refine gca (f:=32) rfl ?_);refine gL (some 9) Tryz.func32 #[.agg #[.int .i64 a0_0,.int .i64 a0_1,.int .i64 a0_2,.slice A0_3 l0_3.length c0_3,.slice A0_4 l0_4.length c0_4,.slice A0_5 l0_5.length c0_5,.slice A0_6 l0_6.length c0_6]] ?_;(with_reducible refine (impl_isModel.calls k a0_0 a0_1 a0_2 _ _ l0_3 _ _ l0_4 _ _ l0_5 _ _ l0_6 true _ ?side1 ?side2 ?side3 ?side4 ?side5 ?side6 ?side7 ?side8 A4.out).mono ?_);(case side1=>repeat (first|exact (Kd.C_below HR0_3.out HB.out)|(with_reducible first|refine Kd.C_alloc ?_ _|refine Kd.C_drewN ?_ _|refine Kd.C_drew ?_)));(case side2=>exact HC0_3.out);(case side3=>repeat (first|exact (Kd.C_below HR0_4.out HB.out)|(with_reducible first|refine Kd.C_alloc ?_ _|refine Kd.C_drewN ?_ _|refine Kd.C_drew ?_)));(case side4=>exact HC0_4.out);(case side5=>repeat (first|exact (Kd.C_below HR0_5.out HB.out)|(with_reducible first|refine Kd.C_alloc ?_ _|refine Kd.C_drewN ?_ _|refine Kd.C_drew ?_)));(case side6=>exact HC0_5.out);(case side7=>repeat (first|exact (Kd.C_below HR0_6.out HB.out)|(with_reducible first|refine Kd.C_alloc ?_ _|refine Kd.C_drewN ?_ _|refine Kd.C_drew ?_)));(case side8=>exact HC0_6.out);rintro e w14 ⟨rfl,hb⟩;refine ⟨_,rfl,?_⟩;replace BK410:=As0.mk (bb hb BK410.out);replace HB:=As0.mk (bsp (by repeat (first|(with_reducible first|exact HB.out|apply bal|apply pbN|apply bd1|refine bst ?_ GE410.out)|exact HB.out)) hb);clear hb;obtain ⟨hcz15_0,hcz15_1,hcz15_2,hcz15_3,hcz15_4,hcz15_5,hcz15_6⟩:=qc7 BK410.out;obtain ⟨hfz15_0,hfz15_1,hfz15_2,hfz15_3,hfz15_4,hfz15_5,hfz15_6⟩:=qz7 BK410.out)|((with_reducible refine gca (f:=33) rfl ?_);refine gL (some 20) Tryz.func33 #[.agg #[.int .i64 a0_0,.int .i64 a0_1,.int .i64 a0_2,.slice A0_3 l0_3.length c0_3,.slice A0_4 l0_4.length c0_4,.slice A0_5 l0_5.length c0_5,.slice A0_6 l0_6.length c0_6],.string a1,.int .i64 a2] ?_;(with_reducible refine (impl_watched.calls k a0_0 a0_1 a0_2 _ _ l0_3 _ _ l0_4 _ _ l0_5 _ _ l0_6 a1 a2 t412 _ ?side1 ?side2 ?side3 ?side4 ?side5 ?side6 ?side7 ?side8 A11.out).mono ?_);(case side1=>repeat (first|exact (Kd.C_below HR0_3.out HB.out)|(with_reducible first|refine Kd.C_alloc ?_ _|refine Kd.C_drewN ?_ _|refine Kd.C_drew ?_)));(case side2=>exact HC0_3.out);(case side3=>repeat (first|exact (Kd.C_below HR0_4.out HB.out)|(with_reducible first|refine Kd.C_alloc ?_ _|refine Kd.C_drewN ?_ _|refine Kd.C_drew ?_)));(case side4=>exact HC0_4.out);(case side5=>repeat (first|exact (Kd.C_below HR0_5.out HB.out)|(with_reducible first|refine Kd.C_alloc ?_ _|refine Kd.C_drewN ?_ _|refine Kd.C_drew ?_)));(case side6=>exact HC0_5.out);(case side7=>repeat (first|exact (Kd.C_below HR0_6.out HB.out)|(with_reducible first|refine Kd.C_alloc ?_ _|refine Kd.C_drewN ?_ _|refine Kd.C_drew ?_)));(case side8=>exact HC0_6.out);rintro e w16 ⟨v413,rfl,ho0,hb⟩;refine ⟨_,rfl,?_⟩;have HO414:=As0.mk (Kd.R_lower ho0 (bsz (by repeat (first|(with_reducible first|exact HB.out|apply bal|apply pbN|apply bd1|refine bst ?_ GE410.out)|exact HB.out))));replace BK410:=As0.mk (bb hb BK410.out);replace HB:=As0.mk (bsp (by repeat (first|(with_reducible first|exact HB.out|apply bal|apply pbN|apply bd1|refine bst ?_ GE410.out)|exact HB.out)) hb);clear hb ho0))
     go_ret2
     exact ⟨_,by first|rfl|(simp [errW_none,errW_some] <;> rfl)|(simp [*,errW_none,errW_some] <;> rfl),by (with_reducible repeat (first|apply Kd.Ral|apply Kd.RdN|apply Kd.R_drew));exact HO414.out,by repeat (first|(with_reducible first|exact HB.out|apply bal|apply pbN|apply bd1|refine bst ?_ GE410.out)|exact HB.out)⟩
 · replace c5:=Bool.eq_false_iff.mpr c5
   subst c5;have H1:(some (([]:List (SiP27)),false)) = some (r1,r2):=by rw [if_neg (show ¬ (false = true) by decide)] at H;exact H
   clear H;have H:=H1;clear H1;simp only [Option.some.injEq,Prod.mk.injEq] at H;obtain ⟨rfl,rfl⟩:=H
   go_enter Tryz.func8,Tryz.ntmps8
   go_wp2_with (first|((with_reducible refine gate_dst (N:=3) rfl ?_);refine bE 3 #[.int .i64 a0_0,.int .i64 a0_1,.int .i64 a0_2,.slice A0_3 l0_3.length c0_3,.slice A0_4 l0_4.length c0_4,.slice A0_5 l0_5.length c0_5,.slice A0_6 l0_6.length c0_6] 28 ?_;intro gb410 hg w17 hbox hb;have BK410:=As0.mk (hbox);have GW410:=As0.mk ((by rw [hg];exact (bsz (by repeat (first|(with_reducible first|exact HB.out|apply bal|apply pbN|apply bd1)|exact HB.out))):w.heap.size ≤ gb410));have GE410:=GW410;replace HB:=As0.mk (b3 HB.out hb);clear hb hbox hg;obtain ⟨hcz18_0,hcz18_1,hcz18_2,hcz18_3,hcz18_4,hcz18_5,hcz18_6⟩:=qc7 BK410.out;obtain ⟨hfz18_0,hfz18_1,hfz18_2,hfz18_3,hfz18_4,hfz18_5,hfz18_6⟩:=qz7 BK410.out)|((with_reducible refine gca (f:=32) rfl ?_);refine gL (some 9) Tryz.func32 #[.agg #[.int .i64 a0_0,.int .i64 a0_1,.int .i64 a0_2,.slice A0_3 l0_3.length c0_3,.slice A0_4 l0_4.length c0_4,.slice A0_5 l0_5.length c0_5,.slice A0_6 l0_6.length c0_6]] ?_;(with_reducible refine (impl_isModel.calls k a0_0 a0_1 a0_2 _ _ l0_3 _ _ l0_4 _ _ l0_5 _ _ l0_6 false _ ?side1 ?side2 ?side3 ?side4 ?side5 ?side6 ?side7 ?side8 A4.out).mono ?_);(case side1=>repeat (first|exact (Kd.C_below HR0_3.out HB.out)|(with_reducible first|refine Kd.C_alloc ?_ _|refine Kd.C_drewN ?_ _|refine Kd.C_drew ?_)));(case side2=>exact HC0_3.out);(case side3=>repeat (first|exact (Kd.C_below HR0_4.out HB.out)|(with_reducible first|refine Kd.C_alloc ?_ _|refine Kd.C_drewN ?_ _|refine Kd.C_drew ?_)));(case side4=>exact HC0_4.out);(case side5=>repeat (first|exact (Kd.C_below HR0_5.out HB.out)|(with_reducible first|refine Kd.C_alloc ?_ _|refine Kd.C_drewN ?_ _|refine Kd.C_drew ?_)));(case side6=>exact HC0_5.out);(case side7=>repeat (first|exact (Kd.C_below HR0_6.out HB.out)|(with_reducible first|refine Kd.C_alloc ?_ _|refine Kd.C_drewN ?_ _|refine Kd.C_drew ?_)));(case side8=>exact HC0_6.out);rintro e w19 ⟨rfl,hb⟩;refine ⟨_,rfl,?_⟩;replace BK410:=As0.mk (bb hb BK410.out);replace HB:=As0.mk (bsp (by repeat (first|(with_reducible first|exact HB.out|apply bal|apply pbN|apply bd1|refine bst ?_ GE410.out)|exact HB.out)) hb);clear hb))
   go_ret2
   exact ⟨_,by first|rfl|(simp [errW_none,errW_some] <;> rfl)|(simp [*,errW_none,errW_some] <;> rfl),by first|exact Kd.R_nil _ _ _ _ _|exact Kd.N_nil _ _ _ _ _|exact Kd.V_nil _ _ _ _ _|exact Kd.Q_nil _ _ _ _ _|exact Kd.S_nil _ _ _ _ _,by repeat (first|(with_reducible first|exact HB.out|apply bal|apply pbN|apply bd1|refine bst ?_ GE410.out)|exact HB.out)⟩
def spec_l10Watch.l0:Nat → ByteArray → Int → List (SiP27) → Int → Int → Int → Int → List (SiS28) → List (SiU30) → List (SiT29) → List (SiP27) → Option ((List (SiP27)) × Bool)
 |0,_,_,_,_,_,_,_,_,_,_,_=>none
 |k + 1,x1,x2,x8,x9,x416000,x416001,x416002,x416003,x416004,x416005,x416006=>if x9 < (x416006.length:Int) then (if 0 ≤ x9 then (if ((riP36 x416006 x9).f0) > x2 then (if ((riP36 x416006 x9).f2).toList = x1.toList then (if x8.length < 2513169434916 then (spec_l10Watch.l0 k x1 x2 (x8 ++ [(⟨(riP36 x416006 x9).f0,(riP36 x416006 x9).f1,(riP36 x416006 x9).f2,(riP36 x416006 x9).f3⟩:SiP27)]) (wrap64 (x9 + 1)) x416000 x416001 x416002 x416003 x416004 x416005 x416006) else (none)) else (spec_l10Watch.l0 k x1 x2 x8 (wrap64 (x9 + 1)) x416000 x416001 x416002 x416003 x416004 x416005 x416006)) else (spec_l10Watch.l0 k x1 x2 x8 (wrap64 (x9 + 1)) x416000 x416001 x416002 x416003 x416004 x416005 x416006)) else (none)) else (some (x8,true))
def spec_l10Watch.f (k:Nat) (a0_0:Int) (a0_1:Int) (a0_2:Int) (l0_3:List (SiS28)) (l0_4:List (SiU30)) (l0_5:List (SiT29)) (l0_6:List (SiP27)) (a1:ByteArray) (a2:Int):Option ((List (SiP27)) × Bool):=(some (([]:List (SiP27)):List (SiP27))).bind fun y416=>(if a2 < a0_2 then (some (y416,false)) else (spec_l10Watch.l0 k a1 a2 y416 0 a0_0 a0_1 a0_2 l0_3 l0_4 l0_5 l0_6))
set_option maxHeartbeats 40000000 in
set_option maxRecDepth 100000 in
theorem spec_l10Watch.calls (k:Nat) (a0_0:Int) (a0_1:Int) (a0_2:Int) (A0_3:Option Addr) (c0_3:Nat) (l0_3:List (SiS28)) (A0_4:Option Addr) (c0_4:Nat) (l0_4:List (SiU30)) (A0_5:Option Addr) (c0_5:Nat) (l0_5:List (SiT29)) (A0_6:Option Addr) (c0_6:Nat) (l0_6:List (SiP27)) (a1:ByteArray) (a2:Int) (r1:List (SiP27)) (r2:Bool) (w:World) (hr0_3:Kd.C k70 w A0_3 l0_3.length l0_3) (hc0_3:l0_3.length ≤ c0_3) (hr0_4:Kd.C k72 w A0_4 l0_4.length l0_4) (hc0_4:l0_4.length ≤ c0_4) (hr0_5:Kd.C k44 w A0_5 l0_5.length l0_5) (hc0_5:l0_5.length ≤ c0_5) (hr0_6:Kd.C k36 w A0_6 l0_6.length l0_6) (hc0_6:l0_6.length ≤ c0_6) (h:spec_l10Watch.f k a0_0 a0_1 a0_2 l0_3 l0_4 l0_5 l0_6 a1 a2 = some (r1,r2)) :
 Calls Tryz.prog 34 #[.agg #[.int .i64 a0_0,.int .i64 a0_1,.int .i64 a0_2,.slice A0_3 l0_3.length c0_3,.slice A0_4 l0_4.length c0_4,.slice A0_5 l0_5.length c0_5,.slice A0_6 l0_6.length c0_6],.string a1,.int .i64 a2] w fun e w'=>∃ v0_:Value,e = .returned (.tuple #[v0_,.bool r2]) ∧ Kd.R k36 36 w' w.heap.size (fun _=>True) v0_ r1 ∧ Below w.heap.size w w':=by
 have hu28:=Tryz.underlying28;have hu36:=Tryz.underlying36;have HR0_3:=As0.mk hr0_3;have HC0_3:=As0.mk hc0_3;clear hr0_3 hc0_3;have HR0_4:=As0.mk hr0_4;have HC0_4:=As0.mk hc0_4;clear hr0_4 hc0_4;have HR0_5:=As0.mk hr0_5;have HC0_5:=As0.mk hc0_5;clear hr0_5 hc0_5;have HR0_6:=As0.mk hr0_6;have HC0_6:=As0.mk hc0_6;clear hr0_6 hc0_6;have HB:=As0.mk (Below.refl w.heap.size w);have H:((some (([]:List (SiP27)):List (SiP27))).bind fun y416=>(if a2 < a0_2 then (some (y416,false)) else (spec_l10Watch.l0 k a1 a2 y416 0 a0_0 a0_1 a0_2 l0_3 l0_4 l0_5 l0_6))) = some (r1,r2):=h;clear h;obtain ⟨y416,hy416⟩:∃ y_:List (SiP27),y_ = (([]:List (SiP27))):=⟨_,rfl⟩;replace H:(if a2 < a0_2 then (some (y416,false)) else (spec_l10Watch.l0 k a1 a2 y416 0 a0_0 a0_1 a0_2 l0_3 l0_4 l0_5 l0_6)) = some (r1,r2):=by first|(rw [hy416];with_reducible exact H)|(have H2_:=(Option.bind_some _ _).symm.trans H;rw [hy416];with_reducible exact H2_)|(have H2_:=(Option.bind_some _ _).symm.trans H;with_reducible exact H2_)|with_reducible exact H|(rw [hy416];exact H)|exact H
 have Ny416:=As0.mk hy416;clear hy416;by_cases c4:a2 < a0_2
 · rw [if_pos c4] at H
   have c4b0:decide (a2 < a0_2) = true:=decide_eq_true c4;clear c4;simp only [Option.some.injEq,Prod.mk.injEq] at H;obtain ⟨rfl,rfl⟩:=H
   go_enter Tryz.func34,Tryz.ntmps34
   go_wp2_with (first|((with_reducible refine gate_dst (N:=3) rfl ?_);refine bE 3 #[.int .i64 a0_0,.int .i64 a0_1,.int .i64 a0_2,.slice A0_3 l0_3.length c0_3,.slice A0_4 l0_4.length c0_4,.slice A0_5 l0_5.length c0_5,.slice A0_6 l0_6.length c0_6] 28 ?_;intro gb415 hg w5 hbox hb;have BK415:=As0.mk (hbox);have GW415:=As0.mk ((by rw [hg];exact (bsz (by repeat (first|(with_reducible first|exact HB.out|apply bal|apply pbN|apply bd1)|exact HB.out))):w.heap.size ≤ gb415));have GE415:=GW415;replace HB:=As0.mk (b3 HB.out hb);clear hb hbox hg)|((with_reducible refine gate_dst (N:=10) rfl ?_);refine Kd.R_lit k36 _ 36 ?hg (N:=10) ?hd (xs:=([]:List (SiP27))) (inner:=[]) (ok:=fun _=>True) (okp:=fun _=>True) ?hr ?hp (fun _ hk=>hk) trivial (Below.refl _ _) (Nat.le_refl _) (by simp) ?_;(case hd=>rfl);(case hg=>rfl);(case hr=>first|(go_simp;done)|(go_simp;rfl));(case hp=>exact (Reps.none _ _));intro v417 w6 ho7 hb hg_ hnew_;clear hg_ hnew_;(first|rw [← Ny416.out] at ho7|(simp only [Int.reduceToNat] at ho7;rw [← Ny416.out] at ho7));have HO418:=As0.mk (Kd.R_lower ho7 (bsz (by repeat (first|(with_reducible first|exact HB.out|apply bal|apply pbN|apply bd1|refine bst ?_ GE415.out)|exact HB.out))));replace BK415:=As0.mk (bb hb BK415.out);replace HB:=As0.mk (bsp (by repeat (first|(with_reducible first|exact HB.out|apply bal|apply pbN|apply bd1|refine bst ?_ GE415.out)|exact HB.out)) hb);clear hb ho7;obtain ⟨hcz8_0,hcz8_1,hcz8_2,hcz8_3,hcz8_4,hcz8_5,hcz8_6⟩:=qc7 BK415.out;obtain ⟨hfz8_0,hfz8_1,hfz8_2,hfz8_3,hfz8_4,hfz8_5,hfz8_6⟩:=qz7 BK415.out))
   go_ret2
   exact ⟨_,by first|rfl|(simp [errW_none,errW_some] <;> rfl)|(simp [*,errW_none,errW_some] <;> rfl),by (with_reducible repeat (first|apply Kd.Ral|apply Kd.RdN|apply Kd.R_drew));exact HO418.out,by repeat (first|(with_reducible first|exact HB.out|apply bal|apply pbN|apply bd1|refine bst ?_ GE415.out)|exact HB.out)⟩
 · rw [if_neg c4] at H
   have c4b0:decide (a2 < a0_2) = false:=decide_eq_false c4;clear c4;have H':=As0.mk H;clear H
   go_enter Tryz.func34,Tryz.ntmps34
   go_wp2_with (first|((with_reducible refine gate_dst (N:=3) rfl ?_);refine bE 3 #[.int .i64 a0_0,.int .i64 a0_1,.int .i64 a0_2,.slice A0_3 l0_3.length c0_3,.slice A0_4 l0_4.length c0_4,.slice A0_5 l0_5.length c0_5,.slice A0_6 l0_6.length c0_6] 28 ?_;intro gb415 hg w9 hbox hb;have BK415:=As0.mk (hbox);have GW415:=As0.mk ((by rw [hg];exact (bsz (by repeat (first|(with_reducible first|exact HB.out|apply bal|apply pbN|apply bd1)|exact HB.out))):w.heap.size ≤ gb415));have GE415:=GW415;replace HB:=As0.mk (b3 HB.out hb);clear hb hbox hg)|((with_reducible refine gate_dst (N:=10) rfl ?_);refine Kd.R_lit k36 _ 36 ?hg (N:=10) ?hd (xs:=([]:List (SiP27))) (inner:=[]) (ok:=fun _=>True) (okp:=fun _=>True) ?hr ?hp (fun _ hk=>hk) trivial (Below.refl _ _) (Nat.le_refl _) (by simp) ?_;(case hd=>rfl);(case hg=>rfl);(case hr=>first|(go_simp;done)|(go_simp;rfl));(case hp=>exact (Reps.none _ _));intro v417 w10 ho11 hb hg_ hnew_;clear hg_ hnew_;(first|rw [← Ny416.out] at ho11|(simp only [Int.reduceToNat] at ho11;rw [← Ny416.out] at ho11));have HO418:=As0.mk (Kd.R_lower ho11 (bsz (by repeat (first|(with_reducible first|exact HB.out|apply bal|apply pbN|apply bd1|refine bst ?_ GE415.out)|exact HB.out))));replace BK415:=As0.mk (bb hb BK415.out);replace HB:=As0.mk (bsp (by repeat (first|(with_reducible first|exact HB.out|apply bal|apply pbN|apply bd1|refine bst ?_ GE415.out)|exact HB.out)) hb);clear hb ho11;obtain ⟨hcz12_0,hcz12_1,hcz12_2,hcz12_3,hcz12_4,hcz12_5,hcz12_6⟩:=qc7 BK415.out;obtain ⟨hfz12_0,hfz12_1,hfz12_2,hfz12_3,hfz12_4,hfz12_5,hfz12_6⟩:=qz7 BK415.out))
   show _;go_loopg [8,9] k (fun kq v8 v9 w'=>∃ (x8_1:List (SiP27)) (x9_1:Int),v9 = .int .i64 x9_1 ∧ As0 (spec_l10Watch.l0 kq a1 a2 x8_1 x9_1 a0_0 a0_1 a0_2 l0_3 l0_4 l0_5 l0_6 = some (r1,r2)) ∧ As0 (kq ≤ k) ∧ As0 (Kd.R k36 36 w' w.heap.size (fun _=>True) v8 x8_1) ∧ As0 (w'.heap[gb415]? = some (.cells #[.int .i64 a0_0,.int .i64 a0_1,.int .i64 a0_2,(.slice A0_3 l0_3.length c0_3),(.slice A0_4 l0_4.length c0_4),(.slice A0_5 l0_5.length c0_5),(.slice A0_6 l0_6.length c0_6)] 28 (0,0))) ∧ As0 (Below w.heap.size w w'))
   case atStart=>exact ⟨(y416),(0),(by first|rfl|(simp;done)|(simp [*];done)),H',⟨Nat.le_refl _⟩,⟨by (with_reducible repeat (first|apply Kd.Ral|apply Kd.RdN|apply Kd.R_drew));exact HO418.out⟩,⟨by (with_reducible repeat (first|refine bkN ?_ _|refine bkD ?_|refine bkA ?_ _));exact BK415.out⟩,⟨by repeat (first|(with_reducible first|exact HB.out|apply bal|apply pbN|apply bd1|refine bst ?_ GE415.out)|exact HB.out)⟩⟩
   case round=>
    clear H'
    try clear p2
    try clear c3
    try clear c4
    try clear c4b0
    try clear hcz12_0
    try clear hcz12_1
    try clear hcz12_2
    try clear hcz12_3
    try clear hcz12_4
    try clear hcz12_5
    try clear hcz12_6
    try clear hcz8_0
    try clear hcz8_1
    try clear hcz8_2
    try clear hcz8_3
    try clear hcz8_4
    try clear hcz8_5
    try clear hcz8_6
    try clear hfz12_0
    try clear hfz12_1
    try clear hfz12_2
    try clear hfz12_3
    try clear hfz12_4
    try clear hfz12_5
    try clear hfz12_6
    try clear hfz8_0
    try clear hfz8_1
    try clear hfz8_2
    try clear hfz8_3
    try clear hfz8_4
    try clear hfz8_5
    try clear hfz8_6
    obtain ⟨x8_1,x9_1,rfl,HA,HK1,HO_8,BK415,HB⟩:=hrel
    cases gk with
    |zero=>exact absurd HA.out (by simp [spec_l10Watch.l0])
    |succ k1=>
     have H:=HA.out;clear HA;simp only [spec_l10Watch.l0] at H;by_cases c13:x9_1 < (l0_6.length:Int)
     · rw [if_pos c13] at H
       have c13b0:decide (x9_1 < (l0_6.length:Int)) = true:=decide_eq_true c13;clear c13;by_cases c14:0 ≤ x9_1
       · rw [if_pos c14] at H
         have c14b0:decide (0 ≤ x9_1) = true:=decide_eq_true c14;clear c14;by_cases c15:((riP36 l0_6 x9_1).f0) > a2
         · rw [if_pos c15] at H
           have c15b0:decide (a2 < ((riP36 l0_6 x9_1).f0)) = true:=decide_eq_true c15;clear c15;by_cases c16:((riP36 l0_6 x9_1).f2).toList = a1.toList
           · rw [if_pos c16] at H
             have c16b0:(((riP36 l0_6 x9_1).f2).toList == a1.toList) = true:=beq_iff_eq.mpr c16;have c16b1:(((riP36 l0_6 x9_1).f2).toList != a1.toList) = false:=bne_eq_false_iff_eq.mpr c16;clear c16;by_cases c17:x8_1.length < 2513169434916
             · rw [if_pos c17] at H
               have LMc17:=As0.mk c17;clear c17;obtain ⟨y422,hy422⟩:∃ y_:List (SiP27),y_ = (x8_1 ++ [(⟨(riP36 l0_6 x9_1).f0,(riP36 l0_6 x9_1).f1,(riP36 l0_6 x9_1).f2,(riP36 l0_6 x9_1).f3⟩:SiP27)]):=⟨_,rfl⟩;replace H:(spec_l10Watch.l0 k1 a1 a2 y422 (wrap64 (x9_1 + 1)) a0_0 a0_1 a0_2 l0_3 l0_4 l0_5 l0_6) = some (r1,r2):=by first|(rw [hy422];with_reducible exact H)|(have H2_:=(Option.bind_some _ _).symm.trans H;rw [hy422];with_reducible exact H2_)|(have H2_:=(Option.bind_some _ _).symm.trans H;with_reducible exact H2_)|with_reducible exact H|(rw [hy422];exact H)|exact H
               have Ny422:=As0.mk hy422;clear hy422;have H':=As0.mk H;clear H;obtain ⟨hcz18_0,hcz18_1,hcz18_2,hcz18_3,hcz18_4,hcz18_5,hcz18_6⟩:=qc7 BK415.out;obtain ⟨hfz18_0,hfz18_1,hfz18_2,hfz18_3,hfz18_4,hfz18_5,hfz18_6⟩:=qz7 BK415.out;have p419:0 ≤ (x9_1:Int):=odt;have q419:x9_1 < (l0_6.length:Int):=odt;obtain ⟨ad419,e419,hx419_0,hx419_1,hx419_2,hx419_3⟩:=at_T36 HR0_6.out x9_1 p419 q419
               cases e419
               replace hx419_0:=bx HB.out rfl hx419_0;replace hx419_1:=bx HB.out rfl hx419_1;replace hx419_2:=bx HB.out rfl hx419_2;replace hx419_3:=bx HB.out rfl hx419_3;replace p419:=eq_true p419;replace q419:=eq_true q419;have p420:0 ≤ (x9_1:Int):=odt;have q420:x9_1 < (l0_6.length:Int):=odt;obtain ⟨ad420,e420,hx420_0,hx420_1,hx420_2,hx420_3⟩:=at_T36 HR0_6.out x9_1 p420 q420;obtain rfl:ad419 = ad420:=(by injection e420);replace hx420_0:=bx HB.out rfl hx420_0;replace hx420_1:=bx HB.out rfl hx420_1;replace hx420_2:=bx HB.out rfl hx420_2;replace hx420_3:=bx HB.out rfl hx420_3;replace p420:=eq_true p420;replace q420:=eq_true q420;have p421:0 ≤ (x9_1:Int):=odt;have q421:x9_1 < (l0_6.length:Int):=odt;obtain ⟨ad421,e421,hx421_0,hx421_1,hx421_2,hx421_3⟩:=at_T36 HR0_6.out x9_1 p421 q421;obtain rfl:ad419 = ad421:=(by injection e421);replace hx421_0:=bx HB.out rfl hx421_0;replace hx421_1:=bx HB.out rfl hx421_1;replace hx421_2:=bx HB.out rfl hx421_2;replace hx421_3:=bx HB.out rfl hx421_3;replace p421:=eq_true p421;replace q421:=eq_true q421
               go_wp2_with (first|((with_reducible refine gbi (b:=.append) (xs:=#[.tmp 41,.tmp 47]) rfl ?_);at_builtin;refine Kd.R_append k36 (w0:=w) w.heap.size rfl (.tmp 41) (.tmp 47) 26 36 (.agg #[(.int .i64 0),(.string ⟨#[]⟩),(.string ⟨#[]⟩),(.string ⟨#[]⟩)]) 56 rfl Tryz.underlying26 info36 rfl (by decide) (by omega) u8 x8_1 (⟨(riP36 l0_6 x9_1).f0,(riP36 l0_6 x9_1).f1,(riP36 l0_6 x9_1).f2,(riP36 l0_6 x9_1).f3⟩:SiP27) [.int .i64 ((riP36 l0_6 x9_1).f0),.string ((riP36 l0_6 x9_1).f1),.string ((riP36 l0_6 x9_1).f2),.string ((riP36 l0_6 x9_1).f3)] (fun _=>True) (fun _=>False) rfl rfl ?aP (fun _ hk=>hk.elim) ?aF ?aO ?aB ?aS ?aL ?_;(case aP=>exact k36_mkM _ _ _ (⟨(riP36 l0_6 x9_1).f0,(riP36 l0_6 x9_1).f1,(riP36 l0_6 x9_1).f2,(riP36 l0_6 x9_1).f3⟩:SiP27));(case aB=>exact (by repeat (first|(with_reducible first|exact HB.out|apply bal|apply pbN|apply bd1|refine bst ?_ GE415.out)|exact HB.out)));(case aF=>exact (fun _ _=>trivial));(case aO=>exact (by (with_reducible repeat (first|apply Kd.Ral|apply Kd.RdN|apply Kd.R_drew));exact HO_8.out));(case aS=>exact (bsz (by repeat (first|(with_reducible first|exact HB.out|apply bal|apply pbN|apply bd1|refine bst ?_ GE415.out)|exact HB.out))));(case aL=>have:=LMc17.out;omega);intro v423 w19 ho hb hg hat;rw [← Ny422.out] at ho;replace BK415:=As0.mk (bg hg BK415.out (Kd.R_ne HO_8.out BK415.out (by decide)));replace HB:=As0.mk (hb);have HO424:=As0.mk (ho);clear HO_8 ho hb hg hat))
               show _;go_roundg k1
               case measure=>have:=HK1.out;omega
               case rel=>exact ⟨(y422),(wrap64 (x9_1 + 1)),(by first|rfl|(simp;done)|(simp [*];done)),H',⟨by have:=HK1.out;omega⟩,⟨by (with_reducible repeat (first|apply Kd.Ral|apply Kd.RdN|apply Kd.R_drew));exact HO424.out⟩,⟨by (with_reducible repeat (first|refine bkN ?_ _|refine bkD ?_|refine bkA ?_ _));exact BK415.out⟩,⟨by repeat (first|(with_reducible first|exact HB.out|apply bal|apply pbN|apply bd1|refine bst ?_ GE415.out)|exact HB.out)⟩⟩
             · rw [if_neg c17] at H
               exact absurd H (by simp)
           · rw [if_neg c16] at H
             have c16b0:(((riP36 l0_6 x9_1).f2).toList == a1.toList) = false:=beq_eq_false_iff_ne.mpr c16;have c16b1:(((riP36 l0_6 x9_1).f2).toList != a1.toList) = true:=bne_iff_ne.mpr c16;have H':=As0.mk H;clear H;obtain ⟨hcz20_0,hcz20_1,hcz20_2,hcz20_3,hcz20_4,hcz20_5,hcz20_6⟩:=qc7 BK415.out;obtain ⟨hfz20_0,hfz20_1,hfz20_2,hfz20_3,hfz20_4,hfz20_5,hfz20_6⟩:=qz7 BK415.out;have p419:0 ≤ (x9_1:Int):=odt;have q419:x9_1 < (l0_6.length:Int):=odt;obtain ⟨ad419,e419,hx419_0,hx419_1,hx419_2,hx419_3⟩:=at_T36 HR0_6.out x9_1 p419 q419
             cases e419
             replace hx419_0:=bx HB.out rfl hx419_0;replace hx419_1:=bx HB.out rfl hx419_1;replace hx419_2:=bx HB.out rfl hx419_2;replace hx419_3:=bx HB.out rfl hx419_3;replace p419:=eq_true p419;replace q419:=eq_true q419;have p420:0 ≤ (x9_1:Int):=odt;have q420:x9_1 < (l0_6.length:Int):=odt;obtain ⟨ad420,e420,hx420_0,hx420_1,hx420_2,hx420_3⟩:=at_T36 HR0_6.out x9_1 p420 q420;obtain rfl:ad419 = ad420:=(by injection e420);replace hx420_0:=bx HB.out rfl hx420_0;replace hx420_1:=bx HB.out rfl hx420_1;replace hx420_2:=bx HB.out rfl hx420_2;replace hx420_3:=bx HB.out rfl hx420_3;replace p420:=eq_true p420;replace q420:=eq_true q420
             go_wp2
             show _;go_roundg k1
             case measure=>have:=HK1.out;omega
             case rel=>exact ⟨(x8_1),(wrap64 (x9_1 + 1)),(by first|rfl|(simp;done)|(simp [*];done)),H',⟨by have:=HK1.out;omega⟩,⟨by (with_reducible repeat (first|apply Kd.Ral|apply Kd.RdN|apply Kd.R_drew));exact HO_8.out⟩,⟨by (with_reducible repeat (first|refine bkN ?_ _|refine bkD ?_|refine bkA ?_ _));exact BK415.out⟩,⟨by repeat (first|(with_reducible first|exact HB.out|apply bal|apply pbN|apply bd1|refine bst ?_ GE415.out)|exact HB.out)⟩⟩
         · rw [if_neg c15] at H
           have c15b0:decide (a2 < ((riP36 l0_6 x9_1).f0)) = false:=decide_eq_false c15;clear c15;have H':=As0.mk H;clear H;obtain ⟨hcz21_0,hcz21_1,hcz21_2,hcz21_3,hcz21_4,hcz21_5,hcz21_6⟩:=qc7 BK415.out;obtain ⟨hfz21_0,hfz21_1,hfz21_2,hfz21_3,hfz21_4,hfz21_5,hfz21_6⟩:=qz7 BK415.out;have p419:0 ≤ (x9_1:Int):=odt;have q419:x9_1 < (l0_6.length:Int):=odt;obtain ⟨ad419,e419,hx419_0,hx419_1,hx419_2,hx419_3⟩:=at_T36 HR0_6.out x9_1 p419 q419
           cases e419
           replace hx419_0:=bx HB.out rfl hx419_0;replace hx419_1:=bx HB.out rfl hx419_1;replace hx419_2:=bx HB.out rfl hx419_2;replace hx419_3:=bx HB.out rfl hx419_3;replace p419:=eq_true p419;replace q419:=eq_true q419
           go_wp2
           show _;go_roundg k1
           case measure=>have:=HK1.out;omega
           case rel=>exact ⟨(x8_1),(wrap64 (x9_1 + 1)),(by first|rfl|(simp;done)|(simp [*];done)),H',⟨by have:=HK1.out;omega⟩,⟨by (with_reducible repeat (first|apply Kd.Ral|apply Kd.RdN|apply Kd.R_drew));exact HO_8.out⟩,⟨by (with_reducible repeat (first|refine bkN ?_ _|refine bkD ?_|refine bkA ?_ _));exact BK415.out⟩,⟨by repeat (first|(with_reducible first|exact HB.out|apply bal|apply pbN|apply bd1|refine bst ?_ GE415.out)|exact HB.out)⟩⟩
       · rw [if_neg c14] at H
         exact absurd H (by simp)
     · rw [if_neg c13] at H
       have c13b0:decide (x9_1 < (l0_6.length:Int)) = false:=decide_eq_false c13;clear c13;simp only [Option.some.injEq,Prod.mk.injEq] at H;obtain ⟨rfl,rfl⟩:=H;obtain ⟨hcz22_0,hcz22_1,hcz22_2,hcz22_3,hcz22_4,hcz22_5,hcz22_6⟩:=qc7 BK415.out;obtain ⟨hfz22_0,hfz22_1,hfz22_2,hfz22_3,hfz22_4,hfz22_5,hfz22_6⟩:=qz7 BK415.out
       go_wp2
       go_ret2
       exact ⟨_,by first|rfl|(simp [errW_none,errW_some] <;> rfl)|(simp [*,errW_none,errW_some] <;> rfl),by (with_reducible repeat (first|apply Kd.Ral|apply Kd.RdN|apply Kd.R_drew));exact HO_8.out,by repeat (first|(with_reducible first|exact HB.out|apply bal|apply pbN|apply bd1|refine bst ?_ GE415.out)|exact HB.out)⟩
end Go.Proofs.YtclgmogfkoinbaaGreatDoor.P
