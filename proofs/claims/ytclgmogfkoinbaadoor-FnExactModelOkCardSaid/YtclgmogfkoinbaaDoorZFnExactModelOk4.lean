/- Functions of the law FnExactModelOk as_ plain Lean functions, and that the machine's calls do what they say. -/
import Derived.Test.YtclgmogfkoinbaaDoorZFnExactModelOk0
import Derived.Test.YtclgmogfkoinbaaDoorZFnExactModelOk3
import Derived.Lib.Hide
import Derived.Shelf.Strings.Trim
import Derived.Shelf.Small.Utf8
import Derived.Shelf.Small.Strs
import Derived.Shelf.Strings.Search1
import Derived.Shelf.Unicode.Decode
import Derived.Shelf.Strings.Runes
import Derived.Shelf.Strings.AsciiSet
import Derived.Shelf.Unicode.DecodeSlow
import Derived.Shelf.Unicode.DecodeAny
import Derived.Shelf.Unicode.DecodeLast
import Derived.Shelf.Slices.Turned
import Derived.Test.YtclgmogfkoinbaaDoorProg
import Derived.Shelf.Strings.SlTrimAscii
namespace Go.Proofs.YtclgmogfkoinbaaDoor.P
open Go.RowKit Go.Proofs.YtclgmogfkoinbaaDoorW.PrintWords Go.Proofs.YtclgmogfkoinbaaDoorW.PrintLast Go.Proofs.YtclgmogfkoinbaaDoorW.PrintMore
attribute [local go_sem] max2_int min2_int max_two min_two max_three min_three max_four min_four
set_option linter.unusedVariables false
set_option linter.unusedSimpArgs false
def laws_toPastS.l0:Nat → List (SlP32) → List (SiP27) → Int → Option ((List (SiP27)))
 |0,_,_,_=>none
 |k + 1,x0,x3,x4=>if x4 < (x0.length:Int) then (if 0 ≤ x4 then ((laws_toPast.f ((rlP40 x0 x4).f0) ((rlP40 x0 x4).f1) ((rlP40 x0 x4).f2) ((rlP40 x0 x4).f3)).bind fun bt254=>(if x4 < (x3.length:Int) then (laws_toPastS.l0 k x0 (x3.set (x4:Int).toNat (⟨bt254.1,bt254.2.1,bt254.2.2.1,bt254.2.2.2⟩:SiP27)) (wrap64 (x4 + 1))) else (none))) else (none)) else (some x3)
def laws_toPastS.f (k:Nat) (l0:List (SlP32)):Option ((List (SiP27))):=if 0 ≤ (l0.length:Int) then (if ((l0.length:Int):Int).toNat ≤ 5026338869833 then (laws_toPastS.l0 k l0 (List.replicate ((l0.length:Int):Int).toNat ziP44) 0) else (none)) else (none)
set_option maxHeartbeats 40000000 in
set_option maxRecDepth 100000 in
theorem laws_toPastS.calls (k:Nat) (A0:Option Addr) (c0:Nat) (l0:List (SlP32)) (r:List (SiP27)) (w:World) (hr0:Kd.C k69 w A0 l0.length l0) (hc0:l0.length ≤ c0) (h:laws_toPastS.f k l0 = some r) :
 Calls Tryd.prog 22 #[.slice A0 l0.length c0] w fun e w'=>∃ v0_:Value,e = .returned (v0_) ∧ Kd.R k77 77 w' w.heap.size (fun _=>True) v0_ r ∧ Below w.heap.size w w':=by
 have hu69:=Tryd.underlying69;have hu77:=Tryd.underlying77;have HR0:=As0.mk hr0;have HC0:=As0.mk hc0;clear hr0 hc0;have HB:=As0.mk (Below.refl w.heap.size w);have H:(if 0 ≤ (l0.length:Int) then (if ((l0.length:Int):Int).toNat ≤ 5026338869833 then (laws_toPastS.l0 k l0 (List.replicate ((l0.length:Int):Int).toNat ziP44) 0) else (none)) else (none)) = some r:=h;clear h;by_cases c2:0 ≤ (l0.length:Int)
 · rw [if_pos c2] at H
   have c2b0:=eq_true c2;have c2b1:decide (0 ≤ (l0.length:Int)) = true:=decide_eq_true c2;clear c2;by_cases c3:((l0.length:Int):Int).toNat ≤ 5026338869833
   · rw [if_pos c3] at H
     have c3b0:=eq_true c3;have c3b1:decide (((l0.length:Int):Int).toNat ≤ 5026338869833) = true:=decide_eq_true c3
     (try (have c3xb1:=c3b1;simp only [Int.toNat_natCast] at c3xb1))
     clear c3;obtain ⟨y250,hy250⟩:∃ y_:List (SiP27),y_ = (List.replicate ((l0.length:Int):Int).toNat ziP44):=⟨_,rfl⟩;replace H:(laws_toPastS.l0 k l0 y250 0) = some r:=by first|(rw [hy250];with_reducible exact H)|(have H2_:=(Option.bind_some _ _).symm.trans H;rw [hy250];with_reducible exact H2_)|(have H2_:=(Option.bind_some _ _).symm.trans H;with_reducible exact H2_)|with_reducible exact H|(rw [hy250];exact H)|exact H
     have Ny250:=As0.mk hy250;clear hy250;have H':=As0.mk H;clear H
     go_enter Tryd.func22,Tryd.ntmps22
     go_wp2_with (first|((with_reducible refine gate_dst (N:=7) rfl ?_);refine Kd.R_make k77 _ 77 rfl (N:=7) rfl 33 _ _ rfl (l0.length:Int) rfl rfl Tryd.underlying33 (.agg #[(.int .i64 0),(.string ⟨#[]⟩),(.string ⟨#[]⟩),(.string ⟨#[]⟩)]) 56 info77 rfl (by decide) (by omega) ziP44 (ok:=fun _=>True) (okp:=fun _=>True) (k77_mkM _ _ _ ziP44 ) (fun _ hk=>hk) trivial (odt) (Nat.le_trans (Nat.mul_le_mul_right _ (odt:(l0.length:Int).toNat ≤ 5026338869833)) (by omega)) (Below.refl _ _) (Nat.le_refl _) ?_;intro v251 w4 ho5 hb hg_ hnew_;clear hg_ hnew_;(first|rw [← Ny250.out] at ho5|(simp only [Int.reduceToNat] at ho5;rw [← Ny250.out] at ho5));have HO252:=As0.mk (Kd.R_lower ho5 (bsz (by repeat (first|(with_reducible first|exact HB.out|apply bal|apply pbN|apply bd1)|exact HB.out))));replace HB:=As0.mk (b3 HB.out hb);clear hb ho5))
     show _;go_loopg [4] k (fun kq v4 w'=>∃ (x3_1:List (SiP27)) (x4_1:Int),v4 = .int .i64 x4_1 ∧ As0 (laws_toPastS.l0 kq l0 x3_1 x4_1 = some r) ∧ As0 (kq ≤ k) ∧ As0 (Kd.R k77 77 w' w.heap.size (fun _=>True) v251 x3_1) ∧ As0 (Below w.heap.size w w'))
     case atStart=>exact ⟨(y250),(0),(by first|rfl|(simp;done)|(simp [*];done)),H',⟨Nat.le_refl _⟩,⟨by (with_reducible repeat (first|apply Kd.Ral|apply Kd.RdN|apply Kd.R_drew));exact HO252.out⟩,⟨by repeat (first|(with_reducible first|exact HB.out|apply bal|apply pbN|apply bd1)|exact HB.out)⟩⟩
     case round=>
      clear H'
      try clear c2
      try clear c2b0
      try clear c2b1
      try clear p2
      try clear c3
      try clear c3b0
      try clear c3b1
      obtain ⟨x3_1,x4_1,rfl,HA,HK1,HO_3,HB⟩:=hrel
      cases gk with
      |zero=>exact absurd HA.out (by simp [laws_toPastS.l0])
      |succ k1=>
       have H:=HA.out;clear HA;simp only [laws_toPastS.l0] at H;by_cases c6:x4_1 < (l0.length:Int)
       · rw [if_pos c6] at H
         have c6b0:decide (x4_1 < (l0.length:Int)) = true:=decide_eq_true c6;clear c6;by_cases c7:0 ≤ x4_1
         · rw [if_pos c7] at H
           have c7b0:decide (0 ≤ x4_1) = true:=decide_eq_true c7;clear c7;replace H:=Option.bind_eq_some_iff.mp H;obtain ⟨⟨t254,t255,t256,t257⟩,A80,H⟩:=H;(try dsimp only at H);have A8:=As0.mk A80;clear A80;by_cases c9:x4_1 < (x3_1.length:Int)
           · rw [if_pos c9] at H
             have c9b0:decide (x4_1 < (x3_1.length:Int)) = true:=decide_eq_true c9;clear c9;obtain ⟨y258,hy258⟩:∃ y_:List (SiP27),y_ = (x3_1.set (x4_1:Int).toNat (⟨t254,t255,t256,t257⟩:SiP27)):=⟨_,rfl⟩;replace H:(laws_toPastS.l0 k1 l0 y258 (wrap64 (x4_1 + 1))) = some r:=by first|(rw [hy258];with_reducible exact H)|(have H2_:=(Option.bind_some _ _).symm.trans H;rw [hy258];with_reducible exact H2_)|(have H2_:=(Option.bind_some _ _).symm.trans H;with_reducible exact H2_)|with_reducible exact H|(rw [hy258];exact H)|exact H
             have Ny258:=As0.mk hy258;clear hy258;have H':=As0.mk H;clear H;have p253:0 ≤ (x4_1:Int):=odt;have q253:x4_1 < (l0.length:Int):=odt;obtain ⟨ad253,e253,hx253_0,hx253_1,hx253_2,hx253_3⟩:=at_T69 HR0.out x4_1 p253 q253
             cases e253
             replace hx253_0:=bx HB.out rfl hx253_0;replace hx253_1:=bx HB.out rfl hx253_1;replace hx253_2:=bx HB.out rfl hx253_2;replace hx253_3:=bx HB.out rfl hx253_3;replace p253:=eq_true p253;replace q253:=eq_true q253
             go_wp2_with (first|((with_reducible refine gca (f:=42) rfl ?_);refine gL (some 20) Tryd.func42 #[.agg #[.int .i64 ((rlP40 l0 x4_1).f0),.string ((rlP40 l0 x4_1).f1),.string ((rlP40 l0 x4_1).f2),.string ((rlP40 l0 x4_1).f3)]] ?_;(with_reducible refine (laws_toPast.calls ((rlP40 l0 x4_1).f0) ((rlP40 l0 x4_1).f1) ((rlP40 l0 x4_1).f2) ((rlP40 l0 x4_1).f3) t254 t255 t256 t257 _ A8.out).mono ?_);rintro e w11 ⟨rfl,hb⟩;refine ⟨_,rfl,?_⟩;replace HO_3:=As0.mk (Kd.R_below (by (with_reducible repeat (first|apply Kd.Ral|apply Kd.RdN|apply Kd.R_drew));exact HO_3.out) hb);replace HB:=As0.mk (b3 HB.out hb);clear hb;have p10:0 ≤ (x4_1:Int):=odt;have q10:(x4_1:Int) < ((x3_1.length:Int):Int):=odt;obtain ⟨go10,co10,eo10,gb10,gl10,cl10,HG10⟩:=Kd.R_form HO_3.out (by omega);(first|cases eo10|(injection eo10 with ea_ en_ ec_;(first|subst ea_|(injection ea_ with ea_;subst ea_));subst ec_;clear en_));have GB10:=As0.mk gb10;have GG10:=As0.mk HG10;clear gb10 gl10 HG10;obtain ⟨ce10,hcl10,hM10,hcc10,hfr10⟩:=Kd.R_elem HO_3.out ziP44 (x4_1:Int) p10 q10;obtain rfl:=k77_openM hM10;have hx10_0:w11.cell? ⟨go10,(x4_1:Int).toNat * 4,none⟩ = some (.int .i64 ((riP36 x3_1 x4_1).f0)):=hcc10 0 _ rfl;have hx10_1:w11.cell? ⟨go10,(x4_1:Int).toNat * 4 + 1,none⟩ = some (.string ((riP36 x3_1 x4_1).f1)):=hcc10 1 _ rfl;have hx10_2:w11.cell? ⟨go10,(x4_1:Int).toNat * 4 + 2,none⟩ = some (.string ((riP36 x3_1 x4_1).f2)):=hcc10 2 _ rfl;have hx10_3:w11.cell? ⟨go10,(x4_1:Int).toNat * 4 + 3,none⟩ = some (.string ((riP36 x3_1 x4_1).f3)):=hcc10 3 _ rfl;have hf10_0:w11.frozen? ⟨go10,(x4_1:Int).toNat * 4,none⟩ = false:=hfr10 0;have hf10_1:w11.frozen? ⟨go10,(x4_1:Int).toNat * 4 + 1,none⟩ = false:=hfr10 1;have hf10_2:w11.frozen? ⟨go10,(x4_1:Int).toNat * 4 + 2,none⟩ = false:=hfr10 2;have hf10_3:w11.frozen? ⟨go10,(x4_1:Int).toNat * 4 + 3,none⟩ = false:=hfr10 3;clear hcl10 hcc10 hfr10 hM10;replace p10:=eq_true p10;replace q10:=eq_true q10;have HX12:=As0.mk (show Kd.R k77 77 w11 w.heap.size (fun _=>True) (.slice (some ⟨go10,0,none⟩) x3_1.length co10) x3_1 from (by (with_reducible repeat (first|apply Kd.Ral|apply Kd.RdN|apply Kd.R_drew));exact HO_3.out));obtain ⟨ce12,hcl12,hM12,hcc12,hfr12⟩:=Kd.R_elem HX12.out ziP44 (x4_1:Int) (odt) (by have h_:(x4_1:Int) < ((x3_1.length:Int):Int):=odt;first|exact h_|(have e_:=(Kd.R_reads' HO_3.out).1;omega)|simpa using h_);obtain rfl:=k77_openM hM12;have HP12:=Kd.R_seg HX12.out (x4_1:Int) (odt) (by have h_:(x4_1:Int) < ((x3_1.length:Int):Int):=odt;first|exact h_|(have e_:=(Kd.R_reads' HO_3.out).1;omega)|simpa using h_) (seg:=[.int .i64 t254,.string t255,.string t256,.string t257]) (j:=0) hcl12 hcc12 (show 4 ≤ 4 from by decide) (x':=(⟨t254,t255,t256,t257⟩:SiP27)) (k77_mkM _ _ _ (⟨t254,t255,t256,t257⟩:SiP27) ) (fun _ hk=>hk);have hx12_0:=hcc12 0 _ rfl;(try simp only [show (k77).sz = 4 from rfl,Nat.mul_one,Nat.add_zero] at hx12_0);have hf12_0:=hfr12 0;(try simp only [show (k77).sz = 4 from rfl,Nat.mul_one,Nat.add_zero] at hf12_0);have hx12_1:=hcc12 1 _ rfl;(try simp only [show (k77).sz = 4 from rfl,Nat.mul_one,Nat.add_zero] at hx12_1);have hf12_1:=hfr12 1;(try simp only [show (k77).sz = 4 from rfl,Nat.mul_one,Nat.add_zero] at hf12_1);have hx12_2:=hcc12 2 _ rfl;(try simp only [show (k77).sz = 4 from rfl,Nat.mul_one,Nat.add_zero] at hx12_2);have hf12_2:=hfr12 2;(try simp only [show (k77).sz = 4 from rfl,Nat.mul_one,Nat.add_zero] at hf12_2);have hx12_3:=hcc12 3 _ rfl;(try simp only [show (k77).sz = 4 from rfl,Nat.mul_one,Nat.add_zero] at hx12_3);have hf12_3:=hfr12 3;(try simp only [show (k77).sz = 4 from rfl,Nat.mul_one,Nat.add_zero] at hf12_3);clear hcl12 hcc12 hfr12 hM12)|((with_reducible refine gate_store (t:=77) (p:=21) rfl ?_);refine store_event (t:=77) (p:=21) (v:=?vo_w13) (w1:=((((w11.setCell ⟨go10,(x4_1:Int).toNat * 4,none⟩ (.int .i64 t254)).setCell ⟨go10,(x4_1:Int).toNat * 4 + 1,none⟩ (.string t255)).setCell ⟨go10,(x4_1:Int).toNat * 4 + 2,none⟩ (.string t256)).setCell ⟨go10,(x4_1:Int).toNat * 4 + 3,none⟩ (.string t257))) ?hg ?ho ?hn ?hr ?_;(case ho=>rfl);(case hg=>rfl);(case hn=>rfl);(case hr=>first|(go_simp;done)|(go_simp;rfl));intro w13 hw;have hg:w11.grownBy w13 (some go10):=(by rw [hw];exact HP12.2);have hp_:Kd.R k77 77 w13 w.heap.size (fun _=>True) (.slice (some ⟨go10,0,none⟩) x3_1.length co10) y258:=(by rw [hw,Ny258.out];exact HP12.1);clear HP12;replace HO_3:=As0.mk (hp_);replace HB:=As0.mk ((by rw [hw];exact bst (bst (bst (bst (HB.out) GB10.out) GB10.out) GB10.out) GB10.out:Below w.heap.size w w13));clear hg hw hp_))
             show _;go_roundg k1
             case measure=>have:=HK1.out;omega
             case rel=>exact ⟨(y258),(wrap64 (x4_1 + 1)),(by first|rfl|(simp;done)|(simp [*];done)),H',⟨by have:=HK1.out;omega⟩,⟨by (with_reducible repeat (first|apply Kd.Ral|apply Kd.RdN|apply Kd.R_drew));exact HO_3.out⟩,⟨by repeat (first|(with_reducible first|exact HB.out|apply bal|apply pbN|apply bd1)|exact HB.out)⟩⟩
           · rw [if_neg c9] at H
             exact absurd H (by simp)
         · rw [if_neg c7] at H
           exact absurd H (by simp)
       · rw [if_neg c6] at H
         have c6b0:decide (x4_1 < (l0.length:Int)) = false:=decide_eq_false c6;clear c6;obtain rfl:=Option.some.inj H
         go_wp2
         go_ret
         exact ⟨_,by first|rfl|(simp [errW_none,errW_some] <;> rfl)|(simp [*,errW_none,errW_some] <;> rfl),by (with_reducible repeat (first|apply Kd.Ral|apply Kd.RdN|apply Kd.R_drew));exact HO_3.out,by repeat (first|(with_reducible first|exact HB.out|apply bal|apply pbN|apply bd1)|exact HB.out)⟩
   · rw [if_neg c3] at H
     exact absurd H (by simp)
 · rw [if_neg c2] at H
   exact absurd H (by simp)
def laws_toModel.f (k:Nat) (a0_0:Int) (a0_1:Int) (a0_2:Int) (l0_3:List (SlS33)) (l0_4:List (SlU35)) (l0_5:List (SlT34)) (l0_6:List (SlP32)):Option (Int × Int × Int × (List (SiS28)) × (List (SiU30)) × (List (SiT29)) × (List (SiP27))):=(laws_toSpaceS.f k l0_3).bind fun t262=>((laws_toUseS.f k l0_4).bind fun t265=>((laws_toThingS.f k l0_5).bind fun t268=>((laws_toPastS.f k l0_6).bind fun t271=>(some (a0_0,a0_1,a0_2,t262,t265,t268,t271)))))
set_option maxHeartbeats 40000000 in
set_option maxRecDepth 100000 in
theorem laws_toModel.calls (k:Nat) (a0_0:Int) (a0_1:Int) (a0_2:Int) (A0_3:Option Addr) (c0_3:Nat) (l0_3:List (SlS33)) (A0_4:Option Addr) (c0_4:Nat) (l0_4:List (SlU35)) (A0_5:Option Addr) (c0_5:Nat) (l0_5:List (SlT34)) (A0_6:Option Addr) (c0_6:Nat) (l0_6:List (SlP32)) (r1:Int) (r2:Int) (r3:Int) (r4:List (SiS28)) (r5:List (SiU30)) (r6:List (SiT29)) (r7:List (SiP27)) (w:World) (hr0_3:Kd.C k60 w A0_3 l0_3.length l0_3) (hc0_3:l0_3.length ≤ c0_3) (hr0_4:Kd.C k62 w A0_4 l0_4.length l0_4) (hc0_4:l0_4.length ≤ c0_4) (hr0_5:Kd.C k66 w A0_5 l0_5.length l0_5) (hc0_5:l0_5.length ≤ c0_5) (hr0_6:Kd.C k69 w A0_6 l0_6.length l0_6) (hc0_6:l0_6.length ≤ c0_6) (h:laws_toModel.f k a0_0 a0_1 a0_2 l0_3 l0_4 l0_5 l0_6 = some (r1,r2,r3,r4,r5,r6,r7)) :
 Calls Tryd.prog 6 #[.agg #[.int .i64 a0_0,.int .i64 a0_1,.int .i64 a0_2,.slice A0_3 l0_3.length c0_3,.slice A0_4 l0_4.length c0_4,.slice A0_5 l0_5.length c0_5,.slice A0_6 l0_6.length c0_6]] w fun e w'=>∃ v3_ v4_ v5_ v6_:Value,e = .returned (.agg #[.int .i64 r1,.int .i64 r2,.int .i64 r3,v3_,v4_,v5_,v6_]) ∧ Kd.R k47 47 w' w.heap.size (fun _=>True) v3_ r4 ∧ Kd.R k49 49 w' w.heap.size (fun _=>True) v4_ r5 ∧ Kd.S k73 73 w' w.heap.size (fun _=>True) v5_ r6 ∧ Kd.R k77 77 w' w.heap.size (fun _=>True) v6_ r7 ∧ Below w.heap.size w w':=by
 have hu27:=Tryd.underlying27;have hu35:=Tryd.underlying35;have HR0_3:=As0.mk hr0_3;have HC0_3:=As0.mk hc0_3;clear hr0_3 hc0_3;have HR0_4:=As0.mk hr0_4;have HC0_4:=As0.mk hc0_4;clear hr0_4 hc0_4;have HR0_5:=As0.mk hr0_5;have HC0_5:=As0.mk hc0_5;clear hr0_5 hc0_5;have HR0_6:=As0.mk hr0_6;have HC0_6:=As0.mk hc0_6;clear hr0_6 hc0_6;have HB:=As0.mk (Below.refl w.heap.size w);have H:((laws_toSpaceS.f k l0_3).bind fun t262=>((laws_toUseS.f k l0_4).bind fun t265=>((laws_toThingS.f k l0_5).bind fun t268=>((laws_toPastS.f k l0_6).bind fun t271=>(some (a0_0,a0_1,a0_2,t262,t265,t268,t271)))))) = some (r1,r2,r3,r4,r5,r6,r7):=h;clear h;replace H:=Option.bind_eq_some_iff.mp H;obtain ⟨t262,A20,H⟩:=H;(try dsimp only at H);have A2:=As0.mk A20;clear A20;replace H:=Option.bind_eq_some_iff.mp H;obtain ⟨t265,A30,H⟩:=H;(try dsimp only at H);have A3:=As0.mk A30;clear A30;replace H:=Option.bind_eq_some_iff.mp H;obtain ⟨t268,A40,H⟩:=H;(try dsimp only at H);have A4:=As0.mk A40;clear A40;replace H:=Option.bind_eq_some_iff.mp H;obtain ⟨t271,A50,H⟩:=H;(try dsimp only at H);have A5:=As0.mk A50;clear A50;simp only [Option.some.injEq,Prod.mk.injEq] at H;obtain ⟨rfl,rfl,rfl,rfl,rfl,rfl,rfl⟩:=H
 go_enter Tryd.func6,Tryd.ntmps6
 go_wp2_with (first|((with_reducible refine gate_dst (N:=1) rfl ?_);refine bE 1 #[.int .i64 a0_0,.int .i64 a0_1,.int .i64 a0_2,.slice A0_3 l0_3.length c0_3,.slice A0_4 l0_4.length c0_4,.slice A0_5 l0_5.length c0_5,.slice A0_6 l0_6.length c0_6] 27 ?_;intro gb259 hg w6 hbox hb;have BK259:=As0.mk (hbox);have GW259:=As0.mk ((by rw [hg];exact (bsz (by repeat (first|(with_reducible first|exact HB.out|apply bal|apply pbN|apply bd1)|exact HB.out))):w.heap.size ≤ gb259));have GE259:=GW259;replace HB:=As0.mk (b3 HB.out hb);clear hb hbox hg)|((with_reducible refine gate_dst (N:=2) rfl ?_);refine bE 2 #[.int .i64 0,.int .i64 0,.int .i64 0,.slice none 0 0,.slice none 0 0,.slice none 0 0,.slice none 0 0] 35 ?_;intro gb260 hg w7 hbox hb;have BK260:=As0.mk (hbox);have GW260:=As0.mk ((by rw [hg];exact (bsz (by repeat (first|(with_reducible first|exact HB.out|apply bal|apply pbN|apply bd1|refine bst ?_ GE259.out)|exact HB.out))):w.heap.size ≤ gb260));have GE260:=GW260;replace HB:=As0.mk (bsp (by repeat (first|(with_reducible first|exact HB.out|apply bal|apply pbN|apply bd1|refine bst ?_ GE259.out)|exact HB.out)) hb);have NB259_260:=As0.mk ((by rw [hg];exact Nat.ne_of_lt (blk_lt (g:=gb259) (o:=.cells #[.int .i64 a0_0,.int .i64 a0_1,.int .i64 a0_2,.slice A0_3 l0_3.length c0_3,.slice A0_4 l0_4.length c0_4,.slice A0_5 l0_5.length c0_5,.slice A0_6 l0_6.length c0_6] 27 (0,0)) (by (with_reducible repeat (first|refine bkN ?_ _|refine bkD ?_|refine bkA ?_ _));exact BK259.out)):gb259 ≠ gb260));have NB260_259:=As0.mk (Ne.symm NB259_260.out);replace BK259:=As0.mk (bb hb BK259.out);clear hb hbox hg)|((with_reducible refine gate_dst (N:=3) rfl ?_);refine bE 3 #[.int .i64 0,.int .i64 0,.int .i64 0,.slice none 0 0,.slice none 0 0,.slice none 0 0,.slice none 0 0] 35 ?_;intro gb261 hg w8 hbox hb;have BK261:=As0.mk (hbox);have GW261:=As0.mk ((by rw [hg];exact (bsz (by repeat (first|(with_reducible first|exact HB.out|apply bal|apply pbN|apply bd1|refine bst ?_ GE259.out|refine bst ?_ GE260.out)|exact HB.out))):w.heap.size ≤ gb261));have GE261:=GW261;replace HB:=As0.mk (bsp (by repeat (first|(with_reducible first|exact HB.out|apply bal|apply pbN|apply bd1|refine bst ?_ GE259.out|refine bst ?_ GE260.out)|exact HB.out)) hb);have NB259_261:=As0.mk ((by rw [hg];exact Nat.ne_of_lt (blk_lt (g:=gb259) (o:=.cells #[.int .i64 a0_0,.int .i64 a0_1,.int .i64 a0_2,.slice A0_3 l0_3.length c0_3,.slice A0_4 l0_4.length c0_4,.slice A0_5 l0_5.length c0_5,.slice A0_6 l0_6.length c0_6] 27 (0,0)) (by (with_reducible repeat (first|refine bkN ?_ _|refine bkD ?_|refine bkA ?_ _));exact BK259.out)):gb259 ≠ gb261));have NB261_259:=As0.mk (Ne.symm NB259_261.out);replace BK259:=As0.mk (bb hb BK259.out);have NB260_261:=As0.mk ((by rw [hg];exact Nat.ne_of_lt (blk_lt (g:=gb260) (o:=.cells #[.int .i64 0,.int .i64 0,.int .i64 0,.slice none 0 0,.slice none 0 0,.slice none 0 0,.slice none 0 0] 35 (0,0)) (by (with_reducible repeat (first|refine bkN ?_ _|refine bkD ?_|refine bkA ?_ _));exact BK260.out)):gb260 ≠ gb261));have NB261_260:=As0.mk (Ne.symm NB260_261.out);replace BK260:=As0.mk (bb hb BK260.out);clear hb hbox hg;have hnb9:=NB259_260.out;have hnc9:=NB260_259.out;have hnb10:=NB259_261.out;have hnc10:=NB261_259.out;obtain ⟨hcz11_0,hcz11_1,hcz11_2,hcz11_3,hcz11_4,hcz11_5,hcz11_6⟩:=qc7 BK259.out;obtain ⟨hfz11_0,hfz11_1,hfz11_2,hfz11_3,hfz11_4,hfz11_5,hfz11_6⟩:=qz7 BK259.out;have hnb12:=NB261_260.out;have hnc12:=NB260_261.out;obtain ⟨hcz13_0,hcz13_1,hcz13_2,hcz13_3,hcz13_4,hcz13_5,hcz13_6⟩:=qc7 BK261.out;obtain ⟨hfz13_0,hfz13_1,hfz13_2,hfz13_3,hfz13_4,hfz13_5,hfz13_6⟩:=qz7 BK261.out)|((with_reducible refine gca (f:=19) rfl ?_);refine gL (some 15) Tryd.func19 #[.slice A0_3 l0_3.length c0_3] ?_;(with_reducible refine (laws_toSpaceS.calls k _ _ l0_3 t262 _ ?side1 ?side2 A2.out).mono ?_);(case side1=>exact Kd.C_below HR0_3.out (by repeat (first|(with_reducible first|exact HB.out|apply bal|apply pbN|apply bd1|refine bst ?_ GE259.out|refine bst ?_ GE260.out|refine bst ?_ GE261.out)|exact HB.out)));(case side2=>exact HC0_3.out);rintro e w14 ⟨v263,rfl,ho0,hb⟩;refine ⟨_,rfl,?_⟩;have HO264:=As0.mk (Kd.R_lower ho0 (bsz (by repeat (first|(with_reducible first|exact HB.out|apply bal|apply pbN|apply bd1|refine bst ?_ GE259.out|refine bst ?_ GE260.out|refine bst ?_ GE261.out)|exact HB.out))));replace BK259:=As0.mk (blk_below (g:=gb259) (o:=.cells #[.int .i64 a0_0,.int .i64 a0_1,.int .i64 a0_2,.slice A0_3 l0_3.length c0_3,.slice A0_4 l0_4.length c0_4,.slice A0_5 l0_5.length c0_5,.slice A0_6 l0_6.length c0_6] 27 (0,0)) (by (with_reducible repeat (first|refine bkN ?_ _|refine bkD ?_|refine bkA ?_ _));refine blk_far ?_ NB259_261.out _;(with_reducible repeat (first|refine bkN ?_ _|refine bkD ?_|refine bkA ?_ _));refine blk_far ?_ NB259_261.out _;(with_reducible repeat (first|refine bkN ?_ _|refine bkD ?_|refine bkA ?_ _));refine blk_far ?_ NB259_261.out _;(with_reducible repeat (first|refine bkN ?_ _|refine bkD ?_|refine bkA ?_ _));exact BK259.out) hb);replace BK260:=As0.mk (blk_below (g:=gb260) (o:=.cells #[.int .i64 0,.int .i64 0,.int .i64 0,.slice none 0 0,.slice none 0 0,.slice none 0 0,.slice none 0 0] 35 (0,0)) (by (with_reducible repeat (first|refine bkN ?_ _|refine bkD ?_|refine bkA ?_ _));refine blk_far ?_ NB260_261.out _;(with_reducible repeat (first|refine bkN ?_ _|refine bkD ?_|refine bkA ?_ _));refine blk_far ?_ NB260_261.out _;(with_reducible repeat (first|refine bkN ?_ _|refine bkD ?_|refine bkA ?_ _));refine blk_far ?_ NB260_261.out _;(with_reducible repeat (first|refine bkN ?_ _|refine bkD ?_|refine bkA ?_ _));exact BK260.out) hb);replace BK261:=As0.mk (blk_below (g:=gb261) (o:=.cells #[.int .i64 a0_0,.int .i64 a0_1,.int .i64 a0_2,.slice none 0 0,.slice none 0 0,.slice none 0 0,.slice none 0 0] 35 (0,0)) (by (with_reducible repeat (first|refine bkN ?_ _|refine bkD ?_|refine bkA ?_ _));refine blk_put (cs:=#[.int .i64 a0_0,.int .i64 a0_1,.int .i64 0,.slice none 0 0,.slice none 0 0,.slice none 0 0,.slice none 0 0]) ?_ 2 _ rfl;(with_reducible repeat (first|refine bkN ?_ _|refine bkD ?_|refine bkA ?_ _));refine blk_put (cs:=#[.int .i64 a0_0,.int .i64 0,.int .i64 0,.slice none 0 0,.slice none 0 0,.slice none 0 0,.slice none 0 0]) ?_ 1 _ rfl;(with_reducible repeat (first|refine bkN ?_ _|refine bkD ?_|refine bkA ?_ _));refine blk_put (cs:=#[.int .i64 0,.int .i64 0,.int .i64 0,.slice none 0 0,.slice none 0 0,.slice none 0 0,.slice none 0 0]) ?_ 0 _ rfl;(with_reducible repeat (first|refine bkN ?_ _|refine bkD ?_|refine bkA ?_ _));exact BK261.out) hb);replace HB:=As0.mk (bsp (by repeat (first|(with_reducible first|exact HB.out|apply bal|apply pbN|apply bd1|refine bst ?_ GE259.out|refine bst ?_ GE260.out|refine bst ?_ GE261.out)|exact HB.out)) hb);clear hb ho0;obtain ⟨Ao15,co15,eo15⟩:=Kd.R_slice HO264.out;subst eo15;obtain ⟨hcz16_0,hcz16_1,hcz16_2,hcz16_3,hcz16_4,hcz16_5,hcz16_6⟩:=qc7 BK261.out;obtain ⟨hfz16_0,hfz16_1,hfz16_2,hfz16_3,hfz16_4,hfz16_5,hfz16_6⟩:=qz7 BK261.out;obtain ⟨hcz17_0,hcz17_1,hcz17_2,hcz17_3,hcz17_4,hcz17_5,hcz17_6⟩:=qc7 BK259.out;obtain ⟨hfz17_0,hfz17_1,hfz17_2,hfz17_3,hfz17_4,hfz17_5,hfz17_6⟩:=qz7 BK259.out)|((with_reducible refine gca (f:=20) rfl ?_);refine gL (some 19) Tryd.func20 #[.slice A0_4 l0_4.length c0_4] ?_;(with_reducible refine (laws_toUseS.calls k _ _ l0_4 t265 _ ?side1 ?side2 A3.out).mono ?_);(case side1=>exact Kd.C_below HR0_4.out (by repeat (first|(with_reducible first|exact HB.out|apply bal|apply pbN|apply bd1|refine bst ?_ GE259.out|refine bst ?_ GE260.out|refine bst ?_ GE261.out)|exact HB.out)));(case side2=>exact HC0_4.out);rintro e w18 ⟨v266,rfl,ho0,hb⟩;refine ⟨_,rfl,?_⟩;replace HO264:=As0.mk (Kd.R_below (by (with_reducible repeat (first|apply Kd.Ral|apply Kd.RdN|apply Kd.R_drew));exact (Kd.R_mono (Kd.R_far (p:=⟨gb261,3,none⟩) (Kd.R_types HO264.out BK261.out (by decide)) (fun _ hk=>hk.2) (.slice Ao15 t262.length co15)) (fun _ h_=>h_.1))) hb);have HO267:=As0.mk (Kd.R_lower ho0 (bsz (by repeat (first|(with_reducible first|exact HB.out|apply bal|apply pbN|apply bd1|refine bst ?_ GE259.out|refine bst ?_ GE260.out|refine bst ?_ GE261.out)|exact HB.out))));replace BK259:=As0.mk (blk_below (g:=gb259) (o:=.cells #[.int .i64 a0_0,.int .i64 a0_1,.int .i64 a0_2,.slice A0_3 l0_3.length c0_3,.slice A0_4 l0_4.length c0_4,.slice A0_5 l0_5.length c0_5,.slice A0_6 l0_6.length c0_6] 27 (0,0)) (by (with_reducible repeat (first|refine bkN ?_ _|refine bkD ?_|refine bkA ?_ _));refine blk_far ?_ NB259_261.out _;(with_reducible repeat (first|refine bkN ?_ _|refine bkD ?_|refine bkA ?_ _));exact BK259.out) hb);replace BK260:=As0.mk (blk_below (g:=gb260) (o:=.cells #[.int .i64 0,.int .i64 0,.int .i64 0,.slice none 0 0,.slice none 0 0,.slice none 0 0,.slice none 0 0] 35 (0,0)) (by (with_reducible repeat (first|refine bkN ?_ _|refine bkD ?_|refine bkA ?_ _));refine blk_far ?_ NB260_261.out _;(with_reducible repeat (first|refine bkN ?_ _|refine bkD ?_|refine bkA ?_ _));exact BK260.out) hb);replace BK261:=As0.mk (blk_below (g:=gb261) (o:=.cells #[.int .i64 a0_0,.int .i64 a0_1,.int .i64 a0_2,.slice Ao15 t262.length co15,.slice none 0 0,.slice none 0 0,.slice none 0 0] 35 (0,0)) (by (with_reducible repeat (first|refine bkN ?_ _|refine bkD ?_|refine bkA ?_ _));refine blk_put (cs:=#[.int .i64 a0_0,.int .i64 a0_1,.int .i64 a0_2,.slice none 0 0,.slice none 0 0,.slice none 0 0,.slice none 0 0]) ?_ 3 _ rfl;(with_reducible repeat (first|refine bkN ?_ _|refine bkD ?_|refine bkA ?_ _));exact BK261.out) hb);replace HB:=As0.mk (bsp (by repeat (first|(with_reducible first|exact HB.out|apply bal|apply pbN|apply bd1|refine bst ?_ GE259.out|refine bst ?_ GE260.out|refine bst ?_ GE261.out)|exact HB.out)) hb);clear hb ho0;obtain ⟨Ao19,co19,eo19⟩:=Kd.R_slice HO267.out;subst eo19;obtain ⟨hcz20_0,hcz20_1,hcz20_2,hcz20_3,hcz20_4,hcz20_5,hcz20_6⟩:=qc7 BK261.out;obtain ⟨hfz20_0,hfz20_1,hfz20_2,hfz20_3,hfz20_4,hfz20_5,hfz20_6⟩:=qz7 BK261.out;obtain ⟨hcz21_0,hcz21_1,hcz21_2,hcz21_3,hcz21_4,hcz21_5,hcz21_6⟩:=qc7 BK259.out;obtain ⟨hfz21_0,hfz21_1,hfz21_2,hfz21_3,hfz21_4,hfz21_5,hfz21_6⟩:=qz7 BK259.out)|((with_reducible refine gca (f:=21) rfl ?_);refine gL (some 23) Tryd.func21 #[.slice A0_5 l0_5.length c0_5] ?_;(with_reducible refine (laws_toThingS.calls k _ _ l0_5 t268 _ ?side1 ?side2 A4.out).mono ?_);(case side1=>exact Kd.C_below HR0_5.out (by repeat (first|(with_reducible first|exact HB.out|apply bal|apply pbN|apply bd1|refine bst ?_ GE259.out|refine bst ?_ GE260.out|refine bst ?_ GE261.out)|exact HB.out)));(case side2=>exact HC0_5.out);rintro e w22 ⟨v269,rfl,ho0,hb⟩;refine ⟨_,rfl,?_⟩;replace HO264:=As0.mk (Kd.R_below (by (with_reducible repeat (first|apply Kd.Ral|apply Kd.RdN|apply Kd.R_drew));exact (Kd.R_mono (Kd.R_far (p:=⟨gb261,4,none⟩) (Kd.R_types HO264.out BK261.out (by decide)) (fun _ hk=>hk.2) (.slice Ao19 t265.length co19)) (fun _ h_=>h_.1))) hb);replace HO267:=As0.mk (Kd.R_below (by (with_reducible repeat (first|apply Kd.Ral|apply Kd.RdN|apply Kd.R_drew));exact (Kd.R_mono (Kd.R_far (p:=⟨gb261,4,none⟩) (Kd.R_types HO267.out BK261.out (by decide)) (fun _ hk=>hk.2) (.slice Ao19 t265.length co19)) (fun _ h_=>h_.1))) hb);have HO270:=As0.mk (Kd.S_lower ho0 (bsz (by repeat (first|(with_reducible first|exact HB.out|apply bal|apply pbN|apply bd1|refine bst ?_ GE259.out|refine bst ?_ GE260.out|refine bst ?_ GE261.out)|exact HB.out))));replace BK259:=As0.mk (blk_below (g:=gb259) (o:=.cells #[.int .i64 a0_0,.int .i64 a0_1,.int .i64 a0_2,.slice A0_3 l0_3.length c0_3,.slice A0_4 l0_4.length c0_4,.slice A0_5 l0_5.length c0_5,.slice A0_6 l0_6.length c0_6] 27 (0,0)) (by (with_reducible repeat (first|refine bkN ?_ _|refine bkD ?_|refine bkA ?_ _));refine blk_far ?_ NB259_261.out _;(with_reducible repeat (first|refine bkN ?_ _|refine bkD ?_|refine bkA ?_ _));exact BK259.out) hb);replace BK260:=As0.mk (blk_below (g:=gb260) (o:=.cells #[.int .i64 0,.int .i64 0,.int .i64 0,.slice none 0 0,.slice none 0 0,.slice none 0 0,.slice none 0 0] 35 (0,0)) (by (with_reducible repeat (first|refine bkN ?_ _|refine bkD ?_|refine bkA ?_ _));refine blk_far ?_ NB260_261.out _;(with_reducible repeat (first|refine bkN ?_ _|refine bkD ?_|refine bkA ?_ _));exact BK260.out) hb);replace BK261:=As0.mk (blk_below (g:=gb261) (o:=.cells #[.int .i64 a0_0,.int .i64 a0_1,.int .i64 a0_2,.slice Ao15 t262.length co15,.slice Ao19 t265.length co19,.slice none 0 0,.slice none 0 0] 35 (0,0)) (by (with_reducible repeat (first|refine bkN ?_ _|refine bkD ?_|refine bkA ?_ _));refine blk_put (cs:=#[.int .i64 a0_0,.int .i64 a0_1,.int .i64 a0_2,.slice Ao15 t262.length co15,.slice none 0 0,.slice none 0 0,.slice none 0 0]) ?_ 4 _ rfl;(with_reducible repeat (first|refine bkN ?_ _|refine bkD ?_|refine bkA ?_ _));exact BK261.out) hb);replace HB:=As0.mk (bsp (by repeat (first|(with_reducible first|exact HB.out|apply bal|apply pbN|apply bd1|refine bst ?_ GE259.out|refine bst ?_ GE260.out|refine bst ?_ GE261.out)|exact HB.out)) hb);clear hb ho0;obtain ⟨Ao23,co23,eo23⟩:=Kd.S_slice HO270.out;subst eo23;obtain ⟨hcz24_0,hcz24_1,hcz24_2,hcz24_3,hcz24_4,hcz24_5,hcz24_6⟩:=qc7 BK261.out;obtain ⟨hfz24_0,hfz24_1,hfz24_2,hfz24_3,hfz24_4,hfz24_5,hfz24_6⟩:=qz7 BK261.out;obtain ⟨hcz25_0,hcz25_1,hcz25_2,hcz25_3,hcz25_4,hcz25_5,hcz25_6⟩:=qc7 BK259.out;obtain ⟨hfz25_0,hfz25_1,hfz25_2,hfz25_3,hfz25_4,hfz25_5,hfz25_6⟩:=qz7 BK259.out)|((with_reducible refine gca (f:=22) rfl ?_);refine gL (some 27) Tryd.func22 #[.slice A0_6 l0_6.length c0_6] ?_;(with_reducible refine (laws_toPastS.calls k _ _ l0_6 t271 _ ?side1 ?side2 A5.out).mono ?_);(case side1=>exact Kd.C_below HR0_6.out (by repeat (first|(with_reducible first|exact HB.out|apply bal|apply pbN|apply bd1|refine bst ?_ GE259.out|refine bst ?_ GE260.out|refine bst ?_ GE261.out)|exact HB.out)));(case side2=>exact HC0_6.out);rintro e w26 ⟨v272,rfl,ho0,hb⟩;refine ⟨_,rfl,?_⟩;replace HO264:=As0.mk (Kd.R_below (by (with_reducible repeat (first|apply Kd.Ral|apply Kd.RdN|apply Kd.R_drew));exact (Kd.R_mono (Kd.R_far (p:=⟨gb261,5,none⟩) (Kd.R_types HO264.out BK261.out (by decide)) (fun _ hk=>hk.2) (.slice Ao23 t268.length co23)) (fun _ h_=>h_.1))) hb);replace HO267:=As0.mk (Kd.R_below (by (with_reducible repeat (first|apply Kd.Ral|apply Kd.RdN|apply Kd.R_drew));exact (Kd.R_mono (Kd.R_far (p:=⟨gb261,5,none⟩) (Kd.R_types HO267.out BK261.out (by decide)) (fun _ hk=>hk.2) (.slice Ao23 t268.length co23)) (fun _ h_=>h_.1))) hb);replace HO270:=As0.mk (Kd.S_below (by (with_reducible repeat (first|apply Kd.Sal|apply Kd.SdN|apply Kd.S_drew));exact (Kd.S_mono (Kd.S_far (p:=⟨gb261,5,none⟩) (Kd.S_types HO270.out BK261.out (by decide)) (fun _ hk=>hk.2) (.slice Ao23 t268.length co23)) (fun _ h_=>h_.1))) hb);have HO273:=As0.mk (Kd.R_lower ho0 (bsz (by repeat (first|(with_reducible first|exact HB.out|apply bal|apply pbN|apply bd1|refine bst ?_ GE259.out|refine bst ?_ GE260.out|refine bst ?_ GE261.out)|exact HB.out))));replace BK259:=As0.mk (blk_below (g:=gb259) (o:=.cells #[.int .i64 a0_0,.int .i64 a0_1,.int .i64 a0_2,.slice A0_3 l0_3.length c0_3,.slice A0_4 l0_4.length c0_4,.slice A0_5 l0_5.length c0_5,.slice A0_6 l0_6.length c0_6] 27 (0,0)) (by (with_reducible repeat (first|refine bkN ?_ _|refine bkD ?_|refine bkA ?_ _));refine blk_far ?_ NB259_261.out _;(with_reducible repeat (first|refine bkN ?_ _|refine bkD ?_|refine bkA ?_ _));exact BK259.out) hb);replace BK260:=As0.mk (blk_below (g:=gb260) (o:=.cells #[.int .i64 0,.int .i64 0,.int .i64 0,.slice none 0 0,.slice none 0 0,.slice none 0 0,.slice none 0 0] 35 (0,0)) (by (with_reducible repeat (first|refine bkN ?_ _|refine bkD ?_|refine bkA ?_ _));refine blk_far ?_ NB260_261.out _;(with_reducible repeat (first|refine bkN ?_ _|refine bkD ?_|refine bkA ?_ _));exact BK260.out) hb);replace BK261:=As0.mk (blk_below (g:=gb261) (o:=.cells #[.int .i64 a0_0,.int .i64 a0_1,.int .i64 a0_2,.slice Ao15 t262.length co15,.slice Ao19 t265.length co19,.slice Ao23 t268.length co23,.slice none 0 0] 35 (0,0)) (by (with_reducible repeat (first|refine bkN ?_ _|refine bkD ?_|refine bkA ?_ _));refine blk_put (cs:=#[.int .i64 a0_0,.int .i64 a0_1,.int .i64 a0_2,.slice Ao15 t262.length co15,.slice Ao19 t265.length co19,.slice none 0 0,.slice none 0 0]) ?_ 5 _ rfl;(with_reducible repeat (first|refine bkN ?_ _|refine bkD ?_|refine bkA ?_ _));exact BK261.out) hb);replace HB:=As0.mk (bsp (by repeat (first|(with_reducible first|exact HB.out|apply bal|apply pbN|apply bd1|refine bst ?_ GE259.out|refine bst ?_ GE260.out|refine bst ?_ GE261.out)|exact HB.out)) hb);clear hb ho0;obtain ⟨Ao27,co27,eo27⟩:=Kd.R_slice HO273.out;subst eo27;obtain ⟨hcz28_0,hcz28_1,hcz28_2,hcz28_3,hcz28_4,hcz28_5,hcz28_6⟩:=qc7 BK261.out;obtain ⟨hfz28_0,hfz28_1,hfz28_2,hfz28_3,hfz28_4,hfz28_5,hfz28_6⟩:=qz7 BK261.out;obtain ⟨hcz29_0,hcz29_1,hcz29_2,hcz29_3,hcz29_4,hcz29_5,hcz29_6⟩:=qc7 BK260.out;obtain ⟨hfz29_0,hfz29_1,hfz29_2,hfz29_3,hfz29_4,hfz29_5,hfz29_6⟩:=qz7 BK260.out))
 refine bodyPost_ret (results_cell_row rfl _ _ gb260 35 #[.int .i64 a0_0,.int .i64 a0_1,.int .i64 a0_2,.slice Ao15 t262.length co15,.slice Ao19 t265.length co19,.slice Ao23 t268.length co23,.slice Ao27 t271.length co27] (0,0) _ rfl (by (with_reducible repeat (first|refine bkN ?_ _|refine bkD ?_|refine bkA ?_ _));refine blk_put (cs:=#[.int .i64 a0_0,.int .i64 a0_1,.int .i64 a0_2,.slice Ao15 t262.length co15,.slice Ao19 t265.length co19,.slice Ao23 t268.length co23,.slice none 0 0]) ?_ 6 _ rfl;(with_reducible repeat (first|refine bkN ?_ _|refine bkD ?_|refine bkA ?_ _));refine blk_put (cs:=#[.int .i64 a0_0,.int .i64 a0_1,.int .i64 a0_2,.slice Ao15 t262.length co15,.slice Ao19 t265.length co19,.slice none 0 0,.slice none 0 0]) ?_ 5 _ rfl;(with_reducible repeat (first|refine bkN ?_ _|refine bkD ?_|refine bkA ?_ _));refine blk_put (cs:=#[.int .i64 a0_0,.int .i64 a0_1,.int .i64 a0_2,.slice Ao15 t262.length co15,.slice none 0 0,.slice none 0 0,.slice none 0 0]) ?_ 4 _ rfl;(with_reducible repeat (first|refine bkN ?_ _|refine bkD ?_|refine bkA ?_ _));refine blk_put (cs:=#[.int .i64 a0_0,.int .i64 a0_1,.int .i64 a0_2,.slice none 0 0,.slice none 0 0,.slice none 0 0,.slice none 0 0]) ?_ 3 _ rfl;(with_reducible repeat (first|refine bkN ?_ _|refine bkD ?_|refine bkA ?_ _));refine blk_put (cs:=#[.int .i64 a0_0,.int .i64 a0_1,.int .i64 0,.slice none 0 0,.slice none 0 0,.slice none 0 0,.slice none 0 0]) ?_ 2 _ rfl;(with_reducible repeat (first|refine bkN ?_ _|refine bkD ?_|refine bkA ?_ _));refine blk_put (cs:=#[.int .i64 a0_0,.int .i64 0,.int .i64 0,.slice none 0 0,.slice none 0 0,.slice none 0 0,.slice none 0 0]) ?_ 1 _ rfl;(with_reducible repeat (first|refine bkN ?_ _|refine bkD ?_|refine bkA ?_ _));refine blk_put (cs:=#[.int .i64 0,.int .i64 0,.int .i64 0,.slice none 0 0,.slice none 0 0,.slice none 0 0,.slice none 0 0]) ?_ 0 _ rfl;(with_reducible repeat (first|refine bkN ?_ _|refine bkD ?_|refine bkA ?_ _));refine blk_far ?_ NB260_261.out _;(with_reducible repeat (first|refine bkN ?_ _|refine bkD ?_|refine bkA ?_ _));exact BK260.out) Tryd.underlying35 rfl (by kernel_rfl)) rfl ?_
 exact ⟨_,_,_,_,by first|rfl|(simp [errW_none,errW_some] <;> rfl)|(simp [*,errW_none,errW_some] <;> rfl),by (with_reducible repeat (first|apply Kd.Ral|apply Kd.RdN|apply Kd.R_drew));exact Kd.R_mono (Kd.R_far (p:=⟨gb260,6,none⟩) (Kd.R_far (p:=⟨gb260,5,none⟩) (Kd.R_far (p:=⟨gb260,4,none⟩) (Kd.R_far (p:=⟨gb260,3,none⟩) (Kd.R_far (p:=⟨gb260,2,none⟩) (Kd.R_far (p:=⟨gb260,1,none⟩) (Kd.R_far (p:=⟨gb260,0,none⟩) (Kd.R_far (p:=⟨gb261,6,none⟩) (Kd.R_types (Kd.R_types HO264.out BK261.out (by decide)) BK260.out (by decide)) (fun _ hk=>hk.1.2) (.slice Ao27 t271.length co27)) (fun _ hk=>hk.2) (.int .i64 a0_0)) (fun _ hk=>hk.2) (.int .i64 a0_1)) (fun _ hk=>hk.2) (.int .i64 a0_2)) (fun _ hk=>hk.2) (.slice Ao15 t262.length co15)) (fun _ hk=>hk.2) (.slice Ao19 t265.length co19)) (fun _ hk=>hk.2) (.slice Ao23 t268.length co23)) (fun _ hk=>hk.2) (.slice Ao27 t271.length co27)) (fun _ hk=>trivial),by (with_reducible repeat (first|apply Kd.Ral|apply Kd.RdN|apply Kd.R_drew));exact Kd.R_mono (Kd.R_far (p:=⟨gb260,6,none⟩) (Kd.R_far (p:=⟨gb260,5,none⟩) (Kd.R_far (p:=⟨gb260,4,none⟩) (Kd.R_far (p:=⟨gb260,3,none⟩) (Kd.R_far (p:=⟨gb260,2,none⟩) (Kd.R_far (p:=⟨gb260,1,none⟩) (Kd.R_far (p:=⟨gb260,0,none⟩) (Kd.R_far (p:=⟨gb261,6,none⟩) (Kd.R_types (Kd.R_types HO267.out BK261.out (by decide)) BK260.out (by decide)) (fun _ hk=>hk.1.2) (.slice Ao27 t271.length co27)) (fun _ hk=>hk.2) (.int .i64 a0_0)) (fun _ hk=>hk.2) (.int .i64 a0_1)) (fun _ hk=>hk.2) (.int .i64 a0_2)) (fun _ hk=>hk.2) (.slice Ao15 t262.length co15)) (fun _ hk=>hk.2) (.slice Ao19 t265.length co19)) (fun _ hk=>hk.2) (.slice Ao23 t268.length co23)) (fun _ hk=>hk.2) (.slice Ao27 t271.length co27)) (fun _ hk=>trivial),by (with_reducible repeat (first|apply Kd.Sal|apply Kd.SdN|apply Kd.S_drew));exact Kd.S_mono (Kd.S_far (p:=⟨gb260,6,none⟩) (Kd.S_far (p:=⟨gb260,5,none⟩) (Kd.S_far (p:=⟨gb260,4,none⟩) (Kd.S_far (p:=⟨gb260,3,none⟩) (Kd.S_far (p:=⟨gb260,2,none⟩) (Kd.S_far (p:=⟨gb260,1,none⟩) (Kd.S_far (p:=⟨gb260,0,none⟩) (Kd.S_far (p:=⟨gb261,6,none⟩) (Kd.S_types (Kd.S_types HO270.out BK261.out (by decide)) BK260.out (by decide)) (fun _ hk=>hk.1.2) (.slice Ao27 t271.length co27)) (fun _ hk=>hk.2) (.int .i64 a0_0)) (fun _ hk=>hk.2) (.int .i64 a0_1)) (fun _ hk=>hk.2) (.int .i64 a0_2)) (fun _ hk=>hk.2) (.slice Ao15 t262.length co15)) (fun _ hk=>hk.2) (.slice Ao19 t265.length co19)) (fun _ hk=>hk.2) (.slice Ao23 t268.length co23)) (fun _ hk=>hk.2) (.slice Ao27 t271.length co27)) (fun _ hk=>trivial),by (with_reducible repeat (first|apply Kd.Ral|apply Kd.RdN|apply Kd.R_drew));exact Kd.R_mono (Kd.R_far (p:=⟨gb260,6,none⟩) (Kd.R_far (p:=⟨gb260,5,none⟩) (Kd.R_far (p:=⟨gb260,4,none⟩) (Kd.R_far (p:=⟨gb260,3,none⟩) (Kd.R_far (p:=⟨gb260,2,none⟩) (Kd.R_far (p:=⟨gb260,1,none⟩) (Kd.R_far (p:=⟨gb260,0,none⟩) (Kd.R_far (p:=⟨gb261,6,none⟩) (Kd.R_types (Kd.R_types HO273.out BK261.out (by decide)) BK260.out (by decide)) (fun _ hk=>hk.1.2) (.slice Ao27 t271.length co27)) (fun _ hk=>hk.2) (.int .i64 a0_0)) (fun _ hk=>hk.2) (.int .i64 a0_1)) (fun _ hk=>hk.2) (.int .i64 a0_2)) (fun _ hk=>hk.2) (.slice Ao15 t262.length co15)) (fun _ hk=>hk.2) (.slice Ao19 t265.length co19)) (fun _ hk=>hk.2) (.slice Ao23 t268.length co23)) (fun _ hk=>hk.2) (.slice Ao27 t271.length co27)) (fun _ hk=>trivial),by repeat (first|(with_reducible first|exact HB.out|apply bal|apply pbN|apply bd1|refine bst ?_ GE259.out|refine bst ?_ GE260.out|refine bst ?_ GE261.out)|exact HB.out)⟩
def fsp.p (nm:ByteArray) (x:SiS28):Bool:=(x.f0.toList == nm.toList)
set_option maxHeartbeats 4000000 in
theorem fsp.closure (x:SiS28) (nm:ByteArray) (gn:Nat) (b:Bool) (w:World) (hX:w.heap[gn]? = some (.cells #[.string nm] 9 (0,0))) (hb:fsp.p nm x = b) :
 Calls Tryd.prog 67 #[.agg #[.string x.f0,.string x.f1,.int .i64 x.f2,.bool x.f3,.int .i64 x.f4],.pointer (some ⟨gn,0,none⟩)] w fun r w'=>r = .returned (.bool b) ∧ Below w.heap.size w w':=by
 have hu:=Tryd.underlying47;have HX:=As0.mk hX;have HB:=As0.mk (Below.refl w.heap.size w);clear hX;unfold fsp.p at hb;subst hb
 go_enter Tryd.func67,Tryd.ntmps67
 go_wp2_with ((with_reducible refine gate_dst (N:=2) rfl ?_);refine bE 2 #[.string x.f0,.string x.f1,.int .i64 x.f2,.bool x.f3,.int .i64 x.f4] 47 ?_;intro gb hg w8 hbox hb;replace HB:=As0.mk (bsp HB.out hb);have BK:=As0.mk hbox;replace HX:=As0.mk (blk_below HX.out hb);clear hb hbox hg;have q0:w8.cell? ⟨gb,0,none⟩ = some (.string x.f0):=(bkC BK.out 0).trans rfl;have q1:w8.cell? ⟨gb,1,none⟩ = some (.string x.f1):=(bkC BK.out 1).trans rfl;have q2:w8.cell? ⟨gb,2,none⟩ = some (.int .i64 x.f2):=(bkC BK.out 2).trans rfl;have q3:w8.cell? ⟨gb,3,none⟩ = some (.bool x.f3):=(bkC BK.out 3).trans rfl;have q4:w8.cell? ⟨gb,4,none⟩ = some (.int .i64 x.f4):=(bkC BK.out 4).trans rfl;have u0:w8.cell? ⟨gn,0,none⟩ = some (.string nm):=(bkC HX.out 0).trans rfl)
 go_ret
 exact ⟨by first|rfl|(simp;done),by repeat (first|(with_reducible first|exact HB.out|apply pbN|apply bd1)|exact HB.out)⟩
def fsp.idx {α:Type} (p:α → Bool):List α → Int → Int
 |[],_=>-1
 |x :: r,i=>if p x = true then i else fsp.idx p r (i + 1)
set_option maxHeartbeats 4000000 in
set_option maxRecDepth 100000 in
theorem fsp.index (A:Option Addr) (c:Nat) (l:List (SiS28)) (nm:ByteArray) (gn:Nat) (r:Int) (w:World) (hr:Kd.C k47 w A l.length l) (hX:w.heap[gn]? = some (.cells #[.string nm] 9 (0,0))) (hR:fsp.idx (fsp.p nm) l 0 = r) :
 Calls Tryd.prog 66 #[.slice A l.length c,.func (.func 67) #[] #[.pointer (some ⟨gn,0,none⟩)]] w fun e w'=>e = .returned (.int .i64 r) ∧ Below w.heap.size w w':=by
 have hu:=Tryd.underlying47;have HR:=As0.mk hr;have HX:=As0.mk hX;clear hX;have HB:=As0.mk (Below.refl w.heap.size w);have HQ:=As0.mk hR;clear hr hR
 go_enter Tryd.func66,Tryd.ntmps66
 go_wp2
 show _;go_loopg [8] l.length (fun m v w'=>∃ i:Nat,v = .int .i64 (i:Int) ∧ As0 (i + m = l.length) ∧ As0 (fsp.idx (fsp.p nm) (l.drop i) (i:Int) = r) ∧ As0 (Below w.heap.size w w'))
 case atStart=>exact ⟨0,(by first|rfl|(simp;done)),⟨by simp⟩,⟨HQ.out⟩,HB⟩
 case round=>
  clear HB HQ;obtain ⟨i,rfl,HM,HI,HB⟩:=hrel;have hbound:l.length ≤ 9223372036854775807:=HR.out.2.1
  cases gk with
  |zero=>
   have hm:=HM.out;have t0:decide ((i:Int) < (l.length:Int)) = false:=decide_eq_false (by omega);have t1:decide (i < l.length) = false:=decide_eq_false (by omega);have HE:=As0.mk (show (-1:Int) = r by have h:=HI.out;rw [List.drop_of_length_le (by omega)] at h;exact h);clear hm HI HM hbound
   go_wp2
   go_ret
   exact ⟨by rw [← HE.out];first|done|rfl|(simp;done),HB.out⟩
  |succ k2=>
   have hm:=HM.out;have hi:i < l.length:=by omega
   have t0:decide ((i:Int) < (l.length:Int)) = true:=decide_eq_true (by omega);have t1:decide (i < l.length) = true:=decide_eq_true hi;have hx:riS37 l (i:Int) = l[i]:=by simp [riS37,List.getElem?_eq_getElem hi]
   have hd:l.drop i = riS37 l (i:Int) :: l.drop (i + 1):=by rw [hx];exact List.drop_eq_getElem_cons hi
   have hI:=HI.out;rw [hd,fsp.idx] at hI;obtain ⟨ad,e0,hx0,hx1,hx2,hx3,hx4⟩:=at_T47 HR.out (i:Int) (by omega) (by omega)
   cases e0
   replace hx0:=bx HB.out rfl hx0;replace hx1:=bx HB.out rfl hx1;replace hx2:=bx HB.out rfl hx2;replace hx3:=bx HB.out rfl hx3;replace hx4:=bx HB.out rfl hx4;simp only [Int.toNat_natCast] at hx0 hx1 hx2 hx3 hx4;have p0:(0 ≤ (i:Int)) = True:=eq_true (by omega);have q1:(i < l.length) = True:=eq_true hi;have q2:((i:Int) < (l.length:Int)) = True:=eq_true (by omega);have w0_:wrap64 ((i:Int) + 1) = ((i + 1:Nat):Int):=by unfold wrap64;omega
   have i0_:((i:Int)).toNat = i:=rfl;clear hx hd HI
   cases hp:(fsp.p nm) (riS37 l (i:Int)) with
   |true=>
    have HP:=As0.mk hp;have HE:=As0.mk (show (i:Int) = r by rw [hp] at hI;simpa using hI);clear hp hI hm hi HM w0_
    go_wp2_with (go_at_call 67;(with_reducible refine (fsp.closure _ nm gn _ _ (blk_below HX.out HB.out) HP.out).mono ?_);rintro e w' ⟨rfl,hb⟩;replace HB:=As0.mk (bsp HB.out hb);clear hb)
    go_ret
    exact ⟨by rw [← HE.out];first|done|rfl|(simp;done),by repeat (first|(with_reducible first|exact HB.out|apply pbN|apply bd1)|exact HB.out)⟩
   |false=>
    have HP:=As0.mk hp;have HE:=As0.mk (show fsp.idx (fsp.p nm) (l.drop (i + 1)) ((i:Int) + 1) = r by rw [hp] at hI;simpa using hI);have HM2:=As0.mk (show i + 1 + k2 = l.length by omega);have W0:=As0.mk w0_;clear hp hI hm hi HM w0_
    go_wp2_with (go_at_call 67;(with_reducible refine (fsp.closure _ nm gn _ _ (blk_below HX.out HB.out) HP.out).mono ?_);rintro e w' ⟨rfl,hb⟩;replace HB:=As0.mk (bsp HB.out hb);clear hb)
    show _;go_roundg k2
    case measure=>omega
    case rel=>exact ⟨i + 1,(by first|rw [W0.out]|(simp;done)),HM2,⟨HE.out⟩,⟨by repeat (first|(with_reducible first|exact HB.out|apply pbN|apply bd1)|exact HB.out)⟩⟩
def impl_Space.f (l:List (SiS28)) (nm:ByteArray):Option (Int):=some (fsp.idx (fsp.p nm) l 0)
theorem impl_Space.calls (A:Option Addr) (c:Nat) (l:List (SiS28)) (nm:ByteArray) (gn:Nat) (r:Int) (w:World) (hr:Kd.C k47 w A l.length l) (_:l.length ≤ c)
 (hX:w.heap[gn]? = some (.cells #[.string nm] 9 (0,0))) (h:impl_Space.f l nm = some r) :
 Calls Tryd.prog 66 #[.slice A l.length c,.func (.func 67) #[] #[.pointer (some ⟨gn,0,none⟩)]] w fun e w'=>e = .returned (.int .i64 r) ∧ Below w.heap.size w w':=
 fsp.index A c l nm gn r w hr hX (Option.some.inj h)
def impl_findSpace.f (l0:List (SiS28)) (a1:ByteArray):Option (Int):=(impl_Space.f l0 a1).bind fun t275=>(some t275)
set_option maxHeartbeats 40000000 in
set_option maxRecDepth 100000 in
theorem impl_findSpace.calls (A0:Option Addr) (c0:Nat) (l0:List (SiS28)) (a1:ByteArray) (r:Int) (w:World) (hr0:Kd.C k47 w A0 l0.length l0) (hc0:l0.length ≤ c0) (h:impl_findSpace.f l0 a1 = some r) :
 Calls Tryd.prog 47 #[.slice A0 l0.length c0,.string a1] w fun e w'=>e = .returned (.int .i64 r) ∧ Below w.heap.size w w':=by
 have HR0:=As0.mk hr0;have HC0:=As0.mk hc0;clear hr0 hc0;have HB:=As0.mk (Below.refl w.heap.size w);have H:((impl_Space.f l0 a1).bind fun t275=>(some t275)) = some r:=h;clear h;replace H:=Option.bind_eq_some_iff.mp H;obtain ⟨t275,A30,H⟩:=H;(try dsimp only at H);have A3:=As0.mk A30;clear A30;obtain rfl:=Option.some.inj H
 go_enter Tryd.func47,Tryd.ntmps47
 go_wp2_with (first|((with_reducible refine gate_dst (N:=3) rfl ?_);refine bE 3 #[.string a1] 9 ?_;intro gb274 hg w4 hbox hb;have BK274:=As0.mk (hbox);have GW274:=As0.mk ((by rw [hg];exact (bsz (by repeat (first|(with_reducible first|exact HB.out|apply bal|apply pbN|apply bd1)|exact HB.out))):w.heap.size ≤ gb274));have GE274:=GW274;replace HB:=As0.mk (b3 HB.out hb);clear hb hbox hg)|((with_reducible refine gca (f:=66) rfl ?_);refine gL (some 7) Tryd.func66 #[.slice A0 l0.length c0,.func (.func 67) #[] #[.pointer (some ⟨gb274,0,none⟩)]] ?_;(with_reducible refine (impl_Space.calls _ _ l0 a1 gb274 t275 _ ?side1 ?side2 ?side3 A3.out).mono ?_);(case side1=>repeat (first|exact (Kd.C_below HR0.out HB.out)|(with_reducible first|refine Kd.C_alloc ?_ _|refine Kd.C_drewN ?_ _|refine Kd.C_drew ?_)));(case side2=>exact HC0.out);(case side3=>exact (by (with_reducible repeat (first|refine bkN ?_ _|refine bkD ?_|refine bkA ?_ _));exact BK274.out));rintro e w5 ⟨rfl,hb⟩;refine ⟨_,rfl,?_⟩;replace BK274:=As0.mk (bb hb BK274.out);replace HB:=As0.mk (bsp (by repeat (first|(with_reducible first|exact HB.out|apply bal|apply pbN|apply bd1|refine bst ?_ GE274.out)|exact HB.out)) hb);clear hb))
 go_ret
 exact ⟨eW,by repeat (first|(with_reducible first|exact HB.out|apply bal|apply pbN|apply bd1|refine bst ?_ GE274.out)|exact HB.out)⟩
end Go.Proofs.YtclgmogfkoinbaaDoor.P
/-
 DERIVED: THE SHELF's CONTRACTS AT THIS DUMP, IN PLAIN WORDS (tools/lay-plain.mjs out of 'TrydShelf.lean', which tools/lay-shelf.mjs wrote): THE SAME DECLARATIONS UNDER THE SAME NAMES: 'import', 'namespace', 'open', 'def', 'theorem' AND NOTHING ELSE: no command of the shelf's: FOR A HAND-IN. Each laying: the table of numbers ('.._ren') and one theorem, a field a fact of the dump's own or the kernel's comparison; each contract: ONE APPLICATION.
-/
namespace Go.Proofs
open Go.Shelf
def Tryd.lays160_ren:Go.Shelf.Ren:=⟨fun|160=>77|232=>82|231=>81|227=>83|234=>85|233=>84|236=>87|235=>86|228=>88|271=>91|151=>90|197=>89|120=>94|152=>93|260=>92|137=>95|119=>96|224=>97|225=>98|217=>99|266=>100|n=>n,fun|9=>9|4=>4|3=>3|5=>5|117=>109|116=>108|0=>0|124=>112|21=>21|105=>114|46=>119|119=>118|139=>122|138=>121|n=>n,fun|3=>0|4=>1|n=>n⟩
theorem Tryd.lays160:Go.Proofs.Lays.n160 Tryd.prog Tryd.lays160_ren:={
 mixed:=by kernel_rfl
 f119:=Tryd.func96.trans (congrArg some (by kernel_rfl))
 f120:=Tryd.func94.trans (congrArg some (by kernel_rfl))
 f137:=Tryd.func95.trans (congrArg some (by kernel_rfl))
 f151:=Tryd.func90.trans (congrArg some (by kernel_rfl))
 f152:=Tryd.func93.trans (congrArg some (by kernel_rfl))
 f160:=Tryd.func77.trans (congrArg some (by kernel_rfl))
 f197:=Tryd.func89.trans (congrArg some (by kernel_rfl))
 f217:=Tryd.func99.trans (congrArg some (by kernel_rfl))
 f224:=Tryd.func97.trans (congrArg some (by kernel_rfl))
 f225:=Tryd.func98.trans (congrArg some (by kernel_rfl))
 f227:=Tryd.func83.trans (congrArg some (by kernel_rfl))
 f228:=Tryd.func88.trans (congrArg some (by kernel_rfl))
 f231:=Tryd.func81.trans (congrArg some (by kernel_rfl))
 f232:=Tryd.func82.trans (congrArg some (by kernel_rfl))
 f233:=Tryd.func84.trans (congrArg some (by kernel_rfl))
 f234:=Tryd.func85.trans (congrArg some (by kernel_rfl))
 f235:=Tryd.func86.trans (congrArg some (by kernel_rfl))
 f236:=Tryd.func87.trans (congrArg some (by kernel_rfl))
 f260:=Tryd.func92.trans (congrArg some (by kernel_rfl))
 f266:=Tryd.func100.trans (congrArg some (by kernel_rfl))
 f271:=Tryd.func91.trans (congrArg some (by kernel_rfl))
 t0:=Tryd.underlying0
 a0:=Tryd.isAgg0
 z0:=Tryd.sizeOf0
 v0:=Tryd.zeroValue0
 t3:=Tryd.underlying3
 a3:=Tryd.isAgg3
 z3:=Tryd.sizeOf3
 v3:=Tryd.zeroValue3
 t4:=Tryd.underlying4
 a4:=Tryd.isAgg4
 z4:=Tryd.sizeOf4
 v4:=Tryd.zeroValue4
 t5:=Tryd.underlying5
 a5:=Tryd.isAgg5
 z5:=Tryd.sizeOf5
 v5:=Tryd.zeroValue5
 t9:=Tryd.underlying9
 a9:=Tryd.isAgg9
 z9:=Tryd.sizeOf9
 v9:=Tryd.zeroValue9
 t21:=Tryd.underlying21
 a21:=Tryd.isAgg21
 z21:=Tryd.sizeOf21
 v21:=Tryd.zeroValue21
 t46:=Tryd.underlying119
 a46:=Tryd.isAgg119
 z46:=Tryd.sizeOf119
 v46:=Tryd.zeroValue119
 t105:=Tryd.underlying114
 a105:=Tryd.isAgg114
 z105:=Tryd.sizeOf114
 v105:=Tryd.zeroValue114
 t116:=Tryd.underlying108
 a116:=Tryd.isAgg108
 z116:=Tryd.sizeOf108
 t117:=Tryd.underlying109
 a117:=Tryd.isAgg109
 z117:=Tryd.sizeOf109
 v117:=Tryd.zeroValue109
 t119:=Tryd.underlying118
 a119:=Tryd.isAgg118
 z119:=Tryd.sizeOf118
 t124:=Tryd.underlying112
 a124:=Tryd.isAgg112
 z124:=Tryd.sizeOf112
 v124:=Tryd.zeroValue112
 t138:=Tryd.underlying121
 a138:=Tryd.isAgg121
 z138:=Tryd.sizeOf121
 v138:=Tryd.zeroValue121
 t139:=Tryd.underlying122
 a139:=Tryd.isAgg122
 z139:=Tryd.sizeOf122
 v139:=Tryd.zeroValue122
 g3:=by kernel_rfl
 g4:=by kernel_rfl }
end Go.Proofs
namespace Go.Proofs.YtclgmogfkoinbaaDoor.P
open Go.RowKit Go.Proofs.YtclgmogfkoinbaaDoorW.PrintWords Go.Proofs.YtclgmogfkoinbaaDoorW.PrintLast Go.Proofs.YtclgmogfkoinbaaDoorW.PrintMore
attribute [local go_sem] max2_int min2_int max_two min_two max_three min_three max_four min_four
set_option linter.unusedVariables false
set_option linter.unusedSimpArgs false
def strings_Trim.f (a0:ByteArray) (a1:ByteArray):Option (ByteArray):=if a0.size ≤ 9223372036854775807 ∧ a1.size < 4294967281 ∧ a1.data.toList.all (fun b=>decide (b.toNat < 128)) = true then some ⟨(Lib.trimS a0.data.toList a1.data.toList).toArray⟩ else none
theorem strings_Trim.calls (a0:ByteArray) (a1:ByteArray) (r:ByteArray) (w:World) (h:strings_Trim.f a0 a1 = some r) :
 Calls Tryd.prog 77 #[.string a0,.string a1] w fun e w'=>e = .returned (.string r) ∧ Below w.heap.size w w':=by
 unfold strings_Trim.f at h;by_cases hc:a0.size ≤ 9223372036854775807 ∧ a1.size < 4294967281 ∧ a1.data.toList.all (fun b=>decide (b.toNat < 128)) = true
 · rw [if_pos hc] at h
   obtain rfl:=Option.some.inj h
   exact Any.strings_Trim_laid Tryd.lays160 (by kernel_rfl) a0 a1 w hc.1 hc.2.1 (ascii_of_all hc.2.2)
 · rw [if_neg hc] at h
   cases h
def impl_isName.f (a0:ByteArray):Option (Bool):=if (a0.size:Int) ≥ 1 then (if (a0.size:Int) ≤ 6 then ((strings_Trim.f a0 (⟨#[97,98,99,100,101,102,103,104,105,106,107,108,109,110,111,112,113,114,115,116,117,118,119,120,121,122]⟩:ByteArray)).bind fun t277=>(some (t277.toList == ([]:List UInt8)))) else (some false)) else (some false)
set_option maxHeartbeats 40000000 in
set_option maxRecDepth 100000 in
theorem impl_isName.calls (a0:ByteArray) (r:Bool) (w:World) (h:impl_isName.f a0 = some r) :
 Calls Tryd.prog 64 #[.string a0] w fun e w'=>e = .returned (.bool r) ∧ Below w.heap.size w w':=by
 have HB:=As0.mk (Below.refl w.heap.size w);have H:(if (a0.size:Int) ≥ 1 then (if (a0.size:Int) ≤ 6 then ((strings_Trim.f a0 (⟨#[97,98,99,100,101,102,103,104,105,106,107,108,109,110,111,112,113,114,115,116,117,118,119,120,121,122]⟩:ByteArray)).bind fun t277=>(some (t277.toList == ([]:List UInt8)))) else (some false)) else (some false)) = some r:=h;clear h;by_cases c2:(a0.size:Int) ≥ 1
 · rw [if_pos c2] at H
   have c2b0:decide (1 ≤ (a0.size:Int)) = true:=decide_eq_true c2;have c2b1:decide (1 ≤ a0.size) = true:=decide_eq_true (by omega);clear c2;by_cases c3:(a0.size:Int) ≤ 6
   · rw [if_pos c3] at H
     have c3b0:decide ((a0.size:Int) ≤ 6) = true:=decide_eq_true c3;have c3b1:decide (a0.size ≤ 6) = true:=decide_eq_true (by omega);clear c3;replace H:=Option.bind_eq_some_iff.mp H;obtain ⟨t277,A40,H⟩:=H;(try dsimp only at H);have A4:=As0.mk A40;clear A40;obtain rfl:=Option.some.inj H
     go_enter Tryd.func64,Tryd.ntmps64
     go_wp2_with (first|(go_at_call 77;(with_reducible refine (strings_Trim.calls a0 (⟨#[97,98,99,100,101,102,103,104,105,106,107,108,109,110,111,112,113,114,115,116,117,118,119,120,121,122]⟩:ByteArray) t277 _ A4.out).mono ?_);rintro e w5 ⟨rfl,hb⟩;replace HB:=As0.mk (b3 HB.out hb);clear hb))
     go_ret
     exact ⟨eW,by repeat (first|(with_reducible first|exact HB.out|apply bal|apply pbN|apply bd1)|exact HB.out)⟩
   · rw [if_neg c3] at H
     have c3b0:decide ((a0.size:Int) ≤ 6) = false:=decide_eq_false c3;have c3b1:decide (a0.size ≤ 6) = false:=decide_eq_false (by omega);clear c3;obtain rfl:=Option.some.inj H
     go_enter Tryd.func64,Tryd.ntmps64
     go_wp2
     go_ret
     exact ⟨eW,by repeat (first|(with_reducible first|exact HB.out|apply bal|apply pbN|apply bd1)|exact HB.out)⟩
 · rw [if_neg c2] at H
   have c2b0:decide (1 ≤ (a0.size:Int)) = false:=decide_eq_false c2;have c2b1:decide (1 ≤ a0.size) = false:=decide_eq_false (by omega);clear c2;obtain rfl:=Option.some.inj H
   go_enter Tryd.func64,Tryd.ntmps64
   go_wp2
   go_ret
   exact ⟨eW,by repeat (first|(with_reducible first|exact HB.out|apply bal|apply pbN|apply bd1)|exact HB.out)⟩
def impl_isSpace.j0:Nat → Bool → ByteArray → ByteArray → Int → Bool → Int → Option (Bool)
 |0,_,_,_,_,_,_=>none
 |k + 1,x26,x279000,x279001,x279002,x279003,x279004=>if x26 = true then (some false) else (if x279000.toList = ([97,108,108]:List UInt8) then (if x279001.toList = ([]:List UInt8) then (some (!x279003)) else (some false)) else ((impl_isName.f x279001).bind fun t280=>(some t280)))
def impl_isSpace.f (k:Nat) (a0_0:ByteArray) (a0_1:ByteArray) (a0_2:Int) (a0_3:Bool) (a0_4:Int):Option (Bool):=(impl_isName.f a0_0).bind fun t279=>(if t279 = true then (if a0_2 < (-1) then (impl_isSpace.j0 k true a0_0 a0_1 a0_2 a0_3 a0_4) else (if a0_2 > 99999 then (impl_isSpace.j0 k true a0_0 a0_1 a0_2 a0_3 a0_4) else (if a0_4 < 0 then (impl_isSpace.j0 k true a0_0 a0_1 a0_2 a0_3 a0_4) else (impl_isSpace.j0 k (decide (a0_4 > 99999)) a0_0 a0_1 a0_2 a0_3 a0_4)))) else (impl_isSpace.j0 k true a0_0 a0_1 a0_2 a0_3 a0_4))
set_option maxHeartbeats 40000000 in
set_option maxRecDepth 100000 in
theorem impl_isSpace.calls (k:Nat) (a0_0:ByteArray) (a0_1:ByteArray) (a0_2:Int) (a0_3:Bool) (a0_4:Int) (r:Bool) (w:World) (h:impl_isSpace.f k a0_0 a0_1 a0_2 a0_3 a0_4 = some r) :
 Calls Tryd.prog 63 #[.agg #[.string a0_0,.string a0_1,.int .i64 a0_2,.bool a0_3,.int .i64 a0_4]] w fun e w'=>e = .returned (.bool r) ∧ Below w.heap.size w w':=by
 have hu47:=Tryd.underlying47;have HB:=As0.mk (Below.refl w.heap.size w);have H:((impl_isName.f a0_0).bind fun t279=>(if t279 = true then (if a0_2 < (-1) then (impl_isSpace.j0 k true a0_0 a0_1 a0_2 a0_3 a0_4) else (if a0_2 > 99999 then (impl_isSpace.j0 k true a0_0 a0_1 a0_2 a0_3 a0_4) else (if a0_4 < 0 then (impl_isSpace.j0 k true a0_0 a0_1 a0_2 a0_3 a0_4) else (impl_isSpace.j0 k (decide (a0_4 > 99999)) a0_0 a0_1 a0_2 a0_3 a0_4)))) else (impl_isSpace.j0 k true a0_0 a0_1 a0_2 a0_3 a0_4))) = some r:=h;clear h;have HC2:=As0.mk H;clear H
 go_enter Tryd.func63,Tryd.ntmps63
 show _;go_upto_region 1 with (first|((with_reducible refine gate_dst (N:=1) rfl ?_);refine bE 1 #[.string a0_0,.string a0_1,.int .i64 a0_2,.bool a0_3,.int .i64 a0_4] 47 ?_;intro gb278 hg w3 hbox hb;have n0_:=As0.mk (b3 HB.out hb);have n1_:=As0.mk (hbox);have n2_:=As0.mk ((by rw [hg];exact (bsz (by repeat (first|(with_reducible first|exact HB.out|apply bal|apply pbN|apply bd1)|exact HB.out))):w.heap.size ≤ gb278));have n3_:=As0.mk ((by rw [hg];exact (bsz (by repeat (first|(with_reducible first|exact HB.out|apply bal|apply pbN|apply bd1)|exact HB.out))):w.heap.size ≤ gb278));clear HB;have HB:=n0_;have BK278:=n1_;have GW278:=n2_;have GE278:=n3_;clear n0_ n1_ n2_ n3_;clear hb hbox hg))
 (try simp only [Act.put,sA,sZ,sS])
 show _;go_cut [26] (fun v26 wc=>∃ (kq:Nat) (x26_1:Bool),v26 = .bool x26_1 ∧ As0 (impl_isSpace.j0 kq x26_1 a0_0 a0_1 a0_2 a0_3 a0_4 = some r) ∧ As0 (kq ≤ k) ∧ As0 (wc.heap[gb278]? = some (.cells #[.string a0_0,.string a0_1,.int .i64 a0_2,.bool a0_3,.int .i64 a0_4] 47 (0,0))) ∧ As0 (Below w.heap.size w wc))
 case first=>
  have H:=HC2.out;clear HC2;replace H:=Option.bind_eq_some_iff.mp H;obtain ⟨t279,A40,H⟩:=H;(try dsimp only at H);have A4:=As0.mk A40;clear A40;by_cases c5:t279 = true
  · subst c5
    have H1:(if a0_2 < (-1) then (impl_isSpace.j0 k true a0_0 a0_1 a0_2 a0_3 a0_4) else (if a0_2 > 99999 then (impl_isSpace.j0 k true a0_0 a0_1 a0_2 a0_3 a0_4) else (if a0_4 < 0 then (impl_isSpace.j0 k true a0_0 a0_1 a0_2 a0_3 a0_4) else (impl_isSpace.j0 k (decide (a0_4 > 99999)) a0_0 a0_1 a0_2 a0_3 a0_4)))) = some r:=by rw [if_pos rfl] at H;exact H
    clear H;have H:=H1;clear H1;by_cases c6:a0_2 < (-1)
    · rw [if_pos c6] at H
      have c6b0:decide (a0_2 < (-1)) = true:=decide_eq_true c6;clear c6
      (first|rw [c6b0]|(simp only [i64_w,i32_w];rw [c6b0])|skip)
      have H':=As0.mk H;clear H;obtain ⟨hcz7_0,hcz7_1,hcz7_2,hcz7_3,hcz7_4⟩:=qc5 BK278.out;obtain ⟨hfz7_0,hfz7_1,hfz7_2,hfz7_3,hfz7_4⟩:=qz5 BK278.out
      go_wp2_with (first|((with_reducible refine gca (f:=64) rfl ?_);refine gL (some 5) Tryd.func64 #[.string a0_0] ?_;(with_reducible refine (impl_isName.calls a0_0 true _ A4.out).mono ?_);rintro e w8 ⟨rfl,hb⟩;refine ⟨_,rfl,?_⟩;replace BK278:=As0.mk (bb hb BK278.out);replace HB:=As0.mk (bsp (by repeat (first|(with_reducible first|exact HB.out|apply bal|apply pbN|apply bd1|refine bst ?_ GE278.out)|exact HB.out)) hb);clear hb;obtain ⟨hcz9_0,hcz9_1,hcz9_2,hcz9_3,hcz9_4⟩:=qc5 BK278.out;obtain ⟨hfz9_0,hfz9_1,hfz9_2,hfz9_3,hfz9_4⟩:=qz5 BK278.out))
      show _;go_meet
      case rel=>exact ⟨_,(true),(by first|rfl|(simp;done)|(simp [*];done)),H',⟨by first|omega|exact Nat.le_refl _⟩,⟨by (with_reducible repeat (first|refine bkN ?_ _|refine bkD ?_|refine bkA ?_ _));exact BK278.out⟩,⟨by repeat (first|(with_reducible first|exact HB.out|apply bal|apply pbN|apply bd1|refine bst ?_ GE278.out)|exact HB.out)⟩⟩
    · rw [if_neg c6] at H
      have c6b0:decide (a0_2 < (-1)) = false:=decide_eq_false c6;clear c6
      (first|rw [c6b0]|(simp only [i64_w,i32_w];rw [c6b0])|skip)
      by_cases c10:a0_2 > 99999
      · rw [if_pos c10] at H
        have c10b0:decide (99999 < a0_2) = true:=decide_eq_true c10;clear c10;have H':=As0.mk H;clear H;obtain ⟨hcz11_0,hcz11_1,hcz11_2,hcz11_3,hcz11_4⟩:=qc5 BK278.out;obtain ⟨hfz11_0,hfz11_1,hfz11_2,hfz11_3,hfz11_4⟩:=qz5 BK278.out
        go_wp2_with (first|((with_reducible refine gca (f:=64) rfl ?_);refine gL (some 5) Tryd.func64 #[.string a0_0] ?_;(with_reducible refine (impl_isName.calls a0_0 true _ A4.out).mono ?_);rintro e w12 ⟨rfl,hb⟩;refine ⟨_,rfl,?_⟩;replace BK278:=As0.mk (bb hb BK278.out);replace HB:=As0.mk (bsp (by repeat (first|(with_reducible first|exact HB.out|apply bal|apply pbN|apply bd1|refine bst ?_ GE278.out)|exact HB.out)) hb);clear hb;obtain ⟨hcz13_0,hcz13_1,hcz13_2,hcz13_3,hcz13_4⟩:=qc5 BK278.out;obtain ⟨hfz13_0,hfz13_1,hfz13_2,hfz13_3,hfz13_4⟩:=qz5 BK278.out))
        show _;go_meet
        case rel=>exact ⟨_,(true),(by first|rfl|(simp;done)|(simp [*];done)),H',⟨by first|omega|exact Nat.le_refl _⟩,⟨by (with_reducible repeat (first|refine bkN ?_ _|refine bkD ?_|refine bkA ?_ _));exact BK278.out⟩,⟨by repeat (first|(with_reducible first|exact HB.out|apply bal|apply pbN|apply bd1|refine bst ?_ GE278.out)|exact HB.out)⟩⟩
      · rw [if_neg c10] at H
        have c10b0:decide (99999 < a0_2) = false:=decide_eq_false c10;clear c10;by_cases c14:a0_4 < 0
        · rw [if_pos c14] at H
          have c14b0:decide (a0_4 < 0) = true:=decide_eq_true c14;clear c14;have H':=As0.mk H;clear H;obtain ⟨hcz15_0,hcz15_1,hcz15_2,hcz15_3,hcz15_4⟩:=qc5 BK278.out;obtain ⟨hfz15_0,hfz15_1,hfz15_2,hfz15_3,hfz15_4⟩:=qz5 BK278.out
          go_wp2_with (first|((with_reducible refine gca (f:=64) rfl ?_);refine gL (some 5) Tryd.func64 #[.string a0_0] ?_;(with_reducible refine (impl_isName.calls a0_0 true _ A4.out).mono ?_);rintro e w16 ⟨rfl,hb⟩;refine ⟨_,rfl,?_⟩;replace BK278:=As0.mk (bb hb BK278.out);replace HB:=As0.mk (bsp (by repeat (first|(with_reducible first|exact HB.out|apply bal|apply pbN|apply bd1|refine bst ?_ GE278.out)|exact HB.out)) hb);clear hb;obtain ⟨hcz17_0,hcz17_1,hcz17_2,hcz17_3,hcz17_4⟩:=qc5 BK278.out;obtain ⟨hfz17_0,hfz17_1,hfz17_2,hfz17_3,hfz17_4⟩:=qz5 BK278.out))
          show _;go_meet
          case rel=>exact ⟨_,(true),(by first|rfl|(simp;done)|(simp [*];done)),H',⟨by first|omega|exact Nat.le_refl _⟩,⟨by (with_reducible repeat (first|refine bkN ?_ _|refine bkD ?_|refine bkA ?_ _));exact BK278.out⟩,⟨by repeat (first|(with_reducible first|exact HB.out|apply bal|apply pbN|apply bd1|refine bst ?_ GE278.out)|exact HB.out)⟩⟩
        · rw [if_neg c14] at H
          have c14b0:decide (a0_4 < 0) = false:=decide_eq_false c14;clear c14;have H':=As0.mk H;clear H;obtain ⟨hcz18_0,hcz18_1,hcz18_2,hcz18_3,hcz18_4⟩:=qc5 BK278.out;obtain ⟨hfz18_0,hfz18_1,hfz18_2,hfz18_3,hfz18_4⟩:=qz5 BK278.out
          go_wp2_with (first|((with_reducible refine gca (f:=64) rfl ?_);refine gL (some 5) Tryd.func64 #[.string a0_0] ?_;(with_reducible refine (impl_isName.calls a0_0 true _ A4.out).mono ?_);rintro e w19 ⟨rfl,hb⟩;refine ⟨_,rfl,?_⟩;replace BK278:=As0.mk (bb hb BK278.out);replace HB:=As0.mk (bsp (by repeat (first|(with_reducible first|exact HB.out|apply bal|apply pbN|apply bd1|refine bst ?_ GE278.out)|exact HB.out)) hb);clear hb;obtain ⟨hcz20_0,hcz20_1,hcz20_2,hcz20_3,hcz20_4⟩:=qc5 BK278.out;obtain ⟨hfz20_0,hfz20_1,hfz20_2,hfz20_3,hfz20_4⟩:=qz5 BK278.out))
          show _;go_meet
          case rel=>exact ⟨_,(decide (a0_4 > 99999)),(by first|rfl|(simp;done)|(simp [*];done)),H',⟨by first|omega|exact Nat.le_refl _⟩,⟨by (with_reducible repeat (first|refine bkN ?_ _|refine bkD ?_|refine bkA ?_ _));exact BK278.out⟩,⟨by repeat (first|(with_reducible first|exact HB.out|apply bal|apply pbN|apply bd1|refine bst ?_ GE278.out)|exact HB.out)⟩⟩
  · replace c5:=Bool.eq_false_iff.mpr c5
    subst c5;have H1:(impl_isSpace.j0 k true a0_0 a0_1 a0_2 a0_3 a0_4) = some r:=by rw [if_neg (show ¬ (false = true) by decide)] at H;exact H
    clear H;have H:=H1;clear H1;have H':=As0.mk H;clear H;obtain ⟨hcz21_0,hcz21_1,hcz21_2,hcz21_3,hcz21_4⟩:=qc5 BK278.out;obtain ⟨hfz21_0,hfz21_1,hfz21_2,hfz21_3,hfz21_4⟩:=qz5 BK278.out
    go_wp2_with (first|((with_reducible refine gca (f:=64) rfl ?_);refine gL (some 5) Tryd.func64 #[.string a0_0] ?_;(with_reducible refine (impl_isName.calls a0_0 false _ A4.out).mono ?_);rintro e w22 ⟨rfl,hb⟩;refine ⟨_,rfl,?_⟩;replace BK278:=As0.mk (bb hb BK278.out);replace HB:=As0.mk (bsp (by repeat (first|(with_reducible first|exact HB.out|apply bal|apply pbN|apply bd1|refine bst ?_ GE278.out)|exact HB.out)) hb);clear hb))
    show _;go_meet
    case rel=>exact ⟨_,(true),(by first|rfl|(simp;done)|(simp [*];done)),H',⟨by first|omega|exact Nat.le_refl _⟩,⟨by (with_reducible repeat (first|refine bkN ?_ _|refine bkD ?_|refine bkA ?_ _));exact BK278.out⟩,⟨by repeat (first|(with_reducible first|exact HB.out|apply bal|apply pbN|apply bd1|refine bst ?_ GE278.out)|exact HB.out)⟩⟩
 case rest=>
  clear HC2
  try clear c1
  try clear p2
  try clear c5
  try clear c6
  try clear c6b0
  try clear c10
  try clear c10b0
  try clear c14
  try clear c14b0
  try clear hcz11_0
  try clear hcz11_1
  try clear hcz11_2
  try clear hcz11_3
  try clear hcz11_4
  try clear hcz13_0
  try clear hcz13_1
  try clear hcz13_2
  try clear hcz13_3
  try clear hcz13_4
  try clear hcz15_0
  try clear hcz15_1
  try clear hcz15_2
  try clear hcz15_3
  try clear hcz15_4
  try clear hcz17_0
  try clear hcz17_1
  try clear hcz17_2
  try clear hcz17_3
  try clear hcz17_4
  try clear hcz18_0
  try clear hcz18_1
  try clear hcz18_2
  try clear hcz18_3
  try clear hcz18_4
  try clear hcz20_0
  try clear hcz20_1
  try clear hcz20_2
  try clear hcz20_3
  try clear hcz20_4
  try clear hcz21_0
  try clear hcz21_1
  try clear hcz21_2
  try clear hcz21_3
  try clear hcz21_4
  try clear hcz7_0
  try clear hcz7_1
  try clear hcz7_2
  try clear hcz7_3
  try clear hcz7_4
  try clear hcz9_0
  try clear hcz9_1
  try clear hcz9_2
  try clear hcz9_3
  try clear hcz9_4
  try clear hfz11_0
  try clear hfz11_1
  try clear hfz11_2
  try clear hfz11_3
  try clear hfz11_4
  try clear hfz13_0
  try clear hfz13_1
  try clear hfz13_2
  try clear hfz13_3
  try clear hfz13_4
  try clear hfz15_0
  try clear hfz15_1
  try clear hfz15_2
  try clear hfz15_3
  try clear hfz15_4
  try clear hfz17_0
  try clear hfz17_1
  try clear hfz17_2
  try clear hfz17_3
  try clear hfz17_4
  try clear hfz18_0
  try clear hfz18_1
  try clear hfz18_2
  try clear hfz18_3
  try clear hfz18_4
  try clear hfz20_0
  try clear hfz20_1
  try clear hfz20_2
  try clear hfz20_3
  try clear hfz20_4
  try clear hfz21_0
  try clear hfz21_1
  try clear hfz21_2
  try clear hfz21_3
  try clear hfz21_4
  try clear hfz7_0
  try clear hfz7_1
  try clear hfz7_2
  try clear hfz7_3
  try clear hfz7_4
  try clear hfz9_0
  try clear hfz9_1
  try clear hfz9_2
  try clear hfz9_3
  try clear hfz9_4
  obtain ⟨kq,x26_1,rfl,HA,HJ1,BK278,HB⟩:=hcut
  cases kq with
  |zero=>exact absurd HA.out (by simp [impl_isSpace.j0])
  |succ kj1=>
   have H:=HA.out;clear HA;simp only [impl_isSpace.j0] at H;by_cases c23:x26_1 = true
   · subst c23
     have H1:(some false) = some r:=by rw [if_pos rfl] at H;exact H
     clear H;have H:=H1;clear H1;obtain rfl:=Option.some.inj H
     go_wp2
     go_ret
     exact ⟨eW,by repeat (first|(with_reducible first|exact HB.out|apply bal|apply pbN|apply bd1|refine bst ?_ GE278.out)|exact HB.out)⟩
   · replace c23:=Bool.eq_false_iff.mpr c23
     subst c23;have H1:(if a0_0.toList = ([97,108,108]:List UInt8) then (if a0_1.toList = ([]:List UInt8) then (some (!a0_3)) else (some false)) else ((impl_isName.f a0_1).bind fun t280=>(some t280))) = some r:=by rw [if_neg (show ¬ (false = true) by decide)] at H;exact H
     clear H;have H:=H1;clear H1;by_cases c24:a0_0.toList = ([97,108,108]:List UInt8)
     · rw [if_pos c24] at H
       have c24b0:(a0_0.toList == ([97,108,108]:List UInt8)) = true:=beq_iff_eq.mpr c24;have c24b1:(a0_0.toList != ([97,108,108]:List UInt8)) = false:=bne_eq_false_iff_eq.mpr c24;clear c24;by_cases c25:a0_1.toList = ([]:List UInt8)
       · rw [if_pos c25] at H
         have c25b0:(a0_1.toList == ([]:List UInt8)) = true:=beq_iff_eq.mpr c25;have c25b1:(a0_1.toList != ([]:List UInt8)) = false:=bne_eq_false_iff_eq.mpr c25;clear c25;obtain rfl:=Option.some.inj H;obtain ⟨hcz26_0,hcz26_1,hcz26_2,hcz26_3,hcz26_4⟩:=qc5 BK278.out;obtain ⟨hfz26_0,hfz26_1,hfz26_2,hfz26_3,hfz26_4⟩:=qz5 BK278.out
         go_wp2
         go_ret
         exact ⟨eW,by repeat (first|(with_reducible first|exact HB.out|apply bal|apply pbN|apply bd1|refine bst ?_ GE278.out)|exact HB.out)⟩
       · rw [if_neg c25] at H
         have c25b0:(a0_1.toList == ([]:List UInt8)) = false:=beq_eq_false_iff_ne.mpr c25;have c25b1:(a0_1.toList != ([]:List UInt8)) = true:=bne_iff_ne.mpr c25;obtain rfl:=Option.some.inj H;obtain ⟨hcz27_0,hcz27_1,hcz27_2,hcz27_3,hcz27_4⟩:=qc5 BK278.out;obtain ⟨hfz27_0,hfz27_1,hfz27_2,hfz27_3,hfz27_4⟩:=qz5 BK278.out
         go_wp2
         go_ret
         exact ⟨eW,by repeat (first|(with_reducible first|exact HB.out|apply bal|apply pbN|apply bd1|refine bst ?_ GE278.out)|exact HB.out)⟩
     · rw [if_neg c24] at H
       have c24b0:(a0_0.toList == ([97,108,108]:List UInt8)) = false:=beq_eq_false_iff_ne.mpr c24;have c24b1:(a0_0.toList != ([97,108,108]:List UInt8)) = true:=bne_iff_ne.mpr c24;replace H:=Option.bind_eq_some_iff.mp H;obtain ⟨t280,A280,H⟩:=H;(try dsimp only at H);have A28:=As0.mk A280;clear A280;obtain rfl:=Option.some.inj H;obtain ⟨hcz29_0,hcz29_1,hcz29_2,hcz29_3,hcz29_4⟩:=qc5 BK278.out;obtain ⟨hfz29_0,hfz29_1,hfz29_2,hfz29_3,hfz29_4⟩:=qz5 BK278.out
       go_wp2_with (first|((with_reducible refine gca (f:=64) rfl ?_);refine gL (some 40) Tryd.func64 #[.string a0_1] ?_;(with_reducible refine (impl_isName.calls a0_1 t280 _ A28.out).mono ?_);rintro e w30 ⟨rfl,hb⟩;refine ⟨_,rfl,?_⟩;replace BK278:=As0.mk (bb hb BK278.out);replace HB:=As0.mk (bsp (by repeat (first|(with_reducible first|exact HB.out|apply bal|apply pbN|apply bd1|refine bst ?_ GE278.out)|exact HB.out)) hb);clear hb))
       go_ret
       exact ⟨eW,by repeat (first|(with_reducible first|exact HB.out|apply bal|apply pbN|apply bd1|refine bst ?_ GE278.out)|exact HB.out)⟩
mutual
def impl_areSpaces.j0:Nat → List (SiS28) → Bool → Option (Bool)
 |0,_,_=>none
 |k + 1,x0,x16=>if x16 = true then (some false) else (impl_areSpaces.l0 k x0 x0 (x0.length:Int) 0)
def impl_areSpaces.l0:Nat → List (SiS28) → List (SiS28) → Int → Int → Option (Bool)
 |0,_,_,_,_=>none
 |k + 1,x0,x17,x18,x19=>if x19 < x18 then (if 0 ≤ x19 then (if x19 < (x17.length:Int) then ((impl_isSpace.f k ((riS37 x17 x19).f0) ((riS37 x17 x19).f1) ((riS37 x17 x19).f2) ((riS37 x17 x19).f3) ((riS37 x17 x19).f4)).bind fun t283=>(if t283 = true then (if x19 > 0 then (if 0 ≤ (wrap64 (x19 - 1)) then (if (wrap64 (x19 - 1)) < (x0.length:Int) then (if ((Op.bytesLess (((riS37 x0 (wrap64 (x19 - 1))).f0).toList) (((riS37 x17 x19).f0).toList)) = true) then (impl_areSpaces.l0 k x0 x17 x18 (wrap64 (x19 + 1))) else (some false)) else (none)) else (none)) else (impl_areSpaces.l0 k x0 x17 x18 (wrap64 (x19 + 1)))) else (some false))) else (none)) else (none)) else (impl_areSpaces.l1 k x0 x0 (x0.length:Int) 0)
def impl_areSpaces.l1:Nat → List (SiS28) → List (SiS28) → Int → Int → Option (Bool)
 |0,_,_,_,_=>none
 |k + 1,x0,x43,x44,x45=>if x45 < x44 then (if 0 ≤ x45 then (if x45 < (x43.length:Int) then (impl_areSpaces.l2 k x0 x43 x44 x45 (x0.length:Int) 0 ((riS37 x43 x45).f0) ((riS37 x43 x45).f1) ((riS37 x43 x45).f2) ((riS37 x43 x45).f3) ((riS37 x43 x45).f4)) else (none)) else (none)) else (some true)
def impl_areSpaces.l2:Nat → List (SiS28) → List (SiS28) → Int → Int → Int → Int → ByteArray → ByteArray → Int → Bool → Int → Option (Bool)
 |0,_,_,_,_,_,_,_,_,_,_,_=>none
 |k + 1,x0,x43,x44,x45,x51,x52,x288000,x288001,x288002,x288003,x288004=>if x52 < x51 then ((impl_findSpace.f x0 x288001).bind fun t288=>(if t288 ≥ 0 then (if 0 ≤ t288 then (if t288 < (x0.length:Int) then (impl_areSpaces.l2 k x0 x43 x44 x45 x51 (wrap64 (x52 + 1)) ((riS37 x0 t288).f0) ((riS37 x0 t288).f1) ((riS37 x0 t288).f2) ((riS37 x0 t288).f3) ((riS37 x0 t288).f4)) else (none)) else (none)) else (impl_areSpaces.l2 k x0 x43 x44 x45 x51 (wrap64 (x52 + 1)) x288000 x288001 x288002 x288003 x288004))) else (if x288000.toList = ([97,108,108]:List UInt8) then (impl_areSpaces.l1 k x0 x43 x44 (wrap64 (x45 + 1))) else (some false))
end
def impl_areSpaces.f (k:Nat) (l0:List (SiS28)):Option (Bool):=if (l0.length:Int) < 1 then (impl_areSpaces.j0 k l0 true) else (impl_areSpaces.j0 k l0 (decide ((l0.length:Int) > 7)))
def impl_areSpaces.T6:Bool × List (List Nat × List Nat):=(true,[([],[]),([0],[0]),([1],[1]),([2,1],[2]),([3],[3]),([4,3],[3,4]),([5,3,3],[3,5]),([6],[6]),([6],[6]),([8,6],[6,8]),([7,9,6],[6,7,9]),([10,6],[6,10]),([11,6],[6,11]),([6],[6]),([13,6],[6,13]),([12,14,6],[6,12,14]),([6,15,3],[3,6,15]),([3,16],[3,16])])
def impl_areSpaces.B6:List Nat:=[0,1,3,7,15,31,63,127,127,383,1023,2047,4095,127,8319,32767,65535,131071]
theorem impl_areSpaces.tab6:rtab .any (opsOf Tryd.f43 6) = impl_areSpaces.T6:=by kernel_rfl
theorem impl_areSpaces.bits6:waitsOk impl_areSpaces.T6.2 impl_areSpaces.B6 = true:=by kernel_rfl
abbrev impl_areSpaces.calls.a0:Array Bool:=#[false,false,false,false,false,false,false,false,false,false,false,false,false,false,false,false,false,false]
abbrev impl_areSpaces.calls.a1:Array Bool:=#[true,false,false,false,false,false,false,false,false,false,false,false,false,false,false,false,false,false]
abbrev impl_areSpaces.calls.a2:Array Bool:=#[true,true,false,false,false,false,false,false,false,false,false,false,false,false,false,false,false,false]
abbrev impl_areSpaces.calls.a3:Array Bool:=#[true,true,true,false,false,false,false,false,false,false,false,false,false,false,false,false,false,false]
abbrev impl_areSpaces.calls.a4:Array Bool:=#[true,true,true,true,false,false,false,false,false,false,false,false,false,false,false,false,false,false]
abbrev impl_areSpaces.calls.a5:Array Bool:=#[true,true,true,true,true,false,false,false,false,false,false,false,false,false,false,false,false,false]
abbrev impl_areSpaces.calls.a6:Array Bool:=#[true,true,true,true,true,true,false,false,false,false,false,false,false,false,false,false,false,false]
abbrev impl_areSpaces.calls.a7:Array Bool:=#[true,true,true,true,true,true,true,false,false,false,false,false,false,false,false,false,false,false]
abbrev impl_areSpaces.calls.a8:Array Bool:=#[true,true,true,true,true,true,true,true,false,false,false,false,false,false,false,false,false,false]
abbrev impl_areSpaces.calls.a9:Array Bool:=#[true,true,true,true,true,true,true,true,true,false,false,false,false,false,false,false,false,false]
abbrev impl_areSpaces.calls.a10:Array Bool:=#[true,true,true,true,true,true,true,true,true,true,false,false,false,false,false,false,false,false]
abbrev impl_areSpaces.calls.a11:Array Bool:=#[true,true,true,true,true,true,true,true,true,true,true,false,false,false,false,false,false,false]
abbrev impl_areSpaces.calls.a12:Array Bool:=#[true,true,true,true,true,true,true,true,true,true,true,true,false,false,false,false,false,false]
abbrev impl_areSpaces.calls.a13:Array Bool:=#[true,true,true,true,true,true,true,true,true,true,true,true,true,true,false,false,false,false]
abbrev impl_areSpaces.calls.a14:Array Bool:=#[true,true,true,true,true,true,true,true,true,true,true,true,true,true,true,false,false,false]
abbrev impl_areSpaces.calls.a15:Array Bool:=#[true,true,true,true,true,true,true,true,true,true,true,true,true,true,true,true,false,false]
abbrev impl_areSpaces.calls.a16:Array Bool:=#[true,true,true,true,true,true,true,true,true,true,true,true,true,true,true,true,true,false]
abbrev impl_areSpaces.calls.a17:Array Bool:=#[true,true,true,true,true,true,true,true,true,true,true,true,true,true,true,true,true,true]
set_option maxHeartbeats 40000000 in
set_option maxRecDepth 100000 in
theorem impl_areSpaces.calls (k:Nat) (A0:Option Addr) (c0:Nat) (l0:List (SiS28)) (r:Bool) (w:World) (hr0:Kd.C k47 w A0 l0.length l0) (hc0:l0.length ≤ c0) (h:impl_areSpaces.f k l0 = some r) :
 Calls Tryd.prog 43 #[.slice A0 l0.length c0] w fun e w'=>e = .returned (.bool r) ∧ Below w.heap.size w w':=by
 have hu47:=Tryd.underlying47;have HR0:=As0.mk hr0;have HC0:=As0.mk hc0;clear hr0 hc0;have HB:=As0.mk (Below.refl w.heap.size w);have H:(if (l0.length:Int) < 1 then (impl_areSpaces.j0 k l0 true) else (impl_areSpaces.j0 k l0 (decide ((l0.length:Int) > 7)))) = some r:=h;clear h;have HC2:=As0.mk H;clear H
 go_enter Tryd.func43,Tryd.ntmps43
 show _;go_upto_region 1 with (fail)
 show _;go_cut [16] (fun v16 wc=>∃ (kq:Nat) (x16_1:Bool),v16 = .bool x16_1 ∧ As0 (impl_areSpaces.j0 kq l0 x16_1 = some r) ∧ As0 (kq ≤ k) ∧ As0 (Below w.heap.size w wc))
 case first=>
  have H:=HC2.out;clear HC2;by_cases c3:(l0.length:Int) < 1
  · rw [if_pos c3] at H
    have c3b0:decide ((l0.length:Int) < 1) = true:=decide_eq_true c3;have c3b1:decide (l0.length < 1) = true:=decide_eq_true (by omega);clear c3
    (first|rw [c3b0]|(simp only [i64_w,i32_w];rw [c3b0])|skip)
    have H':=As0.mk H;clear H
    go_wp2
    show _;go_meet
    case rel=>exact ⟨_,(true),(by first|rfl|(simp;done)|(simp [*];done)),H',⟨by first|omega|exact Nat.le_refl _⟩,⟨by repeat (first|(with_reducible first|exact HB.out|apply bal|apply pbN|apply bd1)|exact HB.out)⟩⟩
  · rw [if_neg c3] at H
    have c3b0:decide ((l0.length:Int) < 1) = false:=decide_eq_false c3;have c3b1:decide (l0.length < 1) = false:=decide_eq_false (by omega);clear c3
    (first|rw [c3b0]|(simp only [i64_w,i32_w];rw [c3b0])|skip)
    have H':=As0.mk H;clear H
    go_wp2
    show _;go_meet
    case rel=>exact ⟨_,(decide ((l0.length:Int) > 7)),(by first|rfl|(simp;done)|(simp [*];done)),H',⟨by first|omega|exact Nat.le_refl _⟩,⟨by repeat (first|(with_reducible first|exact HB.out|apply bal|apply pbN|apply bd1)|exact HB.out)⟩⟩
 case rest=>
  clear HC2
  try clear p2
  try clear c3
  try clear c3b0
  try clear c3b1
  obtain ⟨kq,x16_1,rfl,HA,HJ1,HB⟩:=hcut
  cases kq with
  |zero=>exact absurd HA.out (by simp [impl_areSpaces.j0])
  |succ kj1=>
   have H:=HA.out;clear HA;simp only [impl_areSpaces.j0] at H;by_cases c4:x16_1 = true
   · subst c4
     have H1:(some false) = some r:=by rw [if_pos rfl] at H;exact H
     clear H;have H:=H1;clear H1;obtain rfl:=Option.some.inj H
     go_wp2
     go_ret
     exact ⟨eW,by repeat (first|(with_reducible first|exact HB.out|apply bal|apply pbN|apply bd1)|exact HB.out)⟩
   · replace c4:=Bool.eq_false_iff.mpr c4
     subst c4;have H1:(impl_areSpaces.l0 kj1 l0 l0 (l0.length:Int) 0) = some r:=by rw [if_neg (show ¬ (false = true) by decide)] at H;exact H
     clear H;have H:=H1;clear H1;have H':=As0.mk H;clear H
     go_wp2
     show _;go_loopg [19] kj1 (fun kq v19 w'=>∃ (x19_2:Int),v19 = .int .i64 x19_2 ∧ As0 (impl_areSpaces.l0 kq l0 l0 (l0.length:Int) x19_2 = some r) ∧ As0 (kq ≤ kj1) ∧ As0 (Below w.heap.size w w'))
     case atStart=>exact ⟨(0),(by first|rfl|(simp;done)|(simp [*];done)),H',⟨Nat.le_refl _⟩,⟨by repeat (first|(with_reducible first|exact HB.out|apply bal|apply pbN|apply bd1)|exact HB.out)⟩⟩
     case round=>
      clear H'
      try clear p2
      try clear c3
      try clear c3b0
      try clear c3b1
      try clear c4
      try clear p2
      obtain ⟨x19_2,rfl,HA,HK2,HB⟩:=hrel
      cases gk with
      |zero=>exact absurd HA.out (by simp [impl_areSpaces.l0])
      |succ k2=>
       have H:=HA.out;clear HA;simp only [impl_areSpaces.l0] at H;by_cases c5:x19_2 < (l0.length:Int)
       · rw [if_pos c5] at H
         have c5b0:decide (x19_2 < (l0.length:Int)) = true:=decide_eq_true c5;clear c5;by_cases c6:0 ≤ x19_2
         · rw [if_pos c6] at H
           have c6b0:decide (0 ≤ x19_2) = true:=decide_eq_true c6;clear c6;by_cases c7:x19_2 < (l0.length:Int)
           · rw [if_pos c7] at H
             have c7b0:decide (x19_2 < (l0.length:Int)) = true:=decide_eq_true c7;clear c7;replace H:=Option.bind_eq_some_iff.mp H;obtain ⟨t283,A80,H⟩:=H;(try dsimp only at H);have A8:=As0.mk A80;clear A80;by_cases c9:t283 = true
             · subst c9
               have H1:(if x19_2 > 0 then (if 0 ≤ (wrap64 (x19_2 - 1)) then (if (wrap64 (x19_2 - 1)) < (l0.length:Int) then (if ((Op.bytesLess (((riS37 l0 (wrap64 (x19_2 - 1))).f0).toList) (((riS37 l0 x19_2).f0).toList)) = true) then (impl_areSpaces.l0 k2 l0 l0 (l0.length:Int) (wrap64 (x19_2 + 1))) else (some false)) else (none)) else (none)) else (impl_areSpaces.l0 k2 l0 l0 (l0.length:Int) (wrap64 (x19_2 + 1)))) = some r:=by rw [if_pos rfl] at H;exact H
               clear H;have H:=H1;clear H1;by_cases c10:x19_2 > 0
               · rw [if_pos c10] at H
                 have c10b0:decide (0 < x19_2) = true:=decide_eq_true c10;clear c10;obtain ⟨ji11,hji11⟩:∃ j_:Int,(wrap64 (x19_2 - 1)) = j_:=⟨_,rfl⟩;replace H:(if 0 ≤ (ji11) then (if (ji11) < (l0.length:Int) then (if ((Op.bytesLess (((riS37 l0 (ji11)).f0).toList) (((riS37 l0 x19_2).f0).toList)) = true) then (impl_areSpaces.l0 k2 l0 l0 (l0.length:Int) (wrap64 (x19_2 + 1))) else (some false)) else (none)) else (none)) = some r:=by first|(rw [hji11] at H;exact H)|(simp only [hji11] at H ⊢;exact H)
                 (try rw [hji11] at A8)
                 have hji11w:(IntKind.i64.wrap (x19_2 - 1)) = ji11:=(i64_w _).trans hji11;by_cases c12:0 ≤ (ji11)
                 · rw [if_pos c12] at H
                   have c12b0:decide (0 ≤ (ji11)) = true:=decide_eq_true c12;clear c12;by_cases c13:(ji11) < (l0.length:Int)
                   · rw [if_pos c13] at H
                     have c13b0:decide ((ji11) < (l0.length:Int)) = true:=decide_eq_true c13;clear c13;by_cases c14:((Op.bytesLess (((riS37 l0 (ji11)).f0).toList) (((riS37 l0 x19_2).f0).toList)) = true)
                     · rw [if_pos c14] at H
                       have c14b0:(Op.bytesLess (((riS37 l0 (ji11)).f0).toList) (((riS37 l0 x19_2).f0).toList)) = true:=c14;clear c14;have H':=As0.mk H;clear H;have p281:0 ≤ (x19_2:Int):=odt;have q281:x19_2 < (l0.length:Int):=odt;obtain ⟨ad281,e281,hx281_0,hx281_1,hx281_2,hx281_3,hx281_4⟩:=at_T47 HR0.out x19_2 p281 q281
                       cases e281
                       replace hx281_0:=bx HB.out rfl hx281_0;replace hx281_1:=bx HB.out rfl hx281_1;replace hx281_2:=bx HB.out rfl hx281_2;replace hx281_3:=bx HB.out rfl hx281_3;replace hx281_4:=bx HB.out rfl hx281_4;replace p281:=eq_true p281;replace q281:=eq_true q281
                       try go_wp2_with (first|((with_reducible refine gate_dst (N:=4) rfl ?_);(try (refine gate_guard (by rfl) ?_;dsimp only));refine bE 4 #[.string ⟨#[]⟩,.string ⟨#[]⟩,.int .i64 0,.bool false,.int .i64 0] 47 ?_;intro gb282 hg w15 hbox hb;have BK282:=As0.mk (hbox);have GW282:=As0.mk ((by rw [hg];exact (bsz (by repeat (first|(with_reducible first|exact HB.out|apply bal|apply pbN|apply bd1)|exact HB.out))):w.heap.size ≤ gb282));have GE282:=GW282;replace HB:=As0.mk (b3 HB.out hb);clear hb hbox hg;obtain ⟨hcz16_0,hcz16_1,hcz16_2,hcz16_3,hcz16_4⟩:=qc5 BK282.out;obtain ⟨hfz16_0,hfz16_1,hfz16_2,hfz16_3,hfz16_4⟩:=qz5 BK282.out))
                       have n0_:As0 ((((((w15.setCell ⟨gb282,0,none⟩ (.string ((riS37 l0 x19_2).f0))).setCell ⟨gb282,1,none⟩ (.string ((riS37 l0 x19_2).f1))).setCell ⟨gb282,2,none⟩ (.int .i64 ((riS37 l0 x19_2).f2))).setCell ⟨gb282,3,none⟩ (.bool ((riS37 l0 x19_2).f3))).setCell ⟨gb282,4,none⟩ (.int .i64 ((riS37 l0 x19_2).f4))).heap[gb282]? = some (.cells #[.string ((riS37 l0 x19_2).f0),.string ((riS37 l0 x19_2).f1),.int .i64 ((riS37 l0 x19_2).f2),.bool ((riS37 l0 x19_2).f3),.int .i64 ((riS37 l0 x19_2).f4)] 47 (0,0))):=⟨by (with_reducible repeat (first|refine bkN ?_ _|refine bkD ?_|refine bkA ?_ _));refine blk_put (cs:=#[.string ((riS37 l0 x19_2).f0),.string ((riS37 l0 x19_2).f1),.int .i64 ((riS37 l0 x19_2).f2),.bool ((riS37 l0 x19_2).f3),.int .i64 0]) ?_ 4 _ rfl;(with_reducible repeat (first|refine bkN ?_ _|refine bkD ?_|refine bkA ?_ _));refine blk_put (cs:=#[.string ((riS37 l0 x19_2).f0),.string ((riS37 l0 x19_2).f1),.int .i64 ((riS37 l0 x19_2).f2),.bool false,.int .i64 0]) ?_ 3 _ rfl;(with_reducible repeat (first|refine bkN ?_ _|refine bkD ?_|refine bkA ?_ _));refine blk_put (cs:=#[.string ((riS37 l0 x19_2).f0),.string ((riS37 l0 x19_2).f1),.int .i64 0,.bool false,.int .i64 0]) ?_ 2 _ rfl;(with_reducible repeat (first|refine bkN ?_ _|refine bkD ?_|refine bkA ?_ _));refine blk_put (cs:=#[.string ((riS37 l0 x19_2).f0),.string ⟨#[]⟩,.int .i64 0,.bool false,.int .i64 0]) ?_ 1 _ rfl;(with_reducible repeat (first|refine bkN ?_ _|refine bkD ?_|refine bkA ?_ _));refine blk_put (cs:=#[.string ⟨#[]⟩,.string ⟨#[]⟩,.int .i64 0,.bool false,.int .i64 0]) ?_ 0 _ rfl;(with_reducible repeat (first|refine bkN ?_ _|refine bkD ?_|refine bkA ?_ _));exact BK282.out⟩;have n1_:As0 (Below w.heap.size w (((((w15.setCell ⟨gb282,0,none⟩ (.string ((riS37 l0 x19_2).f0))).setCell ⟨gb282,1,none⟩ (.string ((riS37 l0 x19_2).f1))).setCell ⟨gb282,2,none⟩ (.int .i64 ((riS37 l0 x19_2).f2))).setCell ⟨gb282,3,none⟩ (.bool ((riS37 l0 x19_2).f3))).setCell ⟨gb282,4,none⟩ (.int .i64 ((riS37 l0 x19_2).f4)))):=⟨by repeat (first|(with_reducible first|exact HB.out|apply bal|apply pbN|apply bd1|refine bst ?_ GE282.out)|exact HB.out)⟩
                       (try clear BK282)
                       (try clear HB)
                       (try rw [Opens.setCell_drewN])
                       generalize (((((w15.setCell ⟨gb282,0,none⟩ (.string ((riS37 l0 x19_2).f0))).setCell ⟨gb282,1,none⟩ (.string ((riS37 l0 x19_2).f1))).setCell ⟨gb282,2,none⟩ (.int .i64 ((riS37 l0 x19_2).f2))).setCell ⟨gb282,3,none⟩ (.bool ((riS37 l0 x19_2).f3))).setCell ⟨gb282,4,none⟩ (.int .i64 ((riS37 l0 x19_2).f4))) = w17 at n0_ n1_ ⊢
                       have BK282:=n0_;have HB:=n1_;clear n0_ n1_;replace BK282:=As0.mk (bkD BK282.out);replace HB:=As0.mk (bd1 HB.out);have p284:0 ≤ ((ji11):Int):=odt;have q284:(ji11) < (l0.length:Int):=odt;obtain ⟨ad284,e284,hx284_0,hx284_1,hx284_2,hx284_3,hx284_4⟩:=at_T47 HR0.out (ji11) p284 q284;have hw284_4:=hx284_4;have hw284_3:=hx284_3;have hw284_2:=hx284_2;have hw284_1:=hx284_1;have hw284_0:=hx284_0;obtain rfl:ad281 = ad284:=(by injection e284);replace hx284_0:=bx HB.out rfl hx284_0;replace hx284_1:=bx HB.out rfl hx284_1;replace hx284_2:=bx HB.out rfl hx284_2;replace hx284_3:=bx HB.out rfl hx284_3;replace hx284_4:=bx HB.out rfl hx284_4;replace p284:=eq_true p284;replace q284:=eq_true q284;refine start_ (n:=18) (S:=fun w'=>w'.cell? ⟨gb282,0,none⟩ = some (.string ((riS37 l0 x19_2).f0)) ∧ w'.cell? ⟨gb282,1,none⟩ = some (.string ((riS37 l0 x19_2).f1)) ∧ w'.cell? ⟨gb282,2,none⟩ = some (.int .i64 ((riS37 l0 x19_2).f2)) ∧ w'.cell? ⟨gb282,3,none⟩ = some (.bool ((riS37 l0 x19_2).f3)) ∧ w'.cell? ⟨gb282,4,none⟩ = some (.int .i64 ((riS37 l0 x19_2).f4)) ∧ w'.cell? (ad281.add (((ji11)).toNat * 5)) = some (.string ((riS37 l0 (ji11)).f0)) ∧ w'.cell? ⟨(ad281.add (((ji11)).toNat * 5)).block,(ad281.add (((ji11)).toNat * 5)).off + 1,none⟩ = some (.string ((riS37 l0 (ji11)).f1)) ∧ w'.cell? ⟨(ad281.add (((ji11)).toNat * 5)).block,(ad281.add (((ji11)).toNat * 5)).off + 2,none⟩ = some (.int .i64 ((riS37 l0 (ji11)).f2)) ∧ w'.cell? ⟨(ad281.add (((ji11)).toNat * 5)).block,(ad281.add (((ji11)).toNat * 5)).off + 3,none⟩ = some (.bool ((riS37 l0 (ji11)).f3)) ∧ w'.cell? ⟨(ad281.add (((ji11)).toNat * 5)).block,(ad281.add (((ji11)).toNat * 5)).off + 4,none⟩ = some (.int .i64 ((riS37 l0 (ji11)).f4))) (ds:=[]) impl_areSpaces.calls.a0 (by kernel_rfl) rfl rfl ⟨(bkC BK282.out 0).trans rfl,(bkC BK282.out 1).trans rfl,(bkC BK282.out 2).trans rfl,(bkC BK282.out 3).trans rfl,(bkC BK282.out 4).trans rfl,((HB.out.cell (World.block_lt_of_cell? w _ hw284_0)).trans hw284_0),((HB.out.cell (World.block_lt_of_cell? w _ hw284_1)).trans hw284_1),((HB.out.cell (World.block_lt_of_cell? w _ hw284_2)).trans hw284_2),((HB.out.cell (World.block_lt_of_cell? w _ hw284_3)).trans hw284_3),((HB.out.cell (World.block_lt_of_cell? w _ hw284_4)).trans hw284_4)⟩ (fun hHeld=>?_);refine with_tabW impl_areSpaces.tab6 impl_areSpaces.bits6 (fun HT_ HW_=>?_);generalize w17.drew = w18 at BK282 HB hx284_0 hx284_1 hx284_2 hx284_3 hx284_4 hHeld ⊢
                       refine tk 0 (some 24) impl_areSpaces.calls.a1 rfl rfl HT_.out HW_.out hHeld (by rintro w' ⟨s0,s1,s2,s3,s4,s5,s6,s7,s8,s9⟩;go_simp;with_reducible rfl) ?_;refine one_ (i:=1) (N:=some 25) impl_areSpaces.calls.a2 rfl rfl (one_of HT_.out (by kernel_rfl)) (by decide) (fun K hK=>?_);refine goes_ Tryd.func63 (by kernel_rfl) rfl #[.agg #[.string ((riS37 l0 x19_2).f0),.string ((riS37 l0 x19_2).f1),.int .i64 ((riS37 l0 x19_2).f2),.bool ((riS37 l0 x19_2).f3),.int .i64 ((riS37 l0 x19_2).f4)]] (by rfl) rfl rfl (by (try simp only [List.map_toArray,List.map_cons,List.map_nil]);first|done|rfl|(simp only [List.length_drop,List.length_take];rfl)) ?_;with_reducible refine (impl_isSpace.calls k2 ((riS37 l0 x19_2).f0) ((riS37 l0 x19_2).f1) ((riS37 l0 x19_2).f2) ((riS37 l0 x19_2).f3) ((riS37 l0 x19_2).f4) true _ A8.out).mono ?_
                       rintro e w19 ⟨rfl,hb⟩;refine ⟨_,rfl,?_⟩;replace BK282:=As0.mk (bb hb BK282.out);replace HB:=As0.mk (bsp (by repeat (first|(with_reducible first|exact HB.out|apply bal|apply pbN|apply bd1|refine bst ?_ GE282.out)|exact HB.out)) hb)
                            
                            
                            
                            
                       refine hK.out _ _ ⟨(bkC BK282.out 0).trans rfl,(bkC BK282.out 1).trans rfl,(bkC BK282.out 2).trans rfl,(bkC BK282.out 3).trans rfl,(bkC BK282.out 4).trans rfl,((HB.out.cell (World.block_lt_of_cell? w _ hw284_0)).trans hw284_0),((HB.out.cell (World.block_lt_of_cell? w _ hw284_1)).trans hw284_1),((HB.out.cell (World.block_lt_of_cell? w _ hw284_2)).trans hw284_2),((HB.out.cell (World.block_lt_of_cell? w _ hw284_3)).trans hw284_3),((HB.out.cell (World.block_lt_of_cell? w _ hw284_4)).trans hw284_4)⟩ (fun hHeld=>?_);clear hK K;refine norm_ (a':=?_) ?_ ?_;rotate_left
                       · show Act.put _ (some 25) _ = _
                         simp only [Act.put,sA,sZ,sS,i64_w,i32_w];rfl
                       refine pu 2 (some 26) impl_areSpaces.calls.a3 rfl rfl HT_.out ?_;refine pu 3 (some 27) impl_areSpaces.calls.a4 rfl rfl HT_.out ?_;refine pu 4 (some 28) impl_areSpaces.calls.a5 rfl rfl HT_.out ?_;refine pu 5 (some 29) impl_areSpaces.calls.a6 rfl rfl HT_.out ?_;refine pu 6 (some 30) impl_areSpaces.calls.a7 rfl rfl HT_.out ?_;refine pu 7 (some 31) impl_areSpaces.calls.a8 rfl rfl HT_.out ?_;refine pu 8 (some 32) impl_areSpaces.calls.a9 rfl rfl HT_.out ?_;refine pu 9 (some 33) impl_areSpaces.calls.a10 rfl rfl HT_.out ?_;refine pu 10 (some 34) impl_areSpaces.calls.a11 rfl rfl HT_.out ?_;refine pu 11 (some 35) impl_areSpaces.calls.a12 rfl rfl HT_.out ?_;refine pu 13 (some 37) #[true,true,true,true,true,true,true,true,true,true,true,true,false,true,false,false,false,false] rfl rfl HT_.out ?_;refine tk 12 (some 36) impl_areSpaces.calls.a13 rfl rfl HT_.out HW_.out hHeld (by rintro w' ⟨s0,s1,s2,s3,s4,s5,s6,s7,s8,s9⟩;go_simp;with_reducible rfl) ?_;refine tk 14 (some 38) impl_areSpaces.calls.a14 rfl rfl HT_.out HW_.out hHeld (by rintro w' ⟨s0,s1,s2,s3,s4,s5,s6,s7,s8,s9⟩;go_simp;with_reducible rfl) ?_;refine pu 15 (some 39) impl_areSpaces.calls.a15 rfl rfl HT_.out ?_;refine pu 16 (some 40) impl_areSpaces.calls.a16 rfl rfl HT_.out ?_;refine pu 17 (some 41) impl_areSpaces.calls.a17 rfl rfl HT_.out ?_;refine done_ (done_of HT_.out (by kernel_rfl)) ?_
                       try go_wp2
                       show _;go_roundg k2
                       case measure=>have:=HJ1.out;have:=HK2.out;omega
                       case rel=>exact ⟨(wrap64 (x19_2 + 1)),(by first|rfl|(simp;done)|(simp [*];done)),H',⟨by have:=HJ1.out;have:=HK2.out;omega⟩,⟨by repeat (first|(with_reducible first|exact HB.out|apply bal|apply pbN|apply bd1|refine bst ?_ GE282.out)|exact HB.out)⟩⟩
                     · rw [if_neg c14] at H
                       have c14b0:(Op.bytesLess (((riS37 l0 (ji11)).f0).toList) (((riS37 l0 x19_2).f0).toList)) = false:=by simpa using c14
                       clear c14;obtain rfl:=Option.some.inj H;have p281:0 ≤ (x19_2:Int):=odt;have q281:x19_2 < (l0.length:Int):=odt;obtain ⟨ad281,e281,hx281_0,hx281_1,hx281_2,hx281_3,hx281_4⟩:=at_T47 HR0.out x19_2 p281 q281
                       cases e281
                       replace hx281_0:=bx HB.out rfl hx281_0;replace hx281_1:=bx HB.out rfl hx281_1;replace hx281_2:=bx HB.out rfl hx281_2;replace hx281_3:=bx HB.out rfl hx281_3;replace hx281_4:=bx HB.out rfl hx281_4;replace p281:=eq_true p281;replace q281:=eq_true q281
                       try go_wp2_with (first|((with_reducible refine gate_dst (N:=4) rfl ?_);(try (refine gate_guard (by rfl) ?_;dsimp only));refine bE 4 #[.string ⟨#[]⟩,.string ⟨#[]⟩,.int .i64 0,.bool false,.int .i64 0] 47 ?_;intro gb282 hg w20 hbox hb;have BK282:=As0.mk (hbox);have GW282:=As0.mk ((by rw [hg];exact (bsz (by repeat (first|(with_reducible first|exact HB.out|apply bal|apply pbN|apply bd1)|exact HB.out))):w.heap.size ≤ gb282));have GE282:=GW282;replace HB:=As0.mk (b3 HB.out hb);clear hb hbox hg;obtain ⟨hcz21_0,hcz21_1,hcz21_2,hcz21_3,hcz21_4⟩:=qc5 BK282.out;obtain ⟨hfz21_0,hfz21_1,hfz21_2,hfz21_3,hfz21_4⟩:=qz5 BK282.out))
                       have n0_:As0 ((((((w20.setCell ⟨gb282,0,none⟩ (.string ((riS37 l0 x19_2).f0))).setCell ⟨gb282,1,none⟩ (.string ((riS37 l0 x19_2).f1))).setCell ⟨gb282,2,none⟩ (.int .i64 ((riS37 l0 x19_2).f2))).setCell ⟨gb282,3,none⟩ (.bool ((riS37 l0 x19_2).f3))).setCell ⟨gb282,4,none⟩ (.int .i64 ((riS37 l0 x19_2).f4))).heap[gb282]? = some (.cells #[.string ((riS37 l0 x19_2).f0),.string ((riS37 l0 x19_2).f1),.int .i64 ((riS37 l0 x19_2).f2),.bool ((riS37 l0 x19_2).f3),.int .i64 ((riS37 l0 x19_2).f4)] 47 (0,0))):=⟨by (with_reducible repeat (first|refine bkN ?_ _|refine bkD ?_|refine bkA ?_ _));refine blk_put (cs:=#[.string ((riS37 l0 x19_2).f0),.string ((riS37 l0 x19_2).f1),.int .i64 ((riS37 l0 x19_2).f2),.bool ((riS37 l0 x19_2).f3),.int .i64 0]) ?_ 4 _ rfl;(with_reducible repeat (first|refine bkN ?_ _|refine bkD ?_|refine bkA ?_ _));refine blk_put (cs:=#[.string ((riS37 l0 x19_2).f0),.string ((riS37 l0 x19_2).f1),.int .i64 ((riS37 l0 x19_2).f2),.bool false,.int .i64 0]) ?_ 3 _ rfl;(with_reducible repeat (first|refine bkN ?_ _|refine bkD ?_|refine bkA ?_ _));refine blk_put (cs:=#[.string ((riS37 l0 x19_2).f0),.string ((riS37 l0 x19_2).f1),.int .i64 0,.bool false,.int .i64 0]) ?_ 2 _ rfl;(with_reducible repeat (first|refine bkN ?_ _|refine bkD ?_|refine bkA ?_ _));refine blk_put (cs:=#[.string ((riS37 l0 x19_2).f0),.string ⟨#[]⟩,.int .i64 0,.bool false,.int .i64 0]) ?_ 1 _ rfl;(with_reducible repeat (first|refine bkN ?_ _|refine bkD ?_|refine bkA ?_ _));refine blk_put (cs:=#[.string ⟨#[]⟩,.string ⟨#[]⟩,.int .i64 0,.bool false,.int .i64 0]) ?_ 0 _ rfl;(with_reducible repeat (first|refine bkN ?_ _|refine bkD ?_|refine bkA ?_ _));exact BK282.out⟩;have n1_:As0 (Below w.heap.size w (((((w20.setCell ⟨gb282,0,none⟩ (.string ((riS37 l0 x19_2).f0))).setCell ⟨gb282,1,none⟩ (.string ((riS37 l0 x19_2).f1))).setCell ⟨gb282,2,none⟩ (.int .i64 ((riS37 l0 x19_2).f2))).setCell ⟨gb282,3,none⟩ (.bool ((riS37 l0 x19_2).f3))).setCell ⟨gb282,4,none⟩ (.int .i64 ((riS37 l0 x19_2).f4)))):=⟨by repeat (first|(with_reducible first|exact HB.out|apply bal|apply pbN|apply bd1|refine bst ?_ GE282.out)|exact HB.out)⟩
                       (try clear BK282)
                       (try clear HB)
                       (try rw [Opens.setCell_drewN])
                       generalize (((((w20.setCell ⟨gb282,0,none⟩ (.string ((riS37 l0 x19_2).f0))).setCell ⟨gb282,1,none⟩ (.string ((riS37 l0 x19_2).f1))).setCell ⟨gb282,2,none⟩ (.int .i64 ((riS37 l0 x19_2).f2))).setCell ⟨gb282,3,none⟩ (.bool ((riS37 l0 x19_2).f3))).setCell ⟨gb282,4,none⟩ (.int .i64 ((riS37 l0 x19_2).f4))) = w22 at n0_ n1_ ⊢
                       have BK282:=n0_;have HB:=n1_;clear n0_ n1_;replace BK282:=As0.mk (bkD BK282.out);replace HB:=As0.mk (bd1 HB.out);have p284:0 ≤ ((ji11):Int):=odt;have q284:(ji11) < (l0.length:Int):=odt;obtain ⟨ad284,e284,hx284_0,hx284_1,hx284_2,hx284_3,hx284_4⟩:=at_T47 HR0.out (ji11) p284 q284;have hw284_4:=hx284_4;have hw284_3:=hx284_3;have hw284_2:=hx284_2;have hw284_1:=hx284_1;have hw284_0:=hx284_0;obtain rfl:ad281 = ad284:=(by injection e284);replace hx284_0:=bx HB.out rfl hx284_0;replace hx284_1:=bx HB.out rfl hx284_1;replace hx284_2:=bx HB.out rfl hx284_2;replace hx284_3:=bx HB.out rfl hx284_3;replace hx284_4:=bx HB.out rfl hx284_4;replace p284:=eq_true p284;replace q284:=eq_true q284;refine start_ (n:=18) (S:=fun w'=>w'.cell? ⟨gb282,0,none⟩ = some (.string ((riS37 l0 x19_2).f0)) ∧ w'.cell? ⟨gb282,1,none⟩ = some (.string ((riS37 l0 x19_2).f1)) ∧ w'.cell? ⟨gb282,2,none⟩ = some (.int .i64 ((riS37 l0 x19_2).f2)) ∧ w'.cell? ⟨gb282,3,none⟩ = some (.bool ((riS37 l0 x19_2).f3)) ∧ w'.cell? ⟨gb282,4,none⟩ = some (.int .i64 ((riS37 l0 x19_2).f4)) ∧ w'.cell? (ad281.add (((ji11)).toNat * 5)) = some (.string ((riS37 l0 (ji11)).f0)) ∧ w'.cell? ⟨(ad281.add (((ji11)).toNat * 5)).block,(ad281.add (((ji11)).toNat * 5)).off + 1,none⟩ = some (.string ((riS37 l0 (ji11)).f1)) ∧ w'.cell? ⟨(ad281.add (((ji11)).toNat * 5)).block,(ad281.add (((ji11)).toNat * 5)).off + 2,none⟩ = some (.int .i64 ((riS37 l0 (ji11)).f2)) ∧ w'.cell? ⟨(ad281.add (((ji11)).toNat * 5)).block,(ad281.add (((ji11)).toNat * 5)).off + 3,none⟩ = some (.bool ((riS37 l0 (ji11)).f3)) ∧ w'.cell? ⟨(ad281.add (((ji11)).toNat * 5)).block,(ad281.add (((ji11)).toNat * 5)).off + 4,none⟩ = some (.int .i64 ((riS37 l0 (ji11)).f4))) (ds:=[]) impl_areSpaces.calls.a0 (by kernel_rfl) rfl rfl ⟨(bkC BK282.out 0).trans rfl,(bkC BK282.out 1).trans rfl,(bkC BK282.out 2).trans rfl,(bkC BK282.out 3).trans rfl,(bkC BK282.out 4).trans rfl,((HB.out.cell (World.block_lt_of_cell? w _ hw284_0)).trans hw284_0),((HB.out.cell (World.block_lt_of_cell? w _ hw284_1)).trans hw284_1),((HB.out.cell (World.block_lt_of_cell? w _ hw284_2)).trans hw284_2),((HB.out.cell (World.block_lt_of_cell? w _ hw284_3)).trans hw284_3),((HB.out.cell (World.block_lt_of_cell? w _ hw284_4)).trans hw284_4)⟩ (fun hHeld=>?_);refine with_tabW impl_areSpaces.tab6 impl_areSpaces.bits6 (fun HT_ HW_=>?_);generalize w22.drew = w23 at BK282 HB hx284_0 hx284_1 hx284_2 hx284_3 hx284_4 hHeld ⊢
                       refine tk 0 (some 24) impl_areSpaces.calls.a1 rfl rfl HT_.out HW_.out hHeld (by rintro w' ⟨s0,s1,s2,s3,s4,s5,s6,s7,s8,s9⟩;go_simp;with_reducible rfl) ?_;refine one_ (i:=1) (N:=some 25) impl_areSpaces.calls.a2 rfl rfl (one_of HT_.out (by kernel_rfl)) (by decide) (fun K hK=>?_);refine goes_ Tryd.func63 (by kernel_rfl) rfl #[.agg #[.string ((riS37 l0 x19_2).f0),.string ((riS37 l0 x19_2).f1),.int .i64 ((riS37 l0 x19_2).f2),.bool ((riS37 l0 x19_2).f3),.int .i64 ((riS37 l0 x19_2).f4)]] (by rfl) rfl rfl (by (try simp only [List.map_toArray,List.map_cons,List.map_nil]);first|done|rfl|(simp only [List.length_drop,List.length_take];rfl)) ?_;with_reducible refine (impl_isSpace.calls k2 ((riS37 l0 x19_2).f0) ((riS37 l0 x19_2).f1) ((riS37 l0 x19_2).f2) ((riS37 l0 x19_2).f3) ((riS37 l0 x19_2).f4) true _ A8.out).mono ?_
                       rintro e w24 ⟨rfl,hb⟩;refine ⟨_,rfl,?_⟩;replace BK282:=As0.mk (bb hb BK282.out);replace HB:=As0.mk (bsp (by repeat (first|(with_reducible first|exact HB.out|apply bal|apply pbN|apply bd1|refine bst ?_ GE282.out)|exact HB.out)) hb)
                            
                            
                            
                            
                       refine hK.out _ _ ⟨(bkC BK282.out 0).trans rfl,(bkC BK282.out 1).trans rfl,(bkC BK282.out 2).trans rfl,(bkC BK282.out 3).trans rfl,(bkC BK282.out 4).trans rfl,((HB.out.cell (World.block_lt_of_cell? w _ hw284_0)).trans hw284_0),((HB.out.cell (World.block_lt_of_cell? w _ hw284_1)).trans hw284_1),((HB.out.cell (World.block_lt_of_cell? w _ hw284_2)).trans hw284_2),((HB.out.cell (World.block_lt_of_cell? w _ hw284_3)).trans hw284_3),((HB.out.cell (World.block_lt_of_cell? w _ hw284_4)).trans hw284_4)⟩ (fun hHeld=>?_);clear hK K;refine norm_ (a':=?_) ?_ ?_;rotate_left
                       · show Act.put _ (some 25) _ = _
                         simp only [Act.put,sA,sZ,sS,i64_w,i32_w];rfl
                       refine pu 2 (some 26) impl_areSpaces.calls.a3 rfl rfl HT_.out ?_;refine pu 3 (some 27) impl_areSpaces.calls.a4 rfl rfl HT_.out ?_;refine pu 4 (some 28) impl_areSpaces.calls.a5 rfl rfl HT_.out ?_;refine pu 5 (some 29) impl_areSpaces.calls.a6 rfl rfl HT_.out ?_;refine pu 6 (some 30) impl_areSpaces.calls.a7 rfl rfl HT_.out ?_;refine pu 7 (some 31) impl_areSpaces.calls.a8 rfl rfl HT_.out ?_;refine pu 8 (some 32) impl_areSpaces.calls.a9 rfl rfl HT_.out ?_;refine pu 9 (some 33) impl_areSpaces.calls.a10 rfl rfl HT_.out ?_;refine pu 10 (some 34) impl_areSpaces.calls.a11 rfl rfl HT_.out ?_;refine pu 11 (some 35) impl_areSpaces.calls.a12 rfl rfl HT_.out ?_;refine pu 13 (some 37) #[true,true,true,true,true,true,true,true,true,true,true,true,false,true,false,false,false,false] rfl rfl HT_.out ?_;refine tk 12 (some 36) impl_areSpaces.calls.a13 rfl rfl HT_.out HW_.out hHeld (by rintro w' ⟨s0,s1,s2,s3,s4,s5,s6,s7,s8,s9⟩;go_simp;with_reducible rfl) ?_;refine tk 14 (some 38) impl_areSpaces.calls.a14 rfl rfl HT_.out HW_.out hHeld (by rintro w' ⟨s0,s1,s2,s3,s4,s5,s6,s7,s8,s9⟩;go_simp;with_reducible rfl) ?_;refine pu 15 (some 39) impl_areSpaces.calls.a15 rfl rfl HT_.out ?_;refine pu 16 (some 40) impl_areSpaces.calls.a16 rfl rfl HT_.out ?_;refine pu 17 (some 41) impl_areSpaces.calls.a17 rfl rfl HT_.out ?_;refine done_ (done_of HT_.out (by kernel_rfl)) ?_
                       try go_wp2
                       go_ret
                       exact ⟨by first|rfl|(simp [errW_none,errW_some] <;> rfl)|(simp only [← hji11];first|rfl|(simp [errW_none,errW_some] <;> rfl))|(simp [*,errW_none,errW_some] <;> rfl),by repeat (first|(with_reducible first|exact HB.out|apply bal|apply pbN|apply bd1|refine bst ?_ GE282.out)|exact HB.out)⟩
                   · rw [if_neg c13] at H
                     exact absurd H (by simp)
                 · rw [if_neg c12] at H
                   exact absurd H (by simp)
               · rw [if_neg c10] at H
                 have c10b0:decide (0 < x19_2) = false:=decide_eq_false c10;clear c10;have H':=As0.mk H;clear H;have p281:0 ≤ (x19_2:Int):=odt;have q281:x19_2 < (l0.length:Int):=odt;obtain ⟨ad281,e281,hx281_0,hx281_1,hx281_2,hx281_3,hx281_4⟩:=at_T47 HR0.out x19_2 p281 q281
                 cases e281
                 replace hx281_0:=bx HB.out rfl hx281_0;replace hx281_1:=bx HB.out rfl hx281_1;replace hx281_2:=bx HB.out rfl hx281_2;replace hx281_3:=bx HB.out rfl hx281_3;replace hx281_4:=bx HB.out rfl hx281_4;replace p281:=eq_true p281;replace q281:=eq_true q281
                 try go_wp2_with (first|((with_reducible refine gate_dst (N:=4) rfl ?_);(try (refine gate_guard (by rfl) ?_;dsimp only));refine bE 4 #[.string ⟨#[]⟩,.string ⟨#[]⟩,.int .i64 0,.bool false,.int .i64 0] 47 ?_;intro gb282 hg w25 hbox hb;have BK282:=As0.mk (hbox);have GW282:=As0.mk ((by rw [hg];exact (bsz (by repeat (first|(with_reducible first|exact HB.out|apply bal|apply pbN|apply bd1)|exact HB.out))):w.heap.size ≤ gb282));have GE282:=GW282;replace HB:=As0.mk (b3 HB.out hb);clear hb hbox hg;obtain ⟨hcz26_0,hcz26_1,hcz26_2,hcz26_3,hcz26_4⟩:=qc5 BK282.out;obtain ⟨hfz26_0,hfz26_1,hfz26_2,hfz26_3,hfz26_4⟩:=qz5 BK282.out))
                 have n0_:As0 ((((((w25.setCell ⟨gb282,0,none⟩ (.string ((riS37 l0 x19_2).f0))).setCell ⟨gb282,1,none⟩ (.string ((riS37 l0 x19_2).f1))).setCell ⟨gb282,2,none⟩ (.int .i64 ((riS37 l0 x19_2).f2))).setCell ⟨gb282,3,none⟩ (.bool ((riS37 l0 x19_2).f3))).setCell ⟨gb282,4,none⟩ (.int .i64 ((riS37 l0 x19_2).f4))).heap[gb282]? = some (.cells #[.string ((riS37 l0 x19_2).f0),.string ((riS37 l0 x19_2).f1),.int .i64 ((riS37 l0 x19_2).f2),.bool ((riS37 l0 x19_2).f3),.int .i64 ((riS37 l0 x19_2).f4)] 47 (0,0))):=⟨by (with_reducible repeat (first|refine bkN ?_ _|refine bkD ?_|refine bkA ?_ _));refine blk_put (cs:=#[.string ((riS37 l0 x19_2).f0),.string ((riS37 l0 x19_2).f1),.int .i64 ((riS37 l0 x19_2).f2),.bool ((riS37 l0 x19_2).f3),.int .i64 0]) ?_ 4 _ rfl;(with_reducible repeat (first|refine bkN ?_ _|refine bkD ?_|refine bkA ?_ _));refine blk_put (cs:=#[.string ((riS37 l0 x19_2).f0),.string ((riS37 l0 x19_2).f1),.int .i64 ((riS37 l0 x19_2).f2),.bool false,.int .i64 0]) ?_ 3 _ rfl;(with_reducible repeat (first|refine bkN ?_ _|refine bkD ?_|refine bkA ?_ _));refine blk_put (cs:=#[.string ((riS37 l0 x19_2).f0),.string ((riS37 l0 x19_2).f1),.int .i64 0,.bool false,.int .i64 0]) ?_ 2 _ rfl;(with_reducible repeat (first|refine bkN ?_ _|refine bkD ?_|refine bkA ?_ _));refine blk_put (cs:=#[.string ((riS37 l0 x19_2).f0),.string ⟨#[]⟩,.int .i64 0,.bool false,.int .i64 0]) ?_ 1 _ rfl;(with_reducible repeat (first|refine bkN ?_ _|refine bkD ?_|refine bkA ?_ _));refine blk_put (cs:=#[.string ⟨#[]⟩,.string ⟨#[]⟩,.int .i64 0,.bool false,.int .i64 0]) ?_ 0 _ rfl;(with_reducible repeat (first|refine bkN ?_ _|refine bkD ?_|refine bkA ?_ _));exact BK282.out⟩;have n1_:As0 (Below w.heap.size w (((((w25.setCell ⟨gb282,0,none⟩ (.string ((riS37 l0 x19_2).f0))).setCell ⟨gb282,1,none⟩ (.string ((riS37 l0 x19_2).f1))).setCell ⟨gb282,2,none⟩ (.int .i64 ((riS37 l0 x19_2).f2))).setCell ⟨gb282,3,none⟩ (.bool ((riS37 l0 x19_2).f3))).setCell ⟨gb282,4,none⟩ (.int .i64 ((riS37 l0 x19_2).f4)))):=⟨by repeat (first|(with_reducible first|exact HB.out|apply bal|apply pbN|apply bd1|refine bst ?_ GE282.out)|exact HB.out)⟩
                 (try clear BK282)
                 (try clear HB)
                 (try rw [Opens.setCell_drewN])
                 generalize (((((w25.setCell ⟨gb282,0,none⟩ (.string ((riS37 l0 x19_2).f0))).setCell ⟨gb282,1,none⟩ (.string ((riS37 l0 x19_2).f1))).setCell ⟨gb282,2,none⟩ (.int .i64 ((riS37 l0 x19_2).f2))).setCell ⟨gb282,3,none⟩ (.bool ((riS37 l0 x19_2).f3))).setCell ⟨gb282,4,none⟩ (.int .i64 ((riS37 l0 x19_2).f4))) = w27 at n0_ n1_ ⊢
                 have BK282:=n0_;have HB:=n1_;clear n0_ n1_;replace BK282:=As0.mk (bkD BK282.out);replace HB:=As0.mk (bd1 HB.out);refine start_ (n:=18) (S:=fun w'=>w'.cell? ⟨gb282,0,none⟩ = some (.string ((riS37 l0 x19_2).f0)) ∧ w'.cell? ⟨gb282,1,none⟩ = some (.string ((riS37 l0 x19_2).f1)) ∧ w'.cell? ⟨gb282,2,none⟩ = some (.int .i64 ((riS37 l0 x19_2).f2)) ∧ w'.cell? ⟨gb282,3,none⟩ = some (.bool ((riS37 l0 x19_2).f3)) ∧ w'.cell? ⟨gb282,4,none⟩ = some (.int .i64 ((riS37 l0 x19_2).f4))) (ds:=[]) impl_areSpaces.calls.a0 (by kernel_rfl) rfl rfl (qc5 BK282.out) (fun hHeld=>?_);refine with_tabW impl_areSpaces.tab6 impl_areSpaces.bits6 (fun HT_ HW_=>?_);generalize w27.drew = w28 at BK282 HB hHeld ⊢
                 refine tk 0 (some 24) impl_areSpaces.calls.a1 rfl rfl HT_.out HW_.out hHeld (by rintro w' ⟨s0,s1,s2,s3,s4⟩;go_simp;with_reducible rfl) ?_;refine one_ (i:=1) (N:=some 25) impl_areSpaces.calls.a2 rfl rfl (one_of HT_.out (by kernel_rfl)) (by decide) (fun K hK=>?_);refine goes_ Tryd.func63 (by kernel_rfl) rfl #[.agg #[.string ((riS37 l0 x19_2).f0),.string ((riS37 l0 x19_2).f1),.int .i64 ((riS37 l0 x19_2).f2),.bool ((riS37 l0 x19_2).f3),.int .i64 ((riS37 l0 x19_2).f4)]] (by rfl) rfl rfl (by (try simp only [List.map_toArray,List.map_cons,List.map_nil]);first|done|rfl|(simp only [List.length_drop,List.length_take];rfl)) ?_;with_reducible refine (impl_isSpace.calls k2 ((riS37 l0 x19_2).f0) ((riS37 l0 x19_2).f1) ((riS37 l0 x19_2).f2) ((riS37 l0 x19_2).f3) ((riS37 l0 x19_2).f4) true _ A8.out).mono ?_
                 rintro e w29 ⟨rfl,hb⟩;refine ⟨_,rfl,?_⟩;replace BK282:=As0.mk (bb hb BK282.out);replace HB:=As0.mk (bsp (by repeat (first|(with_reducible first|exact HB.out|apply bal|apply pbN|apply bd1|refine bst ?_ GE282.out)|exact HB.out)) hb)
                      
                      
                      
                      
                 refine hK.out _ _ (qc5 BK282.out) (fun hHeld=>?_);clear hK K;refine norm_ (a':=?_) ?_ ?_;rotate_left
                 · show Act.put _ (some 25) _ = _
                   simp only [Act.put,sA,sZ,sS,i64_w,i32_w];rfl
                 refine pu 2 (some 26) impl_areSpaces.calls.a3 rfl rfl HT_.out ?_;refine pu 3 (some 27) impl_areSpaces.calls.a4 rfl rfl HT_.out ?_;refine pu 4 (some 28) impl_areSpaces.calls.a5 rfl rfl HT_.out ?_;refine pu 5 (some 29) impl_areSpaces.calls.a6 rfl rfl HT_.out ?_;refine pu 6 (some 30) impl_areSpaces.calls.a7 rfl rfl HT_.out ?_;refine pn 7 (some 31) impl_areSpaces.calls.a8 rfl rfl HT_.out ?_;refine pn 8 (some 32) impl_areSpaces.calls.a9 rfl rfl HT_.out ?_;refine pn 9 (some 33) impl_areSpaces.calls.a10 rfl rfl HT_.out ?_;refine pn 10 (some 34) impl_areSpaces.calls.a11 rfl rfl HT_.out ?_;refine pn 11 (some 35) impl_areSpaces.calls.a12 rfl rfl HT_.out ?_;refine pn 12 (some 36) #[true,true,true,true,true,true,true,true,true,true,true,true,true,false,false,false,false,false] rfl rfl HT_.out ?_;refine pn 13 (some 37) impl_areSpaces.calls.a13 rfl rfl HT_.out ?_;refine pn 14 (some 38) impl_areSpaces.calls.a14 rfl rfl HT_.out ?_;refine pn 15 (some 39) impl_areSpaces.calls.a15 rfl rfl HT_.out ?_;refine pu 16 (some 40) impl_areSpaces.calls.a16 rfl rfl HT_.out ?_;refine pu 17 (some 41) impl_areSpaces.calls.a17 rfl rfl HT_.out ?_;refine done_ (done_of HT_.out (by kernel_rfl)) ?_
                 try go_wp2
                 show _;go_roundg k2
                 case measure=>have:=HJ1.out;have:=HK2.out;omega
                 case rel=>exact ⟨(wrap64 (x19_2 + 1)),(by first|rfl|(simp;done)|(simp [*];done)),H',⟨by have:=HJ1.out;have:=HK2.out;omega⟩,⟨by repeat (first|(with_reducible first|exact HB.out|apply bal|apply pbN|apply bd1|refine bst ?_ GE282.out)|exact HB.out)⟩⟩
             · replace c9:=Bool.eq_false_iff.mpr c9
               subst c9;have H1:(some false) = some r:=by rw [if_neg (show ¬ (false = true) by decide)] at H;exact H
               clear H;have H:=H1;clear H1;obtain rfl:=Option.some.inj H;have p281:0 ≤ (x19_2:Int):=odt;have q281:x19_2 < (l0.length:Int):=odt;obtain ⟨ad281,e281,hx281_0,hx281_1,hx281_2,hx281_3,hx281_4⟩:=at_T47 HR0.out x19_2 p281 q281
               cases e281
               replace hx281_0:=bx HB.out rfl hx281_0;replace hx281_1:=bx HB.out rfl hx281_1;replace hx281_2:=bx HB.out rfl hx281_2;replace hx281_3:=bx HB.out rfl hx281_3;replace hx281_4:=bx HB.out rfl hx281_4;replace p281:=eq_true p281;replace q281:=eq_true q281
               try go_wp2_with (first|((with_reducible refine gate_dst (N:=4) rfl ?_);(try (refine gate_guard (by rfl) ?_;dsimp only));refine bE 4 #[.string ⟨#[]⟩,.string ⟨#[]⟩,.int .i64 0,.bool false,.int .i64 0] 47 ?_;intro gb282 hg w30 hbox hb;have BK282:=As0.mk (hbox);have GW282:=As0.mk ((by rw [hg];exact (bsz (by repeat (first|(with_reducible first|exact HB.out|apply bal|apply pbN|apply bd1)|exact HB.out))):w.heap.size ≤ gb282));have GE282:=GW282;replace HB:=As0.mk (b3 HB.out hb);clear hb hbox hg;obtain ⟨hcz31_0,hcz31_1,hcz31_2,hcz31_3,hcz31_4⟩:=qc5 BK282.out;obtain ⟨hfz31_0,hfz31_1,hfz31_2,hfz31_3,hfz31_4⟩:=qz5 BK282.out))
               have n0_:As0 ((((((w30.setCell ⟨gb282,0,none⟩ (.string ((riS37 l0 x19_2).f0))).setCell ⟨gb282,1,none⟩ (.string ((riS37 l0 x19_2).f1))).setCell ⟨gb282,2,none⟩ (.int .i64 ((riS37 l0 x19_2).f2))).setCell ⟨gb282,3,none⟩ (.bool ((riS37 l0 x19_2).f3))).setCell ⟨gb282,4,none⟩ (.int .i64 ((riS37 l0 x19_2).f4))).heap[gb282]? = some (.cells #[.string ((riS37 l0 x19_2).f0),.string ((riS37 l0 x19_2).f1),.int .i64 ((riS37 l0 x19_2).f2),.bool ((riS37 l0 x19_2).f3),.int .i64 ((riS37 l0 x19_2).f4)] 47 (0,0))):=⟨by (with_reducible repeat (first|refine bkN ?_ _|refine bkD ?_|refine bkA ?_ _));refine blk_put (cs:=#[.string ((riS37 l0 x19_2).f0),.string ((riS37 l0 x19_2).f1),.int .i64 ((riS37 l0 x19_2).f2),.bool ((riS37 l0 x19_2).f3),.int .i64 0]) ?_ 4 _ rfl;(with_reducible repeat (first|refine bkN ?_ _|refine bkD ?_|refine bkA ?_ _));refine blk_put (cs:=#[.string ((riS37 l0 x19_2).f0),.string ((riS37 l0 x19_2).f1),.int .i64 ((riS37 l0 x19_2).f2),.bool false,.int .i64 0]) ?_ 3 _ rfl;(with_reducible repeat (first|refine bkN ?_ _|refine bkD ?_|refine bkA ?_ _));refine blk_put (cs:=#[.string ((riS37 l0 x19_2).f0),.string ((riS37 l0 x19_2).f1),.int .i64 0,.bool false,.int .i64 0]) ?_ 2 _ rfl;(with_reducible repeat (first|refine bkN ?_ _|refine bkD ?_|refine bkA ?_ _));refine blk_put (cs:=#[.string ((riS37 l0 x19_2).f0),.string ⟨#[]⟩,.int .i64 0,.bool false,.int .i64 0]) ?_ 1 _ rfl;(with_reducible repeat (first|refine bkN ?_ _|refine bkD ?_|refine bkA ?_ _));refine blk_put (cs:=#[.string ⟨#[]⟩,.string ⟨#[]⟩,.int .i64 0,.bool false,.int .i64 0]) ?_ 0 _ rfl;(with_reducible repeat (first|refine bkN ?_ _|refine bkD ?_|refine bkA ?_ _));exact BK282.out⟩;have n1_:As0 (Below w.heap.size w (((((w30.setCell ⟨gb282,0,none⟩ (.string ((riS37 l0 x19_2).f0))).setCell ⟨gb282,1,none⟩ (.string ((riS37 l0 x19_2).f1))).setCell ⟨gb282,2,none⟩ (.int .i64 ((riS37 l0 x19_2).f2))).setCell ⟨gb282,3,none⟩ (.bool ((riS37 l0 x19_2).f3))).setCell ⟨gb282,4,none⟩ (.int .i64 ((riS37 l0 x19_2).f4)))):=⟨by repeat (first|(with_reducible first|exact HB.out|apply bal|apply pbN|apply bd1|refine bst ?_ GE282.out)|exact HB.out)⟩
               (try clear BK282)
               (try clear HB)
               (try rw [Opens.setCell_drewN])
               generalize (((((w30.setCell ⟨gb282,0,none⟩ (.string ((riS37 l0 x19_2).f0))).setCell ⟨gb282,1,none⟩ (.string ((riS37 l0 x19_2).f1))).setCell ⟨gb282,2,none⟩ (.int .i64 ((riS37 l0 x19_2).f2))).setCell ⟨gb282,3,none⟩ (.bool ((riS37 l0 x19_2).f3))).setCell ⟨gb282,4,none⟩ (.int .i64 ((riS37 l0 x19_2).f4))) = w32 at n0_ n1_ ⊢
               have BK282:=n0_;have HB:=n1_;clear n0_ n1_;replace BK282:=As0.mk (bkD BK282.out);replace HB:=As0.mk (bd1 HB.out);refine start_ (n:=18) (S:=fun w'=>w'.cell? ⟨gb282,0,none⟩ = some (.string ((riS37 l0 x19_2).f0)) ∧ w'.cell? ⟨gb282,1,none⟩ = some (.string ((riS37 l0 x19_2).f1)) ∧ w'.cell? ⟨gb282,2,none⟩ = some (.int .i64 ((riS37 l0 x19_2).f2)) ∧ w'.cell? ⟨gb282,3,none⟩ = some (.bool ((riS37 l0 x19_2).f3)) ∧ w'.cell? ⟨gb282,4,none⟩ = some (.int .i64 ((riS37 l0 x19_2).f4))) (ds:=[]) impl_areSpaces.calls.a0 (by kernel_rfl) rfl rfl (qc5 BK282.out) (fun hHeld=>?_);refine with_tabW impl_areSpaces.tab6 impl_areSpaces.bits6 (fun HT_ HW_=>?_);generalize w32.drew = w33 at BK282 HB hHeld ⊢
               refine tk 0 (some 24) impl_areSpaces.calls.a1 rfl rfl HT_.out HW_.out hHeld (by rintro w' ⟨s0,s1,s2,s3,s4⟩;go_simp;with_reducible rfl) ?_;refine one_ (i:=1) (N:=some 25) impl_areSpaces.calls.a2 rfl rfl (one_of HT_.out (by kernel_rfl)) (by decide) (fun K hK=>?_);refine goes_ Tryd.func63 (by kernel_rfl) rfl #[.agg #[.string ((riS37 l0 x19_2).f0),.string ((riS37 l0 x19_2).f1),.int .i64 ((riS37 l0 x19_2).f2),.bool ((riS37 l0 x19_2).f3),.int .i64 ((riS37 l0 x19_2).f4)]] (by rfl) rfl rfl (by (try simp only [List.map_toArray,List.map_cons,List.map_nil]);first|done|rfl|(simp only [List.length_drop,List.length_take];rfl)) ?_;with_reducible refine (impl_isSpace.calls k2 ((riS37 l0 x19_2).f0) ((riS37 l0 x19_2).f1) ((riS37 l0 x19_2).f2) ((riS37 l0 x19_2).f3) ((riS37 l0 x19_2).f4) false _ A8.out).mono ?_
               rintro e w34 ⟨rfl,hb⟩;refine ⟨_,rfl,?_⟩;replace BK282:=As0.mk (bb hb BK282.out);replace HB:=As0.mk (bsp (by repeat (first|(with_reducible first|exact HB.out|apply bal|apply pbN|apply bd1|refine bst ?_ GE282.out)|exact HB.out)) hb)
                    
                    
                    
                    
               refine hK.out _ _ (qc5 BK282.out) (fun hHeld=>?_);clear hK K;refine norm_ (a':=?_) ?_ ?_;rotate_left
               · show Act.put _ (some 25) _ = _
                 simp only [Act.put,sA,sZ,sS,i64_w,i32_w];rfl
               refine pu 2 (some 26) impl_areSpaces.calls.a3 rfl rfl HT_.out ?_;refine pu 3 (some 27) impl_areSpaces.calls.a4 rfl rfl HT_.out ?_;refine pn 4 (some 28) impl_areSpaces.calls.a5 rfl rfl HT_.out ?_;refine pn 5 (some 29) impl_areSpaces.calls.a6 rfl rfl HT_.out ?_;refine pn 6 (some 30) impl_areSpaces.calls.a7 rfl rfl HT_.out ?_;refine pn 7 (some 31) impl_areSpaces.calls.a8 rfl rfl HT_.out ?_;refine pn 8 (some 32) impl_areSpaces.calls.a9 rfl rfl HT_.out ?_;refine pn 9 (some 33) impl_areSpaces.calls.a10 rfl rfl HT_.out ?_;refine pn 10 (some 34) impl_areSpaces.calls.a11 rfl rfl HT_.out ?_;refine pn 11 (some 35) impl_areSpaces.calls.a12 rfl rfl HT_.out ?_;refine pn 12 (some 36) #[true,true,true,true,true,true,true,true,true,true,true,true,true,false,false,false,false,false] rfl rfl HT_.out ?_;refine pn 13 (some 37) impl_areSpaces.calls.a13 rfl rfl HT_.out ?_;refine pn 14 (some 38) impl_areSpaces.calls.a14 rfl rfl HT_.out ?_;refine pn 15 (some 39) impl_areSpaces.calls.a15 rfl rfl HT_.out ?_;refine pn 16 (some 40) impl_areSpaces.calls.a16 rfl rfl HT_.out ?_;refine pu 17 (some 41) impl_areSpaces.calls.a17 rfl rfl HT_.out ?_;refine done_ (done_of HT_.out (by kernel_rfl)) ?_
               try go_wp2
               go_ret
               exact ⟨eW,by repeat (first|(with_reducible first|exact HB.out|apply bal|apply pbN|apply bd1|refine bst ?_ GE282.out)|exact HB.out)⟩
           · rw [if_neg c7] at H
             exact absurd H (by simp)
         · rw [if_neg c6] at H
           exact absurd H (by simp)
       · rw [if_neg c5] at H
         have c5b0:decide (x19_2 < (l0.length:Int)) = false:=decide_eq_false c5;clear c5;have H':=As0.mk H;clear H
         go_wp2
         show _;go_loopg [45] k2 (fun kq v45 w'=>∃ (x45_3:Int),v45 = .int .i64 x45_3 ∧ As0 (impl_areSpaces.l1 kq l0 l0 (l0.length:Int) x45_3 = some r) ∧ As0 (kq ≤ k2) ∧ As0 (Below w.heap.size w w'))
         case atStart=>exact ⟨(0),(by first|rfl|(simp;done)|(simp [*];done)),H',⟨Nat.le_refl _⟩,⟨by repeat (first|(with_reducible first|exact HB.out|apply bal|apply pbN|apply bd1)|exact HB.out)⟩⟩
         case round=>
          clear H'
          try clear c1
          try clear p2
          try clear q2
          try clear hx2
          try clear c5
          try clear c5b0
          try clear c6
          try clear p6
          try clear c7
          try clear c9
          try clear c10
          try clear c10b0
          try clear c12
          try clear c13
          try clear c14
          try clear c14b0
          try clear p28
          try clear q28
          try clear hx28
          try clear hcz21_0
          try clear hcz21_1
          try clear hcz21_2
          try clear hcz21_3
          try clear hcz21_4
          try clear hcz26_0
          try clear hcz26_1
          try clear hcz26_2
          try clear hcz26_3
          try clear hcz26_4
          try clear hcz31_0
          try clear hcz31_1
          try clear hcz31_2
          try clear hcz31_3
          try clear hcz31_4
          try clear hfz21_0
          try clear hfz21_1
          try clear hfz21_2
          try clear hfz21_3
          try clear hfz21_4
          try clear hfz26_0
          try clear hfz26_1
          try clear hfz26_2
          try clear hfz26_3
          try clear hfz26_4
          try clear hfz31_0
          try clear hfz31_1
          try clear hfz31_2
          try clear hfz31_3
          try clear hfz31_4
          try clear hx281_0
          try clear hx281_1
          try clear hx281_2
          try clear hx281_3
          try clear hx281_4
          try clear hx284_0
          try clear hx284_1
          try clear hx284_2
          try clear hx284_3
          try clear hx284_4
          try clear p281
          try clear p284
          try clear q281
          try clear q284
          obtain ⟨x45_3,rfl,HA,HK3,HB⟩:=hrel
          cases gk with
          |zero=>exact absurd HA.out (by simp [impl_areSpaces.l1])
          |succ k3=>
           have H:=HA.out;clear HA;simp only [impl_areSpaces.l1] at H;by_cases c35:x45_3 < (l0.length:Int)
           · rw [if_pos c35] at H
             have c35b0:decide (x45_3 < (l0.length:Int)) = true:=decide_eq_true c35;clear c35;by_cases c36:0 ≤ x45_3
             · rw [if_pos c36] at H
               have c36b0:decide (0 ≤ x45_3) = true:=decide_eq_true c36;clear c36;by_cases c37:x45_3 < (l0.length:Int)
               · rw [if_pos c37] at H
                 have c37b0:decide (x45_3 < (l0.length:Int)) = true:=decide_eq_true c37;clear c37;have H':=As0.mk H;clear H;have p285:0 ≤ (x45_3:Int):=odt;have q285:x45_3 < (l0.length:Int):=odt;obtain ⟨ad285,e285,hx285_0,hx285_1,hx285_2,hx285_3,hx285_4⟩:=at_T47 HR0.out x45_3 p285 q285
                 cases e285
                 replace hx285_0:=bx HB.out rfl hx285_0;replace hx285_1:=bx HB.out rfl hx285_1;replace hx285_2:=bx HB.out rfl hx285_2;replace hx285_3:=bx HB.out rfl hx285_3;replace hx285_4:=bx HB.out rfl hx285_4;replace p285:=eq_true p285;replace q285:=eq_true q285
                 go_wp2_with (first|((with_reducible refine gate_dst (N:=6) rfl ?_);(try (refine gate_guard (by rfl) ?_;dsimp only));refine bE 6 #[.string ⟨#[]⟩,.string ⟨#[]⟩,.int .i64 0,.bool false,.int .i64 0] 47 ?_;intro gb286 hg w38 hbox hb;have BK286:=As0.mk (hbox);have GW286:=As0.mk ((by rw [hg];exact (bsz (by repeat (first|(with_reducible first|exact HB.out|apply bal|apply pbN|apply bd1)|exact HB.out))):w.heap.size ≤ gb286));have GE286:=GW286;replace HB:=As0.mk (b3 HB.out hb);clear hb hbox hg;obtain ⟨hcz39_0,hcz39_1,hcz39_2,hcz39_3,hcz39_4⟩:=qc5 BK286.out;obtain ⟨hfz39_0,hfz39_1,hfz39_2,hfz39_3,hfz39_4⟩:=qz5 BK286.out)|((with_reducible refine gate_dst (N:=7) rfl ?_);(try (refine gate_guard (by rfl) ?_;dsimp only));refine bE 7 #[.string ⟨#[]⟩,.string ⟨#[]⟩,.int .i64 0,.bool false,.int .i64 0] 47 ?_;intro gb287 hg w40 hbox hb;have BK287:=As0.mk (hbox);have GW287:=As0.mk ((by rw [hg];exact (bsz (by repeat (first|(with_reducible first|exact HB.out|apply bal|apply pbN|apply bd1|refine bst ?_ GE286.out)|exact HB.out))):w.heap.size ≤ gb287));have GE287:=GW287;replace HB:=As0.mk (bsp (by repeat (first|(with_reducible first|exact HB.out|apply bal|apply pbN|apply bd1|refine bst ?_ GE286.out)|exact HB.out)) hb);have NB286_287:=As0.mk ((by rw [hg];exact Nat.ne_of_lt (blk_lt (g:=gb286) (o:=.cells #[.string ((riS37 l0 x45_3).f0),.string ((riS37 l0 x45_3).f1),.int .i64 ((riS37 l0 x45_3).f2),.bool ((riS37 l0 x45_3).f3),.int .i64 ((riS37 l0 x45_3).f4)] 47 (0,0)) (by (with_reducible repeat (first|refine bkN ?_ _|refine bkD ?_|refine bkA ?_ _));refine blk_put (cs:=#[.string ((riS37 l0 x45_3).f0),.string ((riS37 l0 x45_3).f1),.int .i64 ((riS37 l0 x45_3).f2),.bool ((riS37 l0 x45_3).f3),.int .i64 0]) ?_ 4 _ rfl;(with_reducible repeat (first|refine bkN ?_ _|refine bkD ?_|refine bkA ?_ _));refine blk_put (cs:=#[.string ((riS37 l0 x45_3).f0),.string ((riS37 l0 x45_3).f1),.int .i64 ((riS37 l0 x45_3).f2),.bool false,.int .i64 0]) ?_ 3 _ rfl;(with_reducible repeat (first|refine bkN ?_ _|refine bkD ?_|refine bkA ?_ _));refine blk_put (cs:=#[.string ((riS37 l0 x45_3).f0),.string ((riS37 l0 x45_3).f1),.int .i64 0,.bool false,.int .i64 0]) ?_ 2 _ rfl;(with_reducible repeat (first|refine bkN ?_ _|refine bkD ?_|refine bkA ?_ _));refine blk_put (cs:=#[.string ((riS37 l0 x45_3).f0),.string ⟨#[]⟩,.int .i64 0,.bool false,.int .i64 0]) ?_ 1 _ rfl;(with_reducible repeat (first|refine bkN ?_ _|refine bkD ?_|refine bkA ?_ _));refine blk_put (cs:=#[.string ⟨#[]⟩,.string ⟨#[]⟩,.int .i64 0,.bool false,.int .i64 0]) ?_ 0 _ rfl;(with_reducible repeat (first|refine bkN ?_ _|refine bkD ?_|refine bkA ?_ _));exact BK286.out)):gb286 ≠ gb287));have NB287_286:=As0.mk (Ne.symm NB286_287.out);replace BK286:=As0.mk (blk_below (g:=gb286) (o:=.cells #[.string ((riS37 l0 x45_3).f0),.string ((riS37 l0 x45_3).f1),.int .i64 ((riS37 l0 x45_3).f2),.bool ((riS37 l0 x45_3).f3),.int .i64 ((riS37 l0 x45_3).f4)] 47 (0,0)) (by (with_reducible repeat (first|refine bkN ?_ _|refine bkD ?_|refine bkA ?_ _));refine blk_put (cs:=#[.string ((riS37 l0 x45_3).f0),.string ((riS37 l0 x45_3).f1),.int .i64 ((riS37 l0 x45_3).f2),.bool ((riS37 l0 x45_3).f3),.int .i64 0]) ?_ 4 _ rfl;(with_reducible repeat (first|refine bkN ?_ _|refine bkD ?_|refine bkA ?_ _));refine blk_put (cs:=#[.string ((riS37 l0 x45_3).f0),.string ((riS37 l0 x45_3).f1),.int .i64 ((riS37 l0 x45_3).f2),.bool false,.int .i64 0]) ?_ 3 _ rfl;(with_reducible repeat (first|refine bkN ?_ _|refine bkD ?_|refine bkA ?_ _));refine blk_put (cs:=#[.string ((riS37 l0 x45_3).f0),.string ((riS37 l0 x45_3).f1),.int .i64 0,.bool false,.int .i64 0]) ?_ 2 _ rfl;(with_reducible repeat (first|refine bkN ?_ _|refine bkD ?_|refine bkA ?_ _));refine blk_put (cs:=#[.string ((riS37 l0 x45_3).f0),.string ⟨#[]⟩,.int .i64 0,.bool false,.int .i64 0]) ?_ 1 _ rfl;(with_reducible repeat (first|refine bkN ?_ _|refine bkD ?_|refine bkA ?_ _));refine blk_put (cs:=#[.string ⟨#[]⟩,.string ⟨#[]⟩,.int .i64 0,.bool false,.int .i64 0]) ?_ 0 _ rfl;(with_reducible repeat (first|refine bkN ?_ _|refine bkD ?_|refine bkA ?_ _));exact BK286.out) hb);clear hb hbox hg;have hnb41:=NB287_286.out;have hnc41:=NB286_287.out;obtain ⟨hcz42_0,hcz42_1,hcz42_2,hcz42_3,hcz42_4⟩:=qc5 BK287.out;obtain ⟨hfz42_0,hfz42_1,hfz42_2,hfz42_3,hfz42_4⟩:=qz5 BK287.out))
                 show _;go_loopg [52] k3 (fun kq v52 w'=>∃ (x52_4:Int) (x288000_4:ByteArray) (x288001_4:ByteArray) (x288002_4:Int) (x288003_4:Bool) (x288004_4:Int),v52 = .int .i64 x52_4 ∧ As0 (impl_areSpaces.l2 kq l0 l0 (l0.length:Int) x45_3 (l0.length:Int) x52_4 x288000_4 x288001_4 x288002_4 x288003_4 x288004_4 = some r) ∧ As0 (kq ≤ k3) ∧ As0 (w'.heap[gb286]? = some (.cells #[.string ((riS37 l0 x45_3).f0),.string ((riS37 l0 x45_3).f1),.int .i64 ((riS37 l0 x45_3).f2),.bool ((riS37 l0 x45_3).f3),.int .i64 ((riS37 l0 x45_3).f4)] 47 (0,0))) ∧ As0 (w'.heap[gb287]? = some (.cells #[.string x288000_4,.string x288001_4,.int .i64 x288002_4,.bool x288003_4,.int .i64 x288004_4] 47 (0,0))) ∧ As0 (Below w.heap.size w w'))
                 case atStart=>exact ⟨(0),((riS37 l0 x45_3).f0),((riS37 l0 x45_3).f1),((riS37 l0 x45_3).f2),((riS37 l0 x45_3).f3),((riS37 l0 x45_3).f4),(by first|rfl|(simp;done)|(simp [*];done)),H',⟨Nat.le_refl _⟩,⟨by (with_reducible repeat (first|refine bkN ?_ _|refine bkD ?_|refine bkA ?_ _));refine blk_far ?_ NB286_287.out _;(with_reducible repeat (first|refine bkN ?_ _|refine bkD ?_|refine bkA ?_ _));refine blk_far ?_ NB286_287.out _;(with_reducible repeat (first|refine bkN ?_ _|refine bkD ?_|refine bkA ?_ _));refine blk_far ?_ NB286_287.out _;(with_reducible repeat (first|refine bkN ?_ _|refine bkD ?_|refine bkA ?_ _));refine blk_far ?_ NB286_287.out _;(with_reducible repeat (first|refine bkN ?_ _|refine bkD ?_|refine bkA ?_ _));refine blk_far ?_ NB286_287.out _;(with_reducible repeat (first|refine bkN ?_ _|refine bkD ?_|refine bkA ?_ _));exact BK286.out⟩,⟨by (with_reducible repeat (first|refine bkN ?_ _|refine bkD ?_|refine bkA ?_ _));refine blk_put (cs:=#[.string ((riS37 l0 x45_3).f0),.string ((riS37 l0 x45_3).f1),.int .i64 ((riS37 l0 x45_3).f2),.bool ((riS37 l0 x45_3).f3),.int .i64 0]) ?_ 4 _ rfl;(with_reducible repeat (first|refine bkN ?_ _|refine bkD ?_|refine bkA ?_ _));refine blk_put (cs:=#[.string ((riS37 l0 x45_3).f0),.string ((riS37 l0 x45_3).f1),.int .i64 ((riS37 l0 x45_3).f2),.bool false,.int .i64 0]) ?_ 3 _ rfl;(with_reducible repeat (first|refine bkN ?_ _|refine bkD ?_|refine bkA ?_ _));refine blk_put (cs:=#[.string ((riS37 l0 x45_3).f0),.string ((riS37 l0 x45_3).f1),.int .i64 0,.bool false,.int .i64 0]) ?_ 2 _ rfl;(with_reducible repeat (first|refine bkN ?_ _|refine bkD ?_|refine bkA ?_ _));refine blk_put (cs:=#[.string ((riS37 l0 x45_3).f0),.string ⟨#[]⟩,.int .i64 0,.bool false,.int .i64 0]) ?_ 1 _ rfl;(with_reducible repeat (first|refine bkN ?_ _|refine bkD ?_|refine bkA ?_ _));refine blk_put (cs:=#[.string ⟨#[]⟩,.string ⟨#[]⟩,.int .i64 0,.bool false,.int .i64 0]) ?_ 0 _ rfl;(with_reducible repeat (first|refine bkN ?_ _|refine bkD ?_|refine bkA ?_ _));exact BK287.out⟩,⟨by repeat (first|(with_reducible first|exact HB.out|apply bal|apply pbN|apply bd1|refine bst ?_ GE286.out|refine bst ?_ GE287.out)|exact HB.out)⟩⟩
                 case round=>
                  clear H'
                  try clear c1
                  try clear p2
                  try clear q2
                  try clear hx2
                  try clear c3
                  try clear c4
                  try clear c5
                  try clear c5b0
                  try clear c6
                  try clear p6
                  try clear c7
                  try clear c9
                  try clear c10
                  try clear c10b0
                  try clear c12
                  try clear c13
                  try clear c14
                  try clear c14b0
                  try clear p28
                  try clear q28
                  try clear hx28
                  try clear c35
                  try clear c35b0
                  try clear c36
                  try clear c36b0
                  try clear c37
                  try clear c37b0
                  try clear c41
                  try clear hcz21_0
                  try clear hcz21_1
                  try clear hcz21_2
                  try clear hcz21_3
                  try clear hcz21_4
                  try clear hcz26_0
                  try clear hcz26_1
                  try clear hcz26_2
                  try clear hcz26_3
                  try clear hcz26_4
                  try clear hcz31_0
                  try clear hcz31_1
                  try clear hcz31_2
                  try clear hcz31_3
                  try clear hcz31_4
                  try clear hcz39_0
                  try clear hcz39_1
                  try clear hcz39_2
                  try clear hcz39_3
                  try clear hcz39_4
                  try clear hcz42_0
                  try clear hcz42_1
                  try clear hcz42_2
                  try clear hcz42_3
                  try clear hcz42_4
                  try clear hfz21_0
                  try clear hfz21_1
                  try clear hfz21_2
                  try clear hfz21_3
                  try clear hfz21_4
                  try clear hfz26_0
                  try clear hfz26_1
                  try clear hfz26_2
                  try clear hfz26_3
                  try clear hfz26_4
                  try clear hfz31_0
                  try clear hfz31_1
                  try clear hfz31_2
                  try clear hfz31_3
                  try clear hfz31_4
                  try clear hfz39_0
                  try clear hfz39_1
                  try clear hfz39_2
                  try clear hfz39_3
                  try clear hfz39_4
                  try clear hfz42_0
                  try clear hfz42_1
                  try clear hfz42_2
                  try clear hfz42_3
                  try clear hfz42_4
                  try clear hx281_0
                  try clear hx281_1
                  try clear hx281_2
                  try clear hx281_3
                  try clear hx281_4
                  try clear hx284_0
                  try clear hx284_1
                  try clear hx284_2
                  try clear hx284_3
                  try clear hx284_4
                  try clear hx285_0
                  try clear hx285_1
                  try clear hx285_2
                  try clear hx285_3
                  try clear hx285_4
                  try clear p2
                  try clear p28
                  try clear p281
                  try clear p284
                  try clear p285
                  try clear p6
                  try clear q2
                  try clear q28
                  try clear q281
                  try clear q284
                  try clear q285
                  obtain ⟨x52_4,x288000_4,x288001_4,x288002_4,x288003_4,x288004_4,rfl,HA,HK4,BK286,BK287,HB⟩:=hrel
                  cases gk with
                  |zero=>exact absurd HA.out (by simp [impl_areSpaces.l2])
                  |succ k4=>
                   have H:=HA.out;clear HA;simp only [impl_areSpaces.l2] at H;by_cases c43:x52_4 < (l0.length:Int)
                   · rw [if_pos c43] at H
                     have c43b0:decide (x52_4 < (l0.length:Int)) = true:=decide_eq_true c43;clear c43;replace H:=Option.bind_eq_some_iff.mp H;obtain ⟨t288,A440,H⟩:=H;(try dsimp only at H);have A44:=As0.mk A440;clear A440;by_cases c45:t288 ≥ 0
                     · rw [if_pos c45] at H
                       have c45b0:decide (0 ≤ t288) = true:=decide_eq_true c45;clear c45;by_cases c46:0 ≤ t288
                       · rw [if_pos c46] at H
                         have c46b0:decide (0 ≤ t288) = true:=decide_eq_true c46;clear c46;by_cases c47:t288 < (l0.length:Int)
                         · rw [if_pos c47] at H
                           have c47b0:decide (t288 < (l0.length:Int)) = true:=decide_eq_true c47;clear c47;have H':=As0.mk H;clear H;have hnb48:=NB287_286.out;have hnc48:=NB286_287.out;obtain ⟨hcz49_0,hcz49_1,hcz49_2,hcz49_3,hcz49_4⟩:=qc5 BK287.out;obtain ⟨hfz49_0,hfz49_1,hfz49_2,hfz49_3,hfz49_4⟩:=qz5 BK287.out
                           go_wp2_with (first|((with_reducible refine gca (f:=47) rfl ?_);refine gL (some 57) Tryd.func47 #[.slice (some ad285) l0.length c0,.string x288001_4] ?_;(with_reducible refine (impl_findSpace.calls _ _ l0 x288001_4 t288 _ ?side1 ?side2 A44.out).mono ?_);(case side1=>repeat (first|exact (Kd.C_below HR0.out HB.out)|(with_reducible first|refine Kd.C_alloc ?_ _|refine Kd.C_drewN ?_ _|refine Kd.C_drew ?_)));(case side2=>exact HC0.out);rintro e w50 ⟨rfl,hb⟩;refine ⟨_,rfl,?_⟩;replace BK286:=As0.mk (bb hb BK286.out);replace BK287:=As0.mk (bb hb BK287.out);replace HB:=As0.mk (bsp (by repeat (first|(with_reducible first|exact HB.out|apply bal|apply pbN|apply bd1|refine bst ?_ GE286.out|refine bst ?_ GE287.out)|exact HB.out)) hb);clear hb;have p289:0 ≤ (t288:Int):=odt;have q289:t288 < (l0.length:Int):=odt;obtain ⟨ad289,e289,hx289_0,hx289_1,hx289_2,hx289_3,hx289_4⟩:=at_T47 HR0.out t288 p289 q289;obtain rfl:ad285 = ad289:=(by injection e289);replace hx289_0:=bx HB.out rfl hx289_0;replace hx289_1:=bx HB.out rfl hx289_1;replace hx289_2:=bx HB.out rfl hx289_2;replace hx289_3:=bx HB.out rfl hx289_3;replace hx289_4:=bx HB.out rfl hx289_4;replace p289:=eq_true p289;replace q289:=eq_true q289;obtain ⟨hcz51_0,hcz51_1,hcz51_2,hcz51_3,hcz51_4⟩:=qc5 BK287.out;obtain ⟨hfz51_0,hfz51_1,hfz51_2,hfz51_3,hfz51_4⟩:=qz5 BK287.out))
                           show _;go_roundg k4
                           case measure=>have:=HJ1.out;have:=HK2.out;have:=HK3.out;have:=HK4.out;omega
                           case rel=>exact ⟨(wrap64 (x52_4 + 1)),((riS37 l0 t288).f0),((riS37 l0 t288).f1),((riS37 l0 t288).f2),((riS37 l0 t288).f3),((riS37 l0 t288).f4),(by first|rfl|(simp;done)|(simp [*];done)),H',⟨by have:=HJ1.out;have:=HK2.out;have:=HK3.out;have:=HK4.out;omega⟩,⟨by (with_reducible repeat (first|refine bkN ?_ _|refine bkD ?_|refine bkA ?_ _));refine blk_far ?_ NB286_287.out _;(with_reducible repeat (first|refine bkN ?_ _|refine bkD ?_|refine bkA ?_ _));refine blk_far ?_ NB286_287.out _;(with_reducible repeat (first|refine bkN ?_ _|refine bkD ?_|refine bkA ?_ _));refine blk_far ?_ NB286_287.out _;(with_reducible repeat (first|refine bkN ?_ _|refine bkD ?_|refine bkA ?_ _));refine blk_far ?_ NB286_287.out _;(with_reducible repeat (first|refine bkN ?_ _|refine bkD ?_|refine bkA ?_ _));refine blk_far ?_ NB286_287.out _;(with_reducible repeat (first|refine bkN ?_ _|refine bkD ?_|refine bkA ?_ _));exact BK286.out⟩,⟨by (with_reducible repeat (first|refine bkN ?_ _|refine bkD ?_|refine bkA ?_ _));refine blk_put (cs:=#[.string ((riS37 l0 t288).f0),.string ((riS37 l0 t288).f1),.int .i64 ((riS37 l0 t288).f2),.bool ((riS37 l0 t288).f3),.int .i64 x288004_4]) ?_ 4 _ rfl;(with_reducible repeat (first|refine bkN ?_ _|refine bkD ?_|refine bkA ?_ _));refine blk_put (cs:=#[.string ((riS37 l0 t288).f0),.string ((riS37 l0 t288).f1),.int .i64 ((riS37 l0 t288).f2),.bool x288003_4,.int .i64 x288004_4]) ?_ 3 _ rfl;(with_reducible repeat (first|refine bkN ?_ _|refine bkD ?_|refine bkA ?_ _));refine blk_put (cs:=#[.string ((riS37 l0 t288).f0),.string ((riS37 l0 t288).f1),.int .i64 x288002_4,.bool x288003_4,.int .i64 x288004_4]) ?_ 2 _ rfl;(with_reducible repeat (first|refine bkN ?_ _|refine bkD ?_|refine bkA ?_ _));refine blk_put (cs:=#[.string ((riS37 l0 t288).f0),.string x288001_4,.int .i64 x288002_4,.bool x288003_4,.int .i64 x288004_4]) ?_ 1 _ rfl;(with_reducible repeat (first|refine bkN ?_ _|refine bkD ?_|refine bkA ?_ _));refine blk_put (cs:=#[.string x288000_4,.string x288001_4,.int .i64 x288002_4,.bool x288003_4,.int .i64 x288004_4]) ?_ 0 _ rfl;(with_reducible repeat (first|refine bkN ?_ _|refine bkD ?_|refine bkA ?_ _));exact BK287.out⟩,⟨by repeat (first|(with_reducible first|exact HB.out|apply bal|apply pbN|apply bd1|refine bst ?_ GE286.out|refine bst ?_ GE287.out)|exact HB.out)⟩⟩
                         · rw [if_neg c47] at H
                           exact absurd H (by simp)
                       · rw [if_neg c46] at H
                         exact absurd H (by simp)
                     · rw [if_neg c45] at H
                       have c45b0:decide (0 ≤ t288) = false:=decide_eq_false c45;clear c45;have H':=As0.mk H;clear H;have hnb52:=NB287_286.out;have hnc52:=NB286_287.out;obtain ⟨hcz53_0,hcz53_1,hcz53_2,hcz53_3,hcz53_4⟩:=qc5 BK287.out;obtain ⟨hfz53_0,hfz53_1,hfz53_2,hfz53_3,hfz53_4⟩:=qz5 BK287.out
                       go_wp2_with (first|((with_reducible refine gca (f:=47) rfl ?_);refine gL (some 57) Tryd.func47 #[.slice (some ad285) l0.length c0,.string x288001_4] ?_;(with_reducible refine (impl_findSpace.calls _ _ l0 x288001_4 t288 _ ?side1 ?side2 A44.out).mono ?_);(case side1=>repeat (first|exact (Kd.C_below HR0.out HB.out)|(with_reducible first|refine Kd.C_alloc ?_ _|refine Kd.C_drewN ?_ _|refine Kd.C_drew ?_)));(case side2=>exact HC0.out);rintro e w54 ⟨rfl,hb⟩;refine ⟨_,rfl,?_⟩;replace BK286:=As0.mk (bb hb BK286.out);replace BK287:=As0.mk (bb hb BK287.out);replace HB:=As0.mk (bsp (by repeat (first|(with_reducible first|exact HB.out|apply bal|apply pbN|apply bd1|refine bst ?_ GE286.out|refine bst ?_ GE287.out)|exact HB.out)) hb);clear hb))
                       show _;go_roundg k4
                       case measure=>have:=HJ1.out;have:=HK2.out;have:=HK3.out;have:=HK4.out;omega
                       case rel=>exact ⟨(wrap64 (x52_4 + 1)),(x288000_4),(x288001_4),(x288002_4),(x288003_4),(x288004_4),(by first|rfl|(simp;done)|(simp [*];done)),H',⟨by have:=HJ1.out;have:=HK2.out;have:=HK3.out;have:=HK4.out;omega⟩,⟨by (with_reducible repeat (first|refine bkN ?_ _|refine bkD ?_|refine bkA ?_ _));exact BK286.out⟩,⟨by (with_reducible repeat (first|refine bkN ?_ _|refine bkD ?_|refine bkA ?_ _));exact BK287.out⟩,⟨by repeat (first|(with_reducible first|exact HB.out|apply bal|apply pbN|apply bd1|refine bst ?_ GE286.out|refine bst ?_ GE287.out)|exact HB.out)⟩⟩
                   · rw [if_neg c43] at H
                     have c43b0:decide (x52_4 < (l0.length:Int)) = false:=decide_eq_false c43;clear c43;by_cases c55:x288000_4.toList = ([97,108,108]:List UInt8)
                     · rw [if_pos c55] at H
                       have c55b0:(x288000_4.toList == ([97,108,108]:List UInt8)) = true:=beq_iff_eq.mpr c55;have c55b1:(x288000_4.toList != ([97,108,108]:List UInt8)) = false:=bne_eq_false_iff_eq.mpr c55;clear c55;have H':=As0.mk H;clear H;have hnb56:=NB287_286.out;have hnc56:=NB286_287.out;obtain ⟨hcz57_0,hcz57_1,hcz57_2,hcz57_3,hcz57_4⟩:=qc5 BK287.out;obtain ⟨hfz57_0,hfz57_1,hfz57_2,hfz57_3,hfz57_4⟩:=qz5 BK287.out
                       go_wp2
                       show _;go_roundg k4
                       case measure=>have:=HJ1.out;have:=HK2.out;have:=HK3.out;have:=HK4.out;omega
                       case rel=>exact ⟨(wrap64 (x45_3 + 1)),(by first|rfl|(simp;done)|(simp [*];done)),H',⟨by have:=HJ1.out;have:=HK2.out;have:=HK3.out;have:=HK4.out;omega⟩,⟨by repeat (first|(with_reducible first|exact HB.out|apply bal|apply pbN|apply bd1|refine bst ?_ GE286.out|refine bst ?_ GE287.out)|exact HB.out)⟩⟩
                     · rw [if_neg c55] at H
                       have c55b0:(x288000_4.toList == ([97,108,108]:List UInt8)) = false:=beq_eq_false_iff_ne.mpr c55;have c55b1:(x288000_4.toList != ([97,108,108]:List UInt8)) = true:=bne_iff_ne.mpr c55;obtain rfl:=Option.some.inj H;have hnb58:=NB287_286.out;have hnc58:=NB286_287.out;obtain ⟨hcz59_0,hcz59_1,hcz59_2,hcz59_3,hcz59_4⟩:=qc5 BK287.out;obtain ⟨hfz59_0,hfz59_1,hfz59_2,hfz59_3,hfz59_4⟩:=qz5 BK287.out
                       go_wp2
                       go_ret
                       exact ⟨eW,by repeat (first|(with_reducible first|exact HB.out|apply bal|apply pbN|apply bd1|refine bst ?_ GE286.out|refine bst ?_ GE287.out)|exact HB.out)⟩
               · rw [if_neg c37] at H
                 exact absurd H (by simp)
             · rw [if_neg c36] at H
               exact absurd H (by simp)
           · rw [if_neg c35] at H
             have c35b0:decide (x45_3 < (l0.length:Int)) = false:=decide_eq_false c35;clear c35;obtain rfl:=Option.some.inj H
             go_wp2
             go_ret
             exact ⟨eW,by repeat (first|(with_reducible first|exact HB.out|apply bal|apply pbN|apply bd1)|exact HB.out)⟩
end Go.Proofs.YtclgmogfkoinbaaDoor.P
