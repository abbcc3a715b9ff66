/- Functions of the law FnExactReqRead as_ plain Lean functions, and that the machine's calls do what they say. -/
import Derived.Test.YtbhnjglfjhfljaaDoorZFnExactReqRead0
import Derived.Test.YtbhnjglfjhfljaaDoorZFnExactReqRead3
import Derived.Test.YtbhnjglfjhfljaaDoorZFnExactReqRead4
namespace Go.Proofs.YtbhnjglfjhfljaaDoor.P
open Go.RowKit Go.Proofs.YtbhnjglfjhfljaaDoorW.PrintWords Go.Proofs.YtbhnjglfjhfljaaDoorW.PrintLast Go.Proofs.YtbhnjglfjhfljaaDoorW.PrintMore
attribute [local go_sem] max2_int min2_int max_two min_two max_three min_three max_four min_four   -- for this text's walks alone
set_option linter.unusedVariables false
set_option linter.unusedSimpArgs false
mutual
def spec_l3Num.j0 : Nat → ByteArray → Bool → Option (Int)
  | 0, _, _ => none
  | k + 1, x0, x18 => if x18 = true then (some (-1)) else (spec_l3Num.l0 k x0 0 0)
def spec_l3Num.l0 : Nat → ByteArray → Int → Int → Option (Int)
  | 0, _, _, _ => none
  | k + 1, x0, x3, x4 => if x4 < (x0.size : Int) then (if 0 ≤ x4 then (if (bt x0 x4) < 48 then (some (-1)) else (if (bt x0 x4) > 57 then (some (-1)) else (spec_l3Num.l0 k x0 (wrap64 ((wrap64 (x3 * 10)) + (((bt x0 x4) - 48) % 256))) (wrap64 (x4 + 1))))) else (none)) else (some x3)
end
def spec_l3Num.f (k : Nat) (a0 : ByteArray) : Option (Int) := (spec_l1In.f (a0.size : Int) 1 8).bind fun t363 => (if t363 = true then (if (a0.size : Int) > 1 then (if 0 < (a0.size : Int) then (spec_l3Num.j0 k a0 ((bt a0 0) == 48)) else (none)) else (spec_l3Num.j0 k a0 false)) else (spec_l3Num.j0 k a0 true))
set_option maxHeartbeats 8000000 in
set_option maxRecDepth 100000 in
theorem spec_l3Num.calls (k : Nat) (a0 : ByteArray) (r : Int) (w : World) (h : spec_l3Num.f k a0 = some r) :
    Calls Tryd.prog 37 #[.string a0] w fun e w' => e = .returned (.int .i64 r) ∧ Drawn0 w w' := by
  have H : ((spec_l1In.f (a0.size : Int) 1 8).bind fun t363 => (if t363 = true then (if (a0.size : Int) > 1 then (if 0 < (a0.size : Int) then (spec_l3Num.j0 k a0 ((bt a0 0) == 48)) else (none)) else (spec_l3Num.j0 k a0 false)) else (spec_l3Num.j0 k a0 true))) = some r := h; clear h; have HC2 := Aside0.mk H; clear H
  go_enter Tryd.func37, Tryd.ntmps37
  go_upto_region 1 with (fail)
  go_cut [18] (fun v18 wc => ∃ (kq : Nat) (x18_1 : Bool), v18 = .bool x18_1 ∧ Aside0 (spec_l3Num.j0 kq a0 x18_1 = some r) ∧ Aside0 (kq ≤ k) ∧ Drawn0 w wc)
  case first =>
    have H := HC2.out; clear HC2; replace H := Option.bind_eq_some_iff.mp H; obtain ⟨t363, A30, H⟩ := H; replace H : (if t363 = true then (if (a0.size : Int) > 1 then (if 0 < (a0.size : Int) then (spec_l3Num.j0 k a0 ((bt a0 0) == 48)) else (none)) else (spec_l3Num.j0 k a0 false)) else (spec_l3Num.j0 k a0 true)) = some r := H; have A3 := Aside0.mk A30; clear A30; by_cases c4 : t363 = true
    · subst c4
      have H1 : (if (a0.size : Int) > 1 then (if 0 < (a0.size : Int) then (spec_l3Num.j0 k a0 ((bt a0 0) == 48)) else (none)) else (spec_l3Num.j0 k a0 false)) = some r := by rw [if_pos rfl] at H; exact H
      clear H; have H := H1; clear H1; by_cases c5 : (a0.size : Int) > 1
      · rw [if_pos c5] at H
        have c5b0 : decide (1 < (a0.size : Int)) = true := decide_eq_true c5; have c5b1 : decide (1 < a0.size) = true := decide_eq_true (by omega); clear c5
        (first | rw [c5b0] | (simp only [i64_w, i32_w]; rw [c5b0]) | skip)
        by_cases c6 : 0 < (a0.size : Int)
        · rw [if_pos c6] at H
          have c6b0 : decide (0 < (a0.size : Int)) = true := decide_eq_true c6; have c6b1 : decide (0 < a0.size) = true := decide_eq_true (by omega); clear c6; have H' := Aside0.mk H; clear H
          go_wp2_with (first | ((with_reducible refine gate_callee (f := 29) rfl ?_); refine goesL_ (some 7) rfl rfl Tryd.func29 (by kernel_rfl) rfl #[.int .i64 (a0.size : Int), .int .i64 1, .int .i64 8] rfl (by (try simp only [List.map_toArray, List.map_cons, List.map_nil]); first | done | rfl | (simp only [List.length_drop, List.length_take]; rfl)) ?_; (with_reducible refine (spec_l1In.calls (a0.size : Int) 1 8 true _ A3.out).mono ?_); rintro e w' ⟨rfl, ⟨nd, rfl⟩⟩; refine ⟨_, rfl, ?_⟩; have p7 : 0 ≤ (0 : Int) := (by omega); have q7 : 0 < a0.size := (by have : (0 : Int) < (a0.size : Int) := of_decide_eq_true (by first | (with_reducible assumption) | assumption); omega); have hx7 : ∀ h : 0 < a0.size, ((a0[0]'h).toNat : Int) = bt a0 0 := bt_at a0 0; clear p7; have qi7 : (0 < (a0.size : Int)) = True := eq_true (of_decide_eq_true (by first | (with_reducible assumption) | assumption)); replace q7 := eq_true q7))
          go_meet
          case rel => exact ⟨_, (((bt a0 0) == 48)), (by first | rfl | (simp; done) | (simp [*]; done)), H', ⟨by first | omega | exact Nat.le_refl _⟩, by repeat (first | exact Drawn0.refl _ | apply Drawn0.step)⟩
        · rw [if_neg c6] at H
          exact absurd H (by simp)
      · rw [if_neg c5] at H
        have c5b0 : decide (1 < (a0.size : Int)) = false := decide_eq_false c5; have c5b1 : decide (1 < a0.size) = false := decide_eq_false (by omega); clear c5
        (first | rw [c5b0] | (simp only [i64_w, i32_w]; rw [c5b0]) | skip)
        have H' := Aside0.mk H; clear H
        go_wp2_with (first | ((with_reducible refine gate_callee (f := 29) rfl ?_); refine goesL_ (some 7) rfl rfl Tryd.func29 (by kernel_rfl) rfl #[.int .i64 (a0.size : Int), .int .i64 1, .int .i64 8] rfl (by (try simp only [List.map_toArray, List.map_cons, List.map_nil]); first | done | rfl | (simp only [List.length_drop, List.length_take]; rfl)) ?_; (with_reducible refine (spec_l1In.calls (a0.size : Int) 1 8 true _ A3.out).mono ?_); rintro e w' ⟨rfl, ⟨nd, rfl⟩⟩; refine ⟨_, rfl, ?_⟩))
        go_meet
        case rel => exact ⟨_, (false), (by first | rfl | (simp; done) | (simp [*]; done)), H', ⟨by first | omega | exact Nat.le_refl _⟩, by repeat (first | exact Drawn0.refl _ | apply Drawn0.step)⟩
    · replace c4 := Bool.eq_false_iff.mpr c4
      subst c4; have H1 : (spec_l3Num.j0 k a0 true) = some r := by rw [if_neg (show ¬ (false = true) by decide)] at H; exact H
      clear H; have H := H1; clear H1; have H' := Aside0.mk H; clear H
      go_wp2_with (first | ((with_reducible refine gate_callee (f := 29) rfl ?_); refine goesL_ (some 7) rfl rfl Tryd.func29 (by kernel_rfl) rfl #[.int .i64 (a0.size : Int), .int .i64 1, .int .i64 8] rfl (by (try simp only [List.map_toArray, List.map_cons, List.map_nil]); first | done | rfl | (simp only [List.length_drop, List.length_take]; rfl)) ?_; (with_reducible refine (spec_l1In.calls (a0.size : Int) 1 8 false _ A3.out).mono ?_); rintro e w' ⟨rfl, ⟨nd, rfl⟩⟩; refine ⟨_, rfl, ?_⟩))
      go_meet
      case rel => exact ⟨_, (true), (by first | rfl | (simp; done) | (simp [*]; done)), H', ⟨by first | omega | exact Nat.le_refl _⟩, by repeat (first | exact Drawn0.refl _ | apply Drawn0.step)⟩
  case rest =>
    clear HC2
    try clear c2
    try clear p2
    try clear c3
    try clear c4
    try clear c5
    try clear c5b0
    try clear c5b1
    try clear c6
    try clear c6b0
    try clear c6b1
    try clear p7
    try clear q7
    try clear hx7
    try clear qi7
    try clear p7
    try clear q7
    obtain ⟨kq, x18_1, rfl, HA, HJ1, ⟨mc1, rfl⟩⟩ := hcut
    cases kq with
    | zero => exact absurd HA.out (by simp [spec_l3Num.j0])
    | succ kj1 =>
      have H := HA.out; clear HA; simp only [spec_l3Num.j0] at H; by_cases c8 : x18_1 = true
      · subst c8
        have H1 : (some (-1)) = some r := by rw [if_pos rfl] at H; exact H
        clear H; have H := H1; clear H1; obtain rfl := Option.some.inj H
        go_wp2
        go_ret
        exact ⟨by first | rfl | (simp; done) | (simp [*]; done), by repeat (first | exact Drawn0.refl _ | apply Drawn0.step)⟩
      · replace c8 := Bool.eq_false_iff.mpr c8
        subst c8; have H1 : (spec_l3Num.l0 kj1 a0 0 0) = some r := by rw [if_neg (show ¬ (false = true) by decide)] at H; exact H
        clear H; have H := H1; clear H1; have H' := Aside0.mk H; clear H
        go_wp2
        go_loopg [3, 4] kj1 (fun kq v3 v4 w' => ∃ (x3_2 : Int) (x4_2 : Int), v3 = .int .i64 x3_2 ∧ v4 = .int .i64 x4_2 ∧ Aside0 (spec_l3Num.l0 kq a0 x3_2 x4_2 = some r) ∧ Aside0 (kq ≤ kj1) ∧ Drawn0 w w')
        case atStart => exact ⟨(0), (0), (by first | rfl | (simp; done) | (simp [*]; done)), (by first | rfl | (simp; done) | (simp [*]; done)), H', ⟨Nat.le_refl _⟩, by repeat (first | exact Drawn0.refl _ | apply Drawn0.step)⟩
        case round =>
          clear H'
          try clear c1
          try clear c2
          try clear p2
          try clear c3
          try clear c4
          try clear c5
          try clear c5b0
          try clear c5b1
          try clear c6
          try clear c6b0
          try clear c6b1
          try clear p7
          try clear q7
          try clear hx7
          try clear qi7
          try clear c8
          try clear p2
          try clear p7
          try clear q7
          obtain ⟨x3_2, x4_2, rfl, rfl, HA, HK2, ⟨m2, rfl⟩⟩ := hrel
          cases gk with
          | zero => exact absurd HA.out (by simp [spec_l3Num.l0])
          | succ k2 =>
            have H := HA.out; clear HA; simp only [spec_l3Num.l0] at H; by_cases c9 : x4_2 < (a0.size : Int)
            · rw [if_pos c9] at H
              have c9b0 : decide (x4_2 < (a0.size : Int)) = true := decide_eq_true c9; clear c9; by_cases c10 : 0 ≤ x4_2
              · rw [if_pos c10] at H
                have c10b0 : decide (0 ≤ x4_2) = true := decide_eq_true c10; clear c10; by_cases c12 : (bt a0 x4_2) < 48
                · rw [if_pos c12] at H
                  have c12b0 : decide ((bt a0 x4_2) < 48) = true := decide_eq_true c12; clear c12; obtain rfl := Option.some.inj H; have p11 : 0 ≤ (x4_2 : Int) := of_decide_eq_true (by first | (with_reducible assumption) | assumption); have q11 : x4_2 < (a0.size : Int) := of_decide_eq_true (by first | (with_reducible assumption) | assumption); have hx11 := bt_at a0 x4_2; replace p11 := eq_true p11; replace q11 := eq_true q11
                  go_wp2
                  go_ret
                  exact ⟨by first | rfl | (simp; done) | (simp [*]; done), by repeat (first | exact Drawn0.refl _ | apply Drawn0.step)⟩
                · rw [if_neg c12] at H
                  have c12b0 : decide ((bt a0 x4_2) < 48) = false := decide_eq_false c12; clear c12; by_cases c14 : (bt a0 x4_2) > 57
                  · rw [if_pos c14] at H
                    have c14b0 : decide (57 < (bt a0 x4_2)) = true := decide_eq_true c14; clear c14; obtain rfl := Option.some.inj H; have p11 : 0 ≤ (x4_2 : Int) := of_decide_eq_true (by first | (with_reducible assumption) | assumption); have q11 : x4_2 < (a0.size : Int) := of_decide_eq_true (by first | (with_reducible assumption) | assumption); have hx11 := bt_at a0 x4_2; replace p11 := eq_true p11; replace q11 := eq_true q11; have p13 : 0 ≤ (x4_2 : Int) := of_decide_eq_true (by first | (with_reducible assumption) | assumption); have q13 : x4_2 < (a0.size : Int) := of_decide_eq_true (by first | (with_reducible assumption) | assumption); have hx13 := bt_at a0 x4_2; replace p13 := eq_true p13; replace q13 := eq_true q13
                    go_wp2
                    go_ret
                    exact ⟨by first | rfl | (simp; done) | (simp [*]; done), by repeat (first | exact Drawn0.refl _ | apply Drawn0.step)⟩
                  · rw [if_neg c14] at H
                    have c14b0 : decide (57 < (bt a0 x4_2)) = false := decide_eq_false c14; clear c14; have H' := Aside0.mk H; clear H; have p11 : 0 ≤ (x4_2 : Int) := of_decide_eq_true (by first | (with_reducible assumption) | assumption); have q11 : x4_2 < (a0.size : Int) := of_decide_eq_true (by first | (with_reducible assumption) | assumption); have hx11 := bt_at a0 x4_2; replace p11 := eq_true p11; replace q11 := eq_true q11; have p13 : 0 ≤ (x4_2 : Int) := of_decide_eq_true (by first | (with_reducible assumption) | assumption); have q13 : x4_2 < (a0.size : Int) := of_decide_eq_true (by first | (with_reducible assumption) | assumption); have hx13 := bt_at a0 x4_2; replace p13 := eq_true p13; replace q13 := eq_true q13; have p15 : 0 ≤ (x4_2 : Int) := of_decide_eq_true (by first | (with_reducible assumption) | assumption); have q15 : x4_2 < (a0.size : Int) := of_decide_eq_true (by first | (with_reducible assumption) | assumption); have hx15 := bt_at a0 x4_2; replace p15 := eq_true p15; replace q15 := eq_true q15
                    go_wp2
                    go_roundg k2
                    case measure => have := HJ1.out; have := HK2.out; omega
                    case rel => exact ⟨(wrap64 ((wrap64 (x3_2 * 10)) + (((bt a0 x4_2) - 48) % 256))), (wrap64 (x4_2 + 1)), (by first | rfl | (simp; done) | (simp [*]; done)), (by first | rfl | (simp; done) | (simp [*]; done)), H', ⟨by have := HJ1.out; have := HK2.out; omega⟩, by repeat (first | exact Drawn0.refl _ | apply Drawn0.step)⟩
              · rw [if_neg c10] at H
                exact absurd H (by simp)
            · rw [if_neg c9] at H
              have c9b0 : decide (x4_2 < (a0.size : Int)) = false := decide_eq_false c9; clear c9; obtain rfl := Option.some.inj H
              go_wp2
              go_ret
              exact ⟨by first | rfl | (simp; done) | (simp [*]; done), by repeat (first | exact Drawn0.refl _ | apply Drawn0.step)⟩
end Go.Proofs.YtbhnjglfjhfljaaDoor.P
namespace Go.Proofs.YtbhnjglfjhfljaaDoor.P
open Go.RowKit Go.Proofs.YtbhnjglfjhfljaaDoorW.PrintWords Go.Proofs.YtbhnjglfjhfljaaDoorW.PrintLast Go.Proofs.YtbhnjglfjhfljaaDoorW.PrintMore
attribute [local go_sem] max2_int min2_int max_two min_two max_three min_three max_four min_four   -- for this text's walks alone
set_option linter.unusedVariables false
set_option linter.unusedSimpArgs false
def spec_l9Int.f (k : Nat) (a0 : ByteArray) : Option (Int) := if a0.toList = ([45, 49] : List UInt8) then (some (-1)) else ((spec_l3Num.f k a0).bind fun t364 => (if t364 < 0 then (some (-2)) else (some t364)))
set_option maxHeartbeats 8000000 in
set_option maxRecDepth 100000 in
theorem spec_l9Int.calls (k : Nat) (a0 : ByteArray) (r : Int) (w : World) (h : spec_l9Int.f k a0 = some r) :
    Calls Tryd.prog 24 #[.string a0] w fun e w' => e = .returned (.int .i64 r) ∧ Drawn0 w w' := by
  have H : (if a0.toList = ([45, 49] : List UInt8) then (some (-1)) else ((spec_l3Num.f k a0).bind fun t364 => (if t364 < 0 then (some (-2)) else (some t364)))) = some r := h; clear h; by_cases c2 : a0.toList = ([45, 49] : List UInt8)
  · rw [if_pos c2] at H
    have c2b0 : (a0.toList == ([45, 49] : List UInt8)) = true := beq_iff_eq.mpr c2; have c2b1 : (a0.toList != ([45, 49] : List UInt8)) = false := bne_eq_false_iff_eq.mpr c2; clear c2; obtain rfl := Option.some.inj H
    go_enter Tryd.func24, Tryd.ntmps24
    go_wp2
    go_ret
    exact ⟨by first | rfl | (simp; done) | (simp [*]; done), by repeat (first | exact Drawn0.refl _ | apply Drawn0.step)⟩
  · rw [if_neg c2] at H
    have c2b0 : (a0.toList == ([45, 49] : List UInt8)) = false := beq_eq_false_iff_ne.mpr c2; have c2b1 : (a0.toList != ([45, 49] : List UInt8)) = true := bne_iff_ne.mpr c2; replace H := Option.bind_eq_some_iff.mp H; obtain ⟨t364, A30, H⟩ := H; replace H : (if t364 < 0 then (some (-2)) else (some t364)) = some r := H; have A3 := Aside0.mk A30; clear A30; by_cases c4 : t364 < 0
    · rw [if_pos c4] at H
      have c4b0 : decide (t364 < 0) = true := decide_eq_true c4; clear c4; obtain rfl := Option.some.inj H
      go_enter Tryd.func24, Tryd.ntmps24
      go_wp2_with (first | ((with_reducible refine gate_callee (f := 37) rfl ?_); refine goesL_ (some 7) rfl rfl Tryd.func37 (by kernel_rfl) rfl #[.string a0] rfl (by (try simp only [List.map_toArray, List.map_cons, List.map_nil]); first | done | rfl | (simp only [List.length_drop, List.length_take]; rfl)) ?_; (with_reducible refine (spec_l3Num.calls k a0 t364 _ A3.out).mono ?_); rintro e w' ⟨rfl, ⟨nd, rfl⟩⟩; refine ⟨_, rfl, ?_⟩))
      go_ret
      exact ⟨by first | rfl | (simp; done) | (simp [*]; done), by repeat (first | exact Drawn0.refl _ | apply Drawn0.step)⟩
    · rw [if_neg c4] at H
      have c4b0 : decide (t364 < 0) = false := decide_eq_false c4; clear c4; obtain rfl := Option.some.inj H
      go_enter Tryd.func24, Tryd.ntmps24
      go_wp2_with (first | ((with_reducible refine gate_callee (f := 37) rfl ?_); refine goesL_ (some 7) rfl rfl Tryd.func37 (by kernel_rfl) rfl #[.string a0] rfl (by (try simp only [List.map_toArray, List.map_cons, List.map_nil]); first | done | rfl | (simp only [List.length_drop, List.length_take]; rfl)) ?_; (with_reducible refine (spec_l3Num.calls k a0 t364 _ A3.out).mono ?_); rintro e w' ⟨rfl, ⟨nd, rfl⟩⟩; refine ⟨_, rfl, ?_⟩))
      go_ret
      exact ⟨by first | rfl | (simp; done) | (simp [*]; done), by repeat (first | exact Drawn0.refl _ | apply Drawn0.step)⟩
end Go.Proofs.YtbhnjglfjhfljaaDoor.P
namespace Go.Proofs.YtbhnjglfjhfljaaDoor.P
open Go.RowKit Go.Proofs.YtbhnjglfjhfljaaDoorW.PrintWords Go.Proofs.YtbhnjglfjhfljaaDoorW.PrintLast Go.Proofs.YtbhnjglfjhfljaaDoorW.PrintMore
attribute [local go_sem] max2_int min2_int max_two min_two max_three min_three max_four min_four   -- for this text's walks alone
set_option linter.unusedVariables false
set_option linter.unusedSimpArgs false
mutual
def spec_ReqRead.l0 : Nat → ByteArray → ByteArray → Int → Int → ByteArray → ByteArray → Int → ByteArray → Option (Int × ByteArray × ByteArray × Int × ByteArray × Bool)
  | 0, _, _, _, _, _, _, _, _ => none
  | k + 1, x0, x5, x6, x367000, x367001, x367002, x367003, x367004 => if x6 ≤ 12 then ((spec_l9Words.f).bind fun t371 => (if 0 ≤ x6 then (if x6 < (t371.length : Int) then (if (rdOf ByteArray.empty t371 x6).toList = x5.toList then (spec_ReqRead.l0 k x0 x5 (wrap64 (x6 + 1)) x6 x367001 x367002 x367003 x367004) else (spec_ReqRead.l0 k x0 x5 (wrap64 (x6 + 1)) x367000 x367001 x367002 x367003 x367004)) else (none)) else (none))) else ((spec_l9Has.f k x367000).bind fun bt375 => (if bt375.1 = true then (spec_ReqRead.j1 k x0 bt375.1 bt375.2.1 bt375.2.2 (2 + 1) x367000 x367001 x367002 x367003 x367004) else (spec_ReqRead.j1 k x0 bt375.1 bt375.2.1 bt375.2.2 2 x367000 x367001 x367002 x367003 x367004)))
def spec_ReqRead.j1 : Nat → ByteArray → Bool → Bool → Bool → Int → Int → ByteArray → ByteArray → Int → ByteArray → Option (Int × ByteArray × ByteArray × Int × ByteArray × Bool)
  | 0, _, _, _, _, _, _, _, _, _, _ => none
  | k + 1, x0, x7, x8, x9, x10, x367000, x367001, x367002, x367003, x367004 => if x8 = true then (spec_ReqRead.j2 k x0 x7 x8 x9 (wrap64 (x10 + 1)) x367000 x367001 x367002 x367003 x367004) else (spec_ReqRead.j2 k x0 x7 x8 x9 x10 x367000 x367001 x367002 x367003 x367004)
def spec_ReqRead.j2 : Nat → ByteArray → Bool → Bool → Bool → Int → Int → ByteArray → ByteArray → Int → ByteArray → Option (Int × ByteArray × ByteArray × Int × ByteArray × Bool)
  | 0, _, _, _, _, _, _, _, _, _, _ => none
  | k + 1, x0, x7, x8, x9, x10, x367000, x367001, x367002, x367003, x367004 => (spec_l3Cut.f k x0 32).bind fun t378 => (if x367000 = 12 then (spec_ReqRead.j3 k x0 x7 x8 x9 x10 t378 false x367000 x367001 x367002 x367003 x367004) else (spec_ReqRead.j3 k x0 x7 x8 x9 x10 t378 (decide ((t378.length : Int) ≥ x10)) x367000 x367001 x367002 x367003 x367004))
def spec_ReqRead.j3 : Nat → ByteArray → Bool → Bool → Bool → Int → List ByteArray → Bool → Int → ByteArray → ByteArray → Int → ByteArray → Option (Int × ByteArray × ByteArray × Int × ByteArray × Bool)
  | 0, _, _, _, _, _, _, _, _, _, _, _, _ => none
  | k + 1, x0, x7, x8, x9, x10, x11, x57, x367000, x367001, x367002, x367003, x367004 => if x57 = true then (if x9 = true then ((spec_l7Words.f k x0 x10).bind fun bt381 => (if bt381.2.2 = true then (spec_ReqRead.j4 k x0 x7 x8 x9 bt381.1 bt381.2.1 x367000 x367001 x367002 x367003 x367004) else (some (0, (⟨#[]⟩ : ByteArray), (⟨#[]⟩ : ByteArray), 0, (⟨#[]⟩ : ByteArray), false)))) else (spec_ReqRead.j4 k x0 x7 x8 x9 x11 x0 x367000 x367001 x367002 x367003 x367004)) else (if x0.toList = ([] : List UInt8) then (some (0, (⟨#[]⟩ : ByteArray), (⟨#[]⟩ : ByteArray), 0, (⟨#[]⟩ : ByteArray), false)) else ((spec_ReqWrite.f k x367000 x367001 x367002 x367003 x367004).bind fun t392 => (if t392.toList = x0.toList then (some (x367000, x367001, x367002, x367003, x367004, true)) else (some (0, (⟨#[]⟩ : ByteArray), (⟨#[]⟩ : ByteArray), 0, (⟨#[]⟩ : ByteArray), false)))))
def spec_ReqRead.j4 : Nat → ByteArray → Bool → Bool → Bool → List ByteArray → ByteArray → Int → ByteArray → ByteArray → Int → ByteArray → Option (Int × ByteArray × ByteArray × Int × ByteArray × Bool)
  | 0, _, _, _, _, _, _, _, _, _, _, _ => none
  | k + 1, x0, x7, x8, x9, x11, x12, x367000, x367001, x367002, x367003, x367004 => if 1 < (x11.length : Int) then (if x7 = true then (if 2 < (x11.length : Int) then (spec_ReqRead.j5 k x0 x8 x9 x11 x12 (2 + 1) x367000 (rdOf ByteArray.empty x11 1) (rdOf ByteArray.empty x11 2) x367003 x367004) else (none)) else (spec_ReqRead.j5 k x0 x8 x9 x11 x12 2 x367000 (rdOf ByteArray.empty x11 1) x367002 x367003 x367004)) else (none)
def spec_ReqRead.j5 : Nat → ByteArray → Bool → Bool → List ByteArray → ByteArray → Int → Int → ByteArray → ByteArray → Int → ByteArray → Option (Int × ByteArray × ByteArray × Int × ByteArray × Bool)
  | 0, _, _, _, _, _, _, _, _, _, _, _ => none
  | k + 1, x0, x8, x9, x11, x12, x16, x367000, x367001, x367002, x367003, x367004 => if x8 = true then (if 0 ≤ x16 then (if x16 < (x11.length : Int) then ((spec_l9Int.f k (rdOf ByteArray.empty x11 x16)).bind fun t389 => (spec_ReqRead.j6 k x0 x9 x12 x367000 x367001 x367002 t389 x367004)) else (none)) else (none)) else (spec_ReqRead.j6 k x0 x9 x12 x367000 x367001 x367002 x367003 x367004)
def spec_ReqRead.j6 : Nat → ByteArray → Bool → ByteArray → Int → ByteArray → ByteArray → Int → ByteArray → Option (Int × ByteArray × ByteArray × Int × ByteArray × Bool)
  | 0, _, _, _, _, _, _, _, _ => none
  | k + 1, x0, x9, x12, x367000, x367001, x367002, x367003, x367004 => if x9 = true then (if x0.toList = ([] : List UInt8) then (some (0, (⟨#[]⟩ : ByteArray), (⟨#[]⟩ : ByteArray), 0, (⟨#[]⟩ : ByteArray), false)) else ((spec_ReqWrite.f k x367000 x367001 x367002 x367003 x12).bind fun t390 => (if t390.toList = x0.toList then (some (x367000, x367001, x367002, x367003, x12, true)) else (some (0, (⟨#[]⟩ : ByteArray), (⟨#[]⟩ : ByteArray), 0, (⟨#[]⟩ : ByteArray), false))))) else (if x0.toList = ([] : List UInt8) then (some (0, (⟨#[]⟩ : ByteArray), (⟨#[]⟩ : ByteArray), 0, (⟨#[]⟩ : ByteArray), false)) else ((spec_ReqWrite.f k x367000 x367001 x367002 x367003 x367004).bind fun t391 => (if t391.toList = x0.toList then (some (x367000, x367001, x367002, x367003, x367004, true)) else (some (0, (⟨#[]⟩ : ByteArray), (⟨#[]⟩ : ByteArray), 0, (⟨#[]⟩ : ByteArray), false)))))
end
def spec_ReqRead.f (k : Nat) (a0 : ByteArray) : Option (Int × ByteArray × ByteArray × Int × ByteArray × Bool) := (spec_l3Cut.f k a0 32).bind fun t367 => (if 0 < (t367.length : Int) then (spec_ReqRead.l0 k a0 (rdOf ByteArray.empty t367 0) 1 0 (⟨#[]⟩ : ByteArray) (⟨#[]⟩ : ByteArray) 0 (⟨#[]⟩ : ByteArray)) else (none))
set_option maxHeartbeats 8000000 in
set_option maxRecDepth 100000 in
theorem spec_ReqRead.calls (k : Nat) (a0 : ByteArray) (r1 : Int) (r2 : ByteArray) (r3 : ByteArray) (r4 : Int) (r5 : ByteArray) (r6 : Bool) (w : World) (h : spec_ReqRead.f k a0 = some (r1, r2, r3, r4, r5, r6)) :
    Calls Tryd.prog 7 #[.string a0] w fun e w' => e = .returned (.tuple #[.agg #[.int .i64 r1, .string r2, .string r3, .int .i64 r4, .string r5], .bool r6]) ∧ Below w.heap.size w w' := by
  have hu25 := Tryd.underlying25; have HB := Aside0.mk (Below.refl w.heap.size w); have H : ((spec_l3Cut.f k a0 32).bind fun t367 => (if 0 < (t367.length : Int) then (spec_ReqRead.l0 k a0 (rdOf ByteArray.empty t367 0) 1 0 (⟨#[]⟩ : ByteArray) (⟨#[]⟩ : ByteArray) 0 (⟨#[]⟩ : ByteArray)) else (none))) = some (r1, r2, r3, r4, r5, r6) := h; clear h; replace H := Option.bind_eq_some_iff.mp H; obtain ⟨t367, A20, H⟩ := H; replace H : (if 0 < (t367.length : Int) then (spec_ReqRead.l0 k a0 (rdOf ByteArray.empty t367 0) 1 0 (⟨#[]⟩ : ByteArray) (⟨#[]⟩ : ByteArray) 0 (⟨#[]⟩ : ByteArray)) else (none)) = some (r1, r2, r3, r4, r5, r6) := H; have A2 := Aside0.mk A20; clear A20; by_cases c3 : 0 < (t367.length : Int)
  · rw [if_pos c3] at H
    have c3b0 : decide (0 < (t367.length : Int)) = true := decide_eq_true c3; have c3b1 : decide (0 < t367.length) = true := decide_eq_true (by omega); clear c3; have H' := Aside0.mk H; clear H
    go_enter Tryd.func7, Tryd.ntmps7
    go_wp2_with (first | ((with_reducible refine gate_dst (N := 2) rfl ?_); (try (refine gate_guard (by rfl) ?_; dsimp only)); refine box_event ?hg (N := 2) ?hd (cs := #[.int .i64 0, .string (⟨#[]⟩ : ByteArray), .string (⟨#[]⟩ : ByteArray), .int .i64 0, .string (⟨#[]⟩ : ByteArray)]) (t := 25) ?hr ?_; (case hd => rfl); (case hg => rfl); (case hr => first | (go_simp; done) | (go_simp; rfl)); intro gb365 hg w4 hbox hb; have n0_ := Aside0.mk (below_step (by repeat (first | (with_reducible first | exact HB.out | apply below_alloc | apply pw_below_drewN | apply below_drew1) | exact HB.out)) hb); have n1_ := Aside0.mk (hbox); have n2_ := Aside0.mk ((by rw [hg]; exact (below_size (by repeat (first | (with_reducible first | exact HB.out | apply below_alloc | apply pw_below_drewN | apply below_drew1) | exact HB.out))) : w.heap.size ≤ gb365)); have n3_ := Aside0.mk ((by rw [hg]; exact (below_size (by repeat (first | (with_reducible first | exact HB.out | apply below_alloc | apply pw_below_drewN | apply below_drew1) | exact HB.out))) : w.heap.size ≤ gb365)); clear HB; have HB := n0_; have BK365 := n1_; have GW365 := n2_; have GE365 := n3_; clear n0_ n1_ n2_ n3_; clear hb hbox hg) | ((with_reducible refine gate_dst (N := 4) rfl ?_); (try (refine gate_guard (by rfl) ?_; dsimp only)); refine box_event ?hg (N := 4) ?hd (cs := #[.int .i64 0, .string (⟨#[]⟩ : ByteArray), .string (⟨#[]⟩ : ByteArray), .int .i64 0, .string (⟨#[]⟩ : ByteArray)]) (t := 25) ?hr ?_; (case hd => rfl); (case hg => rfl); (case hr => first | (go_simp; done) | (go_simp; rfl)); intro gb366 hg w5 hbox hb; have n0_ := Aside0.mk (blk_below (g := gb365) (o := .cells #[.int .i64 0, .string (⟨#[]⟩ : ByteArray), .string (⟨#[]⟩ : ByteArray), .int .i64 0, .string (⟨#[]⟩ : ByteArray)] 25 (0, 0)) (by (with_reducible repeat (first | refine blk_drewN ?_ _ | refine blk_drew ?_ | refine blk_alloc ?_ _)); exact BK365.out) hb); have n1_ := Aside0.mk (below_step (by repeat (first | (with_reducible first | exact HB.out | apply below_alloc | apply pw_below_drewN | apply below_drew1 | refine below_set ?_ GE365.out) | exact HB.out)) hb); have n2_ := Aside0.mk (hbox); have n3_ := Aside0.mk ((by rw [hg]; exact (below_size (by repeat (first | (with_reducible first | exact HB.out | apply below_alloc | apply pw_below_drewN | apply below_drew1 | refine below_set ?_ GE365.out) | exact HB.out))) : w.heap.size ≤ gb366)); have n4_ := Aside0.mk ((by rw [hg]; exact (below_size (by repeat (first | (with_reducible first | exact HB.out | apply below_alloc | apply pw_below_drewN | apply below_drew1 | refine below_set ?_ GE365.out) | exact HB.out))) : w.heap.size ≤ gb366)); have n5_ := Aside0.mk ((by rw [hg]; exact Nat.ne_of_lt (blk_lt (g := gb365) (o := .cells #[.int .i64 0, .string (⟨#[]⟩ : ByteArray), .string (⟨#[]⟩ : ByteArray), .int .i64 0, .string (⟨#[]⟩ : ByteArray)] 25 (0, 0)) (by (with_reducible repeat (first | refine blk_drewN ?_ _ | refine blk_drew ?_ | refine blk_alloc ?_ _)); exact BK365.out)) : gb365 ≠ gb366)); have n6_ := Aside0.mk ((by rw [hg]; exact Nat.ne_of_gt (blk_lt (g := gb365) (o := .cells #[.int .i64 0, .string (⟨#[]⟩ : ByteArray), .string (⟨#[]⟩ : ByteArray), .int .i64 0, .string (⟨#[]⟩ : ByteArray)] 25 (0, 0)) (by (with_reducible repeat (first | refine blk_drewN ?_ _ | refine blk_drew ?_ | refine blk_alloc ?_ _)); exact BK365.out)) : gb366 ≠ gb365)); clear BK365; clear HB; have BK365 := n0_; have HB := n1_; have BK366 := n2_; have GW366 := n3_; have GE366 := n4_; have NB365_366 := n5_; have NB366_365 := n6_; clear n0_ n1_ n2_ n3_ n4_ n5_ n6_; clear hb hbox hg; have hnb6 := NB366_365.out; have hnc6 := NB365_366.out; have hcz7_0 : w5.cell? ⟨gb366, 0, none⟩ = some (.int .i64 0) := (blk_cell BK366.out 0).trans rfl; have hcz7_1 : w5.cell? ⟨gb366, 1, none⟩ = some (.string (⟨#[]⟩ : ByteArray)) := (blk_cell BK366.out 1).trans rfl; have hcz7_2 : w5.cell? ⟨gb366, 2, none⟩ = some (.string (⟨#[]⟩ : ByteArray)) := (blk_cell BK366.out 2).trans rfl; have hcz7_3 : w5.cell? ⟨gb366, 3, none⟩ = some (.int .i64 0) := (blk_cell BK366.out 3).trans rfl; have hcz7_4 : w5.cell? ⟨gb366, 4, none⟩ = some (.string (⟨#[]⟩ : ByteArray)) := (blk_cell BK366.out 4).trans rfl; have hfz7_0 := blk_frozen BK366.out 0; have hfz7_1 := blk_frozen BK366.out 1; have hfz7_2 := blk_frozen BK366.out 2; have hfz7_3 := blk_frozen BK366.out 3; have hfz7_4 := blk_frozen BK366.out 4) | ((with_reducible refine gate_callee (f := 20) rfl ?_); refine goesL_ (some 19) rfl rfl Tryd.func20 (by kernel_rfl) rfl #[.string a0, .int .u8 32] rfl (by (try simp only [List.map_toArray, List.map_cons, List.map_nil]); first | done | rfl | (simp only [List.length_drop, List.length_take]; rfl)) ?_; (with_reducible refine (spec_l3Cut.calls k a0 32 t367 _ A2.out).mono ?_); rintro e w8 ⟨v368, rfl, ho0, hb⟩; refine ⟨_, rfl, ?_⟩; have n0_ := Aside0.mk (Kd.R_lower ho0 (below_size (by repeat (first | (with_reducible first | exact HB.out | apply below_alloc | apply pw_below_drewN | apply below_drew1 | refine below_set ?_ GE365.out | refine below_set ?_ GE366.out) | exact HB.out)))); have n1_ := Aside0.mk (blk_below (g := gb365) (o := .cells #[.int .i64 0, .string (⟨#[]⟩ : ByteArray), .string (⟨#[]⟩ : ByteArray), .int .i64 0, .string (⟨#[]⟩ : ByteArray)] 25 (0, 0)) (by (with_reducible repeat (first | refine blk_drewN ?_ _ | refine blk_drew ?_ | refine blk_alloc ?_ _)); refine blk_far ?_ NB365_366.out _; (with_reducible repeat (first | refine blk_drewN ?_ _ | refine blk_drew ?_ | refine blk_alloc ?_ _)); refine blk_far ?_ NB365_366.out _; (with_reducible repeat (first | refine blk_drewN ?_ _ | refine blk_drew ?_ | refine blk_alloc ?_ _)); refine blk_far ?_ NB365_366.out _; (with_reducible repeat (first | refine blk_drewN ?_ _ | refine blk_drew ?_ | refine blk_alloc ?_ _)); refine blk_far ?_ NB365_366.out _; (with_reducible repeat (first | refine blk_drewN ?_ _ | refine blk_drew ?_ | refine blk_alloc ?_ _)); refine blk_far ?_ NB365_366.out _; (with_reducible repeat (first | refine blk_drewN ?_ _ | refine blk_drew ?_ | refine blk_alloc ?_ _)); exact BK365.out) hb); have n2_ := Aside0.mk (blk_below (g := gb366) (o := .cells #[.int .i64 0, .string (⟨#[]⟩ : ByteArray), .string (⟨#[]⟩ : ByteArray), .int .i64 0, .string (⟨#[]⟩ : ByteArray)] 25 (0, 0)) (by (with_reducible repeat (first | refine blk_drewN ?_ _ | refine blk_drew ?_ | refine blk_alloc ?_ _)); refine blk_put (cs := #[.int .i64 0, .string (⟨#[]⟩ : ByteArray), .string (⟨#[]⟩ : ByteArray), .int .i64 0, .string (⟨#[]⟩ : ByteArray)]) ?_ 4 _ rfl; (with_reducible repeat (first | refine blk_drewN ?_ _ | refine blk_drew ?_ | refine blk_alloc ?_ _)); refine blk_put (cs := #[.int .i64 0, .string (⟨#[]⟩ : ByteArray), .string (⟨#[]⟩ : ByteArray), .int .i64 0, .string (⟨#[]⟩ : ByteArray)]) ?_ 3 _ rfl; (with_reducible repeat (first | refine blk_drewN ?_ _ | refine blk_drew ?_ | refine blk_alloc ?_ _)); refine blk_put (cs := #[.int .i64 0, .string (⟨#[]⟩ : ByteArray), .string (⟨#[]⟩ : ByteArray), .int .i64 0, .string (⟨#[]⟩ : ByteArray)]) ?_ 2 _ rfl; (with_reducible repeat (first | refine blk_drewN ?_ _ | refine blk_drew ?_ | refine blk_alloc ?_ _)); refine blk_put (cs := #[.int .i64 0, .string (⟨#[]⟩ : ByteArray), .string (⟨#[]⟩ : ByteArray), .int .i64 0, .string (⟨#[]⟩ : ByteArray)]) ?_ 1 _ rfl; (with_reducible repeat (first | refine blk_drewN ?_ _ | refine blk_drew ?_ | refine blk_alloc ?_ _)); refine blk_put (cs := #[.int .i64 0, .string (⟨#[]⟩ : ByteArray), .string (⟨#[]⟩ : ByteArray), .int .i64 0, .string (⟨#[]⟩ : ByteArray)]) ?_ 0 _ rfl; (with_reducible repeat (first | refine blk_drewN ?_ _ | refine blk_drew ?_ | refine blk_alloc ?_ _)); exact BK366.out) hb); have n3_ := Aside0.mk (below_step (by repeat (first | (with_reducible first | exact HB.out | apply below_alloc | apply pw_below_drewN | apply below_drew1 | refine below_set ?_ GE365.out | refine below_set ?_ GE366.out) | exact HB.out)) hb); clear BK365; clear BK366; clear HB; have HO369 := n0_; have BK365 := n1_; have BK366 := n2_; have HB := n3_; clear n0_ n1_ n2_ n3_; (try clear hb); (try clear hb2); (try clear hk); (try clear hi); (try clear ho0); obtain ⟨Ao9, co9, eo9⟩ := Kd.R_slice HO369.out; subst eo9; have p370 : 0 ≤ (0 : Int) := (by omega); have q370 : 0 < (t367.length : Int) := of_decide_eq_true (by first | (with_reducible assumption) | assumption); obtain ⟨ad370, e370, hx370_0⟩ := Kd.at_string (Kd.R_reads' HO369.out).2.2 0 p370 q370; cases e370; have qi370 : (0 < t367.length) = True := eq_true (by omega); (try rw [show ((0 : Int)).toNat = 0 from rfl] at hx370_0); (try rw [Addr.add_zero'] at hx370_0); replace p370 := eq_true p370; replace q370 := eq_true q370))
    go_loopg [6] k (fun kq v6 w' => ∃ (x6_1 : Int) (x367000_1 : Int), v6 = .int .i64 x6_1 ∧ Aside0 (spec_ReqRead.l0 kq a0 (rdOf ByteArray.empty t367 0) x6_1 x367000_1 (⟨#[]⟩ : ByteArray) (⟨#[]⟩ : ByteArray) 0 (⟨#[]⟩ : ByteArray) = some (r1, r2, r3, r4, r5, r6)) ∧ Aside0 (kq ≤ k) ∧ Aside0 (w'.heap[gb365]? = some (.cells #[.int .i64 0, .string (⟨#[]⟩ : ByteArray), .string (⟨#[]⟩ : ByteArray), .int .i64 0, .string (⟨#[]⟩ : ByteArray)] 25 (0, 0))) ∧ Aside0 (w'.heap[gb366]? = some (.cells #[.int .i64 x367000_1, .string (⟨#[]⟩ : ByteArray), .string (⟨#[]⟩ : ByteArray), .int .i64 0, .string (⟨#[]⟩ : ByteArray)] 25 (0, 0))) ∧ Aside0 (Below w.heap.size w w'))
    case atStart => exact ⟨(1), (0), (by first | rfl | (simp; done) | (simp [*]; done)), H', ⟨Nat.le_refl _⟩, ⟨by (with_reducible repeat (first | refine blk_drewN ?_ _ | refine blk_drew ?_ | refine blk_alloc ?_ _)); exact BK365.out⟩, ⟨by (with_reducible repeat (first | refine blk_drewN ?_ _ | refine blk_drew ?_ | refine blk_alloc ?_ _)); exact BK366.out⟩, ⟨by repeat (first | (with_reducible first | exact HB.out | apply below_alloc | apply pw_below_drewN | apply below_drew1 | refine below_set ?_ GE365.out | refine below_set ?_ GE366.out) | exact HB.out)⟩⟩
    case round =>
      clear H'
      try clear c2
      try clear p2
      try clear c3
      try clear c3b0
      try clear c3b1
      try clear p3
      try clear q3
      try clear hx3
      try clear qi3
      try clear c6
      try clear c7
      try clear hcz7_0
      try clear hcz7_1
      try clear hcz7_2
      try clear hcz7_3
      try clear hcz7_4
      try clear hfz7_0
      try clear hfz7_1
      try clear hfz7_2
      try clear hfz7_3
      try clear hfz7_4
      try clear hx370_0
      try clear p370
      try clear q370
      obtain ⟨x6_1, x367000_1, rfl, HA, HK1, BK365, BK366, HB⟩ := hrel
      cases gk with
      | zero => exact absurd HA.out (by simp [spec_ReqRead.l0])
      | succ k1 =>
        have H := HA.out; clear HA; simp only [spec_ReqRead.l0] at H; by_cases c10 : x6_1 ≤ 12
        · rw [if_pos c10] at H
          have c10b0 : decide (x6_1 ≤ 12) = true := decide_eq_true c10; clear c10; replace H := Option.bind_eq_some_iff.mp H; obtain ⟨t371, A110, H⟩ := H; replace H : (if 0 ≤ x6_1 then (if x6_1 < (t371.length : Int) then (if (rdOf ByteArray.empty t371 x6_1).toList = (rdOf ByteArray.empty t367 0).toList then (spec_ReqRead.l0 k1 a0 (rdOf ByteArray.empty t367 0) (wrap64 (x6_1 + 1)) x6_1 (⟨#[]⟩ : ByteArray) (⟨#[]⟩ : ByteArray) 0 (⟨#[]⟩ : ByteArray)) else (spec_ReqRead.l0 k1 a0 (rdOf ByteArray.empty t367 0) (wrap64 (x6_1 + 1)) x367000_1 (⟨#[]⟩ : ByteArray) (⟨#[]⟩ : ByteArray) 0 (⟨#[]⟩ : ByteArray))) else (none)) else (none)) = some (r1, r2, r3, r4, r5, r6) := H; have A11 := Aside0.mk A110; clear A110; by_cases c12 : 0 ≤ x6_1
          · rw [if_pos c12] at H
            have c12b0 : decide (0 ≤ x6_1) = true := decide_eq_true c12; clear c12; by_cases c13 : x6_1 < (t371.length : Int)
            · rw [if_pos c13] at H
              have c13b0 : decide (x6_1 < (t371.length : Int)) = true := decide_eq_true c13; clear c13; by_cases c14 : (rdOf ByteArray.empty t371 x6_1).toList = (rdOf ByteArray.empty t367 0).toList
              · rw [if_pos c14] at H
                have c14b0 : ((rdOf ByteArray.empty t371 x6_1).toList == (rdOf ByteArray.empty t367 0).toList) = true := beq_iff_eq.mpr c14; have c14b1 : ((rdOf ByteArray.empty t371 x6_1).toList != (rdOf ByteArray.empty t367 0).toList) = false := bne_eq_false_iff_eq.mpr c14; clear c14; have H' := Aside0.mk H; clear H
                go_wp2_with (first | ((with_reducible refine gate_callee (f := 21) rfl ?_); refine goesL_ (some 26) rfl rfl Tryd.func21 (by kernel_rfl) rfl #[] rfl (by (try simp only [List.map_toArray, List.map_cons, List.map_nil]); first | done | rfl | (simp only [List.length_drop, List.length_take]; rfl)) ?_; (with_reducible refine (spec_l9Words.calls  t371 _ A11.out).mono ?_); rintro e w15 ⟨v372, rfl, ho0, hb⟩; refine ⟨_, rfl, ?_⟩; have n0_ := Aside0.mk (Kd.R_lower ho0 (below_size (by repeat (first | (with_reducible first | exact HB.out | apply below_alloc | apply pw_below_drewN | apply below_drew1 | refine below_set ?_ GE365.out | refine below_set ?_ GE366.out) | exact HB.out)))); have n1_ := Aside0.mk (blk_below (g := gb365) (o := .cells #[.int .i64 0, .string (⟨#[]⟩ : ByteArray), .string (⟨#[]⟩ : ByteArray), .int .i64 0, .string (⟨#[]⟩ : ByteArray)] 25 (0, 0)) (by (with_reducible repeat (first | refine blk_drewN ?_ _ | refine blk_drew ?_ | refine blk_alloc ?_ _)); exact BK365.out) hb); have n2_ := Aside0.mk (blk_below (g := gb366) (o := .cells #[.int .i64 x367000_1, .string (⟨#[]⟩ : ByteArray), .string (⟨#[]⟩ : ByteArray), .int .i64 0, .string (⟨#[]⟩ : ByteArray)] 25 (0, 0)) (by (with_reducible repeat (first | refine blk_drewN ?_ _ | refine blk_drew ?_ | refine blk_alloc ?_ _)); exact BK366.out) hb); have n3_ := Aside0.mk (below_step (by repeat (first | (with_reducible first | exact HB.out | apply below_alloc | apply pw_below_drewN | apply below_drew1 | refine below_set ?_ GE365.out | refine below_set ?_ GE366.out) | exact HB.out)) hb); clear BK365; clear BK366; clear HB; have HO373 := n0_; have BK365 := n1_; have BK366 := n2_; have HB := n3_; clear n0_ n1_ n2_ n3_; (try clear hb); (try clear hb2); (try clear hk); (try clear hi); (try clear ho0); obtain ⟨Ao16, co16, eo16⟩ := Kd.R_slice HO373.out; subst eo16; have p374 : 0 ≤ (x6_1 : Int) := of_decide_eq_true (by first | (with_reducible assumption) | assumption); have q374 : x6_1 < (t371.length : Int) := of_decide_eq_true (by first | (with_reducible assumption) | assumption); obtain ⟨ad374, e374, hx374_0⟩ := Kd.at_string (Kd.R_reads' HO373.out).2.2 x6_1 p374 q374; cases e374; replace p374 := eq_true p374; replace q374 := eq_true q374; have hnb17 := NB366_365.out; have hnc17 := NB365_366.out; have hcz18_0 : w15.cell? ⟨gb366, 0, none⟩ = some (.int .i64 x367000_1) := (blk_cell BK366.out 0).trans rfl; have hcz18_1 : w15.cell? ⟨gb366, 1, none⟩ = some (.string (⟨#[]⟩ : ByteArray)) := (blk_cell BK366.out 1).trans rfl; have hcz18_2 : w15.cell? ⟨gb366, 2, none⟩ = some (.string (⟨#[]⟩ : ByteArray)) := (blk_cell BK366.out 2).trans rfl; have hcz18_3 : w15.cell? ⟨gb366, 3, none⟩ = some (.int .i64 0) := (blk_cell BK366.out 3).trans rfl; have hcz18_4 : w15.cell? ⟨gb366, 4, none⟩ = some (.string (⟨#[]⟩ : ByteArray)) := (blk_cell BK366.out 4).trans rfl; have hfz18_0 := blk_frozen BK366.out 0; have hfz18_1 := blk_frozen BK366.out 1; have hfz18_2 := blk_frozen BK366.out 2; have hfz18_3 := blk_frozen BK366.out 3; have hfz18_4 := blk_frozen BK366.out 4))
                go_roundg k1
                case measure => have := HK1.out; omega
                case rel => exact ⟨(wrap64 (x6_1 + 1)), (x6_1), (by first | rfl | (simp; done) | (simp [*]; done)), H', ⟨by have := HK1.out; omega⟩, ⟨by (with_reducible repeat (first | refine blk_drewN ?_ _ | refine blk_drew ?_ | refine blk_alloc ?_ _)); refine blk_far ?_ NB365_366.out _; (with_reducible repeat (first | refine blk_drewN ?_ _ | refine blk_drew ?_ | refine blk_alloc ?_ _)); exact BK365.out⟩, ⟨by (with_reducible repeat (first | refine blk_drewN ?_ _ | refine blk_drew ?_ | refine blk_alloc ?_ _)); refine blk_put (cs := #[.int .i64 x367000_1, .string (⟨#[]⟩ : ByteArray), .string (⟨#[]⟩ : ByteArray), .int .i64 0, .string (⟨#[]⟩ : ByteArray)]) ?_ 0 _ rfl; (with_reducible repeat (first | refine blk_drewN ?_ _ | refine blk_drew ?_ | refine blk_alloc ?_ _)); exact BK366.out⟩, ⟨by repeat (first | (with_reducible first | exact HB.out | apply below_alloc | apply pw_below_drewN | apply below_drew1 | refine below_set ?_ GE365.out | refine below_set ?_ GE366.out) | exact HB.out)⟩⟩
              · rw [if_neg c14] at H
                have c14b0 : ((rdOf ByteArray.empty t371 x6_1).toList == (rdOf ByteArray.empty t367 0).toList) = false := beq_eq_false_iff_ne.mpr c14; have c14b1 : ((rdOf ByteArray.empty t371 x6_1).toList != (rdOf ByteArray.empty t367 0).toList) = true := bne_iff_ne.mpr c14; have H' := Aside0.mk H; clear H
                go_wp2_with (first | ((with_reducible refine gate_callee (f := 21) rfl ?_); refine goesL_ (some 26) rfl rfl Tryd.func21 (by kernel_rfl) rfl #[] rfl (by (try simp only [List.map_toArray, List.map_cons, List.map_nil]); first | done | rfl | (simp only [List.length_drop, List.length_take]; rfl)) ?_; (with_reducible refine (spec_l9Words.calls  t371 _ A11.out).mono ?_); rintro e w19 ⟨v372, rfl, ho0, hb⟩; refine ⟨_, rfl, ?_⟩; have n0_ := Aside0.mk (Kd.R_lower ho0 (below_size (by repeat (first | (with_reducible first | exact HB.out | apply below_alloc | apply pw_below_drewN | apply below_drew1 | refine below_set ?_ GE365.out | refine below_set ?_ GE366.out) | exact HB.out)))); have n1_ := Aside0.mk (blk_below (g := gb365) (o := .cells #[.int .i64 0, .string (⟨#[]⟩ : ByteArray), .string (⟨#[]⟩ : ByteArray), .int .i64 0, .string (⟨#[]⟩ : ByteArray)] 25 (0, 0)) (by (with_reducible repeat (first | refine blk_drewN ?_ _ | refine blk_drew ?_ | refine blk_alloc ?_ _)); exact BK365.out) hb); have n2_ := Aside0.mk (blk_below (g := gb366) (o := .cells #[.int .i64 x367000_1, .string (⟨#[]⟩ : ByteArray), .string (⟨#[]⟩ : ByteArray), .int .i64 0, .string (⟨#[]⟩ : ByteArray)] 25 (0, 0)) (by (with_reducible repeat (first | refine blk_drewN ?_ _ | refine blk_drew ?_ | refine blk_alloc ?_ _)); exact BK366.out) hb); have n3_ := Aside0.mk (below_step (by repeat (first | (with_reducible first | exact HB.out | apply below_alloc | apply pw_below_drewN | apply below_drew1 | refine below_set ?_ GE365.out | refine below_set ?_ GE366.out) | exact HB.out)) hb); clear BK365; clear BK366; clear HB; have HO373 := n0_; have BK365 := n1_; have BK366 := n2_; have HB := n3_; clear n0_ n1_ n2_ n3_; (try clear hb); (try clear hb2); (try clear hk); (try clear hi); (try clear ho0); obtain ⟨Ao20, co20, eo20⟩ := Kd.R_slice HO373.out; subst eo20; have p374 : 0 ≤ (x6_1 : Int) := of_decide_eq_true (by first | (with_reducible assumption) | assumption); have q374 : x6_1 < (t371.length : Int) := of_decide_eq_true (by first | (with_reducible assumption) | assumption); obtain ⟨ad374, e374, hx374_0⟩ := Kd.at_string (Kd.R_reads' HO373.out).2.2 x6_1 p374 q374; cases e374; replace p374 := eq_true p374; replace q374 := eq_true q374))
                go_roundg k1
                case measure => have := HK1.out; omega
                case rel => exact ⟨(wrap64 (x6_1 + 1)), (x367000_1), (by first | rfl | (simp; done) | (simp [*]; done)), H', ⟨by have := HK1.out; omega⟩, ⟨by (with_reducible repeat (first | refine blk_drewN ?_ _ | refine blk_drew ?_ | refine blk_alloc ?_ _)); exact BK365.out⟩, ⟨by (with_reducible repeat (first | refine blk_drewN ?_ _ | refine blk_drew ?_ | refine blk_alloc ?_ _)); exact BK366.out⟩, ⟨by repeat (first | (with_reducible first | exact HB.out | apply below_alloc | apply pw_below_drewN | apply below_drew1 | refine below_set ?_ GE365.out | refine below_set ?_ GE366.out) | exact HB.out)⟩⟩
            · rw [if_neg c13] at H
              exact absurd H (by simp)
          · rw [if_neg c12] at H
            exact absurd H (by simp)
        · rw [if_neg c10] at H
          have c10b0 : decide (x6_1 ≤ 12) = false := decide_eq_false c10; clear c10; replace H := Option.bind_eq_some_iff.mp H; obtain ⟨⟨t375, t376, t377⟩, A210, H⟩ := H; replace H : (if t375 = true then (spec_ReqRead.j1 k1 a0 t375 t376 t377 (2 + 1) x367000_1 (⟨#[]⟩ : ByteArray) (⟨#[]⟩ : ByteArray) 0 (⟨#[]⟩ : ByteArray)) else (spec_ReqRead.j1 k1 a0 t375 t376 t377 2 x367000_1 (⟨#[]⟩ : ByteArray) (⟨#[]⟩ : ByteArray) 0 (⟨#[]⟩ : ByteArray))) = some (r1, r2, r3, r4, r5, r6) := H; have A21 := Aside0.mk A210; clear A210; have HC22 := Aside0.mk H; clear H; have hnb23 := NB366_365.out; have hnc23 := NB365_366.out; have hcz24_0 : wr.cell? ⟨gb366, 0, none⟩ = some (.int .i64 x367000_1) := (blk_cell BK366.out 0).trans rfl; have hcz24_1 : wr.cell? ⟨gb366, 1, none⟩ = some (.string (⟨#[]⟩ : ByteArray)) := (blk_cell BK366.out 1).trans rfl; have hcz24_2 : wr.cell? ⟨gb366, 2, none⟩ = some (.string (⟨#[]⟩ : ByteArray)) := (blk_cell BK366.out 2).trans rfl; have hcz24_3 : wr.cell? ⟨gb366, 3, none⟩ = some (.int .i64 0) := (blk_cell BK366.out 3).trans rfl; have hcz24_4 : wr.cell? ⟨gb366, 4, none⟩ = some (.string (⟨#[]⟩ : ByteArray)) := (blk_cell BK366.out 4).trans rfl; have hfz24_0 := blk_frozen BK366.out 0; have hfz24_1 := blk_frozen BK366.out 1; have hfz24_2 := blk_frozen BK366.out 2; have hfz24_3 := blk_frozen BK366.out 3; have hfz24_4 := blk_frozen BK366.out 4
          go_upto_if 41 with (first | ((with_reducible refine gate_callee (f := 22) rfl ?_); refine goesL_ (some 37) rfl rfl Tryd.func22 (by kernel_rfl) rfl #[.int .i64 x367000_1] rfl (by (try simp only [List.map_toArray, List.map_cons, List.map_nil]); first | done | rfl | (simp only [List.length_drop, List.length_take]; rfl)) ?_; (with_reducible refine (spec_l9Has.calls k1 x367000_1 t375 t376 t377 _ A21.out).mono ?_); rintro e w' ⟨rfl, ⟨nd, rfl⟩⟩; refine ⟨_, rfl, ?_⟩))
          (try simp only [Act.put, List.setIfInBounds_toArray, List.set_cons_zero, List.set_cons_succ])
          go_cut [10] (fun v10 wc => ∃ (kq : Nat) (x10_21 : Int), v10 = .int .i64 x10_21 ∧ Aside0 (spec_ReqRead.j1 kq a0 t375 t376 t377 x10_21 x367000_1 (⟨#[]⟩ : ByteArray) (⟨#[]⟩ : ByteArray) 0 (⟨#[]⟩ : ByteArray) = some (r1, r2, r3, r4, r5, r6)) ∧ Aside0 (kq ≤ k1) ∧ Aside0 (wc.heap[gb365]? = some (.cells #[.int .i64 0, .string (⟨#[]⟩ : ByteArray), .string (⟨#[]⟩ : ByteArray), .int .i64 0, .string (⟨#[]⟩ : ByteArray)] 25 (0, 0))) ∧ Aside0 (wc.heap[gb366]? = some (.cells #[.int .i64 x367000_1, .string (⟨#[]⟩ : ByteArray), .string (⟨#[]⟩ : ByteArray), .int .i64 0, .string (⟨#[]⟩ : ByteArray)] 25 (0, 0))) ∧ Aside0 (Below w.heap.size w wc))
          case first =>
            have H := HC22.out; clear HC22; by_cases c25 : t375 = true
            · subst c25
              have H1 : (spec_ReqRead.j1 k1 a0 true t376 t377 (2 + 1) x367000_1 (⟨#[]⟩ : ByteArray) (⟨#[]⟩ : ByteArray) 0 (⟨#[]⟩ : ByteArray)) = some (r1, r2, r3, r4, r5, r6) := by rw [if_pos rfl] at H; exact H
              clear H; have H := H1; clear H1; have H' := Aside0.mk H; clear H
              go_wp2
              go_meet
              case rel => exact ⟨_, (2 + 1), (by first | rfl | (simp; done) | (simp [*]; done)), H', ⟨by have := HK1.out; first | omega | exact Nat.le_refl _⟩, ⟨by (with_reducible repeat (first | refine blk_drewN ?_ _ | refine blk_drew ?_ | refine blk_alloc ?_ _)); exact BK365.out⟩, ⟨by (with_reducible repeat (first | refine blk_drewN ?_ _ | refine blk_drew ?_ | refine blk_alloc ?_ _)); exact BK366.out⟩, ⟨by repeat (first | (with_reducible first | exact HB.out | apply below_alloc | apply pw_below_drewN | apply below_drew1 | refine below_set ?_ GE365.out | refine below_set ?_ GE366.out) | exact HB.out)⟩⟩
            · replace c25 := Bool.eq_false_iff.mpr c25
              subst c25; have H1 : (spec_ReqRead.j1 k1 a0 false t376 t377 2 x367000_1 (⟨#[]⟩ : ByteArray) (⟨#[]⟩ : ByteArray) 0 (⟨#[]⟩ : ByteArray)) = some (r1, r2, r3, r4, r5, r6) := by rw [if_neg (show ¬ (false = true) by decide)] at H; exact H
              clear H; have H := H1; clear H1; have H' := Aside0.mk H; clear H
              go_wp2
              go_meet
              case rel => exact ⟨_, (2), (by first | rfl | (simp; done) | (simp [*]; done)), H', ⟨by have := HK1.out; first | omega | exact Nat.le_refl _⟩, ⟨by (with_reducible repeat (first | refine blk_drewN ?_ _ | refine blk_drew ?_ | refine blk_alloc ?_ _)); exact BK365.out⟩, ⟨by (with_reducible repeat (first | refine blk_drewN ?_ _ | refine blk_drew ?_ | refine blk_alloc ?_ _)); exact BK366.out⟩, ⟨by repeat (first | (with_reducible first | exact HB.out | apply below_alloc | apply pw_below_drewN | apply below_drew1 | refine below_set ?_ GE365.out | refine below_set ?_ GE366.out) | exact HB.out)⟩⟩
          case rest =>
            clear HC22
            try clear c1
            try clear c2
            try clear p2
            try clear c3
            try clear c3b0
            try clear c3b1
            try clear p3
            try clear q3
            try clear hx3
            try clear qi3
            try clear c6
            try clear p6
            try clear c7
            try clear c10
            try clear c10b0
            try clear c12
            try clear c12b0
            try clear c13
            try clear c13b0
            try clear c14
            try clear c14b0
            try clear c14b1
            try clear c17
            try clear c20
            try clear c21
            try clear c22
            try clear c23
            try clear c25
            try clear hcz18_0
            try clear hcz18_1
            try clear hcz18_2
            try clear hcz18_3
            try clear hcz18_4
            try clear hcz24_0
            try clear hcz24_1
            try clear hcz24_2
            try clear hcz24_3
            try clear hcz24_4
            try clear hcz7_0
            try clear hcz7_1
            try clear hcz7_2
            try clear hcz7_3
            try clear hcz7_4
            try clear hfz18_0
            try clear hfz18_1
            try clear hfz18_2
            try clear hfz18_3
            try clear hfz18_4
            try clear hfz24_0
            try clear hfz24_1
            try clear hfz24_2
            try clear hfz24_3
            try clear hfz24_4
            try clear hfz7_0
            try clear hfz7_1
            try clear hfz7_2
            try clear hfz7_3
            try clear hfz7_4
            try clear hx370_0
            try clear hx374_0
            try clear p2
            try clear p3
            try clear p370
            try clear p374
            try clear q3
            try clear q370
            try clear q374
            obtain ⟨kq, x10_21, rfl, HA, HJ21, BK365, BK366, HB⟩ := hcut
            cases kq with
            | zero => exact absurd HA.out (by simp [spec_ReqRead.j1])
            | succ kj21 =>
              have H := HA.out; clear HA; simp only [spec_ReqRead.j1] at H; have HC26 := Aside0.mk H; clear H
              go_upto_if 44 with (fail)
              go_cut [10] (fun v10 wc => ∃ (kq : Nat) (x10_25 : Int), v10 = .int .i64 x10_25 ∧ Aside0 (spec_ReqRead.j2 kq a0 t375 t376 t377 x10_25 x367000_1 (⟨#[]⟩ : ByteArray) (⟨#[]⟩ : ByteArray) 0 (⟨#[]⟩ : ByteArray) = some (r1, r2, r3, r4, r5, r6)) ∧ Aside0 (kq ≤ kj21) ∧ Aside0 (wc.heap[gb365]? = some (.cells #[.int .i64 0, .string (⟨#[]⟩ : ByteArray), .string (⟨#[]⟩ : ByteArray), .int .i64 0, .string (⟨#[]⟩ : ByteArray)] 25 (0, 0))) ∧ Aside0 (wc.heap[gb366]? = some (.cells #[.int .i64 x367000_1, .string (⟨#[]⟩ : ByteArray), .string (⟨#[]⟩ : ByteArray), .int .i64 0, .string (⟨#[]⟩ : ByteArray)] 25 (0, 0))) ∧ Aside0 (Below w.heap.size w wc))
              case first =>
                have H := HC26.out; clear HC26; by_cases c27 : t376 = true
                · subst c27
                  have H1 : (spec_ReqRead.j2 kj21 a0 t375 true t377 (wrap64 (x10_21 + 1)) x367000_1 (⟨#[]⟩ : ByteArray) (⟨#[]⟩ : ByteArray) 0 (⟨#[]⟩ : ByteArray)) = some (r1, r2, r3, r4, r5, r6) := by rw [if_pos rfl] at H; exact H
                  clear H; have H := H1; clear H1; have H' := Aside0.mk H; clear H
                  go_wp2
                  go_meet
                  case rel => exact ⟨_, (wrap64 (x10_21 + 1)), (by first | rfl | (simp; done) | (simp [*]; done)), H', ⟨by have := HK1.out; have := HJ21.out; first | omega | exact Nat.le_refl _⟩, ⟨by (with_reducible repeat (first | refine blk_drewN ?_ _ | refine blk_drew ?_ | refine blk_alloc ?_ _)); exact BK365.out⟩, ⟨by (with_reducible repeat (first | refine blk_drewN ?_ _ | refine blk_drew ?_ | refine blk_alloc ?_ _)); exact BK366.out⟩, ⟨by repeat (first | (with_reducible first | exact HB.out | apply below_alloc | apply pw_below_drewN | apply below_drew1 | refine below_set ?_ GE365.out | refine below_set ?_ GE366.out) | exact HB.out)⟩⟩
                · replace c27 := Bool.eq_false_iff.mpr c27
                  subst c27; have H1 : (spec_ReqRead.j2 kj21 a0 t375 false t377 x10_21 x367000_1 (⟨#[]⟩ : ByteArray) (⟨#[]⟩ : ByteArray) 0 (⟨#[]⟩ : ByteArray)) = some (r1, r2, r3, r4, r5, r6) := by rw [if_neg (show ¬ (false = true) by decide)] at H; exact H
                  clear H; have H := H1; clear H1; have H' := Aside0.mk H; clear H
                  go_wp2
                  go_meet
                  case rel => exact ⟨_, (x10_21), (by first | rfl | (simp; done) | (simp [*]; done)), H', ⟨by have := HK1.out; have := HJ21.out; first | omega | exact Nat.le_refl _⟩, ⟨by (with_reducible repeat (first | refine blk_drewN ?_ _ | refine blk_drew ?_ | refine blk_alloc ?_ _)); exact BK365.out⟩, ⟨by (with_reducible repeat (first | refine blk_drewN ?_ _ | refine blk_drew ?_ | refine blk_alloc ?_ _)); exact BK366.out⟩, ⟨by repeat (first | (with_reducible first | exact HB.out | apply below_alloc | apply pw_below_drewN | apply below_drew1 | refine below_set ?_ GE365.out | refine below_set ?_ GE366.out) | exact HB.out)⟩⟩
              case rest =>
                clear HC26
                try clear c1
                try clear c2
                try clear p2
                try clear c3
                try clear c3b0
                try clear c3b1
                try clear p3
                try clear q3
                try clear hx3
                try clear qi3
                try clear c6
                try clear p6
                try clear c7
                try clear c10
                try clear c10b0
                try clear c12
                try clear c12b0
                try clear c13
                try clear c13b0
                try clear c14
                try clear c14b0
                try clear c14b1
                try clear c17
                try clear c20
                try clear c21
                try clear c22
                try clear c23
                try clear c25
                try clear c27
                try clear hcz18_0
                try clear hcz18_1
                try clear hcz18_2
                try clear hcz18_3
                try clear hcz18_4
                try clear hcz24_0
                try clear hcz24_1
                try clear hcz24_2
                try clear hcz24_3
                try clear hcz24_4
                try clear hcz7_0
                try clear hcz7_1
                try clear hcz7_2
                try clear hcz7_3
                try clear hcz7_4
                try clear hfz18_0
                try clear hfz18_1
                try clear hfz18_2
                try clear hfz18_3
                try clear hfz18_4
                try clear hfz24_0
                try clear hfz24_1
                try clear hfz24_2
                try clear hfz24_3
                try clear hfz24_4
                try clear hfz7_0
                try clear hfz7_1
                try clear hfz7_2
                try clear hfz7_3
                try clear hfz7_4
                try clear hx370_0
                try clear hx374_0
                try clear p2
                try clear p3
                try clear p370
                try clear p374
                try clear p6
                try clear q3
                try clear q370
                try clear q374
                obtain ⟨kq, x10_25, rfl, HA, HJ25, BK365, BK366, HB⟩ := hcut
                cases kq with
                | zero => exact absurd HA.out (by simp [spec_ReqRead.j2])
                | succ kj25 =>
                  have H := HA.out; clear HA; simp only [spec_ReqRead.j2] at H; replace H := Option.bind_eq_some_iff.mp H; obtain ⟨t378, A280, H⟩ := H; replace H : (if x367000_1 = 12 then (spec_ReqRead.j3 kj25 a0 t375 t376 t377 x10_25 t378 false x367000_1 (⟨#[]⟩ : ByteArray) (⟨#[]⟩ : ByteArray) 0 (⟨#[]⟩ : ByteArray)) else (spec_ReqRead.j3 kj25 a0 t375 t376 t377 x10_25 t378 (decide ((t378.length : Int) ≥ x10_25)) x367000_1 (⟨#[]⟩ : ByteArray) (⟨#[]⟩ : ByteArray) 0 (⟨#[]⟩ : ByteArray))) = some (r1, r2, r3, r4, r5, r6) := H; have A28 := Aside0.mk A280; clear A280; have HC29 := Aside0.mk H; clear H
                  go_upto_region 15 with (first | ((with_reducible refine gate_callee (f := 20) rfl ?_); refine goesL_ (some 48) rfl rfl Tryd.func20 (by kernel_rfl) rfl #[.string a0, .int .u8 32] rfl (by (try simp only [List.map_toArray, List.map_cons, List.map_nil]); first | done | rfl | (simp only [List.length_drop, List.length_take]; rfl)) ?_; (with_reducible refine (spec_l3Cut.calls kj25 a0 32 t378 _ A28.out).mono ?_); rintro e w30 ⟨v379, rfl, ho0, hb⟩; refine ⟨_, rfl, ?_⟩; have n0_ := Aside0.mk (Kd.R_lower ho0 (below_size (by repeat (first | (with_reducible first | exact HB.out | apply below_alloc | apply pw_below_drewN | apply below_drew1 | refine below_set ?_ GE365.out | refine below_set ?_ GE366.out) | exact HB.out)))); have n1_ := Aside0.mk (blk_below (g := gb365) (o := .cells #[.int .i64 0, .string (⟨#[]⟩ : ByteArray), .string (⟨#[]⟩ : ByteArray), .int .i64 0, .string (⟨#[]⟩ : ByteArray)] 25 (0, 0)) (by (with_reducible repeat (first | refine blk_drewN ?_ _ | refine blk_drew ?_ | refine blk_alloc ?_ _)); exact BK365.out) hb); have n2_ := Aside0.mk (blk_below (g := gb366) (o := .cells #[.int .i64 x367000_1, .string (⟨#[]⟩ : ByteArray), .string (⟨#[]⟩ : ByteArray), .int .i64 0, .string (⟨#[]⟩ : ByteArray)] 25 (0, 0)) (by (with_reducible repeat (first | refine blk_drewN ?_ _ | refine blk_drew ?_ | refine blk_alloc ?_ _)); exact BK366.out) hb); have n3_ := Aside0.mk (below_step (by repeat (first | (with_reducible first | exact HB.out | apply below_alloc | apply pw_below_drewN | apply below_drew1 | refine below_set ?_ GE365.out | refine below_set ?_ GE366.out) | exact HB.out)) hb); clear BK365; clear BK366; clear HB; have HO380 := n0_; have BK365 := n1_; have BK366 := n2_; have HB := n3_; clear n0_ n1_ n2_ n3_; (try clear hb); (try clear hb2); (try clear hk); (try clear hi); (try clear ho0)))
                  (try simp only [Act.put, List.setIfInBounds_toArray, List.set_cons_zero, List.set_cons_succ])
                  go_cut [57] (fun v57 wc => ∃ (kq : Nat) (x57_28 : Bool), v57 = .bool x57_28 ∧ Aside0 (spec_ReqRead.j3 kq a0 t375 t376 t377 x10_25 t378 x57_28 x367000_1 (⟨#[]⟩ : ByteArray) (⟨#[]⟩ : ByteArray) 0 (⟨#[]⟩ : ByteArray) = some (r1, r2, r3, r4, r5, r6)) ∧ Aside0 (kq ≤ kj25) ∧ Aside0 (Kd.R Kd.string 9 wc w.heap.size (fun _ => True) v379 t378) ∧ Aside0 (wc.heap[gb365]? = some (.cells #[.int .i64 0, .string (⟨#[]⟩ : ByteArray), .string (⟨#[]⟩ : ByteArray), .int .i64 0, .string (⟨#[]⟩ : ByteArray)] 25 (0, 0))) ∧ Aside0 (wc.heap[gb366]? = some (.cells #[.int .i64 x367000_1, .string (⟨#[]⟩ : ByteArray), .string (⟨#[]⟩ : ByteArray), .int .i64 0, .string (⟨#[]⟩ : ByteArray)] 25 (0, 0))) ∧ Aside0 (Below w.heap.size w wc))
                  case first =>
                    have H := HC29.out; clear HC29; by_cases c31 : x367000_1 = 12
                    · rw [if_pos c31] at H
                      have c31b0 : (x367000_1 == 12) = true := beq_iff_eq.mpr c31; have c31b1 : (x367000_1 != 12) = false := bne_eq_false_iff_eq.mpr c31; clear c31
                      (first | rw [c31b0] | (simp only [i64_w, i32_w]; rw [c31b0]) | skip)
                      have H' := Aside0.mk H; clear H; have hnb32 := NB366_365.out; have hnc32 := NB365_366.out; have hcz33_0 : w30.cell? ⟨gb366, 0, none⟩ = some (.int .i64 x367000_1) := (blk_cell BK366.out 0).trans rfl; have hcz33_1 : w30.cell? ⟨gb366, 1, none⟩ = some (.string (⟨#[]⟩ : ByteArray)) := (blk_cell BK366.out 1).trans rfl; have hcz33_2 : w30.cell? ⟨gb366, 2, none⟩ = some (.string (⟨#[]⟩ : ByteArray)) := (blk_cell BK366.out 2).trans rfl; have hcz33_3 : w30.cell? ⟨gb366, 3, none⟩ = some (.int .i64 0) := (blk_cell BK366.out 3).trans rfl; have hcz33_4 : w30.cell? ⟨gb366, 4, none⟩ = some (.string (⟨#[]⟩ : ByteArray)) := (blk_cell BK366.out 4).trans rfl; have hfz33_0 := blk_frozen BK366.out 0; have hfz33_1 := blk_frozen BK366.out 1; have hfz33_2 := blk_frozen BK366.out 2; have hfz33_3 := blk_frozen BK366.out 3; have hfz33_4 := blk_frozen BK366.out 4
                      go_wp2
                      go_meet
                      case rel => exact ⟨_, (false), (by first | rfl | (simp; done) | (simp [*]; done)), H', ⟨by have := HK1.out; have := HJ21.out; have := HJ25.out; first | omega | exact Nat.le_refl _⟩, ⟨by (with_reducible repeat (first | apply Kd.R_alloc | apply Kd.R_drewN | apply Kd.R_drew)); exact HO380.out⟩, ⟨by (with_reducible repeat (first | refine blk_drewN ?_ _ | refine blk_drew ?_ | refine blk_alloc ?_ _)); exact BK365.out⟩, ⟨by (with_reducible repeat (first | refine blk_drewN ?_ _ | refine blk_drew ?_ | refine blk_alloc ?_ _)); exact BK366.out⟩, ⟨by repeat (first | (with_reducible first | exact HB.out | apply below_alloc | apply pw_below_drewN | apply below_drew1 | refine below_set ?_ GE365.out | refine below_set ?_ GE366.out) | exact HB.out)⟩⟩
                    · rw [if_neg c31] at H
                      have c31b0 : (x367000_1 == 12) = false := beq_eq_false_iff_ne.mpr c31; have c31b1 : (x367000_1 != 12) = true := bne_iff_ne.mpr c31
                      (first | rw [c31b0] | (simp only [i64_w, i32_w]; rw [c31b0]) | skip)
                      have H' := Aside0.mk H; clear H; have hnb34 := NB366_365.out; have hnc34 := NB365_366.out; have hcz35_0 : w30.cell? ⟨gb366, 0, none⟩ = some (.int .i64 x367000_1) := (blk_cell BK366.out 0).trans rfl; have hcz35_1 : w30.cell? ⟨gb366, 1, none⟩ = some (.string (⟨#[]⟩ : ByteArray)) := (blk_cell BK366.out 1).trans rfl; have hcz35_2 : w30.cell? ⟨gb366, 2, none⟩ = some (.string (⟨#[]⟩ : ByteArray)) := (blk_cell BK366.out 2).trans rfl; have hcz35_3 : w30.cell? ⟨gb366, 3, none⟩ = some (.int .i64 0) := (blk_cell BK366.out 3).trans rfl; have hcz35_4 : w30.cell? ⟨gb366, 4, none⟩ = some (.string (⟨#[]⟩ : ByteArray)) := (blk_cell BK366.out 4).trans rfl; have hfz35_0 := blk_frozen BK366.out 0; have hfz35_1 := blk_frozen BK366.out 1; have hfz35_2 := blk_frozen BK366.out 2; have hfz35_3 := blk_frozen BK366.out 3; have hfz35_4 := blk_frozen BK366.out 4; obtain ⟨Ao36, co36, eo36⟩ := Kd.R_slice HO380.out; subst eo36
                      go_wp2
                      go_meet
                      case rel => exact ⟨_, (decide ((t378.length : Int) ≥ x10_25)), (by first | rfl | (simp; done) | (simp [*]; done)), H', ⟨by have := HK1.out; have := HJ21.out; have := HJ25.out; first | omega | exact Nat.le_refl _⟩, ⟨by (with_reducible repeat (first | apply Kd.R_alloc | apply Kd.R_drewN | apply Kd.R_drew)); exact HO380.out⟩, ⟨by (with_reducible repeat (first | refine blk_drewN ?_ _ | refine blk_drew ?_ | refine blk_alloc ?_ _)); exact BK365.out⟩, ⟨by (with_reducible repeat (first | refine blk_drewN ?_ _ | refine blk_drew ?_ | refine blk_alloc ?_ _)); exact BK366.out⟩, ⟨by repeat (first | (with_reducible first | exact HB.out | apply below_alloc | apply pw_below_drewN | apply below_drew1 | refine below_set ?_ GE365.out | refine below_set ?_ GE366.out) | exact HB.out)⟩⟩
                  case rest =>
                    clear HC29
                    try clear c1
                    try clear c2
                    try clear p2
                    try clear c3
                    try clear c3b0
                    try clear c3b1
                    try clear p3
                    try clear q3
                    try clear hx3
                    try clear qi3
                    try clear c6
                    try clear p6
                    try clear c7
                    try clear c10
                    try clear c10b0
                    try clear c12
                    try clear c12b0
                    try clear c13
                    try clear c13b0
                    try clear c14
                    try clear c14b0
                    try clear c14b1
                    try clear c17
                    try clear c20
                    try clear c21
                    try clear c22
                    try clear c23
                    try clear c25
                    try clear c27
                    try clear c31
                    try clear c31b0
                    try clear c31b1
                    try clear c32
                    try clear c34
                    try clear hcz18_0
                    try clear hcz18_1
                    try clear hcz18_2
                    try clear hcz18_3
                    try clear hcz18_4
                    try clear hcz24_0
                    try clear hcz24_1
                    try clear hcz24_2
                    try clear hcz24_3
                    try clear hcz24_4
                    try clear hcz33_0
                    try clear hcz33_1
                    try clear hcz33_2
                    try clear hcz33_3
                    try clear hcz33_4
                    try clear hcz35_0
                    try clear hcz35_1
                    try clear hcz35_2
                    try clear hcz35_3
                    try clear hcz35_4
                    try clear hcz7_0
                    try clear hcz7_1
                    try clear hcz7_2
                    try clear hcz7_3
                    try clear hcz7_4
                    try clear hfz18_0
                    try clear hfz18_1
                    try clear hfz18_2
                    try clear hfz18_3
                    try clear hfz18_4
                    try clear hfz24_0
                    try clear hfz24_1
                    try clear hfz24_2
                    try clear hfz24_3
                    try clear hfz24_4
                    try clear hfz33_0
                    try clear hfz33_1
                    try clear hfz33_2
                    try clear hfz33_3
                    try clear hfz33_4
                    try clear hfz35_0
                    try clear hfz35_1
                    try clear hfz35_2
                    try clear hfz35_3
                    try clear hfz35_4
                    try clear hfz7_0
                    try clear hfz7_1
                    try clear hfz7_2
                    try clear hfz7_3
                    try clear hfz7_4
                    try clear hx370_0
                    try clear hx374_0
                    try clear p2
                    try clear p3
                    try clear p370
                    try clear p374
                    try clear p6
                    try clear q3
                    try clear q370
                    try clear q374
                    obtain ⟨kq, x57_28, rfl, HA, HJ28, HO_11, BK365, BK366, HB⟩ := hcut
                    cases kq with
                    | zero => exact absurd HA.out (by simp [spec_ReqRead.j3])
                    | succ kj28 =>
                      have H := HA.out; clear HA; simp only [spec_ReqRead.j3] at H; by_cases c37 : x57_28 = true
                      · subst c37
                        have H1 : (if t377 = true then ((spec_l7Words.f kj28 a0 x10_25).bind fun bt381 => (if bt381.2.2 = true then (spec_ReqRead.j4 kj28 a0 t375 t376 t377 bt381.1 bt381.2.1 x367000_1 (⟨#[]⟩ : ByteArray) (⟨#[]⟩ : ByteArray) 0 (⟨#[]⟩ : ByteArray)) else (some (0, (⟨#[]⟩ : ByteArray), (⟨#[]⟩ : ByteArray), 0, (⟨#[]⟩ : ByteArray), false)))) else (spec_ReqRead.j4 kj28 a0 t375 t376 t377 t378 a0 x367000_1 (⟨#[]⟩ : ByteArray) (⟨#[]⟩ : ByteArray) 0 (⟨#[]⟩ : ByteArray))) = some (r1, r2, r3, r4, r5, r6) := by rw [if_pos rfl] at H; exact H
                        clear H; have H := H1; clear H1; have HC38 := Aside0.mk H; clear H
                        go_upto_if 59 with (fail)
                        go_cut [11, 12] (fun v11 v12 wc => ∃ (kq : Nat) (x11_37 : List ByteArray) (x12_37 : ByteArray) (x366000_37 : Int) (x366001_37 : ByteArray) (x366002_37 : ByteArray) (x366003_37 : Int) (x366004_37 : ByteArray), v12 = .string x12_37 ∧ Aside0 (spec_ReqRead.j4 kq a0 t375 t376 t377 x11_37 x12_37 x367000_1 (⟨#[]⟩ : ByteArray) (⟨#[]⟩ : ByteArray) 0 (⟨#[]⟩ : ByteArray) = some (r1, r2, r3, r4, r5, r6)) ∧ Aside0 (kq ≤ kj28) ∧ Aside0 (Kd.R Kd.string 9 wc w.heap.size (fun _ => True) v11 x11_37) ∧ Aside0 (wc.heap[gb365]? = some (.cells #[.int .i64 x366000_37, .string x366001_37, .string x366002_37, .int .i64 x366003_37, .string x366004_37] 25 (0, 0))) ∧ Aside0 (wc.heap[gb366]? = some (.cells #[.int .i64 x367000_1, .string (⟨#[]⟩ : ByteArray), .string (⟨#[]⟩ : ByteArray), .int .i64 0, .string (⟨#[]⟩ : ByteArray)] 25 (0, 0))) ∧ Aside0 (Below w.heap.size w wc))
                        case first =>
                          have H := HC38.out; clear HC38; by_cases c39 : t377 = true
                          · subst c39
                            have H1 : ((spec_l7Words.f kj28 a0 x10_25).bind fun bt381 => (if bt381.2.2 = true then (spec_ReqRead.j4 kj28 a0 t375 t376 true bt381.1 bt381.2.1 x367000_1 (⟨#[]⟩ : ByteArray) (⟨#[]⟩ : ByteArray) 0 (⟨#[]⟩ : ByteArray)) else (some (0, (⟨#[]⟩ : ByteArray), (⟨#[]⟩ : ByteArray), 0, (⟨#[]⟩ : ByteArray), false)))) = some (r1, r2, r3, r4, r5, r6) := by rw [if_pos rfl] at H; exact H
                            clear H; have H := H1; clear H1; replace H := Option.bind_eq_some_iff.mp H; obtain ⟨⟨t381, t382, t383⟩, A400, H⟩ := H; replace H : (if t383 = true then (spec_ReqRead.j4 kj28 a0 t375 t376 true t381 t382 x367000_1 (⟨#[]⟩ : ByteArray) (⟨#[]⟩ : ByteArray) 0 (⟨#[]⟩ : ByteArray)) else (some (0, (⟨#[]⟩ : ByteArray), (⟨#[]⟩ : ByteArray), 0, (⟨#[]⟩ : ByteArray), false))) = some (r1, r2, r3, r4, r5, r6) := H; have A40 := Aside0.mk A400; clear A400; by_cases c41 : t383 = true
                            · subst c41
                              have H1 : (spec_ReqRead.j4 kj28 a0 t375 t376 true t381 t382 x367000_1 (⟨#[]⟩ : ByteArray) (⟨#[]⟩ : ByteArray) 0 (⟨#[]⟩ : ByteArray)) = some (r1, r2, r3, r4, r5, r6) := by rw [if_pos rfl] at H; exact H
                              clear H; have H := H1; clear H1; have H' := Aside0.mk H; clear H
                              go_wp2_with (first | ((with_reducible refine gate_callee (f := 23) rfl ?_); refine goesL_ (some 63) rfl rfl Tryd.func23 (by kernel_rfl) rfl #[.string a0, .int .i64 x10_25] rfl (by (try simp only [List.map_toArray, List.map_cons, List.map_nil]); first | done | rfl | (simp only [List.length_drop, List.length_take]; rfl)) ?_; (with_reducible refine (spec_l7Words.calls kj28 a0 x10_25 t381 t382 true _ A40.out).mono ?_); rintro e w42 ⟨v384, rfl, ho0, hb⟩; refine ⟨_, rfl, ?_⟩; have n0_ := Aside0.mk (Kd.R_elder' (by (with_reducible repeat (first | apply Kd.R_alloc | apply Kd.R_drewN | apply Kd.R_drew)); exact HO_11.out) (Kd.R_base ho0) hb); have n1_ := Aside0.mk (Kd.R_lower (Kd.R_new' ho0 (Kd.R_lt (by (with_reducible repeat (first | apply Kd.R_alloc | apply Kd.R_drewN | apply Kd.R_drew)); exact HO_11.out))) (below_size (by repeat (first | (with_reducible first | exact HB.out | apply below_alloc | apply pw_below_drewN | apply below_drew1 | refine below_set ?_ GE365.out | refine below_set ?_ GE366.out) | exact HB.out)))); have n2_ := Aside0.mk (blk_below (g := gb365) (o := .cells #[.int .i64 0, .string (⟨#[]⟩ : ByteArray), .string (⟨#[]⟩ : ByteArray), .int .i64 0, .string (⟨#[]⟩ : ByteArray)] 25 (0, 0)) (by (with_reducible repeat (first | refine blk_drewN ?_ _ | refine blk_drew ?_ | refine blk_alloc ?_ _)); exact BK365.out) hb); have n3_ := Aside0.mk (blk_below (g := gb366) (o := .cells #[.int .i64 x367000_1, .string (⟨#[]⟩ : ByteArray), .string (⟨#[]⟩ : ByteArray), .int .i64 0, .string (⟨#[]⟩ : ByteArray)] 25 (0, 0)) (by (with_reducible repeat (first | refine blk_drewN ?_ _ | refine blk_drew ?_ | refine blk_alloc ?_ _)); exact BK366.out) hb); have n4_ := Aside0.mk (below_step (by repeat (first | (with_reducible first | exact HB.out | apply below_alloc | apply pw_below_drewN | apply below_drew1 | refine below_set ?_ GE365.out | refine below_set ?_ GE366.out) | exact HB.out)) hb); clear HO_11; clear BK365; clear BK366; clear HB; have HO_11 := n0_; have HO385 := n1_; have BK365 := n2_; have BK366 := n3_; have HB := n4_; clear n0_ n1_ n2_ n3_ n4_; (try clear hb); (try clear hb2); (try clear hk); (try clear hi); (try clear ho0)))
                              go_meet
                              case rel => exact ⟨_, (t381), (t382), (0), ((⟨#[]⟩ : ByteArray)), ((⟨#[]⟩ : ByteArray)), (0), ((⟨#[]⟩ : ByteArray)), (by first | rfl | (simp; done) | (simp [*]; done)), H', ⟨by have := HK1.out; have := HJ21.out; have := HJ25.out; have := HJ28.out; first | omega | exact Nat.le_refl _⟩, ⟨by (with_reducible repeat (first | apply Kd.R_alloc | apply Kd.R_drewN | apply Kd.R_drew)); exact Kd.R_mono HO385.out (fun _ hk => trivial)⟩, ⟨by (with_reducible repeat (first | refine blk_drewN ?_ _ | refine blk_drew ?_ | refine blk_alloc ?_ _)); exact BK365.out⟩, ⟨by (with_reducible repeat (first | refine blk_drewN ?_ _ | refine blk_drew ?_ | refine blk_alloc ?_ _)); exact BK366.out⟩, ⟨by repeat (first | (with_reducible first | exact HB.out | apply below_alloc | apply pw_below_drewN | apply below_drew1 | refine below_set ?_ GE365.out | refine below_set ?_ GE366.out) | exact HB.out)⟩⟩
                            · replace c41 := Bool.eq_false_iff.mpr c41
                              subst c41; have H1 : (some (0, (⟨#[]⟩ : ByteArray), (⟨#[]⟩ : ByteArray), 0, (⟨#[]⟩ : ByteArray), false)) = some (r1, r2, r3, r4, r5, r6) := by rw [if_neg (show ¬ (false = true) by decide)] at H; exact H
                              clear H; have H := H1; clear H1; simp only [Option.some.injEq, Prod.mk.injEq] at H; obtain ⟨rfl, rfl, rfl, rfl, rfl, rfl⟩ := H
                              go_wp2_with (first | ((with_reducible refine gate_callee (f := 23) rfl ?_); refine goesL_ (some 63) rfl rfl Tryd.func23 (by kernel_rfl) rfl #[.string a0, .int .i64 x10_25] rfl (by (try simp only [List.map_toArray, List.map_cons, List.map_nil]); first | done | rfl | (simp only [List.length_drop, List.length_take]; rfl)) ?_; (with_reducible refine (spec_l7Words.calls kj28 a0 x10_25 t381 t382 false _ A40.out).mono ?_); rintro e w43 ⟨v384, rfl, ho0, hb⟩; refine ⟨_, rfl, ?_⟩; have n0_ := Aside0.mk (Kd.R_elder' (by (with_reducible repeat (first | apply Kd.R_alloc | apply Kd.R_drewN | apply Kd.R_drew)); exact HO_11.out) (Kd.R_base ho0) hb); have n1_ := Aside0.mk (Kd.R_lower (Kd.R_new' ho0 (Kd.R_lt (by (with_reducible repeat (first | apply Kd.R_alloc | apply Kd.R_drewN | apply Kd.R_drew)); exact HO_11.out))) (below_size (by repeat (first | (with_reducible first | exact HB.out | apply below_alloc | apply pw_below_drewN | apply below_drew1 | refine below_set ?_ GE365.out | refine below_set ?_ GE366.out) | exact HB.out)))); have n2_ := Aside0.mk (blk_below (g := gb365) (o := .cells #[.int .i64 0, .string (⟨#[]⟩ : ByteArray), .string (⟨#[]⟩ : ByteArray), .int .i64 0, .string (⟨#[]⟩ : ByteArray)] 25 (0, 0)) (by (with_reducible repeat (first | refine blk_drewN ?_ _ | refine blk_drew ?_ | refine blk_alloc ?_ _)); exact BK365.out) hb); have n3_ := Aside0.mk (blk_below (g := gb366) (o := .cells #[.int .i64 x367000_1, .string (⟨#[]⟩ : ByteArray), .string (⟨#[]⟩ : ByteArray), .int .i64 0, .string (⟨#[]⟩ : ByteArray)] 25 (0, 0)) (by (with_reducible repeat (first | refine blk_drewN ?_ _ | refine blk_drew ?_ | refine blk_alloc ?_ _)); exact BK366.out) hb); have n4_ := Aside0.mk (below_step (by repeat (first | (with_reducible first | exact HB.out | apply below_alloc | apply pw_below_drewN | apply below_drew1 | refine below_set ?_ GE365.out | refine below_set ?_ GE366.out) | exact HB.out)) hb); clear HO_11; clear BK365; clear BK366; clear HB; have HO_11 := n0_; have HO385 := n1_; have BK365 := n2_; have BK366 := n3_; have HB := n4_; clear n0_ n1_ n2_ n3_ n4_; (try clear hb); (try clear hb2); (try clear hk); (try clear hi); (try clear ho0); have hnb44 := NB365_366.out; have hnc44 := NB366_365.out; have hcz45_0 : w43.cell? ⟨gb365, 0, none⟩ = some (.int .i64 0) := (blk_cell BK365.out 0).trans rfl; have hcz45_1 : w43.cell? ⟨gb365, 1, none⟩ = some (.string (⟨#[]⟩ : ByteArray)) := (blk_cell BK365.out 1).trans rfl; have hcz45_2 : w43.cell? ⟨gb365, 2, none⟩ = some (.string (⟨#[]⟩ : ByteArray)) := (blk_cell BK365.out 2).trans rfl; have hcz45_3 : w43.cell? ⟨gb365, 3, none⟩ = some (.int .i64 0) := (blk_cell BK365.out 3).trans rfl; have hcz45_4 : w43.cell? ⟨gb365, 4, none⟩ = some (.string (⟨#[]⟩ : ByteArray)) := (blk_cell BK365.out 4).trans rfl; have hfz45_0 := blk_frozen BK365.out 0; have hfz45_1 := blk_frozen BK365.out 1; have hfz45_2 := blk_frozen BK365.out 2; have hfz45_3 := blk_frozen BK365.out 3; have hfz45_4 := blk_frozen BK365.out 4))
                              refine bodyPost_ret (results_ct rfl _ _ gb365 25 #[.int .i64 0, .string (⟨#[]⟩ : ByteArray), .string (⟨#[]⟩ : ByteArray), .int .i64 0, .string (⟨#[]⟩ : ByteArray)] (0, 0) _ rfl (by (with_reducible repeat (first | refine blk_drewN ?_ _ | refine blk_drew ?_ | refine blk_alloc ?_ _)); refine blk_put (cs := #[.int .i64 0, .string (⟨#[]⟩ : ByteArray), .string (⟨#[]⟩ : ByteArray), .int .i64 0, .string (⟨#[]⟩ : ByteArray)]) ?_ 4 _ rfl; (with_reducible repeat (first | refine blk_drewN ?_ _ | refine blk_drew ?_ | refine blk_alloc ?_ _)); refine blk_put (cs := #[.int .i64 0, .string (⟨#[]⟩ : ByteArray), .string (⟨#[]⟩ : ByteArray), .int .i64 0, .string (⟨#[]⟩ : ByteArray)]) ?_ 3 _ rfl; (with_reducible repeat (first | refine blk_drewN ?_ _ | refine blk_drew ?_ | refine blk_alloc ?_ _)); refine blk_put (cs := #[.int .i64 0, .string (⟨#[]⟩ : ByteArray), .string (⟨#[]⟩ : ByteArray), .int .i64 0, .string (⟨#[]⟩ : ByteArray)]) ?_ 2 _ rfl; (with_reducible repeat (first | refine blk_drewN ?_ _ | refine blk_drew ?_ | refine blk_alloc ?_ _)); refine blk_put (cs := #[.int .i64 0, .string (⟨#[]⟩ : ByteArray), .string (⟨#[]⟩ : ByteArray), .int .i64 0, .string (⟨#[]⟩ : ByteArray)]) ?_ 1 _ rfl; (with_reducible repeat (first | refine blk_drewN ?_ _ | refine blk_drew ?_ | refine blk_alloc ?_ _)); refine blk_put (cs := #[.int .i64 0, .string (⟨#[]⟩ : ByteArray), .string (⟨#[]⟩ : ByteArray), .int .i64 0, .string (⟨#[]⟩ : ByteArray)]) ?_ 0 _ rfl; (with_reducible repeat (first | refine blk_drewN ?_ _ | refine blk_drew ?_ | refine blk_alloc ?_ _)); exact BK365.out) Tryd.underlying25 rfl (by kernel_rfl)) rfl ?_
                              exact ⟨by first | rfl | (simp [errW_none, errW_some] <;> rfl) | (simp [*, errW_none, errW_some] <;> rfl), by repeat (first | (with_reducible first | exact HB.out | apply below_alloc | apply pw_below_drewN | apply below_drew1 | refine below_set ?_ GE365.out | refine below_set ?_ GE366.out) | exact HB.out)⟩
                          · replace c39 := Bool.eq_false_iff.mpr c39
                            subst c39; have H1 : (spec_ReqRead.j4 kj28 a0 t375 t376 false t378 a0 x367000_1 (⟨#[]⟩ : ByteArray) (⟨#[]⟩ : ByteArray) 0 (⟨#[]⟩ : ByteArray)) = some (r1, r2, r3, r4, r5, r6) := by rw [if_neg (show ¬ (false = true) by decide)] at H; exact H
                            clear H; have H := H1; clear H1; have H' := Aside0.mk H; clear H
                            go_wp2
                            go_meet
                            case rel => exact ⟨_, (t378), (a0), (0), ((⟨#[]⟩ : ByteArray)), ((⟨#[]⟩ : ByteArray)), (0), ((⟨#[]⟩ : ByteArray)), (by first | rfl | (simp; done) | (simp [*]; done)), H', ⟨by have := HK1.out; have := HJ21.out; have := HJ25.out; have := HJ28.out; first | omega | exact Nat.le_refl _⟩, ⟨by (with_reducible repeat (first | apply Kd.R_alloc | apply Kd.R_drewN | apply Kd.R_drew)); exact HO_11.out⟩, ⟨by (with_reducible repeat (first | refine blk_drewN ?_ _ | refine blk_drew ?_ | refine blk_alloc ?_ _)); exact BK365.out⟩, ⟨by (with_reducible repeat (first | refine blk_drewN ?_ _ | refine blk_drew ?_ | refine blk_alloc ?_ _)); exact BK366.out⟩, ⟨by repeat (first | (with_reducible first | exact HB.out | apply below_alloc | apply pw_below_drewN | apply below_drew1 | refine below_set ?_ GE365.out | refine below_set ?_ GE366.out) | exact HB.out)⟩⟩
                        case rest =>
                          clear HC38
                          try clear c1
                          try clear c2
                          try clear p2
                          try clear c3
                          try clear c3b0
                          try clear c3b1
                          try clear p3
                          try clear q3
                          try clear hx3
                          try clear qi3
                          try clear c4
                          try clear c6
                          try clear p6
                          try clear c7
                          try clear c10
                          try clear c10b0
                          try clear c12
                          try clear c12b0
                          try clear c13
                          try clear c13b0
                          try clear c14
                          try clear c14b0
                          try clear c14b1
                          try clear c17
                          try clear c20
                          try clear c21
                          try clear c22
                          try clear c23
                          try clear c25
                          try clear c27
                          try clear c31
                          try clear c31b0
                          try clear c31b1
                          try clear c32
                          try clear c34
                          try clear c37
                          try clear p37
                          try clear q37
                          try clear hx37
                          try clear qi37
                          try clear c39
                          try clear c41
                          try clear c44
                          try clear hcz18_0
                          try clear hcz18_1
                          try clear hcz18_2
                          try clear hcz18_3
                          try clear hcz18_4
                          try clear hcz24_0
                          try clear hcz24_1
                          try clear hcz24_2
                          try clear hcz24_3
                          try clear hcz24_4
                          try clear hcz33_0
                          try clear hcz33_1
                          try clear hcz33_2
                          try clear hcz33_3
                          try clear hcz33_4
                          try clear hcz35_0
                          try clear hcz35_1
                          try clear hcz35_2
                          try clear hcz35_3
                          try clear hcz35_4
                          try clear hcz45_0
                          try clear hcz45_1
                          try clear hcz45_2
                          try clear hcz45_3
                          try clear hcz45_4
                          try clear hcz7_0
                          try clear hcz7_1
                          try clear hcz7_2
                          try clear hcz7_3
                          try clear hcz7_4
                          try clear hfz18_0
                          try clear hfz18_1
                          try clear hfz18_2
                          try clear hfz18_3
                          try clear hfz18_4
                          try clear hfz24_0
                          try clear hfz24_1
                          try clear hfz24_2
                          try clear hfz24_3
                          try clear hfz24_4
                          try clear hfz33_0
                          try clear hfz33_1
                          try clear hfz33_2
                          try clear hfz33_3
                          try clear hfz33_4
                          try clear hfz35_0
                          try clear hfz35_1
                          try clear hfz35_2
                          try clear hfz35_3
                          try clear hfz35_4
                          try clear hfz45_0
                          try clear hfz45_1
                          try clear hfz45_2
                          try clear hfz45_3
                          try clear hfz45_4
                          try clear hfz7_0
                          try clear hfz7_1
                          try clear hfz7_2
                          try clear hfz7_3
                          try clear hfz7_4
                          try clear hx370_0
                          try clear hx374_0
                          try clear p2
                          try clear p3
                          try clear p370
                          try clear p374
                          try clear p6
                          try clear q3
                          try clear q370
                          try clear q374
                          obtain ⟨kq, x11_37, x12_37, x366000_37, x366001_37, x366002_37, x366003_37, x366004_37, rfl, HA, HJ37, HO_11, BK365, BK366, HB⟩ := hcut
                          cases kq with
                          | zero => exact absurd HA.out (by simp [spec_ReqRead.j4])
                          | succ kj37 =>
                            have H := HA.out; clear HA; simp only [spec_ReqRead.j4] at H; by_cases c46 : 1 < (x11_37.length : Int)
                            · rw [if_pos c46] at H
                              have c46b0 : decide (1 < (x11_37.length : Int)) = true := decide_eq_true c46; have c46b1 : decide (1 < x11_37.length) = true := decide_eq_true (by omega); clear c46; have HC47 := Aside0.mk H; clear H; obtain ⟨Ao48, co48, eo48⟩ := Kd.R_slice HO_11.out; subst eo48; have p386 : 0 ≤ (1 : Int) := (by omega); have q386 : 1 < (x11_37.length : Int) := of_decide_eq_true (by first | (with_reducible assumption) | assumption); obtain ⟨ad386, e386, hx386_0⟩ := Kd.at_string (Kd.R_reads' HO_11.out).2.2 1 p386 q386
                              cases e386
                              (try simp only [show (1 : Int).toNat = 1 from rfl, Nat.reduceMul, Nat.reduceEqDiff, Go.Addr.add, ↓reduceIte] at hx386_0)
                              have qi386 : (1 < x11_37.length) = True := eq_true (by omega)
                              (try rw [show ((1 : Int)).toNat = 1 from rfl] at hx386_0)
                              replace p386 := eq_true p386; replace q386 := eq_true q386; have hnb49 := NB366_365.out; have hnc49 := NB365_366.out; have hcz50_0 : wc.cell? ⟨gb366, 0, none⟩ = some (.int .i64 x367000_1) := (blk_cell BK366.out 0).trans rfl; have hcz50_1 : wc.cell? ⟨gb366, 1, none⟩ = some (.string (⟨#[]⟩ : ByteArray)) := (blk_cell BK366.out 1).trans rfl; have hcz50_2 : wc.cell? ⟨gb366, 2, none⟩ = some (.string (⟨#[]⟩ : ByteArray)) := (blk_cell BK366.out 2).trans rfl; have hcz50_3 : wc.cell? ⟨gb366, 3, none⟩ = some (.int .i64 0) := (blk_cell BK366.out 3).trans rfl; have hcz50_4 : wc.cell? ⟨gb366, 4, none⟩ = some (.string (⟨#[]⟩ : ByteArray)) := (blk_cell BK366.out 4).trans rfl; have hfz50_0 := blk_frozen BK366.out 0; have hfz50_1 := blk_frozen BK366.out 1; have hfz50_2 := blk_frozen BK366.out 2; have hfz50_3 := blk_frozen BK366.out 3; have hfz50_4 := blk_frozen BK366.out 4
                              go_upto_if 76 with (fail)
                              go_cut [16] (fun v16 wc => ∃ (kq : Nat) (x16_46 : Int) (x367002_46 : ByteArray), v16 = .int .i64 x16_46 ∧ Aside0 (spec_ReqRead.j5 kq a0 t376 t377 x11_37 x12_37 x16_46 x367000_1 (rdOf ByteArray.empty x11_37 1) x367002_46 0 (⟨#[]⟩ : ByteArray) = some (r1, r2, r3, r4, r5, r6)) ∧ Aside0 (kq ≤ kj37) ∧ Aside0 (Kd.R Kd.string 9 wc w.heap.size (fun _ => True) (.slice (some ad386) x11_37.length co48) x11_37) ∧ Aside0 (wc.heap[gb365]? = some (.cells #[.int .i64 x366000_37, .string x366001_37, .string x366002_37, .int .i64 x366003_37, .string x366004_37] 25 (0, 0))) ∧ Aside0 (wc.heap[gb366]? = some (.cells #[.int .i64 x367000_1, .string (rdOf ByteArray.empty x11_37 1), .string x367002_46, .int .i64 0, .string (⟨#[]⟩ : ByteArray)] 25 (0, 0))) ∧ Aside0 (Below w.heap.size w wc))
                              case first =>
                                have H := HC47.out; clear HC47; by_cases c51 : t375 = true
                                · subst c51
                                  have H1 : (if 2 < (x11_37.length : Int) then (spec_ReqRead.j5 kj37 a0 t376 t377 x11_37 x12_37 (2 + 1) x367000_1 (rdOf ByteArray.empty x11_37 1) (rdOf ByteArray.empty x11_37 2) 0 (⟨#[]⟩ : ByteArray)) else (none)) = some (r1, r2, r3, r4, r5, r6) := by rw [if_pos rfl] at H; exact H
                                  clear H; have H := H1; clear H1; by_cases c52 : 2 < (x11_37.length : Int)
                                  · rw [if_pos c52] at H
                                    have c52b0 : decide (2 < (x11_37.length : Int)) = true := decide_eq_true c52; have c52b1 : decide (2 < x11_37.length) = true := decide_eq_true (by omega); clear c52
                                    (first | rw [c52b0] | (simp only [i64_w, i32_w]; rw [c52b0]) | skip)
                                    have H' := Aside0.mk H; clear H; have p387 : 0 ≤ (2 : Int) := (by omega); have q387 : 2 < (x11_37.length : Int) := of_decide_eq_true (by first | (with_reducible assumption) | assumption); obtain ⟨ad387, e387, hx387_0⟩ := Kd.at_string (Kd.R_reads' HO_11.out).2.2 2 p387 q387; obtain rfl : ad386 = ad387 := (by injection e387)
                                    (try simp only [show (2 : Int).toNat = 2 from rfl, Nat.reduceMul, Nat.reduceEqDiff, Go.Addr.add, ↓reduceIte] at hx387_0)
                                    have qi387 : (2 < x11_37.length) = True := eq_true (by omega)
                                    (try rw [show ((2 : Int)).toNat = 2 from rfl] at hx387_0)
                                    have hn387_0 : ad386.block ≠ gb366 := Kd.own_blk (Kd.R_ne HO_11.out BK366.out (by decide)); replace hx387_0 := (cell_far (p := ⟨gb366, 1, none⟩) (by first | (rw [add_block]; exact hn387_0) | (show (Addr.add _ _).block ≠ _; rw [add_block]; exact hn387_0) | exact hn387_0) (.string (rdOf ByteArray.empty x11_37 1))).trans hx387_0; clear hn387_0; replace p387 := eq_true p387; replace q387 := eq_true q387; have hnb53 := NB366_365.out; have hnc53 := NB365_366.out; have hcz54_0 : wc.cell? ⟨gb366, 0, none⟩ = some (.int .i64 x367000_1) := (blk_cell BK366.out 0).trans rfl; have hcz54_1 : wc.cell? ⟨gb366, 1, none⟩ = some (.string (⟨#[]⟩ : ByteArray)) := (blk_cell BK366.out 1).trans rfl; have hcz54_2 : wc.cell? ⟨gb366, 2, none⟩ = some (.string (⟨#[]⟩ : ByteArray)) := (blk_cell BK366.out 2).trans rfl; have hcz54_3 : wc.cell? ⟨gb366, 3, none⟩ = some (.int .i64 0) := (blk_cell BK366.out 3).trans rfl; have hcz54_4 : wc.cell? ⟨gb366, 4, none⟩ = some (.string (⟨#[]⟩ : ByteArray)) := (blk_cell BK366.out 4).trans rfl; have hfz54_0 := blk_frozen BK366.out 0; have hfz54_1 := blk_frozen BK366.out 1; have hfz54_2 := blk_frozen BK366.out 2; have hfz54_3 := blk_frozen BK366.out 3; have hfz54_4 := blk_frozen BK366.out 4
                                    go_wp2
                                    go_meet
                                    case rel => exact ⟨_, (2 + 1), (rdOf ByteArray.empty x11_37 2), (by first | rfl | (simp; done) | (simp [*]; done)), H', ⟨by have := HK1.out; have := HJ21.out; have := HJ25.out; have := HJ28.out; have := HJ37.out; first | omega | exact Nat.le_refl _⟩, ⟨by (with_reducible repeat (first | apply Kd.R_alloc | apply Kd.R_drewN | apply Kd.R_drew)); exact Kd.R_mono (Kd.R_far (p := ⟨gb366, 2, none⟩) (Kd.R_far (p := ⟨gb366, 1, none⟩) (Kd.R_types HO_11.out BK366.out (by decide)) (fun _ hk => hk.2) (.string (rdOf ByteArray.empty x11_37 1))) (fun _ hk => hk.2) (.string (rdOf ByteArray.empty x11_37 2))) (fun _ hk => trivial)⟩, ⟨by (with_reducible repeat (first | refine blk_drewN ?_ _ | refine blk_drew ?_ | refine blk_alloc ?_ _)); refine blk_far ?_ NB365_366.out _; (with_reducible repeat (first | refine blk_drewN ?_ _ | refine blk_drew ?_ | refine blk_alloc ?_ _)); refine blk_far ?_ NB365_366.out _; (with_reducible repeat (first | refine blk_drewN ?_ _ | refine blk_drew ?_ | refine blk_alloc ?_ _)); exact BK365.out⟩, ⟨by (with_reducible repeat (first | refine blk_drewN ?_ _ | refine blk_drew ?_ | refine blk_alloc ?_ _)); refine blk_put (cs := #[.int .i64 x367000_1, .string (rdOf ByteArray.empty x11_37 1), .string (⟨#[]⟩ : ByteArray), .int .i64 0, .string (⟨#[]⟩ : ByteArray)]) ?_ 2 _ rfl; (with_reducible repeat (first | refine blk_drewN ?_ _ | refine blk_drew ?_ | refine blk_alloc ?_ _)); refine blk_put (cs := #[.int .i64 x367000_1, .string (⟨#[]⟩ : ByteArray), .string (⟨#[]⟩ : ByteArray), .int .i64 0, .string (⟨#[]⟩ : ByteArray)]) ?_ 1 _ rfl; (with_reducible repeat (first | refine blk_drewN ?_ _ | refine blk_drew ?_ | refine blk_alloc ?_ _)); exact BK366.out⟩, ⟨by repeat (first | (with_reducible first | exact HB.out | apply below_alloc | apply pw_below_drewN | apply below_drew1 | refine below_set ?_ GE365.out | refine below_set ?_ GE366.out) | exact HB.out)⟩⟩
                                  · rw [if_neg c52] at H
                                    exact absurd H (by simp)
                                · replace c51 := Bool.eq_false_iff.mpr c51
                                  subst c51; have H1 : (spec_ReqRead.j5 kj37 a0 t376 t377 x11_37 x12_37 2 x367000_1 (rdOf ByteArray.empty x11_37 1) (⟨#[]⟩ : ByteArray) 0 (⟨#[]⟩ : ByteArray)) = some (r1, r2, r3, r4, r5, r6) := by rw [if_neg (show ¬ (false = true) by decide)] at H; exact H
                                  clear H; have H := H1; clear H1; have H' := Aside0.mk H; clear H
                                  go_wp2
                                  go_meet
                                  case rel => exact ⟨_, (2), ((⟨#[]⟩ : ByteArray)), (by first | rfl | (simp; done) | (simp [*]; done)), H', ⟨by have := HK1.out; have := HJ21.out; have := HJ25.out; have := HJ28.out; have := HJ37.out; first | omega | exact Nat.le_refl _⟩, ⟨by (with_reducible repeat (first | apply Kd.R_alloc | apply Kd.R_drewN | apply Kd.R_drew)); exact Kd.R_mono (Kd.R_far (p := ⟨gb366, 1, none⟩) (Kd.R_types HO_11.out BK366.out (by decide)) (fun _ hk => hk.2) (.string (rdOf ByteArray.empty x11_37 1))) (fun _ hk => trivial)⟩, ⟨by (with_reducible repeat (first | refine blk_drewN ?_ _ | refine blk_drew ?_ | refine blk_alloc ?_ _)); refine blk_far ?_ NB365_366.out _; (with_reducible repeat (first | refine blk_drewN ?_ _ | refine blk_drew ?_ | refine blk_alloc ?_ _)); exact BK365.out⟩, ⟨by (with_reducible repeat (first | refine blk_drewN ?_ _ | refine blk_drew ?_ | refine blk_alloc ?_ _)); refine blk_put (cs := #[.int .i64 x367000_1, .string (⟨#[]⟩ : ByteArray), .string (⟨#[]⟩ : ByteArray), .int .i64 0, .string (⟨#[]⟩ : ByteArray)]) ?_ 1 _ rfl; (with_reducible repeat (first | refine blk_drewN ?_ _ | refine blk_drew ?_ | refine blk_alloc ?_ _)); exact BK366.out⟩, ⟨by repeat (first | (with_reducible first | exact HB.out | apply below_alloc | apply pw_below_drewN | apply below_drew1 | refine below_set ?_ GE365.out | refine below_set ?_ GE366.out) | exact HB.out)⟩⟩
                              case rest =>
                                clear HC47
                                try clear c1
                                try clear c2
                                try clear p2
                                try clear c3
                                try clear c3b0
                                try clear c3b1
                                try clear p3
                                try clear q3
                                try clear hx3
                                try clear qi3
                                try clear c4
                                try clear c5
                                try clear c6
                                try clear p6
                                try clear c7
                                try clear c10
                                try clear c10b0
                                try clear c12
                                try clear c12b0
                                try clear c13
                                try clear c13b0
                                try clear c14
                                try clear c14b0
                                try clear c14b1
                                try clear c17
                                try clear c20
                                try clear c21
                                try clear c22
                                try clear c23
                                try clear c25
                                try clear c27
                                try clear c31
                                try clear c31b0
                                try clear c31b1
                                try clear c32
                                try clear c34
                                try clear c37
                                try clear p37
                                try clear q37
                                try clear hx37
                                try clear qi37
                                try clear p38
                                try clear q38
                                try clear hx38
                                try clear qi38
                                try clear c39
                                try clear c41
                                try clear c44
                                try clear c46
                                try clear c46b0
                                try clear c46b1
                                try clear c49
                                try clear c51
                                try clear c52
                                try clear c52b0
                                try clear c52b1
                                try clear c53
                                try clear hcz18_0
                                try clear hcz18_1
                                try clear hcz18_2
                                try clear hcz18_3
                                try clear hcz18_4
                                try clear hcz24_0
                                try clear hcz24_1
                                try clear hcz24_2
                                try clear hcz24_3
                                try clear hcz24_4
                                try clear hcz33_0
                                try clear hcz33_1
                                try clear hcz33_2
                                try clear hcz33_3
                                try clear hcz33_4
                                try clear hcz35_0
                                try clear hcz35_1
                                try clear hcz35_2
                                try clear hcz35_3
                                try clear hcz35_4
                                try clear hcz45_0
                                try clear hcz45_1
                                try clear hcz45_2
                                try clear hcz45_3
                                try clear hcz45_4
                                try clear hcz50_0
                                try clear hcz50_1
                                try clear hcz50_2
                                try clear hcz50_3
                                try clear hcz50_4
                                try clear hcz54_0
                                try clear hcz54_1
                                try clear hcz54_2
                                try clear hcz54_3
                                try clear hcz54_4
                                try clear hcz7_0
                                try clear hcz7_1
                                try clear hcz7_2
                                try clear hcz7_3
                                try clear hcz7_4
                                try clear hfz18_0
                                try clear hfz18_1
                                try clear hfz18_2
                                try clear hfz18_3
                                try clear hfz18_4
                                try clear hfz24_0
                                try clear hfz24_1
                                try clear hfz24_2
                                try clear hfz24_3
                                try clear hfz24_4
                                try clear hfz33_0
                                try clear hfz33_1
                                try clear hfz33_2
                                try clear hfz33_3
                                try clear hfz33_4
                                try clear hfz35_0
                                try clear hfz35_1
                                try clear hfz35_2
                                try clear hfz35_3
                                try clear hfz35_4
                                try clear hfz45_0
                                try clear hfz45_1
                                try clear hfz45_2
                                try clear hfz45_3
                                try clear hfz45_4
                                try clear hfz50_0
                                try clear hfz50_1
                                try clear hfz50_2
                                try clear hfz50_3
                                try clear hfz50_4
                                try clear hfz54_0
                                try clear hfz54_1
                                try clear hfz54_2
                                try clear hfz54_3
                                try clear hfz54_4
                                try clear hfz7_0
                                try clear hfz7_1
                                try clear hfz7_2
                                try clear hfz7_3
                                try clear hfz7_4
                                try clear hx370_0
                                try clear hx374_0
                                try clear hx386_0
                                try clear hx387_0
                                try clear p2
                                try clear p3
                                try clear p37
                                try clear p370
                                try clear p374
                                try clear p386
                                try clear p387
                                try clear p6
                                try clear q3
                                try clear q37
                                try clear q370
                                try clear q374
                                try clear q386
                                try clear q387
                                obtain ⟨kq, x16_46, x367002_46, rfl, HA, HJ46, HO_11, BK365, BK366, HB⟩ := hcut
                                cases kq with
                                | zero => exact absurd HA.out (by simp [spec_ReqRead.j5])
                                | succ kj46 =>
                                  have H := HA.out; clear HA; simp only [spec_ReqRead.j5] at H; have HC55 := Aside0.mk H; clear H
                                  go_upto_if 84 with (fail)
                                  go_cut [] (fun wc => ∃ (kq : Nat) (x367003_54 : Int), Aside0 (spec_ReqRead.j6 kq a0 t377 x12_37 x367000_1 (rdOf ByteArray.empty x11_37 1) x367002_46 x367003_54 (⟨#[]⟩ : ByteArray) = some (r1, r2, r3, r4, r5, r6)) ∧ Aside0 (kq ≤ kj46) ∧ Aside0 (wc.heap[gb365]? = some (.cells #[.int .i64 x366000_37, .string x366001_37, .string x366002_37, .int .i64 x366003_37, .string x366004_37] 25 (0, 0))) ∧ Aside0 (wc.heap[gb366]? = some (.cells #[.int .i64 x367000_1, .string (rdOf ByteArray.empty x11_37 1), .string x367002_46, .int .i64 x367003_54, .string (⟨#[]⟩ : ByteArray)] 25 (0, 0))) ∧ Aside0 (Below w.heap.size w wc))
                                  case first =>
                                    have H := HC55.out; clear HC55; by_cases c56 : t376 = true
                                    · subst c56
                                      have H1 : (if 0 ≤ x16_46 then (if x16_46 < (x11_37.length : Int) then ((spec_l9Int.f kj46 (rdOf ByteArray.empty x11_37 x16_46)).bind fun t389 => (spec_ReqRead.j6 kj46 a0 t377 x12_37 x367000_1 (rdOf ByteArray.empty x11_37 1) x367002_46 t389 (⟨#[]⟩ : ByteArray))) else (none)) else (none)) = some (r1, r2, r3, r4, r5, r6) := by rw [if_pos rfl] at H; exact H
                                      clear H; have H := H1; clear H1; by_cases c57 : 0 ≤ x16_46
                                      · rw [if_pos c57] at H
                                        have c57b0 : decide (0 ≤ x16_46) = true := decide_eq_true c57; clear c57
                                        (first | rw [c57b0] | (simp only [i64_w, i32_w]; rw [c57b0]) | skip)
                                        by_cases c58 : x16_46 < (x11_37.length : Int)
                                        · rw [if_pos c58] at H
                                          have c58b0 : decide (x16_46 < (x11_37.length : Int)) = true := decide_eq_true c58; clear c58; replace H := Option.bind_eq_some_iff.mp H; obtain ⟨t389, A590, H⟩ := H; replace H : (spec_ReqRead.j6 kj46 a0 t377 x12_37 x367000_1 (rdOf ByteArray.empty x11_37 1) x367002_46 t389 (⟨#[]⟩ : ByteArray)) = some (r1, r2, r3, r4, r5, r6) := H; have A59 := Aside0.mk A590; clear A590; have H' := Aside0.mk H; clear H; have p388 : 0 ≤ (x16_46 : Int) := of_decide_eq_true (by first | (with_reducible assumption) | assumption); have q388 : x16_46 < (x11_37.length : Int) := of_decide_eq_true (by first | (with_reducible assumption) | assumption); obtain ⟨ad388, e388, hx388_0⟩ := Kd.at_string (Kd.R_reads' HO_11.out).2.2 x16_46 p388 q388; obtain rfl : ad386 = ad388 := (by injection e388); replace p388 := eq_true p388; replace q388 := eq_true q388
                                          go_wp2_with (first | ((with_reducible refine gate_callee (f := 24) rfl ?_); refine goesL_ (some 89) rfl rfl Tryd.func24 (by kernel_rfl) rfl #[.string (rdOf ByteArray.empty x11_37 x16_46)] rfl (by (try simp only [List.map_toArray, List.map_cons, List.map_nil]); first | done | rfl | (simp only [List.length_drop, List.length_take]; rfl)) ?_; (with_reducible refine (spec_l9Int.calls kj46 (rdOf ByteArray.empty x11_37 x16_46) t389 _ A59.out).mono ?_); rintro e w' ⟨rfl, ⟨nd, rfl⟩⟩; refine ⟨_, rfl, ?_⟩; (try (rw [drewN_self wc]; generalize hq_ : World.drewN wc _ = wc; have n0_ : Aside0 (Kd.R Kd.string 9 wc w.heap.size (fun _ => True) (.slice (some ad386) x11_37.length co48) x11_37) := ⟨by rw [← hq_]; exact (by (with_reducible repeat (first | apply Kd.R_alloc | apply Kd.R_drewN | apply Kd.R_drew)); exact HO_11.out)⟩; have n1_ : Aside0 (wc.heap[gb365]? = some (.cells #[.int .i64 x366000_37, .string x366001_37, .string x366002_37, .int .i64 x366003_37, .string x366004_37] 25 (0, 0))) := ⟨by rw [← hq_]; exact (by (with_reducible repeat (first | refine blk_drewN ?_ _ | refine blk_drew ?_ | refine blk_alloc ?_ _)); exact BK365.out)⟩; have n2_ : Aside0 (wc.heap[gb366]? = some (.cells #[.int .i64 x367000_1, .string (rdOf ByteArray.empty x11_37 1), .string x367002_46, .int .i64 0, .string (⟨#[]⟩ : ByteArray)] 25 (0, 0))) := ⟨by rw [← hq_]; exact (by (with_reducible repeat (first | refine blk_drewN ?_ _ | refine blk_drew ?_ | refine blk_alloc ?_ _)); exact BK366.out)⟩; have n3_ : Aside0 (Below w.heap.size w wc) := ⟨by rw [← hq_]; exact (by repeat (first | (with_reducible first | exact HB.out | apply below_alloc | apply pw_below_drewN | apply below_drew1 | refine below_set ?_ GE365.out | refine below_set ?_ GE366.out) | exact HB.out))⟩; clear HO_11 BK365 BK366 HB hq_; have HO_11 := n0_; have BK365 := n1_; have BK366 := n2_; have HB := n3_; clear n0_ n1_ n2_ n3_)); have hnb60 := NB366_365.out; have hnc60 := NB365_366.out; have hcz61_0 : wc.cell? ⟨gb366, 0, none⟩ = some (.int .i64 x367000_1) := (blk_cell BK366.out 0).trans rfl; have hcz61_1 : wc.cell? ⟨gb366, 1, none⟩ = some (.string (rdOf ByteArray.empty x11_37 1)) := (blk_cell BK366.out 1).trans rfl; have hcz61_2 : wc.cell? ⟨gb366, 2, none⟩ = some (.string x367002_46) := (blk_cell BK366.out 2).trans rfl; have hcz61_3 : wc.cell? ⟨gb366, 3, none⟩ = some (.int .i64 0) := (blk_cell BK366.out 3).trans rfl; have hcz61_4 : wc.cell? ⟨gb366, 4, none⟩ = some (.string (⟨#[]⟩ : ByteArray)) := (blk_cell BK366.out 4).trans rfl; have hfz61_0 := blk_frozen BK366.out 0; have hfz61_1 := blk_frozen BK366.out 1; have hfz61_2 := blk_frozen BK366.out 2; have hfz61_3 := blk_frozen BK366.out 3; have hfz61_4 := blk_frozen BK366.out 4))
                                          go_meet
                                          case rel => exact ⟨_, (t389), H', ⟨by have := HK1.out; have := HJ21.out; have := HJ25.out; have := HJ28.out; have := HJ37.out; have := HJ46.out; first | omega | exact Nat.le_refl _⟩, ⟨by (with_reducible repeat (first | refine blk_drewN ?_ _ | refine blk_drew ?_ | refine blk_alloc ?_ _)); refine blk_far ?_ NB365_366.out _; (with_reducible repeat (first | refine blk_drewN ?_ _ | refine blk_drew ?_ | refine blk_alloc ?_ _)); exact BK365.out⟩, ⟨by (with_reducible repeat (first | refine blk_drewN ?_ _ | refine blk_drew ?_ | refine blk_alloc ?_ _)); refine blk_put (cs := #[.int .i64 x367000_1, .string (rdOf ByteArray.empty x11_37 1), .string x367002_46, .int .i64 0, .string (⟨#[]⟩ : ByteArray)]) ?_ 3 _ rfl; (with_reducible repeat (first | refine blk_drewN ?_ _ | refine blk_drew ?_ | refine blk_alloc ?_ _)); exact BK366.out⟩, ⟨by repeat (first | (with_reducible first | exact HB.out | apply below_alloc | apply pw_below_drewN | apply below_drew1 | refine below_set ?_ GE365.out | refine below_set ?_ GE366.out) | exact HB.out)⟩⟩
                                        · rw [if_neg c58] at H
                                          exact absurd H (by simp)
                                      · rw [if_neg c57] at H
                                        exact absurd H (by simp)
                                    · replace c56 := Bool.eq_false_iff.mpr c56
                                      subst c56; have H1 : (spec_ReqRead.j6 kj46 a0 t377 x12_37 x367000_1 (rdOf ByteArray.empty x11_37 1) x367002_46 0 (⟨#[]⟩ : ByteArray)) = some (r1, r2, r3, r4, r5, r6) := by rw [if_neg (show ¬ (false = true) by decide)] at H; exact H
                                      clear H; have H := H1; clear H1; have H' := Aside0.mk H; clear H
                                      go_wp2
                                      go_meet
                                      case rel => exact ⟨_, (0), H', ⟨by have := HK1.out; have := HJ21.out; have := HJ25.out; have := HJ28.out; have := HJ37.out; have := HJ46.out; first | omega | exact Nat.le_refl _⟩, ⟨by (with_reducible repeat (first | refine blk_drewN ?_ _ | refine blk_drew ?_ | refine blk_alloc ?_ _)); exact BK365.out⟩, ⟨by (with_reducible repeat (first | refine blk_drewN ?_ _ | refine blk_drew ?_ | refine blk_alloc ?_ _)); exact BK366.out⟩, ⟨by repeat (first | (with_reducible first | exact HB.out | apply below_alloc | apply pw_below_drewN | apply below_drew1 | refine below_set ?_ GE365.out | refine below_set ?_ GE366.out) | exact HB.out)⟩⟩
                                  case rest =>
                                    clear HC55
                                    try clear c1
                                    try clear c2
                                    try clear p2
                                    try clear c3
                                    try clear c3b0
                                    try clear c3b1
                                    try clear p3
                                    try clear q3
                                    try clear hx3
                                    try clear qi3
                                    try clear c4
                                    try clear c5
                                    try clear c6
                                    try clear p6
                                    try clear c7
                                    try clear c10
                                    try clear c10b0
                                    try clear c12
                                    try clear c12b0
                                    try clear c13
                                    try clear c13b0
                                    try clear c14
                                    try clear c14b0
                                    try clear c14b1
                                    try clear c17
                                    try clear c20
                                    try clear c21
                                    try clear c22
                                    try clear c23
                                    try clear c24
                                    try clear c25
                                    try clear c27
                                    try clear c31
                                    try clear c31b0
                                    try clear c31b1
                                    try clear c32
                                    try clear c34
                                    try clear c37
                                    try clear p37
                                    try clear q37
                                    try clear hx37
                                    try clear qi37
                                    try clear p38
                                    try clear q38
                                    try clear hx38
                                    try clear qi38
                                    try clear c39
                                    try clear c41
                                    try clear c44
                                    try clear c46
                                    try clear c46b0
                                    try clear c46b1
                                    try clear c49
                                    try clear c51
                                    try clear c52
                                    try clear c52b0
                                    try clear c52b1
                                    try clear c53
                                    try clear c56
                                    try clear c57
                                    try clear c57b0
                                    try clear c58
                                    try clear c58b0
                                    try clear c60
                                    try clear hcz18_0
                                    try clear hcz18_1
                                    try clear hcz18_2
                                    try clear hcz18_3
                                    try clear hcz18_4
                                    try clear hcz24_0
                                    try clear hcz24_1
                                    try clear hcz24_2
                                    try clear hcz24_3
                                    try clear hcz24_4
                                    try clear hcz33_0
                                    try clear hcz33_1
                                    try clear hcz33_2
                                    try clear hcz33_3
                                    try clear hcz33_4
                                    try clear hcz35_0
                                    try clear hcz35_1
                                    try clear hcz35_2
                                    try clear hcz35_3
                                    try clear hcz35_4
                                    try clear hcz45_0
                                    try clear hcz45_1
                                    try clear hcz45_2
                                    try clear hcz45_3
                                    try clear hcz45_4
                                    try clear hcz50_0
                                    try clear hcz50_1
                                    try clear hcz50_2
                                    try clear hcz50_3
                                    try clear hcz50_4
                                    try clear hcz54_0
                                    try clear hcz54_1
                                    try clear hcz54_2
                                    try clear hcz54_3
                                    try clear hcz54_4
                                    try clear hcz61_0
                                    try clear hcz61_1
                                    try clear hcz61_2
                                    try clear hcz61_3
                                    try clear hcz61_4
                                    try clear hcz7_0
                                    try clear hcz7_1
                                    try clear hcz7_2
                                    try clear hcz7_3
                                    try clear hcz7_4
                                    try clear hfz18_0
                                    try clear hfz18_1
                                    try clear hfz18_2
                                    try clear hfz18_3
                                    try clear hfz18_4
                                    try clear hfz24_0
                                    try clear hfz24_1
                                    try clear hfz24_2
                                    try clear hfz24_3
                                    try clear hfz24_4
                                    try clear hfz33_0
                                    try clear hfz33_1
                                    try clear hfz33_2
                                    try clear hfz33_3
                                    try clear hfz33_4
                                    try clear hfz35_0
                                    try clear hfz35_1
                                    try clear hfz35_2
                                    try clear hfz35_3
                                    try clear hfz35_4
                                    try clear hfz45_0
                                    try clear hfz45_1
                                    try clear hfz45_2
                                    try clear hfz45_3
                                    try clear hfz45_4
                                    try clear hfz50_0
                                    try clear hfz50_1
                                    try clear hfz50_2
                                    try clear hfz50_3
                                    try clear hfz50_4
                                    try clear hfz54_0
                                    try clear hfz54_1
                                    try clear hfz54_2
                                    try clear hfz54_3
                                    try clear hfz54_4
                                    try clear hfz61_0
                                    try clear hfz61_1
                                    try clear hfz61_2
                                    try clear hfz61_3
                                    try clear hfz61_4
                                    try clear hfz7_0
                                    try clear hfz7_1
                                    try clear hfz7_2
                                    try clear hfz7_3
                                    try clear hfz7_4
                                    try clear hx370_0
                                    try clear hx374_0
                                    try clear hx386_0
                                    try clear hx387_0
                                    try clear hx388_0
                                    try clear p2
                                    try clear p3
                                    try clear p37
                                    try clear p370
                                    try clear p374
                                    try clear p38
                                    try clear p386
                                    try clear p387
                                    try clear p388
                                    try clear p6
                                    try clear q3
                                    try clear q37
                                    try clear q370
                                    try clear q374
                                    try clear q38
                                    try clear q386
                                    try clear q387
                                    try clear q388
                                    obtain ⟨kq, x367003_54, HA, HJ54, BK365, BK366, HB⟩ := hcut
                                    cases kq with
                                    | zero => exact absurd HA.out (by simp [spec_ReqRead.j6])
                                    | succ kj54 =>
                                      have H := HA.out; clear HA; simp only [spec_ReqRead.j6] at H; by_cases c62 : t377 = true
                                      · subst c62
                                        have H1 : (if a0.toList = ([] : List UInt8) then (some (0, (⟨#[]⟩ : ByteArray), (⟨#[]⟩ : ByteArray), 0, (⟨#[]⟩ : ByteArray), false)) else ((spec_ReqWrite.f kj54 x367000_1 (rdOf ByteArray.empty x11_37 1) x367002_46 x367003_54 x12_37).bind fun t390 => (if t390.toList = a0.toList then (some (x367000_1, (rdOf ByteArray.empty x11_37 1), x367002_46, x367003_54, x12_37, true)) else (some (0, (⟨#[]⟩ : ByteArray), (⟨#[]⟩ : ByteArray), 0, (⟨#[]⟩ : ByteArray), false))))) = some (r1, r2, r3, r4, r5, r6) := by rw [if_pos rfl] at H; exact H
                                        clear H; have H := H1; clear H1; by_cases c63 : a0.toList = ([] : List UInt8)
                                        · rw [if_pos c63] at H
                                          have c63b0 : (a0.toList == ([] : List UInt8)) = true := beq_iff_eq.mpr c63; have c63b1 : (a0.toList != ([] : List UInt8)) = false := bne_eq_false_iff_eq.mpr c63; clear c63; simp only [Option.some.injEq, Prod.mk.injEq] at H; obtain ⟨rfl, rfl, rfl, rfl, rfl, rfl⟩ := H; have hnb64 := NB366_365.out; have hnc64 := NB365_366.out; have hcz65_0 : wc.cell? ⟨gb366, 0, none⟩ = some (.int .i64 x367000_1) := (blk_cell BK366.out 0).trans rfl; have hcz65_1 : wc.cell? ⟨gb366, 1, none⟩ = some (.string (rdOf ByteArray.empty x11_37 1)) := (blk_cell BK366.out 1).trans rfl; have hcz65_2 : wc.cell? ⟨gb366, 2, none⟩ = some (.string x367002_46) := (blk_cell BK366.out 2).trans rfl; have hcz65_3 : wc.cell? ⟨gb366, 3, none⟩ = some (.int .i64 x367003_54) := (blk_cell BK366.out 3).trans rfl; have hcz65_4 : wc.cell? ⟨gb366, 4, none⟩ = some (.string (⟨#[]⟩ : ByteArray)) := (blk_cell BK366.out 4).trans rfl; have hfz65_0 := blk_frozen BK366.out 0; have hfz65_1 := blk_frozen BK366.out 1; have hfz65_2 := blk_frozen BK366.out 2; have hfz65_3 := blk_frozen BK366.out 3; have hfz65_4 := blk_frozen BK366.out 4; have hcz66_0 : wc.cell? ⟨gb365, 0, none⟩ = some (.int .i64 x366000_37) := (blk_cell BK365.out 0).trans rfl; have hcz66_1 : wc.cell? ⟨gb365, 1, none⟩ = some (.string x366001_37) := (blk_cell BK365.out 1).trans rfl; have hcz66_2 : wc.cell? ⟨gb365, 2, none⟩ = some (.string x366002_37) := (blk_cell BK365.out 2).trans rfl; have hcz66_3 : wc.cell? ⟨gb365, 3, none⟩ = some (.int .i64 x366003_37) := (blk_cell BK365.out 3).trans rfl; have hcz66_4 : wc.cell? ⟨gb365, 4, none⟩ = some (.string x366004_37) := (blk_cell BK365.out 4).trans rfl; have hfz66_0 := blk_frozen BK365.out 0; have hfz66_1 := blk_frozen BK365.out 1; have hfz66_2 := blk_frozen BK365.out 2; have hfz66_3 := blk_frozen BK365.out 3; have hfz66_4 := blk_frozen BK365.out 4
                                          go_wp2
                                          refine bodyPost_ret (results_ct rfl _ _ gb365 25 #[.int .i64 0, .string (⟨#[]⟩ : ByteArray), .string (⟨#[]⟩ : ByteArray), .int .i64 0, .string (⟨#[]⟩ : ByteArray)] (0, 0) _ rfl (by (with_reducible repeat (first | refine blk_drewN ?_ _ | refine blk_drew ?_ | refine blk_alloc ?_ _)); refine blk_put (cs := #[.int .i64 0, .string (⟨#[]⟩ : ByteArray), .string (⟨#[]⟩ : ByteArray), .int .i64 0, .string x366004_37]) ?_ 4 _ rfl; (with_reducible repeat (first | refine blk_drewN ?_ _ | refine blk_drew ?_ | refine blk_alloc ?_ _)); refine blk_put (cs := #[.int .i64 0, .string (⟨#[]⟩ : ByteArray), .string (⟨#[]⟩ : ByteArray), .int .i64 x366003_37, .string x366004_37]) ?_ 3 _ rfl; (with_reducible repeat (first | refine blk_drewN ?_ _ | refine blk_drew ?_ | refine blk_alloc ?_ _)); refine blk_put (cs := #[.int .i64 0, .string (⟨#[]⟩ : ByteArray), .string x366002_37, .int .i64 x366003_37, .string x366004_37]) ?_ 2 _ rfl; (with_reducible repeat (first | refine blk_drewN ?_ _ | refine blk_drew ?_ | refine blk_alloc ?_ _)); refine blk_put (cs := #[.int .i64 0, .string x366001_37, .string x366002_37, .int .i64 x366003_37, .string x366004_37]) ?_ 1 _ rfl; (with_reducible repeat (first | refine blk_drewN ?_ _ | refine blk_drew ?_ | refine blk_alloc ?_ _)); refine blk_put (cs := #[.int .i64 x366000_37, .string x366001_37, .string x366002_37, .int .i64 x366003_37, .string x366004_37]) ?_ 0 _ rfl; (with_reducible repeat (first | refine blk_drewN ?_ _ | refine blk_drew ?_ | refine blk_alloc ?_ _)); refine blk_far ?_ NB365_366.out _; (with_reducible repeat (first | refine blk_drewN ?_ _ | refine blk_drew ?_ | refine blk_alloc ?_ _)); exact BK365.out) Tryd.underlying25 rfl (by kernel_rfl)) rfl ?_
                                          exact ⟨by first | rfl | (simp [errW_none, errW_some] <;> rfl) | (simp [*, errW_none, errW_some] <;> rfl), by repeat (first | (with_reducible first | exact HB.out | apply below_alloc | apply pw_below_drewN | apply below_drew1 | refine below_set ?_ GE365.out | refine below_set ?_ GE366.out) | exact HB.out)⟩
                                        · rw [if_neg c63] at H
                                          have c63b0 : (a0.toList == ([] : List UInt8)) = false := beq_eq_false_iff_ne.mpr c63; have c63b1 : (a0.toList != ([] : List UInt8)) = true := bne_iff_ne.mpr c63; replace H := Option.bind_eq_some_iff.mp H; obtain ⟨t390, A670, H⟩ := H; replace H : (if t390.toList = a0.toList then (some (x367000_1, (rdOf ByteArray.empty x11_37 1), x367002_46, x367003_54, x12_37, true)) else (some (0, (⟨#[]⟩ : ByteArray), (⟨#[]⟩ : ByteArray), 0, (⟨#[]⟩ : ByteArray), false))) = some (r1, r2, r3, r4, r5, r6) := H; have A67 := Aside0.mk A670; clear A670; by_cases c68 : t390.toList = a0.toList
                                          · rw [if_pos c68] at H
                                            have c68b0 : (t390.toList == a0.toList) = true := beq_iff_eq.mpr c68; have c68b1 : (t390.toList != a0.toList) = false := bne_eq_false_iff_eq.mpr c68; clear c68; simp only [Option.some.injEq, Prod.mk.injEq] at H; obtain ⟨rfl, rfl, rfl, rfl, rfl, rfl⟩ := H; have hnb69 := NB366_365.out; have hnc69 := NB365_366.out; have hcz70_0 : wc.cell? ⟨gb366, 0, none⟩ = some (.int .i64 x367000_1) := (blk_cell BK366.out 0).trans rfl; have hcz70_1 : wc.cell? ⟨gb366, 1, none⟩ = some (.string (rdOf ByteArray.empty x11_37 1)) := (blk_cell BK366.out 1).trans rfl; have hcz70_2 : wc.cell? ⟨gb366, 2, none⟩ = some (.string x367002_46) := (blk_cell BK366.out 2).trans rfl; have hcz70_3 : wc.cell? ⟨gb366, 3, none⟩ = some (.int .i64 x367003_54) := (blk_cell BK366.out 3).trans rfl; have hcz70_4 : wc.cell? ⟨gb366, 4, none⟩ = some (.string (⟨#[]⟩ : ByteArray)) := (blk_cell BK366.out 4).trans rfl; have hfz70_0 := blk_frozen BK366.out 0; have hfz70_1 := blk_frozen BK366.out 1; have hfz70_2 := blk_frozen BK366.out 2; have hfz70_3 := blk_frozen BK366.out 3; have hfz70_4 := blk_frozen BK366.out 4
                                            go_wp2_with (first | (go_at_call 10; (with_reducible refine (spec_ReqWrite.calls kj54 x367000_1 (rdOf ByteArray.empty x11_37 1) x367002_46 x367003_54 x12_37 t390 _ A67.out).mono ?_); rintro e w71 ⟨rfl, hb⟩; have n0_ := Aside0.mk (blk_below (g := gb365) (o := .cells #[.int .i64 x366000_37, .string x366001_37, .string x366002_37, .int .i64 x366003_37, .string x366004_37] 25 (0, 0)) (by (with_reducible repeat (first | refine blk_drewN ?_ _ | refine blk_drew ?_ | refine blk_alloc ?_ _)); refine blk_far ?_ NB365_366.out _; (with_reducible repeat (first | refine blk_drewN ?_ _ | refine blk_drew ?_ | refine blk_alloc ?_ _)); exact BK365.out) hb); have n1_ := Aside0.mk (blk_below (g := gb366) (o := .cells #[.int .i64 x367000_1, .string (rdOf ByteArray.empty x11_37 1), .string x367002_46, .int .i64 x367003_54, .string x12_37] 25 (0, 0)) (by (with_reducible repeat (first | refine blk_drewN ?_ _ | refine blk_drew ?_ | refine blk_alloc ?_ _)); refine blk_put (cs := #[.int .i64 x367000_1, .string (rdOf ByteArray.empty x11_37 1), .string x367002_46, .int .i64 x367003_54, .string (⟨#[]⟩ : ByteArray)]) ?_ 4 _ rfl; (with_reducible repeat (first | refine blk_drewN ?_ _ | refine blk_drew ?_ | refine blk_alloc ?_ _)); exact BK366.out) hb); have n2_ := Aside0.mk (below_step (by repeat (first | (with_reducible first | exact HB.out | apply below_alloc | apply pw_below_drewN | apply below_drew1 | refine below_set ?_ GE365.out | refine below_set ?_ GE366.out) | exact HB.out)) hb); clear BK365; clear BK366; clear HB; have BK365 := n0_; have BK366 := n1_; have HB := n2_; clear n0_ n1_ n2_; (try clear hb); (try clear hb2); (try clear hk); (try clear hi); have hcz72_0 : w71.cell? ⟨gb366, 0, none⟩ = some (.int .i64 x367000_1) := (blk_cell BK366.out 0).trans rfl; have hcz72_1 : w71.cell? ⟨gb366, 1, none⟩ = some (.string (rdOf ByteArray.empty x11_37 1)) := (blk_cell BK366.out 1).trans rfl; have hcz72_2 : w71.cell? ⟨gb366, 2, none⟩ = some (.string x367002_46) := (blk_cell BK366.out 2).trans rfl; have hcz72_3 : w71.cell? ⟨gb366, 3, none⟩ = some (.int .i64 x367003_54) := (blk_cell BK366.out 3).trans rfl; have hcz72_4 : w71.cell? ⟨gb366, 4, none⟩ = some (.string x12_37) := (blk_cell BK366.out 4).trans rfl; have hfz72_0 := blk_frozen BK366.out 0; have hfz72_1 := blk_frozen BK366.out 1; have hfz72_2 := blk_frozen BK366.out 2; have hfz72_3 := blk_frozen BK366.out 3; have hfz72_4 := blk_frozen BK366.out 4; have hcz73_0 : w71.cell? ⟨gb365, 0, none⟩ = some (.int .i64 x366000_37) := (blk_cell BK365.out 0).trans rfl; have hcz73_1 : w71.cell? ⟨gb365, 1, none⟩ = some (.string x366001_37) := (blk_cell BK365.out 1).trans rfl; have hcz73_2 : w71.cell? ⟨gb365, 2, none⟩ = some (.string x366002_37) := (blk_cell BK365.out 2).trans rfl; have hcz73_3 : w71.cell? ⟨gb365, 3, none⟩ = some (.int .i64 x366003_37) := (blk_cell BK365.out 3).trans rfl; have hcz73_4 : w71.cell? ⟨gb365, 4, none⟩ = some (.string x366004_37) := (blk_cell BK365.out 4).trans rfl; have hfz73_0 := blk_frozen BK365.out 0; have hfz73_1 := blk_frozen BK365.out 1; have hfz73_2 := blk_frozen BK365.out 2; have hfz73_3 := blk_frozen BK365.out 3; have hfz73_4 := blk_frozen BK365.out 4))
                                            refine bodyPost_ret (results_ct rfl _ _ gb365 25 #[.int .i64 x367000_1, .string (rdOf ByteArray.empty x11_37 1), .string x367002_46, .int .i64 x367003_54, .string x12_37] (0, 0) _ rfl (by (with_reducible repeat (first | refine blk_drewN ?_ _ | refine blk_drew ?_ | refine blk_alloc ?_ _)); refine blk_put (cs := #[.int .i64 x367000_1, .string (rdOf ByteArray.empty x11_37 1), .string x367002_46, .int .i64 x367003_54, .string x366004_37]) ?_ 4 _ rfl; (with_reducible repeat (first | refine blk_drewN ?_ _ | refine blk_drew ?_ | refine blk_alloc ?_ _)); refine blk_put (cs := #[.int .i64 x367000_1, .string (rdOf ByteArray.empty x11_37 1), .string x367002_46, .int .i64 x366003_37, .string x366004_37]) ?_ 3 _ rfl; (with_reducible repeat (first | refine blk_drewN ?_ _ | refine blk_drew ?_ | refine blk_alloc ?_ _)); refine blk_put (cs := #[.int .i64 x367000_1, .string (rdOf ByteArray.empty x11_37 1), .string x366002_37, .int .i64 x366003_37, .string x366004_37]) ?_ 2 _ rfl; (with_reducible repeat (first | refine blk_drewN ?_ _ | refine blk_drew ?_ | refine blk_alloc ?_ _)); refine blk_put (cs := #[.int .i64 x367000_1, .string x366001_37, .string x366002_37, .int .i64 x366003_37, .string x366004_37]) ?_ 1 _ rfl; (with_reducible repeat (first | refine blk_drewN ?_ _ | refine blk_drew ?_ | refine blk_alloc ?_ _)); refine blk_put (cs := #[.int .i64 x366000_37, .string x366001_37, .string x366002_37, .int .i64 x366003_37, .string x366004_37]) ?_ 0 _ rfl; (with_reducible repeat (first | refine blk_drewN ?_ _ | refine blk_drew ?_ | refine blk_alloc ?_ _)); exact BK365.out) Tryd.underlying25 rfl (by kernel_rfl)) rfl ?_
                                            exact ⟨by first | rfl | (simp [errW_none, errW_some] <;> rfl) | (simp [*, errW_none, errW_some] <;> rfl), by repeat (first | (with_reducible first | exact HB.out | apply below_alloc | apply pw_below_drewN | apply below_drew1 | refine below_set ?_ GE365.out | refine below_set ?_ GE366.out) | exact HB.out)⟩
                                          · rw [if_neg c68] at H
                                            have c68b0 : (t390.toList == a0.toList) = false := beq_eq_false_iff_ne.mpr c68; have c68b1 : (t390.toList != a0.toList) = true := bne_iff_ne.mpr c68; simp only [Option.some.injEq, Prod.mk.injEq] at H; obtain ⟨rfl, rfl, rfl, rfl, rfl, rfl⟩ := H; have hnb74 := NB366_365.out; have hnc74 := NB365_366.out; have hcz75_0 : wc.cell? ⟨gb366, 0, none⟩ = some (.int .i64 x367000_1) := (blk_cell BK366.out 0).trans rfl; have hcz75_1 : wc.cell? ⟨gb366, 1, none⟩ = some (.string (rdOf ByteArray.empty x11_37 1)) := (blk_cell BK366.out 1).trans rfl; have hcz75_2 : wc.cell? ⟨gb366, 2, none⟩ = some (.string x367002_46) := (blk_cell BK366.out 2).trans rfl; have hcz75_3 : wc.cell? ⟨gb366, 3, none⟩ = some (.int .i64 x367003_54) := (blk_cell BK366.out 3).trans rfl; have hcz75_4 : wc.cell? ⟨gb366, 4, none⟩ = some (.string (⟨#[]⟩ : ByteArray)) := (blk_cell BK366.out 4).trans rfl; have hfz75_0 := blk_frozen BK366.out 0; have hfz75_1 := blk_frozen BK366.out 1; have hfz75_2 := blk_frozen BK366.out 2; have hfz75_3 := blk_frozen BK366.out 3; have hfz75_4 := blk_frozen BK366.out 4
                                            go_wp2_with (first | (go_at_call 10; (with_reducible refine (spec_ReqWrite.calls kj54 x367000_1 (rdOf ByteArray.empty x11_37 1) x367002_46 x367003_54 x12_37 t390 _ A67.out).mono ?_); rintro e w76 ⟨rfl, hb⟩; have n0_ := Aside0.mk (blk_below (g := gb365) (o := .cells #[.int .i64 x366000_37, .string x366001_37, .string x366002_37, .int .i64 x366003_37, .string x366004_37] 25 (0, 0)) (by (with_reducible repeat (first | refine blk_drewN ?_ _ | refine blk_drew ?_ | refine blk_alloc ?_ _)); refine blk_far ?_ NB365_366.out _; (with_reducible repeat (first | refine blk_drewN ?_ _ | refine blk_drew ?_ | refine blk_alloc ?_ _)); exact BK365.out) hb); have n1_ := Aside0.mk (blk_below (g := gb366) (o := .cells #[.int .i64 x367000_1, .string (rdOf ByteArray.empty x11_37 1), .string x367002_46, .int .i64 x367003_54, .string x12_37] 25 (0, 0)) (by (with_reducible repeat (first | refine blk_drewN ?_ _ | refine blk_drew ?_ | refine blk_alloc ?_ _)); refine blk_put (cs := #[.int .i64 x367000_1, .string (rdOf ByteArray.empty x11_37 1), .string x367002_46, .int .i64 x367003_54, .string (⟨#[]⟩ : ByteArray)]) ?_ 4 _ rfl; (with_reducible repeat (first | refine blk_drewN ?_ _ | refine blk_drew ?_ | refine blk_alloc ?_ _)); exact BK366.out) hb); have n2_ := Aside0.mk (below_step (by repeat (first | (with_reducible first | exact HB.out | apply below_alloc | apply pw_below_drewN | apply below_drew1 | refine below_set ?_ GE365.out | refine below_set ?_ GE366.out) | exact HB.out)) hb); clear BK365; clear BK366; clear HB; have BK365 := n0_; have BK366 := n1_; have HB := n2_; clear n0_ n1_ n2_; (try clear hb); (try clear hb2); (try clear hk); (try clear hi); have hcz77_0 : w76.cell? ⟨gb365, 0, none⟩ = some (.int .i64 x366000_37) := (blk_cell BK365.out 0).trans rfl; have hcz77_1 : w76.cell? ⟨gb365, 1, none⟩ = some (.string x366001_37) := (blk_cell BK365.out 1).trans rfl; have hcz77_2 : w76.cell? ⟨gb365, 2, none⟩ = some (.string x366002_37) := (blk_cell BK365.out 2).trans rfl; have hcz77_3 : w76.cell? ⟨gb365, 3, none⟩ = some (.int .i64 x366003_37) := (blk_cell BK365.out 3).trans rfl; have hcz77_4 : w76.cell? ⟨gb365, 4, none⟩ = some (.string x366004_37) := (blk_cell BK365.out 4).trans rfl; have hfz77_0 := blk_frozen BK365.out 0; have hfz77_1 := blk_frozen BK365.out 1; have hfz77_2 := blk_frozen BK365.out 2; have hfz77_3 := blk_frozen BK365.out 3; have hfz77_4 := blk_frozen BK365.out 4))
                                            refine bodyPost_ret (results_ct rfl _ _ gb365 25 #[.int .i64 0, .string (⟨#[]⟩ : ByteArray), .string (⟨#[]⟩ : ByteArray), .int .i64 0, .string (⟨#[]⟩ : ByteArray)] (0, 0) _ rfl (by (with_reducible repeat (first | refine blk_drewN ?_ _ | refine blk_drew ?_ | refine blk_alloc ?_ _)); refine blk_put (cs := #[.int .i64 0, .string (⟨#[]⟩ : ByteArray), .string (⟨#[]⟩ : ByteArray), .int .i64 0, .string x366004_37]) ?_ 4 _ rfl; (with_reducible repeat (first | refine blk_drewN ?_ _ | refine blk_drew ?_ | refine blk_alloc ?_ _)); refine blk_put (cs := #[.int .i64 0, .string (⟨#[]⟩ : ByteArray), .string (⟨#[]⟩ : ByteArray), .int .i64 x366003_37, .string x366004_37]) ?_ 3 _ rfl; (with_reducible repeat (first | refine blk_drewN ?_ _ | refine blk_drew ?_ | refine blk_alloc ?_ _)); refine blk_put (cs := #[.int .i64 0, .string (⟨#[]⟩ : ByteArray), .string x366002_37, .int .i64 x366003_37, .string x366004_37]) ?_ 2 _ rfl; (with_reducible repeat (first | refine blk_drewN ?_ _ | refine blk_drew ?_ | refine blk_alloc ?_ _)); refine blk_put (cs := #[.int .i64 0, .string x366001_37, .string x366002_37, .int .i64 x366003_37, .string x366004_37]) ?_ 1 _ rfl; (with_reducible repeat (first | refine blk_drewN ?_ _ | refine blk_drew ?_ | refine blk_alloc ?_ _)); refine blk_put (cs := #[.int .i64 x366000_37, .string x366001_37, .string x366002_37, .int .i64 x366003_37, .string x366004_37]) ?_ 0 _ rfl; (with_reducible repeat (first | refine blk_drewN ?_ _ | refine blk_drew ?_ | refine blk_alloc ?_ _)); exact BK365.out) Tryd.underlying25 rfl (by kernel_rfl)) rfl ?_
                                            exact ⟨by first | rfl | (simp [errW_none, errW_some] <;> rfl) | (simp [*, errW_none, errW_some] <;> rfl), by repeat (first | (with_reducible first | exact HB.out | apply below_alloc | apply pw_below_drewN | apply below_drew1 | refine below_set ?_ GE365.out | refine below_set ?_ GE366.out) | exact HB.out)⟩
                                      · replace c62 := Bool.eq_false_iff.mpr c62
                                        subst c62; have H1 : (if a0.toList = ([] : List UInt8) then (some (0, (⟨#[]⟩ : ByteArray), (⟨#[]⟩ : ByteArray), 0, (⟨#[]⟩ : ByteArray), false)) else ((spec_ReqWrite.f kj54 x367000_1 (rdOf ByteArray.empty x11_37 1) x367002_46 x367003_54 (⟨#[]⟩ : ByteArray)).bind fun t391 => (if t391.toList = a0.toList then (some (x367000_1, (rdOf ByteArray.empty x11_37 1), x367002_46, x367003_54, (⟨#[]⟩ : ByteArray), true)) else (some (0, (⟨#[]⟩ : ByteArray), (⟨#[]⟩ : ByteArray), 0, (⟨#[]⟩ : ByteArray), false))))) = some (r1, r2, r3, r4, r5, r6) := by rw [if_neg (show ¬ (false = true) by decide)] at H; exact H
                                        clear H; have H := H1; clear H1; by_cases c78 : a0.toList = ([] : List UInt8)
                                        · rw [if_pos c78] at H
                                          have c78b0 : (a0.toList == ([] : List UInt8)) = true := beq_iff_eq.mpr c78; have c78b1 : (a0.toList != ([] : List UInt8)) = false := bne_eq_false_iff_eq.mpr c78; clear c78; simp only [Option.some.injEq, Prod.mk.injEq] at H; obtain ⟨rfl, rfl, rfl, rfl, rfl, rfl⟩ := H; have hnb79 := NB365_366.out; have hnc79 := NB366_365.out; have hcz80_0 : wc.cell? ⟨gb365, 0, none⟩ = some (.int .i64 x366000_37) := (blk_cell BK365.out 0).trans rfl; have hcz80_1 : wc.cell? ⟨gb365, 1, none⟩ = some (.string x366001_37) := (blk_cell BK365.out 1).trans rfl; have hcz80_2 : wc.cell? ⟨gb365, 2, none⟩ = some (.string x366002_37) := (blk_cell BK365.out 2).trans rfl; have hcz80_3 : wc.cell? ⟨gb365, 3, none⟩ = some (.int .i64 x366003_37) := (blk_cell BK365.out 3).trans rfl; have hcz80_4 : wc.cell? ⟨gb365, 4, none⟩ = some (.string x366004_37) := (blk_cell BK365.out 4).trans rfl; have hfz80_0 := blk_frozen BK365.out 0; have hfz80_1 := blk_frozen BK365.out 1; have hfz80_2 := blk_frozen BK365.out 2; have hfz80_3 := blk_frozen BK365.out 3; have hfz80_4 := blk_frozen BK365.out 4
                                          go_wp2
                                          refine bodyPost_ret (results_ct rfl _ _ gb365 25 #[.int .i64 0, .string (⟨#[]⟩ : ByteArray), .string (⟨#[]⟩ : ByteArray), .int .i64 0, .string (⟨#[]⟩ : ByteArray)] (0, 0) _ rfl (by (with_reducible repeat (first | refine blk_drewN ?_ _ | refine blk_drew ?_ | refine blk_alloc ?_ _)); refine blk_put (cs := #[.int .i64 0, .string (⟨#[]⟩ : ByteArray), .string (⟨#[]⟩ : ByteArray), .int .i64 0, .string x366004_37]) ?_ 4 _ rfl; (with_reducible repeat (first | refine blk_drewN ?_ _ | refine blk_drew ?_ | refine blk_alloc ?_ _)); refine blk_put (cs := #[.int .i64 0, .string (⟨#[]⟩ : ByteArray), .string (⟨#[]⟩ : ByteArray), .int .i64 x366003_37, .string x366004_37]) ?_ 3 _ rfl; (with_reducible repeat (first | refine blk_drewN ?_ _ | refine blk_drew ?_ | refine blk_alloc ?_ _)); refine blk_put (cs := #[.int .i64 0, .string (⟨#[]⟩ : ByteArray), .string x366002_37, .int .i64 x366003_37, .string x366004_37]) ?_ 2 _ rfl; (with_reducible repeat (first | refine blk_drewN ?_ _ | refine blk_drew ?_ | refine blk_alloc ?_ _)); refine blk_put (cs := #[.int .i64 0, .string x366001_37, .string x366002_37, .int .i64 x366003_37, .string x366004_37]) ?_ 1 _ rfl; (with_reducible repeat (first | refine blk_drewN ?_ _ | refine blk_drew ?_ | refine blk_alloc ?_ _)); refine blk_put (cs := #[.int .i64 x366000_37, .string x366001_37, .string x366002_37, .int .i64 x366003_37, .string x366004_37]) ?_ 0 _ rfl; (with_reducible repeat (first | refine blk_drewN ?_ _ | refine blk_drew ?_ | refine blk_alloc ?_ _)); exact BK365.out) Tryd.underlying25 rfl (by kernel_rfl)) rfl ?_
                                          exact ⟨by first | rfl | (simp [errW_none, errW_some] <;> rfl) | (simp [*, errW_none, errW_some] <;> rfl), by repeat (first | (with_reducible first | exact HB.out | apply below_alloc | apply pw_below_drewN | apply below_drew1 | refine below_set ?_ GE365.out | refine below_set ?_ GE366.out) | exact HB.out)⟩
                                        · rw [if_neg c78] at H
                                          have c78b0 : (a0.toList == ([] : List UInt8)) = false := beq_eq_false_iff_ne.mpr c78; have c78b1 : (a0.toList != ([] : List UInt8)) = true := bne_iff_ne.mpr c78; replace H := Option.bind_eq_some_iff.mp H; obtain ⟨t391, A810, H⟩ := H; replace H : (if t391.toList = a0.toList then (some (x367000_1, (rdOf ByteArray.empty x11_37 1), x367002_46, x367003_54, (⟨#[]⟩ : ByteArray), true)) else (some (0, (⟨#[]⟩ : ByteArray), (⟨#[]⟩ : ByteArray), 0, (⟨#[]⟩ : ByteArray), false))) = some (r1, r2, r3, r4, r5, r6) := H; have A81 := Aside0.mk A810; clear A810; by_cases c82 : t391.toList = a0.toList
                                          · rw [if_pos c82] at H
                                            have c82b0 : (t391.toList == a0.toList) = true := beq_iff_eq.mpr c82; have c82b1 : (t391.toList != a0.toList) = false := bne_eq_false_iff_eq.mpr c82; clear c82; simp only [Option.some.injEq, Prod.mk.injEq] at H; obtain ⟨rfl, rfl, rfl, rfl, rfl, rfl⟩ := H; have hnb83 := NB366_365.out; have hnc83 := NB365_366.out; have hcz84_0 : wc.cell? ⟨gb366, 0, none⟩ = some (.int .i64 x367000_1) := (blk_cell BK366.out 0).trans rfl; have hcz84_1 : wc.cell? ⟨gb366, 1, none⟩ = some (.string (rdOf ByteArray.empty x11_37 1)) := (blk_cell BK366.out 1).trans rfl; have hcz84_2 : wc.cell? ⟨gb366, 2, none⟩ = some (.string x367002_46) := (blk_cell BK366.out 2).trans rfl; have hcz84_3 : wc.cell? ⟨gb366, 3, none⟩ = some (.int .i64 x367003_54) := (blk_cell BK366.out 3).trans rfl; have hcz84_4 : wc.cell? ⟨gb366, 4, none⟩ = some (.string (⟨#[]⟩ : ByteArray)) := (blk_cell BK366.out 4).trans rfl; have hfz84_0 := blk_frozen BK366.out 0; have hfz84_1 := blk_frozen BK366.out 1; have hfz84_2 := blk_frozen BK366.out 2; have hfz84_3 := blk_frozen BK366.out 3; have hfz84_4 := blk_frozen BK366.out 4
                                            go_wp2_with (first | (go_at_call 10; (with_reducible refine (spec_ReqWrite.calls kj54 x367000_1 (rdOf ByteArray.empty x11_37 1) x367002_46 x367003_54 (⟨#[]⟩ : ByteArray) t391 _ A81.out).mono ?_); rintro e w85 ⟨rfl, hb⟩; have n0_ := Aside0.mk (blk_below (g := gb365) (o := .cells #[.int .i64 x366000_37, .string x366001_37, .string x366002_37, .int .i64 x366003_37, .string x366004_37] 25 (0, 0)) (by (with_reducible repeat (first | refine blk_drewN ?_ _ | refine blk_drew ?_ | refine blk_alloc ?_ _)); exact BK365.out) hb); have n1_ := Aside0.mk (blk_below (g := gb366) (o := .cells #[.int .i64 x367000_1, .string (rdOf ByteArray.empty x11_37 1), .string x367002_46, .int .i64 x367003_54, .string (⟨#[]⟩ : ByteArray)] 25 (0, 0)) (by (with_reducible repeat (first | refine blk_drewN ?_ _ | refine blk_drew ?_ | refine blk_alloc ?_ _)); exact BK366.out) hb); have n2_ := Aside0.mk (below_step (by repeat (first | (with_reducible first | exact HB.out | apply below_alloc | apply pw_below_drewN | apply below_drew1 | refine below_set ?_ GE365.out | refine below_set ?_ GE366.out) | exact HB.out)) hb); clear BK365; clear BK366; clear HB; have BK365 := n0_; have BK366 := n1_; have HB := n2_; clear n0_ n1_ n2_; (try clear hb); (try clear hb2); (try clear hk); (try clear hi); have hcz86_0 : w85.cell? ⟨gb366, 0, none⟩ = some (.int .i64 x367000_1) := (blk_cell BK366.out 0).trans rfl; have hcz86_1 : w85.cell? ⟨gb366, 1, none⟩ = some (.string (rdOf ByteArray.empty x11_37 1)) := (blk_cell BK366.out 1).trans rfl; have hcz86_2 : w85.cell? ⟨gb366, 2, none⟩ = some (.string x367002_46) := (blk_cell BK366.out 2).trans rfl; have hcz86_3 : w85.cell? ⟨gb366, 3, none⟩ = some (.int .i64 x367003_54) := (blk_cell BK366.out 3).trans rfl; have hcz86_4 : w85.cell? ⟨gb366, 4, none⟩ = some (.string (⟨#[]⟩ : ByteArray)) := (blk_cell BK366.out 4).trans rfl; have hfz86_0 := blk_frozen BK366.out 0; have hfz86_1 := blk_frozen BK366.out 1; have hfz86_2 := blk_frozen BK366.out 2; have hfz86_3 := blk_frozen BK366.out 3; have hfz86_4 := blk_frozen BK366.out 4; have hcz87_0 : w85.cell? ⟨gb365, 0, none⟩ = some (.int .i64 x366000_37) := (blk_cell BK365.out 0).trans rfl; have hcz87_1 : w85.cell? ⟨gb365, 1, none⟩ = some (.string x366001_37) := (blk_cell BK365.out 1).trans rfl; have hcz87_2 : w85.cell? ⟨gb365, 2, none⟩ = some (.string x366002_37) := (blk_cell BK365.out 2).trans rfl; have hcz87_3 : w85.cell? ⟨gb365, 3, none⟩ = some (.int .i64 x366003_37) := (blk_cell BK365.out 3).trans rfl; have hcz87_4 : w85.cell? ⟨gb365, 4, none⟩ = some (.string x366004_37) := (blk_cell BK365.out 4).trans rfl; have hfz87_0 := blk_frozen BK365.out 0; have hfz87_1 := blk_frozen BK365.out 1; have hfz87_2 := blk_frozen BK365.out 2; have hfz87_3 := blk_frozen BK365.out 3; have hfz87_4 := blk_frozen BK365.out 4))
                                            refine bodyPost_ret (results_ct rfl _ _ gb365 25 #[.int .i64 x367000_1, .string (rdOf ByteArray.empty x11_37 1), .string x367002_46, .int .i64 x367003_54, .string (⟨#[]⟩ : ByteArray)] (0, 0) _ rfl (by (with_reducible repeat (first | refine blk_drewN ?_ _ | refine blk_drew ?_ | refine blk_alloc ?_ _)); refine blk_put (cs := #[.int .i64 x367000_1, .string (rdOf ByteArray.empty x11_37 1), .string x367002_46, .int .i64 x367003_54, .string x366004_37]) ?_ 4 _ rfl; (with_reducible repeat (first | refine blk_drewN ?_ _ | refine blk_drew ?_ | refine blk_alloc ?_ _)); refine blk_put (cs := #[.int .i64 x367000_1, .string (rdOf ByteArray.empty x11_37 1), .string x367002_46, .int .i64 x366003_37, .string x366004_37]) ?_ 3 _ rfl; (with_reducible repeat (first | refine blk_drewN ?_ _ | refine blk_drew ?_ | refine blk_alloc ?_ _)); refine blk_put (cs := #[.int .i64 x367000_1, .string (rdOf ByteArray.empty x11_37 1), .string x366002_37, .int .i64 x366003_37, .string x366004_37]) ?_ 2 _ rfl; (with_reducible repeat (first | refine blk_drewN ?_ _ | refine blk_drew ?_ | refine blk_alloc ?_ _)); refine blk_put (cs := #[.int .i64 x367000_1, .string x366001_37, .string x366002_37, .int .i64 x366003_37, .string x366004_37]) ?_ 1 _ rfl; (with_reducible repeat (first | refine blk_drewN ?_ _ | refine blk_drew ?_ | refine blk_alloc ?_ _)); refine blk_put (cs := #[.int .i64 x366000_37, .string x366001_37, .string x366002_37, .int .i64 x366003_37, .string x366004_37]) ?_ 0 _ rfl; (with_reducible repeat (first | refine blk_drewN ?_ _ | refine blk_drew ?_ | refine blk_alloc ?_ _)); exact BK365.out) Tryd.underlying25 rfl (by kernel_rfl)) rfl ?_
                                            exact ⟨by first | rfl | (simp [errW_none, errW_some] <;> rfl) | (simp [*, errW_none, errW_some] <;> rfl), by repeat (first | (with_reducible first | exact HB.out | apply below_alloc | apply pw_below_drewN | apply below_drew1 | refine below_set ?_ GE365.out | refine below_set ?_ GE366.out) | exact HB.out)⟩
                                          · rw [if_neg c82] at H
                                            have c82b0 : (t391.toList == a0.toList) = false := beq_eq_false_iff_ne.mpr c82; have c82b1 : (t391.toList != a0.toList) = true := bne_iff_ne.mpr c82; simp only [Option.some.injEq, Prod.mk.injEq] at H; obtain ⟨rfl, rfl, rfl, rfl, rfl, rfl⟩ := H; have hnb88 := NB366_365.out; have hnc88 := NB365_366.out; have hcz89_0 : wc.cell? ⟨gb366, 0, none⟩ = some (.int .i64 x367000_1) := (blk_cell BK366.out 0).trans rfl; have hcz89_1 : wc.cell? ⟨gb366, 1, none⟩ = some (.string (rdOf ByteArray.empty x11_37 1)) := (blk_cell BK366.out 1).trans rfl; have hcz89_2 : wc.cell? ⟨gb366, 2, none⟩ = some (.string x367002_46) := (blk_cell BK366.out 2).trans rfl; have hcz89_3 : wc.cell? ⟨gb366, 3, none⟩ = some (.int .i64 x367003_54) := (blk_cell BK366.out 3).trans rfl; have hcz89_4 : wc.cell? ⟨gb366, 4, none⟩ = some (.string (⟨#[]⟩ : ByteArray)) := (blk_cell BK366.out 4).trans rfl; have hfz89_0 := blk_frozen BK366.out 0; have hfz89_1 := blk_frozen BK366.out 1; have hfz89_2 := blk_frozen BK366.out 2; have hfz89_3 := blk_frozen BK366.out 3; have hfz89_4 := blk_frozen BK366.out 4
                                            go_wp2_with (first | (go_at_call 10; (with_reducible refine (spec_ReqWrite.calls kj54 x367000_1 (rdOf ByteArray.empty x11_37 1) x367002_46 x367003_54 (⟨#[]⟩ : ByteArray) t391 _ A81.out).mono ?_); rintro e w90 ⟨rfl, hb⟩; have n0_ := Aside0.mk (blk_below (g := gb365) (o := .cells #[.int .i64 x366000_37, .string x366001_37, .string x366002_37, .int .i64 x366003_37, .string x366004_37] 25 (0, 0)) (by (with_reducible repeat (first | refine blk_drewN ?_ _ | refine blk_drew ?_ | refine blk_alloc ?_ _)); exact BK365.out) hb); have n1_ := Aside0.mk (blk_below (g := gb366) (o := .cells #[.int .i64 x367000_1, .string (rdOf ByteArray.empty x11_37 1), .string x367002_46, .int .i64 x367003_54, .string (⟨#[]⟩ : ByteArray)] 25 (0, 0)) (by (with_reducible repeat (first | refine blk_drewN ?_ _ | refine blk_drew ?_ | refine blk_alloc ?_ _)); exact BK366.out) hb); have n2_ := Aside0.mk (below_step (by repeat (first | (with_reducible first | exact HB.out | apply below_alloc | apply pw_below_drewN | apply below_drew1 | refine below_set ?_ GE365.out | refine below_set ?_ GE366.out) | exact HB.out)) hb); clear BK365; clear BK366; clear HB; have BK365 := n0_; have BK366 := n1_; have HB := n2_; clear n0_ n1_ n2_; (try clear hb); (try clear hb2); (try clear hk); (try clear hi); have hcz91_0 : w90.cell? ⟨gb365, 0, none⟩ = some (.int .i64 x366000_37) := (blk_cell BK365.out 0).trans rfl; have hcz91_1 : w90.cell? ⟨gb365, 1, none⟩ = some (.string x366001_37) := (blk_cell BK365.out 1).trans rfl; have hcz91_2 : w90.cell? ⟨gb365, 2, none⟩ = some (.string x366002_37) := (blk_cell BK365.out 2).trans rfl; have hcz91_3 : w90.cell? ⟨gb365, 3, none⟩ = some (.int .i64 x366003_37) := (blk_cell BK365.out 3).trans rfl; have hcz91_4 : w90.cell? ⟨gb365, 4, none⟩ = some (.string x366004_37) := (blk_cell BK365.out 4).trans rfl; have hfz91_0 := blk_frozen BK365.out 0; have hfz91_1 := blk_frozen BK365.out 1; have hfz91_2 := blk_frozen BK365.out 2; have hfz91_3 := blk_frozen BK365.out 3; have hfz91_4 := blk_frozen BK365.out 4))
                                            refine bodyPost_ret (results_ct rfl _ _ gb365 25 #[.int .i64 0, .string (⟨#[]⟩ : ByteArray), .string (⟨#[]⟩ : ByteArray), .int .i64 0, .string (⟨#[]⟩ : ByteArray)] (0, 0) _ rfl (by (with_reducible repeat (first | refine blk_drewN ?_ _ | refine blk_drew ?_ | refine blk_alloc ?_ _)); refine blk_put (cs := #[.int .i64 0, .string (⟨#[]⟩ : ByteArray), .string (⟨#[]⟩ : ByteArray), .int .i64 0, .string x366004_37]) ?_ 4 _ rfl; (with_reducible repeat (first | refine blk_drewN ?_ _ | refine blk_drew ?_ | refine blk_alloc ?_ _)); refine blk_put (cs := #[.int .i64 0, .string (⟨#[]⟩ : ByteArray), .string (⟨#[]⟩ : ByteArray), .int .i64 x366003_37, .string x366004_37]) ?_ 3 _ rfl; (with_reducible repeat (first | refine blk_drewN ?_ _ | refine blk_drew ?_ | refine blk_alloc ?_ _)); refine blk_put (cs := #[.int .i64 0, .string (⟨#[]⟩ : ByteArray), .string x366002_37, .int .i64 x366003_37, .string x366004_37]) ?_ 2 _ rfl; (with_reducible repeat (first | refine blk_drewN ?_ _ | refine blk_drew ?_ | refine blk_alloc ?_ _)); refine blk_put (cs := #[.int .i64 0, .string x366001_37, .string x366002_37, .int .i64 x366003_37, .string x366004_37]) ?_ 1 _ rfl; (with_reducible repeat (first | refine blk_drewN ?_ _ | refine blk_drew ?_ | refine blk_alloc ?_ _)); refine blk_put (cs := #[.int .i64 x366000_37, .string x366001_37, .string x366002_37, .int .i64 x366003_37, .string x366004_37]) ?_ 0 _ rfl; (with_reducible repeat (first | refine blk_drewN ?_ _ | refine blk_drew ?_ | refine blk_alloc ?_ _)); exact BK365.out) Tryd.underlying25 rfl (by kernel_rfl)) rfl ?_
                                            exact ⟨by first | rfl | (simp [errW_none, errW_some] <;> rfl) | (simp [*, errW_none, errW_some] <;> rfl), by repeat (first | (with_reducible first | exact HB.out | apply below_alloc | apply pw_below_drewN | apply below_drew1 | refine below_set ?_ GE365.out | refine below_set ?_ GE366.out) | exact HB.out)⟩
                            · rw [if_neg c46] at H
                              exact absurd H (by simp)
                      · replace c37 := Bool.eq_false_iff.mpr c37
                        subst c37; have H1 : (if a0.toList = ([] : List UInt8) then (some (0, (⟨#[]⟩ : ByteArray), (⟨#[]⟩ : ByteArray), 0, (⟨#[]⟩ : ByteArray), false)) else ((spec_ReqWrite.f kj28 x367000_1 (⟨#[]⟩ : ByteArray) (⟨#[]⟩ : ByteArray) 0 (⟨#[]⟩ : ByteArray)).bind fun t392 => (if t392.toList = a0.toList then (some (x367000_1, (⟨#[]⟩ : ByteArray), (⟨#[]⟩ : ByteArray), 0, (⟨#[]⟩ : ByteArray), true)) else (some (0, (⟨#[]⟩ : ByteArray), (⟨#[]⟩ : ByteArray), 0, (⟨#[]⟩ : ByteArray), false))))) = some (r1, r2, r3, r4, r5, r6) := by rw [if_neg (show ¬ (false = true) by decide)] at H; exact H
                        clear H; have H := H1; clear H1; by_cases c92 : a0.toList = ([] : List UInt8)
                        · rw [if_pos c92] at H
                          have c92b0 : (a0.toList == ([] : List UInt8)) = true := beq_iff_eq.mpr c92; have c92b1 : (a0.toList != ([] : List UInt8)) = false := bne_eq_false_iff_eq.mpr c92; clear c92; simp only [Option.some.injEq, Prod.mk.injEq] at H; obtain ⟨rfl, rfl, rfl, rfl, rfl, rfl⟩ := H; have hnb93 := NB365_366.out; have hnc93 := NB366_365.out; have hcz94_0 : wc.cell? ⟨gb365, 0, none⟩ = some (.int .i64 0) := (blk_cell BK365.out 0).trans rfl; have hcz94_1 : wc.cell? ⟨gb365, 1, none⟩ = some (.string (⟨#[]⟩ : ByteArray)) := (blk_cell BK365.out 1).trans rfl; have hcz94_2 : wc.cell? ⟨gb365, 2, none⟩ = some (.string (⟨#[]⟩ : ByteArray)) := (blk_cell BK365.out 2).trans rfl; have hcz94_3 : wc.cell? ⟨gb365, 3, none⟩ = some (.int .i64 0) := (blk_cell BK365.out 3).trans rfl; have hcz94_4 : wc.cell? ⟨gb365, 4, none⟩ = some (.string (⟨#[]⟩ : ByteArray)) := (blk_cell BK365.out 4).trans rfl; have hfz94_0 := blk_frozen BK365.out 0; have hfz94_1 := blk_frozen BK365.out 1; have hfz94_2 := blk_frozen BK365.out 2; have hfz94_3 := blk_frozen BK365.out 3; have hfz94_4 := blk_frozen BK365.out 4
                          go_wp2
                          refine bodyPost_ret (results_ct rfl _ _ gb365 25 #[.int .i64 0, .string (⟨#[]⟩ : ByteArray), .string (⟨#[]⟩ : ByteArray), .int .i64 0, .string (⟨#[]⟩ : ByteArray)] (0, 0) _ rfl (by (with_reducible repeat (first | refine blk_drewN ?_ _ | refine blk_drew ?_ | refine blk_alloc ?_ _)); refine blk_put (cs := #[.int .i64 0, .string (⟨#[]⟩ : ByteArray), .string (⟨#[]⟩ : ByteArray), .int .i64 0, .string (⟨#[]⟩ : ByteArray)]) ?_ 4 _ rfl; (with_reducible repeat (first | refine blk_drewN ?_ _ | refine blk_drew ?_ | refine blk_alloc ?_ _)); refine blk_put (cs := #[.int .i64 0, .string (⟨#[]⟩ : ByteArray), .string (⟨#[]⟩ : ByteArray), .int .i64 0, .string (⟨#[]⟩ : ByteArray)]) ?_ 3 _ rfl; (with_reducible repeat (first | refine blk_drewN ?_ _ | refine blk_drew ?_ | refine blk_alloc ?_ _)); refine blk_put (cs := #[.int .i64 0, .string (⟨#[]⟩ : ByteArray), .string (⟨#[]⟩ : ByteArray), .int .i64 0, .string (⟨#[]⟩ : ByteArray)]) ?_ 2 _ rfl; (with_reducible repeat (first | refine blk_drewN ?_ _ | refine blk_drew ?_ | refine blk_alloc ?_ _)); refine blk_put (cs := #[.int .i64 0, .string (⟨#[]⟩ : ByteArray), .string (⟨#[]⟩ : ByteArray), .int .i64 0, .string (⟨#[]⟩ : ByteArray)]) ?_ 1 _ rfl; (with_reducible repeat (first | refine blk_drewN ?_ _ | refine blk_drew ?_ | refine blk_alloc ?_ _)); refine blk_put (cs := #[.int .i64 0, .string (⟨#[]⟩ : ByteArray), .string (⟨#[]⟩ : ByteArray), .int .i64 0, .string (⟨#[]⟩ : ByteArray)]) ?_ 0 _ rfl; (with_reducible repeat (first | refine blk_drewN ?_ _ | refine blk_drew ?_ | refine blk_alloc ?_ _)); exact BK365.out) Tryd.underlying25 rfl (by kernel_rfl)) rfl ?_
                          exact ⟨by first | rfl | (simp [errW_none, errW_some] <;> rfl) | (simp [*, errW_none, errW_some] <;> rfl), by repeat (first | (with_reducible first | exact HB.out | apply below_alloc | apply pw_below_drewN | apply below_drew1 | refine below_set ?_ GE365.out | refine below_set ?_ GE366.out) | exact HB.out)⟩
                        · rw [if_neg c92] at H
                          have c92b0 : (a0.toList == ([] : List UInt8)) = false := beq_eq_false_iff_ne.mpr c92; have c92b1 : (a0.toList != ([] : List UInt8)) = true := bne_iff_ne.mpr c92; replace H := Option.bind_eq_some_iff.mp H; obtain ⟨t392, A950, H⟩ := H; replace H : (if t392.toList = a0.toList then (some (x367000_1, (⟨#[]⟩ : ByteArray), (⟨#[]⟩ : ByteArray), 0, (⟨#[]⟩ : ByteArray), true)) else (some (0, (⟨#[]⟩ : ByteArray), (⟨#[]⟩ : ByteArray), 0, (⟨#[]⟩ : ByteArray), false))) = some (r1, r2, r3, r4, r5, r6) := H; have A95 := Aside0.mk A950; clear A950; by_cases c96 : t392.toList = a0.toList
                          · rw [if_pos c96] at H
                            have c96b0 : (t392.toList == a0.toList) = true := beq_iff_eq.mpr c96; have c96b1 : (t392.toList != a0.toList) = false := bne_eq_false_iff_eq.mpr c96; clear c96; simp only [Option.some.injEq, Prod.mk.injEq] at H; obtain ⟨rfl, rfl, rfl, rfl, rfl, rfl⟩ := H; have hnb97 := NB366_365.out; have hnc97 := NB365_366.out; have hcz98_0 : wc.cell? ⟨gb366, 0, none⟩ = some (.int .i64 x367000_1) := (blk_cell BK366.out 0).trans rfl; have hcz98_1 : wc.cell? ⟨gb366, 1, none⟩ = some (.string (⟨#[]⟩ : ByteArray)) := (blk_cell BK366.out 1).trans rfl; have hcz98_2 : wc.cell? ⟨gb366, 2, none⟩ = some (.string (⟨#[]⟩ : ByteArray)) := (blk_cell BK366.out 2).trans rfl; have hcz98_3 : wc.cell? ⟨gb366, 3, none⟩ = some (.int .i64 0) := (blk_cell BK366.out 3).trans rfl; have hcz98_4 : wc.cell? ⟨gb366, 4, none⟩ = some (.string (⟨#[]⟩ : ByteArray)) := (blk_cell BK366.out 4).trans rfl; have hfz98_0 := blk_frozen BK366.out 0; have hfz98_1 := blk_frozen BK366.out 1; have hfz98_2 := blk_frozen BK366.out 2; have hfz98_3 := blk_frozen BK366.out 3; have hfz98_4 := blk_frozen BK366.out 4
                            go_wp2_with (first | (go_at_call 10; (with_reducible refine (spec_ReqWrite.calls kj28 x367000_1 (⟨#[]⟩ : ByteArray) (⟨#[]⟩ : ByteArray) 0 (⟨#[]⟩ : ByteArray) t392 _ A95.out).mono ?_); rintro e w99 ⟨rfl, hb⟩; have n0_ := Aside0.mk (Kd.R_below (by (with_reducible repeat (first | apply Kd.R_alloc | apply Kd.R_drewN | apply Kd.R_drew)); exact HO_11.out) hb); have n1_ := Aside0.mk (blk_below (g := gb365) (o := .cells #[.int .i64 0, .string (⟨#[]⟩ : ByteArray), .string (⟨#[]⟩ : ByteArray), .int .i64 0, .string (⟨#[]⟩ : ByteArray)] 25 (0, 0)) (by (with_reducible repeat (first | refine blk_drewN ?_ _ | refine blk_drew ?_ | refine blk_alloc ?_ _)); exact BK365.out) hb); have n2_ := Aside0.mk (blk_below (g := gb366) (o := .cells #[.int .i64 x367000_1, .string (⟨#[]⟩ : ByteArray), .string (⟨#[]⟩ : ByteArray), .int .i64 0, .string (⟨#[]⟩ : ByteArray)] 25 (0, 0)) (by (with_reducible repeat (first | refine blk_drewN ?_ _ | refine blk_drew ?_ | refine blk_alloc ?_ _)); exact BK366.out) hb); have n3_ := Aside0.mk (below_step (by repeat (first | (with_reducible first | exact HB.out | apply below_alloc | apply pw_below_drewN | apply below_drew1 | refine below_set ?_ GE365.out | refine below_set ?_ GE366.out) | exact HB.out)) hb); clear HO_11; clear BK365; clear BK366; clear HB; have HO_11 := n0_; have BK365 := n1_; have BK366 := n2_; have HB := n3_; clear n0_ n1_ n2_ n3_; (try clear hb); (try clear hb2); (try clear hk); (try clear hi); have hcz100_0 : w99.cell? ⟨gb366, 0, none⟩ = some (.int .i64 x367000_1) := (blk_cell BK366.out 0).trans rfl; have hcz100_1 : w99.cell? ⟨gb366, 1, none⟩ = some (.string (⟨#[]⟩ : ByteArray)) := (blk_cell BK366.out 1).trans rfl; have hcz100_2 : w99.cell? ⟨gb366, 2, none⟩ = some (.string (⟨#[]⟩ : ByteArray)) := (blk_cell BK366.out 2).trans rfl; have hcz100_3 : w99.cell? ⟨gb366, 3, none⟩ = some (.int .i64 0) := (blk_cell BK366.out 3).trans rfl; have hcz100_4 : w99.cell? ⟨gb366, 4, none⟩ = some (.string (⟨#[]⟩ : ByteArray)) := (blk_cell BK366.out 4).trans rfl; have hfz100_0 := blk_frozen BK366.out 0; have hfz100_1 := blk_frozen BK366.out 1; have hfz100_2 := blk_frozen BK366.out 2; have hfz100_3 := blk_frozen BK366.out 3; have hfz100_4 := blk_frozen BK366.out 4; have hcz101_0 : w99.cell? ⟨gb365, 0, none⟩ = some (.int .i64 0) := (blk_cell BK365.out 0).trans rfl; have hcz101_1 : w99.cell? ⟨gb365, 1, none⟩ = some (.string (⟨#[]⟩ : ByteArray)) := (blk_cell BK365.out 1).trans rfl; have hcz101_2 : w99.cell? ⟨gb365, 2, none⟩ = some (.string (⟨#[]⟩ : ByteArray)) := (blk_cell BK365.out 2).trans rfl; have hcz101_3 : w99.cell? ⟨gb365, 3, none⟩ = some (.int .i64 0) := (blk_cell BK365.out 3).trans rfl; have hcz101_4 : w99.cell? ⟨gb365, 4, none⟩ = some (.string (⟨#[]⟩ : ByteArray)) := (blk_cell BK365.out 4).trans rfl; have hfz101_0 := blk_frozen BK365.out 0; have hfz101_1 := blk_frozen BK365.out 1; have hfz101_2 := blk_frozen BK365.out 2; have hfz101_3 := blk_frozen BK365.out 3; have hfz101_4 := blk_frozen BK365.out 4))
                            refine bodyPost_ret (results_ct rfl _ _ gb365 25 #[.int .i64 x367000_1, .string (⟨#[]⟩ : ByteArray), .string (⟨#[]⟩ : ByteArray), .int .i64 0, .string (⟨#[]⟩ : ByteArray)] (0, 0) _ rfl (by (with_reducible repeat (first | refine blk_drewN ?_ _ | refine blk_drew ?_ | refine blk_alloc ?_ _)); refine blk_put (cs := #[.int .i64 x367000_1, .string (⟨#[]⟩ : ByteArray), .string (⟨#[]⟩ : ByteArray), .int .i64 0, .string (⟨#[]⟩ : ByteArray)]) ?_ 4 _ rfl; (with_reducible repeat (first | refine blk_drewN ?_ _ | refine blk_drew ?_ | refine blk_alloc ?_ _)); refine blk_put (cs := #[.int .i64 x367000_1, .string (⟨#[]⟩ : ByteArray), .string (⟨#[]⟩ : ByteArray), .int .i64 0, .string (⟨#[]⟩ : ByteArray)]) ?_ 3 _ rfl; (with_reducible repeat (first | refine blk_drewN ?_ _ | refine blk_drew ?_ | refine blk_alloc ?_ _)); refine blk_put (cs := #[.int .i64 x367000_1, .string (⟨#[]⟩ : ByteArray), .string (⟨#[]⟩ : ByteArray), .int .i64 0, .string (⟨#[]⟩ : ByteArray)]) ?_ 2 _ rfl; (with_reducible repeat (first | refine blk_drewN ?_ _ | refine blk_drew ?_ | refine blk_alloc ?_ _)); refine blk_put (cs := #[.int .i64 x367000_1, .string (⟨#[]⟩ : ByteArray), .string (⟨#[]⟩ : ByteArray), .int .i64 0, .string (⟨#[]⟩ : ByteArray)]) ?_ 1 _ rfl; (with_reducible repeat (first | refine blk_drewN ?_ _ | refine blk_drew ?_ | refine blk_alloc ?_ _)); refine blk_put (cs := #[.int .i64 0, .string (⟨#[]⟩ : ByteArray), .string (⟨#[]⟩ : ByteArray), .int .i64 0, .string (⟨#[]⟩ : ByteArray)]) ?_ 0 _ rfl; (with_reducible repeat (first | refine blk_drewN ?_ _ | refine blk_drew ?_ | refine blk_alloc ?_ _)); exact BK365.out) Tryd.underlying25 rfl (by kernel_rfl)) rfl ?_
                            exact ⟨by first | rfl | (simp [errW_none, errW_some] <;> rfl) | (simp [*, errW_none, errW_some] <;> rfl), by repeat (first | (with_reducible first | exact HB.out | apply below_alloc | apply pw_below_drewN | apply below_drew1 | refine below_set ?_ GE365.out | refine below_set ?_ GE366.out) | exact HB.out)⟩
                          · rw [if_neg c96] at H
                            have c96b0 : (t392.toList == a0.toList) = false := beq_eq_false_iff_ne.mpr c96; have c96b1 : (t392.toList != a0.toList) = true := bne_iff_ne.mpr c96; simp only [Option.some.injEq, Prod.mk.injEq] at H; obtain ⟨rfl, rfl, rfl, rfl, rfl, rfl⟩ := H; have hnb102 := NB366_365.out; have hnc102 := NB365_366.out; have hcz103_0 : wc.cell? ⟨gb366, 0, none⟩ = some (.int .i64 x367000_1) := (blk_cell BK366.out 0).trans rfl; have hcz103_1 : wc.cell? ⟨gb366, 1, none⟩ = some (.string (⟨#[]⟩ : ByteArray)) := (blk_cell BK366.out 1).trans rfl; have hcz103_2 : wc.cell? ⟨gb366, 2, none⟩ = some (.string (⟨#[]⟩ : ByteArray)) := (blk_cell BK366.out 2).trans rfl; have hcz103_3 : wc.cell? ⟨gb366, 3, none⟩ = some (.int .i64 0) := (blk_cell BK366.out 3).trans rfl; have hcz103_4 : wc.cell? ⟨gb366, 4, none⟩ = some (.string (⟨#[]⟩ : ByteArray)) := (blk_cell BK366.out 4).trans rfl; have hfz103_0 := blk_frozen BK366.out 0; have hfz103_1 := blk_frozen BK366.out 1; have hfz103_2 := blk_frozen BK366.out 2; have hfz103_3 := blk_frozen BK366.out 3; have hfz103_4 := blk_frozen BK366.out 4
                            go_wp2_with (first | (go_at_call 10; (with_reducible refine (spec_ReqWrite.calls kj28 x367000_1 (⟨#[]⟩ : ByteArray) (⟨#[]⟩ : ByteArray) 0 (⟨#[]⟩ : ByteArray) t392 _ A95.out).mono ?_); rintro e w104 ⟨rfl, hb⟩; have n0_ := Aside0.mk (Kd.R_below (by (with_reducible repeat (first | apply Kd.R_alloc | apply Kd.R_drewN | apply Kd.R_drew)); exact HO_11.out) hb); have n1_ := Aside0.mk (blk_below (g := gb365) (o := .cells #[.int .i64 0, .string (⟨#[]⟩ : ByteArray), .string (⟨#[]⟩ : ByteArray), .int .i64 0, .string (⟨#[]⟩ : ByteArray)] 25 (0, 0)) (by (with_reducible repeat (first | refine blk_drewN ?_ _ | refine blk_drew ?_ | refine blk_alloc ?_ _)); exact BK365.out) hb); have n2_ := Aside0.mk (blk_below (g := gb366) (o := .cells #[.int .i64 x367000_1, .string (⟨#[]⟩ : ByteArray), .string (⟨#[]⟩ : ByteArray), .int .i64 0, .string (⟨#[]⟩ : ByteArray)] 25 (0, 0)) (by (with_reducible repeat (first | refine blk_drewN ?_ _ | refine blk_drew ?_ | refine blk_alloc ?_ _)); exact BK366.out) hb); have n3_ := Aside0.mk (below_step (by repeat (first | (with_reducible first | exact HB.out | apply below_alloc | apply pw_below_drewN | apply below_drew1 | refine below_set ?_ GE365.out | refine below_set ?_ GE366.out) | exact HB.out)) hb); clear HO_11; clear BK365; clear BK366; clear HB; have HO_11 := n0_; have BK365 := n1_; have BK366 := n2_; have HB := n3_; clear n0_ n1_ n2_ n3_; (try clear hb); (try clear hb2); (try clear hk); (try clear hi); have hcz105_0 : w104.cell? ⟨gb365, 0, none⟩ = some (.int .i64 0) := (blk_cell BK365.out 0).trans rfl; have hcz105_1 : w104.cell? ⟨gb365, 1, none⟩ = some (.string (⟨#[]⟩ : ByteArray)) := (blk_cell BK365.out 1).trans rfl; have hcz105_2 : w104.cell? ⟨gb365, 2, none⟩ = some (.string (⟨#[]⟩ : ByteArray)) := (blk_cell BK365.out 2).trans rfl; have hcz105_3 : w104.cell? ⟨gb365, 3, none⟩ = some (.int .i64 0) := (blk_cell BK365.out 3).trans rfl; have hcz105_4 : w104.cell? ⟨gb365, 4, none⟩ = some (.string (⟨#[]⟩ : ByteArray)) := (blk_cell BK365.out 4).trans rfl; have hfz105_0 := blk_frozen BK365.out 0; have hfz105_1 := blk_frozen BK365.out 1; have hfz105_2 := blk_frozen BK365.out 2; have hfz105_3 := blk_frozen BK365.out 3; have hfz105_4 := blk_frozen BK365.out 4))
                            refine bodyPost_ret (results_ct rfl _ _ gb365 25 #[.int .i64 0, .string (⟨#[]⟩ : ByteArray), .string (⟨#[]⟩ : ByteArray), .int .i64 0, .string (⟨#[]⟩ : ByteArray)] (0, 0) _ rfl (by (with_reducible repeat (first | refine blk_drewN ?_ _ | refine blk_drew ?_ | refine blk_alloc ?_ _)); refine blk_put (cs := #[.int .i64 0, .string (⟨#[]⟩ : ByteArray), .string (⟨#[]⟩ : ByteArray), .int .i64 0, .string (⟨#[]⟩ : ByteArray)]) ?_ 4 _ rfl; (with_reducible repeat (first | refine blk_drewN ?_ _ | refine blk_drew ?_ | refine blk_alloc ?_ _)); refine blk_put (cs := #[.int .i64 0, .string (⟨#[]⟩ : ByteArray), .string (⟨#[]⟩ : ByteArray), .int .i64 0, .string (⟨#[]⟩ : ByteArray)]) ?_ 3 _ rfl; (with_reducible repeat (first | refine blk_drewN ?_ _ | refine blk_drew ?_ | refine blk_alloc ?_ _)); refine blk_put (cs := #[.int .i64 0, .string (⟨#[]⟩ : ByteArray), .string (⟨#[]⟩ : ByteArray), .int .i64 0, .string (⟨#[]⟩ : ByteArray)]) ?_ 2 _ rfl; (with_reducible repeat (first | refine blk_drewN ?_ _ | refine blk_drew ?_ | refine blk_alloc ?_ _)); refine blk_put (cs := #[.int .i64 0, .string (⟨#[]⟩ : ByteArray), .string (⟨#[]⟩ : ByteArray), .int .i64 0, .string (⟨#[]⟩ : ByteArray)]) ?_ 1 _ rfl; (with_reducible repeat (first | refine blk_drewN ?_ _ | refine blk_drew ?_ | refine blk_alloc ?_ _)); refine blk_put (cs := #[.int .i64 0, .string (⟨#[]⟩ : ByteArray), .string (⟨#[]⟩ : ByteArray), .int .i64 0, .string (⟨#[]⟩ : ByteArray)]) ?_ 0 _ rfl; (with_reducible repeat (first | refine blk_drewN ?_ _ | refine blk_drew ?_ | refine blk_alloc ?_ _)); exact BK365.out) Tryd.underlying25 rfl (by kernel_rfl)) rfl ?_
                            exact ⟨by first | rfl | (simp [errW_none, errW_some] <;> rfl) | (simp [*, errW_none, errW_some] <;> rfl), by repeat (first | (with_reducible first | exact HB.out | apply below_alloc | apply pw_below_drewN | apply below_drew1 | refine below_set ?_ GE365.out | refine below_set ?_ GE366.out) | exact HB.out)⟩
  · rw [if_neg c3] at H
    exact absurd H (by simp)
end Go.Proofs.YtbhnjglfjhfljaaDoor.P
namespace Go.Proofs.YtbhnjglfjhfljaaDoor.P
open Go.RowKit Go.Proofs.YtbhnjglfjhfljaaDoorW.PrintWords Go.Proofs.YtbhnjglfjhfljaaDoorW.PrintLast Go.Proofs.YtbhnjglfjhfljaaDoorW.PrintMore
attribute [local go_sem] max2_int min2_int max_two min_two max_three min_three max_four min_four   -- for this text's walks alone
set_option linter.unusedVariables false
set_option linter.unusedSimpArgs false
def laws_eqReq.f (a0_0 : Int) (a0_1 : ByteArray) (a0_2 : ByteArray) (a0_3 : Int) (a0_4 : ByteArray) (a1_0 : Int) (a1_1 : ByteArray) (a1_2 : ByteArray) (a1_3 : Int) (a1_4 : ByteArray) : Option (Bool) := if a0_0 = a1_0 then (if a0_1.toList = a1_1.toList then (if a0_2.toList = a1_2.toList then (if a0_3 = a1_3 then (if a0_4.toList = a1_4.toList then (some true) else (some false)) else (some false)) else (some false)) else (some false)) else (some false)
set_option maxHeartbeats 8000000 in
set_option maxRecDepth 100000 in
theorem laws_eqReq.calls (a0_0 : Int) (a0_1 : ByteArray) (a0_2 : ByteArray) (a0_3 : Int) (a0_4 : ByteArray) (a1_0 : Int) (a1_1 : ByteArray) (a1_2 : ByteArray) (a1_3 : Int) (a1_4 : ByteArray) (r : Bool) (w : World) (h : laws_eqReq.f a0_0 a0_1 a0_2 a0_3 a0_4 a1_0 a1_1 a1_2 a1_3 a1_4 = some r) :
    Calls Tryd.prog 13 #[.agg #[.int .i64 a0_0, .string a0_1, .string a0_2, .int .i64 a0_3, .string a0_4], .agg #[.int .i64 a1_0, .string a1_1, .string a1_2, .int .i64 a1_3, .string a1_4]] w fun e w' => e = .returned (.bool r) ∧ Below w.heap.size w w' := by
  have hu25 := Tryd.underlying25; have HB := Aside0.mk (Below.refl w.heap.size w); have H : (if a0_0 = a1_0 then (if a0_1.toList = a1_1.toList then (if a0_2.toList = a1_2.toList then (if a0_3 = a1_3 then (if a0_4.toList = a1_4.toList then (some true) else (some false)) else (some false)) else (some false)) else (some false)) else (some false)) = some r := h; clear h; by_cases c3 : a0_0 = a1_0
  · rw [if_pos c3] at H
    have c3b0 : (a0_0 == a1_0) = true := beq_iff_eq.mpr c3; have c3b1 : (a0_0 != a1_0) = false := bne_eq_false_iff_eq.mpr c3; clear c3; by_cases c4 : a0_1.toList = a1_1.toList
    · rw [if_pos c4] at H
      have c4b0 : (a0_1.toList == a1_1.toList) = true := beq_iff_eq.mpr c4; have c4b1 : (a0_1.toList != a1_1.toList) = false := bne_eq_false_iff_eq.mpr c4; clear c4; by_cases c5 : a0_2.toList = a1_2.toList
      · rw [if_pos c5] at H
        have c5b0 : (a0_2.toList == a1_2.toList) = true := beq_iff_eq.mpr c5; have c5b1 : (a0_2.toList != a1_2.toList) = false := bne_eq_false_iff_eq.mpr c5; clear c5; by_cases c6 : a0_3 = a1_3
        · rw [if_pos c6] at H
          have c6b0 : (a0_3 == a1_3) = true := beq_iff_eq.mpr c6; have c6b1 : (a0_3 != a1_3) = false := bne_eq_false_iff_eq.mpr c6; clear c6; by_cases c7 : a0_4.toList = a1_4.toList
          · rw [if_pos c7] at H
            have c7b0 : (a0_4.toList == a1_4.toList) = true := beq_iff_eq.mpr c7; have c7b1 : (a0_4.toList != a1_4.toList) = false := bne_eq_false_iff_eq.mpr c7; clear c7; obtain rfl := Option.some.inj H
            go_enter Tryd.func13, Tryd.ntmps13
            go_wp2_with (first | ((with_reducible refine gate_dst (N := 2) rfl ?_); refine box_event ?hg (N := 2) ?hd (cs := #[.int .i64 a0_0, .string a0_1, .string a0_2, .int .i64 a0_3, .string a0_4]) (t := 25) ?hr ?_; (case hd => rfl); (case hg => rfl); (case hr => first | (go_simp; done) | (go_simp; rfl)); intro gb480 hg w8 hbox hb; have n0_ := Aside0.mk (below_step (by repeat (first | (with_reducible first | exact HB.out | apply below_alloc | apply pw_below_drewN | apply below_drew1) | exact HB.out)) hb); have n1_ := Aside0.mk (hbox); have n2_ := Aside0.mk ((by rw [hg]; exact (below_size (by repeat (first | (with_reducible first | exact HB.out | apply below_alloc | apply pw_below_drewN | apply below_drew1) | exact HB.out))) : w.heap.size ≤ gb480)); have n3_ := Aside0.mk ((by rw [hg]; exact (below_size (by repeat (first | (with_reducible first | exact HB.out | apply below_alloc | apply pw_below_drewN | apply below_drew1) | exact HB.out))) : w.heap.size ≤ gb480)); clear HB; have HB := n0_; have BK480 := n1_; have GW480 := n2_; have GE480 := n3_; clear n0_ n1_ n2_ n3_; clear hb hbox hg) | ((with_reducible refine gate_dst (N := 3) rfl ?_); refine box_event ?hg (N := 3) ?hd (cs := #[.int .i64 a1_0, .string a1_1, .string a1_2, .int .i64 a1_3, .string a1_4]) (t := 25) ?hr ?_; (case hd => rfl); (case hg => rfl); (case hr => first | (go_simp; done) | (go_simp; rfl)); intro gb481 hg w9 hbox hb; have n0_ := Aside0.mk (blk_below (g := gb480) (o := .cells #[.int .i64 a0_0, .string a0_1, .string a0_2, .int .i64 a0_3, .string a0_4] 25 (0, 0)) (by (with_reducible repeat (first | refine blk_drewN ?_ _ | refine blk_drew ?_ | refine blk_alloc ?_ _)); exact BK480.out) hb); have n1_ := Aside0.mk (below_step (by repeat (first | (with_reducible first | exact HB.out | apply below_alloc | apply pw_below_drewN | apply below_drew1 | refine below_set ?_ GE480.out) | exact HB.out)) hb); have n2_ := Aside0.mk (hbox); have n3_ := Aside0.mk ((by rw [hg]; exact (below_size (by repeat (first | (with_reducible first | exact HB.out | apply below_alloc | apply pw_below_drewN | apply below_drew1 | refine below_set ?_ GE480.out) | exact HB.out))) : w.heap.size ≤ gb481)); have n4_ := Aside0.mk ((by rw [hg]; exact (below_size (by repeat (first | (with_reducible first | exact HB.out | apply below_alloc | apply pw_below_drewN | apply below_drew1 | refine below_set ?_ GE480.out) | exact HB.out))) : w.heap.size ≤ gb481)); have n5_ := Aside0.mk ((by rw [hg]; exact Nat.ne_of_lt (blk_lt (g := gb480) (o := .cells #[.int .i64 a0_0, .string a0_1, .string a0_2, .int .i64 a0_3, .string a0_4] 25 (0, 0)) (by (with_reducible repeat (first | refine blk_drewN ?_ _ | refine blk_drew ?_ | refine blk_alloc ?_ _)); exact BK480.out)) : gb480 ≠ gb481)); have n6_ := Aside0.mk ((by rw [hg]; exact Nat.ne_of_gt (blk_lt (g := gb480) (o := .cells #[.int .i64 a0_0, .string a0_1, .string a0_2, .int .i64 a0_3, .string a0_4] 25 (0, 0)) (by (with_reducible repeat (first | refine blk_drewN ?_ _ | refine blk_drew ?_ | refine blk_alloc ?_ _)); exact BK480.out)) : gb481 ≠ gb480)); clear BK480; clear HB; have BK480 := n0_; have HB := n1_; have BK481 := n2_; have GW481 := n3_; have GE481 := n4_; have NB480_481 := n5_; have NB481_480 := n6_; clear n0_ n1_ n2_ n3_ n4_ n5_ n6_; clear hb hbox hg; have hnb10 := NB480_481.out; have hnc10 := NB481_480.out; have hcz11_0 : w9.cell? ⟨gb480, 0, none⟩ = some (.int .i64 a0_0) := (blk_cell BK480.out 0).trans rfl; have hcz11_1 : w9.cell? ⟨gb480, 1, none⟩ = some (.string a0_1) := (blk_cell BK480.out 1).trans rfl; have hcz11_2 : w9.cell? ⟨gb480, 2, none⟩ = some (.string a0_2) := (blk_cell BK480.out 2).trans rfl; have hcz11_3 : w9.cell? ⟨gb480, 3, none⟩ = some (.int .i64 a0_3) := (blk_cell BK480.out 3).trans rfl; have hcz11_4 : w9.cell? ⟨gb480, 4, none⟩ = some (.string a0_4) := (blk_cell BK480.out 4).trans rfl; have hfz11_0 := blk_frozen BK480.out 0; have hfz11_1 := blk_frozen BK480.out 1; have hfz11_2 := blk_frozen BK480.out 2; have hfz11_3 := blk_frozen BK480.out 3; have hfz11_4 := blk_frozen BK480.out 4; have hcz12_0 : w9.cell? ⟨gb481, 0, none⟩ = some (.int .i64 a1_0) := (blk_cell BK481.out 0).trans rfl; have hcz12_1 : w9.cell? ⟨gb481, 1, none⟩ = some (.string a1_1) := (blk_cell BK481.out 1).trans rfl; have hcz12_2 : w9.cell? ⟨gb481, 2, none⟩ = some (.string a1_2) := (blk_cell BK481.out 2).trans rfl; have hcz12_3 : w9.cell? ⟨gb481, 3, none⟩ = some (.int .i64 a1_3) := (blk_cell BK481.out 3).trans rfl; have hcz12_4 : w9.cell? ⟨gb481, 4, none⟩ = some (.string a1_4) := (blk_cell BK481.out 4).trans rfl; have hfz12_0 := blk_frozen BK481.out 0; have hfz12_1 := blk_frozen BK481.out 1; have hfz12_2 := blk_frozen BK481.out 2; have hfz12_3 := blk_frozen BK481.out 3; have hfz12_4 := blk_frozen BK481.out 4))
            go_ret
            exact ⟨by first | rfl | (simp [errW_none, errW_some] <;> rfl) | (simp [*, errW_none, errW_some] <;> rfl), by repeat (first | (with_reducible first | exact HB.out | apply below_alloc | apply pw_below_drewN | apply below_drew1 | refine below_set ?_ GE480.out | refine below_set ?_ GE481.out) | exact HB.out)⟩
          · rw [if_neg c7] at H
            have c7b0 : (a0_4.toList == a1_4.toList) = false := beq_eq_false_iff_ne.mpr c7; have c7b1 : (a0_4.toList != a1_4.toList) = true := bne_iff_ne.mpr c7; obtain rfl := Option.some.inj H
            go_enter Tryd.func13, Tryd.ntmps13
            go_wp2_with (first | ((with_reducible refine gate_dst (N := 2) rfl ?_); refine box_event ?hg (N := 2) ?hd (cs := #[.int .i64 a0_0, .string a0_1, .string a0_2, .int .i64 a0_3, .string a0_4]) (t := 25) ?hr ?_; (case hd => rfl); (case hg => rfl); (case hr => first | (go_simp; done) | (go_simp; rfl)); intro gb480 hg w13 hbox hb; have n0_ := Aside0.mk (below_step (by repeat (first | (with_reducible first | exact HB.out | apply below_alloc | apply pw_below_drewN | apply below_drew1) | exact HB.out)) hb); have n1_ := Aside0.mk (hbox); have n2_ := Aside0.mk ((by rw [hg]; exact (below_size (by repeat (first | (with_reducible first | exact HB.out | apply below_alloc | apply pw_below_drewN | apply below_drew1) | exact HB.out))) : w.heap.size ≤ gb480)); have n3_ := Aside0.mk ((by rw [hg]; exact (below_size (by repeat (first | (with_reducible first | exact HB.out | apply below_alloc | apply pw_below_drewN | apply below_drew1) | exact HB.out))) : w.heap.size ≤ gb480)); clear HB; have HB := n0_; have BK480 := n1_; have GW480 := n2_; have GE480 := n3_; clear n0_ n1_ n2_ n3_; clear hb hbox hg) | ((with_reducible refine gate_dst (N := 3) rfl ?_); refine box_event ?hg (N := 3) ?hd (cs := #[.int .i64 a1_0, .string a1_1, .string a1_2, .int .i64 a1_3, .string a1_4]) (t := 25) ?hr ?_; (case hd => rfl); (case hg => rfl); (case hr => first | (go_simp; done) | (go_simp; rfl)); intro gb481 hg w14 hbox hb; have n0_ := Aside0.mk (blk_below (g := gb480) (o := .cells #[.int .i64 a0_0, .string a0_1, .string a0_2, .int .i64 a0_3, .string a0_4] 25 (0, 0)) (by (with_reducible repeat (first | refine blk_drewN ?_ _ | refine blk_drew ?_ | refine blk_alloc ?_ _)); exact BK480.out) hb); have n1_ := Aside0.mk (below_step (by repeat (first | (with_reducible first | exact HB.out | apply below_alloc | apply pw_below_drewN | apply below_drew1 | refine below_set ?_ GE480.out) | exact HB.out)) hb); have n2_ := Aside0.mk (hbox); have n3_ := Aside0.mk ((by rw [hg]; exact (below_size (by repeat (first | (with_reducible first | exact HB.out | apply below_alloc | apply pw_below_drewN | apply below_drew1 | refine below_set ?_ GE480.out) | exact HB.out))) : w.heap.size ≤ gb481)); have n4_ := Aside0.mk ((by rw [hg]; exact (below_size (by repeat (first | (with_reducible first | exact HB.out | apply below_alloc | apply pw_below_drewN | apply below_drew1 | refine below_set ?_ GE480.out) | exact HB.out))) : w.heap.size ≤ gb481)); have n5_ := Aside0.mk ((by rw [hg]; exact Nat.ne_of_lt (blk_lt (g := gb480) (o := .cells #[.int .i64 a0_0, .string a0_1, .string a0_2, .int .i64 a0_3, .string a0_4] 25 (0, 0)) (by (with_reducible repeat (first | refine blk_drewN ?_ _ | refine blk_drew ?_ | refine blk_alloc ?_ _)); exact BK480.out)) : gb480 ≠ gb481)); have n6_ := Aside0.mk ((by rw [hg]; exact Nat.ne_of_gt (blk_lt (g := gb480) (o := .cells #[.int .i64 a0_0, .string a0_1, .string a0_2, .int .i64 a0_3, .string a0_4] 25 (0, 0)) (by (with_reducible repeat (first | refine blk_drewN ?_ _ | refine blk_drew ?_ | refine blk_alloc ?_ _)); exact BK480.out)) : gb481 ≠ gb480)); clear BK480; clear HB; have BK480 := n0_; have HB := n1_; have BK481 := n2_; have GW481 := n3_; have GE481 := n4_; have NB480_481 := n5_; have NB481_480 := n6_; clear n0_ n1_ n2_ n3_ n4_ n5_ n6_; clear hb hbox hg; have hnb15 := NB480_481.out; have hnc15 := NB481_480.out; have hcz16_0 : w14.cell? ⟨gb480, 0, none⟩ = some (.int .i64 a0_0) := (blk_cell BK480.out 0).trans rfl; have hcz16_1 : w14.cell? ⟨gb480, 1, none⟩ = some (.string a0_1) := (blk_cell BK480.out 1).trans rfl; have hcz16_2 : w14.cell? ⟨gb480, 2, none⟩ = some (.string a0_2) := (blk_cell BK480.out 2).trans rfl; have hcz16_3 : w14.cell? ⟨gb480, 3, none⟩ = some (.int .i64 a0_3) := (blk_cell BK480.out 3).trans rfl; have hcz16_4 : w14.cell? ⟨gb480, 4, none⟩ = some (.string a0_4) := (blk_cell BK480.out 4).trans rfl; have hfz16_0 := blk_frozen BK480.out 0; have hfz16_1 := blk_frozen BK480.out 1; have hfz16_2 := blk_frozen BK480.out 2; have hfz16_3 := blk_frozen BK480.out 3; have hfz16_4 := blk_frozen BK480.out 4; have hcz17_0 : w14.cell? ⟨gb481, 0, none⟩ = some (.int .i64 a1_0) := (blk_cell BK481.out 0).trans rfl; have hcz17_1 : w14.cell? ⟨gb481, 1, none⟩ = some (.string a1_1) := (blk_cell BK481.out 1).trans rfl; have hcz17_2 : w14.cell? ⟨gb481, 2, none⟩ = some (.string a1_2) := (blk_cell BK481.out 2).trans rfl; have hcz17_3 : w14.cell? ⟨gb481, 3, none⟩ = some (.int .i64 a1_3) := (blk_cell BK481.out 3).trans rfl; have hcz17_4 : w14.cell? ⟨gb481, 4, none⟩ = some (.string a1_4) := (blk_cell BK481.out 4).trans rfl; have hfz17_0 := blk_frozen BK481.out 0; have hfz17_1 := blk_frozen BK481.out 1; have hfz17_2 := blk_frozen BK481.out 2; have hfz17_3 := blk_frozen BK481.out 3; have hfz17_4 := blk_frozen BK481.out 4))
            go_ret
            exact ⟨by first | rfl | (simp [errW_none, errW_some] <;> rfl) | (simp [*, errW_none, errW_some] <;> rfl), by repeat (first | (with_reducible first | exact HB.out | apply below_alloc | apply pw_below_drewN | apply below_drew1 | refine below_set ?_ GE480.out | refine below_set ?_ GE481.out) | exact HB.out)⟩
        · rw [if_neg c6] at H
          have c6b0 : (a0_3 == a1_3) = false := beq_eq_false_iff_ne.mpr c6; have c6b1 : (a0_3 != a1_3) = true := bne_iff_ne.mpr c6; obtain rfl := Option.some.inj H
          go_enter Tryd.func13, Tryd.ntmps13
          go_wp2_with (first | ((with_reducible refine gate_dst (N := 2) rfl ?_); refine box_event ?hg (N := 2) ?hd (cs := #[.int .i64 a0_0, .string a0_1, .string a0_2, .int .i64 a0_3, .string a0_4]) (t := 25) ?hr ?_; (case hd => rfl); (case hg => rfl); (case hr => first | (go_simp; done) | (go_simp; rfl)); intro gb480 hg w18 hbox hb; have n0_ := Aside0.mk (below_step (by repeat (first | (with_reducible first | exact HB.out | apply below_alloc | apply pw_below_drewN | apply below_drew1) | exact HB.out)) hb); have n1_ := Aside0.mk (hbox); have n2_ := Aside0.mk ((by rw [hg]; exact (below_size (by repeat (first | (with_reducible first | exact HB.out | apply below_alloc | apply pw_below_drewN | apply below_drew1) | exact HB.out))) : w.heap.size ≤ gb480)); have n3_ := Aside0.mk ((by rw [hg]; exact (below_size (by repeat (first | (with_reducible first | exact HB.out | apply below_alloc | apply pw_below_drewN | apply below_drew1) | exact HB.out))) : w.heap.size ≤ gb480)); clear HB; have HB := n0_; have BK480 := n1_; have GW480 := n2_; have GE480 := n3_; clear n0_ n1_ n2_ n3_; clear hb hbox hg) | ((with_reducible refine gate_dst (N := 3) rfl ?_); refine box_event ?hg (N := 3) ?hd (cs := #[.int .i64 a1_0, .string a1_1, .string a1_2, .int .i64 a1_3, .string a1_4]) (t := 25) ?hr ?_; (case hd => rfl); (case hg => rfl); (case hr => first | (go_simp; done) | (go_simp; rfl)); intro gb481 hg w19 hbox hb; have n0_ := Aside0.mk (blk_below (g := gb480) (o := .cells #[.int .i64 a0_0, .string a0_1, .string a0_2, .int .i64 a0_3, .string a0_4] 25 (0, 0)) (by (with_reducible repeat (first | refine blk_drewN ?_ _ | refine blk_drew ?_ | refine blk_alloc ?_ _)); exact BK480.out) hb); have n1_ := Aside0.mk (below_step (by repeat (first | (with_reducible first | exact HB.out | apply below_alloc | apply pw_below_drewN | apply below_drew1 | refine below_set ?_ GE480.out) | exact HB.out)) hb); have n2_ := Aside0.mk (hbox); have n3_ := Aside0.mk ((by rw [hg]; exact (below_size (by repeat (first | (with_reducible first | exact HB.out | apply below_alloc | apply pw_below_drewN | apply below_drew1 | refine below_set ?_ GE480.out) | exact HB.out))) : w.heap.size ≤ gb481)); have n4_ := Aside0.mk ((by rw [hg]; exact (below_size (by repeat (first | (with_reducible first | exact HB.out | apply below_alloc | apply pw_below_drewN | apply below_drew1 | refine below_set ?_ GE480.out) | exact HB.out))) : w.heap.size ≤ gb481)); have n5_ := Aside0.mk ((by rw [hg]; exact Nat.ne_of_lt (blk_lt (g := gb480) (o := .cells #[.int .i64 a0_0, .string a0_1, .string a0_2, .int .i64 a0_3, .string a0_4] 25 (0, 0)) (by (with_reducible repeat (first | refine blk_drewN ?_ _ | refine blk_drew ?_ | refine blk_alloc ?_ _)); exact BK480.out)) : gb480 ≠ gb481)); have n6_ := Aside0.mk ((by rw [hg]; exact Nat.ne_of_gt (blk_lt (g := gb480) (o := .cells #[.int .i64 a0_0, .string a0_1, .string a0_2, .int .i64 a0_3, .string a0_4] 25 (0, 0)) (by (with_reducible repeat (first | refine blk_drewN ?_ _ | refine blk_drew ?_ | refine blk_alloc ?_ _)); exact BK480.out)) : gb481 ≠ gb480)); clear BK480; clear HB; have BK480 := n0_; have HB := n1_; have BK481 := n2_; have GW481 := n3_; have GE481 := n4_; have NB480_481 := n5_; have NB481_480 := n6_; clear n0_ n1_ n2_ n3_ n4_ n5_ n6_; clear hb hbox hg; have hnb20 := NB480_481.out; have hnc20 := NB481_480.out; have hcz21_0 : w19.cell? ⟨gb480, 0, none⟩ = some (.int .i64 a0_0) := (blk_cell BK480.out 0).trans rfl; have hcz21_1 : w19.cell? ⟨gb480, 1, none⟩ = some (.string a0_1) := (blk_cell BK480.out 1).trans rfl; have hcz21_2 : w19.cell? ⟨gb480, 2, none⟩ = some (.string a0_2) := (blk_cell BK480.out 2).trans rfl; have hcz21_3 : w19.cell? ⟨gb480, 3, none⟩ = some (.int .i64 a0_3) := (blk_cell BK480.out 3).trans rfl; have hcz21_4 : w19.cell? ⟨gb480, 4, none⟩ = some (.string a0_4) := (blk_cell BK480.out 4).trans rfl; have hfz21_0 := blk_frozen BK480.out 0; have hfz21_1 := blk_frozen BK480.out 1; have hfz21_2 := blk_frozen BK480.out 2; have hfz21_3 := blk_frozen BK480.out 3; have hfz21_4 := blk_frozen BK480.out 4; have hcz22_0 : w19.cell? ⟨gb481, 0, none⟩ = some (.int .i64 a1_0) := (blk_cell BK481.out 0).trans rfl; have hcz22_1 : w19.cell? ⟨gb481, 1, none⟩ = some (.string a1_1) := (blk_cell BK481.out 1).trans rfl; have hcz22_2 : w19.cell? ⟨gb481, 2, none⟩ = some (.string a1_2) := (blk_cell BK481.out 2).trans rfl; have hcz22_3 : w19.cell? ⟨gb481, 3, none⟩ = some (.int .i64 a1_3) := (blk_cell BK481.out 3).trans rfl; have hcz22_4 : w19.cell? ⟨gb481, 4, none⟩ = some (.string a1_4) := (blk_cell BK481.out 4).trans rfl; have hfz22_0 := blk_frozen BK481.out 0; have hfz22_1 := blk_frozen BK481.out 1; have hfz22_2 := blk_frozen BK481.out 2; have hfz22_3 := blk_frozen BK481.out 3; have hfz22_4 := blk_frozen BK481.out 4))
          go_ret
          exact ⟨by first | rfl | (simp [errW_none, errW_some] <;> rfl) | (simp [*, errW_none, errW_some] <;> rfl), by repeat (first | (with_reducible first | exact HB.out | apply below_alloc | apply pw_below_drewN | apply below_drew1 | refine below_set ?_ GE480.out | refine below_set ?_ GE481.out) | exact HB.out)⟩
      · rw [if_neg c5] at H
        have c5b0 : (a0_2.toList == a1_2.toList) = false := beq_eq_false_iff_ne.mpr c5; have c5b1 : (a0_2.toList != a1_2.toList) = true := bne_iff_ne.mpr c5; obtain rfl := Option.some.inj H
        go_enter Tryd.func13, Tryd.ntmps13
        go_wp2_with (first | ((with_reducible refine gate_dst (N := 2) rfl ?_); refine box_event ?hg (N := 2) ?hd (cs := #[.int .i64 a0_0, .string a0_1, .string a0_2, .int .i64 a0_3, .string a0_4]) (t := 25) ?hr ?_; (case hd => rfl); (case hg => rfl); (case hr => first | (go_simp; done) | (go_simp; rfl)); intro gb480 hg w23 hbox hb; have n0_ := Aside0.mk (below_step (by repeat (first | (with_reducible first | exact HB.out | apply below_alloc | apply pw_below_drewN | apply below_drew1) | exact HB.out)) hb); have n1_ := Aside0.mk (hbox); have n2_ := Aside0.mk ((by rw [hg]; exact (below_size (by repeat (first | (with_reducible first | exact HB.out | apply below_alloc | apply pw_below_drewN | apply below_drew1) | exact HB.out))) : w.heap.size ≤ gb480)); have n3_ := Aside0.mk ((by rw [hg]; exact (below_size (by repeat (first | (with_reducible first | exact HB.out | apply below_alloc | apply pw_below_drewN | apply below_drew1) | exact HB.out))) : w.heap.size ≤ gb480)); clear HB; have HB := n0_; have BK480 := n1_; have GW480 := n2_; have GE480 := n3_; clear n0_ n1_ n2_ n3_; clear hb hbox hg) | ((with_reducible refine gate_dst (N := 3) rfl ?_); refine box_event ?hg (N := 3) ?hd (cs := #[.int .i64 a1_0, .string a1_1, .string a1_2, .int .i64 a1_3, .string a1_4]) (t := 25) ?hr ?_; (case hd => rfl); (case hg => rfl); (case hr => first | (go_simp; done) | (go_simp; rfl)); intro gb481 hg w24 hbox hb; have n0_ := Aside0.mk (blk_below (g := gb480) (o := .cells #[.int .i64 a0_0, .string a0_1, .string a0_2, .int .i64 a0_3, .string a0_4] 25 (0, 0)) (by (with_reducible repeat (first | refine blk_drewN ?_ _ | refine blk_drew ?_ | refine blk_alloc ?_ _)); exact BK480.out) hb); have n1_ := Aside0.mk (below_step (by repeat (first | (with_reducible first | exact HB.out | apply below_alloc | apply pw_below_drewN | apply below_drew1 | refine below_set ?_ GE480.out) | exact HB.out)) hb); have n2_ := Aside0.mk (hbox); have n3_ := Aside0.mk ((by rw [hg]; exact (below_size (by repeat (first | (with_reducible first | exact HB.out | apply below_alloc | apply pw_below_drewN | apply below_drew1 | refine below_set ?_ GE480.out) | exact HB.out))) : w.heap.size ≤ gb481)); have n4_ := Aside0.mk ((by rw [hg]; exact (below_size (by repeat (first | (with_reducible first | exact HB.out | apply below_alloc | apply pw_below_drewN | apply below_drew1 | refine below_set ?_ GE480.out) | exact HB.out))) : w.heap.size ≤ gb481)); have n5_ := Aside0.mk ((by rw [hg]; exact Nat.ne_of_lt (blk_lt (g := gb480) (o := .cells #[.int .i64 a0_0, .string a0_1, .string a0_2, .int .i64 a0_3, .string a0_4] 25 (0, 0)) (by (with_reducible repeat (first | refine blk_drewN ?_ _ | refine blk_drew ?_ | refine blk_alloc ?_ _)); exact BK480.out)) : gb480 ≠ gb481)); have n6_ := Aside0.mk ((by rw [hg]; exact Nat.ne_of_gt (blk_lt (g := gb480) (o := .cells #[.int .i64 a0_0, .string a0_1, .string a0_2, .int .i64 a0_3, .string a0_4] 25 (0, 0)) (by (with_reducible repeat (first | refine blk_drewN ?_ _ | refine blk_drew ?_ | refine blk_alloc ?_ _)); exact BK480.out)) : gb481 ≠ gb480)); clear BK480; clear HB; have BK480 := n0_; have HB := n1_; have BK481 := n2_; have GW481 := n3_; have GE481 := n4_; have NB480_481 := n5_; have NB481_480 := n6_; clear n0_ n1_ n2_ n3_ n4_ n5_ n6_; clear hb hbox hg; have hnb25 := NB480_481.out; have hnc25 := NB481_480.out; have hcz26_0 : w24.cell? ⟨gb480, 0, none⟩ = some (.int .i64 a0_0) := (blk_cell BK480.out 0).trans rfl; have hcz26_1 : w24.cell? ⟨gb480, 1, none⟩ = some (.string a0_1) := (blk_cell BK480.out 1).trans rfl; have hcz26_2 : w24.cell? ⟨gb480, 2, none⟩ = some (.string a0_2) := (blk_cell BK480.out 2).trans rfl; have hcz26_3 : w24.cell? ⟨gb480, 3, none⟩ = some (.int .i64 a0_3) := (blk_cell BK480.out 3).trans rfl; have hcz26_4 : w24.cell? ⟨gb480, 4, none⟩ = some (.string a0_4) := (blk_cell BK480.out 4).trans rfl; have hfz26_0 := blk_frozen BK480.out 0; have hfz26_1 := blk_frozen BK480.out 1; have hfz26_2 := blk_frozen BK480.out 2; have hfz26_3 := blk_frozen BK480.out 3; have hfz26_4 := blk_frozen BK480.out 4; have hcz27_0 : w24.cell? ⟨gb481, 0, none⟩ = some (.int .i64 a1_0) := (blk_cell BK481.out 0).trans rfl; have hcz27_1 : w24.cell? ⟨gb481, 1, none⟩ = some (.string a1_1) := (blk_cell BK481.out 1).trans rfl; have hcz27_2 : w24.cell? ⟨gb481, 2, none⟩ = some (.string a1_2) := (blk_cell BK481.out 2).trans rfl; have hcz27_3 : w24.cell? ⟨gb481, 3, none⟩ = some (.int .i64 a1_3) := (blk_cell BK481.out 3).trans rfl; have hcz27_4 : w24.cell? ⟨gb481, 4, none⟩ = some (.string a1_4) := (blk_cell BK481.out 4).trans rfl; have hfz27_0 := blk_frozen BK481.out 0; have hfz27_1 := blk_frozen BK481.out 1; have hfz27_2 := blk_frozen BK481.out 2; have hfz27_3 := blk_frozen BK481.out 3; have hfz27_4 := blk_frozen BK481.out 4))
        go_ret
        exact ⟨by first | rfl | (simp [errW_none, errW_some] <;> rfl) | (simp [*, errW_none, errW_some] <;> rfl), by repeat (first | (with_reducible first | exact HB.out | apply below_alloc | apply pw_below_drewN | apply below_drew1 | refine below_set ?_ GE480.out | refine below_set ?_ GE481.out) | exact HB.out)⟩
    · rw [if_neg c4] at H
      have c4b0 : (a0_1.toList == a1_1.toList) = false := beq_eq_false_iff_ne.mpr c4; have c4b1 : (a0_1.toList != a1_1.toList) = true := bne_iff_ne.mpr c4; obtain rfl := Option.some.inj H
      go_enter Tryd.func13, Tryd.ntmps13
      go_wp2_with (first | ((with_reducible refine gate_dst (N := 2) rfl ?_); refine box_event ?hg (N := 2) ?hd (cs := #[.int .i64 a0_0, .string a0_1, .string a0_2, .int .i64 a0_3, .string a0_4]) (t := 25) ?hr ?_; (case hd => rfl); (case hg => rfl); (case hr => first | (go_simp; done) | (go_simp; rfl)); intro gb480 hg w28 hbox hb; have n0_ := Aside0.mk (below_step (by repeat (first | (with_reducible first | exact HB.out | apply below_alloc | apply pw_below_drewN | apply below_drew1) | exact HB.out)) hb); have n1_ := Aside0.mk (hbox); have n2_ := Aside0.mk ((by rw [hg]; exact (below_size (by repeat (first | (with_reducible first | exact HB.out | apply below_alloc | apply pw_below_drewN | apply below_drew1) | exact HB.out))) : w.heap.size ≤ gb480)); have n3_ := Aside0.mk ((by rw [hg]; exact (below_size (by repeat (first | (with_reducible first | exact HB.out | apply below_alloc | apply pw_below_drewN | apply below_drew1) | exact HB.out))) : w.heap.size ≤ gb480)); clear HB; have HB := n0_; have BK480 := n1_; have GW480 := n2_; have GE480 := n3_; clear n0_ n1_ n2_ n3_; clear hb hbox hg) | ((with_reducible refine gate_dst (N := 3) rfl ?_); refine box_event ?hg (N := 3) ?hd (cs := #[.int .i64 a1_0, .string a1_1, .string a1_2, .int .i64 a1_3, .string a1_4]) (t := 25) ?hr ?_; (case hd => rfl); (case hg => rfl); (case hr => first | (go_simp; done) | (go_simp; rfl)); intro gb481 hg w29 hbox hb; have n0_ := Aside0.mk (blk_below (g := gb480) (o := .cells #[.int .i64 a0_0, .string a0_1, .string a0_2, .int .i64 a0_3, .string a0_4] 25 (0, 0)) (by (with_reducible repeat (first | refine blk_drewN ?_ _ | refine blk_drew ?_ | refine blk_alloc ?_ _)); exact BK480.out) hb); have n1_ := Aside0.mk (below_step (by repeat (first | (with_reducible first | exact HB.out | apply below_alloc | apply pw_below_drewN | apply below_drew1 | refine below_set ?_ GE480.out) | exact HB.out)) hb); have n2_ := Aside0.mk (hbox); have n3_ := Aside0.mk ((by rw [hg]; exact (below_size (by repeat (first | (with_reducible first | exact HB.out | apply below_alloc | apply pw_below_drewN | apply below_drew1 | refine below_set ?_ GE480.out) | exact HB.out))) : w.heap.size ≤ gb481)); have n4_ := Aside0.mk ((by rw [hg]; exact (below_size (by repeat (first | (with_reducible first | exact HB.out | apply below_alloc | apply pw_below_drewN | apply below_drew1 | refine below_set ?_ GE480.out) | exact HB.out))) : w.heap.size ≤ gb481)); have n5_ := Aside0.mk ((by rw [hg]; exact Nat.ne_of_lt (blk_lt (g := gb480) (o := .cells #[.int .i64 a0_0, .string a0_1, .string a0_2, .int .i64 a0_3, .string a0_4] 25 (0, 0)) (by (with_reducible repeat (first | refine blk_drewN ?_ _ | refine blk_drew ?_ | refine blk_alloc ?_ _)); exact BK480.out)) : gb480 ≠ gb481)); have n6_ := Aside0.mk ((by rw [hg]; exact Nat.ne_of_gt (blk_lt (g := gb480) (o := .cells #[.int .i64 a0_0, .string a0_1, .string a0_2, .int .i64 a0_3, .string a0_4] 25 (0, 0)) (by (with_reducible repeat (first | refine blk_drewN ?_ _ | refine blk_drew ?_ | refine blk_alloc ?_ _)); exact BK480.out)) : gb481 ≠ gb480)); clear BK480; clear HB; have BK480 := n0_; have HB := n1_; have BK481 := n2_; have GW481 := n3_; have GE481 := n4_; have NB480_481 := n5_; have NB481_480 := n6_; clear n0_ n1_ n2_ n3_ n4_ n5_ n6_; clear hb hbox hg; have hnb30 := NB480_481.out; have hnc30 := NB481_480.out; have hcz31_0 : w29.cell? ⟨gb480, 0, none⟩ = some (.int .i64 a0_0) := (blk_cell BK480.out 0).trans rfl; have hcz31_1 : w29.cell? ⟨gb480, 1, none⟩ = some (.string a0_1) := (blk_cell BK480.out 1).trans rfl; have hcz31_2 : w29.cell? ⟨gb480, 2, none⟩ = some (.string a0_2) := (blk_cell BK480.out 2).trans rfl; have hcz31_3 : w29.cell? ⟨gb480, 3, none⟩ = some (.int .i64 a0_3) := (blk_cell BK480.out 3).trans rfl; have hcz31_4 : w29.cell? ⟨gb480, 4, none⟩ = some (.string a0_4) := (blk_cell BK480.out 4).trans rfl; have hfz31_0 := blk_frozen BK480.out 0; have hfz31_1 := blk_frozen BK480.out 1; have hfz31_2 := blk_frozen BK480.out 2; have hfz31_3 := blk_frozen BK480.out 3; have hfz31_4 := blk_frozen BK480.out 4; have hcz32_0 : w29.cell? ⟨gb481, 0, none⟩ = some (.int .i64 a1_0) := (blk_cell BK481.out 0).trans rfl; have hcz32_1 : w29.cell? ⟨gb481, 1, none⟩ = some (.string a1_1) := (blk_cell BK481.out 1).trans rfl; have hcz32_2 : w29.cell? ⟨gb481, 2, none⟩ = some (.string a1_2) := (blk_cell BK481.out 2).trans rfl; have hcz32_3 : w29.cell? ⟨gb481, 3, none⟩ = some (.int .i64 a1_3) := (blk_cell BK481.out 3).trans rfl; have hcz32_4 : w29.cell? ⟨gb481, 4, none⟩ = some (.string a1_4) := (blk_cell BK481.out 4).trans rfl; have hfz32_0 := blk_frozen BK481.out 0; have hfz32_1 := blk_frozen BK481.out 1; have hfz32_2 := blk_frozen BK481.out 2; have hfz32_3 := blk_frozen BK481.out 3; have hfz32_4 := blk_frozen BK481.out 4))
      go_ret
      exact ⟨by first | rfl | (simp [errW_none, errW_some] <;> rfl) | (simp [*, errW_none, errW_some] <;> rfl), by repeat (first | (with_reducible first | exact HB.out | apply below_alloc | apply pw_below_drewN | apply below_drew1 | refine below_set ?_ GE480.out | refine below_set ?_ GE481.out) | exact HB.out)⟩
  · rw [if_neg c3] at H
    have c3b0 : (a0_0 == a1_0) = false := beq_eq_false_iff_ne.mpr c3; have c3b1 : (a0_0 != a1_0) = true := bne_iff_ne.mpr c3; obtain rfl := Option.some.inj H
    go_enter Tryd.func13, Tryd.ntmps13
    go_wp2_with (first | ((with_reducible refine gate_dst (N := 2) rfl ?_); refine box_event ?hg (N := 2) ?hd (cs := #[.int .i64 a0_0, .string a0_1, .string a0_2, .int .i64 a0_3, .string a0_4]) (t := 25) ?hr ?_; (case hd => rfl); (case hg => rfl); (case hr => first | (go_simp; done) | (go_simp; rfl)); intro gb480 hg w33 hbox hb; have n0_ := Aside0.mk (below_step (by repeat (first | (with_reducible first | exact HB.out | apply below_alloc | apply pw_below_drewN | apply below_drew1) | exact HB.out)) hb); have n1_ := Aside0.mk (hbox); have n2_ := Aside0.mk ((by rw [hg]; exact (below_size (by repeat (first | (with_reducible first | exact HB.out | apply below_alloc | apply pw_below_drewN | apply below_drew1) | exact HB.out))) : w.heap.size ≤ gb480)); have n3_ := Aside0.mk ((by rw [hg]; exact (below_size (by repeat (first | (with_reducible first | exact HB.out | apply below_alloc | apply pw_below_drewN | apply below_drew1) | exact HB.out))) : w.heap.size ≤ gb480)); clear HB; have HB := n0_; have BK480 := n1_; have GW480 := n2_; have GE480 := n3_; clear n0_ n1_ n2_ n3_; clear hb hbox hg) | ((with_reducible refine gate_dst (N := 3) rfl ?_); refine box_event ?hg (N := 3) ?hd (cs := #[.int .i64 a1_0, .string a1_1, .string a1_2, .int .i64 a1_3, .string a1_4]) (t := 25) ?hr ?_; (case hd => rfl); (case hg => rfl); (case hr => first | (go_simp; done) | (go_simp; rfl)); intro gb481 hg w34 hbox hb; have n0_ := Aside0.mk (blk_below (g := gb480) (o := .cells #[.int .i64 a0_0, .string a0_1, .string a0_2, .int .i64 a0_3, .string a0_4] 25 (0, 0)) (by (with_reducible repeat (first | refine blk_drewN ?_ _ | refine blk_drew ?_ | refine blk_alloc ?_ _)); exact BK480.out) hb); have n1_ := Aside0.mk (below_step (by repeat (first | (with_reducible first | exact HB.out | apply below_alloc | apply pw_below_drewN | apply below_drew1 | refine below_set ?_ GE480.out) | exact HB.out)) hb); have n2_ := Aside0.mk (hbox); have n3_ := Aside0.mk ((by rw [hg]; exact (below_size (by repeat (first | (with_reducible first | exact HB.out | apply below_alloc | apply pw_below_drewN | apply below_drew1 | refine below_set ?_ GE480.out) | exact HB.out))) : w.heap.size ≤ gb481)); have n4_ := Aside0.mk ((by rw [hg]; exact (below_size (by repeat (first | (with_reducible first | exact HB.out | apply below_alloc | apply pw_below_drewN | apply below_drew1 | refine below_set ?_ GE480.out) | exact HB.out))) : w.heap.size ≤ gb481)); have n5_ := Aside0.mk ((by rw [hg]; exact Nat.ne_of_lt (blk_lt (g := gb480) (o := .cells #[.int .i64 a0_0, .string a0_1, .string a0_2, .int .i64 a0_3, .string a0_4] 25 (0, 0)) (by (with_reducible repeat (first | refine blk_drewN ?_ _ | refine blk_drew ?_ | refine blk_alloc ?_ _)); exact BK480.out)) : gb480 ≠ gb481)); have n6_ := Aside0.mk ((by rw [hg]; exact Nat.ne_of_gt (blk_lt (g := gb480) (o := .cells #[.int .i64 a0_0, .string a0_1, .string a0_2, .int .i64 a0_3, .string a0_4] 25 (0, 0)) (by (with_reducible repeat (first | refine blk_drewN ?_ _ | refine blk_drew ?_ | refine blk_alloc ?_ _)); exact BK480.out)) : gb481 ≠ gb480)); clear BK480; clear HB; have BK480 := n0_; have HB := n1_; have BK481 := n2_; have GW481 := n3_; have GE481 := n4_; have NB480_481 := n5_; have NB481_480 := n6_; clear n0_ n1_ n2_ n3_ n4_ n5_ n6_; clear hb hbox hg; have hnb35 := NB480_481.out; have hnc35 := NB481_480.out; have hcz36_0 : w34.cell? ⟨gb480, 0, none⟩ = some (.int .i64 a0_0) := (blk_cell BK480.out 0).trans rfl; have hcz36_1 : w34.cell? ⟨gb480, 1, none⟩ = some (.string a0_1) := (blk_cell BK480.out 1).trans rfl; have hcz36_2 : w34.cell? ⟨gb480, 2, none⟩ = some (.string a0_2) := (blk_cell BK480.out 2).trans rfl; have hcz36_3 : w34.cell? ⟨gb480, 3, none⟩ = some (.int .i64 a0_3) := (blk_cell BK480.out 3).trans rfl; have hcz36_4 : w34.cell? ⟨gb480, 4, none⟩ = some (.string a0_4) := (blk_cell BK480.out 4).trans rfl; have hfz36_0 := blk_frozen BK480.out 0; have hfz36_1 := blk_frozen BK480.out 1; have hfz36_2 := blk_frozen BK480.out 2; have hfz36_3 := blk_frozen BK480.out 3; have hfz36_4 := blk_frozen BK480.out 4; have hcz37_0 : w34.cell? ⟨gb481, 0, none⟩ = some (.int .i64 a1_0) := (blk_cell BK481.out 0).trans rfl; have hcz37_1 : w34.cell? ⟨gb481, 1, none⟩ = some (.string a1_1) := (blk_cell BK481.out 1).trans rfl; have hcz37_2 : w34.cell? ⟨gb481, 2, none⟩ = some (.string a1_2) := (blk_cell BK481.out 2).trans rfl; have hcz37_3 : w34.cell? ⟨gb481, 3, none⟩ = some (.int .i64 a1_3) := (blk_cell BK481.out 3).trans rfl; have hcz37_4 : w34.cell? ⟨gb481, 4, none⟩ = some (.string a1_4) := (blk_cell BK481.out 4).trans rfl; have hfz37_0 := blk_frozen BK481.out 0; have hfz37_1 := blk_frozen BK481.out 1; have hfz37_2 := blk_frozen BK481.out 2; have hfz37_3 := blk_frozen BK481.out 3; have hfz37_4 := blk_frozen BK481.out 4))
    go_ret
    exact ⟨by first | rfl | (simp [errW_none, errW_some] <;> rfl) | (simp [*, errW_none, errW_some] <;> rfl), by repeat (first | (with_reducible first | exact HB.out | apply below_alloc | apply pw_below_drewN | apply below_drew1 | refine below_set ?_ GE480.out | refine below_set ?_ GE481.out) | exact HB.out)⟩
end Go.Proofs.YtbhnjglfjhfljaaDoor.P
namespace Go.Proofs.YtbhnjglfjhfljaaDoor.P
open Go.RowKit Go.Proofs.YtbhnjglfjhfljaaDoorW.PrintWords Go.Proofs.YtbhnjglfjhfljaaDoorW.PrintLast Go.Proofs.YtbhnjglfjhfljaaDoorW.PrintMore
attribute [local go_sem] max2_int min2_int max_two min_two max_three min_three max_four min_four   -- for this text's walks alone
set_option linter.unusedVariables false
set_option linter.unusedSimpArgs false
def laws_FnExactReqRead.f (k : Nat) (a0 : ByteArray) : Option (Bool) := if (a0.size : Int) > 1048576 then (some true) else ((spec_ReqRead.f k a0).bind fun bt482 => ((impl_ReqRead.f k a0).bind fun bt489 => ((laws_eqReq.f bt489.1 bt489.2.1 bt489.2.2.1 bt489.2.2.2.1 bt489.2.2.2.2.1 bt482.1 bt482.2.1 bt482.2.2.1 bt482.2.2.2.1 bt482.2.2.2.2.1).bind fun t496 => (if t496 = true then (if (bt489.2.2.2.2.2 != bt482.2.2.2.2.2) = true then (some false) else (some true)) else (some false)))))
set_option maxHeartbeats 8000000 in
set_option maxRecDepth 100000 in
theorem laws_FnExactReqRead.calls (k : Nat) (a0 : ByteArray) (r : Bool) (w : World) (HTru_ : Aside0 (r = true)) (hT : TabT w) (h : laws_FnExactReqRead.f k a0 = some r) :
    Calls Tryd.prog 4 #[.string a0] w fun e w' => e = .returned (.bool r) ∧ Below w.heap.size w w' := by
  have hu25 := Tryd.underlying25; have HT := Aside0.mk hT; clear hT; have HB := Aside0.mk (Below.refl w.heap.size w); have H : (if (a0.size : Int) > 1048576 then (some true) else ((spec_ReqRead.f k a0).bind fun bt482 => ((impl_ReqRead.f k a0).bind fun bt489 => ((laws_eqReq.f bt489.1 bt489.2.1 bt489.2.2.1 bt489.2.2.2.1 bt489.2.2.2.2.1 bt482.1 bt482.2.1 bt482.2.2.1 bt482.2.2.2.1 bt482.2.2.2.2.1).bind fun t496 => (if t496 = true then (if (bt489.2.2.2.2.2 != bt482.2.2.2.2.2) = true then (some false) else (some true)) else (some false)))))) = some r := h; clear h; by_cases c2 : (a0.size : Int) > 1048576
  · rw [if_pos c2] at H
    have c2b0 : decide (1048576 < (a0.size : Int)) = true := decide_eq_true c2; have c2b1 : decide (1048576 < a0.size) = true := decide_eq_true (by omega); clear c2; obtain rfl := Option.some.inj H
    go_enter Tryd.func4, Tryd.ntmps4
    go_wp2
    go_ret
    exact ⟨by first | rfl | (simp [errW_none, errW_some] <;> rfl) | (simp [*, errW_none, errW_some] <;> rfl), by repeat (first | (with_reducible first | exact HB.out | apply below_alloc | apply pw_below_drewN | apply below_drew1) | exact HB.out)⟩
  · rw [if_neg c2] at H
    have c2b0 : decide (1048576 < (a0.size : Int)) = false := decide_eq_false c2; have c2b1 : decide (1048576 < a0.size) = false := decide_eq_false (by omega); clear c2; replace H := Option.bind_eq_some_iff.mp H; obtain ⟨⟨t482, t483, t484, t485, t486, t487⟩, A30, H⟩ := H; replace H : ((impl_ReqRead.f k a0).bind fun bt489 => ((laws_eqReq.f bt489.1 bt489.2.1 bt489.2.2.1 bt489.2.2.2.1 bt489.2.2.2.2.1 t482 t483 t484 t485 t486).bind fun t496 => (if t496 = true then (if (bt489.2.2.2.2.2 != t487) = true then (some false) else (some true)) else (some false)))) = some r := H; have A3 := Aside0.mk A30; clear A30; replace H := Option.bind_eq_some_iff.mp H; obtain ⟨⟨t489, t490, t491, t492, t493, t494⟩, A40, H⟩ := H; replace H : ((laws_eqReq.f t489 t490 t491 t492 t493 t482 t483 t484 t485 t486).bind fun t496 => (if t496 = true then (if (t494 != t487) = true then (some false) else (some true)) else (some false))) = some r := H; have A4 := Aside0.mk A40; clear A40; replace H := Option.bind_eq_some_iff.mp H; obtain ⟨t496, A50, H⟩ := H; replace H : (if t496 = true then (if (t494 != t487) = true then (some false) else (some true)) else (some false)) = some r := H; have A5 := Aside0.mk A50; clear A50; by_cases c6 : t496 = true
    · subst c6
      have H1 : (if (t494 != t487) = true then (some false) else (some true)) = some r := by rw [if_pos rfl] at H; exact H
      clear H; have H := H1; clear H1; by_cases c7 : (t494 != t487) = true
      · rw [if_pos c7] at H
        have c7b0 : (t494 != t487) = true := c7
        (try (have c7b1 : decide (t494 = t487) = false := by simpa using c7))
        (try (have c7b2 : (t494 == t487) = false := by simpa using c7))
        (try (have c7b3 : ¬ (t494 = t487) := by simpa using c7))
        clear c7
        exact absurd ((Option.some.inj H).trans HTru_.out) (by decide)
      · rw [if_neg c7] at H
        have c7b0 : (t494 != t487) = false := by simpa using c7
        (try (have c7b1 : decide (t494 = t487) = true := by simpa using c7))
        (try (have c7b2 : (t494 == t487) = true := by simpa using c7))
        clear c7; obtain rfl := Option.some.inj H
        go_enter Tryd.func4, Tryd.ntmps4
        go_wp2_with (first | ((with_reducible refine gate_callee (f := 7) rfl ?_); refine goesL_ (some 12) rfl rfl Tryd.func7 (by kernel_rfl) rfl #[.string a0] rfl (by (try simp only [List.map_toArray, List.map_cons, List.map_nil]); first | done | rfl | (simp only [List.length_drop, List.length_take]; rfl)) ?_; (with_reducible refine (spec_ReqRead.calls k a0 t482 t483 t484 t485 t486 t487 _ A3.out).mono ?_); rintro e w8 ⟨rfl, hb⟩; refine ⟨_, rfl, ?_⟩; have n0_ := Aside0.mk (below_step (by repeat (first | (with_reducible first | exact HB.out | apply below_alloc | apply pw_below_drewN | apply below_drew1) | exact HB.out)) hb); clear HB; have HB := n0_; clear n0_; (try clear hb); (try clear hb2); (try clear hk); (try clear hi)) | ((with_reducible refine gate_dst (N := 3) rfl ?_); refine box_event ?hg (N := 3) ?hd (cs := #[.int .i64 0, .string (⟨#[]⟩ : ByteArray), .string (⟨#[]⟩ : ByteArray), .int .i64 0, .string (⟨#[]⟩ : ByteArray)]) (t := 25) ?hr ?_; (case hd => rfl); (case hg => rfl); (case hr => first | (go_simp; done) | (go_simp; rfl)); intro gb488 hg w9 hbox hb; have n0_ := Aside0.mk (below_step (by repeat (first | (with_reducible first | exact HB.out | apply below_alloc | apply pw_below_drewN | apply below_drew1) | exact HB.out)) hb); have n1_ := Aside0.mk (hbox); have n2_ := Aside0.mk ((by rw [hg]; exact (below_size (by repeat (first | (with_reducible first | exact HB.out | apply below_alloc | apply pw_below_drewN | apply below_drew1) | exact HB.out))) : w.heap.size ≤ gb488)); have n3_ := Aside0.mk ((by rw [hg]; exact (below_size (by repeat (first | (with_reducible first | exact HB.out | apply below_alloc | apply pw_below_drewN | apply below_drew1) | exact HB.out))) : w.heap.size ≤ gb488)); clear HB; have HB := n0_; have BK488 := n1_; have GW488 := n2_; have GE488 := n3_; clear n0_ n1_ n2_ n3_; clear hb hbox hg; have hcz10_0 : w9.cell? ⟨gb488, 0, none⟩ = some (.int .i64 0) := (blk_cell BK488.out 0).trans rfl; have hcz10_1 : w9.cell? ⟨gb488, 1, none⟩ = some (.string (⟨#[]⟩ : ByteArray)) := (blk_cell BK488.out 1).trans rfl; have hcz10_2 : w9.cell? ⟨gb488, 2, none⟩ = some (.string (⟨#[]⟩ : ByteArray)) := (blk_cell BK488.out 2).trans rfl; have hcz10_3 : w9.cell? ⟨gb488, 3, none⟩ = some (.int .i64 0) := (blk_cell BK488.out 3).trans rfl; have hcz10_4 : w9.cell? ⟨gb488, 4, none⟩ = some (.string (⟨#[]⟩ : ByteArray)) := (blk_cell BK488.out 4).trans rfl; have hfz10_0 := blk_frozen BK488.out 0; have hfz10_1 := blk_frozen BK488.out 1; have hfz10_2 := blk_frozen BK488.out 2; have hfz10_3 := blk_frozen BK488.out 3; have hfz10_4 := blk_frozen BK488.out 4) | ((with_reducible refine gate_callee (f := 6) rfl ?_); refine goesL_ (some 17) rfl rfl Tryd.func6 (by kernel_rfl) rfl #[.string a0] rfl (by (try simp only [List.map_toArray, List.map_cons, List.map_nil]); first | done | rfl | (simp only [List.length_drop, List.length_take]; rfl)) ?_; (with_reducible refine (impl_ReqRead.calls k a0 t489 t490 t491 t492 t493 t494 _ ?side1 A4.out).mono ?_); (case side1 => exact TabT.below HT.out (by repeat (first | (with_reducible first | exact HB.out | apply below_alloc | apply pw_below_drewN | apply below_drew1 | refine below_set ?_ GE488.out) | exact HB.out))); rintro e w11 ⟨rfl, hb⟩; refine ⟨_, rfl, ?_⟩; have n0_ := Aside0.mk (blk_below (g := gb488) (o := .cells #[.int .i64 t482, .string t483, .string t484, .int .i64 t485, .string t486] 25 (0, 0)) (by (with_reducible repeat (first | refine blk_drewN ?_ _ | refine blk_drew ?_ | refine blk_alloc ?_ _)); refine blk_put (cs := #[.int .i64 t482, .string t483, .string t484, .int .i64 t485, .string (⟨#[]⟩ : ByteArray)]) ?_ 4 _ rfl; (with_reducible repeat (first | refine blk_drewN ?_ _ | refine blk_drew ?_ | refine blk_alloc ?_ _)); refine blk_put (cs := #[.int .i64 t482, .string t483, .string t484, .int .i64 0, .string (⟨#[]⟩ : ByteArray)]) ?_ 3 _ rfl; (with_reducible repeat (first | refine blk_drewN ?_ _ | refine blk_drew ?_ | refine blk_alloc ?_ _)); refine blk_put (cs := #[.int .i64 t482, .string t483, .string (⟨#[]⟩ : ByteArray), .int .i64 0, .string (⟨#[]⟩ : ByteArray)]) ?_ 2 _ rfl; (with_reducible repeat (first | refine blk_drewN ?_ _ | refine blk_drew ?_ | refine blk_alloc ?_ _)); refine blk_put (cs := #[.int .i64 t482, .string (⟨#[]⟩ : ByteArray), .string (⟨#[]⟩ : ByteArray), .int .i64 0, .string (⟨#[]⟩ : ByteArray)]) ?_ 1 _ rfl; (with_reducible repeat (first | refine blk_drewN ?_ _ | refine blk_drew ?_ | refine blk_alloc ?_ _)); refine blk_put (cs := #[.int .i64 0, .string (⟨#[]⟩ : ByteArray), .string (⟨#[]⟩ : ByteArray), .int .i64 0, .string (⟨#[]⟩ : ByteArray)]) ?_ 0 _ rfl; (with_reducible repeat (first | refine blk_drewN ?_ _ | refine blk_drew ?_ | refine blk_alloc ?_ _)); exact BK488.out) hb); have n1_ := Aside0.mk (below_step (by repeat (first | (with_reducible first | exact HB.out | apply below_alloc | apply pw_below_drewN | apply below_drew1 | refine below_set ?_ GE488.out) | exact HB.out)) hb); clear BK488; clear HB; have BK488 := n0_; have HB := n1_; clear n0_ n1_; (try clear hb); (try clear hb2); (try clear hk); (try clear hi)) | ((with_reducible refine gate_dst (N := 5) rfl ?_); refine box_event ?hg (N := 5) ?hd (cs := #[.int .i64 0, .string (⟨#[]⟩ : ByteArray), .string (⟨#[]⟩ : ByteArray), .int .i64 0, .string (⟨#[]⟩ : ByteArray)]) (t := 25) ?hr ?_; (case hd => rfl); (case hg => rfl); (case hr => first | (go_simp; done) | (go_simp; rfl)); intro gb495 hg w12 hbox hb; have n0_ := Aside0.mk (blk_below (g := gb488) (o := .cells #[.int .i64 t482, .string t483, .string t484, .int .i64 t485, .string t486] 25 (0, 0)) (by (with_reducible repeat (first | refine blk_drewN ?_ _ | refine blk_drew ?_ | refine blk_alloc ?_ _)); exact BK488.out) hb); have n1_ := Aside0.mk (below_step (by repeat (first | (with_reducible first | exact HB.out | apply below_alloc | apply pw_below_drewN | apply below_drew1 | refine below_set ?_ GE488.out) | exact HB.out)) hb); have n2_ := Aside0.mk (hbox); have n3_ := Aside0.mk ((by rw [hg]; exact (below_size (by repeat (first | (with_reducible first | exact HB.out | apply below_alloc | apply pw_below_drewN | apply below_drew1 | refine below_set ?_ GE488.out) | exact HB.out))) : w.heap.size ≤ gb495)); have n4_ := Aside0.mk ((by rw [hg]; exact (below_size (by repeat (first | (with_reducible first | exact HB.out | apply below_alloc | apply pw_below_drewN | apply below_drew1 | refine below_set ?_ GE488.out) | exact HB.out))) : w.heap.size ≤ gb495)); have n5_ := Aside0.mk ((by rw [hg]; exact Nat.ne_of_lt (blk_lt (g := gb488) (o := .cells #[.int .i64 t482, .string t483, .string t484, .int .i64 t485, .string t486] 25 (0, 0)) (by (with_reducible repeat (first | refine blk_drewN ?_ _ | refine blk_drew ?_ | refine blk_alloc ?_ _)); exact BK488.out)) : gb488 ≠ gb495)); have n6_ := Aside0.mk ((by rw [hg]; exact Nat.ne_of_gt (blk_lt (g := gb488) (o := .cells #[.int .i64 t482, .string t483, .string t484, .int .i64 t485, .string t486] 25 (0, 0)) (by (with_reducible repeat (first | refine blk_drewN ?_ _ | refine blk_drew ?_ | refine blk_alloc ?_ _)); exact BK488.out)) : gb495 ≠ gb488)); clear BK488; clear HB; have BK488 := n0_; have HB := n1_; have BK495 := n2_; have GW495 := n3_; have GE495 := n4_; have NB488_495 := n5_; have NB495_488 := n6_; clear n0_ n1_ n2_ n3_ n4_ n5_ n6_; clear hb hbox hg; have hnb13 := NB495_488.out; have hnc13 := NB488_495.out; have hcz14_0 : w12.cell? ⟨gb495, 0, none⟩ = some (.int .i64 0) := (blk_cell BK495.out 0).trans rfl; have hcz14_1 : w12.cell? ⟨gb495, 1, none⟩ = some (.string (⟨#[]⟩ : ByteArray)) := (blk_cell BK495.out 1).trans rfl; have hcz14_2 : w12.cell? ⟨gb495, 2, none⟩ = some (.string (⟨#[]⟩ : ByteArray)) := (blk_cell BK495.out 2).trans rfl; have hcz14_3 : w12.cell? ⟨gb495, 3, none⟩ = some (.int .i64 0) := (blk_cell BK495.out 3).trans rfl; have hcz14_4 : w12.cell? ⟨gb495, 4, none⟩ = some (.string (⟨#[]⟩ : ByteArray)) := (blk_cell BK495.out 4).trans rfl; have hfz14_0 := blk_frozen BK495.out 0; have hfz14_1 := blk_frozen BK495.out 1; have hfz14_2 := blk_frozen BK495.out 2; have hfz14_3 := blk_frozen BK495.out 3; have hfz14_4 := blk_frozen BK495.out 4; have hcz15_0 : w12.cell? ⟨gb488, 0, none⟩ = some (.int .i64 t482) := (blk_cell BK488.out 0).trans rfl; have hcz15_1 : w12.cell? ⟨gb488, 1, none⟩ = some (.string t483) := (blk_cell BK488.out 1).trans rfl; have hcz15_2 : w12.cell? ⟨gb488, 2, none⟩ = some (.string t484) := (blk_cell BK488.out 2).trans rfl; have hcz15_3 : w12.cell? ⟨gb488, 3, none⟩ = some (.int .i64 t485) := (blk_cell BK488.out 3).trans rfl; have hcz15_4 : w12.cell? ⟨gb488, 4, none⟩ = some (.string t486) := (blk_cell BK488.out 4).trans rfl; have hfz15_0 := blk_frozen BK488.out 0; have hfz15_1 := blk_frozen BK488.out 1; have hfz15_2 := blk_frozen BK488.out 2; have hfz15_3 := blk_frozen BK488.out 3; have hfz15_4 := blk_frozen BK488.out 4) | ((with_reducible refine gate_callee (f := 13) rfl ?_); refine goesL_ (some 22) rfl rfl Tryd.func13 (by kernel_rfl) rfl #[.agg #[.int .i64 t489, .string t490, .string t491, .int .i64 t492, .string t493], .agg #[.int .i64 t482, .string t483, .string t484, .int .i64 t485, .string t486]] rfl (by (try simp only [List.map_toArray, List.map_cons, List.map_nil]); first | done | rfl | (simp only [List.length_drop, List.length_take]; rfl)) ?_; (with_reducible refine (laws_eqReq.calls t489 t490 t491 t492 t493 t482 t483 t484 t485 t486 true _ A5.out).mono ?_); rintro e w16 ⟨rfl, hb⟩; refine ⟨_, rfl, ?_⟩; have n0_ := Aside0.mk (blk_below (g := gb488) (o := .cells #[.int .i64 t482, .string t483, .string t484, .int .i64 t485, .string t486] 25 (0, 0)) (by (with_reducible repeat (first | refine blk_drewN ?_ _ | refine blk_drew ?_ | refine blk_alloc ?_ _)); refine blk_far ?_ NB488_495.out _; (with_reducible repeat (first | refine blk_drewN ?_ _ | refine blk_drew ?_ | refine blk_alloc ?_ _)); refine blk_far ?_ NB488_495.out _; (with_reducible repeat (first | refine blk_drewN ?_ _ | refine blk_drew ?_ | refine blk_alloc ?_ _)); refine blk_far ?_ NB488_495.out _; (with_reducible repeat (first | refine blk_drewN ?_ _ | refine blk_drew ?_ | refine blk_alloc ?_ _)); refine blk_far ?_ NB488_495.out _; (with_reducible repeat (first | refine blk_drewN ?_ _ | refine blk_drew ?_ | refine blk_alloc ?_ _)); refine blk_far ?_ NB488_495.out _; (with_reducible repeat (first | refine blk_drewN ?_ _ | refine blk_drew ?_ | refine blk_alloc ?_ _)); exact BK488.out) hb); have n1_ := Aside0.mk (blk_below (g := gb495) (o := .cells #[.int .i64 t489, .string t490, .string t491, .int .i64 t492, .string t493] 25 (0, 0)) (by (with_reducible repeat (first | refine blk_drewN ?_ _ | refine blk_drew ?_ | refine blk_alloc ?_ _)); refine blk_put (cs := #[.int .i64 t489, .string t490, .string t491, .int .i64 t492, .string (⟨#[]⟩ : ByteArray)]) ?_ 4 _ rfl; (with_reducible repeat (first | refine blk_drewN ?_ _ | refine blk_drew ?_ | refine blk_alloc ?_ _)); refine blk_put (cs := #[.int .i64 t489, .string t490, .string t491, .int .i64 0, .string (⟨#[]⟩ : ByteArray)]) ?_ 3 _ rfl; (with_reducible repeat (first | refine blk_drewN ?_ _ | refine blk_drew ?_ | refine blk_alloc ?_ _)); refine blk_put (cs := #[.int .i64 t489, .string t490, .string (⟨#[]⟩ : ByteArray), .int .i64 0, .string (⟨#[]⟩ : ByteArray)]) ?_ 2 _ rfl; (with_reducible repeat (first | refine blk_drewN ?_ _ | refine blk_drew ?_ | refine blk_alloc ?_ _)); refine blk_put (cs := #[.int .i64 t489, .string (⟨#[]⟩ : ByteArray), .string (⟨#[]⟩ : ByteArray), .int .i64 0, .string (⟨#[]⟩ : ByteArray)]) ?_ 1 _ rfl; (with_reducible repeat (first | refine blk_drewN ?_ _ | refine blk_drew ?_ | refine blk_alloc ?_ _)); refine blk_put (cs := #[.int .i64 0, .string (⟨#[]⟩ : ByteArray), .string (⟨#[]⟩ : ByteArray), .int .i64 0, .string (⟨#[]⟩ : ByteArray)]) ?_ 0 _ rfl; (with_reducible repeat (first | refine blk_drewN ?_ _ | refine blk_drew ?_ | refine blk_alloc ?_ _)); exact BK495.out) hb); have n2_ := Aside0.mk (below_step (by repeat (first | (with_reducible first | exact HB.out | apply below_alloc | apply pw_below_drewN | apply below_drew1 | refine below_set ?_ GE488.out | refine below_set ?_ GE495.out) | exact HB.out)) hb); clear BK488; clear BK495; clear HB; have BK488 := n0_; have BK495 := n1_; have HB := n2_; clear n0_ n1_ n2_; (try clear hb); (try clear hb2); (try clear hk); (try clear hi)))
        go_ret
        exact ⟨by first | rfl | (simp [errW_none, errW_some] <;> rfl) | (simp [*, errW_none, errW_some] <;> rfl), by repeat (first | (with_reducible first | exact HB.out | apply below_alloc | apply pw_below_drewN | apply below_drew1 | refine below_set ?_ GE488.out | refine below_set ?_ GE495.out) | exact HB.out)⟩
    · replace c6 := Bool.eq_false_iff.mpr c6
      subst c6; have H1 : (some false) = some r := by rw [if_neg (show ¬ (false = true) by decide)] at H; exact H
      clear H; have H := H1; clear H1
      exact absurd ((Option.some.inj H).trans HTru_.out) (by decide)
/-- THE ONE PURE STATEMENT of laws_FnExactReqRead. -/
def laws_FnExactReqRead.Pure : Prop := ∀ (a0 : ByteArray), a0.size ≤ 9223372036854775807 → ∃ k, laws_FnExactReqRead.f k a0 = some true
theorem laws_FnExactReqRead.walk (P : laws_FnExactReqRead.Pure) (a0 : ByteArray) (w : World) (hT : TabT w) (g0 : a0.size ≤ 9223372036854775807) :
    Calls Tryd.prog 4 #[.string a0] w fun e w' => e = .returned (.bool true) ∧ Below w.heap.size w w' := by
  obtain ⟨k, h⟩ := P a0 g0; refine (laws_FnExactReqRead.calls k a0 true w (Aside0.mk rfl) hT h).mono ?_; rintro e w' ⟨rfl, hd⟩
  exact ⟨rfl, hd⟩
end Go.Proofs.YtbhnjglfjhfljaaDoor.P
