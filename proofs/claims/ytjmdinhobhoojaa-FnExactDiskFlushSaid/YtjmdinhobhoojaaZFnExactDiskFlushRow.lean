/- The law FnExactDiskFlush holds of the given program, as its statement says: whatever its arguments are, the call returns true and leaves them as they read before. No condition of ours. -/
import Derived.Test.YtjmdinhobhoojaaRows
import Derived.Test.YtjmdinhobhoojaaZFnExactDiskFlush2
import Derived.Test.YtjmdinhobhoojaaZFnExactDiskFlushV0
import Derived.WalkKit
import Derived.ProofKit
import Derived.OpenShut
import Derived.ShutString
import Derived.ChangeOld
import Derived.Below
import Derived.SizedLaws
import Derived.Test.YtjmdinhobhoojaaWSized
namespace Go.Proofs.Ytjmdinhobhoojaa.fnExactDiskFlush
open Go.ChangeShapes Go.WideShapes Go.ChangeAt Go.RowKit
open Go.ChangeMaps (open_string shut_string)
set_option linter.unusedVariables false
theorem own : ownKnob Try.prog.godebug = none := by kernel_rfl
theorem laidOut : laidOutB Try.prog = true := by kernel_rfl
set_option maxRecDepth 100000 in
theorem lifted (os : Os) (started : os.Started) (H : Type) (enc : TypeId × Value → H) :
    ReturnsInHanded {} Try.checked os 13 .any (Rows.fnExactDiskFlushSpec.pre6 enc Try.prog Try.f13 Rows.fnExactDiskFlushRow.domain false) (Rows.fnExactDiskFlushSpec.post enc Try.prog Try.f13 false true false false) := by
  refine returnsInHanded_of_change_sized (C := Try.checked) own started (by kernel_rfl) Try.func13
    (ChangeSpec.witness6 (enc := enc) (C := Try.checked) false ⟨#[], #[(.agg #[(.slice none 0 0), (.slice none 0 0), (.int .i64 0)])], []⟩ 8 (by kernel_rfl) (by kernel_rfl) (by kernel_rfl) (by kernel_rfl)) ?_
  intro W base args ds gs before hval0 hW hcnd hsz0 _
  have hval : ∀ (j : Nat) t v, Try.f13.params[j]? = some t → args[j]? = some v → Value.okWide Try.prog W .any base t v := hval0
  have hW' := hW
  obtain ⟨p, q, hA0, hV, rfl, hfz, hnd⟩ := hW
  have hA : DataW.TrodAll enc Try.prog W 0 (fun _ => true) true Try.f13.params.toList args.toList ds p := hA0
  rw [Try.params13] at hA hval
  obtain ⟨v0, vs0, d0, ds0, p0, q0, hargs, rfl, rfl, h0, r0⟩ := trodAll_cons hA
  obtain ⟨rfl, rfl, rfl⟩ := trodAll_nil r0
  obtain rfl : args = #[v0] := by cases args; simp_all
  obtain ⟨rfl, rfl⟩ := trodVars_none hV
  obtain ⟨cs0, rfl, hz0⟩ := okWide_struct Try.underlying32 (hval 0 32 v0 rfl rfl)
  have k0 := h0
  have lt0 : ∀ x ∈ p0, x.block < W.heap.size := by obtain ⟨m, hm⟩ := k0; exact DataW.trod_lt m _ _ _ hm
  obtain ⟨x0, K0, G0⟩ := Opens.arg_agg P.opens32 h0
  obtain ⟨A0_0, c0_0, A0_1, c0_1, e0, l0_0, r0_0, l0_1, r0_1⟩ := P.k32_open K0
  obtain rfl : cs0 = #[.slice A0_0 x0.f0.length c0_0, .slice A0_1 x0.f1.length c0_1, .int .i64 x0.f2] := by cases cs0; simpa using e0
  obtain ⟨G0_0, G0_1, G0_2⟩ := G0
  clear hA0 hval0 hsz0
  refine (P.laws_FnExactDiskFlush.walk Pure.FnExactDiskFlush A0_0 c0_0 x0.f0 A0_1 c0_1 x0.f1 x0.f2 W r0_0 l0_0 r0_1 l0_1 G0_0 G0_1 G0_2).mono fun e W' ⟨he, bel⟩ => ?_
  subst he
  exact ⟨_, rfl, _, _, _, [], _, [], hW', trodAll_mk1 (shut_bool Try.underlying4 _), (trodAll_cons_mk (Below.trod laidOut (by kernel_rfl) (of_decide_eq_true (by kernel_rfl)) k0 bel lt0) trodAll_mk0), rfl, bel.frame _, fun h => by cases h⟩
theorem over : Rows.fnExactDiskFlushRow.holds Try.pinned (OpenSpec.ofChange Rows.fnExactDiskFlushSpec) :=
  OpenClaim.holds_of_wide 13 Try.f13 rfl rfl rfl rfl rfl rfl rfl ⟨rfl, rfl, rfl, rfl, rfl⟩ rfl rfl rfl rfl rfl (by kernel_rfl) Try.func13 (by kernel_rfl)
    (of_decide_eq_true (by kernel_rfl)) (by unfold Func.isWrapper; first | (rw [if_pos (by decide +kernel)]; kernel_rfl) | (rw [if_neg (by decide +kernel)]; exact ⟨rfl, rfl⟩))
    (fun os started H enc _ => lifted os started H enc)
theorem proved : Rows.FnExactDiskFlushSaid := over
end Go.Proofs.Ytjmdinhobhoojaa.fnExactDiskFlush
namespace Go.Proofs.Ytjmdinhobhoojaa
/-- The row, under a short name, for the claim. -/
theorem fnExactDiskFlush_holds : Rows.FnExactDiskFlushSaid := fnExactDiskFlush.proved
end Go.Proofs.Ytjmdinhobhoojaa
