/-
  The row of 'FnExactPowPair': for every input the call returns true, and each argument reads as it did. No condition.
-/
import Derived.Test.YthoajaibaedjeaaRows
import Derived.Test.YthoajaibaedjeaaWalkFnExactPowPair
import Derived.WalkKit
import Derived.ProofKit
import Derived.OpenShut
import Derived.ChangeOld
import Derived.Below
import Derived.SizedLaws
import Derived.Lib.SmallJoins
namespace Go.Proofs.Ythoajaibaedjeaa.fnExactPowPair
open Go.ChangeShapes Go.WideShapes Go.ChangeAt Go.RowKit Go.Joins Go.Fl
set_option linter.unusedVariables false
set_option linter.unusedSimpArgs false
theorem own : ownKnob Try.prog.godebug = none := by kernel_rfl
theorem cellsPair : Try.prog.cellsOf 24 = 2 := by kernel_rfl
set_option maxRecDepth 100000 in
theorem lifted (os : Os) (started : os.Started) (H : Type) (enc : TypeId × Value → H) :
    ReturnsInHanded {} Try.checked os 3 .any (Rows.fnExactPowPairSpec.pre6 enc Try.prog Try.f3 Rows.fnExactPowPairRow.domain false) (Rows.fnExactPowPairSpec.post enc Try.prog Try.f3 false true false false) := by
  refine returnsInHanded_of_change_sized (C := Try.checked) own started (by kernel_rfl) Try.func3
    (ChangeSpec.witness6 (enc := enc) (C := Try.checked) false ⟨#[], #[.agg #[.float .f64 0, .float .f64 0], .int .i64 0], []⟩ 8 (by kernel_rfl) (by kernel_rfl) (by kernel_rfl) (by kernel_rfl)) ?_
  intro W base args ds gs before hval0 hW hcnd hsz0 _
  have hsz : (DataW.weightsEach Try.prog (Try.f3.params.toList ++ Rows.fnExactPowPairSpec.plain.varTypes Try.prog) (ds ++ gs)).all (· ≤ reachBytes) = true := hsz0
  have hval : ∀ (j : Nat) t v, Try.f3.params[j]? = some t → args[j]? = some v → Value.okWide Try.prog W .any base t v := hval0
  have hW' := hW
  obtain ⟨p, q, hA0, hV, rfl, hfz, hnd⟩ := hW
  have hA : DataW.TrodAll enc Try.prog W 0 (fun _ => true) true Try.f3.params.toList args.toList ds p := hA0
  rw [Try.params3] at hA hval hsz
  obtain ⟨v0, vs0, d0, ds0, p0, q0, hargs, rfl, rfl, h0, r0⟩ := trodAll_cons hA
  obtain ⟨v1, vs1, d1, ds1, p1, q1, rfl, rfl, rfl, h1, r1⟩ := trodAll_cons r0
  obtain ⟨rfl, rfl, rfl⟩ := trodAll_nil r1
  obtain rfl : args = #[v0, v1] := by cases args; simp_all
  obtain ⟨rfl, rfl⟩ := trodVars_none hV
  obtain ⟨c0_0, c1_0, y0_0, y1_0, m_0, rfl, rfl, rfl, hy0_0, hy1_0⟩ := open_agg2 Try.underlying24 (by kernel_rfl) cellsPair (hval 0 24 v0 rfl rfl) h0
  obtain ⟨a0, rfl, rfl, wa0⟩ := trod_float Try.underlying22 hy0_0
  obtain ⟨b0, rfl, rfl, wb0⟩ := trod_float Try.underlying22 hy1_0
  obtain ⟨a1, rfl, rfl, rfl, w1⟩ := open_int Try.underlying3 (hval 1 3 v1 rfl rfl) h1
  clear hA0 hval0 hsz0 hsz
  refine (walk_FnExactPowPair a0 b0 a1 W (lt_of_wf wa0) (lt_of_wf wb0) w1).mono fun e W' ⟨he, bel⟩ => ?_
  subst he
  exact ⟨_, rfl, _, _, _, [], _, [], hW', trodAll_mk1 (shut_bool Try.underlying4 _), (trodAll_cons_mk (shut_agg2 (y0 := (.lit (.float .f64 a0), [])) (y1 := (.lit (.float .f64 b0), [])) Try.underlying24 (by kernel_rfl) cellsPair (trod_float_mk Try.underlying22 wa0) (trod_float_mk Try.underlying22 wb0)) (trodAll_cons_mk (shut_int Try.underlying3 w1) trodAll_mk0)), rfl, bel.frame _, fun h => by cases h⟩
theorem over : Rows.fnExactPowPairRow.holds Try.pinned (OpenSpec.ofChange Rows.fnExactPowPairSpec) :=
  OpenClaim.holds_of_wide 3 Try.f3 rfl rfl rfl rfl rfl rfl rfl ⟨rfl, rfl, rfl, rfl, rfl⟩ rfl rfl rfl rfl rfl (by kernel_rfl) Try.func3 (by kernel_rfl)
    (of_decide_eq_true (by kernel_rfl)) (by unfold Func.isWrapper; first | (rw [if_pos (by decide +kernel)]; kernel_rfl) | (rw [if_neg (by decide +kernel)]; exact ⟨rfl, rfl⟩))
    (fun os started H enc _ => lifted os started H enc)
theorem proved : Rows.FnExactPowPairSaid := over
end Go.Proofs.Ythoajaibaedjeaa.fnExactPowPair
namespace Go.Proofs.Ythoajaibaedjeaa
/-- The row, under a short name, for the claim. -/
theorem fnExactPowPair_holds : Rows.FnExactPowPairSaid := fnExactPowPair.proved
#print axioms fnExactPowPair_holds
end Go.Proofs.Ythoajaibaedjeaa
