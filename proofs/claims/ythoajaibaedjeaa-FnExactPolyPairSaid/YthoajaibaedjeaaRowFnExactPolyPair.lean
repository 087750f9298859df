/-
  The row of 'FnExactPolyPair': for every input the call returns true, and each argument reads as it did. No condition.
-/
import Derived.Test.YthoajaibaedjeaaRows
import Derived.Test.YthoajaibaedjeaaWalkFnExactPolyPair
import Derived.WalkKit
import Derived.ProofKit
import Derived.OpenShut
import Derived.ChangeOld
import Derived.Below
import Derived.SizedLaws
import Derived.Lib.SmallJoins
namespace Go.Proofs.Ythoajaibaedjeaa.fnExactPolyPair
open Go.ChangeShapes Go.WideShapes Go.ChangeAt Go.RowKit Go.Joins Go.Fl
set_option linter.unusedVariables false
set_option linter.unusedSimpArgs false
theorem own : ownKnob Try.prog.godebug = none := by kernel_rfl
theorem laidOut : laidOutB Try.prog = true := by kernel_rfl
theorem cellsPair : Try.prog.cellsOf 24 = 2 := by kernel_rfl
set_option maxRecDepth 100000 in
theorem lifted (os : Os) (started : os.Started) (H : Type) (enc : TypeId × Value → H) :
    ReturnsInHanded {} Try.checked os 7 .any (Rows.fnExactPolyPairSpec.pre6 enc Try.prog Try.f7 Rows.fnExactPolyPairRow.domain false) (Rows.fnExactPolyPairSpec.post enc Try.prog Try.f7 false true false false) := by
  refine returnsInHanded_of_change_sized (C := Try.checked) own started (by kernel_rfl) Try.func7
    (ChangeSpec.witness6 (enc := enc) (C := Try.checked) false ⟨#[], #[.slice none 0 0, .agg #[.float .f64 0, .float .f64 0]], []⟩ 8 (by kernel_rfl) (by kernel_rfl) (by kernel_rfl) (by kernel_rfl)) ?_
  intro W base args ds gs before hval0 hW hcnd hsz0 _
  have hsz : (DataW.weightsEach Try.prog (Try.f7.params.toList ++ Rows.fnExactPolyPairSpec.plain.varTypes Try.prog) (ds ++ gs)).all (· ≤ reachBytes) = true := hsz0
  have hval : ∀ (j : Nat) t v, Try.f7.params[j]? = some t → args[j]? = some v → Value.okWide Try.prog W .any base t v := hval0
  have hW' := hW
  obtain ⟨p, q, hA0, hV, rfl, hfz, hnd⟩ := hW
  have hA : DataW.TrodAll enc Try.prog W 0 (fun _ => true) true Try.f7.params.toList args.toList ds p := hA0
  rw [Try.params7] at hA hval hsz
  obtain ⟨v0, vs0, d0, ds0, p0, q0, hargs, rfl, rfl, h0, r0⟩ := trodAll_cons hA
  obtain ⟨v1, vs1, d1, ds1, p1, q1, rfl, rfl, rfl, h1, r1⟩ := trodAll_cons r0
  obtain ⟨rfl, rfl, rfl⟩ := trodAll_nil r1
  obtain rfl : args = #[v0, v1] := by cases args; simp_all
  obtain ⟨rfl, rfl⟩ := trodVars_none hV
  obtain ⟨a0, len0, cap0, rfl⟩ := okWide_slice Try.underlying44 (hval 0 44 v0 rfl rfl)
  have k0 := h0
  have lt0 : ∀ x ∈ p0, x.block < W.heap.size := by obtain ⟨m, hm⟩ := k0; exact DataW.trod_lt m _ _ _ hm
  obtain ⟨z0, w0⟩ := pairs_of Try.underlying44 Try.underlying24 Try.underlying22 (by kernel_rfl) (by kernel_rfl) rfl rfl rfl rfl h0
  obtain ⟨c0_1, c1_1, y0_1, y1_1, m_1, rfl, rfl, rfl, hy0_1, hy1_1⟩ := open_agg2 Try.underlying24 (by kernel_rfl) cellsPair (hval 1 24 v1 rfl rfl) h1
  obtain ⟨a1, rfl, rfl, wa1⟩ := trod_float Try.underlying22 hy0_1
  obtain ⟨b1, rfl, rfl, wb1⟩ := trod_float Try.underlying22 hy1_1
  clear hA0 hval0 hsz0 hsz
  refine (walk_FnExactPolyPair a0 len0 cap0 z0 a1 b1 W w0 (lt_of_wf wa1) (lt_of_wf wb1)).mono fun e W' ⟨he, bel⟩ => ?_
  subst he
  exact ⟨_, rfl, _, _, _, [], _, [], hW', trodAll_mk1 (shut_bool Try.underlying4 _), (trodAll_cons_mk (Below.trod laidOut (by kernel_rfl) (of_decide_eq_true (by kernel_rfl)) k0 bel lt0) (trodAll_cons_mk (shut_agg2 (y0 := (.lit (.float .f64 a1), [])) (y1 := (.lit (.float .f64 b1), [])) Try.underlying24 (by kernel_rfl) cellsPair (trod_float_mk Try.underlying22 wa1) (trod_float_mk Try.underlying22 wb1)) trodAll_mk0)), rfl, bel.frame _, fun h => by cases h⟩
theorem over : Rows.fnExactPolyPairRow.holds Try.pinned (OpenSpec.ofChange Rows.fnExactPolyPairSpec) :=
  OpenClaim.holds_of_wide 7 Try.f7 rfl rfl rfl rfl rfl rfl rfl ⟨rfl, rfl, rfl, rfl, rfl⟩ rfl rfl rfl rfl rfl (by kernel_rfl) Try.func7 (by kernel_rfl)
    (of_decide_eq_true (by kernel_rfl)) (by unfold Func.isWrapper; first | (rw [if_pos (by decide +kernel)]; kernel_rfl) | (rw [if_neg (by decide +kernel)]; exact ⟨rfl, rfl⟩))
    (fun os started H enc _ => lifted os started H enc)
theorem proved : Rows.FnExactPolyPairSaid := over
end Go.Proofs.Ythoajaibaedjeaa.fnExactPolyPair
namespace Go.Proofs.Ythoajaibaedjeaa
/-- The row, under a short name, for the claim. -/
theorem fnExactPolyPair_holds : Rows.FnExactPolyPairSaid := fnExactPolyPair.proved
#print axioms fnExactPolyPair_holds
end Go.Proofs.Ythoajaibaedjeaa
