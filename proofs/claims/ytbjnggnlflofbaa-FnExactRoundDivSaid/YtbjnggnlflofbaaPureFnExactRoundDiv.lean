/-
  The pure law of RoundDiv: the program and the reference give the same number at every input. No condition.
-/
import Derived.Test.YtbjnggnlflofbaaPFnExactRoundDivx1
import Derived.Test.YtbjnggnlflofbaaPl
namespace Go.Proofs.Ytbjnggnlflofbaa.Pure
open Go.RowKit Go.Proofs.Ytbjnggnlflofbaa.PFnExactRoundDiv Go.Proofs.YtbjnggnlflofbaaW.PrintWords Go.Proofs.YtbjnggnlflofbaaW.PrintLast Go.Pl
set_option linter.unusedVariables false
set_option linter.unusedSimpArgs false

theorem s_RoundDiv (k : Nat) (a b : Int) : spec_RoundDiv.f (k + 1) a b = some (rdv a b) := by
  unfold spec_RoundDiv.f spec_l1In.f rdv
  by_cases h1 : b ≥ 1
  · rw [if_pos h1]
    by_cases h2 : b ≤ 4000000000000000000
    · simp only [Option.bind_some, h2, decide_true, if_true]
      by_cases h3 : a ≥ -4000000000000000000
      · rw [if_pos h3]
        by_cases h4 : a ≤ 4000000000000000000
        · rw [if_pos (show 1 ≤ b ∧ True ∧ -4000000000000000000 ≤ a ∧ a ≤ 4000000000000000000 from ⟨h1, trivial, h3, h4⟩)]
          simp only [Option.bind_some, h4, decide_true, Bool.not_true, spec_RoundDiv.j0, Bool.false_eq_true, if_false, spec_l5Floor.f]
          rw [if_neg (show ¬ b = 0 by omega)]
          have hd := div_le_abs (a := a) (b := b) (M := 4000000000000000000) (by omega) h3 h4 (by omega)
          have hm := Int.mul_ediv_add_emod a b
          have hm2 := Int.emod_lt_of_pos a (show 0 < b by omega)
          have hm3 := Int.emod_nonneg a (show b ≠ 0 by omega)
          rw [Int.mul_comm] at hm
          have e : (if Int.tmod a b < 0 then some (wrap64 (wrap64 (Int.tdiv a b) - 1)) else some (wrap64 (Int.tdiv a b))) = some (a / b) := by
            split
            · rename_i h; have := t_neg (show 0 < b by omega) h
              rw [wrap_id (n := Int.tdiv a b) (by omega) (by omega), this.1, wrap_id (by omega) (by omega)]
            · rename_i h; have := t_pos (a := a) (show 0 < b by omega) (by omega)
              rw [this.1, wrap_id (by omega) (by omega)]
          rw [e]
          simp only [Option.bind_some]
          generalize hq : a / b * b = z at *
          rw [wrap_id (n := z) (by omega) (by omega), wrap_id (n := a - z) (by omega) (by omega), wrap_id (n := b - (a - z)) (by omega) (by omega), wrap_id (n := a / b + 1) (by omega) (by omega)]
          by_cases hc : b ≤ 2 * (a % b)
          · rw [if_pos (by omega), if_pos hc]
          · rw [if_neg (by omega), if_neg hc]
        · simp [h4, spec_RoundDiv.j0]
      · simp [h3, spec_RoundDiv.j0]
    · simp [h2, spec_RoundDiv.j0]
  · simp [h1, spec_RoundDiv.j0]

theorem i_RoundDiv (k : Nat) (a b : Int) : impl_RoundDiv.f (k + 1) a b = some (rdv a b) := by
  unfold impl_RoundDiv.f impl_big18.f rdv
  by_cases h1 : b < 1
  · rw [if_pos h1, if_neg (by omega)]; simp [impl_RoundDiv.j0]
  · rw [if_neg h1]
    by_cases h2 : b > 4000000000000000000
    · rw [if_pos h2, if_neg (by omega)]; simp [impl_RoundDiv.j0]
    · rw [if_neg h2]
      by_cases h3 : a ≥ -4000000000000000000
      · rw [if_pos h3]
        by_cases h4 : a ≤ 4000000000000000000
        · rw [if_pos (show 1 ≤ b ∧ b ≤ 4000000000000000000 ∧ -4000000000000000000 ≤ a ∧ a ≤ 4000000000000000000 from ⟨by omega, by omega, h3, h4⟩)]
          simp only [Option.bind_some, h4, decide_true, Bool.not_true, impl_RoundDiv.j0, Bool.false_eq_true, if_false, impl_down.f]
          rw [if_neg (show ¬ b = 0 by omega)]
          have hd := div_le_abs (a := a) (b := b) (M := 4000000000000000000) (by omega) h3 h4 (by omega)
          have hm2 := Int.emod_lt_of_pos a (show 0 < b by omega)
          have hm3 := Int.emod_nonneg a (show b ≠ 0 by omega)
          have e : (if Int.tmod a b < 0 then some (wrap64 (wrap64 (Int.tdiv a b) - 1), wrap64 (Int.tmod a b + b)) else some (wrap64 (Int.tdiv a b), Int.tmod a b)) = some (a / b, a % b) := by
            split
            · rename_i h; have := t_neg (show 0 < b by omega) h
              rw [wrap_id (n := Int.tdiv a b) (by omega) (by omega), this.1, this.2, wrap_id (by omega) (by omega), wrap_id (by omega) (by omega)]
            · rename_i h; have := t_pos (a := a) (show 0 < b by omega) (by omega)
              rw [this.1, this.2, wrap_id (by omega) (by omega)]
          rw [e]
          simp only [Option.bind_some]
          rw [wrap_id (n := b - a % b) (by omega) (by omega), wrap_id (n := a / b + 1) (by omega) (by omega)]
          by_cases hc : b ≤ 2 * (a % b)
          · rw [if_pos (by omega), if_pos hc]
          · rw [if_neg (by omega), if_neg hc]
        · rw [if_neg (by omega)]; simp [h4, impl_RoundDiv.j0]
      · rw [if_neg h3, if_neg (by omega)]; simp [impl_RoundDiv.j0]

theorem FnExactRoundDiv : laws_FnExactRoundDiv.Pure := by
  intro a b ha hb
  refine ⟨1, ?_⟩
  unfold laws_FnExactRoundDiv.f
  rw [s_RoundDiv, i_RoundDiv]
  simp

end Go.Proofs.Ytbjnggnlflofbaa.Pure
