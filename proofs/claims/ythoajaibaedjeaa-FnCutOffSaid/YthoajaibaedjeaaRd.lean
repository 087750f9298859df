/-
  Contracts of RoundDiv, of the program and of the reference.
-/
import Derived.Test.YthoajaibaedjeaaDw
import Derived.Test.YthoajaibaedjeaaPl
namespace Go.Proofs.Ythoajaibaedjeaa
set_option linter.unusedSimpArgs false
set_option linter.unusedVariables false
open Go.RowKit Go.Dr

theorem ret_i64 {a b : Int} (h : a = b) : Ending.returned (.int .i64 a) = .returned (.int .i64 b) := by rw [h]

theorem ret_ii {a b c d : Int} (h : a = b) (k : c = d) : Ending.returned (.tuple #[.int .i64 a, .int .i64 c]) = .returned (.tuple #[.int .i64 b, .int .i64 d]) := by rw [h, k]

/-- Within reach of RoundDiv. -/
def okR (a b : Int) : Prop := 1 ≤ b ∧ b ≤ 4000000000000000000 ∧ -4000000000000000000 ≤ a ∧ a ≤ 4000000000000000000
theorem rdv_no {a b : Int} (h : ¬ okR a b) : Pl.rdv a b = 0 := by unfold okR at h; unfold Pl.rdv; rw [if_neg h]

/-- What stands in the middle of RoundDiv: the quotient and the rest as they are told, then down, then rounded. -/
theorem rdv_parts {a b : Int} (h : okR a b) : ∃ Q R D E : Int, wrap64 (Int.tdiv a b) = Q ∧ Int.tmod a b = R ∧ (R < 0 → wrap64 (Q - 1) = D ∧ R + b = E) ∧ (¬ R < 0 → Q = D ∧ R = E) ∧
    0 ≤ E ∧ E < b ∧ wrap64 (D * b) = a - E ∧ wrap64 (D + 1) = D + 1 ∧ (b - E ≤ E → Pl.rdv a b = D + 1) ∧ (¬ b - E ≤ E → Pl.rdv a b = D) := by
  have h' := h
  obtain ⟨h1, h2, h3, h4⟩ := h
  refine ⟨_, _, a / b, a % b, rfl, rfl, ?_⟩
  have hd := Pl.div_le_abs (a := a) (b := b) (M := 4000000000000000000) (by omega) h3 h4 (by omega)
  have hm := Int.mul_ediv_add_emod a b
  have hm2 := Int.emod_lt_of_pos a (show 0 < b by omega)
  have hm3 := Int.emod_nonneg a (show b ≠ 0 by omega)
  rw [Int.mul_comm] at hm
  refine ⟨fun h => ?_, fun h => ?_, hm3, hm2, ?_, Pl.wrap_id (by omega) (by omega), fun h => ?_, fun h => ?_⟩
  · have := Pl.t_neg (show 0 < b by omega) h
    rw [Pl.wrap_id (n := Int.tdiv a b) (by omega) (by omega), this.1, Pl.wrap_id (by omega) (by omega)]
    exact ⟨rfl, this.2⟩
  · have := Pl.t_pos (a := a) (show 0 < b by omega) (by omega)
    rw [Pl.wrap_id (n := Int.tdiv a b) (by omega) (by omega)]
    exact this
  · generalize a / b * b = z at *
    rw [Pl.wrap_id (by omega) (by omega)]; omega
  · unfold okR at h'; unfold Pl.rdv; rw [if_pos h', if_pos (by omega)]
  · unfold okR at h'; unfold Pl.rdv; rw [if_pos h', if_neg (by omega)]

end Go.Proofs.Ythoajaibaedjeaa
