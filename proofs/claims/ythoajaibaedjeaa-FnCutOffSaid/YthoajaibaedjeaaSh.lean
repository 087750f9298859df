/-
  Contracts of Shift, of the program and of the reference.
-/
import Derived.Test.YthoajaibaedjeaaRd
namespace Go.Proofs.Ythoajaibaedjeaa
set_option linter.unusedSimpArgs false
set_option linter.unusedVariables false
open Go.RowKit Go.Dr

/-- The rules' own test: is the quotient raised by one? -/
def upC (x b c D Q E : Int) : Prop := (c = 2 ∧ x < 0 ∧ 0 < E) ∨ (c = 3 ∧ 0 < b ∧ D ≤ 2 * E) ∨ (c = 4 ∧ 0 < b ∧ (D < 2 * E ∨ D = 2 * E ∧ Q % 2 = 1))
instance (x b c D Q E : Int) : Decidable (upC x b c D Q E) := by unfold upC; infer_instance
def okS (x b c : Int) : Prop := (-4000000000000000000 ≤ x ∧ x ≤ 4000000000000000000) ∧ (0 ≤ b ∧ b ≤ 60) ∧ 1 ≤ c ∧ c ≤ 4
instance (x b c : Int) : Decidable (okS x b c) := by unfold okS; infer_instance
/-- What Shift comes to. -/
def shf (x b c : Int) : Int := if okS x b c then (if upC x b c (2 ^ b.toNat) (x / 2 ^ b.toNat) (x % 2 ^ b.toNat) then x / 2 ^ b.toNat + 1 else x / 2 ^ b.toNat) else 0
theorem shf_no {x b c : Int} (h : ¬ okS x b c) : shf x b c = 0 := by unfold shf; rw [if_neg h]

theorem i64_and1 (n : Int) : Go.bits .and .i64 n 1 = n % 2 := Pl.i64_and1 n
theorem tmod2 (q : Int) : (Int.tmod q 2 == 0) = (q % 2 == 0) := by
  have : Int.tmod q 2 = 0 ↔ q % 2 = 0 := by rw [← Int.dvd_iff_tmod_eq_zero, Int.dvd_iff_emod_eq_zero]
  by_cases h : q % 2 = 0
  · rw [beq_iff_eq.2 (this.2 h), beq_iff_eq.2 h]
  · have h2 : ¬ Int.tmod q 2 = 0 := fun e => h (this.1 e)
    rw [beq_eq_false_iff_ne.2 h2, beq_eq_false_iff_ne.2 h]

theorem shf_parts {x c : Int} {n : Nat} (h : okS x n c) : ∃ D Q E : Int, 1 ≤ D ∧ D ≤ 1152921504606846976 ∧ x / 2 ^ n = Q ∧ wrap64 (2 ^ n) = D ∧ IntKind.u64.wrap (n : Int) = n ∧ wrap64 (Q * 2 ^ n) = x - E ∧ wrap64 (x - (x - E)) = E ∧ 0 ≤ E ∧ E < D ∧ (Q < 0 ↔ x < 0) ∧
    wrap64 (Q + 1) = Q + 1 ∧ wrap64 (Q * D) = x - E ∧ x / D = Q ∧ (upC x n c D Q E → shf x n c = Q + 1) ∧ (¬ upC x n c D Q E → shf x n c = Q) ∧ (n = 0 → D = 1 ∧ Q = x ∧ E = 0) ∧
    (0 < n → ∃ H, D = 2 * H ∧ wrap64 (2 ^ (n - 1)) = H) := by
  have h' := h
  obtain ⟨hx, hb, hc⟩ := h
  have hn : n ≤ 60 := by omega
  have h2 : (2 : Int) ^ n ≤ 1152921504606846976 := by
    have : (2 : Int) ^ n ≤ 2 ^ 60 := by exact_mod_cast Nat.pow_le_pow_right (show 0 < 2 by decide) hn
    simpa using this
  have h1 : (0 : Int) < 2 ^ n := Int.pow_pos (by decide)
  generalize hD : (2 : Int) ^ n = D at *
  have hm := Int.mul_ediv_add_emod x D
  rw [Int.mul_comm] at hm
  have hm2 := Int.emod_lt_of_pos x (show 0 < D by omega)
  have hm3 := Int.emod_nonneg x (show D ≠ 0 by omega)
  have hd := Pl.div_le_abs (a := x) (b := D) (M := 4000000000000000000) (by omega) hx.1 hx.2 (by omega)
  have hneg : x / D < 0 ↔ x < 0 := by
    constructor
    · intro h
      by_cases g : x < 0
      · exact g
      · exact absurd (Int.ediv_nonneg (show 0 ≤ x by omega) (show 0 ≤ D by omega)) (by omega)
    · intro h; exact Int.ediv_neg_of_neg_of_pos h (by omega)
  have hz : wrap64 (x / D * D) = x - x % D := by
    generalize x / D * D = z at *
    rw [wrap_id (by omega) (by omega)]; omega
  refine ⟨D, x / D, x % D, by omega, h2, rfl, wrap_id (by omega) (by omega), IntWalk.u64_in _ ⟨by omega, by omega⟩, hz, by rw [wrap_id (by omega) (by omega)]; omega, hm3, hm2, hneg, wrap_id (by omega) (by omega), hz, rfl, fun hu => ?_, fun hu => ?_, fun h0 => ?_, fun h0 => ?_⟩
  · unfold shf; rw [if_pos h', Int.toNat_natCast, hD, if_pos hu]
  · unfold shf; rw [if_pos h', Int.toNat_natCast, hD, if_neg hu]
  · subst h0
    subst hD
    exact ⟨rfl, Int.ediv_one x, Int.emod_one x⟩
  · obtain ⟨m, rfl⟩ : ∃ m, n = m + 1 := ⟨n - 1, by omega⟩
    have hpm : (0 : Int) < 2 ^ m := Int.pow_pos (by decide)
    have hm2 : (2 : Int) ^ (m + 1) = 2 * 2 ^ m := by rw [Int.pow_succ]; omega
    refine ⟨2 ^ m, by rw [← hD, hm2], ?_⟩
    simp only [Nat.add_sub_cancel]
    exact wrap_id (by omega) (by omega)

end Go.Proofs.Ythoajaibaedjeaa
