/-
  The pure law of InvMod: the program and the reference give the same number at every input. No condition.
-/
import Derived.Test.YtbjnggnlflofbaaPFnExactInvModx1
import Derived.Test.YtbjnggnlflofbaaPl
namespace Go.Proofs.Ytbjnggnlflofbaa.Pure
open Go.RowKit Go.Proofs.Ytbjnggnlflofbaa.PFnExactInvMod Go.Proofs.YtbjnggnlflofbaaW.PrintWords Go.Proofs.YtbjnggnlflofbaaW.PrintLast Go.Pl
set_option linter.unusedVariables false
set_option linter.unusedSimpArgs false

def isP (p : Int) : Prop := p = 998244353 ∨ p = 167772161 ∨ p = 469762049
instance (p : Int) : Decidable (isP p) := by unfold isP; infer_instance

/-- With k rounds both loops come to one number where the exponent is below 2^k. -/
theorem pow_both (p : Int) (hp : isP p) : ∀ (k : Nat) (n x r : Int), 0 ≤ n → n < 2 ^ k → n ≤ 4000000000000000000 →
    ∃ v, spec_PowMod.l0 (k + 1) x n p r = some v ∧ impl_power.l0 (k + 2) x n p r = some v
  | 0, n, x, r, h0, hn, hM => by
    have : n = 0 := by simp at hn; omega
    subst this
    exact ⟨r, by simp [spec_PowMod.l0], by simp [impl_power.l0]⟩
  | k + 1, n, x, r, h0, hn, hM => by
    have hp0 : ¬ p = 0 := by unfold isP at hp; omega
    have hn2 : n / 2 < 2 ^ k := by rw [Int.pow_succ] at hn; omega
    by_cases hz : n > 0
    · have e1 : wrap64 (Int.tdiv n 2) = n / 2 := by
        rw [Int.tdiv_eq_ediv_of_nonneg h0]
        exact wrap_id (by omega) (by omega)
      have e2 : Int.tmod n 2 = n % 2 := Int.tmod_eq_emod_of_nonneg h0
      have e3 : Go.bits .and .i64 n 1 = n % 2 := i64_and1 n
      by_cases ho : n % 2 = 1
      · obtain ⟨v, h1, h2⟩ := pow_both p hp k (n / 2) (Int.tmod (wrap64 (x * x)) p) (Int.tmod (wrap64 (r * x)) p) (by omega) hn2 (by omega)
        refine ⟨v, ?_, ?_⟩
        · rw [spec_PowMod.l0, if_pos hz, e2, if_pos ho, if_neg hp0, e1]; exact h1
        · rw [impl_power.l0, if_pos hz, e3, if_pos ho, if_neg hp0]; exact h2
      · obtain ⟨v, h1, h2⟩ := pow_both p hp k (n / 2) (Int.tmod (wrap64 (x * x)) p) r (by omega) hn2 (by omega)
        refine ⟨v, ?_, ?_⟩
        · rw [spec_PowMod.l0, if_pos hz, e2, if_neg ho, if_neg hp0, e1]; exact h1
        · rw [impl_power.l0, if_pos hz, e3, if_neg ho, if_neg hp0]; exact h2
    · exact ⟨r, by rw [spec_PowMod.l0, if_neg hz], by rw [impl_power.l0, if_neg hz]⟩

theorem s_prime (p : Int) : spec_l6Prime.f p = some (decide (isP p)) := by
  unfold spec_l6Prime.f isP
  by_cases h1 : p = 998244353
  · simp [h1]
  · by_cases h2 : p = 167772161
    · simp [h2]
    · by_cases h3 : p = 469762049
      · simp [h3]
      · simp [h1, h2, h3]

theorem i_prime (p : Int) : impl_isPrime.f p = some (decide (isP p)) := by
  unfold impl_isPrime.f isP
  by_cases h1 : p = 998244353
  · simp [h1]
  · by_cases h2 : p = 167772161
    · simp [h2]
    · by_cases h3 : p = 469762049
      · simp [h3]
      · simp [h1, h2, h3]

/-- In range the reference's call and the program's loop come to one number. -/
theorem power_in (a n p : Int) (hp : isP p) (h0 : 0 ≤ a) (h1 : a ≤ p - 1) (h2 : 0 ≤ n) (h3 : n ≤ 4000000000000000000) :
    ∃ v, spec_PowMod.f 64 a n p = some v ∧ impl_power.f 64 a n p = some v := by
  obtain ⟨v, e1, e2⟩ := pow_both p hp 62 n a 1 h2 (Int.lt_of_le_of_lt h3 (by decide)) h3
  refine ⟨v, ?_, e2⟩
  unfold spec_PowMod.f spec_l1In.f
  rw [s_prime]
  have hw : wrap64 (p - 1) = p - 1 := wrap_id (by unfold isP at hp; omega) (by unfold isP at hp; omega)
  simp only [Option.bind_some, hp, decide_true, if_true, hw, ge_iff_le, h0, h1, h2, h3, Bool.not_true, spec_PowMod.j0, Bool.false_eq_true, if_false]
  exact e1

theorem FnExactInvMod : laws_FnExactInvMod.Pure := by
  intro a p _ _
  refine ⟨64, ?_⟩
  unfold laws_FnExactInvMod.f spec_InvMod.f impl_InvMod.f spec_l1In.f impl_residue.f
  rw [s_prime, i_prime]
  by_cases hp : isP p
  · have hw : wrap64 (p - 1) = p - 1 := wrap_id (by unfold isP at hp; omega) (by unfold isP at hp; omega)
    have hw2 : wrap64 (p - 2) = p - 2 := wrap_id (by unfold isP at hp; omega) (by unfold isP at hp; omega)
    simp only [Option.bind_some, hp, decide_true, if_true, hw, hw2, ge_iff_le]
    by_cases h : 1 ≤ a ∧ a ≤ p - 1
    · obtain ⟨v, e1, e2⟩ := power_in a (p - 2) p hp (by omega) h.2 (by unfold isP at hp; omega) (by unfold isP at hp; omega)
      simp only [h.1, h.2, if_true, decide_true, Option.bind_some, show 0 ≤ a by omega, show a < p by omega, show ¬ a = 0 by omega, if_false, e1, e2]
    · by_cases g1 : 1 ≤ a <;> by_cases g2 : a ≤ p - 1 <;> by_cases g3 : 0 ≤ a <;> by_cases g4 : a < p <;> by_cases g5 : a = 0 <;>
        first | (exfalso; omega) | (simp only [g1, g2, g3, g4, g5, if_true, if_false, decide_true, decide_false, Option.bind_some, Bool.false_eq_true]; done) | (simp only [g1, g2, g3, g4, if_true, if_false, decide_true, decide_false, Option.bind_some, Bool.false_eq_true]; simp [g5]; done) | (subst g5; simp)
  · simp [hp]

end Go.Proofs.Ytbjnggnlflofbaa.Pure
