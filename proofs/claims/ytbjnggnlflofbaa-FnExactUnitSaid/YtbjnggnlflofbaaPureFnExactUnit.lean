/-
  The pure law of Unit: the program and the reference give the same number at every input. No condition.
-/
import Derived.Test.YtbjnggnlflofbaaPFnExactUnitx1
import Derived.Test.YtbjnggnlflofbaaPl
namespace Go.Proofs.Ytbjnggnlflofbaa.Pure
open Go.RowKit Go.Proofs.Ytbjnggnlflofbaa.PFnExactUnit Go.Proofs.YtbjnggnlflofbaaW.PrintWords Go.Proofs.YtbjnggnlflofbaaW.PrintLast Go.Pl
set_option linter.unusedVariables false
set_option linter.unusedSimpArgs false

def isP (p : Int) : Prop := p = 998244353 ∨ p = 167772161 ∨ p = 469762049
instance (p : Int) : Decidable (isP p) := by unfold isP; infer_instance

/-- With k rounds both loops come to one number where the exponent is below 2^k. -/
theorem pow_both (p : Int) (hp : isP p) : ∀ (k : Nat) (n x r : Int), 0 ≤ n → n < 2 ^ k → n ≤ 4000000000000000000 →
    ∃ v, spec_PowMod.l0 (k + 1) x n p r = some v ∧ impl_power.l0 (k + 2) x n p r = some v
  | 0, n, x, r, h0, hn, hM => by
    have : n = 0 := by simp at hn; omega
    subst this
    exact ⟨r, by simp [spec_PowMod.l0], by simp [impl_power.l0]⟩
  | k + 1, n, x, r, h0, hn, hM => by
    have hp0 : ¬ p = 0 := by unfold isP at hp; omega
    have hn2 : n / 2 < 2 ^ k := by rw [Int.pow_succ] at hn; omega
    by_cases hz : n > 0
    · have e1 : wrap64 (Int.tdiv n 2) = n / 2 := by
        rw [Int.tdiv_eq_ediv_of_nonneg h0]
        exact wrap_id (by omega) (by omega)
      have e2 : Int.tmod n 2 = n % 2 := Int.tmod_eq_emod_of_nonneg h0
      have e3 : Go.bits .and .i64 n 1 = n % 2 := i64_and1 n
      by_cases ho : n % 2 = 1
      · obtain ⟨v, h1, h2⟩ := pow_both p hp k (n / 2) (Int.tmod (wrap64 (x * x)) p) (Int.tmod (wrap64 (r * x)) p) (by omega) hn2 (by omega)
        refine ⟨v, ?_, ?_⟩
        · rw [spec_PowMod.l0, if_pos hz, e2, if_pos ho, if_neg hp0, e1]; exact h1
        · rw [impl_power.l0, if_pos hz, e3, if_pos ho, if_neg hp0]; exact h2
      · obtain ⟨v, h1, h2⟩ := pow_both p hp k (n / 2) (Int.tmod (wrap64 (x * x)) p) r (by omega) hn2 (by omega)
        refine ⟨v, ?_, ?_⟩
        · rw [spec_PowMod.l0, if_pos hz, e2, if_neg ho, if_neg hp0, e1]; exact h1
        · rw [impl_power.l0, if_pos hz, e3, if_neg ho, if_neg hp0]; exact h2
    · exact ⟨r, by rw [spec_PowMod.l0, if_neg hz], by rw [impl_power.l0, if_neg hz]⟩

theorem s_prime (p : Int) : spec_l6Prime.f p = some (decide (isP p)) := by
  unfold spec_l6Prime.f isP
  by_cases h1 : p = 998244353
  · simp [h1]
  · by_cases h2 : p = 167772161
    · simp [h2]
    · by_cases h3 : p = 469762049
      · simp [h3]
      · simp [h1, h2, h3]

theorem i_prime (p : Int) : impl_isPrime.f p = some (decide (isP p)) := by
  unfold impl_isPrime.f isP
  by_cases h1 : p = 998244353
  · simp [h1]
  · by_cases h2 : p = 167772161
    · simp [h2]
    · by_cases h3 : p = 469762049
      · simp [h3]
      · simp [h1, h2, h3]

/-- In range the reference's call and the program's loop come to one number. -/
theorem power_in (a n p : Int) (hp : isP p) (h0 : 0 ≤ a) (h1 : a ≤ p - 1) (h2 : 0 ≤ n) (h3 : n ≤ 4000000000000000000) :
    ∃ v, spec_PowMod.f 64 a n p = some v ∧ impl_power.f 64 a n p = some v := by
  obtain ⟨v, e1, e2⟩ := pow_both p hp 62 n a 1 h2 (Int.lt_of_le_of_lt h3 (by decide)) h3
  refine ⟨v, ?_, e2⟩
  unfold spec_PowMod.f spec_l1In.f
  rw [s_prime]
  have hw : wrap64 (p - 1) = p - 1 := wrap_id (by unfold isP at hp; omega) (by unfold isP at hp; omega)
  simp only [Option.bind_some, hp, decide_true, if_true, hw, ge_iff_le, h0, h1, h2, h3, Bool.not_true, spec_PowMod.j0, Bool.false_eq_true, if_false]
  exact e1

def isW (n : Int) : Prop := n = 1 ∨ n = 2 ∨ n = 4 ∨ n = 8 ∨ n = 16 ∨ n = 32 ∨ n = 64 ∨ n = 128 ∨ n = 256
instance (n : Int) : Decidable (isW n) := by unfold isW; infer_instance

theorem s_whole (n : Int) : spec_l6Whole.f 64 n = some (decide (isW n)) := by
  unfold spec_l6Whole.f isW
  rw [spec_l6Whole.l0, if_pos (by omega)]
  by_cases h : n = 1
  · simp [h]
  rw [if_neg h, show wrap64 (2 * 1) = 2 from by unfold wrap64; omega, spec_l6Whole.l0, if_pos (by omega)]
  by_cases h2 : n = 2
  · simp [h2]
  rw [if_neg h2, show wrap64 (2 * 2) = 4 from by unfold wrap64; omega, spec_l6Whole.l0, if_pos (by omega)]
  by_cases h3 : n = 4
  · simp [h3]
  rw [if_neg h3, show wrap64 (2 * 4) = 8 from by unfold wrap64; omega, spec_l6Whole.l0, if_pos (by omega)]
  by_cases h4 : n = 8
  · simp [h4]
  rw [if_neg h4, show wrap64 (2 * 8) = 16 from by unfold wrap64; omega, spec_l6Whole.l0, if_pos (by omega)]
  by_cases h5 : n = 16
  · simp [h5]
  rw [if_neg h5, show wrap64 (2 * 16) = 32 from by unfold wrap64; omega, spec_l6Whole.l0, if_pos (by omega)]
  by_cases h6 : n = 32
  · simp [h6]
  rw [if_neg h6, show wrap64 (2 * 32) = 64 from by unfold wrap64; omega, spec_l6Whole.l0, if_pos (by omega)]
  by_cases h7 : n = 64
  · simp [h7]
  rw [if_neg h7, show wrap64 (2 * 64) = 128 from by unfold wrap64; omega, spec_l6Whole.l0, if_pos (by omega)]
  by_cases h8 : n = 128
  · simp [h8]
  rw [if_neg h8, show wrap64 (2 * 128) = 256 from by unfold wrap64; omega, spec_l6Whole.l0, if_pos (by omega)]
  by_cases h9 : n = 256
  · simp [h9]
  rw [if_neg h9, show wrap64 (2 * 256) = 512 from by unfold wrap64; omega, spec_l6Whole.l0, if_neg (by omega)]
  simp [h, h2, h3, h4, h5, h6, h7, h8, h9]

theorem whole_all : ∀ n : Fin 257, 1 ≤ n.val → (Go.bits .and .i64 (n.val : Int) ((n.val : Int) - 1) == 0) = decide (isW (n.val : Int)) := by decide +kernel

theorem i_whole (n : Int) : impl_whole.f n = some (decide (isW n)) := by
  unfold impl_whole.f
  by_cases h1 : n ≥ 1
  · by_cases h2 : n ≤ 256
    · rw [if_pos h1, if_pos h2, wrap_id (by omega) (by omega)]
      have := whole_all ⟨n.toNat, by omega⟩ (by show 1 ≤ n.toNat; omega)
      simp only [Int.toNat_of_nonneg (show 0 ≤ n by omega)] at this
      rw [this]
    · rw [if_pos h1, if_neg h2]; exact congrArg some (Eq.symm (decide_eq_false (by unfold isW; omega)))
  · rw [if_neg h1]; exact congrArg some (Eq.symm (decide_eq_false (by unfold isW; omega)))

theorem FnExactUnit : laws_FnExactUnit.Pure := by
  intro n p _ _
  refine ⟨64, ?_⟩
  unfold laws_FnExactUnit.f spec_Unit.f impl_Unit.f
  rw [s_prime, i_prime, s_whole, i_whole]
  by_cases hp : isP p
  · have hw : wrap64 (p - 1) = p - 1 := wrap_id (by unfold isP at hp; omega) (by unfold isP at hp; omega)
    simp only [Option.bind_some, hp, decide_true, if_true, hw]
    by_cases h : isW n
    · have hn : 1 ≤ n := by unfold isW at h; omega
      have e : Int.tdiv (p - 1) n = (p - 1) / n := Int.tdiv_eq_ediv_of_nonneg (by unfold isP at hp; omega)
      have hd := div_le_abs (a := p - 1) (b := n) (M := 4000000000000000000) (by omega) (by unfold isP at hp; omega) (by unfold isP at hp; omega) (by omega)
      have hd0 : 0 ≤ (p - 1) / n := Int.ediv_nonneg (by unfold isP at hp; omega) (by omega)
      obtain ⟨v, e1, e2⟩ := power_in 3 ((p - 1) / n) p hp (by omega) (by unfold isP at hp; omega) hd0 hd.2
      simp only [h, decide_true, if_true, show ¬ n = 0 by omega, if_false, e]
      rw [wrap_id (by omega) (by omega), e1, e2]
      simp
    · simp [h]
  · simp [hp]

end Go.Proofs.Ytbjnggnlflofbaa.Pure
