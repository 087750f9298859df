/-
  Plain laws on whole numbers: quotients down, wraps that change nothing. No condition.
-/
import Derived.WalkKit
import Derived.IntWalk
import Derived.Laws.BitsLemmas
namespace Go.Pl
open Go Go.RowKit

theorem wf64 {a : Int} (h : (Lit.int .i64 a).wf = true) : -9223372036854775808 ≤ a ∧ a ≤ 9223372036854775807 := by
  simp only [Lit.wf, Bool.and_eq_true, decide_eq_true_eq] at h
  exact h

theorem wrap_id {n : Int} (h1 : -9223372036854775808 ≤ n) (h2 : n ≤ 9223372036854775807) : wrap64 n = n := IntWalk.wrap64_in n ⟨h1, h2⟩

theorem t_neg {a b : Int} (hb : 0 < b) (h : Int.tmod a b < 0) : Int.tdiv a b - 1 = a / b ∧ Int.tmod a b + b = a % b := by
  have h1 := Int.mul_tdiv_add_tmod a b
  have h2 : -b < Int.tmod a b := Int.lt_tmod_of_pos a hb
  have := (Int.ediv_emod_unique (a := a) (q := Int.tdiv a b - 1) (r := Int.tmod a b + b) hb).2 ⟨by rw [Int.mul_sub]; omega, by omega, by omega⟩
  exact ⟨this.1.symm, this.2.symm⟩

theorem t_pos {a b : Int} (hb : 0 < b) (h : 0 ≤ Int.tmod a b) : Int.tdiv a b = a / b ∧ Int.tmod a b = a % b := by
  have h1 := Int.mul_tdiv_add_tmod a b
  have h3 := Int.tmod_lt_of_pos a hb
  have := (Int.ediv_emod_unique (a := a) (q := Int.tdiv a b) (r := Int.tmod a b) hb).2 ⟨by omega, by omega, by omega⟩
  exact ⟨this.1.symm, this.2.symm⟩

theorem div_le_abs {a b : Int} {M : Int} (hb : 0 < b) (h1 : -M ≤ a) (h2 : a ≤ M) (hM : 0 ≤ M) : -M ≤ a / b ∧ a / b ≤ M := by
  constructor
  · rw [Int.le_ediv_iff_mul_le hb]
    have : M * 1 ≤ M * b := Int.mul_le_mul_of_nonneg_left (by omega) hM
    rw [Int.neg_mul]; omega
  · refine Int.le_trans (Int.ediv_le_ediv hb h2) ?_
    exact Int.ediv_le_self _ hM

theorem i64_and1 (n : Int) : Go.bits .and .i64 n 1 = n % 2 := by
  have h1 : (BitVec.ofInt 64 1).toNat = 2 ^ 1 - 1 := by decide
  have key : (BitVec.ofInt 64 n &&& BitVec.ofInt 64 1).toNat = (n % ((2 ^ 64 : Nat) : Int)).toNat % 2 ^ 1 := by
    rw [BitVec.toNat_and, BitVec.toNat_ofInt, h1, Nat.and_two_pow_sub_one_eq_mod]
  show IntKind.i64.wrap ((BitVec.ofInt 64 n &&& BitVec.ofInt 64 1).toNat : Nat) = n % 2
  rw [key, IntKind.wrap_i64]
  omega

/-- The quotient rounded, half up; 0 out of range. -/
def rdv (a b : Int) : Int :=
  if 1 ≤ b ∧ b ≤ 4000000000000000000 ∧ -4000000000000000000 ≤ a ∧ a ≤ 4000000000000000000 then (if b ≤ 2 * (a % b) then a / b + 1 else a / b) else 0

end Go.Pl
