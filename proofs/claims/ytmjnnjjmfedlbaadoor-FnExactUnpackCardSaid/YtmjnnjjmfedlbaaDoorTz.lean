/-
  The count of trailing zeros: plain law and contract.
-/
import Derived.Test.YtmjnnjjmfedlbaaDoorOm
namespace Go.Proofs.YtmjnnjjmfedlbaaDoor
set_option linter.unusedSimpArgs false
set_option linter.unusedVariables false
open Go.RowKit Go.Dr

def tabZ : List Nat := [0, 1, 56, 2, 57, 49, 28, 3, 61, 58, 42, 50, 38, 29, 17, 4, 62, 47, 59, 36, 45, 43, 51, 22, 53, 39, 33, 30, 24, 18, 12, 5, 63, 55, 48, 27, 60, 41, 37, 16, 46, 35, 44, 21, 52, 32, 23, 11, 54, 26, 40, 15, 34, 20, 31, 10, 25, 14, 19, 9, 13, 8, 7, 6]
theorem tab_all : ∀ j : Fin 64, (2 ^ j.val * 285870213051353865 % 18446744073709551616) / 288230376151711744 < 64 ∧ tabZ.getD ((2 ^ j.val * 285870213051353865 % 18446744073709551616) / 288230376151711744) 0 = j.val := by decide
/-- The table, as a world holds it. -/
def Tk (w : World) : Prop := 2 < w.heap.size ∧ ∀ i, i < 64 → w.cell? ⟨2, i, none⟩ = some (.int .u8 ((tabZ.getD i 0 : Nat) : Int))
theorem Tk.below {w w' : World} (h : Tk w) (hb : Below w.heap.size w w') : Tk w' :=
  ⟨Nat.lt_of_lt_of_le h.1 hb.size, fun i hi => (hb.cell (p := ⟨2, i, none⟩) h.1).trans (h.2 i hi)⟩

/-- f and -f, for f = m * 2 ^ j, m odd: 2 ^ j. -/
theorem and_neg {f m j : Nat} (hf : f = m * 2 ^ j) (hm : m % 2 = 1) (h64 : f < 2 ^ 64) : Go.bits .and .u64 (f : Int) (IntKind.u64.wrap (-(f : Int))) = ((2 ^ j : Nat) : Int) := by
  have hj : 2 ^ j ≤ f := by rw [hf]; exact Nat.le_mul_of_pos_left _ (by omega)
  have hp : 2 ^ j < 2 ^ 64 := Nat.lt_of_le_of_lt hj h64
  have hp0 := Nat.two_pow_pos j
  have hw : IntKind.u64.wrap (-(f : Int)) = ((2 ^ 64 - f : Nat) : Int) := by rw [IntKind.wrap_u64]; omega
  rw [hw]
  show IntKind.u64.wrap (((BitVec.ofInt 64 (f : Int) &&& BitVec.ofInt 64 ((2 ^ 64 - f : Nat) : Int)).toNat : Nat) : Int) = _
  have e1 : f = 2 ^ j * (2 * (m / 2) + 1) := by rw [hf, Nat.mul_comm]; congr 1; omega
  have e2 : BitVec.ofNat 64 (2 ^ 64 - f) = ~~~ BitVec.ofNat 64 (f - 1) := by
    apply BitVec.eq_of_toNat_eq
    rw [BitVec.toNat_not, BitVec.toNat_ofNat, BitVec.toNat_ofNat, Nat.mod_eq_of_lt (show f - 1 < 2 ^ 64 by omega), Nat.mod_eq_of_lt (show 2 ^ 64 - f < 2 ^ 64 by omega)]
    omega
  have e3 : f - 1 = 2 ^ j * (2 * (m / 2)) + (2 ^ j - 1) := by
    rw [e1, Nat.mul_add, Nat.mul_one]; omega
  have key : (BitVec.ofInt 64 (f : Int) &&& BitVec.ofInt 64 ((2 ^ 64 - f : Nat) : Int)).toNat = 2 ^ j := by
    rw [BitVec.ofInt_natCast, BitVec.ofInt_natCast, e2]
    apply Nat.eq_of_testBit_eq
    intro i
    rw [BitVec.testBit_toNat, BitVec.getLsbD_and, BitVec.getLsbD_not, BitVec.getLsbD_ofNat, BitVec.getLsbD_ofNat, Nat.testBit_two_pow]
    have t1 : f.testBit i = if i < j then false else (2 * (m / 2) + 1).testBit (i - j) := by
      have := Nat.testBit_two_pow_mul_add (2 * (m / 2) + 1) hp0 i
      rw [Nat.add_zero, ← e1] at this
      rw [this]
      simp
    have t2 : (f - 1).testBit i = if i < j then true else (2 * (m / 2)).testBit (i - j) := by
      have := Nat.testBit_two_pow_mul_add (2 * (m / 2)) (show 2 ^ j - 1 < 2 ^ j by omega) i
      rw [← e3] at this
      rw [this]
      split
      · rename_i h; simp [Nat.testBit_two_pow_sub_one, h]
      · rfl
    rw [t1, t2]
    by_cases h : i < j
    · have : ¬ j = i := by omega
      simp [h, this]
    · by_cases h1 : j = i
      · subst h1
        have : j < 64 := by
          rcases Nat.lt_or_ge j 64 with h | h
          · exact h
          · exact absurd (Nat.pow_le_pow_right (show 0 < 2 by decide) h) (by omega)
        simp [this, Nat.testBit_zero]
      · obtain ⟨t, ht⟩ : ∃ t, i - j = t + 1 := ⟨i - j - 1, by omega⟩
        rw [ht, Nat.testBit_succ, Nat.testBit_succ]
        have a1 : (2 * (m / 2) + 1) / 2 = m / 2 := by omega
        have a2 : (2 * (m / 2)) / 2 = m / 2 := by omega
        rw [a1, a2]
        cases (m / 2).testBit t <;> simp [h, h1]
  rw [key]
  exact IntWalk.u64_in _ ⟨by omega, by omega⟩

theorem tz_any {f m j : Nat} (hf : f = m * 2 ^ j) (hm : m % 2 = 1) (h64 : f < 18446744073709551616) (w : World) (ht : Tk w) :
    Calls Tryd.prog 65 #[.int .u64 (f : Int)] w fun e w' => e = .returned (.int .i64 (j : Int)) ∧ w' = w := by
  have hj : j < 64 := by
    rcases Nat.lt_or_ge j 64 with h | h
    · exact h
    · have h1 : 2 ^ 64 ≤ 2 ^ j := Nat.pow_le_pow_right (by decide) h
      have h2 : 2 ^ j ≤ f := by rw [hf]; exact Nat.le_mul_of_pos_left _ (by omega)
      omega
  have ha := and_neg hf hm h64
  obtain ⟨ix, hix⟩ : ∃ ix, ix = (2 ^ j * 285870213051353865 % 18446744073709551616) / 288230376151711744 := ⟨_, rfl⟩
  have hta := tab_all ⟨j, hj⟩
  rw [← hix] at hta
  have hcell : w.cell? ⟨2, ix, none⟩ = some (.int .u8 (j : Int)) := by
    have h := ht.2 ix hta.1
    rw [hta.2] at h
    exact h
  have hz : ((f : Int) == 0) = false := by
    rw [beq_eq_false_iff_ne]
    have : 0 < f := by rw [hf]; exact Nat.mul_pos (by omega) (Nat.two_pow_pos j)
    omega
  have hmul : IntKind.u64.wrap (((2 ^ j : Nat) : Int) * 285870213051353865) = ((2 ^ j * 285870213051353865 % 18446744073709551616 : Nat) : Int) := by rw [IntKind.wrap_u64]; omega
  have hshr : ((2 ^ j * 285870213051353865 % 18446744073709551616 : Nat) : Int) / 288230376151711744 = (ix : Int) := by rw [hix]; omega
  have hjw : wrap64 (j : Int) = (j : Int) := IntWalk.wrap64_in _ ⟨by omega, by omega⟩
  have hb0 : (0 : Int) ≤ (ix : Int) := by omega
  have hb1 : (ix : Int) < 64 := by have := hta.1; omega
  have hb2 : ix < 64 := hta.1
  generalize 2 ^ j * 285870213051353865 % 18446744073709551616 = z at hmul hshr
  generalize ((2 ^ j : Nat) : Int) = y at ha hmul
  clear hta hix hf hm h64 hj ht
  go_enter Tryd.func65, Tryd.ntmps65
  go_wp2
  go_ret
  exact ⟨congrArg (fun z => Ending.returned (Value.int .i64 z)) hjw, rfl⟩
end Go.Proofs.YtmjnnjjmfedlbaaDoor
