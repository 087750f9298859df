/-
  Plain laws of whole numbers as float64 words: sums of small ones are exact; the sums by columns are the sum. No condition.
-/
import Derived.Test.YtmjnnjjmfedlbaaDoorEx
namespace Go.Fl
open Go Ieee

/-- The word of a whole number. -/
def wi (a : Int) : Nat := FloatKind.f64.nearest a

theorem wi_def (a : Int) : wi a = Ieee.double.nearest (decide (a < 0)) a.natAbs 0 := rfl
theorem wi_zero : wi 0 = 0 := by rw [wi_def]; rfl

theorem small_ex {a : Int} (h0 : a ≠ 0) (h : a.natAbs < 2 ^ 40) : Ex a.natAbs 0 := by
  have hn : a.natAbs ≠ 0 := by omega
  have := (Nat.log2_lt hn).2 h
  exact ⟨hn, by omega, by omega, by omega⟩

theorem read_wi {a : Int} (h : a.natAbs < 2 ^ 40) : ∃ k : Nat, Ieee.double.read (wi a) = .number (decide (a < 0)) (a.natAbs * 2 ^ k) (-(k : Int)) := by
  by_cases h0 : a = 0
  · subst h0
    obtain ⟨k, hk⟩ : ∃ k : Nat, k = 1074 := ⟨_, rfl⟩
    refine ⟨k, ?_⟩
    rw [wi_zero, Int.natAbs_zero, Nat.zero_mul, hk]
    decide
  · have he := small_ex h0 h
    refine ⟨low a.natAbs 0, ?_⟩
    have := read_wd (s := decide (a < 0)) he
    rw [Int.zero_sub] at this
    exact this

theorem isNan_wi {a : Int} (h : a.natAbs < 2 ^ 40) : isNan (wi a) = false := by
  obtain ⟨k, hk⟩ := read_wi h
  unfold isNan; rw [hk]; rfl

theorem wi_lt {a : Int} (h : a.natAbs < 2 ^ 40) : wi a < 2 ^ 64 := by
  by_cases h0 : a = 0
  · subst h0; rw [wi_zero]; decide
  · exact wd_lt _ (small_ex h0 h)

theorem signed_wi (a : Int) (k up : Nat) : Ieee.signed (decide (a < 0)) (a.natAbs * 2 ^ k) up = a * 2 ^ (k + up) := by
  unfold Ieee.signed
  rw [Nat.shiftLeft_eq, Nat.mul_assoc, ← Nat.pow_add]
  by_cases h : a < 0
  · rw [if_pos (decide_eq_true h)]
    obtain ⟨n, rfl⟩ : ∃ n : Nat, a = -(n : Int) := ⟨a.natAbs, by omega⟩
    rw [Int.natAbs_neg, Int.natAbs_natCast, Int.neg_mul]; simp
  · rw [if_neg (by simpa using h)]
    obtain ⟨n, rfl⟩ := Int.eq_ofNat_of_zero_le (show 0 ≤ a by omega)
    simp

theorem wi_add {a b : Int} (ha : a.natAbs < 2 ^ 40) (hb : b.natAbs < 2 ^ 40) : floatBits .add .f64 (wi a) (wi b) = some (wi (a + b)) := by
  obtain ⟨k, hk⟩ := read_wi ha
  obtain ⟨l, hl⟩ := read_wi hb
  show (Ieee.Datum.sum (Ieee.double.read (wi a)) (Ieee.double.read (wi b))).map Ieee.double.write = _
  rw [hk, hl]
  simp only [Ieee.Datum.sum, Option.map]
  congr 1
  generalize hB : min (-(k : Int)) (-(l : Int)) = B
  obtain ⟨t, ht⟩ : ∃ t : Nat, B = -(t : Int) := ⟨(-B).toNat, by omega⟩
  subst ht
  have e1 : k + (-(k : Int) - -(t : Int)).toNat = t := by omega
  have e2 : l + (-(l : Int) - -(t : Int)).toNat = t := by omega
  rw [signed_wi, signed_wi, e1, e2, ← Int.add_mul]
  have hp : (0 : Int) < 2 ^ t := Int.pow_pos (by decide)
  by_cases h0 : a + b = 0
  · rw [h0, Int.zero_mul, if_pos rfl]
    show Ieee.double.nearest (decide (a < 0) && decide (b < 0)) (Int.natAbs 0) _ = wi 0
    rw [wi_zero]
    have : (decide (a < 0) && decide (b < 0)) = false := by
      by_cases h1 : a < 0
      · rw [decide_eq_false (show ¬ b < 0 by omega), Bool.and_false]
      · rw [decide_eq_false h1, Bool.false_and]
    rw [this]
    rfl
  · have hne : ¬ (a + b) * 2 ^ t = 0 := by
      intro h
      rcases Int.mul_eq_zero.1 h with h | h <;> omega
    rw [if_neg hne]
    show Ieee.double.nearest _ ((a + b) * 2 ^ t).natAbs _ = wi (a + b)
    have hs : decide ((a + b) * 2 ^ t < 0) = decide (a + b < 0) := by
      congr 1
      apply propext
      constructor
      · intro h
        by_cases hc : a + b < 0
        · exact hc
        · have := Int.mul_nonneg (show 0 ≤ a + b by omega) (Int.le_of_lt hp); omega
      · intro h
        exact Int.mul_neg_of_neg_of_pos h hp
    have hm : ((a + b) * 2 ^ t).natAbs = (a + b).natAbs * 2 ^ t := by
      rw [Int.natAbs_mul, Int.natAbs_pow]; rfl
    rw [hs, hm, nearest_scale _ _ _ _ (by omega), wi_def]
    congr 1
    omega

theorem cop_wi {a b : Int} (ha : a.natAbs < 2 ^ 40) (hb : b.natAbs < 2 ^ 40) : cop .add (wi a) (wi b) = wi (a + b) := by
  unfold cop; rw [wi_add ha hb]

theorem feq_wi {r : Nat} {a : Int} (ha : a.natAbs < 2 ^ 40) (h : feq r (wi a)) : r = wi a := by
  rcases h with h | ⟨_, h⟩
  · exact h
  · rw [isNan_wi ha] at h; cases h
end Go.Fl
