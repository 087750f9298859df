/-
  Plain laws of a word made whole: (x + 2^52) - 2^52 is what RoundToEven gives.
-/
import Derived.Test.YthoajaibaedjeaaPlp
namespace Go.Fl
set_option linter.unusedSimpArgs false
set_option linter.unusedVariables false
open Go

def rte (x : Nat) : Nat := Ieee.double.write ((Ieee.double.read x).integral .even)

theorem classes (x : Nat) (h : x < 2 ^ 64) : isNan x = true ∨ (∃ s, x = Ieee.double.word s 0) ∨ (∃ s, x = Ieee.double.word s (2047 * 2 ^ 52)) ∨
    ∃ s m p, Ieee.double.read x = .number s m p ∧ Ieee.double.nearest s m p = x ∧ m ≠ 0 ∧ m < 2 ^ 53 ∧ (p < 0 ∨ (0 ≤ p ∧ 2 ^ 52 ≤ m)) := by
  obtain ⟨s, r, rfl, hr⟩ := word_parts x h
  have hrd := read_word s r hr
  by_cases h0 : r = 0
  · subst h0; exact .inr (.inl ⟨s, rfl⟩)
  by_cases h1 : r < 2047 * 2 ^ 52
  · have hn := nearest_read s r h1
    refine .inr (.inr (.inr ?_))
    by_cases h2 : r < 2 ^ 52
    · rw [if_pos h2] at hrd
      rw [if_pos h2, if_pos h2] at hn
      exact ⟨s, r, _, hrd, hn, h0, by omega, .inl (by omega)⟩
    · rw [if_neg h2, if_pos h1] at hrd
      rw [if_neg h2, if_neg h2] at hn
      have hm := Nat.mod_lt r (show 0 < 2 ^ 52 by decide)
      refine ⟨s, _, _, hrd, hn, by omega, by omega, ?_⟩
      by_cases h3 : -1074 + ((r / 2 ^ 52 - 1 : Nat) : Int) < 0
      · exact .inl h3
      · exact .inr ⟨by omega, by omega⟩
  by_cases h2 : r = 2047 * 2 ^ 52
  · subst h2; exact .inr (.inr (.inl ⟨s, rfl⟩))
  · left
    rw [if_neg (by omega), if_neg h1, if_neg h2] at hrd
    unfold isNan; rw [hrd]; rfl

theorem read_C : Ieee.double.read 4841369599423283200 = .number false (2 ^ 52) 0 := by decide
theorem read_D : Ieee.double.read 14064741636278059008 = .number true (2 ^ 52) 0 := by decide
theorem read_Z : Ieee.double.read 0 = .number false 0 (-1074) := by decide
theorem ford_num {x y m n : Nat} {s t : Bool} {p q : Int} (h : Ieee.double.read x = .number s m p) (g : Ieee.double.read y = .number t n q) :
    ford x y = some (compare (Ieee.signed s m (p - min p q).toNat) (Ieee.signed t n (q - min p q).toNat)) := by
  show Ieee.Datum.order (Ieee.double.read x) (Ieee.double.read y) = _
  rw [h, g]; rfl
theorem signed_pos (m u : Nat) : Ieee.signed false m u = ((m * 2 ^ u : Nat) : Int) := by simp [Ieee.signed, Nat.shiftLeft_eq]
theorem signed_neg (m u : Nat) : Ieee.signed true m u = -((m * 2 ^ u : Nat) : Int) := by simp [Ieee.signed, Nat.shiftLeft_eq]
theorem cmp_lt' {a b : Int} (h : a < b) : compare a b = .lt := Int.compare_eq_lt.2 h
theorem cmp_gt' {a b : Int} (h : b < a) : compare a b = .gt := Int.compare_eq_gt.2 h

/-- A number of less than 2^52, made whole by 2^52. -/
theorem sum_C (m : Nat) (p : Int) (d : Nat) (hp : p = -(d : Int)) (hd : 0 < d) (hm : m < 2 ^ 53) : 
    ∃ y, ((Ieee.Datum.number false m p).sum (.number false (2 ^ 52) 0)).map Ieee.double.write = some y ∧
      floatBits .sub .f64 y 4841369599423283200 = some (Ieee.double.nearest false (rne m d) 0) := by
  subst hp
  have hD : 2 ≤ 2 ^ d := by
    obtain ⟨e, rfl⟩ : ∃ e, d = e + 1 := ⟨d - 1, by omega⟩
    have := Nat.two_pow_pos e
    rw [Nat.pow_succ]; omega
  have hk : rne m d ≤ 2 ^ 52 := by
    unfold rne
    have h1 : m / 2 ^ d ≤ (2 ^ 53 - 1) / 2 := by
      refine Nat.le_trans (Nat.div_le_div_right (Nat.le_sub_one_of_lt hm)) (Nat.div_le_div_left hD (by decide))
    split <;> omega
  have hsum : (Ieee.Datum.number false m (-(d : Int))).sum (.number false (2 ^ 52) 0) = some (.number false (m + 2 ^ 52 * 2 ^ d) (-(d : Int))) := by
    simp only [Ieee.Datum.sum, signed_pos]
    have e1 : (-(d : Int) - min (-(d : Int)) 0).toNat = 0 := by omega
    have e2 : (0 - min (-(d : Int)) 0).toNat = d := by omega
    have e3 : min (-(d : Int)) 0 = -(d : Int) := by omega
    rw [e1, e2, e3, Nat.pow_zero, Nat.mul_one]
    have e4 : ((m : Nat) : Int) + ((2 ^ 52 * 2 ^ d : Nat) : Int) = ((m + 2 ^ 52 * 2 ^ d : Nat) : Int) := (Int.natCast_add _ _).symm
    rw [e4]
    have hpos : 0 < m + 2 ^ 52 * 2 ^ d := by omega
    generalize m + 2 ^ 52 * 2 ^ d = t at *
    rw [if_neg (by omega), Int.natAbs_natCast, decide_eq_false (by omega)]
  have hL2 : (m + 2 ^ 52 * 2 ^ d).log2 = 52 + d := by
    rw [Nat.log2_eq_iff (by omega)]
    have h1 : 2 ^ (52 + d) = 2 ^ 52 * 2 ^ d := Nat.pow_add ..
    have h2 : 2 ^ (52 + d + 1) = 2 * (2 ^ 52 * 2 ^ d) := by rw [Nat.pow_succ, h1, Nat.mul_comm]
    rw [h1, h2]
    generalize 2 ^ d = Q at *
    omega
  have hL : lastOf (m + 2 ^ 52 * 2 ^ d) (-(d : Int)) = 0 := by unfold lastOf; rw [hL2]; omega
  have hr : rne (m + 2 ^ 52 * 2 ^ d) d = 2 ^ 52 + rne m d := by
    unfold rne
    have hp := Nat.two_pow_pos d
    have e1 : (m + 2 ^ 52 * 2 ^ d) / 2 ^ d = m / 2 ^ d + 2 ^ 52 := Nat.add_mul_div_right _ _ hp
    have e2 : (m + 2 ^ 52 * 2 ^ d) % 2 ^ d = m % 2 ^ d := Nat.add_mul_mod_self_right ..
    rw [e1, e2]
    have e3 : (m / 2 ^ d + 2 ^ 52) % 2 = m / 2 ^ d % 2 := by omega
    rw [e3]; omega
  have hw : Ieee.double.nearest false (m + 2 ^ 52 * 2 ^ d) (-(d : Int)) = Ieee.double.word false (1075 * 2 ^ 52 + rne m d) := by
    rw [nearest_rne false _ _ (-(d : Int)) (by omega) (by omega) (by omega), hL]
    have e1 : (-(d : Int) - -(d : Int)).toNat = 0 := by omega
    have e2 : (0 - -(d : Int)).toNat = d := by omega
    rw [e1, e2, Nat.pow_zero, Nat.mul_one, hr]
    congr 1
    omega
  refine ⟨Ieee.double.word false (1075 * 2 ^ 52 + rne m d), by rw [hsum, ← hw]; rfl, ?_⟩
  show ((Ieee.double.read _).sum (Ieee.double.read 4841369599423283200).opposite).map Ieee.double.write = _
  rw [read_C]
  generalize rne m d = k at *
  clear hw hr hL hL2 hsum
  have hrd := read_word false (1075 * 2 ^ 52 + k) (by omega)
  rw [if_neg (by omega), if_pos (by omega)] at hrd
  by_cases hk2 : k < 2 ^ 52
  · have e1 : (1075 * 2 ^ 52 + k) % 2 ^ 52 = k := by omega
    have e2 : (1075 * 2 ^ 52 + k) / 2 ^ 52 = 1075 := by omega
    rw [e1, e2] at hrd
    rw [hrd]
    simp only [Ieee.Datum.sum, Ieee.Datum.opposite, Bool.not_false, signed_pos, signed_neg]
    have e3 : (-1074 + ((1075 - 1 : Nat) : Int)) = 0 := by decide
    rw [e3]
    have e4 : ((0 : Int) - min 0 0).toNat = 0 := by decide
    rw [e4, Nat.pow_zero, Nat.mul_one, Nat.mul_one]
    have e5 : (((2 ^ 52 + k : Nat)) : Int) + -((2 ^ 52 : Nat) : Int) = (k : Int) := by omega
    rw [e5, Int.natAbs_natCast]
    have e6 : (if (k : Int) = 0 then false && true else decide ((k : Int) < 0)) = false := by
      split
      · rfl
      · exact decide_eq_false (by omega)
    rw [e6]; rfl
  · obtain rfl : k = 2 ^ 52 := by omega
    rw [hrd]
    decide

theorem rte_word0 (s : Bool) : rte (Ieee.double.word s 0) = Ieee.double.word s 0 := by cases s <;> decide
theorem rte_inf (s : Bool) : rte (Ieee.double.word s (2047 * 2 ^ 52)) = Ieee.double.word s (2047 * 2 ^ 52) := by cases s <;> decide
theorem rte_big {x m : Nat} {s : Bool} {p : Int} (h : Ieee.double.read x = .number s m p) (hx : Ieee.double.nearest s m p = x) (hm : m ≠ 0) (hp : 0 ≤ p) : rte x = x := by
  unfold rte
  rw [h]
  show Ieee.double.nearest s (Ieee.Toward.even.cut s (m <<< p.toNat) (-p).toNat) 0 = x
  have e1 : (-p).toNat = 0 := by omega
  rw [cut_rne, e1, rne_zero, Nat.shiftLeft_eq, nearest_scale s m p.toNat 0 hm]
  have e2 : (0 : Int) + (p.toNat : Int) = p := by omega
  rw [e2, hx]
theorem rte_small {x m : Nat} {s : Bool} {p : Int} (h : Ieee.double.read x = .number s m p) (hp : p < 0) : rte x = Ieee.double.nearest s (rne m (-p).toNat) 0 := by
  unfold rte
  rw [h]
  show Ieee.double.nearest s (Ieee.Toward.even.cut s (m <<< p.toNat) (-p).toNat) 0 = _
  have e1 : p.toNat = 0 := by omega
  rw [cut_rne, e1, Nat.shiftLeft_zero]

def Keeps (x : Nat) : Prop := ford x x = some .eq ∧ rte x = x ∧ (ford x 0 = some .eq ∨ (ford x 0 = some .gt ∧ ford x 4841369599423283200 = some .gt) ∨ (ford x 0 = some .gt ∧ ford x 4841369599423283200 = some .eq) ∨
  (ford x 0 = some .lt ∧ ford x 4841369599423283200 = some .lt ∧ ford x 14064741636278059008 = some .lt) ∨ (ford x 0 = some .lt ∧ ford x 4841369599423283200 = some .lt ∧ ford x 14064741636278059008 = some .eq))
def Ups (x : Nat) : Prop := ford x x = some .eq ∧ ford x 0 = some .gt ∧ ford x 4841369599423283200 = some .lt ∧ ford x 14064741636278059008 = some .gt ∧ ∃ y, floatBits .add .f64 x 4841369599423283200 = some y ∧ floatBits .sub .f64 y 4841369599423283200 = some (rte x)
def Downs (x : Nat) : Prop := ford x x = some .eq ∧ ford x 0 = some .lt ∧ ford x 4841369599423283200 = some .lt ∧ ford x 14064741636278059008 = some .gt ∧ ∃ y z, floatBits .sub .f64 4841369599423283200 x = some y ∧ floatBits .sub .f64 y 4841369599423283200 = some z ∧ Op.negFloat .f64 z = rte x

theorem near_parts (x : Nat) (h : x < 2 ^ 64) : isNan x = true ∨ (isNan x = false ∧ (Keeps x ∨ Ups x ∨ Downs x)) := by
  cases hn : isNan x with
  | true => exact .inl rfl
  | false =>
    refine .inr ⟨rfl, ?_⟩
    have hs := ford_self hn
    rcases classes x h with h1 | ⟨s, rfl⟩ | ⟨s, rfl⟩ | ⟨s, m, p, hr, hx, hm, hm2, hp⟩
    · rw [hn] at h1; cases h1
    · exact .inl ⟨hs, rte_word0 s, .inl (by cases s <;> decide)⟩
    · refine .inl ⟨hs, rte_inf s, .inr ?_⟩
      cases s
      · exact .inl ⟨by decide, by decide⟩
      · exact .inr (.inr (.inl ⟨by decide, by decide, by decide⟩))
    · have o0 := ford_num hr read_Z
      have oC := ford_num hr read_C
      have oD := ford_num hr read_D
      have z1 : Ieee.signed false 0 (-1074 - min p (-1074)).toNat = 0 := by rw [signed_pos, Nat.zero_mul]; rfl
      rw [z1] at o0
      have hpos : 0 < m * 2 ^ (p - min p (-1074)).toNat := Nat.mul_pos (by omega) (Nat.two_pow_pos _)
      rcases hp with hp | ⟨hp, hm3⟩
      · have hC : m < 2 ^ 52 * 2 ^ (-p).toNat := by
          obtain ⟨e, he⟩ : ∃ e, (-p).toNat = e + 1 := ⟨(-p).toNat - 1, by omega⟩
          have := Nat.two_pow_pos e
          rw [he, Nat.pow_succ]; omega
        have e1 : (p - min p 0).toNat = 0 := by omega
        have e2 : (0 - min p 0).toNat = (-p).toNat := by omega
        rw [e1, e2] at oC oD
        have hrs := rte_small hr hp
        obtain ⟨y, hy1, hy2⟩ := sum_C m p (-p).toNat (by omega) (by omega) hm2
        cases s
        · rw [signed_pos] at o0 oC oD
          rw [signed_pos] at oC
          rw [signed_neg] at oD
          refine .inr (.inl ⟨hs, o0.trans (congrArg some (cmp_gt' (by omega))), oC.trans (congrArg some (cmp_lt' (by omega))), oD.trans (congrArg some (cmp_gt' (by omega))), y, ?_, ?_⟩)
          · show ((Ieee.double.read x).sum (Ieee.double.read 4841369599423283200)).map Ieee.double.write = _
            rw [hr, read_C]; exact hy1
          · rw [hrs]; exact hy2
        · rw [signed_neg] at o0 oC oD
          rw [signed_pos] at oC
          rw [signed_neg] at oD
          refine .inr (.inr ⟨hs, o0.trans (congrArg some (cmp_lt' (by omega))), oC.trans (congrArg some (cmp_lt' (by omega))), oD.trans (congrArg some (cmp_gt' (by omega))), y, _, ?_, hy2, ?_⟩)
          · show ((Ieee.double.read 4841369599423283200).sum (Ieee.double.read x).opposite).map Ieee.double.write = _
            rw [hr, read_C, sum_comm]; exact hy1
          · rw [hrs, ← nearest_opp]; rfl
      · have hC : 2 ^ 52 ≤ m * 2 ^ p.toNat := Nat.le_trans hm3 (Nat.le_mul_of_pos_right _ (Nat.two_pow_pos _))
        have e1 : (p - min p 0).toNat = p.toNat := by omega
        have e2 : (0 - min p 0).toNat = 0 := by omega
        rw [e1, e2] at oC oD
        refine .inl ⟨hs, rte_big hr hx hm hp, .inr ?_⟩
        cases s
        · rw [signed_pos] at o0
          rw [signed_pos, signed_pos] at oC
          have k0 := o0.trans (congrArg some (cmp_gt' (by omega)))
          by_cases he : m * 2 ^ p.toNat = 2 ^ 52
          · exact .inr (.inl ⟨k0, oC.trans (congrArg some (Int.compare_eq_eq.2 (by omega)))⟩)
          · exact .inl ⟨k0, oC.trans (congrArg some (cmp_gt' (by omega)))⟩
        · rw [signed_neg] at o0
          rw [signed_neg, signed_pos] at oC
          rw [signed_neg, signed_neg] at oD
          have k0 := o0.trans (congrArg some (cmp_lt' (by omega)))
          have kC := oC.trans (congrArg some (cmp_lt' (by omega)))
          by_cases he : m * 2 ^ p.toNat = 2 ^ 52
          · exact .inr (.inr (.inr ⟨k0, kC, oD.trans (congrArg some (Int.compare_eq_eq.2 (by omega)))⟩))
          · exact .inr (.inr (.inl ⟨k0, kC, oD.trans (congrArg some (cmp_lt' (by omega)))⟩))
end Go.Fl
