/-
  Plain laws for ToBits: a finite word as a whole number times a power of two, compared, doubled and halved till it has 53 bits.
-/
import Derived.Test.YtmjnnjjmfedlbaaDoorTb
import Derived.Test.YtmjnnjjmfedlbaaDoorUn
namespace Go.Proofs.YtmjnnjjmfedlbaaDoor
set_option linter.unusedSimpArgs false
set_option linter.unusedVariables false
open Go Ieee
open Go.Fl

/-- The place at which m has 53 bits. -/
def top (m : Nat) : Int := 52 - (m.log2 : Int)

theorem rung_wd {r : Nat} (h1 : 0 < r) (h2 : r < 9218868437227405312) : ∃ (m : Nat) (p : Int), Ex m p ∧ wd false m p = r ∧ p ≤ 971 ∧ (p = -1074 ∨ 4503599627370496 ≤ m) ∧
    (p = -1074 → m = r) ∧ (4503599627370496 ≤ m → top m = 0 ∧ (p + 1074) * 4503599627370496 + (m : Int) = (r : Int)) := by
  refine ⟨manOf 4503599627370496 r, expOf 4503599627370496 1075 r, ?_, ?_, ?_, ?_, ?_, ?_⟩
  · have hM : manOf 4503599627370496 r ≠ 0 ∧ manOf 4503599627370496 r < 2 ^ 53 := by unfold manOf; split <;> omega
    have hE : -1074 ≤ expOf 4503599627370496 1075 r ∧ expOf 4503599627370496 1075 r ≤ 971 := by unfold expOf; split <;> omega
    have := log2_52 hM.1 hM.2
    exact ⟨hM.1, hM.2, hE.1, by omega⟩
  · have h4 := nearest_read false r (by omega)
    have e1 : (if r < 2 ^ 52 then r else 2 ^ 52 + r % 2 ^ 52) = manOf 4503599627370496 r := rfl
    have e2 : (if r < 2 ^ 52 then (-1074 : Int) else -1074 + (r / 2 ^ 52 - 1 : Nat)) = expOf 4503599627370496 1075 r := by
      unfold expOf
      by_cases hc : r < 4503599627370496
      · rw [if_pos hc, if_pos (by omega)]; rfl
      · rw [if_neg hc, if_neg (by omega)]; omega
    rw [e1, e2] at h4
    exact h4
  · unfold expOf; split <;> omega
  · unfold expOf manOf
    by_cases hc : r < 4503599627370496
    · rw [if_pos hc]; exact .inl (by decide)
    · rw [if_neg hc, if_neg hc]; exact .inr (by omega)
  · unfold expOf manOf
    by_cases hc : r < 4503599627370496
    · intro _; rw [if_pos hc]
    · rw [if_neg hc, if_neg hc]; intro h; omega
  · intro hm
    have hM : manOf 4503599627370496 r ≠ 0 ∧ manOf 4503599627370496 r < 2 ^ 53 := by unfold manOf; split <;> omega
    have hl : (manOf 4503599627370496 r).log2 = 52 := (Nat.log2_eq_iff hM.1).2 ⟨by omega, by omega⟩
    refine ⟨by unfold top; omega, ?_⟩
    unfold manOf at hm
    by_cases hc : r < 4503599627370496
    · rw [if_pos hc] at hm; omega
    · unfold manOf expOf
      rw [if_neg hc, if_neg hc]; omega

theorem top_bounds {m : Nat} (h0 : m ≠ 0) (h : m < 2 ^ 53) : 0 ≤ top m ∧ top m ≤ 52 ∧ 4503599627370496 ≤ m * 2 ^ (top m).toNat ∧ m * 2 ^ (top m).toNat < 9007199254740992 := by
  have hl := log2_52 h0 h
  have ht : (top m).toNat = 52 - m.log2 := by unfold top; omega
  have hlog := log2_mul m (52 - m.log2) h0
  have hmk : m * 2 ^ (52 - m.log2) ≠ 0 := Nat.mul_ne_zero h0 (by have := Nat.two_pow_pos (52 - m.log2); omega)
  have hb := (Nat.log2_eq_iff hmk).1 (by rw [hlog]; omega : _ = 52)
  rw [ht]
  exact ⟨by unfold top; omega, by unfold top; omega, hb.1, hb.2⟩

theorem c53 : wd false 1 53 = 4845873199050653696 := by decide
theorem c52 : wd false 1 52 = 4841369599423283200 := by decide

/-- Against 2^k: by the place of the leading bit. -/
theorem ford_pow {m : Nat} {t : Int} (k : Nat) (hk : k ≤ 60) (h : Ex m t) : ∃ o, ford (wd false m t) (wd false 1 (k : Int)) = some o ∧ (((k : Int) ≤ m.log2 + t ∧ o ≠ .lt) ∨ ((m.log2 : Int) + t < k ∧ o = .lt)) := by
  have hl1 : (1 : Nat).log2 = 0 := rfl
  have h1 : Ex 1 (k : Int) := ⟨by decide, by decide, by omega, by rw [hl1]; omega⟩
  have h0 := h
  obtain ⟨hm0, hm1, ht, ht2⟩ := h0
  have hlow : low m t ≤ (t + 1074).toNat := by unfold low; omega
  have hlow2 : low 1 (k : Int) ≤ 52 := by unfold low; rw [hl1]; omega
  have key := ford_wd (c := -1074) h h1 (by omega) (by omega)
  refine ⟨_, key, ?_⟩
  rw [Nat.one_mul]
  obtain ⟨u, hu⟩ : ∃ u, u = (t - -1074).toNat := ⟨_, rfl⟩
  obtain ⟨v, hv⟩ : ∃ v, v = ((k : Int) - -1074).toNat := ⟨_, rfl⟩
  rw [← hu, ← hv]
  have hpow := Nat.log2_self_le hm0
  have hpow2 : m < 2 ^ (m.log2 + 1) := Nat.lt_log2_self
  have hpu := Nat.two_pow_pos u
  by_cases hc : (k : Int) ≤ m.log2 + t
  · refine .inl ⟨hc, ?_⟩
    have h3 : 2 ^ v ≤ 2 ^ (m.log2 + u) := Nat.pow_le_pow_right (by decide) (by omega)
    have h4 : 2 ^ (m.log2 + u) ≤ m * 2 ^ u := by rw [Nat.pow_add]; exact Nat.mul_le_mul_right _ hpow
    intro e
    have := Nat.compare_eq_lt.1 e
    omega
  · refine .inr ⟨by omega, ?_⟩
    have h3 : 2 ^ (m.log2 + 1 + u) ≤ 2 ^ v := Nat.pow_le_pow_right (by decide) (by omega)
    have h4 : m * 2 ^ u < 2 ^ (m.log2 + 1 + u) := by rw [Nat.pow_add]; exact (Nat.mul_lt_mul_right hpu).2 hpow2
    exact Nat.compare_eq_lt.2 (by omega)

theorem rne_lt {m : Nat} (h : m ≠ 0) : rne m 1 < m := by
  unfold rne
  rw [Nat.pow_one]
  split <;> omega

theorem read_low (q : Nat) (h : q < 9007199254740992) : Ieee.double.read q = .number false q (-1074) := by
  have h1 := read_word false q (by omega)
  rw [word_neg] at h1
  simp only [Bool.false_eq_true, if_false] at h1
  rw [h1]
  by_cases hc : q < 2 ^ 52
  · rw [if_pos hc]
  · rw [if_neg hc, if_pos (by omega)]
    congr 1 <;> omega

/-- Half of a finite word is another one. -/
theorem half_ne {m : Nat} {p : Int} (h : Ex m p) (hp : p = -1074 ∨ 4503599627370496 ≤ m) (hr : p = -1074 → wd false m p = m) : ∃ q, floatBits .quo .f64 (wd false m p) 4611686018427387904 = some q ∧ ford q (wd false m p) = some .lt := by
  refine ⟨_, fquo_two h, ?_⟩
  by_cases hc : -1074 ≤ p - 1
  · have h2 : Ex m (p - 1) := ⟨h.1, h.2.1, hc, by have := h.2.2.2; omega⟩
    have hl1 : low m (p - 1) ≤ (p - 1 + 1074).toNat := by unfold low; omega
    have hl2 : low m p ≤ (p + 1074).toNat := by unfold low; omega
    rw [ford_wd (c := -1074) h2 h (by omega) (by omega)]
    congr 1
    refine Nat.compare_eq_lt.2 ?_
    rw [show (p - -1074).toNat = (p - 1 - -1074).toNat + 1 from by omega, Nat.pow_succ, ← Nat.mul_assoc]
    have := Nat.mul_pos (Nat.pos_of_ne_zero h.1) (Nat.two_pow_pos (p - 1 - -1074).toNat)
    omega
  · have hpe : p = -1074 := by have := h.2.2.1; omega
    subst hpe
    have hl := log2_52 h.1 h.2.1
    have hL : lastOf m (-1074 - 1) = -1074 := by unfold lastOf; omega
    have hq : wd false m (-1074 - 1) = rne m 1 := by
      unfold wd
      rw [nearest_rne false m (-1074 - 1) (-1074 - 1) h.1 (Int.le_refl _) (by rw [hL]; omega), hL]
      have e1 : ((-1074 : Int) + 1074).toNat = 0 := rfl
      have e2 : ((-1074 : Int) - 1 - (-1074 - 1)).toNat = 0 := rfl
      have e3 : ((-1074 : Int) - (-1074 - 1)).toNat = 1 := rfl
      rw [e1, e2, e3, Nat.zero_mul, Nat.zero_add, Nat.pow_zero, Nat.mul_one, word_neg]
      have := rne_lt h.1
      have := h.2.1
      simp only [Bool.false_eq_true, if_false]
      omega
    have hrn := rne_lt h.1
    rw [hq, hr rfl]
    show Ieee.Datum.order (Ieee.double.read _) (Ieee.double.read _) = _
    rw [read_low _ (by have := h.2.1; omega), read_low _ (by have := h.2.1; omega), order_nat _ _ _ _ (-1074) (Int.le_refl _) (Int.le_refl _)]
    congr 1
    refine Nat.compare_eq_lt.2 ?_
    rw [show ((-1074 : Int) - -1074).toNat = 0 from rfl, Nat.pow_zero, Nat.mul_one, Nat.mul_one]
    exact hrn

theorem ford_zero_pos {m : Nat} {p : Int} (h : Ex m p) : ford (wd false m p) 0 = some .gt := by
  show Ieee.Datum.order (Ieee.double.read _) (Ieee.double.read 0) = _
  have h0 : Ieee.double.read 0 = .number false 0 (-1074) := read_low 0 (by decide)
  have hl2 : low m p ≤ (p + 1074).toNat := by unfold low; omega
  have := h.2.2.1
  rw [read_wd h, h0, order_nat _ _ _ _ (-1074) (by omega) (Int.le_refl _)]
  congr 1
  refine Nat.compare_eq_gt.2 ?_
  rw [Nat.zero_mul]
  exact Nat.mul_pos (Nat.mul_pos (Nat.pos_of_ne_zero h.1) (Nat.two_pow_pos _)) (Nat.two_pow_pos _)

theorem ford_zero_neg {m : Nat} {p : Int} (h : Ex m p) : ford (wd true m p) 0 = some .lt := by
  show Ieee.Datum.order (Ieee.double.read _) (Ieee.double.read 0) = _
  have h0 : Ieee.double.read 0 = .number false 0 (-1074) := read_low 0 (by decide)
  rw [read_wd h, h0]
  simp only [Ieee.Datum.order, Ieee.signed, if_true, Bool.false_eq_true, if_false, Nat.zero_shiftLeft]
  congr 1
  refine Int.compare_eq_lt.2 ?_
  have hpos : 0 < (m * 2 ^ low m p) <<< (p - ↑(low m p) - min (p - ↑(low m p)) (-1074)).toNat := by
    rw [Nat.shiftLeft_eq]; exact Nat.mul_pos (Nat.mul_pos (Nat.pos_of_ne_zero h.1) (Nat.two_pow_pos _)) (Nat.two_pow_pos _)
  omega

theorem toInt_top {m : Nat} (h0 : m ≠ 0) (h : m < 2 ^ 53) : (Ieee.double.read (wd false m (top m))).toInt .zero = some ((m * 2 ^ (top m).toNat : Nat) : Int) := by
  have hl := log2_52 h0 h
  have he : Ex m (top m) := ⟨h0, h, by unfold top; omega, by unfold top; omega⟩
  have hlow : low m (top m) = (top m).toNat := by unfold low top; omega
  rw [read_wd he, hlow]
  have hz : (top m - ((top m).toNat : Int)) = 0 := by unfold top; omega
  rw [hz]
  simp only [Ieee.Datum.toInt, Ieee.Datum.integral, Ieee.signed, Bool.false_eq_true, if_false]
  simp [Ieee.Toward.cut]
end Go.Proofs.YtmjnnjjmfedlbaaDoor
