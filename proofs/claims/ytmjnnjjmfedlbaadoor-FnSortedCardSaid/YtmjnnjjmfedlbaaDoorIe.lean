/-
  Plain laws of rounding to a float64: what 'nearest' gives, that a word reads back as itself, that only the value counts. No condition.
-/
import Derived.Test.YtmjnnjjmfedlbaaDoorFl
namespace Go.Fl
open Go Ieee

/-- n / 2^d, to the nearest, ties to even. -/
def rne (n d : Nat) : Nat := n / 2 ^ d + (if 2 ^ d < 2 * (n % 2 ^ d) ∨ (2 ^ d = 2 * (n % 2 ^ d) ∧ n / 2 ^ d % 2 = 1) then 1 else 0)

theorem rne_zero (n : Nat) : rne n 0 = n := by
  unfold rne
  simp [Nat.mod_one]

theorem cut_rne (neg : Bool) (n d : Nat) : Toward.even.cut neg n d = rne n d := by
  unfold Toward.cut rne
  simp only [Nat.one_shiftLeft]
  have hb : ∀ (p q : Prop) [Decidable p] [Decidable q], ((decide p || decide q) : Bool).toNat = (if p ∨ q then 1 else 0) := by
    intro p q _ _
    by_cases hp : p <;> by_cases hq : q <;> simp [hp, hq]
  by_cases h : d ≤ n.log2 + 2
  · rw [Nat.min_eq_left h]
    congr 1
    rw [show ((2 ^ d == 2 * (n % 2 ^ d)) && (n / 2 ^ d % 2 == 1)) = decide (2 ^ d = 2 * (n % 2 ^ d) ∧ n / 2 ^ d % 2 = 1) from by rw [Bool.decide_and]; rfl]
    exact hb _ _
  · rw [Nat.min_eq_right (by omega)]
    have hlt : n < 2 ^ (n.log2 + 1) := Nat.lt_log2_self
    have h2 : 2 ^ (n.log2 + 2) = 2 * 2 ^ (n.log2 + 1) := by rw [Nat.pow_succ 2 (n.log2 + 1), Nat.mul_comm]
    have h3 : 2 ^ (n.log2 + 2) ≤ 2 ^ d := Nat.pow_le_pow_right (by decide) (by omega)
    have e1 : n / 2 ^ (n.log2 + 2) = 0 := Nat.div_eq_of_lt (by omega)
    have e2 : n % 2 ^ (n.log2 + 2) = n := Nat.mod_eq_of_lt (by omega)
    have e3 : n / 2 ^ d = 0 := Nat.div_eq_of_lt (by omega)
    have e4 : n % 2 ^ d = n := Nat.mod_eq_of_lt (by omega)
    rw [e1, e2, e3, e4]
    have g1 : ¬ 2 ^ (n.log2 + 2) < 2 * n := by omega
    have g2 : ¬ 2 ^ d < 2 * n := by omega
    simp [g1, g2]

theorem rne_mul (m k d : Nat) : rne (m * 2 ^ k) (d + k) = rne m d := by
  unfold rne
  have hp : 0 < 2 ^ k := Nat.two_pow_pos k
  rw [Nat.pow_add, Nat.mul_div_mul_right _ _ hp, Nat.mul_mod_mul_right]
  have e : 2 * (m % 2 ^ d * 2 ^ k) = (2 * (m % 2 ^ d)) * 2 ^ k := by rw [Nat.mul_assoc]
  rw [e]
  have c1 : 2 ^ d * 2 ^ k < 2 * (m % 2 ^ d) * 2 ^ k ↔ 2 ^ d < 2 * (m % 2 ^ d) := Nat.mul_lt_mul_right hp
  have c2 : 2 ^ d * 2 ^ k = 2 * (m % 2 ^ d) * 2 ^ k ↔ 2 ^ d = 2 * (m % 2 ^ d) := Nat.mul_left_inj (by omega)
  simp only [c1, c2]

theorem rne_exact (a d : Nat) : rne (a * 2 ^ d) d = a := by
  have := rne_mul a d 0
  rw [Nat.zero_add] at this
  rw [this, rne_zero]

/-- The place of the last digit that is kept. -/
def lastOf (m : Nat) (p : Int) : Int := max (p + m.log2 - 52) (-1074)

theorem nearest_rne (s : Bool) (m : Nat) (p b : Int) (hm : m ≠ 0) (h1 : b ≤ p) (h2 : b ≤ lastOf m p) :
    Ieee.double.nearest s m p = Ieee.double.word s (min ((lastOf m p + 1074).toNat * 2 ^ 52 + rne (m * 2 ^ (p - b).toNat) (lastOf m p - b).toNat) (2047 * 2 ^ 52)) := by
  unfold Format.nearest
  rw [if_neg hm]
  dsimp only
  have hl : max (p + (m.log2 : Int) - (Ieee.double.fractionBits : Int)) Ieee.double.leastPlace = lastOf m p := rfl
  have hlp : Ieee.double.leastPlace = -1074 := rfl
  have hbin : Ieee.double.binade = 2 ^ 52 := rfl
  have hinf : Ieee.double.infRung = 2047 * 2 ^ 52 := rfl
  rw [hl, hlp, hbin, hinf, cut_rne, Nat.shiftLeft_eq]
  generalize lastOf m p = L at *
  have key : rne (m * 2 ^ (p - L).toNat) (L - p).toNat = rne (m * 2 ^ (p - b).toNat) (L - b).toNat := by
    by_cases hc : p ≤ L
    · have e1 : (p - L).toNat = 0 := by omega
      have e2 : (L - b).toNat = (L - p).toNat + (p - b).toNat := by omega
      rw [e1, e2, Nat.pow_zero, Nat.mul_one, rne_mul]
    · have e1 : (L - p).toNat = 0 := by omega
      have e2 : (p - b).toNat = (p - L).toNat + (L - b).toNat := by omega
      rw [e1, e2, rne_zero, Nat.pow_add, ← Nat.mul_assoc, rne_exact]
  rw [key]
  rw [show L - (-1074) = L + 1074 from by omega]

/-- Only the value counts. -/
theorem nearest_scale (s : Bool) (m k : Nat) (p : Int) (hm : m ≠ 0) : Ieee.double.nearest s (m * 2 ^ k) p = Ieee.double.nearest s m (p + k) := by
  have hmk : m * 2 ^ k ≠ 0 := Nat.mul_ne_zero hm (by have := Nat.two_pow_pos k; omega)
  have hlog : (m * 2 ^ k).log2 = m.log2 + k := by
    rw [Nat.log2_eq_iff hmk]
    have h1 := Nat.log2_self_le hm
    have h2 : m < 2 ^ (m.log2 + 1) := Nat.lt_log2_self
    have hp := Nat.two_pow_pos k
    refine ⟨by rw [Nat.pow_add]; exact Nat.mul_le_mul_right _ h1, ?_⟩
    rw [show m.log2 + k + 1 = (m.log2 + 1) + k from by omega, Nat.pow_add]
    exact (Nat.mul_lt_mul_right hp).2 h2
  have hL : lastOf (m * 2 ^ k) p = lastOf m (p + k) := by
    unfold lastOf; rw [hlog]; congr 1; omega
  have hb : ∃ b : Int, b ≤ p ∧ b ≤ lastOf m (p + k) := ⟨min p (lastOf m (p + k)), Int.min_le_left .., Int.min_le_right ..⟩
  obtain ⟨b, h1, h2⟩ := hb
  rw [nearest_rne s (m * 2 ^ k) p b hmk h1 (by rw [hL]; exact h2), nearest_rne s m (p + k) b hm (by omega) h2, hL]
  rw [show (p + (k : Int) - b).toNat = k + (p - b).toNat from by omega, Nat.pow_add, Nat.mul_assoc]

theorem word_neg (s : Bool) (r : Nat) : Ieee.double.word s r = if s then 2 ^ 63 + r else r := rfl

theorem read_word (s : Bool) (r : Nat) (h : r < 2 ^ 63) : Ieee.double.read (Ieee.double.word s r) =
    if r < 2 ^ 52 then .number s r (-1074) else if r < 2047 * 2 ^ 52 then .number s (2 ^ 52 + r % 2 ^ 52) (-1074 + (r / 2 ^ 52 - 1 : Nat)) else if r = 2047 * 2 ^ 52 then .infinity s else .nan s (r - 2047 * 2 ^ 52) := by
  unfold Format.read
  have h1 : Ieee.double.binade = 2 ^ 52 := rfl
  have h2 : Ieee.double.infRung = 2047 * 2 ^ 52 := rfl
  have h3 : Ieee.double.signWeight = 2 ^ 63 := rfl
  have h4 : Ieee.double.leastPlace = -1074 := rfl
  rw [h1, h2, h3, h4, word_neg]
  have e1 : ((if s = true then 2 ^ 63 + r else r) / 2 ^ 63 % 2 == 1) = s := by
    cases s
    · have : r / 2 ^ 63 = 0 := Nat.div_eq_of_lt h
      simp [this]
    · have : (2 ^ 63 + r) / 2 ^ 63 = 1 := by omega
      simp [this]
  have e2 : (if s = true then 2 ^ 63 + r else r) % 2 ^ 63 = r := by
    cases s
    · exact Nat.mod_eq_of_lt h
    · simp only [if_true]; omega
  rw [e1, e2]

/-- Each word is its sign and its rung. -/
theorem word_parts (x : Nat) (h : x < 2 ^ 64) : ∃ s r, x = Ieee.double.word s r ∧ r < 2 ^ 63 := by
  by_cases hx : x < 2 ^ 63
  · exact ⟨false, x, by rw [word_neg]; rfl, hx⟩
  · exact ⟨true, x - 2 ^ 63, by rw [word_neg]; simp only [if_true]; omega, by omega⟩

/-- A finite word is the nearest one to what it stands for. -/
theorem nearest_read (s : Bool) (r : Nat) (h : r < 2047 * 2 ^ 52) :
    Ieee.double.nearest s (if r < 2 ^ 52 then r else 2 ^ 52 + r % 2 ^ 52) (if r < 2 ^ 52 then -1074 else -1074 + (r / 2 ^ 52 - 1 : Nat)) = Ieee.double.word s r := by
  by_cases hr : r < 2 ^ 52
  · rw [if_pos hr, if_pos hr]
    by_cases h0 : r = 0
    · subst h0; rfl
    · have hlog : r.log2 < 52 := (Nat.log2_lt h0).2 hr
      have hL : lastOf r (-1074) = -1074 := by unfold lastOf; omega
      rw [nearest_rne s r (-1074) (-1074) h0 (Int.le_refl _) (by rw [hL]; exact Int.le_refl _), hL]
      simp only [Int.sub_self, Int.toNat_zero, Nat.pow_zero, Nat.mul_one, rne_zero]
      rw [show ((-1074 : Int) + 1074).toNat = 0 from rfl, Nat.zero_mul, Nat.zero_add, Nat.min_eq_left (by omega)]
  · rw [if_neg hr, if_neg hr]
    have hlt : r % 2 ^ 52 < 2 ^ 52 := Nat.mod_lt _ (by decide)
    have h0 : 2 ^ 52 + r % 2 ^ 52 ≠ 0 := by omega
    have hlog : (2 ^ 52 + r % 2 ^ 52).log2 = 52 := by
      rw [Nat.log2_eq_iff h0]; omega
    generalize hP : (-1074 + ((r / 2 ^ 52 - 1 : Nat) : Int)) = P
    have hL : lastOf (2 ^ 52 + r % 2 ^ 52) P = P := by unfold lastOf; rw [hlog]; omega
    rw [nearest_rne s _ P P h0 (Int.le_refl _) (by rw [hL]; exact Int.le_refl _), hL]
    simp only [Int.sub_self, Int.toNat_zero, Nat.pow_zero, Nat.mul_one, rne_zero]
    have hq : 1 ≤ r / 2 ^ 52 := by omega
    have e : (P + 1074).toNat = r / 2 ^ 52 - 1 := by omega
    rw [e]
    have e2 : (r / 2 ^ 52 - 1) * 2 ^ 52 + (2 ^ 52 + r % 2 ^ 52) = r := by
      have := Nat.div_add_mod r (2 ^ 52)
      omega
    rw [e2, Nat.min_eq_left (by omega)]

end Go.Fl
