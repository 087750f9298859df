/-
  Plain laws of float64 words that are m * 2^p exactly: how they read, doubling, halving, the order, the sign. No condition.
-/
import Derived.Test.YtmjnnjjmfedlbaaDoorIe
namespace Go.Fl
set_option linter.unusedSimpArgs false
set_option linter.unusedVariables false
open Go Ieee

/-- The word of m * 2^p. -/
def wd (s : Bool) (m : Nat) (p : Int) : Nat := Ieee.double.nearest s m p

/-- m * 2^p is what some word stands for. -/
def Ex (m : Nat) (p : Int) : Prop := m ≠ 0 ∧ m < 2 ^ 53 ∧ -1074 ≤ p ∧ (m.log2 : Int) + p ≤ 1023

/-- By how much the word's last digit lies below p. -/
def low (m : Nat) (p : Int) : Nat := min (52 - m.log2) (p + 1074).toNat

theorem log2_52 {m : Nat} (h0 : m ≠ 0) (h : m < 2 ^ 53) : m.log2 ≤ 52 := by have := (Nat.log2_lt h0).2 h; omega

theorem log2_mul (m k : Nat) (hm : m ≠ 0) : (m * 2 ^ k).log2 = m.log2 + k := by
  have hmk : m * 2 ^ k ≠ 0 := Nat.mul_ne_zero hm (by have := Nat.two_pow_pos k; omega)
  rw [Nat.log2_eq_iff hmk]
  have h1 := Nat.log2_self_le hm
  have h2 : m < 2 ^ (m.log2 + 1) := Nat.lt_log2_self
  have hp := Nat.two_pow_pos k
  refine ⟨by rw [Nat.pow_add]; exact Nat.mul_le_mul_right _ h1, ?_⟩
  rw [show m.log2 + k + 1 = (m.log2 + 1) + k from by omega, Nat.pow_add]
  exact (Nat.mul_lt_mul_right hp).2 h2

/-- The rung of an exact word. -/
theorem wd_rung {s : Bool} {m : Nat} {p : Int} (h : Ex m p) : wd s m p = Ieee.double.word s (min ((p - low m p + 1074).toNat * 2 ^ 52 + m * 2 ^ low m p) (2047 * 2 ^ 52)) := by
  obtain ⟨h0, h1, h2, h3⟩ := h
  have hl := log2_52 h0 h1
  have hL : lastOf m p = p - low m p := by unfold lastOf low; omega
  unfold wd
  rw [nearest_rne s m p (lastOf m p) h0 (by rw [hL]; omega) (Int.le_refl _), Int.sub_self, Int.toNat_zero, rne_zero, hL]
  rw [show (p - (p - (low m p : Int))).toNat = low m p from by omega]

theorem ex_bounds {m : Nat} {p : Int} (h : Ex m p) : (2 ^ 52 ≤ m * 2 ^ low m p ∧ m * 2 ^ low m p < 2 ^ 53 ∧ -1074 ≤ p - low m p ∧ p - low m p ≤ 971) ∨ (m * 2 ^ low m p < 2 ^ 52 ∧ p - low m p = -1074) := by
  obtain ⟨h0, h1, h2, h3⟩ := h
  have hl := log2_52 h0 h1
  have hmk : m * 2 ^ low m p ≠ 0 := Nat.mul_ne_zero h0 (by have := Nat.two_pow_pos (low m p); omega)
  have hlog := log2_mul m (low m p) h0
  by_cases hc : 52 - m.log2 ≤ (p + 1074).toNat
  · have hk : low m p = 52 - m.log2 := by unfold low; omega
    have hlog2 : (m * 2 ^ low m p).log2 = 52 := by rw [hlog]; omega
    have hb := (Nat.log2_eq_iff hmk).1 hlog2
    exact .inl ⟨hb.1, hb.2, by omega, by omega⟩
  · have hk : low m p = (p + 1074).toNat := by unfold low; omega
    have hlog2 : (m * 2 ^ low m p).log2 < 52 := by rw [hlog]; omega
    exact .inr ⟨(Nat.log2_lt hmk).1 hlog2, by omega⟩

theorem read_wd {s : Bool} {m : Nat} {p : Int} (h : Ex m p) : Ieee.double.read (wd s m p) = .number s (m * 2 ^ low m p) (p - low m p) := by
  rw [wd_rung h]
  have hb := ex_bounds h
  generalize hM : m * 2 ^ low m p = M at *
  generalize hL : p - (low m p : Int) = L at *
  rcases hb with ⟨h1, h2, h3, h4⟩ | ⟨h1, h2⟩
  · rw [Nat.min_eq_left (by omega), read_word _ _ (by omega), if_neg (by omega), if_pos (by omega)]
    congr 1 <;> omega
  · subst h2
    rw [show ((-1074 : Int) + 1074).toNat = 0 from rfl, Nat.zero_mul, Nat.zero_add, Nat.min_eq_left (by omega), read_word _ _ (by omega), if_pos (by omega)]

theorem wd_lt (s : Bool) {m : Nat} {p : Int} (h : Ex m p) : wd s m p < 2 ^ 64 := by
  rw [wd_rung h]
  have hb := ex_bounds h
  rw [word_neg]
  split <;> omega

theorem isNan_wd {s : Bool} {m : Nat} {p : Int} (h : Ex m p) : isNan (wd s m p) = false := by unfold isNan; rw [read_wd h]; rfl

theorem read_two : Ieee.double.read 4611686018427387904 = .number false (2 ^ 52) (-51) := by decide

/-- Doubling is exact. -/
theorem fmul_two {s : Bool} {m : Nat} {p : Int} (h : Ex m p) : floatBits .mul .f64 (wd s m p) 4611686018427387904 = some (wd s m (p + 1)) := by
  show (Ieee.Datum.product (Ieee.double.read (wd s m p)) (Ieee.double.read 4611686018427387904)).map Ieee.double.write = _
  rw [read_wd h, read_two]
  simp only [Ieee.Datum.product, Option.map, Bool.xor_false]
  congr 1
  show Ieee.double.nearest s (m * 2 ^ low m p * 2 ^ 52) _ = Ieee.double.nearest s m (p + 1)
  rw [Nat.mul_assoc, ← Nat.pow_add, nearest_scale s m (low m p + 52) _ h.1]
  congr 1
  omega

/-- Halving is exact. -/
theorem fquo_two {s : Bool} {m : Nat} {p : Int} (h : Ex m p) : floatBits .quo .f64 (wd s m p) 4611686018427387904 = some (wd s m (p - 1)) := by
  show (Ieee.Datum.quotient (Ieee.double.fractionBits + 2) (Ieee.double.read (wd s m p)) (Ieee.double.read 4611686018427387904)).map Ieee.double.write = _
  rw [read_wd h, read_two]
  have hl : (m * 2 ^ low m p).log2 ≤ 52 := by
    rw [log2_mul m _ h.1]; unfold low; have := log2_52 h.1 h.2.1; omega
  have hmk : m * 2 ^ low m p ≠ 0 := Nat.mul_ne_zero h.1 (by have := Nat.two_pow_pos (low m p); omega)
  generalize hM : m * 2 ^ low m p = M at *
  have hlog : (2 ^ 52 : Nat).log2 = 52 := by rw [Nat.log2_eq_iff (by decide)]; omega
  have hf : Ieee.double.fractionBits = 52 := rfl
  simp only [Ieee.Datum.quotient, Option.map, Bool.xor_false]
  rw [if_neg (show ¬ (2 ^ 52 : Nat) = 0 by decide), hlog, hf, Nat.shiftLeft_eq]
  obtain ⟨q, hq⟩ : ∃ q, 52 + 2 + 52 - M.log2 = q + 52 := ⟨52 + 2 - M.log2, by omega⟩
  rw [hq, Nat.pow_add, ← Nat.mul_assoc, Nat.mul_div_cancel _ (by decide), Nat.mul_mod_left]
  have e0 : (0 != 0).toNat = 0 := rfl
  rw [e0, Nat.add_zero, Nat.mul_comm 2, Nat.mul_assoc, ← Nat.pow_succ, ← hM, Nat.mul_assoc, ← Nat.pow_add]
  have key := nearest_scale s m (low m p + (q + 1)) (p - ↑(low m p) - -51 - ↑(q + 52) - 1) h.1
  have hp : p - ↑(low m p) - -51 - ↑(q + 52) - 1 + ↑(low m p + (q + 1)) = p - 1 := by omega
  rw [hp] at key
  exact congrArg some key

theorem Ex.up {m : Nat} {p : Int} (h : Ex m p) (h1 : (m.log2 : Int) + p ≤ 1022) : Ex m (p + 1) := ⟨h.1, h.2.1, by have := h.2.2.1; omega, by omega⟩
theorem Ex.down {m : Nat} {p : Int} (h : Ex m p) (h1 : -1074 < p) : Ex m (p - 1) := ⟨h.1, h.2.1, by omega, by have := h.2.2.2; omega⟩

theorem cmp_lt (a b : Nat) : compare (a : Int) (b : Int) = compare a b := by
  rcases Nat.lt_trichotomy a b with h | h | h
  · rw [Nat.compare_eq_lt.2 h, Int.compare_eq_lt.2 (by omega)]
  · subst h; rw [Nat.compare_eq_eq.2 rfl, Int.compare_eq_eq.2 rfl]
  · rw [Nat.compare_eq_gt.2 h, Int.compare_eq_gt.2 (by omega)]

theorem cmp_scale (a b t : Nat) (ht : 0 < t) : compare (a * t) (b * t) = compare a b := by
  rcases Nat.lt_trichotomy a b with h | h | h
  · rw [Nat.compare_eq_lt.2 h, Nat.compare_eq_lt.2 ((Nat.mul_lt_mul_right ht).2 h)]
  · subst h; rw [Nat.compare_eq_eq.2 rfl, Nat.compare_eq_eq.2 rfl]
  · rw [Nat.compare_eq_gt.2 h, Nat.compare_eq_gt.2 ((Nat.mul_lt_mul_right ht).2 h)]

theorem order_nat (A B : Nat) (i j c : Int) (hi : c ≤ i) (hj : c ≤ j) : Ieee.Datum.order (.number false A i) (.number false B j) = some (compare (A * 2 ^ (i - c).toNat) (B * 2 ^ (j - c).toNat)) := by
  simp only [Ieee.Datum.order, Ieee.signed, Bool.false_eq_true, if_false]
  rw [cmp_lt, Nat.shiftLeft_eq, Nat.shiftLeft_eq]
  generalize hb : min i j = b at *
  rw [← cmp_scale _ _ (2 ^ (b - c).toNat) (Nat.two_pow_pos _), Nat.mul_assoc, Nat.mul_assoc, ← Nat.pow_add, ← Nat.pow_add]
  rw [show (i - b).toNat + (b - c).toNat = (i - c).toNat from by omega, show (j - b).toNat + (b - c).toNat = (j - c).toNat from by omega]

/-- How two exact words stand to each other. -/
theorem ford_wd {m n : Nat} {p q c : Int} (h : Ex m p) (g : Ex n q) (hp : c ≤ p - low m p) (hq : c ≤ q - low n q) : ford (wd false m p) (wd false n q) = some (compare (m * 2 ^ (p - c).toNat) (n * 2 ^ (q - c).toNat)) := by
  show Ieee.Datum.order (Ieee.double.read _) (Ieee.double.read _) = _
  rw [read_wd h, read_wd g, order_nat _ _ _ _ c hp hq, Nat.mul_assoc, Nat.mul_assoc, ← Nat.pow_add, ← Nat.pow_add]
  rw [show low m p + (p - low m p - c).toNat = (p - c).toNat from by omega, show low n q + (q - low n q - c).toNat = (q - c).toNat from by omega]

theorem negFloat_word (s : Bool) (r : Nat) (h : r < 2 ^ 63) : Op.negFloat .f64 (Ieee.double.word s r) = Ieee.double.word (!s) r := by
  have h1 := negFloat_mod (Ieee.double.word s r)
  have h2 := negFloat_div (Ieee.double.word s r)
  have h3 : Op.negFloat .f64 (Ieee.double.word s r) < 2 ^ 64 := negFloat_lt _ (by rw [word_neg]; split <;> omega)
  generalize Op.negFloat .f64 (Ieee.double.word s r) = x at *
  rw [word_neg] at *
  cases s <;> simp only [Bool.false_eq_true, if_false, if_true, Bool.not_false, Bool.not_true, word_neg] at * <;> omega

theorem negFloat_wd {s : Bool} {m : Nat} {p : Int} (h : Ex m p) : Op.negFloat .f64 (wd s m p) = wd (!s) m p := by
  rw [wd_rung h, wd_rung h]
  exact negFloat_word s _ (by omega)
end Go.Fl
