/-
  The plain law of FnOrdered: the order turned around; Compare beside Order; nothing lies between a number and the next.
-/
import Derived.Test.YtmjnnjjmfedlbaaDoorNx
namespace Go.Proofs.YtmjnnjjmfedlbaaDoor
set_option linter.unusedSimpArgs false
set_option linter.unusedVariables false
open Go.RowKit Go.Dr

theorem mod_two {S a : Nat} (h : a < 2 * S) : a % S = if a < S then a else a - S := by
  split
  · rename_i h1; exact Nat.mod_eq_of_lt h1
  · rename_i h1
    rw [Nat.mod_eq_sub_mod (by omega), Nat.mod_eq_of_lt (by omega)]
theorem cmpS_anti {S a b : Nat} : cmpS S a b = - cmpS S b a ∧ (cmpS S a b = -1 ∨ cmpS S a b = 0 ∨ cmpS S a b = 1) := by
  unfold cmpS
  (repeat' split) <;> omega
theorem cmpS_lt {S a b : Nat} (h : cmpS S a b = -1) : (S ≤ a ∧ b < S) ∨ (a < S ∧ b < S ∧ a < b) ∨ (S ≤ a ∧ S ≤ b ∧ b < a) := by
  unfold cmpS at h
  split at h
  · cases h
  · split at h
    · omega
    · split at h
      · cases h
      · split at h
        · omega
        · cases h
theorem mod_or {S a : Nat} (h : a < 2 * S) : (a < S ∧ a % S = a) ∨ (S ≤ a ∧ a % S = a - S) := by
  have := mod_two h
  by_cases h1 : a < S
  · rw [if_pos h1] at this; exact .inl ⟨h1, this⟩
  · rw [if_neg h1] at this; exact .inr ⟨by omega, this⟩
theorem ord_turn (f : Int) (a b : Nat) : (ordV f a b = 2 ∧ ordV f b a = 2) ∨ (ordV f a b = -1 ∧ ordV f b a = 1) ∨ (ordV f a b = 0 ∧ ordV f b a = 0) ∨ (ordV f a b = 1 ∧ ordV f b a = -1) := by
  unfold ordV
  have h := @cmpS_anti (sgP f) a b
  by_cases h1 : okB f a = true ∧ okB f b = true
  · rw [if_pos h1, if_pos h1.symm]; omega
  · rw [if_neg h1, if_neg (fun h2 => h1 h2.symm)]; exact .inl ⟨rfl, rfl⟩
theorem cmp_ord (f : Int) (a b : Nat) : cmpV f a b = 2 ∨ cmpV f a b = ordV f a b ∨ cmpV f a b = 0 := by
  unfold cmpV ordV cmpR
  by_cases h1 : okB f a = true ∧ okB f b = true
  · rw [if_pos h1, if_pos (by rw [h1.1, h1.2]; rfl)]
    split
    · exact .inl rfl
    · split
      · exact .inr (.inr rfl)
      · exact .inr (.inl rfl)
  · rw [if_neg (fun h => h1 (by rwa [Bool.and_eq_true] at h))]; exact .inl rfl
theorem cmp_lt {f : Int} {a b : Nat} (h : cmpV f a b = -1) : okB f a = true ∧ okB f b = true ∧ nanB f a = false ∧ nanB f b = false ∧ ¬ (zerB f a = true ∧ zerB f b = true) ∧ cmpS (sgP f) a b = -1 := by
  unfold cmpV cmpR at h
  split at h
  · rename_i h1
    rw [Bool.and_eq_true] at h1
    split at h
    · cases h
    · rename_i h2
      split at h
      · cases h
      · rename_i h3
        rw [Bool.and_eq_true] at h3
        rw [Bool.or_eq_true] at h2
        exact ⟨h1.1, h1.2, by simpa using fun e => h2 (.inl e), by simpa using fun e => h2 (.inr e), h3, h⟩
  · cases h
theorem sg_facts (f : Int) : 0 < infP f ∧ infP f < sgP f ∧ sgP f ≤ 9223372036854775808 ∧ nanP f < sgP f := by unfold infP sgP nanP; (repeat' split) <;> omega
/-- The next number is a natural one, below 2 ^ 64. -/
theorem next_nat (f : Int) {a : Nat} (ha : a < 18446744073709551616) : ∃ n : Nat, nextV f a = (n : Int) ∧ n < 18446744073709551616 := by
  have hs := sg_facts f
  unfold nextV
  split
  · rename_i h
    have hb := (okB_sg h ha).1
    unfold nextR
    split
    · exact ⟨nanP f, rfl, by omega⟩
    · split
      · exact ⟨a, rfl, ha⟩
      · split
        · exact ⟨1, rfl, by omega⟩
        · split
          · rename_i h4; have h4 := of_decide_eq_true h4; exact ⟨a - 1, by omega, by omega⟩
          · rename_i h4; have h5 : a < sgP f := by simpa using h4
            exact ⟨a + 1, by omega, by omega⟩
  · exact ⟨0, rfl, by omega⟩
theorem no_between {f : Int} {a b n : Nat} (ha : a < 18446744073709551616) (hb : b < 18446744073709551616) (hn : nextV f a = (n : Int)) (h1 : cmpV f a b = -1) (h2 : cmpV f a n = -1) (h3 : cmpV f b n = -1) : False := by
  obtain ⟨oa, ob, na, nb, zz, c1⟩ := cmp_lt h1
  obtain ⟨-, on, -, nn, -, c2⟩ := cmp_lt h2
  obtain ⟨-, -, -, -, -, c3⟩ := cmp_lt h3
  have hs := sg_facts f
  have la := (okB_sg oa ha).1
  have lb := (okB_sg ob hb).1
  rw [nextV_ok oa, na] at hn
  unfold nextR at hn
  have na' : ¬ infP f < a % sgP f := of_decide_eq_false na
  have zz' : ¬ (a % sgP f = 0 ∧ b % sgP f = 0) := fun h => zz ⟨decide_eq_true h.1, decide_eq_true h.2⟩
  have ma := mod_or la
  have mb := mod_or lb
  have d1 := cmpS_lt c1
  have d2 := cmpS_lt c2
  have d3 := cmpS_lt c3
  generalize a % sgP f = ar at *
  generalize b % sgP f = br at *
  generalize sgP f = S at *
  generalize infP f = I at *
  clear on nn nb na zz h1 h2 h3 oa ob c1 c2 c3
  simp only [Bool.false_eq_true, if_false, decide_eq_true_eq] at hn
  split at hn
  · omega
  · split at hn
    · omega
    · split at hn
      · omega
      · omega

theorem half_next : nextV 1 0 = 1 := by decide
theorem half_comp : cmpV 1 1 2 = -1 := by decide
end Go.Proofs.YtmjnnjjmfedlbaaDoor
