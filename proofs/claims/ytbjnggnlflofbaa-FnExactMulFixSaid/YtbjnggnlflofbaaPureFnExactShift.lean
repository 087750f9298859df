/-
  The pure law of Shift: the program and the reference give the same at every input, and the result is memory of its own. No condition.
-/
import Derived.Test.YtbjnggnlflofbaaPFnExactShiftx1
import Derived.Test.YtbjnggnlflofbaaPl
namespace Go.Proofs.Ytbjnggnlflofbaa.Pure
open Go.RowKit Go.Proofs.Ytbjnggnlflofbaa.PFnExactShift Go.Proofs.YtbjnggnlflofbaaW.PrintWords Go.Proofs.YtbjnggnlflofbaaW.PrintLast Go.Pl
set_option linter.unusedVariables false
set_option linter.unusedSimpArgs false

/-! ### shifts with a rule -/
theorem pow_facts (by_ : Int) (h0 : 0 ≤ by_) (h1 : by_ ≤ 60) : ∃ D H : Int, 1 ≤ D ∧ D ≤ 1152921504606846976 ∧ IntKind.u64.wrap by_ = by_ ∧ shl .i64 1 by_ = D ∧ (∀ x, shr .i64 x by_ = x / D) ∧
    (∀ q, shl .i64 q by_ = wrap64 (q * D)) ∧ (by_ = 0 → D = 1) ∧ (0 < by_ → D = 2 * H ∧ shl .i64 1 (wrap64 (by_ - 1)) = H ∧ 0 ≤ wrap64 (by_ - 1)) := by
  obtain ⟨n, rfl⟩ := Int.eq_ofNat_of_zero_le h0
  have hn : n ≤ 60 := by omega
  have hb : (2 : Int) ^ n ≤ 2 ^ 60 := by exact_mod_cast Nat.pow_le_pow_right (show 0 < 2 by decide) hn
  have hp : (0 : Int) < 2 ^ n := Int.pow_pos (by decide)
  have w1 : ∀ m : Int, -9223372036854775808 ≤ m → m ≤ 9223372036854775807 → IntKind.i64.wrap m = m := fun m a b => IntWalk.i64_in m ⟨a, b⟩
  have wq : ∀ m : Int, IntKind.i64.wrap m = wrap64 m := fun m => by rw [IntKind.wrap_i64]; unfold wrap64; rfl
  refine ⟨2 ^ n, 2 ^ (n - 1), by omega, by simpa using hb, ?_, ?_, ?_, ?_, ?_, ?_⟩
  · exact IntWalk.u64_in _ ⟨by omega, by omega⟩
  · unfold shl
    rw [Int.toNat_natCast, show min n IntKind.i64.bits = n from Nat.min_eq_left (by show n ≤ 64; omega), Int.one_mul]
    exact w1 _ (by omega) (by omega)
  · intro x
    unfold shr
    rw [Int.toNat_natCast, show min n IntKind.i64.bits = n from Nat.min_eq_left (by show n ≤ 64; omega)]
  · intro q
    unfold shl
    rw [Int.toNat_natCast, show min n IntKind.i64.bits = n from Nat.min_eq_left (by show n ≤ 64; omega)]
    exact wq _
  · intro h
    have : n = 0 := by omega
    subst this; rfl
  · intro h
    obtain ⟨m, rfl⟩ : ∃ m, n = m + 1 := ⟨n - 1, by omega⟩
    have e : wrap64 (((m + 1 : Nat) : Int) - 1) = (m : Int) := by rw [wrap_id (by omega) (by omega)]; omega
    rw [e]
    have hpm : (0 : Int) < 2 ^ m := Int.pow_pos (by decide)
    have hm2 : (2 : Int) ^ (m + 1) = 2 * 2 ^ m := by rw [Int.pow_succ]; omega
    refine ⟨by simpa using hm2, ?_, by omega⟩
    unfold shl
    rw [Int.toNat_natCast, show min m IntKind.i64.bits = m from Nat.min_eq_left (by show m ≤ 64; omega), Int.one_mul]
    simp only [Nat.add_sub_cancel]
    exact w1 _ (by omega) (by omega)

/-- The rules' own test: is the quotient raised by one? -/
def upQ (x by_ cut D : Int) : Prop := (cut = 2 ∧ x < 0 ∧ 0 < x % D) ∨ (cut = 3 ∧ 0 < by_ ∧ D ≤ 2 * (x % D)) ∨ (cut = 4 ∧ 0 < by_ ∧ (D < 2 * (x % D) ∨ D = 2 * (x % D) ∧ x / D % 2 = 1))
instance (x by_ cut D : Int) : Decidable (upQ x by_ cut D) := by unfold upQ; infer_instance
def okS (x by_ cut : Int) : Prop := (-4000000000000000000 ≤ x ∧ x ≤ 4000000000000000000) ∧ (0 ≤ by_ ∧ by_ ≤ 60) ∧ 1 ≤ cut ∧ cut ≤ 4
instance (x by_ cut : Int) : Decidable (okS x by_ cut) := by unfold okS; infer_instance
/-- What Shift comes to. -/
def shf (x by_ cut : Int) : Int := if okS x by_ cut then (if upQ x by_ cut (2 ^ by_.toNat) then x / 2 ^ by_.toNat + 1 else x / 2 ^ by_.toNat) else 0

theorem tmod2 (q : Int) : Int.tmod q 2 = 0 ↔ q % 2 = 0 := by
  rw [← Int.dvd_iff_tmod_eq_zero, Int.dvd_iff_emod_eq_zero]

theorem s_floor (x D : Int) (h1 : 1 ≤ D) (hx : -4000000000000000000 ≤ x) (hx2 : x ≤ 4000000000000000000) : spec_l5Floor.f x D = some (x / D) := by
  unfold spec_l5Floor.f
  have hd := div_le_abs (a := x) (b := D) (M := 4000000000000000000) (by omega) hx hx2 (by omega)
  rw [if_neg (by omega)]
  split
  · rename_i h; have := t_neg (show 0 < D by omega) h
    rw [wrap_id (n := Int.tdiv x D) (by omega) (by omega), this.1, wrap_id (by omega) (by omega)]
  · rename_i h; have := t_pos (a := x) (show 0 < D by omega) (by omega)
    rw [this.1, wrap_id (by omega) (by omega)]

theorem s_cut (c : Int) : spec_l5Cut.f c = some (decide (1 ≤ c ∧ c ≤ 4)) := by
  unfold spec_l5Cut.f spec_l1In.f
  by_cases h : c ≥ 1
  · rw [if_pos h]; simp only [Option.bind_some]; congr 1; exact decide_eq_decide.2 ⟨fun g => ⟨h, g⟩, fun g => g.2⟩
  · rw [if_neg h]; simp only [Option.bind_some]; congr 1; exact (decide_eq_false (fun g => h g.1)).symm

theorem i_cut (c : Int) : impl_isCut.f c = some (decide (1 ≤ c ∧ c ≤ 4)) := by
  unfold impl_isCut.f
  by_cases h : c ≥ 1
  · rw [if_pos h]; congr 1; exact decide_eq_decide.2 ⟨fun g => ⟨h, g⟩, fun g => g.2⟩
  · rw [if_neg h]; congr 1; exact (decide_eq_false (fun g => h g.1)).symm

theorem i_big (x : Int) : impl_big18.f x = some (decide (-4000000000000000000 ≤ x ∧ x ≤ 4000000000000000000)) := by
  unfold impl_big18.f
  by_cases h : x ≥ -4000000000000000000
  · rw [if_pos h]; congr 1; exact decide_eq_decide.2 ⟨fun g => ⟨h, g⟩, fun g => g.2⟩
  · rw [if_neg h]; congr 1; exact (decide_eq_false (fun g => h g.1)).symm

theorem s_in (x a b : Int) : spec_l1In.f x a b = some (decide (a ≤ x ∧ x ≤ b)) := by
  unfold spec_l1In.f
  by_cases h : x ≥ a
  · rw [if_pos h]; congr 1; exact decide_eq_decide.2 ⟨fun g => ⟨h, g⟩, fun g => g.2⟩
  · rw [if_neg h]; congr 1; exact (decide_eq_false (fun g => h g.1)).symm

theorem s_Shift (k : Nat) (x by_ cut : Int) : spec_Shift.f (k + 1) x by_ cut = some (shf x by_ cut) := by
  unfold spec_Shift.f shf
  rw [s_in, s_in, s_cut]
  simp only [Option.bind_some]
  by_cases hx : -4000000000000000000 ≤ x ∧ x ≤ 4000000000000000000
  · by_cases hb : 0 ≤ by_ ∧ by_ ≤ 60
    · by_cases hc : 1 ≤ cut ∧ cut ≤ 4
      · have hok : okS x by_ cut := ⟨hx, hb, hc⟩
        simp only [hx, hb, hc, hok, and_self, decide_true, if_true, Bool.not_true, spec_Shift.j0, Bool.false_eq_true, if_false]
        obtain ⟨D, H, h1, h2, h3, h4, h5, h6, h7, h8⟩ := pow_facts by_ hb.1 hb.2
        have hD : (2 : Int) ^ by_.toNat = D := by
          have := h5 0
          rw [← h4]
          unfold shl
          rw [show min by_.toNat IntKind.i64.bits = by_.toNat from Nat.min_eq_left (by show by_.toNat ≤ 64; omega), Int.one_mul]
          have hp : (0 : Int) < 2 ^ by_.toNat := Int.pow_pos (by decide)
          have hbb : (2 : Int) ^ by_.toNat ≤ 2 ^ 60 := by exact_mod_cast Nat.pow_le_pow_right (show 0 < 2 by decide) (show by_.toNat ≤ 60 by omega)
          exact (IntWalk.i64_in _ ⟨by omega, by omega⟩).symm
        rw [hD, h3, h4, if_pos (by omega), s_floor x D h1 hx.1 hx.2]
        simp only [Option.bind_some]
        have hm := Int.mul_ediv_add_emod x D
        rw [Int.mul_comm] at hm
        have hm2 := Int.emod_lt_of_pos x (show 0 < D by omega)
        have hm3 := Int.emod_nonneg x (show D ≠ 0 by omega)
        have hd := div_le_abs (a := x) (b := D) (M := 4000000000000000000) (by omega) hx.1 hx.2 (by omega)
        have hneg : x / D < 0 ↔ x < 0 := by
          constructor
          · intro h
            by_cases g : x < 0
            · exact g
            · exact absurd (Int.ediv_nonneg (show 0 ≤ x by omega) (show 0 ≤ D by omega)) (by omega)
          · intro h; exact Int.ediv_neg_of_neg_of_pos h (by omega)
        have ht := tmod2 (x / D)
        generalize hz : x / D * D = z at *
        rw [wrap_id (n := z) (by omega) (by omega), wrap_id (n := x - z) (by omega) (by omega), wrap_id (n := D - (x - z)) (by omega) (by omega), wrap_id (n := x / D + 1) (by omega) (by omega)]
        have hr : x - z = x % D := by omega
        rw [hr]
        by_cases c2 : cut = 2
        · rw [if_pos c2]
          by_cases q1 : x / D < 0
          · rw [if_pos q1]
            by_cases q2 : x % D > 0
            · rw [if_pos q2, if_pos (show upQ x by_ cut D from by unfold upQ; omega)]
            · rw [if_neg q2, if_neg (show ¬ upQ x by_ cut D from by unfold upQ; omega)]
          · rw [if_neg q1, if_neg (show ¬ upQ x by_ cut D from by unfold upQ; omega)]
        · rw [if_neg c2]
          by_cases c3 : cut = 3
          · rw [if_pos c3]
            by_cases q1 : by_ > 0
            · rw [if_pos q1]
              by_cases q2 : x % D ≥ D - x % D
              · rw [if_pos q2, if_pos (show upQ x by_ cut D from by unfold upQ; omega)]
              · rw [if_neg q2, if_neg (show ¬ upQ x by_ cut D from by unfold upQ; omega)]
            · rw [if_neg q1, if_neg (show ¬ upQ x by_ cut D from by unfold upQ; omega)]
          · rw [if_neg c3]
            by_cases c4 : cut = 4
            · rw [if_pos c4]
              by_cases q1 : by_ > 0
              · rw [if_pos q1]
                by_cases q2 : x % D > D - x % D
                · rw [if_pos q2, if_pos (show upQ x by_ cut D from by unfold upQ; omega)]
                · rw [if_neg q2]
                  by_cases q3 : x % D = D - x % D
                  · rw [if_pos q3]
                    by_cases q4 : Int.tmod (x / D) 2 = 0
                    · rw [if_pos q4, if_neg (show ¬ upQ x by_ cut D from by unfold upQ; omega)]
                    · rw [if_neg q4, if_pos (show upQ x by_ cut D from by unfold upQ; omega)]
                  · rw [if_neg q3, if_neg (show ¬ upQ x by_ cut D from by unfold upQ; omega)]
              · rw [if_neg q1, if_neg (show ¬ upQ x by_ cut D from by unfold upQ; omega)]
            · rw [if_neg c4, if_neg (show ¬ upQ x by_ cut D from by unfold upQ; omega)]
      · have hok : ¬ okS x by_ cut := fun g => hc g.2.2
        simp only [hx, hb, hc, hok, and_self, decide_true, decide_false, if_true, Bool.not_false, spec_Shift.j0, if_false]
    · have hok : ¬ okS x by_ cut := fun g => hb g.2.1
      simp only [hx, hb, hok, and_self, decide_true, decide_false, if_true, Bool.not_false, spec_Shift.j0, if_false, Bool.false_eq_true]
  · have hok : ¬ okS x by_ cut := fun g => hx g.1
    simp only [hx, hok, decide_false, if_true, spec_Shift.j0, if_false, Bool.false_eq_true]

theorem i_Shift (k : Nat) (x by_ cut : Int) : impl_Shift.f (k + 1) x by_ cut = some (shf x by_ cut) := by
  unfold impl_Shift.f shf
  rw [i_big, i_cut]
  simp only [Option.bind_some]
  by_cases hx : -4000000000000000000 ≤ x ∧ x ≤ 4000000000000000000
  · simp only [hx, and_self, decide_true, if_true]
    by_cases hb : 0 ≤ by_ ∧ by_ ≤ 60
    · rw [if_neg (show ¬ by_ < 0 by omega), if_neg (show ¬ by_ > 60 by omega)]
      by_cases hc : 1 ≤ cut ∧ cut ≤ 4
      · have hok : okS x by_ cut := ⟨hx, hb, hc⟩
        simp only [hb, hc, hok, and_self, decide_true, if_true, Bool.not_true, impl_Shift.j0, Bool.false_eq_true, if_false]
        obtain ⟨D, H, h1, h2, h3, h4, h5, h6, h7, h8⟩ := pow_facts by_ hb.1 hb.2
        have hD : (2 : Int) ^ by_.toNat = D := by
          rw [← h4]
          unfold shl
          rw [show min by_.toNat IntKind.i64.bits = by_.toNat from Nat.min_eq_left (by show by_.toNat ≤ 64; omega), Int.one_mul]
          have hp : (0 : Int) < 2 ^ by_.toNat := Int.pow_pos (by decide)
          have hbb : (2 : Int) ^ by_.toNat ≤ 2 ^ 60 := by exact_mod_cast Nat.pow_le_pow_right (show 0 < 2 by decide) (show by_.toNat ≤ 60 by omega)
          exact (IntWalk.i64_in _ ⟨by omega, by omega⟩).symm
        rw [hD]
        by_cases hz0 : by_ = 0
        · rw [if_pos hz0]
          have hD1 := h7 hz0
          have e1 : x % D = 0 := by rw [hD1]; exact Int.emod_one x
          have e2 : x / D = x := by rw [hD1]; exact Int.ediv_one x
          rw [if_neg (show ¬ upQ x by_ cut D from by unfold upQ; omega), e2]
        · rw [if_neg hz0]
          obtain ⟨g1, g2, g3⟩ := h8 (by omega)
          rw [if_pos g3, g2, h5, h6]
          have hm := Int.mul_ediv_add_emod x D
          rw [Int.mul_comm] at hm
          have hm2 := Int.emod_lt_of_pos x (show 0 < D by omega)
          have hm3 := Int.emod_nonneg x (show D ≠ 0 by omega)
          have hd := div_le_abs (a := x) (b := D) (M := 4000000000000000000) (by omega) hx.1 hx.2 (by omega)
          rw [i64_and1]
          generalize hz : x / D * D = z at *
          rw [wrap_id (n := z) (by omega) (by omega), wrap_id (n := x - z) (by omega) (by omega), wrap_id (n := x / D + 1) (by omega) (by omega)]
          have hr : x - z = x % D := by omega
          rw [hr]
          by_cases c2 : cut = 2
          · rw [if_pos c2]
            by_cases q1 : x < 0
            · rw [if_pos q1]
              by_cases q2 : x % D > 0
              · rw [if_pos q2, if_pos (show upQ x by_ cut D from by unfold upQ; omega)]
              · rw [if_neg q2, if_neg (show ¬ upQ x by_ cut D from by unfold upQ; omega)]
            · rw [if_neg q1, if_neg (show ¬ upQ x by_ cut D from by unfold upQ; omega)]
          · rw [if_neg c2]
            by_cases c3 : cut = 3
            · rw [if_pos c3]
              by_cases q2 : x % D ≥ H
              · rw [if_pos q2, if_pos (show upQ x by_ cut D from by unfold upQ; omega)]
              · rw [if_neg q2, if_neg (show ¬ upQ x by_ cut D from by unfold upQ; omega)]
            · rw [if_neg c3]
              by_cases c4 : cut = 4
              · rw [if_pos c4]
                by_cases q2 : x % D > H
                · rw [if_pos q2, if_pos (show upQ x by_ cut D from by unfold upQ; omega)]
                · rw [if_neg q2]
                  by_cases q3 : x % D = H
                  · rw [if_pos q3]
                    by_cases q4 : x / D % 2 = 1
                    · rw [if_pos q4, if_pos (show upQ x by_ cut D from by unfold upQ; omega)]
                    · rw [if_neg q4, if_neg (show ¬ upQ x by_ cut D from by unfold upQ; omega)]
                  · rw [if_neg q3, if_neg (show ¬ upQ x by_ cut D from by unfold upQ; omega)]
              · rw [if_neg c4, if_neg (show ¬ upQ x by_ cut D from by unfold upQ; omega)]
      · have hok : ¬ okS x by_ cut := fun g => hc g.2.2
        simp only [hc, hok, decide_false, Bool.not_false, impl_Shift.j0, if_true, if_false]
    · have hok : ¬ okS x by_ cut := fun g => hb g.2.1
      rw [if_neg hok]
      by_cases g1 : by_ < 0
      · rw [if_pos g1]; simp only [impl_Shift.j0, if_true]
      · rw [if_neg g1, if_pos (by omega)]; simp only [impl_Shift.j0, if_true]
  · have hok : ¬ okS x by_ cut := fun g => hx g.1
    simp only [hx, hok, decide_false, impl_Shift.j0, if_true, if_false, Bool.false_eq_true]

theorem FnExactShift : laws_FnExactShift.Pure := by
  intro x b c _ _ _
  refine ⟨1, ?_⟩
  unfold laws_FnExactShift.f
  rw [s_Shift, i_Shift]
  simp

end Go.Proofs.Ytbjnggnlflofbaa.Pure
