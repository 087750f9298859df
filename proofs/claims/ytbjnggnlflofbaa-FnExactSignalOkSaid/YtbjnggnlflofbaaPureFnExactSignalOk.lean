/-
  The pure law of SignalOk: the program and the reference give the same at every input, and the result is memory of its own. No condition.
-/
import Derived.Test.YtbjnggnlflofbaaPFnExactSignalOkx1
import Derived.Test.YtbjnggnlflofbaaPl
namespace Go.Proofs.Ytbjnggnlflofbaa.Pure
open Go.RowKit Go.Proofs.Ytbjnggnlflofbaa.PFnExactSignalOk Go.Proofs.YtbjnggnlflofbaaW.PrintWords Go.Proofs.YtbjnggnlflofbaaW.PrintLast Go.Pl
set_option linter.unusedVariables false
set_option linter.unusedSimpArgs false

/-! ### the copies, the compares, the marks -/
theorem rd_at (l : List Int) (i : Nat) (h : i < l.length) : rd l (i : Int) = l[i] := by
  unfold rd
  rw [Int.toNat_natCast, List.getD_eq_getElem?_getD, List.getElem?_eq_getElem h]; rfl

theorem drop_rd (l : List Int) (i : Nat) (h : i < l.length) : l.drop i = rd l (i : Int) :: l.drop (i + 1) := by
  rw [rd_at l i h]; exact List.drop_eq_getElem_cons h

theorem toIntS_l (l : List Int) (hl : l.length ≤ 1048576) : ∀ (d k i : Nat) (acc : List Int), i + d = l.length → acc.length = l.length → (∀ j, j < i → acc[j]? = l[j]?) → d < k →
    laws_toIntS.l0 k l acc (i : Int) = some l
  | 0, k, i, acc, hi, ha, hj, hk => by
    obtain ⟨k, rfl⟩ : ∃ m, k = m + 1 := ⟨k - 1, by omega⟩
    rw [laws_toIntS.l0, if_neg (by omega)]
    congr 1
    apply List.ext_getElem?
    intro j
    by_cases h : j < i
    · exact hj j h
    · rw [List.getElem?_eq_none (by omega), List.getElem?_eq_none (by omega)]
  | d + 1, k, i, acc, hi, ha, hj, hk => by
    obtain ⟨k, rfl⟩ : ∃ m, k = m + 1 := ⟨k - 1, by omega⟩
    have h : i < l.length := by omega
    rw [laws_toIntS.l0, if_pos (by omega), if_pos (by omega), if_pos (by omega), Int.toNat_natCast]
    rw [show wrap64 ((i : Int) + 1) = ((i + 1 : Nat) : Int) from by rw [wrap_id (by omega) (by omega)]; omega]
    refine toIntS_l l hl d k (i + 1) _ (by omega) (by rw [List.length_set]; exact ha) ?_ (by omega)
    intro j hji
    by_cases e : j = i
    · subst e
      rw [List.getElem?_set_self (by omega), rd_at l j h, List.getElem?_eq_getElem h]
    · rw [List.getElem?_set_ne (by omega)]; exact hj j (by omega)

theorem toIntS_f (l : List Int) (hl : l.length ≤ 1048576) (k : Nat) (hk : l.length < k) : laws_toIntS.f k l = some l := by
  unfold laws_toIntS.f
  rw [if_pos (by omega), if_pos (by omega)]
  exact toIntS_l l hl l.length k 0 _ (by omega) (by simp) (by intro j h; omega) hk

theorem eqIntS_l (l : List Int) (hl : l.length ≤ 1048576) : ∀ (d k i : Nat), i + d = l.length → d < k → laws_eqIntS.l0 k l l (i : Int) = some true
  | 0, k, i, hi, hk => by
    obtain ⟨k, rfl⟩ : ∃ m, k = m + 1 := ⟨k - 1, by omega⟩
    rw [laws_eqIntS.l0, if_neg (by omega)]
  | d + 1, k, i, hi, hk => by
    obtain ⟨k, rfl⟩ : ∃ m, k = m + 1 := ⟨k - 1, by omega⟩
    rw [laws_eqIntS.l0, if_pos (by omega), if_pos (by omega), if_pos (by omega), if_pos rfl]
    rw [show wrap64 ((i : Int) + 1) = ((i + 1 : Nat) : Int) from by rw [wrap_id (by omega) (by omega)]; omega]
    exact eqIntS_l l hl d k (i + 1) (by omega) (by omega)

theorem eqIntS_f (l : List Int) (hl : l.length ≤ 1048576) (k : Nat) (hk : l.length < k) : laws_eqIntS.f k l l = some true := by
  unfold laws_eqIntS.f
  rw [if_pos rfl]
  exact eqIntS_l l hl l.length k 0 (by omega) hk

/-! ### signals -/
def inS (x : Int) : Prop := -1000000000 ≤ x ∧ x ≤ 1000000000
instance (x : Int) : Decidable (inS x) := by unfold inS; infer_instance
def allS (l : List Int) : Prop := ∀ x ∈ l, inS x
instance (l : List Int) : Decidable (allS l) := by unfold allS; infer_instance
theorem allS_cons (x : Int) (l : List Int) : allS (x :: l) ↔ inS x ∧ allS l := List.forall_mem_cons
theorem allS_nil : allS [] := by intro x h; cases h
def sigOk (l : List Int) : Prop := l.length ≤ 512 ∧ allS l
instance (l : List Int) : Decidable (sigOk l) := by unfold sigOk; infer_instance

theorem s_sample (x : Int) : spec_l5Sample.f x = some (decide (inS x)) := by
  unfold spec_l5Sample.f spec_l1In.f inS
  by_cases h : x ≥ -1000000000
  · rw [if_pos h]
    simp only [Option.bind_some]
    congr 1
    exact decide_eq_decide.2 ⟨fun h2 => ⟨h, h2⟩, fun h2 => h2.2⟩
  · rw [if_neg h]
    simp only [Option.bind_some]
    congr 1
    exact (decide_eq_false (fun h2 => h h2.1)).symm

theorem s_sig_l (l : List Int) (hl : l.length ≤ 1048576) : ∀ (d k i : Nat), i + d = l.length → d < k →
    spec_SignalOk.l0 k l (i : Int) = some (decide (allS (l.drop i) ∧ l.length ≤ 512))
  | 0, k, i, hi, hk => by
    obtain ⟨k, rfl⟩ : ∃ m, k = m + 1 := ⟨k - 1, by omega⟩
    rw [spec_SignalOk.l0, if_neg (by omega), List.drop_of_length_le (by omega)]
    congr 1
    exact decide_eq_decide.2 ⟨fun h => ⟨allS_nil, by omega⟩, fun h => by omega⟩
  | d + 1, k, i, hi, hk => by
    obtain ⟨k, rfl⟩ : ∃ m, k = m + 1 := ⟨k - 1, by omega⟩
    have h : i < l.length := by omega
    rw [spec_SignalOk.l0, if_pos (by omega), if_pos (by omega), s_sample]
    simp only [Option.bind_some]
    rw [show wrap64 ((i : Int) + 1) = ((i + 1 : Nat) : Int) from by rw [wrap_id (by omega) (by omega)]; omega]
    rw [s_sig_l l hl d k (i + 1) (by omega) (by omega), drop_rd l i h]
    by_cases hx : inS (rd l (i : Int))
    · simp only [hx, decide_true, if_true]
      congr 1
      exact decide_eq_decide.2 ⟨fun g => ⟨(allS_cons _ _).2 ⟨hx, g.1⟩, g.2⟩, fun g => ⟨((allS_cons _ _).1 g.1).2, g.2⟩⟩
    · simp only [hx, decide_false, Bool.false_eq_true, if_false]
      congr 1
      exact (decide_eq_false (fun g => hx ((allS_cons _ _).1 g.1).1)).symm

theorem s_sig (l : List Int) (hl : l.length ≤ 1048576) (k : Nat) (hk : l.length < k) : spec_SignalOk.f k l = some (decide (sigOk l)) := by
  unfold spec_SignalOk.f
  have := s_sig_l l hl l.length k 0 (by omega) hk
  rw [show ((0 : Nat) : Int) = 0 from rfl] at this
  rw [this]
  congr 1
  exact decide_eq_decide.2 ⟨fun h => ⟨h.2, by simpa using h.1⟩, fun h => ⟨by simpa using h.2, h.1⟩⟩

theorem i_within_l (l : List Int) (hl : l.length ≤ 1048576) : ∀ (d k i : Nat), i + d = l.length → d < k →
    impl_within.l0 k 1000000000 l (l.length : Int) (i : Int) = some (decide (allS (l.drop i)))
  | 0, k, i, hi, hk => by
    obtain ⟨k, rfl⟩ : ∃ m, k = m + 1 := ⟨k - 1, by omega⟩
    rw [impl_within.l0, if_neg (by omega), List.drop_of_length_le (by omega)]
    exact congrArg some (decide_eq_true allS_nil).symm
  | d + 1, k, i, hi, hk => by
    obtain ⟨k, rfl⟩ : ∃ m, k = m + 1 := ⟨k - 1, by omega⟩
    have h : i < l.length := by omega
    rw [impl_within.l0, if_pos (by omega), if_pos (by omega), if_pos (by omega), wrap_id (n := -1000000000) (by omega) (by omega)]
    rw [show wrap64 ((i : Int) + 1) = ((i + 1 : Nat) : Int) from by rw [wrap_id (by omega) (by omega)]; omega]
    rw [i_within_l l hl d k (i + 1) (by omega) (by omega), drop_rd l i h]
    by_cases hx : inS (rd l (i : Int))
    · rw [if_neg (by unfold inS at hx; omega), if_neg (by unfold inS at hx; omega)]
      congr 1
      exact decide_eq_decide.2 ⟨fun g => (allS_cons _ _).2 ⟨hx, g⟩, fun g => ((allS_cons _ _).1 g).2⟩
    · have e : decide (allS (rd l (i : Int) :: l.drop (i + 1))) = false := decide_eq_false (fun g => hx ((allS_cons _ _).1 g).1)
      rw [e]
      by_cases hlo : rd l (i : Int) < -1000000000
      · rw [if_pos hlo]
      · rw [if_neg hlo, if_pos (by unfold inS at hx; omega)]

theorem i_sig (l : List Int) (hl : l.length ≤ 1048576) (k : Nat) (hk : l.length < k) : impl_SignalOk.f k l = some (decide (sigOk l)) := by
  unfold impl_SignalOk.f impl_within.f
  have := i_within_l l hl l.length k 0 (by omega) hk
  rw [show ((0 : Nat) : Int) = 0 from rfl] at this
  rw [this]
  by_cases h : l.length ≤ 512
  · rw [if_pos (by omega)]
    simp only [Option.bind_some]
    congr 1
    exact decide_eq_decide.2 ⟨fun g => ⟨h, by simpa using g⟩, fun g => by simpa using g.2⟩
  · rw [if_neg (by omega)]
    congr 1
    exact (decide_eq_false (fun g => h g.1)).symm

theorem FnExactSignalOk : laws_FnExactSignalOk.Pure := by
  intro l _ _ _
  refine ⟨l.length + 1, ?_⟩
  unfold laws_FnExactSignalOk.f
  by_cases h : (l.length : Int) > 1048576
  · rw [if_pos h]
  · have hl : l.length ≤ 1048576 := by omega
    rw [if_neg h, toIntS_f l hl _ (by omega)]
    simp only [Option.bind_some]
    rw [s_sig l hl _ (by omega), i_sig l hl _ (by omega)]
    simp only [Option.bind_some, bne_self_eq_false, Bool.false_eq_true, if_false]
    rw [eqIntS_f l hl _ (by omega)]
    simp

end Go.Proofs.Ytbjnggnlflofbaa.Pure
