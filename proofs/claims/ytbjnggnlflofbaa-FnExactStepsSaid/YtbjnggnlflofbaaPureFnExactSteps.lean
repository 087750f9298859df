/-
  The pure law of Steps: the program and the reference give the same at every input, and the result is memory of its own. No condition.
-/
import Derived.Test.YtbjnggnlflofbaaPFnExactStepsx3
import Derived.Test.YtbjnggnlflofbaaPl
namespace Go.Proofs.Ytbjnggnlflofbaa.Pure
open Go.RowKit Go.Proofs.Ytbjnggnlflofbaa.PFnExactSteps Go.Proofs.YtbjnggnlflofbaaW.PrintWords Go.Proofs.YtbjnggnlflofbaaW.PrintLast Go.Pl
set_option linter.unusedVariables false
set_option linter.unusedSimpArgs false

/-! ### the copies, the compares, the marks -/
theorem rd_at (l : List Int) (i : Nat) (h : i < l.length) : rd l (i : Int) = l[i] := by
  unfold rd
  rw [Int.toNat_natCast, List.getD_eq_getElem?_getD, List.getElem?_eq_getElem h]; rfl

theorem drop_rd (l : List Int) (i : Nat) (h : i < l.length) : l.drop i = rd l (i : Int) :: l.drop (i + 1) := by
  rw [rd_at l i h]; exact List.drop_eq_getElem_cons h

theorem toIntS_l (l : List Int) (hl : l.length ≤ 1048576) : ∀ (d k i : Nat) (acc : List Int), i + d = l.length → acc.length = l.length → (∀ j, j < i → acc[j]? = l[j]?) → d < k →
    laws_toIntS.l0 k l acc (i : Int) = some l
  | 0, k, i, acc, hi, ha, hj, hk => by
    obtain ⟨k, rfl⟩ : ∃ m, k = m + 1 := ⟨k - 1, by omega⟩
    rw [laws_toIntS.l0, if_neg (by omega)]
    congr 1
    apply List.ext_getElem?
    intro j
    by_cases h : j < i
    · exact hj j h
    · rw [List.getElem?_eq_none (by omega), List.getElem?_eq_none (by omega)]
  | d + 1, k, i, acc, hi, ha, hj, hk => by
    obtain ⟨k, rfl⟩ : ∃ m, k = m + 1 := ⟨k - 1, by omega⟩
    have h : i < l.length := by omega
    rw [laws_toIntS.l0, if_pos (by omega), if_pos (by omega), if_pos (by omega), Int.toNat_natCast]
    rw [show wrap64 ((i : Int) + 1) = ((i + 1 : Nat) : Int) from by rw [wrap_id (by omega) (by omega)]; omega]
    refine toIntS_l l hl d k (i + 1) _ (by omega) (by rw [List.length_set]; exact ha) ?_ (by omega)
    intro j hji
    by_cases e : j = i
    · subst e
      rw [List.getElem?_set_self (by omega), rd_at l j h, List.getElem?_eq_getElem h]
    · rw [List.getElem?_set_ne (by omega)]; exact hj j (by omega)

theorem toIntS_f (l : List Int) (hl : l.length ≤ 1048576) (k : Nat) (hk : l.length < k) : laws_toIntS.f k l = some l := by
  unfold laws_toIntS.f
  rw [if_pos (by omega), if_pos (by omega)]
  exact toIntS_l l hl l.length k 0 _ (by omega) (by simp) (by intro j h; omega) hk

theorem eqIntS_l (l : List Int) (hl : l.length ≤ 1048576) : ∀ (d k i : Nat), i + d = l.length → d < k → laws_eqIntS.l0 k l l (i : Int) = some true
  | 0, k, i, hi, hk => by
    obtain ⟨k, rfl⟩ : ∃ m, k = m + 1 := ⟨k - 1, by omega⟩
    rw [laws_eqIntS.l0, if_neg (by omega)]
  | d + 1, k, i, hi, hk => by
    obtain ⟨k, rfl⟩ : ∃ m, k = m + 1 := ⟨k - 1, by omega⟩
    rw [laws_eqIntS.l0, if_pos (by omega), if_pos (by omega), if_pos (by omega), if_pos rfl]
    rw [show wrap64 ((i : Int) + 1) = ((i + 1 : Nat) : Int) from by rw [wrap_id (by omega) (by omega)]; omega]
    exact eqIntS_l l hl d k (i + 1) (by omega) (by omega)

theorem eqIntS_f (l : List Int) (hl : l.length ≤ 1048576) (k : Nat) (hk : l.length < k) : laws_eqIntS.f k l l = some true := by
  unfold laws_eqIntS.f
  rw [if_pos rfl]
  exact eqIntS_l l hl l.length k 0 (by omega) hk
/-- A list that holds m, m + 1, .. from i on. -/
def Marked (l : List Int) (i : Nat) (m : Int) : Prop := ∀ j, i ≤ j → j < l.length → l[j]? = some (m + ((j - i : Nat) : Int))

theorem markIntS_l : ∀ (d k i : Nat) (l : List Int) (m : Int), i + d = l.length → l.length ≤ 1048576 → 0 ≤ m → m + d ≤ 4611686018427387904 → d < k →
    ∃ l', laws_markIntS.l0 k l m (i : Int) = some (m + d, l') ∧ l'.length = l.length ∧ Marked l' i m ∧ ∀ j, j < i → l'[j]? = l[j]?
  | 0, k, i, l, m, hi, hl, h0, hm, hk => by
    obtain ⟨k, rfl⟩ : ∃ m, k = m + 1 := ⟨k - 1, by omega⟩
    refine ⟨l, by rw [laws_markIntS.l0, if_neg (by omega)]; simp, rfl, ?_, fun _ _ => rfl⟩
    intro j h1 h2; omega
  | d + 1, k, i, l, m, hi, hl, h0, hm, hk => by
    obtain ⟨k, rfl⟩ : ∃ m, k = m + 1 := ⟨k - 1, by omega⟩
    obtain ⟨l', e, hlen, hM, hold⟩ := markIntS_l d k (i + 1) (l.set i m) (m + 1) (by rw [List.length_set]; omega) (by rw [List.length_set]; exact hl) (by omega) (by omega) (by omega)
    rw [List.length_set] at hlen
    refine ⟨l', ?_, hlen, ?_, ?_⟩
    · rw [laws_markIntS.l0, if_pos (by omega), if_pos (by omega), Int.toNat_natCast, wrap_id (n := m + 1) (by omega) (by omega)]
      rw [show wrap64 ((i : Int) + 1) = ((i + 1 : Nat) : Int) from by rw [wrap_id (by omega) (by omega)]; omega, e]
      rw [show m + 1 + ((d : Nat) : Int) = m + ((d + 1 : Nat) : Int) from by omega]
    · intro j h1 h2
      by_cases e' : j = i
      · subst e'
        rw [hold j (by omega), List.getElem?_set_self (by omega)]
        congr 1; omega
      · rw [hM j (by omega) h2]
        congr 1; omega
    · intro j h1
      rw [hold j (by omega), List.getElem?_set_ne (by omega)]

theorem markIntS_f (l : List Int) (hl : l.length ≤ 1048576) (k : Nat) (hk : l.length < k) :
    ∃ l', laws_markIntS.f k l 1 = some ((1 : Int) + (l.length : Int), l') ∧ l'.length = l.length ∧ Marked l' 0 1 := by
  obtain ⟨l', e, h1, h2, _⟩ := markIntS_l l.length k 0 l 1 (by omega) hl (by omega) (by omega) hk
  exact ⟨l', by unfold laws_markIntS.f; exact e, h1, h2⟩

theorem heldIntS_l : ∀ (d k i : Nat) (l : List Int) (m : Int), i + d = l.length → l.length ≤ 1048576 → 0 ≤ m → m + d ≤ 4611686018427387904 → Marked l i m → d < k →
    laws_heldIntS.l0 k l m (i : Int) = some (m + d)
  | 0, k, i, l, m, hi, hl, h0, hm, hM, hk => by
    obtain ⟨k, rfl⟩ : ∃ m, k = m + 1 := ⟨k - 1, by omega⟩
    rw [laws_heldIntS.l0, if_neg (by omega)]; simp
  | d + 1, k, i, l, m, hi, hl, h0, hm, hM, hk => by
    obtain ⟨k, rfl⟩ : ∃ m, k = m + 1 := ⟨k - 1, by omega⟩
    have h : i < l.length := by omega
    have hi' := hM i (Nat.le_refl _) h
    rw [List.getElem?_eq_getElem h] at hi'
    injection hi' with hi'
    rw [laws_heldIntS.l0, if_pos (by omega), if_pos (by omega), if_pos (by rw [rd_at l i h, hi']; omega), wrap_id (n := m + 1) (by omega) (by omega)]
    rw [show wrap64 ((i : Int) + 1) = ((i + 1 : Nat) : Int) from by rw [wrap_id (by omega) (by omega)]; omega]
    rw [heldIntS_l d k (i + 1) l (m + 1) (by omega) hl (by omega) (by omega) (fun j h1 h2 => by rw [hM j (by omega) h2]; congr 1; omega) (by omega)]
    rw [show m + 1 + ((d : Nat) : Int) = m + ((d + 1 : Nat) : Int) from by omega]

theorem heldIntS_f (l : List Int) (hl : l.length ≤ 1048576) (hM : Marked l 0 1) (k : Nat) (hk : l.length < k) : laws_heldIntS.f k l 1 = some ((1 : Int) + (l.length : Int)) := by
  unfold laws_heldIntS.f
  exact heldIntS_l l.length k 0 l 1 (by omega) hl (by omega) (by omega) hM hk

/-! ### signals -/
def inS (x : Int) : Prop := -1000000000 ≤ x ∧ x ≤ 1000000000
instance (x : Int) : Decidable (inS x) := by unfold inS; infer_instance
def allS (l : List Int) : Prop := ∀ x ∈ l, inS x
instance (l : List Int) : Decidable (allS l) := by unfold allS; infer_instance
theorem allS_cons (x : Int) (l : List Int) : allS (x :: l) ↔ inS x ∧ allS l := List.forall_mem_cons
theorem allS_nil : allS [] := by intro x h; cases h
def sigOk (l : List Int) : Prop := l.length ≤ 512 ∧ allS l
instance (l : List Int) : Decidable (sigOk l) := by unfold sigOk; infer_instance

theorem s_sample (x : Int) : spec_l5Sample.f x = some (decide (inS x)) := by
  unfold spec_l5Sample.f spec_l1In.f inS
  by_cases h : x ≥ -1000000000
  · rw [if_pos h]
    simp only [Option.bind_some]
    congr 1
    exact decide_eq_decide.2 ⟨fun h2 => ⟨h, h2⟩, fun h2 => h2.2⟩
  · rw [if_neg h]
    simp only [Option.bind_some]
    congr 1
    exact (decide_eq_false (fun h2 => h h2.1)).symm

theorem s_sig_l (l : List Int) (hl : l.length ≤ 1048576) : ∀ (d k i : Nat), i + d = l.length → d < k →
    spec_SignalOk.l0 k l (i : Int) = some (decide (allS (l.drop i) ∧ l.length ≤ 512))
  | 0, k, i, hi, hk => by
    obtain ⟨k, rfl⟩ : ∃ m, k = m + 1 := ⟨k - 1, by omega⟩
    rw [spec_SignalOk.l0, if_neg (by omega), List.drop_of_length_le (by omega)]
    congr 1
    exact decide_eq_decide.2 ⟨fun h => ⟨allS_nil, by omega⟩, fun h => by omega⟩
  | d + 1, k, i, hi, hk => by
    obtain ⟨k, rfl⟩ : ∃ m, k = m + 1 := ⟨k - 1, by omega⟩
    have h : i < l.length := by omega
    rw [spec_SignalOk.l0, if_pos (by omega), if_pos (by omega), s_sample]
    simp only [Option.bind_some]
    rw [show wrap64 ((i : Int) + 1) = ((i + 1 : Nat) : Int) from by rw [wrap_id (by omega) (by omega)]; omega]
    rw [s_sig_l l hl d k (i + 1) (by omega) (by omega), drop_rd l i h]
    by_cases hx : inS (rd l (i : Int))
    · simp only [hx, decide_true, if_true]
      congr 1
      exact decide_eq_decide.2 ⟨fun g => ⟨(allS_cons _ _).2 ⟨hx, g.1⟩, g.2⟩, fun g => ⟨((allS_cons _ _).1 g.1).2, g.2⟩⟩
    · simp only [hx, decide_false, Bool.false_eq_true, if_false]
      congr 1
      exact (decide_eq_false (fun g => hx ((allS_cons _ _).1 g.1).1)).symm

theorem s_sig (l : List Int) (hl : l.length ≤ 1048576) (k : Nat) (hk : l.length < k) : spec_SignalOk.f k l = some (decide (sigOk l)) := by
  unfold spec_SignalOk.f
  have := s_sig_l l hl l.length k 0 (by omega) hk
  rw [show ((0 : Nat) : Int) = 0 from rfl] at this
  rw [this]
  congr 1
  exact decide_eq_decide.2 ⟨fun h => ⟨h.2, by simpa using h.1⟩, fun h => ⟨by simpa using h.2, h.1⟩⟩

theorem i_within_l (l : List Int) (hl : l.length ≤ 1048576) : ∀ (d k i : Nat), i + d = l.length → d < k →
    impl_within.l0 k 1000000000 l (l.length : Int) (i : Int) = some (decide (allS (l.drop i)))
  | 0, k, i, hi, hk => by
    obtain ⟨k, rfl⟩ : ∃ m, k = m + 1 := ⟨k - 1, by omega⟩
    rw [impl_within.l0, if_neg (by omega), List.drop_of_length_le (by omega)]
    exact congrArg some (decide_eq_true allS_nil).symm
  | d + 1, k, i, hi, hk => by
    obtain ⟨k, rfl⟩ : ∃ m, k = m + 1 := ⟨k - 1, by omega⟩
    have h : i < l.length := by omega
    rw [impl_within.l0, if_pos (by omega), if_pos (by omega), if_pos (by omega), wrap_id (n := -1000000000) (by omega) (by omega)]
    rw [show wrap64 ((i : Int) + 1) = ((i + 1 : Nat) : Int) from by rw [wrap_id (by omega) (by omega)]; omega]
    rw [i_within_l l hl d k (i + 1) (by omega) (by omega), drop_rd l i h]
    by_cases hx : inS (rd l (i : Int))
    · rw [if_neg (by unfold inS at hx; omega), if_neg (by unfold inS at hx; omega)]
      congr 1
      exact decide_eq_decide.2 ⟨fun g => (allS_cons _ _).2 ⟨hx, g⟩, fun g => ((allS_cons _ _).1 g).2⟩
    · have e : decide (allS (rd l (i : Int) :: l.drop (i + 1))) = false := decide_eq_false (fun g => hx ((allS_cons _ _).1 g).1)
      rw [e]
      by_cases hlo : rd l (i : Int) < -1000000000
      · rw [if_pos hlo]
      · rw [if_neg hlo, if_pos (by unfold inS at hx; omega)]

theorem i_sig (l : List Int) (hl : l.length ≤ 1048576) (k : Nat) (hk : l.length < k) : impl_SignalOk.f k l = some (decide (sigOk l)) := by
  unfold impl_SignalOk.f impl_within.f
  have := i_within_l l hl l.length k 0 (by omega) hk
  rw [show ((0 : Nat) : Int) = 0 from rfl] at this
  rw [this]
  by_cases h : l.length ≤ 512
  · rw [if_pos (by omega)]
    simp only [Option.bind_some]
    congr 1
    exact decide_eq_decide.2 ⟨fun g => ⟨h, by simpa using g⟩, fun g => by simpa using g.2⟩
  · rw [if_neg (by omega)]
    congr 1
    exact (decide_eq_false (fun g => h g.1)).symm

/-- The difs as they go. -/
def difs (s : Int) : List Int → List Int
  | [] => []
  | x :: l => (x - s) :: difs x l
theorem difs_cons (s x : Int) (l : List Int) : difs s (x :: l) = (x - s) :: difs x l := rfl
theorem difs_len (l : List Int) : ∀ s, (difs s l).length = l.length := by
  induction l with
  | nil => intro s; rfl
  | cons x l ih => intro s; simp [difs, ih]

theorem s_step_l (l : List Int) (hl : l.length ≤ 512) (hin : ∀ x ∈ l, inS x) : ∀ (d k i : Nat) (acc : List Int) (s : Int), i + d = l.length → acc.length = i → -1000000000 ≤ s ∧ s ≤ 1000000000 → d < k →
    spec_Steps.l0 k l acc s (i : Int) = some (if allS (difs s (l.drop i)) then (acc ++ difs s (l.drop i), true) else ([], false))
  | 0, k, i, acc, s, hi, ha, hs, hk => by
    obtain ⟨k, rfl⟩ : ∃ m, k = m + 1 := ⟨k - 1, by omega⟩
    rw [spec_Steps.l0, if_neg (by omega), List.drop_of_length_le (by omega)]
    simp [difs, allS_nil]
  | d + 1, k, i, acc, s, hi, ha, hs, hk => by
    obtain ⟨k, rfl⟩ : ∃ m, k = m + 1 := ⟨k - 1, by omega⟩
    have h : i < l.length := by omega
    have hx : inS (rd l (i : Int)) := hin _ (by rw [rd_at l i h]; exact List.getElem_mem h)
    unfold inS at hx
    rw [spec_Steps.l0, if_pos (by omega), if_pos (by omega), wrap_id (n := rd l (i : Int) - s) (by omega) (by omega), s_sample]
    simp only [Option.bind_some]
    rw [show wrap64 ((i : Int) + 1) = ((i + 1 : Nat) : Int) from by rw [wrap_id (by omega) (by omega)]; omega]
    rw [drop_rd l i h, difs_cons]
    by_cases hy : inS (rd l (i : Int) - s)
    · simp only [hy, decide_true, if_true]
      rw [if_pos (by omega), s_step_l l hl hin d k (i + 1) _ _ (by omega) (by simp; omega) hx (by omega)]
      congr 1
      by_cases hall : allS (difs (rd l (i : Int)) (l.drop (i + 1)))
      · rw [if_pos hall, if_pos ((allS_cons _ _).2 ⟨hy, hall⟩)]
        simp
      · rw [if_neg hall, if_neg (fun g => hall ((allS_cons _ _).1 g).2)]
    · simp only [hy, decide_false, Bool.false_eq_true, if_false]
      rw [if_neg (fun g => hy ((allS_cons _ _).1 g).1)]

theorem i_step_l (l : List Int) (hl : l.length ≤ 512) (hin : ∀ x ∈ l, inS x) : ∀ (d k i : Nat) (acc : List Int) (s : Int), i + d = l.length → acc.length = i → -1000000000 ≤ s ∧ s ≤ 1000000000 → d + 600 < k →
    impl_Steps.l0 k acc s l (l.length : Int) (i : Int) = some (if sigOk (acc ++ difs s (l.drop i)) then (acc ++ difs s (l.drop i), true) else ([], false))
  | 0, k, i, acc, s, hi, ha, hs, hk => by
    obtain ⟨k, rfl⟩ : ∃ m, k = m + 1 := ⟨k - 1, by omega⟩
    rw [impl_Steps.l0, if_neg (by omega), List.drop_of_length_le (by omega), i_sig acc (by omega) k (by omega)]
    simp only [Option.bind_some, difs, List.append_nil]
    by_cases g : sigOk acc <;> simp [g]
  | d + 1, k, i, acc, s, hi, ha, hs, hk => by
    obtain ⟨k, rfl⟩ : ∃ m, k = m + 1 := ⟨k - 1, by omega⟩
    have h : i < l.length := by omega
    have hx : inS (rd l (i : Int)) := hin _ (by rw [rd_at l i h]; exact List.getElem_mem h)
    unfold inS at hx
    rw [impl_Steps.l0, if_pos (by omega), if_pos (by omega), if_pos (by omega), if_pos (by omega), wrap_id (n := rd l (i : Int) - s) (by omega) (by omega)]
    rw [show wrap64 ((i : Int) + 1) = ((i + 1 : Nat) : Int) from by rw [wrap_id (by omega) (by omega)]; omega]
    rw [i_step_l l hl hin d k (i + 1) _ _ (by omega) (by simp; omega) (by omega) (by omega), drop_rd l i h, difs_cons, List.append_assoc, List.singleton_append]

theorem both_FnExactSteps (l : List Int) (hl : l.length ≤ 1048576) : ∃ o b, o.length ≤ 512 ∧ (∀ k, l.length + 600 < k → spec_Steps.f k l = some (o, b)) ∧ (∀ k, l.length + 600 < k → impl_Steps.f k l = some (o, b)) := by
  by_cases hs : sigOk l
  · refine ⟨if sigOk (difs 0 l) then difs 0 l else [], decide (sigOk (difs 0 l)), ?_, ?_, ?_⟩
    · split
      · rename_i g; exact g.1
      · simp
    · intro k hk
      unfold spec_Steps.f
      rw [s_sig l hl k (by omega)]
      simp only [Option.bind_some, hs, decide_true, if_true]
      have := s_step_l l hs.1 hs.2 l.length k 0 [] 0 (by omega) rfl (by omega) (by omega)
      rw [show ((0 : Nat) : Int) = 0 from rfl] at this
      rw [this]
      congr 1
      simp only [List.drop_zero, List.nil_append]
      by_cases g : sigOk (difs 0 l)
      · simp only [g, if_true, decide_true]; rw [if_pos g.2]
      · simp only [g, if_false, decide_false]; rw [if_neg (fun q => g ⟨by rw [difs_len]; exact hs.1, q⟩)]
    · intro k hk
      unfold impl_Steps.f
      rw [i_sig l hl k (by omega)]
      simp only [Option.bind_some, hs, decide_true, if_true]
      have := i_step_l l hs.1 hs.2 l.length k 0 [] 0 (by omega) rfl (by omega) (by omega)
      rw [show ((0 : Nat) : Int) = 0 from rfl] at this
      rw [this]
      congr 1
      simp only [List.drop_zero, List.nil_append]
      by_cases g : sigOk (difs 0 l) <;> simp [g]
  · refine ⟨[], false, by simp, ?_, ?_⟩
    · intro k hk
      unfold spec_Steps.f
      rw [s_sig l hl k (by omega)]
      simp [hs]
    · intro k hk
      unfold impl_Steps.f
      rw [i_sig l hl k (by omega)]
      simp [hs]

theorem FnExactSteps : laws_FnExactSteps.Pure := by
  intro l _ _ _
  refine ⟨l.length + 604, ?_⟩
  unfold laws_FnExactSteps.f
  by_cases h : (l.length : Int) > 1048576
  · rw [if_pos h]
  · have hl : l.length ≤ 1048576 := by omega
    rw [if_neg h, toIntS_f l hl _ (by omega)]
    simp only [Option.bind_some]
    obtain ⟨o, b, ho, hS, hI⟩ := both_FnExactSteps l hl
    rw [hS _ (by omega), hI _ (by omega)]
    simp only [Option.bind_some]
    rw [eqIntS_f o (by omega) _ (by omega)]
    simp only [Option.bind_some, if_true, bne_self_eq_false]
    rw [show l.length + 604 = (l.length + 603) + 1 from rfl, laws_FnExactSteps.j0, if_neg (by simp), toIntS_f l hl _ (by omega)]
    simp only [Option.bind_some]
    rw [eqIntS_f l hl _ (by omega)]
    simp only [Option.bind_some, if_true]
    obtain ⟨l', e1, _, _⟩ := markIntS_f l hl (l.length + 603) (by omega)
    rw [e1]
    simp only [Option.bind_some]
    rw [if_neg (by omega), eqIntS_f o (by omega) _ (by omega)]
    simp only [Option.bind_some, if_true]
    rw [show l.length + 603 = (l.length + 602) + 1 from rfl, laws_FnExactSteps.j1, if_neg (by simp)]
    obtain ⟨o', e2, h2, h3⟩ := markIntS_f o (by omega) (l.length + 602) (by omega)
    rw [e2]
    simp only [Option.bind_some]
    rw [heldIntS_f o' (by omega) h3 _ (by omega)]
    simp only [Option.bind_some]
    rw [if_neg (by omega), if_pos (by omega), toIntS_f l hl _ (by omega)]
    simp only [Option.bind_some]
    rw [hI _ (by omega)]
    simp only [Option.bind_some]
    rw [eqIntS_f o (by omega) _ (by omega)]
    simp only [Option.bind_some, if_true, bne_self_eq_false]
    rw [show l.length + 602 = (l.length + 601) + 1 from rfl, laws_FnExactSteps.j2, if_neg (by simp), heldIntS_f o' (by omega) h3 _ (by omega)]
    simp only [Option.bind_some]
    rw [if_neg (by omega), if_pos (by omega)]

end Go.Proofs.Ytbjnggnlflofbaa.Pure
