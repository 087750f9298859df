/-
  The pure law of ShapeNoise: the program and the reference give the same at every input, and the result is memory of its own. No condition.
-/
import Derived.Test.YtbjnggnlflofbaaPFnExactShapeNoisex4
import Derived.Test.YtbjnggnlflofbaaPl
namespace Go.Proofs.Ytbjnggnlflofbaa.Pure
open Go.RowKit Go.Proofs.Ytbjnggnlflofbaa.PFnExactShapeNoise Go.Proofs.YtbjnggnlflofbaaW.PrintWords Go.Proofs.YtbjnggnlflofbaaW.PrintLast Go.Pl
set_option linter.unusedVariables false
set_option linter.unusedSimpArgs false

/-! ### the copies, the compares, the marks -/
theorem rd_at (l : List Int) (i : Nat) (h : i < l.length) : rd l (i : Int) = l[i] := by
  unfold rd
  rw [Int.toNat_natCast, List.getD_eq_getElem?_getD, List.getElem?_eq_getElem h]; rfl

theorem drop_rd (l : List Int) (i : Nat) (h : i < l.length) : l.drop i = rd l (i : Int) :: l.drop (i + 1) := by
  rw [rd_at l i h]; exact List.drop_eq_getElem_cons h

theorem toIntS_l (l : List Int) (hl : l.length ≤ 1048576) : ∀ (d k i : Nat) (acc : List Int), i + d = l.length → acc.length = l.length → (∀ j, j < i → acc[j]? = l[j]?) → d < k →
    laws_toIntS.l0 k l acc (i : Int) = some l
  | 0, k, i, acc, hi, ha, hj, hk => by
    obtain ⟨k, rfl⟩ : ∃ m, k = m + 1 := ⟨k - 1, by omega⟩
    rw [laws_toIntS.l0, if_neg (by omega)]
    congr 1
    apply List.ext_getElem?
    intro j
    by_cases h : j < i
    · exact hj j h
    · rw [List.getElem?_eq_none (by omega), List.getElem?_eq_none (by omega)]
  | d + 1, k, i, acc, hi, ha, hj, hk => by
    obtain ⟨k, rfl⟩ : ∃ m, k = m + 1 := ⟨k - 1, by omega⟩
    have h : i < l.length := by omega
    rw [laws_toIntS.l0, if_pos (by omega), if_pos (by omega), if_pos (by omega), Int.toNat_natCast]
    rw [show wrap64 ((i : Int) + 1) = ((i + 1 : Nat) : Int) from by rw [wrap_id (by omega) (by omega)]; omega]
    refine toIntS_l l hl d k (i + 1) _ (by omega) (by rw [List.length_set]; exact ha) ?_ (by omega)
    intro j hji
    by_cases e : j = i
    · subst e
      rw [List.getElem?_set_self (by omega), rd_at l j h, List.getElem?_eq_getElem h]
    · rw [List.getElem?_set_ne (by omega)]; exact hj j (by omega)

theorem toIntS_f (l : List Int) (hl : l.length ≤ 1048576) (k : Nat) (hk : l.length < k) : laws_toIntS.f k l = some l := by
  unfold laws_toIntS.f
  rw [if_pos (by omega), if_pos (by omega)]
  exact toIntS_l l hl l.length k 0 _ (by omega) (by simp) (by intro j h; omega) hk

theorem eqIntS_l (l : List Int) (hl : l.length ≤ 1048576) : ∀ (d k i : Nat), i + d = l.length → d < k → laws_eqIntS.l0 k l l (i : Int) = some true
  | 0, k, i, hi, hk => by
    obtain ⟨k, rfl⟩ : ∃ m, k = m + 1 := ⟨k - 1, by omega⟩
    rw [laws_eqIntS.l0, if_neg (by omega)]
  | d + 1, k, i, hi, hk => by
    obtain ⟨k, rfl⟩ : ∃ m, k = m + 1 := ⟨k - 1, by omega⟩
    rw [laws_eqIntS.l0, if_pos (by omega), if_pos (by omega), if_pos (by omega), if_pos rfl]
    rw [show wrap64 ((i : Int) + 1) = ((i + 1 : Nat) : Int) from by rw [wrap_id (by omega) (by omega)]; omega]
    exact eqIntS_l l hl d k (i + 1) (by omega) (by omega)

theorem eqIntS_f (l : List Int) (hl : l.length ≤ 1048576) (k : Nat) (hk : l.length < k) : laws_eqIntS.f k l l = some true := by
  unfold laws_eqIntS.f
  rw [if_pos rfl]
  exact eqIntS_l l hl l.length k 0 (by omega) hk
/-- A list that holds m, m + 1, .. from i on. -/
def Marked (l : List Int) (i : Nat) (m : Int) : Prop := ∀ j, i ≤ j → j < l.length → l[j]? = some (m + ((j - i : Nat) : Int))

theorem markIntS_l : ∀ (d k i : Nat) (l : List Int) (m : Int), i + d = l.length → l.length ≤ 1048576 → 0 ≤ m → m + d ≤ 4611686018427387904 → d < k →
    ∃ l', laws_markIntS.l0 k l m (i : Int) = some (m + d, l') ∧ l'.length = l.length ∧ Marked l' i m ∧ ∀ j, j < i → l'[j]? = l[j]?
  | 0, k, i, l, m, hi, hl, h0, hm, hk => by
    obtain ⟨k, rfl⟩ : ∃ m, k = m + 1 := ⟨k - 1, by omega⟩
    refine ⟨l, by rw [laws_markIntS.l0, if_neg (by omega)]; simp, rfl, ?_, fun _ _ => rfl⟩
    intro j h1 h2; omega
  | d + 1, k, i, l, m, hi, hl, h0, hm, hk => by
    obtain ⟨k, rfl⟩ : ∃ m, k = m + 1 := ⟨k - 1, by omega⟩
    obtain ⟨l', e, hlen, hM, hold⟩ := markIntS_l d k (i + 1) (l.set i m) (m + 1) (by rw [List.length_set]; omega) (by rw [List.length_set]; exact hl) (by omega) (by omega) (by omega)
    rw [List.length_set] at hlen
    refine ⟨l', ?_, hlen, ?_, ?_⟩
    · rw [laws_markIntS.l0, if_pos (by omega), if_pos (by omega), Int.toNat_natCast, wrap_id (n := m + 1) (by omega) (by omega)]
      rw [show wrap64 ((i : Int) + 1) = ((i + 1 : Nat) : Int) from by rw [wrap_id (by omega) (by omega)]; omega, e]
      rw [show m + 1 + ((d : Nat) : Int) = m + ((d + 1 : Nat) : Int) from by omega]
    · intro j h1 h2
      by_cases e' : j = i
      · subst e'
        rw [hold j (by omega), List.getElem?_set_self (by omega)]
        congr 1; omega
      · rw [hM j (by omega) h2]
        congr 1; omega
    · intro j h1
      rw [hold j (by omega), List.getElem?_set_ne (by omega)]

theorem markIntS_f (l : List Int) (hl : l.length ≤ 1048576) (k : Nat) (hk : l.length < k) :
    ∃ l', laws_markIntS.f k l 1 = some ((1 : Int) + (l.length : Int), l') ∧ l'.length = l.length ∧ Marked l' 0 1 := by
  obtain ⟨l', e, h1, h2, _⟩ := markIntS_l l.length k 0 l 1 (by omega) hl (by omega) (by omega) hk
  exact ⟨l', by unfold laws_markIntS.f; exact e, h1, h2⟩

theorem heldIntS_l : ∀ (d k i : Nat) (l : List Int) (m : Int), i + d = l.length → l.length ≤ 1048576 → 0 ≤ m → m + d ≤ 4611686018427387904 → Marked l i m → d < k →
    laws_heldIntS.l0 k l m (i : Int) = some (m + d)
  | 0, k, i, l, m, hi, hl, h0, hm, hM, hk => by
    obtain ⟨k, rfl⟩ : ∃ m, k = m + 1 := ⟨k - 1, by omega⟩
    rw [laws_heldIntS.l0, if_neg (by omega)]; simp
  | d + 1, k, i, l, m, hi, hl, h0, hm, hM, hk => by
    obtain ⟨k, rfl⟩ : ∃ m, k = m + 1 := ⟨k - 1, by omega⟩
    have h : i < l.length := by omega
    have hi' := hM i (Nat.le_refl _) h
    rw [List.getElem?_eq_getElem h] at hi'
    injection hi' with hi'
    rw [laws_heldIntS.l0, if_pos (by omega), if_pos (by omega), if_pos (by rw [rd_at l i h, hi']; omega), wrap_id (n := m + 1) (by omega) (by omega)]
    rw [show wrap64 ((i : Int) + 1) = ((i + 1 : Nat) : Int) from by rw [wrap_id (by omega) (by omega)]; omega]
    rw [heldIntS_l d k (i + 1) l (m + 1) (by omega) hl (by omega) (by omega) (fun j h1 h2 => by rw [hM j (by omega) h2]; congr 1; omega) (by omega)]
    rw [show m + 1 + ((d : Nat) : Int) = m + ((d + 1 : Nat) : Int) from by omega]

theorem heldIntS_f (l : List Int) (hl : l.length ≤ 1048576) (hM : Marked l 0 1) (k : Nat) (hk : l.length < k) : laws_heldIntS.f k l 1 = some ((1 : Int) + (l.length : Int)) := by
  unfold laws_heldIntS.f
  exact heldIntS_l l.length k 0 l 1 (by omega) hl (by omega) (by omega) hM hk

/-! ### signals -/
def inS (x : Int) : Prop := -1000000000 ≤ x ∧ x ≤ 1000000000
instance (x : Int) : Decidable (inS x) := by unfold inS; infer_instance
def allS (l : List Int) : Prop := ∀ x ∈ l, inS x
instance (l : List Int) : Decidable (allS l) := by unfold allS; infer_instance
theorem allS_cons (x : Int) (l : List Int) : allS (x :: l) ↔ inS x ∧ allS l := List.forall_mem_cons
theorem allS_nil : allS [] := by intro x h; cases h
def sigOk (l : List Int) : Prop := l.length ≤ 512 ∧ allS l
instance (l : List Int) : Decidable (sigOk l) := by unfold sigOk; infer_instance

theorem s_sample (x : Int) : spec_l5Sample.f x = some (decide (inS x)) := by
  unfold spec_l5Sample.f spec_l1In.f inS
  by_cases h : x ≥ -1000000000
  · rw [if_pos h]
    simp only [Option.bind_some]
    congr 1
    exact decide_eq_decide.2 ⟨fun h2 => ⟨h, h2⟩, fun h2 => h2.2⟩
  · rw [if_neg h]
    simp only [Option.bind_some]
    congr 1
    exact (decide_eq_false (fun h2 => h h2.1)).symm

theorem s_sig_l (l : List Int) (hl : l.length ≤ 1048576) : ∀ (d k i : Nat), i + d = l.length → d < k →
    spec_SignalOk.l0 k l (i : Int) = some (decide (allS (l.drop i) ∧ l.length ≤ 512))
  | 0, k, i, hi, hk => by
    obtain ⟨k, rfl⟩ : ∃ m, k = m + 1 := ⟨k - 1, by omega⟩
    rw [spec_SignalOk.l0, if_neg (by omega), List.drop_of_length_le (by omega)]
    congr 1
    exact decide_eq_decide.2 ⟨fun h => ⟨allS_nil, by omega⟩, fun h => by omega⟩
  | d + 1, k, i, hi, hk => by
    obtain ⟨k, rfl⟩ : ∃ m, k = m + 1 := ⟨k - 1, by omega⟩
    have h : i < l.length := by omega
    rw [spec_SignalOk.l0, if_pos (by omega), if_pos (by omega), s_sample]
    simp only [Option.bind_some]
    rw [show wrap64 ((i : Int) + 1) = ((i + 1 : Nat) : Int) from by rw [wrap_id (by omega) (by omega)]; omega]
    rw [s_sig_l l hl d k (i + 1) (by omega) (by omega), drop_rd l i h]
    by_cases hx : inS (rd l (i : Int))
    · simp only [hx, decide_true, if_true]
      congr 1
      exact decide_eq_decide.2 ⟨fun g => ⟨(allS_cons _ _).2 ⟨hx, g.1⟩, g.2⟩, fun g => ⟨((allS_cons _ _).1 g.1).2, g.2⟩⟩
    · simp only [hx, decide_false, Bool.false_eq_true, if_false]
      congr 1
      exact (decide_eq_false (fun g => hx ((allS_cons _ _).1 g.1).1)).symm

theorem s_sig (l : List Int) (hl : l.length ≤ 1048576) (k : Nat) (hk : l.length < k) : spec_SignalOk.f k l = some (decide (sigOk l)) := by
  unfold spec_SignalOk.f
  have := s_sig_l l hl l.length k 0 (by omega) hk
  rw [show ((0 : Nat) : Int) = 0 from rfl] at this
  rw [this]
  congr 1
  exact decide_eq_decide.2 ⟨fun h => ⟨h.2, by simpa using h.1⟩, fun h => ⟨by simpa using h.2, h.1⟩⟩

theorem i_within_l (l : List Int) (hl : l.length ≤ 1048576) : ∀ (d k i : Nat), i + d = l.length → d < k →
    impl_within.l0 k 1000000000 l (l.length : Int) (i : Int) = some (decide (allS (l.drop i)))
  | 0, k, i, hi, hk => by
    obtain ⟨k, rfl⟩ : ∃ m, k = m + 1 := ⟨k - 1, by omega⟩
    rw [impl_within.l0, if_neg (by omega), List.drop_of_length_le (by omega)]
    exact congrArg some (decide_eq_true allS_nil).symm
  | d + 1, k, i, hi, hk => by
    obtain ⟨k, rfl⟩ : ∃ m, k = m + 1 := ⟨k - 1, by omega⟩
    have h : i < l.length := by omega
    rw [impl_within.l0, if_pos (by omega), if_pos (by omega), if_pos (by omega), wrap_id (n := -1000000000) (by omega) (by omega)]
    rw [show wrap64 ((i : Int) + 1) = ((i + 1 : Nat) : Int) from by rw [wrap_id (by omega) (by omega)]; omega]
    rw [i_within_l l hl d k (i + 1) (by omega) (by omega), drop_rd l i h]
    by_cases hx : inS (rd l (i : Int))
    · rw [if_neg (by unfold inS at hx; omega), if_neg (by unfold inS at hx; omega)]
      congr 1
      exact decide_eq_decide.2 ⟨fun g => (allS_cons _ _).2 ⟨hx, g⟩, fun g => ((allS_cons _ _).1 g).2⟩
    · have e : decide (allS (rd l (i : Int) :: l.drop (i + 1))) = false := decide_eq_false (fun g => hx ((allS_cons _ _).1 g).1)
      rw [e]
      by_cases hlo : rd l (i : Int) < -1000000000
      · rw [if_pos hlo]
      · rw [if_neg hlo, if_pos (by unfold inS at hx; omega)]

theorem i_sig (l : List Int) (hl : l.length ≤ 1048576) (k : Nat) (hk : l.length < k) : impl_SignalOk.f k l = some (decide (sigOk l)) := by
  unfold impl_SignalOk.f impl_within.f
  have := i_within_l l hl l.length k 0 (by omega) hk
  rw [show ((0 : Nat) : Int) = 0 from rfl] at this
  rw [this]
  by_cases h : l.length ≤ 512
  · rw [if_pos (by omega)]
    simp only [Option.bind_some]
    congr 1
    exact decide_eq_decide.2 ⟨fun g => ⟨h, by simpa using g⟩, fun g => by simpa using g.2⟩
  · rw [if_neg (by omega)]
    congr 1
    exact (decide_eq_false (fun g => h g.1)).symm
/-! ### shifts with a rule -/
theorem pow_facts (by_ : Int) (h0 : 0 ≤ by_) (h1 : by_ ≤ 60) : ∃ D H : Int, 1 ≤ D ∧ D ≤ 1152921504606846976 ∧ IntKind.u64.wrap by_ = by_ ∧ shl .i64 1 by_ = D ∧ (∀ x, shr .i64 x by_ = x / D) ∧
    (∀ q, shl .i64 q by_ = wrap64 (q * D)) ∧ (by_ = 0 → D = 1) ∧ (0 < by_ → D = 2 * H ∧ shl .i64 1 (wrap64 (by_ - 1)) = H ∧ 0 ≤ wrap64 (by_ - 1)) := by
  obtain ⟨n, rfl⟩ := Int.eq_ofNat_of_zero_le h0
  have hn : n ≤ 60 := by omega
  have hb : (2 : Int) ^ n ≤ 2 ^ 60 := by exact_mod_cast Nat.pow_le_pow_right (show 0 < 2 by decide) hn
  have hp : (0 : Int) < 2 ^ n := Int.pow_pos (by decide)
  have w1 : ∀ m : Int, -9223372036854775808 ≤ m → m ≤ 9223372036854775807 → IntKind.i64.wrap m = m := fun m a b => IntWalk.i64_in m ⟨a, b⟩
  have wq : ∀ m : Int, IntKind.i64.wrap m = wrap64 m := fun m => by rw [IntKind.wrap_i64]; unfold wrap64; rfl
  refine ⟨2 ^ n, 2 ^ (n - 1), by omega, by simpa using hb, ?_, ?_, ?_, ?_, ?_, ?_⟩
  · exact IntWalk.u64_in _ ⟨by omega, by omega⟩
  · unfold shl
    rw [Int.toNat_natCast, show min n IntKind.i64.bits = n from Nat.min_eq_left (by show n ≤ 64; omega), Int.one_mul]
    exact w1 _ (by omega) (by omega)
  · intro x
    unfold shr
    rw [Int.toNat_natCast, show min n IntKind.i64.bits = n from Nat.min_eq_left (by show n ≤ 64; omega)]
  · intro q
    unfold shl
    rw [Int.toNat_natCast, show min n IntKind.i64.bits = n from Nat.min_eq_left (by show n ≤ 64; omega)]
    exact wq _
  · intro h
    have : n = 0 := by omega
    subst this; rfl
  · intro h
    obtain ⟨m, rfl⟩ : ∃ m, n = m + 1 := ⟨n - 1, by omega⟩
    have e : wrap64 (((m + 1 : Nat) : Int) - 1) = (m : Int) := by rw [wrap_id (by omega) (by omega)]; omega
    rw [e]
    have hpm : (0 : Int) < 2 ^ m := Int.pow_pos (by decide)
    have hm2 : (2 : Int) ^ (m + 1) = 2 * 2 ^ m := by rw [Int.pow_succ]; omega
    refine ⟨by simpa using hm2, ?_, by omega⟩
    unfold shl
    rw [Int.toNat_natCast, show min m IntKind.i64.bits = m from Nat.min_eq_left (by show m ≤ 64; omega), Int.one_mul]
    simp only [Nat.add_sub_cancel]
    exact w1 _ (by omega) (by omega)

/-- The rules' own test: is the quotient raised by one? -/
def upQ (x by_ cut D : Int) : Prop := (cut = 2 ∧ x < 0 ∧ 0 < x % D) ∨ (cut = 3 ∧ 0 < by_ ∧ D ≤ 2 * (x % D)) ∨ (cut = 4 ∧ 0 < by_ ∧ (D < 2 * (x % D) ∨ D = 2 * (x % D) ∧ x / D % 2 = 1))
instance (x by_ cut D : Int) : Decidable (upQ x by_ cut D) := by unfold upQ; infer_instance
def okS (x by_ cut : Int) : Prop := (-4000000000000000000 ≤ x ∧ x ≤ 4000000000000000000) ∧ (0 ≤ by_ ∧ by_ ≤ 60) ∧ 1 ≤ cut ∧ cut ≤ 4
instance (x by_ cut : Int) : Decidable (okS x by_ cut) := by unfold okS; infer_instance
/-- What Shift comes to. -/
def shf (x by_ cut : Int) : Int := if okS x by_ cut then (if upQ x by_ cut (2 ^ by_.toNat) then x / 2 ^ by_.toNat + 1 else x / 2 ^ by_.toNat) else 0

theorem tmod2 (q : Int) : Int.tmod q 2 = 0 ↔ q % 2 = 0 := by
  rw [← Int.dvd_iff_tmod_eq_zero, Int.dvd_iff_emod_eq_zero]

theorem s_floor (x D : Int) (h1 : 1 ≤ D) (hx : -4000000000000000000 ≤ x) (hx2 : x ≤ 4000000000000000000) : spec_l5Floor.f x D = some (x / D) := by
  unfold spec_l5Floor.f
  have hd := div_le_abs (a := x) (b := D) (M := 4000000000000000000) (by omega) hx hx2 (by omega)
  rw [if_neg (by omega)]
  split
  · rename_i h; have := t_neg (show 0 < D by omega) h
    rw [wrap_id (n := Int.tdiv x D) (by omega) (by omega), this.1, wrap_id (by omega) (by omega)]
  · rename_i h; have := t_pos (a := x) (show 0 < D by omega) (by omega)
    rw [this.1, wrap_id (by omega) (by omega)]

theorem s_cut (c : Int) : spec_l5Cut.f c = some (decide (1 ≤ c ∧ c ≤ 4)) := by
  unfold spec_l5Cut.f spec_l1In.f
  by_cases h : c ≥ 1
  · rw [if_pos h]; simp only [Option.bind_some]; congr 1; exact decide_eq_decide.2 ⟨fun g => ⟨h, g⟩, fun g => g.2⟩
  · rw [if_neg h]; simp only [Option.bind_some]; congr 1; exact (decide_eq_false (fun g => h g.1)).symm

theorem i_cut (c : Int) : impl_isCut.f c = some (decide (1 ≤ c ∧ c ≤ 4)) := by
  unfold impl_isCut.f
  by_cases h : c ≥ 1
  · rw [if_pos h]; congr 1; exact decide_eq_decide.2 ⟨fun g => ⟨h, g⟩, fun g => g.2⟩
  · rw [if_neg h]; congr 1; exact (decide_eq_false (fun g => h g.1)).symm

theorem i_big (x : Int) : impl_big18.f x = some (decide (-4000000000000000000 ≤ x ∧ x ≤ 4000000000000000000)) := by
  unfold impl_big18.f
  by_cases h : x ≥ -4000000000000000000
  · rw [if_pos h]; congr 1; exact decide_eq_decide.2 ⟨fun g => ⟨h, g⟩, fun g => g.2⟩
  · rw [if_neg h]; congr 1; exact (decide_eq_false (fun g => h g.1)).symm

theorem s_in (x a b : Int) : spec_l1In.f x a b = some (decide (a ≤ x ∧ x ≤ b)) := by
  unfold spec_l1In.f
  by_cases h : x ≥ a
  · rw [if_pos h]; congr 1; exact decide_eq_decide.2 ⟨fun g => ⟨h, g⟩, fun g => g.2⟩
  · rw [if_neg h]; congr 1; exact (decide_eq_false (fun g => h g.1)).symm

theorem s_Shift (k : Nat) (x by_ cut : Int) : spec_Shift.f (k + 1) x by_ cut = some (shf x by_ cut) := by
  unfold spec_Shift.f shf
  rw [s_in, s_in, s_cut]
  simp only [Option.bind_some]
  by_cases hx : -4000000000000000000 ≤ x ∧ x ≤ 4000000000000000000
  · by_cases hb : 0 ≤ by_ ∧ by_ ≤ 60
    · by_cases hc : 1 ≤ cut ∧ cut ≤ 4
      · have hok : okS x by_ cut := ⟨hx, hb, hc⟩
        simp only [hx, hb, hc, hok, and_self, decide_true, if_true, Bool.not_true, spec_Shift.j0, Bool.false_eq_true, if_false]
        obtain ⟨D, H, h1, h2, h3, h4, h5, h6, h7, h8⟩ := pow_facts by_ hb.1 hb.2
        have hD : (2 : Int) ^ by_.toNat = D := by
          have := h5 0
          rw [← h4]
          unfold shl
          rw [show min by_.toNat IntKind.i64.bits = by_.toNat from Nat.min_eq_left (by show by_.toNat ≤ 64; omega), Int.one_mul]
          have hp : (0 : Int) < 2 ^ by_.toNat := Int.pow_pos (by decide)
          have hbb : (2 : Int) ^ by_.toNat ≤ 2 ^ 60 := by exact_mod_cast Nat.pow_le_pow_right (show 0 < 2 by decide) (show by_.toNat ≤ 60 by omega)
          exact (IntWalk.i64_in _ ⟨by omega, by omega⟩).symm
        rw [hD, h3, h4, if_pos (by omega), s_floor x D h1 hx.1 hx.2]
        simp only [Option.bind_some]
        have hm := Int.mul_ediv_add_emod x D
        rw [Int.mul_comm] at hm
        have hm2 := Int.emod_lt_of_pos x (show 0 < D by omega)
        have hm3 := Int.emod_nonneg x (show D ≠ 0 by omega)
        have hd := div_le_abs (a := x) (b := D) (M := 4000000000000000000) (by omega) hx.1 hx.2 (by omega)
        have hneg : x / D < 0 ↔ x < 0 := by
          constructor
          · intro h
            by_cases g : x < 0
            · exact g
            · exact absurd (Int.ediv_nonneg (show 0 ≤ x by omega) (show 0 ≤ D by omega)) (by omega)
          · intro h; exact Int.ediv_neg_of_neg_of_pos h (by omega)
        have ht := tmod2 (x / D)
        generalize hz : x / D * D = z at *
        rw [wrap_id (n := z) (by omega) (by omega), wrap_id (n := x - z) (by omega) (by omega), wrap_id (n := D - (x - z)) (by omega) (by omega), wrap_id (n := x / D + 1) (by omega) (by omega)]
        have hr : x - z = x % D := by omega
        rw [hr]
        by_cases c2 : cut = 2
        · rw [if_pos c2]
          by_cases q1 : x / D < 0
          · rw [if_pos q1]
            by_cases q2 : x % D > 0
            · rw [if_pos q2, if_pos (show upQ x by_ cut D from by unfold upQ; omega)]
            · rw [if_neg q2, if_neg (show ¬ upQ x by_ cut D from by unfold upQ; omega)]
          · rw [if_neg q1, if_neg (show ¬ upQ x by_ cut D from by unfold upQ; omega)]
        · rw [if_neg c2]
          by_cases c3 : cut = 3
          · rw [if_pos c3]
            by_cases q1 : by_ > 0
            · rw [if_pos q1]
              by_cases q2 : x % D ≥ D - x % D
              · rw [if_pos q2, if_pos (show upQ x by_ cut D from by unfold upQ; omega)]
              · rw [if_neg q2, if_neg (show ¬ upQ x by_ cut D from by unfold upQ; omega)]
            · rw [if_neg q1, if_neg (show ¬ upQ x by_ cut D from by unfold upQ; omega)]
          · rw [if_neg c3]
            by_cases c4 : cut = 4
            · rw [if_pos c4]
              by_cases q1 : by_ > 0
              · rw [if_pos q1]
                by_cases q2 : x % D > D - x % D
                · rw [if_pos q2, if_pos (show upQ x by_ cut D from by unfold upQ; omega)]
                · rw [if_neg q2]
                  by_cases q3 : x % D = D - x % D
                  · rw [if_pos q3]
                    by_cases q4 : Int.tmod (x / D) 2 = 0
                    · rw [if_pos q4, if_neg (show ¬ upQ x by_ cut D from by unfold upQ; omega)]
                    · rw [if_neg q4, if_pos (show upQ x by_ cut D from by unfold upQ; omega)]
                  · rw [if_neg q3, if_neg (show ¬ upQ x by_ cut D from by unfold upQ; omega)]
              · rw [if_neg q1, if_neg (show ¬ upQ x by_ cut D from by unfold upQ; omega)]
            · rw [if_neg c4, if_neg (show ¬ upQ x by_ cut D from by unfold upQ; omega)]
      · have hok : ¬ okS x by_ cut := fun g => hc g.2.2
        simp only [hx, hb, hc, hok, and_self, decide_true, decide_false, if_true, Bool.not_false, spec_Shift.j0, if_false]
    · have hok : ¬ okS x by_ cut := fun g => hb g.2.1
      simp only [hx, hb, hok, and_self, decide_true, decide_false, if_true, Bool.not_false, spec_Shift.j0, if_false, Bool.false_eq_true]
  · have hok : ¬ okS x by_ cut := fun g => hx g.1
    simp only [hx, hok, decide_false, if_true, spec_Shift.j0, if_false, Bool.false_eq_true]

theorem i_Shift (k : Nat) (x by_ cut : Int) : impl_Shift.f (k + 1) x by_ cut = some (shf x by_ cut) := by
  unfold impl_Shift.f shf
  rw [i_big, i_cut]
  simp only [Option.bind_some]
  by_cases hx : -4000000000000000000 ≤ x ∧ x ≤ 4000000000000000000
  · simp only [hx, and_self, decide_true, if_true]
    by_cases hb : 0 ≤ by_ ∧ by_ ≤ 60
    · rw [if_neg (show ¬ by_ < 0 by omega), if_neg (show ¬ by_ > 60 by omega)]
      by_cases hc : 1 ≤ cut ∧ cut ≤ 4
      · have hok : okS x by_ cut := ⟨hx, hb, hc⟩
        simp only [hb, hc, hok, and_self, decide_true, if_true, Bool.not_true, impl_Shift.j0, Bool.false_eq_true, if_false]
        obtain ⟨D, H, h1, h2, h3, h4, h5, h6, h7, h8⟩ := pow_facts by_ hb.1 hb.2
        have hD : (2 : Int) ^ by_.toNat = D := by
          rw [← h4]
          unfold shl
          rw [show min by_.toNat IntKind.i64.bits = by_.toNat from Nat.min_eq_left (by show by_.toNat ≤ 64; omega), Int.one_mul]
          have hp : (0 : Int) < 2 ^ by_.toNat := Int.pow_pos (by decide)
          have hbb : (2 : Int) ^ by_.toNat ≤ 2 ^ 60 := by exact_mod_cast Nat.pow_le_pow_right (show 0 < 2 by decide) (show by_.toNat ≤ 60 by omega)
          exact (IntWalk.i64_in _ ⟨by omega, by omega⟩).symm
        rw [hD]
        by_cases hz0 : by_ = 0
        · rw [if_pos hz0]
          have hD1 := h7 hz0
          have e1 : x % D = 0 := by rw [hD1]; exact Int.emod_one x
          have e2 : x / D = x := by rw [hD1]; exact Int.ediv_one x
          rw [if_neg (show ¬ upQ x by_ cut D from by unfold upQ; omega), e2]
        · rw [if_neg hz0]
          obtain ⟨g1, g2, g3⟩ := h8 (by omega)
          rw [if_pos g3, g2, h5, h6]
          have hm := Int.mul_ediv_add_emod x D
          rw [Int.mul_comm] at hm
          have hm2 := Int.emod_lt_of_pos x (show 0 < D by omega)
          have hm3 := Int.emod_nonneg x (show D ≠ 0 by omega)
          have hd := div_le_abs (a := x) (b := D) (M := 4000000000000000000) (by omega) hx.1 hx.2 (by omega)
          rw [i64_and1]
          generalize hz : x / D * D = z at *
          rw [wrap_id (n := z) (by omega) (by omega), wrap_id (n := x - z) (by omega) (by omega), wrap_id (n := x / D + 1) (by omega) (by omega)]
          have hr : x - z = x % D := by omega
          rw [hr]
          by_cases c2 : cut = 2
          · rw [if_pos c2]
            by_cases q1 : x < 0
            · rw [if_pos q1]
              by_cases q2 : x % D > 0
              · rw [if_pos q2, if_pos (show upQ x by_ cut D from by unfold upQ; omega)]
              · rw [if_neg q2, if_neg (show ¬ upQ x by_ cut D from by unfold upQ; omega)]
            · rw [if_neg q1, if_neg (show ¬ upQ x by_ cut D from by unfold upQ; omega)]
          · rw [if_neg c2]
            by_cases c3 : cut = 3
            · rw [if_pos c3]
              by_cases q2 : x % D ≥ H
              · rw [if_pos q2, if_pos (show upQ x by_ cut D from by unfold upQ; omega)]
              · rw [if_neg q2, if_neg (show ¬ upQ x by_ cut D from by unfold upQ; omega)]
            · rw [if_neg c3]
              by_cases c4 : cut = 4
              · rw [if_pos c4]
                by_cases q2 : x % D > H
                · rw [if_pos q2, if_pos (show upQ x by_ cut D from by unfold upQ; omega)]
                · rw [if_neg q2]
                  by_cases q3 : x % D = H
                  · rw [if_pos q3]
                    by_cases q4 : x / D % 2 = 1
                    · rw [if_pos q4, if_pos (show upQ x by_ cut D from by unfold upQ; omega)]
                    · rw [if_neg q4, if_neg (show ¬ upQ x by_ cut D from by unfold upQ; omega)]
                  · rw [if_neg q3, if_neg (show ¬ upQ x by_ cut D from by unfold upQ; omega)]
              · rw [if_neg c4, if_neg (show ¬ upQ x by_ cut D from by unfold upQ; omega)]
      · have hok : ¬ okS x by_ cut := fun g => hc g.2.2
        simp only [hc, hok, decide_false, Bool.not_false, impl_Shift.j0, if_true, if_false]
    · have hok : ¬ okS x by_ cut := fun g => hb g.2.1
      rw [if_neg hok]
      by_cases g1 : by_ < 0
      · rw [if_pos g1]; simp only [impl_Shift.j0, if_true]
      · rw [if_neg g1, if_pos (by omega)]; simp only [impl_Shift.j0, if_true]
  · have hok : ¬ okS x by_ cut := fun g => hx g.1
    simp only [hx, hok, decide_false, impl_Shift.j0, if_true, if_false, Bool.false_eq_true]

/-- The shaped samples. -/
def noise (by_ e : Int) : List Int → List Int
  | [] => []
  | x :: l => shf (wrap64 (x + e)) by_ 3 :: noise by_ (wrap64 (wrap64 (x + e) - shl .i64 (shf (wrap64 (x + e)) by_ 3) by_)) l
theorem noise_len (b : Int) (l : List Int) : ∀ e, (noise b e l).length = l.length := by
  induction l with
  | nil => intro e; rfl
  | cons x l ih => intro e; simp [noise, ih]

theorem s_noise_l (l : List Int) (b : Int) (hb : 1 ≤ b ∧ b ≤ 20) (hl : l.length ≤ 512) : ∀ (d k i : Nat) (acc : List Int) (e : Int), i + d = l.length → acc.length = i → d + 1 < k →
    spec_ShapeNoise.l0 k l b acc e (i : Int) = some (acc ++ noise b e (l.drop i), true)
  | 0, k, i, acc, e, hi, ha, hk => by
    obtain ⟨k, rfl⟩ : ∃ m, k = m + 1 := ⟨k - 1, by omega⟩
    rw [spec_ShapeNoise.l0, if_neg (by omega), List.drop_of_length_le (by omega)]
    simp [noise]
  | d + 1, k, i, acc, e, hi, ha, hk => by
    obtain ⟨k, rfl⟩ : ∃ m, k = m + 1 + 1 := ⟨k - 2, by omega⟩
    have h : i < l.length := by omega
    have hu : IntKind.u64.wrap b = b := IntWalk.u64_in _ ⟨by omega, by omega⟩
    rw [spec_ShapeNoise.l0, if_pos (by omega), if_pos (by omega), s_Shift, hu]
    simp only [Option.bind_some]
    rw [if_pos (by omega), if_pos (by omega)]
    rw [show wrap64 ((i : Int) + 1) = ((i + 1 : Nat) : Int) from by rw [wrap_id (by omega) (by omega)]; omega]
    rw [s_noise_l l b hb hl d (k + 1) (i + 1) _ _ (by omega) (by simp; omega) (by omega), drop_rd l i h]
    simp only [noise, List.append_assoc, List.singleton_append]

theorem i_noise_l (l : List Int) (b : Int) (hb : 1 ≤ b ∧ b ≤ 20) (hl : l.length ≤ 512) : ∀ (d k i : Nat) (acc : List Int) (e : Int), i + d = l.length → acc.length = i → d + 1 < k →
    impl_ShapeNoise.l0 k b acc e l (l.length : Int) (i : Int) = some (acc ++ noise b e (l.drop i), true)
  | 0, k, i, acc, e, hi, ha, hk => by
    obtain ⟨k, rfl⟩ : ∃ m, k = m + 1 := ⟨k - 1, by omega⟩
    rw [impl_ShapeNoise.l0, if_neg (by omega), List.drop_of_length_le (by omega)]
    simp [noise]
  | d + 1, k, i, acc, e, hi, ha, hk => by
    obtain ⟨k, rfl⟩ : ∃ m, k = m + 1 + 1 := ⟨k - 2, by omega⟩
    have h : i < l.length := by omega
    rw [impl_ShapeNoise.l0, if_pos (by omega), if_pos (by omega), if_pos (by omega), i_Shift]
    simp only [Option.bind_some]
    rw [if_pos (by omega), if_pos (by omega)]
    rw [show wrap64 ((i : Int) + 1) = ((i + 1 : Nat) : Int) from by rw [wrap_id (by omega) (by omega)]; omega]
    rw [i_noise_l l b hb hl d (k + 1) (i + 1) _ _ (by omega) (by simp; omega) (by omega), drop_rd l i h]
    simp only [noise, List.append_assoc, List.singleton_append]

theorem both_FnExactShapeNoise (l : List Int) (b : Int) (hl : l.length ≤ 1048576) : ∃ o t, o.length ≤ 512 ∧ (∀ k, l.length + 600 < k → spec_ShapeNoise.f k l b = some (o, t)) ∧ (∀ k, l.length + 600 < k → impl_ShapeNoise.f k l b = some (o, t)) := by
  by_cases hs : sigOk l
  · by_cases hb : 1 ≤ b ∧ b ≤ 20
    · refine ⟨noise b 0 l, true, by rw [noise_len]; exact hs.1, ?_, ?_⟩
      · intro k hk
        obtain ⟨k, rfl⟩ : ∃ m, k = m + 1 := ⟨k - 1, by omega⟩
        unfold spec_ShapeNoise.f
        rw [s_sig l hl _ (by omega), s_in]
        simp only [Option.bind_some, hs, hb, and_self, decide_true, if_true, Bool.not_true, spec_ShapeNoise.j0, Bool.false_eq_true, if_false]
        have := s_noise_l l b hb hs.1 l.length k 0 [] 0 (by omega) rfl (by omega)
        rw [show ((0 : Nat) : Int) = 0 from rfl] at this
        rw [this]
        simp
      · intro k hk
        obtain ⟨k, rfl⟩ : ∃ m, k = m + 1 := ⟨k - 1, by omega⟩
        unfold impl_ShapeNoise.f
        rw [i_sig l hl _ (by omega)]
        simp only [Option.bind_some, hs, decide_true, if_true]
        rw [if_neg (show ¬ b < 1 by omega), show decide (b > 20) = false from decide_eq_false (by omega), impl_ShapeNoise.j0, if_neg (by decide)]
        have := i_noise_l l b hb hs.1 l.length k 0 [] 0 (by omega) rfl (by omega)
        rw [show ((0 : Nat) : Int) = 0 from rfl] at this
        rw [this]
        simp
    · refine ⟨[], false, by simp, ?_, ?_⟩
      · intro k hk
        obtain ⟨k, rfl⟩ : ∃ m, k = m + 1 := ⟨k - 1, by omega⟩
        unfold spec_ShapeNoise.f
        rw [s_sig l hl _ (by omega), s_in]
        simp only [Option.bind_some, hs, hb, decide_true, decide_false, if_true, Bool.not_false, spec_ShapeNoise.j0]
      · intro k hk
        obtain ⟨k, rfl⟩ : ∃ m, k = m + 1 := ⟨k - 1, by omega⟩
        unfold impl_ShapeNoise.f
        rw [i_sig l hl _ (by omega)]
        simp only [Option.bind_some, hs, decide_true, if_true]
        by_cases g : b < 1
        · rw [if_pos g]; simp only [impl_ShapeNoise.j0, if_true]
        · rw [if_neg g, show decide (b > 20) = true from decide_eq_true (by omega)]; simp only [impl_ShapeNoise.j0, if_true]
  · refine ⟨[], false, by simp, ?_, ?_⟩
    · intro k hk
      obtain ⟨k, rfl⟩ : ∃ m, k = m + 1 := ⟨k - 1, by omega⟩
      unfold spec_ShapeNoise.f
      rw [s_sig l hl _ (by omega)]
      simp only [Option.bind_some, hs, decide_false, Bool.false_eq_true, if_false, spec_ShapeNoise.j0, if_true]
    · intro k hk
      obtain ⟨k, rfl⟩ : ∃ m, k = m + 1 := ⟨k - 1, by omega⟩
      unfold impl_ShapeNoise.f
      rw [i_sig l hl _ (by omega)]
      simp only [Option.bind_some, hs, decide_false, Bool.false_eq_true, if_false, impl_ShapeNoise.j0, if_true]

theorem FnExactShapeNoise : laws_FnExactShapeNoise.Pure := by
  intro l a1 _ _ _ _
  refine ⟨l.length + 604, ?_⟩
  unfold laws_FnExactShapeNoise.f
  by_cases h : (l.length : Int) > 1048576
  · rw [if_pos h]
  · have hl : l.length ≤ 1048576 := by omega
    rw [if_neg h, toIntS_f l hl _ (by omega)]
    simp only [Option.bind_some]
    obtain ⟨o, b, ho, hS, hI⟩ := both_FnExactShapeNoise l a1 hl
    rw [hS _ (by omega), hI _ (by omega)]
    simp only [Option.bind_some]
    rw [eqIntS_f o (by omega) _ (by omega)]
    simp only [Option.bind_some, if_true, bne_self_eq_false]
    rw [show l.length + 604 = (l.length + 603) + 1 from rfl, laws_FnExactShapeNoise.j0, if_neg (by simp), toIntS_f l hl _ (by omega)]
    simp only [Option.bind_some]
    rw [eqIntS_f l hl _ (by omega)]
    simp only [Option.bind_some, if_true]
    obtain ⟨l', e1, _, _⟩ := markIntS_f l hl (l.length + 603) (by omega)
    rw [e1]
    simp only [Option.bind_some]
    rw [if_neg (by omega), eqIntS_f o (by omega) _ (by omega)]
    simp only [Option.bind_some, if_true]
    rw [show l.length + 603 = (l.length + 602) + 1 from rfl, laws_FnExactShapeNoise.j1, if_neg (by simp)]
    obtain ⟨o', e2, h2, h3⟩ := markIntS_f o (by omega) (l.length + 602) (by omega)
    rw [e2]
    simp only [Option.bind_some]
    rw [heldIntS_f o' (by omega) h3 _ (by omega)]
    simp only [Option.bind_some]
    rw [if_neg (by omega), if_pos (by omega), toIntS_f l hl _ (by omega)]
    simp only [Option.bind_some]
    rw [hI _ (by omega)]
    simp only [Option.bind_some]
    rw [eqIntS_f o (by omega) _ (by omega)]
    simp only [Option.bind_some, if_true, bne_self_eq_false]
    rw [show l.length + 602 = (l.length + 601) + 1 from rfl, laws_FnExactShapeNoise.j2, if_neg (by simp), heldIntS_f o' (by omega) h3 _ (by omega)]
    simp only [Option.bind_some]
    rw [if_neg (by omega), if_pos (by omega)]

end Go.Proofs.Ytbjnggnlflofbaa.Pure
