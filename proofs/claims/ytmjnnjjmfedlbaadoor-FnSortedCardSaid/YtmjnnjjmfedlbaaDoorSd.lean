/-
  Plain laws for FnSorted: the best of a list by its key; the matching of a sorted list with the list it came of.
-/
import Derived.Test.YtmjnnjjmfedlbaaDoorMf
namespace Go.Proofs.YtmjnnjjmfedlbaaDoor
set_option linter.unusedSimpArgs false
set_option linter.unusedVariables false
open Go.Fl (fl isNan feq)

theorem ahead_gr {x b : Nat} : ahead 1 (cn x) (cn b) = decide (kw b < kw x) := by
  unfold ahead
  rw [ord_key]
  by_cases h : keyB (cn x) < keyB (cn b)
  · rw [if_pos h, decide_eq_false (show ¬ (0 < (-1 : Int) * 1) by decide), decide_eq_false (show ¬ (kw b < kw x) by unfold kw; omega)]
  · rw [if_neg h]
    by_cases h1 : keyB (cn x) = keyB (cn b)
    · rw [if_pos h1, decide_eq_false (show ¬ (0 < (0 : Int) * 1) by decide), decide_eq_false (show ¬ (kw b < kw x) by unfold kw; omega)]
    · rw [if_neg h1, decide_eq_true (show (0 < (1 : Int) * 1) by decide), decide_eq_true (show (kw b < kw x) by unfold kw; omega)]
theorem ahead_le {x b : Nat} : ahead (-1) (cn x) (cn b) = decide (kw x < kw b) := by
  unfold ahead
  rw [ord_key]
  by_cases h : keyB (cn x) < keyB (cn b)
  · rw [if_pos h, decide_eq_true (show (0 < (-1 : Int) * (-1)) by decide), decide_eq_true (show (kw x < kw b) by unfold kw; omega)]
  · rw [if_neg h]
    by_cases h1 : keyB (cn x) = keyB (cn b)
    · rw [if_pos h1, decide_eq_false (show ¬ (0 < (0 : Int) * (-1)) by decide), decide_eq_false (show ¬ (kw x < kw b) by unfold kw; omega)]
    · rw [if_neg h1, decide_eq_false (show ¬ (0 < (1 : Int) * (-1)) by decide), decide_eq_false (show ¬ (kw x < kw b) by unfold kw; omega)]

theorem bestG_hasnan {xs : List Nat} {s : Int} : ∀ k, bestG xs s k = none → ∃ t, t < k ∧ isNan (xs.getD t 0) = true
  | 0, h => by cases h
  | k + 1, h => by
    cases hb : bestG xs s k with
    | none => obtain ⟨t, h1, h2⟩ := bestG_hasnan k hb; exact ⟨t, by omega, h2⟩
    | some b =>
      cases hn : isNan (xs.getD k 0) with
      | true => exact ⟨k, by omega, hn⟩
      | false => rw [bestG_step hb hn] at h; cases h
theorem bestG_nonan {xs : List Nat} {s : Int} {t k : Nat} (ht : t < k) (hn : isNan (xs.getD t 0) = true) : bestG xs s k = none := by
  refine bestG_none (k := t + 1) ?_ k ht
  cases hb : bestG xs s t with
  | none => exact bestG_none hb _ (by omega)
  | some b => exact bestG_nan hb hn
theorem bestG_le {xs : List Nat} : ∀ k b, bestG xs (-1) k = some b → (∃ t, (t < k ∨ t = 0) ∧ b = xs.getD t 0) ∧ ∀ t, t < k → kw b ≤ kw (xs.getD t 0)
  | 0, b, h => by
    have h : some (xs.getD 0 0) = some b := h
    injection h with h
    exact ⟨⟨0, .inr rfl, h.symm⟩, fun t ht => by omega⟩
  | k + 1, b, h => by
    cases hb : bestG xs (-1) k with
    | none => rw [bestG_none hb (k + 1) (by omega)] at h; cases h
    | some b0 =>
      obtain ⟨⟨t0, h1, h2⟩, h3⟩ := bestG_le k b0 hb
      cases hn : isNan (xs.getD k 0) with
      | true => rw [bestG_nan hb hn] at h; cases h
      | false =>
        rw [bestG_step hb hn, ahead_le] at h
        injection h with h
        by_cases hc : kw (xs.getD k 0) < kw b0
        · rw [decide_eq_true hc, if_pos rfl] at h
          subst h
          refine ⟨⟨k, .inl (by omega), rfl⟩, fun t ht => ?_⟩
          by_cases e : t = k
          · rw [e]; exact Int.le_refl _
          · have := h3 t (by omega); omega
        · rw [decide_eq_false hc, if_neg (by decide)] at h
          subst h
          refine ⟨⟨t0, by omega, h2⟩, fun t ht => ?_⟩
          by_cases e : t = k
          · rw [e]; omega
          · exact h3 t (by omega)
theorem bestG_gr {xs : List Nat} : ∀ k b, bestG xs 1 k = some b → (∃ t, (t < k ∨ t = 0) ∧ b = xs.getD t 0) ∧ ∀ t, t < k → kw (xs.getD t 0) ≤ kw b
  | 0, b, h => by
    have h : some (xs.getD 0 0) = some b := h
    injection h with h
    exact ⟨⟨0, .inr rfl, h.symm⟩, fun t ht => by omega⟩
  | k + 1, b, h => by
    cases hb : bestG xs 1 k with
    | none => rw [bestG_none hb (k + 1) (by omega)] at h; cases h
    | some b0 =>
      obtain ⟨⟨t0, h1, h2⟩, h3⟩ := bestG_gr k b0 hb
      cases hn : isNan (xs.getD k 0) with
      | true => rw [bestG_nan hb hn] at h; cases h
      | false =>
        rw [bestG_step hb hn, ahead_gr] at h
        injection h with h
        by_cases hc : kw b0 < kw (xs.getD k 0)
        · rw [decide_eq_true hc, if_pos rfl] at h
          subst h
          refine ⟨⟨k, .inl (by omega), rfl⟩, fun t ht => ?_⟩
          by_cases e : t = k
          · rw [e]; exact Int.le_refl _
          · have := h3 t (by omega); omega
        · rw [decide_eq_false hc, if_neg (by decide)] at h
          subst h
          refine ⟨⟨t0, by omega, h2⟩, fun t ht => ?_⟩
          by_cases e : t = k
          · rw [e]; omega
          · exact h3 t (by omega)

/-- Some word of the first k is no number. -/
def nanB (f : Nat → Nat) : Nat → Bool
  | 0 => false
  | k + 1 => nanB f k || isNan (f k)
theorem nanB_true {f : Nat → Nat} : ∀ {k : Nat}, nanB f k = true → ∃ t, t < k ∧ isNan (f t) = true
  | 0, h => by cases h
  | k + 1, h => by
    rcases Bool.or_eq_true_iff.1 h with h | h
    · obtain ⟨t, h1, h2⟩ := nanB_true h; exact ⟨t, by omega, h2⟩
    · exact ⟨k, by omega, h⟩
theorem nanB_false {f : Nat → Nat} : ∀ {k : Nat}, nanB f k = false → ∀ t, t < k → isNan (f t) = false
  | 0, _, t, ht => by omega
  | k + 1, h, t, ht => by
    obtain ⟨h1, h2⟩ := Bool.or_eq_false_iff.1 h
    by_cases e : t = k
    · rw [e]; exact h2
    · exact nanB_false h1 t (by omega)
theorem isNan_cn (v : Nat) : isNan (cn v) = isNan v := by
  cases h : isNan v with
  | true => rw [cn_nan h]; exact Fl.isNan_qnan
  | false => rw [cn_num h, h]
theorem kw_cn (v : Nat) : kw (cn v) = kw v := by unfold kw; rw [cn_of (cn_feq v)]

section
variable {xs : List Nat} {f : Nat → Nat}
/-- A no-number in the sorted list: the least of the list is none either. -/
theorem best_nan {s : Int} (hp : PermOn 0 xs.length (fun t => cn (xs.getD t 0)) f) (h0 : xs.length ≠ 0) (h1 : xs.length ≤ 200) (hn : nanB f xs.length = true) : bestV xs s = 9221120237041090560 := by
  obtain ⟨t, ht, hn⟩ := nanB_true hn
  obtain ⟨j, hj, he⟩ := hp.src ⟨Nat.zero_le _, ht⟩
  rw [he] at hn
  have hn : isNan (cn (xs.getD j 0)) = true := hn
  rw [isNan_cn] at hn
  unfold bestV
  rw [if_neg (by omega), bestG_nonan hj.2 hn]
theorem best_num {s : Int} (hp : PermOn 0 xs.length (fun t => cn (xs.getD t 0)) f) (h0 : xs.length ≠ 0) (h1 : xs.length ≤ 200) (hn : nanB f xs.length = false) : ∃ b, bestG xs s xs.length = some b ∧ bestV xs s = b := by
  cases hb : bestG xs s xs.length with
  | none =>
    obtain ⟨t, ht, hn'⟩ := bestG_hasnan _ hb
    obtain ⟨j, hj, he⟩ := hp.symm.src (i := t) ⟨Nat.zero_le _, ht⟩
    have := nanB_false hn j hj.2
    rw [← he] at this
    have this : isNan (cn (xs.getD t 0)) = false := this
    rw [isNan_cn, hn'] at this
    cases this
  | some b => exact ⟨b, rfl, by unfold bestV; rw [if_neg (by omega), hb]⟩
theorem best_least (hp : PermOn 0 xs.length (fun t => cn (xs.getD t 0)) f) (hs : SortOn 0 xs.length f) (h0 : xs.length ≠ 0) (h1 : xs.length ≤ 200) (hn : nanB f xs.length = false) : cn (bestV xs (-1)) = cn (f 0) ∧ ∃ t, bestV xs (-1) = xs.getD t 0 := by
  obtain ⟨b, hb, hv⟩ := best_num (s := -1) hp h0 h1 hn
  obtain ⟨⟨t, ht, e⟩, hle⟩ := bestG_le _ _ hb
  rw [hv]
  refine ⟨keyB_inj ?_, t, e⟩
  show kw b = kw (f 0)
  have ht : t < xs.length := by omega
  obtain ⟨j, hj, he⟩ := hp.symm.src (i := t) ⟨Nat.zero_le _, ht⟩
  obtain ⟨m, hm, hf⟩ := hp.src (i := 0) ⟨Nat.zero_le _, by omega⟩
  have k1 := hs 0 j (Nat.zero_le _) (Nat.zero_le _) hj.2
  rw [← he] at k1
  have k1 : kw (f 0) ≤ kw (cn (xs.getD t 0)) := k1
  have k2 := hle m hm.2
  have k3 : kw (f 0) = kw (cn (xs.getD m 0)) := congrArg kw hf
  rw [kw_cn] at k1 k3
  rw [← e] at k1
  omega
theorem best_greatest (hp : PermOn 0 xs.length (fun t => cn (xs.getD t 0)) f) (hs : SortOn 0 xs.length f) (h0 : xs.length ≠ 0) (h1 : xs.length ≤ 200) (hn : nanB f xs.length = false) : cn (bestV xs 1) = cn (f (xs.length - 1)) ∧ ∃ t, bestV xs 1 = xs.getD t 0 := by
  obtain ⟨b, hb, hv⟩ := best_num (s := 1) hp h0 h1 hn
  obtain ⟨⟨t, ht, e⟩, hle⟩ := bestG_gr _ _ hb
  rw [hv]
  refine ⟨keyB_inj ?_, t, e⟩
  show kw b = kw (f (xs.length - 1))
  have ht : t < xs.length := by omega
  obtain ⟨j, hj, he⟩ := hp.symm.src (i := t) ⟨Nat.zero_le _, ht⟩
  obtain ⟨m, hm, hf⟩ := hp.src (i := xs.length - 1) ⟨Nat.zero_le _, by omega⟩
  have k1 := hs j (xs.length - 1) (Nat.zero_le _) (by omega) (by omega)
  rw [← he] at k1
  have k1 : kw (cn (xs.getD t 0)) ≤ kw (f (xs.length - 1)) := k1
  have k2 := hle m hm.2
  have k3 : kw (f (xs.length - 1)) = kw (cn (xs.getD m 0)) := congrArg kw hf
  rw [kw_cn] at k1 k3
  rw [← e] at k1
  omega
end

/-- The first i of f are matched with places of F that u marks. -/
def Used (N : Nat) (F f : Nat → Nat) (i : Nat) (u : Nat → Bool) : Prop := ∃ s t : Nat → Nat, (∀ k, t (s k) = k) ∧ (∀ k, s (t k) = k) ∧ (∀ k, N ≤ k → s k = k) ∧ (∀ k, f k = F (s k)) ∧ ∀ j, j < N → u j = decide (t j < i)
theorem Used.start {N : Nat} {F f : Nat → Nat} (h : PermOn 0 N F f) : Used N F f 0 (fun _ => false) := by
  obtain ⟨s, t, h1, h2, h3, h4⟩ := h
  exact ⟨s, t, h1, h2, fun k hk => h3 k (.inr hk), h4, fun j _ => (decide_eq_false (by omega)).symm⟩
/-- A place not marked that holds the next word. -/
theorem Used.next {N i : Nat} {F f : Nat → Nat} {u : Nat → Bool} (h : Used N F f i u) (hi : i < N) : ∃ j, j < N ∧ u j = false ∧ F j = f i := by
  obtain ⟨s, t, h1, h2, h3, h4, h5⟩ := h
  have hs : s i < N := by
    rcases Nat.lt_or_ge (s i) N with h | h
    · exact h
    · have e : s (s i) = s i := h3 _ h
      have := congrArg t e
      rw [h1, h1] at this
      omega
  exact ⟨s i, hs, by rw [h5 _ hs, h1]; exact decide_eq_false (by omega), (h4 i).symm⟩
def updB (u : Nat → Bool) (j : Nat) : Nat → Bool := fun k => if k = j then true else u k
theorem Used.step {N i j : Nat} {F f : Nat → Nat} {u : Nat → Bool} (h : Used N F f i u) (hi : i < N) (hj : j < N) (hu : u j = false) (he : F j = f i) : Used N F f (i + 1) (updB u j) := by
  obtain ⟨s, t, h1, h2, h3, h4, h5⟩ := h
  have hk : i ≤ t j := by
    have := h5 j hj
    rw [hu] at this
    have := of_decide_eq_false this.symm
    omega
  have htN : t j < N := by
    rcases Nat.lt_or_ge (t j) N with h | h
    · exact h
    · have e := h3 _ h
      rw [h2] at e
      omega
  refine ⟨fun k => s (tr i (t j) k), fun k => tr i (t j) (t k), fun k => ?_, fun k => ?_, fun k hk2 => ?_, fun k => ?_, fun k hk2 => ?_⟩
  · show tr i (t j) (t (s (tr i (t j) k))) = k
    rw [h1, tr_tr]
  · show s (tr i (t j) (tr i (t j) (t k))) = k
    rw [tr_tr, h2]
  · show s (tr i (t j) k) = k
    rw [show tr i (t j) k = k by unfold tr; rw [if_neg (by omega), if_neg (by omega)]]
    exact h3 k hk2
  · show f k = F (s (tr i (t j) k))
    unfold tr
    by_cases e1 : k = i
    · rw [if_pos e1, h2, e1, he]
    · rw [if_neg e1]
      by_cases e2 : k = t j
      · rw [if_pos e2, ← h4 i, e2, h4 (t j), h2, he]
      · rw [if_neg e2]; exact h4 k
  · show updB u j k = decide (tr i (t j) (t k) < i + 1)
    unfold updB tr
    by_cases e : k = j
    · rw [if_pos e, e]
      by_cases e1 : t j = i
      · rw [if_pos e1, e1]; exact (decide_eq_true (by omega)).symm
      · rw [if_neg e1, if_pos rfl]; exact (decide_eq_true (by omega)).symm
    · rw [if_neg e, h5 k hk2]
      have hne : t k ≠ t j := fun h => e (by have := congrArg s h; rwa [h2, h2] at this)
      by_cases e1 : t k = i
      · rw [if_pos e1, decide_eq_false (show ¬ t k < i by omega)]
        exact (decide_eq_false (by omega)).symm
      · rw [if_neg e1, if_neg hne]
        by_cases h : t k < i
        · rw [decide_eq_true h]; exact (decide_eq_true (by omega)).symm
        · rw [decide_eq_false h]; exact (decide_eq_false (by omega)).symm
end Go.Proofs.YtmjnnjjmfedlbaaDoor
