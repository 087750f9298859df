/-
  Sorting, the plain part: words under a whole key; rearrangements of a stretch; a sorted rearrangement is the only one.
-/
import Derived.Test.YtmjnnjjmfedlbaaDoorGr
namespace Go.Proofs.YtmjnnjjmfedlbaaDoor
set_option linter.unusedSimpArgs false
set_option linter.unusedVariables false
open Go.Fl (fl isNan feq)

/-- The place of bits in the order of a float64's bits. -/
def keyB (b : Nat) : Int := if b < 9223372036854775808 then b else 9223372036854775807 - b
/-- The place of a word. -/
def kw (v : Nat) : Int := keyB (cn v)
theorem cmpS_key {a b : Nat} : cmpS 9223372036854775808 a b = if keyB a < keyB b then -1 else if keyB a = keyB b then 0 else 1 := by
  unfold cmpS keyB
  (repeat' split) <;> omega
theorem keyB_inj {a b : Nat} (h : keyB a = keyB b) : a = b := by
  unfold keyB at h
  (repeat' split at h) <;> omega
theorem ord_key {a b : Nat} : ordV 3 a b = if keyB a < keyB b then -1 else if keyB a = keyB b then 0 else 1 := by
  rw [show ordV 3 a b = cmpS 9223372036854775808 a b by unfold ordV; rw [if_pos (by simp [okB])]; rfl, cmpS_key]
theorem ord_lt {a b : Nat} : decide (ordV 3 a b < 0) = decide (keyB a < keyB b) := by
  rw [ord_key]
  by_cases h : keyB a < keyB b
  · rw [if_pos h]; simp [h]
  · rw [if_neg h]; by_cases h1 : keyB a = keyB b
    · rw [if_pos h1]; simp [h]
    · rw [if_neg h1]; simp [h]
theorem kw_feq {a b : Nat} (h : kw a = kw b) : feq a b := by
  have h1 : cn a = cn b := keyB_inj h
  exact (cn_feq a).symm.trans (h1 ▸ cn_feq b)

def upd (f : Nat → Nat) (i v : Nat) : Nat → Nat := fun j => if j = i then v else f j
def swp (f : Nat → Nat) (i j : Nat) : Nat → Nat := fun t => if t = i then f j else if t = j then f i else f t
/-- g is f rearranged within the stretch from a to b. -/
def PermOn (a b : Nat) (f g : Nat → Nat) : Prop := ∃ s t : Nat → Nat, (∀ i, t (s i) = i) ∧ (∀ i, s (t i) = i) ∧ (∀ i, i < a ∨ b ≤ i → s i = i) ∧ ∀ i, g i = f (s i)
theorem PermOn.refl (a b : Nat) (f : Nat → Nat) : PermOn a b f f := ⟨id, id, fun _ => rfl, fun _ => rfl, fun _ _ => rfl, fun _ => rfl⟩
theorem PermOn.trans {a b : Nat} {f g h : Nat → Nat} (p : PermOn a b f g) (q : PermOn a b g h) : PermOn a b f h := by
  obtain ⟨s, t, h1, h2, h3, h4⟩ := p
  obtain ⟨u, v, k1, k2, k3, k4⟩ := q
  exact ⟨fun i => s (u i), fun i => v (t i), fun i => by show v (t (s (u i))) = i; rw [h1, k1], fun i => by show s (u (v (t i))) = i; rw [k2, h2], fun i hi => by show s (u i) = i; rw [k3 i hi, h3 i hi], fun i => by rw [k4, h4]⟩
theorem PermOn.mono {a b a' b' : Nat} {f g : Nat → Nat} (p : PermOn a b f g) (ha : a' ≤ a) (hb : b ≤ b') : PermOn a' b' f g := by
  obtain ⟨s, t, h1, h2, h3, h4⟩ := p
  exact ⟨s, t, h1, h2, fun i hi => h3 i (by omega), h4⟩
theorem PermOn.out {a b i : Nat} {f g : Nat → Nat} (p : PermOn a b f g) (hi : i < a ∨ b ≤ i) : g i = f i := by
  obtain ⟨s, t, h1, h2, h3, h4⟩ := p
  rw [h4, h3 i hi]
def tr (i j t : Nat) : Nat := if t = i then j else if t = j then i else t
theorem tr_tr (i j t : Nat) : tr i j (tr i j t) = t := by
  unfold tr
  (repeat' split) <;> omega
theorem PermOn.swap {a b i j : Nat} (f : Nat → Nat) (hi : a ≤ i ∧ i < b) (hj : a ≤ j ∧ j < b) : PermOn a b f (swp f i j) := by
  refine ⟨tr i j, tr i j, tr_tr i j, tr_tr i j, ?_, ?_⟩
  · intro t ht
    unfold tr
    rw [if_neg (by omega), if_neg (by omega)]
  · intro t
    unfold swp tr
    split
    · rfl
    · split <;> rfl
/-- Every element of the rearranged stretch stood in the stretch, and the other way round. -/
theorem PermOn.src {a b i : Nat} {f g : Nat → Nat} (p : PermOn a b f g) (hi : a ≤ i ∧ i < b) : ∃ j, (a ≤ j ∧ j < b) ∧ g i = f j := by
  obtain ⟨s, t, h1, h2, h3, h4⟩ := p
  refine ⟨s i, ?_, h4 i⟩
  rcases Nat.lt_or_ge (s i) a with h | h
  · have := h3 (s i) (.inl h); have := h1 (s i); rw [h1] at *; have e : s (s i) = s i := h3 (s i) (.inl h); have := congrArg t e; rw [h1, h1] at this; omega
  · rcases Nat.lt_or_ge (s i) b with h' | h'
    · exact ⟨h, h'⟩
    · have e : s (s i) = s i := h3 (s i) (.inr h'); have := congrArg t e; rw [h1, h1] at this; omega
theorem PermOn.symm {a b : Nat} {f g : Nat → Nat} (p : PermOn a b f g) : PermOn a b g f := by
  obtain ⟨s, t, h1, h2, h3, h4⟩ := p
  exact ⟨t, s, h2, h1, fun i hi => by have := h3 i hi; have h := h1 i; rw [this] at h; exact h, fun i => by rw [h4, h2]⟩

def SortOn (a b : Nat) (f : Nat → Nat) : Prop := ∀ i j, a ≤ i → i ≤ j → j < b → kw (f i) ≤ kw (f j)

/-- n + 1 places do not go into n. -/
theorem pigeon : ∀ (n : Nat) (s : Nat → Nat), (∀ i j, i ≤ n → j ≤ n → s i = s j → i = j) → (∀ i, i ≤ n → s i < n) → False
  | 0, s, _, h2 => by have := h2 0 (Nat.le_refl _); omega
  | n + 1, s, h1, h2 => by
    refine pigeon n (fun i => if s i = n then s (n + 1) else s i) ?_ ?_
    · intro i j hi hj h
      have h' : (if s i = n then s (n + 1) else s i) = (if s j = n then s (n + 1) else s j) := h
      split at h'
      · rename_i e1
        split at h'
        · rename_i e2; exact h1 i j (by omega) (by omega) (e1.trans e2.symm)
        · have := h1 (n + 1) j (by omega) (by omega) h'; omega
      · split at h'
        · have := h1 i (n + 1) (by omega) (by omega) h'; omega
        · exact h1 i j (by omega) (by omega) h'
    · intro i hi
      show (if s i = n then s (n + 1) else s i) < n
      have a1 := h2 i (by omega)
      have a2 := h2 (n + 1) (by omega)
      split
      · rename_i e1
        have : s (n + 1) ≠ n := fun e => by have := h1 i (n + 1) (by omega) (by omega) (e1.trans e.symm); omega
        omega
      · omega

/-- Two sorted rearrangements of one stretch have the same places. -/
theorem sorted_one {n : Nat} {f g h : Nat → Nat} (p : PermOn 0 n f g) (q : PermOn 0 n f h) (sg : SortOn 0 n g) (sh : SortOn 0 n h) : ∀ i, i < n → kw (g i) = kw (h i) := by
  have le : ∀ {g h : Nat → Nat}, PermOn 0 n g h → SortOn 0 n g → SortOn 0 n h → ∀ i, i < n → ¬ kw (g i) < kw (h i) := by
    intro g h p sg sh i hi hlt
    obtain ⟨s, t, h1, h2, h3, h4⟩ := p.symm
    -- g j = h (s j): the first i + 1 of g lie below h i, so s carries them below i
    refine pigeon i s (fun a b _ _ e => by have := congrArg t e; rw [h1, h1] at this; exact this) (fun j hj => ?_)
    rcases Nat.lt_or_ge (s j) i with hs | hs
    · exact hs
    · exfalso
      have hsn : s j < n := by
        rcases Nat.lt_or_ge (s j) n with h | h
        · exact h
        · have e : s (s j) = s j := h3 (s j) (.inr h)
          have := congrArg t e
          rw [h1, h1] at this
          omega
      have k1 := sh i (s j) (Nat.zero_le _) hs hsn
      have k2 := sg j i (Nat.zero_le _) hj hi
      rw [h4 j] at k2
      omega
  intro i hi
  have pg : PermOn 0 n g h := p.symm.trans q
  have a1 := le pg sg sh i hi
  have a2 := le pg.symm sh sg i hi
  omega
end Go.Proofs.YtmjnnjjmfedlbaaDoor
