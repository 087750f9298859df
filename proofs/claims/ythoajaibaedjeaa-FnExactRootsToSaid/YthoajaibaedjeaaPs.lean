/-
  Plain laws and words on slices of pairs: what a slice reads as, what a block holds. No condition.
-/
import Derived.Test.YthoajaibaedjeaaFs
import Derived.Deep.SlicePairs
namespace Go.Fl
open Go Go.RowKit Go.ChangeShapes Go.WideShapes Go.Deep

/-- A slice of pairs: the numbers of element i lie at 2 i and 2 i + 1. -/
def PRow (w : World) (A : Option Addr) (n c : Nat) (ps : List (Nat × Nat)) : Prop :=
  ps.length = n ∧ n ≤ c ∧ c ≤ maxLen ∧ (0 < n → ∃ b off, A = some ⟨b, off, none⟩ ∧ b < w.heap.size ∧ ∀ i, i < n → w.cell? ⟨b, off + i * 2, none⟩ = some (fl (ps.getD i (0, 0)).1) ∧ w.cell? ⟨b, off + i * 2 + 1, none⟩ = some (fl (ps.getD i (0, 0)).2))

theorem PRow.below {w w1 : World} {A : Option Addr} {n c : Nat} {ps : List (Nat × Nat)} (h : PRow w A n c ps) (hb : Below w.heap.size w w1) : PRow w1 A n c ps := by
  refine ⟨h.1, h.2.1, h.2.2.1, fun hn => ?_⟩
  obtain ⟨b, off, rfl, hlt, hc⟩ := h.2.2.2 hn
  exact ⟨b, off, rfl, Nat.lt_of_lt_of_le hlt hb.size, fun i hi => ⟨by rw [(bcell hb).1 _ _ hlt]; exact (hc i hi).1, by rw [(bcell hb).1 _ _ hlt]; exact (hc i hi).2⟩⟩

theorem Blk.off {W : World} {t : TypeId} {g g' : Nat} {cs : Array Value} (h : Blk W g t cs) (hn : g ≠ g') (i : Nat) (u : Value) : Blk (W.setCell ⟨g', i, none⟩ u) g t cs := by
  unfold Blk at h ⊢
  simp [World.setCell, Array.getElem?_modify, h, Ne.symm hn]

/-- The cells of a list of pairs. -/
def flat (ps : List (Nat × Nat)) : List Value := ps.flatMap fun p => [fl p.1, fl p.2]
theorem flat_length (ps : List (Nat × Nat)) : (flat ps).length = ps.length * 2 := by
  induction ps with
  | nil => rfl
  | cons p ps ih => show ([fl p.1, fl p.2] ++ flat ps).length = _; rw [List.length_append, ih]; simp; omega
theorem flat_at : ∀ (ps : List (Nat × Nat)) (i : Nat), i < ps.length → (flat ps)[i * 2]? = some (fl (ps.getD i (0, 0)).1) ∧ (flat ps)[i * 2 + 1]? = some (fl (ps.getD i (0, 0)).2)
  | [], i, h => by simp at h
  | p :: ps, 0, _ => ⟨rfl, rfl⟩
  | p :: ps, i + 1, h => by
    have ih := flat_at ps i (by simpa using h)
    have e1 : (flat (p :: ps))[(i + 1) * 2]? = (flat ps)[i * 2]? := by
      show (fl p.1 :: fl p.2 :: flat ps)[(i + 1) * 2]? = _
      rw [show (i + 1) * 2 = i * 2 + 1 + 1 from by omega]; rfl
    have e2 : (flat (p :: ps))[(i + 1) * 2 + 1]? = (flat ps)[i * 2 + 1]? := by
      show (fl p.1 :: fl p.2 :: flat ps)[(i + 1) * 2 + 1]? = _
      rw [show (i + 1) * 2 + 1 = (i * 2 + 1) + 1 + 1 from by omega]; rfl
    rw [e1, e2]
    exact ⟨by rw [ih.1]; rfl, by rw [ih.2]; rfl⟩

/-- A block that holds the pairs ps. -/
def PBlk (w : World) (g : Nat) (t : TypeId) (ps : List (Nat × Nat)) : Prop := Blk w g t (flat ps).toArray

theorem PBlk.row {w : World} {g : Nat} {t : TypeId} {ps : List (Nat × Nat)} (h : PBlk w g t ps) (hn : ps.length ≤ 1048576) : PRow w (some ⟨g, 0, none⟩) ps.length ps.length ps := by
  refine ⟨rfl, Nat.le_refl _, by unfold maxLen; omega, fun _ => ⟨g, 0, rfl, h.lt, fun i hi => ?_⟩⟩
  rw [Nat.zero_add, h.cell (i * 2), h.cell (i * 2 + 1)]
  have := flat_at ps i hi
  simpa using this

/-- The first k pairs are what they shall be. -/
def FilledP (cs : Array Value) (ps : List (Nat × Nat)) (k : Nat) : Prop := cs.size = ps.length * 2 ∧ ∀ j, j < k → cs[j * 2]? = some (fl (ps.getD j (0, 0)).1) ∧ cs[j * 2 + 1]? = some (fl (ps.getD j (0, 0)).2)

theorem FilledP.step {cs : Array Value} {ps : List (Nat × Nat)} {k : Nat} (h : FilledP cs ps k) (hk : k < ps.length) : FilledP ((cs.setIfInBounds (k * 2) (fl (ps.getD k (0, 0)).1)).setIfInBounds (k * 2 + 1) (fl (ps.getD k (0, 0)).2)) ps (k + 1) := by
  have hs := h.1
  refine ⟨by rw [Array.size_setIfInBounds, Array.size_setIfInBounds]; exact h.1, fun j hj => ?_⟩
  by_cases e : j = k
  · subst e
    refine ⟨?_, ?_⟩
    · rw [Array.getElem?_setIfInBounds_ne (by omega), Array.getElem?_setIfInBounds_self_of_lt (by omega)]
    · rw [Array.getElem?_setIfInBounds_self_of_lt (by rw [Array.size_setIfInBounds]; omega)]
  · have := h.2 j (by omega)
    refine ⟨?_, ?_⟩
    · rw [Array.getElem?_setIfInBounds_ne (by omega), Array.getElem?_setIfInBounds_ne (by omega)]; exact this.1
    · rw [Array.getElem?_setIfInBounds_ne (by omega), Array.getElem?_setIfInBounds_ne (by omega)]; exact this.2

theorem FilledP.all {cs : Array Value} {ps : List (Nat × Nat)} (h : FilledP cs ps ps.length) : cs = (flat ps).toArray := by
  apply Array.ext_getElem?
  intro j
  by_cases hj : j < ps.length * 2
  · have h1 := h.2 (j / 2) (by omega)
    have h2 := flat_at ps (j / 2) (by omega)
    rcases Nat.mod_two_eq_zero_or_one j with hm | hm
    · have e : j / 2 * 2 = j := by omega
      rw [e] at h1 h2
      rw [h1.1]; simp [h2.1]
    · have e : j / 2 * 2 + 1 = j := by omega
      rw [e] at h1 h2
      rw [h1.2]; simp [h2.2]
  · rw [Array.getElem?_eq_none (by rw [h.1]; omega), Array.getElem?_eq_none (by simp [flat_length]; omega)]

section
variable {H : Type} {enc : TypeId × Value → H} {P : Program} {w : World} {base : Nat} {spare : Nat → Bool} {held : Bool}
/-- A slice of pairs that came in: what it reads as. -/
theorem pairs_of {t e ft : TypeId} {f0 f1 : Field} {a : Option Addr} {len cap : Nat} {d : DataW H} {pl : List MemPlace} (ht : P.underlying t = some (.slice e)) (he : P.underlying e = some (.struct #[f0, f1])) (hf : P.underlying ft = some (.float .f64))
    (hc : P.cellsOf e = 2) (cf : P.cellsOf ft = 1) (o0 : f0.offset = 0) (o1 : f1.offset = 1) (t0 : f0.type = ft) (t1 : f1.type = ft)
    (h : DataW.Trod enc P w base spare held t (.slice a len cap) d pl) : ∃ ps, PRow w a len cap ps ∧ ∀ p ∈ ps, p.1 < 2 ^ 64 ∧ p.2 < 2 ^ 64 := by
  obtain ⟨fuel, hfu⟩ := h
  rcases open_slice_pairs ht he hc o0 o1 (by rw [t0]; exact cf) (by rw [t1]; exact cf) hfu with ⟨hcs, _⟩ | ⟨x, l, c, m, n, V0, V1, D0, D1, P0, P1, hcs, _, hl, hm, hmm, _, hV⟩
  · simp [Value.cells] at hcs
    obtain ⟨rfl, rfl, rfl⟩ := hcs
    exact ⟨[], ⟨rfl, Nat.le_refl _, Nat.zero_le _, fun h => absurd h (by omega)⟩, by simp⟩
  · simp [Value.cells] at hcs
    obtain ⟨rfl, rfl, rfl⟩ := hcs
    have hlm : len ≤ m := by rw [hmm]; split <;> omega
    have key : ∀ i, i < len → ∃ p : Nat × Nat, V0 i = fl p.1 ∧ V1 i = fl p.2 ∧ p.1 < 2 ^ 64 ∧ p.2 < 2 ^ 64 := by
      intro i hi
      obtain ⟨_, _, h0, h1⟩ := hV i (by omega)
      rw [t0] at h0
      rw [t1] at h1
      obtain ⟨b0, g1, _, g3⟩ := trod_float hf h0
      obtain ⟨b1, k1, _, k3⟩ := trod_float hf h1
      exact ⟨(b0, b1), g1, k1, lt_of_wf g3, lt_of_wf k3⟩
    obtain ⟨F, hF⟩ : ∃ F : Nat → Nat × Nat, ∀ i, i < len → V0 i = fl (F i).1 ∧ V1 i = fl (F i).2 ∧ (F i).1 < 2 ^ 64 ∧ (F i).2 < 2 ^ 64 := by
      refine ⟨fun i => if h : i < len then (key i h).choose else (0, 0), fun i hi => ?_⟩
      simp only [hi, dif_pos]
      exact (key i hi).choose_spec
    refine ⟨(List.range len).map F, ⟨by simp, hl, hm, fun hp => ?_⟩, ?_⟩
    · obtain ⟨b, off, spot⟩ := x
      have h0 := (hV 0 (by omega)).1
      have hspot : spot = none := by simpa [Addr.add] using World.cell?_spot h0
      subst hspot
      refine ⟨b, off, rfl, ?_, fun i hi => ?_⟩
      · have := World.block_lt_of_cell? w _ h0
        simpa [Addr.add] using this
      · have hi' := hV i (by omega)
        have e2 : ∀ k, (Addr.mk b off none).add k = ⟨b, off + k, none⟩ := by
          intro k
          unfold Addr.add
          by_cases e0 : k = 0
          · simp [e0]
          · simp [e0]
        refine ⟨?_, ?_⟩
        · have := hi'.1
          rw [(hF i hi).1, e2] at this
          rw [this]; simp [hi]
        · have := hi'.2.1
          rw [(hF i hi).2.1, e2, ← Nat.add_assoc] at this
          rw [this]; simp [hi]
    · intro x hx
      simp only [List.mem_map, List.mem_range] at hx
      obtain ⟨i, hi, rfl⟩ := hx
      exact (hF i hi).2.2
end
end Go.Fl
