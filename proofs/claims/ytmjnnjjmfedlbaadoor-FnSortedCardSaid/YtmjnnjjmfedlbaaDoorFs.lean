/-
  Plain laws and words on slices of floats: what a slice reads as, what a block holds, folds. No condition.
-/
import Derived.Test.YtmjnnjjmfedlbaaDoorFl
import Derived.Lib.Hide
import Derived.Deep.Slices
import Derived.Deep.Fields
import Derived.ChangeSame
import Derived.Laws.MakeOwn
import Derived.Laws.OwnMore
import Derived.Laws.Rows
import Derived.ProofKit
namespace Go.Fl
open Go Go.RowKit Go.ChangeShapes Go.WideShapes Go.Deep

/-- A slice whose elements are the values f 0, f 1, .. -/
def Row (w : World) (A : Option Addr) (n c : Nat) (f : Nat → Value) : Prop :=
  n ≤ c ∧ c ≤ maxLen ∧ (0 < n → ∃ b off, A = some ⟨b, off, none⟩ ∧ b < w.heap.size ∧ ∀ i, i < n → w.cell? ⟨b, off + i, none⟩ = some (f i))

def FRow (w : World) (A : Option Addr) (n c : Nat) (xs : List Nat) : Prop := xs.length = n ∧ Row w A n c (fun i => fl (xs.getD i 0))

theorem Row.below {w w1 : World} {A : Option Addr} {n c : Nat} {f : Nat → Value} (h : Row w A n c f) (hb : Below w.heap.size w w1) : Row w1 A n c f := by
  refine ⟨h.1, h.2.1, fun hn => ?_⟩
  obtain ⟨b, off, rfl, hlt, hc⟩ := h.2.2 hn
  exact ⟨b, off, rfl, Nat.lt_of_lt_of_le hlt hb.size, fun i hi => by rw [(bcell hb).1 _ _ hlt]; exact hc i hi⟩

theorem FRow.below {w w1 : World} {A : Option Addr} {n c : Nat} {xs : List Nat} (h : FRow w A n c xs) (hb : Below w.heap.size w w1) : FRow w1 A n c xs := ⟨h.1, h.2.below hb⟩

/-- A block that is known whole. -/
def Blk (w : World) (g : Nat) (t : TypeId) (cs : Array Value) : Prop := w.heap[g]? = some (.cells cs t (0, 0))

section
variable {w w' : World} {g : Nat} {t : TypeId} {cs : Array Value}
theorem Blk.lt (h : Blk w g t cs) : g < w.heap.size := by
  rcases Nat.lt_or_ge g w.heap.size with hlt | hge
  · exact hlt
  · unfold Blk at h; rw [Array.getElem?_eq_none hge] at h; cases h
theorem Blk.cell (h : Blk w g t cs) (i : Nat) : w.cell? ⟨g, i, none⟩ = cs[i]? := cell_of_row w g i cs t (0, 0) h
theorem Blk.frozen (h : Blk w g t cs) (i : Nat) : w.frozen? ⟨g, i, none⟩ = false := by
  unfold Blk at h
  simp [World.frozen?, h]
theorem Blk.new (w : World) (t : TypeId) (cs : Array Value) : Blk (w.alloc (.cells cs t)) w.heap.size t cs := heap_alloc_new w _
theorem Blk.drewN (h : Blk w g t cs) (n : Nat) : Blk (w.drewN n) g t cs := h
theorem Blk.alloc (h : Blk w g t cs) (o : Obj) : Blk (w.alloc o) g t cs := (Below.heap_alloc w o g h.lt).trans h
theorem Blk.set_ (h : Blk w g t cs) (i : Nat) (u : Value) : Blk (w.setCell ⟨g, i, none⟩ u) g t (cs.setIfInBounds i u) := by
  unfold Blk at h ⊢
  simp [World.setCell, Array.getElem?_modify, h]
theorem Blk.below {B : Nat} (h : Blk w g t cs) (hb : Below B w w') (hg : g < B) : Blk w' g t cs := (hb.block g hg).trans h
end

theorem size_made (n : Nat) (z : Array Value) : (madeCells z n).size = n := size_madeCells z n
section
variable {H : Type} {enc : TypeId × Value → H} {P : Program} {w : World} {base : Nat} {spare : Nat → Bool} {held : Bool}
/-- A slice of floats that came in: what it reads as. -/
theorem floats_of {t e : TypeId} {a : Option Addr} {len cap : Nat} {d : DataW H} {ps : List MemPlace} (ht : P.underlying t = some (.slice e)) (he : P.underlying e = some (.float .f64)) (hc : P.cellsOf e = 1)
    (h : DataW.Trod enc P w base spare held t (.slice a len cap) d ps) : ∃ zs, FRow w a len cap zs ∧ ∀ x ∈ zs, x < 2 ^ 64 := by
  obtain ⟨fuel, hf⟩ := h
  rcases open_slice1 ht hc hf with ⟨hcs, _⟩ | ⟨x, l, c, m, n, V, D, Pl, hcs, _, hl, hm, hmm, _, hV⟩
  · simp [Value.cells] at hcs
    obtain ⟨rfl, rfl, rfl⟩ := hcs
    exact ⟨[], ⟨rfl, Nat.le_refl _, Nat.zero_le _, fun h => absurd h (by omega)⟩, by simp⟩
  · simp [Value.cells] at hcs
    obtain ⟨rfl, rfl, rfl⟩ := hcs
    have hlm : len ≤ m := by rw [hmm]; split <;> omega
    have key : ∀ i, i < len → ∃ b, V i = fl b ∧ b < 2 ^ 64 := by
      intro i hi
      obtain ⟨b, h1, _, h3⟩ := trod_float he (hV i (by omega)).2
      exact ⟨b, h1, lt_of_wf h3⟩
    obtain ⟨F, hF⟩ : ∃ F : Nat → Nat, ∀ i, i < len → V i = fl (F i) ∧ F i < 2 ^ 64 := by
      refine ⟨fun i => if h : i < len then (key i h).choose else 0, fun i hi => ?_⟩
      simp only [hi, dif_pos]
      exact (key i hi).choose_spec
    refine ⟨(List.range len).map F, ⟨by simp, hl, hm, fun hp => ?_⟩, ?_⟩
    · obtain ⟨b, off, spot⟩ := x
      have h0 := (hV 0 (by omega)).1
      have hspot : spot = none := by simpa [Addr.add] using World.cell?_spot h0
      subst hspot
      refine ⟨b, off, rfl, ?_, fun i hi => ?_⟩
      · have := World.block_lt_of_cell? w _ h0
        simpa [Addr.add] using this
      · have hi' := (hV i (by omega)).1
        rw [(hF i hi).1] at hi'
        have e2 : (Addr.mk b off none).add i = ⟨b, off + i, none⟩ := by
          unfold Addr.add
          by_cases e0 : i = 0
          · simp [e0]
          · simp [e0]
        rw [e2] at hi'
        rw [hi']
        simp [hi]
    · intro x hx
      simp only [List.mem_map, List.mem_range] at hx
      obtain ⟨i, hi, rfl⟩ := hx
      exact (hF i hi).2
end
end Go.Fl
