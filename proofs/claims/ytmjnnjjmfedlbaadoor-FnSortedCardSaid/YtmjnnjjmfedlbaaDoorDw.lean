/-
  Words for the drawing functions: a slice of whole numbers as it reads, a block known whole, what a call kept. No condition.
-/
import Derived.Test.YtmjnnjjmfedlbaaDoorProg
import Derived.WalkKit
import Derived.ProofKit
import Derived.Below
import Derived.Lib.Hide
import Derived.Deep.Slices
import Derived.Deep.Fields
import Derived.Laws.MakeOwn
import Derived.Laws.OwnMore
import Derived.Laws.Rows
import Derived.Laws.BitsLemmas
import Derived.IntWalk
import Derived.Deep.RegionHeld3
import Derived.Deep.QuietTactic
import Derived.BigQuiet
import Derived.KernelRfl
import Derived.Tactics
namespace Go.Dr
open Go Go.RowKit Go.Deep
set_option linter.unusedSimpArgs false
set_option linter.unusedVariables false

/-- A slice of whole numbers: what it reads as. -/
def IRow (k : IntKind) (w : World) (A : Option Addr) (n c : Nat) (xs : List Int) : Prop :=
  xs.length = n ∧ n ≤ c ∧ c ≤ maxLen ∧ (0 < n → ∃ b off, A = some ⟨b, off, none⟩ ∧ b < w.heap.size ∧ ∀ i, i < n → w.cell? ⟨b, off + i, none⟩ = some (.int k (xs.getD i 0)))

theorem IRow.below {k : IntKind} {w w1 : World} {A : Option Addr} {n c : Nat} {xs : List Int} (h : IRow k w A n c xs) (hb : Below w.heap.size w w1) : IRow k w1 A n c xs := by
  refine ⟨h.1, h.2.1, h.2.2.1, fun hn => ?_⟩
  obtain ⟨b, off, rfl, hlt, hc⟩ := h.2.2.2 hn
  exact ⟨b, off, rfl, Nat.lt_of_lt_of_le hlt hb.size, fun i hi => by rw [hb.cell (p := ⟨b, off + i, none⟩) hlt]; exact hc i hi⟩

theorem IRow.at_ {k : IntKind} {w : World} {b off n c i : Nat} {xs : List Int} (h : IRow k w (some ⟨b, off, none⟩) n c xs) (hi : i < n) : w.cell? ⟨b, off + i, none⟩ = some (.int k (xs.getD i 0)) := by
  obtain ⟨b1, off1, e, _, hc⟩ := h.2.2.2 (by omega)
  cases e
  exact hc i hi

/-- A block that is known whole. -/
def Blk (w : World) (g : Nat) (t : TypeId) (cs : Array Value) : Prop := w.heap[g]? = some (.cells cs t (0, 0))

section
variable {w w' : World} {g : Nat} {t : TypeId} {cs : Array Value}
theorem Blk.lt (h : Blk w g t cs) : g < w.heap.size := by
  rcases Nat.lt_or_ge g w.heap.size with hlt | hge
  · exact hlt
  · unfold Blk at h; rw [Array.getElem?_eq_none hge] at h; cases h
theorem Blk.cell (h : Blk w g t cs) (i : Nat) : w.cell? ⟨g, i, none⟩ = cs[i]? := cell_of_row w g i cs t (0, 0) h
theorem Blk.frozen (h : Blk w g t cs) (i : Nat) : w.frozen? ⟨g, i, none⟩ = false := by
  unfold Blk at h
  simp [World.frozen?, h]
theorem Blk.new (w : World) (t : TypeId) (cs : Array Value) : Blk (w.alloc (.cells cs t)) w.heap.size t cs := heap_alloc_new w _
theorem Blk.drewN (h : Blk w g t cs) (n : Nat) : Blk (w.drewN n) g t cs := h
theorem Blk.alloc (h : Blk w g t cs) (o : Obj) : Blk (w.alloc o) g t cs := (Below.heap_alloc w o g h.lt).trans h
theorem Blk.set_ (h : Blk w g t cs) (i : Nat) (u : Value) : Blk (w.setCell ⟨g, i, none⟩ u) g t (cs.setIfInBounds i u) := by
  unfold Blk at h ⊢
  simp [World.setCell, Array.getElem?_modify, h]
theorem Blk.below {B : Nat} (h : Blk w g t cs) (hb : Below B w w') (hg : g < B) : Blk w' g t cs := (hb.block g hg).trans h
end

theorem below_drewN {B : Nat} {w w' : World} (h : Below B w w') (n : Nat) : Below B w (w'.drewN n) := ⟨h.os, h.tape, h.output, h.size, h.block⟩

/-- Of the blocks that were there only g has turned. -/
def Kp (w w' : World) (g : Nat) : Prop := w.heap.size ≤ w'.heap.size ∧ ∀ i, i < w.heap.size → i ≠ g → w'.heap[i]? = w.heap[i]?
section
variable {w w1 w2 : World} {g : Nat}
theorem Kp.refl (w : World) (g : Nat) : Kp w w g := ⟨Nat.le_refl _, fun _ _ _ => rfl⟩
theorem Kp.trans (h : Kp w w1 g) (k : Kp w1 w2 g) : Kp w w2 g := ⟨Nat.le_trans h.1 k.1, fun i hi hn => (k.2 i (Nat.lt_of_lt_of_le hi h.1) hn).trans (h.2 i hi hn)⟩
theorem Kp.below {B : Nat} (h : Kp w w1 g) (k : Below B w1 w2) (hB : w1.heap.size ≤ B) : Kp w w2 g := h.trans ⟨k.size, fun i hi _ => k.block i (Nat.lt_of_lt_of_le hi hB)⟩
theorem Kp.set_ (h : Kp w w1 g) (j : Nat) (u : Value) : Kp w (w1.setCell ⟨g, j, none⟩ u) g :=
  h.trans ⟨by simp [World.setCell], fun i _ hn => Below.heap_setCell w1 _ u i hn⟩
theorem Kp.drewN (h : Kp w w1 g) (n : Nat) : Kp w (w1.drewN n) g := h
theorem Kp.blk {b : Nat} {t : TypeId} {cs : Array Value} (h : Kp w w1 g) (hb : Blk w b t cs) (hn : b ≠ g) : Blk w1 b t cs := (h.2 b hb.lt hn).trans hb
theorem Kp.cell (h : Kp w w1 g) {p : Addr} (hl : p.block < w.heap.size) (hn : p.block ≠ g) : w1.cell? p = w.cell? p := World.cell?_of_block (w := w) (h.2 p.block hl hn)
/-- A row that does not lie in g reads as before. -/
theorem Kp.row {k : IntKind} {A : Option Addr} {n c : Nat} {xs : List Int} (h : Kp w w1 g) (hr : IRow k w A n c xs) (hn : ∀ a, A = some a → a.block ≠ g) : IRow k w1 A n c xs := by
  refine ⟨hr.1, hr.2.1, hr.2.2.1, fun hp => ?_⟩
  obtain ⟨b, off, rfl, hlt, hc⟩ := hr.2.2.2 hp
  exact ⟨b, off, rfl, Nat.lt_of_lt_of_le hlt h.1, fun i hi => by rw [h.cell (p := ⟨b, off + i, none⟩) hlt (hn ⟨b, off, none⟩ rfl)]; exact hc i hi⟩
end

theorem wf64 {a : Int} (h : (Lit.int .i64 a).wf = true) : -9223372036854775808 ≤ a ∧ a ≤ 9223372036854775807 := by
  simp only [Lit.wf, Bool.and_eq_true, decide_eq_true_eq] at h
  exact h
theorem wrap_id {n : Int} (h1 : -9223372036854775808 ≤ n) (h2 : n ≤ 9223372036854775807) : wrap64 n = n := IntWalk.wrap64_in n ⟨h1, h2⟩

theorem getD_mem {l : List Int} {k : Nat} (h : k < l.length) : l.getD k 0 ∈ l := by
  have : l.getD k 0 = l[k] := by simp [List.getD_eq_getElem?_getD, h]
  rw [this]; exact List.getElem_mem _

theorem and255 (n : Int) : Go.bits .and .i64 n 255 = n % 256 := by
  have h1 : (BitVec.ofInt 64 255).toNat = 2 ^ 8 - 1 := by decide
  have key : (BitVec.ofInt 64 n &&& BitVec.ofInt 64 255).toNat = (n % ((2 ^ 64 : Nat) : Int)).toNat % 2 ^ 8 := by
    rw [BitVec.toNat_and, BitVec.toNat_ofInt, h1, Nat.and_two_pow_sub_one_eq_mod]
  show IntKind.i64.wrap ((BitVec.ofInt 64 n &&& BitVec.ofInt 64 255).toNat : Nat) = n % 256
  rw [key, IntKind.wrap_i64]
  omega
end Go.Dr
