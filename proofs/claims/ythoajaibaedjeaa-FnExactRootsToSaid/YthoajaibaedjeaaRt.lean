/-
  RootsTo: the plain law, and append as a step of a region.
-/
import Derived.Test.YthoajaibaedjeaaA
import Derived.Test.YthoajaibaedjeaaPt
import Derived.Test.YthoajaibaedjeaaOp
import Derived.Deep.AppendLies
namespace Go.Proofs.Ythoajaibaedjeaa
set_option linter.unusedSimpArgs false
set_option linter.unusedVariables false
open Go.RowKit
open Go.Fl (PRow flat fl pr peq mulP difP sumP flat_at flat_length)
open Go.Dr (Blk Kp)

abbrev one : Nat := 4607182418800017408
def prevP (xs : List (Nat × Nat)) (j : Nat) : Nat × Nat := if j = 0 then (0, 0) else xs.getD (j - 1) (0, 0)
/-- The first k of the next row. -/
def rowT (p : Nat × Nat) (xs : List (Nat × Nat)) (k : Nat) : List (Nat × Nat) := (List.range k).map fun j => difP (prevP xs j) (mulP p (xs.getD j (0, 0)))
def nextP (p : Nat × Nat) (xs : List (Nat × Nat)) : List (Nat × Nat) := rowT p xs xs.length ++ [(one, 0)]
def rootsK (ps : List (Nat × Nat)) : Nat → List (Nat × Nat)
  | 0 => [(one, 0)]
  | i + 1 => nextP (ps.getD i (0, 0)) (rootsK ps i)

theorem rowT_succ (p : Nat × Nat) (xs : List (Nat × Nat)) (k : Nat) : rowT p xs (k + 1) = rowT p xs k ++ [difP (prevP xs k) (mulP p (xs.getD k (0, 0)))] := by
  simp [rowT, List.range_succ]
theorem rowT_length (p : Nat × Nat) (xs : List (Nat × Nat)) (k : Nat) : (rowT p xs k).length = k := by simp [rowT]
theorem roots_length (ps : List (Nat × Nat)) : ∀ i, (rootsK ps i).length = i + 1
  | 0 => rfl
  | i + 1 => by rw [rootsK, nextP, List.length_append, rowT_length, roots_length ps i]; rfl
theorem pleq.app {xs ys : List (Nat × Nat)} {a b : Nat × Nat} (h : pleq xs ys) (e : peq a b) : pleq (xs ++ [a]) (ys ++ [b]) := by
  refine ⟨by simp [h.1], fun j hj => ?_⟩
  have hl := h.1
  simp only [List.length_append, List.length_singleton] at hj
  by_cases hlt : j < xs.length
  · rw [List.getD_eq_getElem?_getD, List.getD_eq_getElem?_getD, List.getElem?_append_left hlt, List.getElem?_append_left (by omega), ← List.getD_eq_getElem?_getD, ← List.getD_eq_getElem?_getD]
    exact h.2 j hlt
  · obtain rfl : j = xs.length := by omega
    rw [List.getD_eq_getElem?_getD, List.getD_eq_getElem?_getD, List.getElem?_append_right (Nat.le_refl _), List.getElem?_append_right (by omega), hl]
    simpa using e
theorem rowT_of {p : Nat × Nat} {xs ys : List (Nat × Nat)} (h : pleq xs ys) : rowT p xs xs.length = rowT p ys ys.length := by
  unfold rowT
  rw [h.1]
  refine List.map_congr_left fun j hj => ?_
  have hj : j < ys.length := List.mem_range.1 hj
  refine Fl.difP_of ?_ ?_
  · unfold prevP
    split
    · exact peq.refl _
    · exact h.2 _ (by rw [h.1]; omega)
  · rw [Fl.mulP_of (peq.refl p) (h.2 j (by rw [h.1]; exact hj))]
    exact peq.refl _
theorem nextP_of {p : Nat × Nat} {xs ys : List (Nat × Nat)} (h : pleq xs ys) : nextP p xs = nextP p ys := by
  unfold nextP
  rw [rowT_of h]
theorem pleq.trans {xs ys zs : List (Nat × Nat)} (h : pleq xs ys) (g : pleq ys zs) : pleq xs zs :=
  ⟨h.1.trans g.1, fun j hj => (h.2 j hj).trans (g.2 j (by rw [← h.1]; exact hj))⟩
theorem pleq.symm {xs ys : List (Nat × Nat)} (h : pleq xs ys) : pleq ys xs :=
  ⟨h.1.symm, fun j hj => (h.2 j (by rw [h.1]; exact hj)).symm⟩

theorem stepP {w : World} {ops : Array Oper} {o : Oper} {a : Act} {K : Act → World → Prop} {Q : Exit → Act → World → Prop} {E : Prop} (hgd : o.guard = none) (s y : Operand)
    (ho : o.op = .call { callee := .builtin .append, args := #[s, y], argTypes := #[47, 47] })
    (base : Nat) (v : Value) (l : List (Nat × Nat)) (x0 x1 H : Nat) (hs : a.eval s = v) (hown : OwnP w base v l) (hy : a.eval y = .slice (some ⟨H, 0, none⟩) 1 1) (hH : w.heap.size = H) (hl : l.length ≤ 1048576) (hb : base ≤ w.heap.size)
    (h : ∀ g cap w', OwnP w' base (.slice (some ⟨g, 0, none⟩) (l.length + 1) cap) (l ++ [(x0, x1)]) → (w.alloc (.cells #[fl x0, fl x1] 25)).grownBy w' v.ownBlock → (v.ownBlock = some g ∨ g = H + 1) → g < w'.heap.size → K (a.put o.dst (.slice (some ⟨g, 0, none⟩) (l.length + 1) cap)) w') :
    if Region.wanted o (yielded ops a.tmps) = true then Oper.wp Try.prog o a (w.alloc (.cells #[fl x0, fl x1] 25)) K Q else E := by
  subst hH
  obtain ⟨i0, hi, hz0, hz1, hz2⟩ := info_parts pairInfo2
  refine step_append_lies _ hgd s y 47 ho base 25 i0 (.agg #[.float .f64 0, .float .f64 0]) 2 16 Try.underlying47 hi hz0 hz1 hz2 rfl (by decide) v l.length (flat l) hs (hown.alloc _) ⟨w.heap.size, 0, none⟩ 1 1 [fl x0, fl x1] hy rfl ?_ ?_ (by decide) ?_ ?_ ?_ (w.heap.size + 1) (by simp) ?_
  · intro j u hj
    match j, hj with
    | 0, hj => simp at hj; subst hj; simp [Addr.add]
    | 1, hj => simp at hj; subst hj; simp [Addr.add]
  · intro u hu; simp at hu; rcases hu with rfl | rfl <;> rfl
  · unfold maxLen; omega
  · omega
  · simp; omega
  · intro g cap w' h1 h2 h3 h4
    refine h g cap w' ?_ h2 h3 h4
    unfold OwnP
    rw [flat_app, List.length_append]
    exact h1

theorem appL {w : World} {ops : Array Oper} {rest : List Oper} {o : Oper} {a : Act} {Q : Exit → Act → World → Prop} (hgd : o.guard = none) (s y : Operand)
    (ho : o.op = .call { callee := .builtin .append, args := #[s, y], argTypes := #[47, 47] })
    (base : Nat) (v : Value) (l : List (Nat × Nat)) (x0 x1 : Nat) (hs : a.eval s = v) (hown : OwnP w base v l) (hy : a.eval y = .slice (some ⟨w.heap.size, 0, none⟩) 1 1) (hl : l.length ≤ 1048576) (hb : base ≤ w.heap.size)
    (h : ∀ g cap w', OwnP w' base (.slice (some ⟨g, 0, none⟩) (l.length + 1) cap) (l ++ [(x0, x1)]) → (w.alloc (.cells #[fl x0, fl x1] 25)).grownBy w' v.ownBlock → (v.ownBlock = some g ∨ g = w.heap.size + 1) → g < w'.heap.size → wpList Try.prog ops Q rest (a.put o.dst (.slice (some ⟨g, 0, none⟩) (l.length + 1) cap)) w') :
    wpList Try.prog ops Q (o :: rest) a (w.alloc (.cells #[fl x0, fl x1] 25)) := by
  obtain ⟨i0, hi, hz0, hz1, hz2⟩ := info_parts pairInfo2
  refine wpList_append_lies _ hgd s y 47 ho base 25 i0 (.agg #[.float .f64 0, .float .f64 0]) 2 16 Try.underlying47 hi hz0 hz1 hz2 rfl (by decide) v l.length (flat l) hs (hown.alloc _) ⟨w.heap.size, 0, none⟩ 1 1 [fl x0, fl x1] hy rfl ?_ ?_ (by decide) ?_ ?_ ?_ (w.heap.size + 1) (by simp) ?_
  · intro j u hj
    match j, hj with
    | 0, hj => simp at hj; subst hj; simp [Addr.add]
    | 1, hj => simp at hj; subst hj; simp [Addr.add]
  · intro u hu; simp at hu; rcases hu with rfl | rfl <;> rfl
  · unfold maxLen; omega
  · omega
  · simp; omega
  · intro g cap w' h1 h2 h3 h4
    refine h g cap w' ?_ h2 h3 h4
    unfold OwnP
    rw [flat_app, List.length_append]
    exact h1

/-- Of the blocks that were there only g has turned (as cells). -/
def KeepC (W0 wx : World) (g : Nat) : Prop := (∀ z y, z < W0.heap.size → z ≠ g → wx.cell? ⟨z, y, none⟩ = W0.cell? ⟨z, y, none⟩) ∧ Kp W0 wx g
theorem Kp.keepC {W0 wx : World} {g : Nat} (h : Kp W0 wx g) : KeepC W0 wx g := ⟨fun z y hz hn => h.cell (p := ⟨z, y, none⟩) hz hn, h⟩
theorem grown_kp {W w' : World} {g : Nat} {row : Option Nat} (h : W.grownBy w' row) (hr : row = some g) : Kp W w' g :=
  ⟨h.size, fun i hi hne => h.block i hi (by rw [hr]; intro e; injection e with e; exact hne e)⟩
theorem OwnP.weaken {W : World} {b b' : Nat} {v : Value} {ps : List (Nat × Nat)} (h : OwnP W b v ps) (hb : b' ≤ b) : OwnP W b' v ps := by
  refine ⟨h.1, ?_⟩
  rcases h.2 with hn | ⟨g, cap, cur, rfl, hg, rest⟩
  · exact .inl hn
  · exact .inr ⟨g, cap, cur, rfl, Nat.le_trans hb hg, rest⟩
theorem OwnP.block {W : World} {b g n c : Nat} {ps : List (Nat × Nat)} (h : OwnP W b (.slice (some ⟨g, 0, none⟩) n c) ps) : b ≤ g ∧ g < W.heap.size ∧ n = ps.length := by
  rcases h.2 with ⟨h1, _⟩ | ⟨g', cap, cur, hv, hb, hg, _⟩
  · cases h1
  · injection hv with h1 h2 h3
    injection h1 with h1
    injection h1 with h1
    subst h1 h2
    exact ⟨hb, Blk.lt (t := 25) hg, rfl⟩
end Go.Proofs.Ythoajaibaedjeaa
