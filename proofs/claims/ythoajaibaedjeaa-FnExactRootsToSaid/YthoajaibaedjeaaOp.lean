/-
  A list of pairs of the call's own, appended to; its bearing on the cursor and on what came in.
-/
import Derived.Test.YthoajaibaedjeaaDs
import Derived.Test.YthoajaibaedjeaaPs
import Derived.Laws.AppendOwn
import Derived.OwnWalk
namespace Go.Proofs.Ythoajaibaedjeaa
set_option linter.unusedSimpArgs false
set_option linter.unusedVariables false
open Go.RowKit Go.Dr
open Go.Fl (PRow flat fl pr flat_length flat_at)

theorem pairInfo2 : (Try.prog.info? 25).map (fun i => (i.zero, i.size, i.bytes)) = some (some (.agg #[.float .f64 0, .float .f64 0]), 2, 16) := by kernel_rfl

/-- The slice v is the call's own (its block, if any, is base or later) and holds ps. -/
def OwnP (W : World) (base : Nat) (v : Value) (ps : List (Nat × Nat)) : Prop := W.ownsRow base 25 2 v ps.length (flat ps)

section
variable {W W1 : World} {base : Nat} {v : Value} {ps : List (Nat × Nat)}
theorem OwnP.nil (W : World) (base : Nat) : OwnP W base (.slice none 0 0) [] := World.ownsRow_nil _ _ _ _
theorem OwnP.empty (W : World) (base : Nat) (hb : base ≤ W.heap.size) : OwnP (W.alloc (.cells #[] 25)) base (.slice (some ⟨W.heap.size, 0, none⟩) 0 0) [] :=
  World.ownsRow_made W #[] 0 hb (Nat.zero_le _) rfl
theorem OwnP.alloc (h : OwnP W base v ps) (o : Obj) : OwnP (W.alloc o) base v ps := World.ownsRow.alloc h o
theorem OwnP.form (h : OwnP W base v ps) : ∃ A c, v = .slice A ps.length c := by
  rcases h.2 with ⟨rfl, h0⟩ | ⟨g, cap, cur, rfl, _⟩
  · exact ⟨none, 0, by rw [h0]⟩
  · exact ⟨_, _, rfl⟩
theorem OwnP.row {A : Option Addr} {n c : Nat} (h : OwnP W base (.slice A n c) ps) : PRow W A n c ps ∧ ∀ a, A = some a → base ≤ a.block := by
  rcases h.2 with ⟨h1, h0⟩ | ⟨g, cap, cur, hv, hb, hg, hnc, hcm, hsz, hcur⟩
  · cases h1
    exact ⟨⟨h0, Nat.le_refl _, Nat.zero_le _, fun h => absurd h (by omega)⟩, fun a ha => by cases ha⟩
  · injection hv with h1 h2 h3
    subst h1 h2 h3
    have hlt := Blk.lt (t := 25) hg
    refine ⟨⟨rfl, hnc, hcm, fun _ => ⟨g, 0, rfl, hlt, fun i hi => ?_⟩⟩, fun a ha => by cases ha; exact hb⟩
    have key : ∀ (j : Nat) (u : Value), (flat ps)[j]? = some u → cur[j]? = some u := by
      intro j u hj
      rw [← hcur, List.getElem?_take] at hj
      split at hj
      · simpa using hj
      · cases hj
    have hf := flat_at ps i hi
    rw [Nat.zero_add, Blk.cell hg (i * 2), Blk.cell hg (i * 2 + 1)]
    exact ⟨key _ _ hf.1, key _ _ hf.2⟩
theorem OwnP.below {B : Nat} (h : OwnP W base v ps) (hb : Below B W W1) (hB : W.heap.size ≤ B) : OwnP W1 base v ps :=
  World.ownsRow.kept h ⟨hb.os, hb.tape, hb.output, hb.size, fun k hk _ => hb.block k (Nat.lt_of_lt_of_le hk hB)⟩ (row := none) (by cases v.ownBlock <;> simp)
theorem OwnP.kp {g : Nat} (h : OwnP W base v ps) (hk : Kp W W1 g) (hn : v.ownBlock ≠ some g) : OwnP W1 base v ps := by
  refine ⟨h.1, ?_⟩
  rcases h.2 with hn | ⟨b, cap, cur, rfl, hb, hg, rest⟩
  · exact .inl hn
  · exact .inr ⟨b, cap, cur, rfl, hb, hk.blk hg (by intro e; subst e; exact hn rfl), rest⟩
theorem OwnP.ne_cu {w0 : World} {g : Nat} {xs : List Int} (h : OwnP W base v ps) (hc : Cu w0 W g xs) : v.ownBlock ≠ some g := by
  intro e
  rcases h.2 with ⟨rfl, _⟩ | ⟨b, cap, cur, rfl, hb, hg, _⟩
  · cases e
  · injection e with e
    subst e
    obtain ⟨A, c, i, x, hk, _⟩ := hc
    have := hg.symm.trans hk
    simp at this
theorem OwnP.st {w0 wi : World} {g : Nat} {xs : List Int} (h : OwnP W base v ps) (hs : St w0 wi W g xs) (hs1 : St w0 W W1 g xs) : OwnP W1 base v ps := h.kp hs1.2.2 (h.ne_cu hs.1)
end

theorem St.grownP {w0 wi W W1 : World} {g : Nat} {xs : List Int} {row : Option Nat} (h : St w0 wi W g xs) (hg : W.grownBy W1 row) (hn : row ≠ some g) (hr : ∀ k, row = some k → wi.heap.size ≤ k) (hw : w0.heap.size ≤ wi.heap.size) : St w0 wi W1 g xs := by
  obtain ⟨⟨A, c, i, x, hk, r⟩, hb, hp⟩ := h
  have hB := hb.size
  refine ⟨⟨A, c, i, x, (hg.block g hk.lt (fun e => hn e.symm)).trans hk, r⟩, hb.grown hg hB (fun k e => Nat.le_trans hw (hr k e)), ⟨Nat.le_trans hp.1 hg.size, fun i hi hne => ?_⟩⟩
  rw [hg.block i (Nat.lt_of_lt_of_le hi hp.1) (fun e => by have := hr i e.symm; omega)]
  exact hp.2 i hi hne

theorem appP_st {w0 wi w w' : World} {g : Nat} {xs : List Int} {base : Nat} {v : Value} {l : List (Nat × Nat)} {o : Obj} (hs : St w0 wi w g xs) (ho : OwnP w base v l) (hb : wi.heap.size ≤ base) (hw : w0.heap.size ≤ wi.heap.size) (hg : (w.alloc o).grownBy w' v.ownBlock) : St w0 wi w' g xs :=
  (hs.alloc o).grownP hg (ho.ne_cu hs.1) (fun k hk => Nat.le_trans hb (World.ownsRow.lt ho k hk).1) hw

theorem flat_app (ps : List (Nat × Nat)) (a b : Nat) : flat (ps ++ [(a, b)]) = flat ps ++ [fl a, fl b] := by
  unfold flat; rw [List.flatMap_append]; rfl

/-- append(v, p): p lies in a new block of its own. -/
theorem appP {w : World} {ops : Array Oper} {rest : List Oper} {o : Oper} {a : Act} {Q : Exit → Act → World → Prop} (hgd : o.guard = none) (s y : Operand)
    (ho : o.op = .call { callee := .builtin .append, args := #[s, y], argTypes := #[47, 47] })
    (base : Nat) (v : Value) (l : List (Nat × Nat)) (x0 x1 : Nat) (hs : a.eval s = v) (hown : OwnP w base v l) (hy : a.eval y = .slice (some ⟨w.heap.size, 0, none⟩) 1 1) (hl : l.length ≤ 1048576) (hb : base ≤ w.heap.size)
    (h : ∀ v' w', OwnP w' base v' (l ++ [(x0, x1)]) → (w.alloc (.cells #[fl x0, fl x1] 25)).grownBy w' v.ownBlock → wpList Try.prog ops Q rest (a.put o.dst v') w') :
    wpList Try.prog ops Q (o :: rest) a (w.alloc (.cells #[fl x0, fl x1] 25)) := by
  obtain ⟨i0, hi, hz0, hz1, hz2⟩ := info_parts pairInfo2
  refine wpList_append_own _ hgd s y 47 ho base 25 i0 (.agg #[.float .f64 0, .float .f64 0]) 2 16 Try.underlying47 hi hz0 hz1 hz2 rfl (by decide) v l.length (flat l) hs (hown.alloc _) ⟨w.heap.size, 0, none⟩ 1 1 [fl x0, fl x1] hy rfl ?_ ?_ ?_ ?_ ?_ ?_
  · intro j u hj
    match j, hj with
    | 0, hj => simp at hj; subst hj; simp [Addr.add]
    | 1, hj => simp at hj; subst hj; simp [Addr.add]
  · intro u hu; simp at hu; rcases hu with rfl | rfl <;> rfl
  · unfold maxLen; omega
  · omega
  · simp; omega
  · intro v' w' h1 h2 _
    refine h v' w' ?_ h2
    unfold OwnP
    rw [flat_app, List.length_append]
    exact h1
end Go.Proofs.Ythoajaibaedjeaa
