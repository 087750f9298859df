/-
  A list of numbers of the call's own, appended to; its bearing on the cursor and on what came in.
-/
import Derived.Test.YtihhklfmabencaaDs
import Derived.Laws.AppendOwn
import Derived.OwnWalk
namespace Go.Proofs.Ytihhklfmabencaa
set_option linter.unusedSimpArgs false
set_option linter.unusedVariables false
open Go.RowKit Go.Dr

theorem intInfo : (Try.prog.info? 3).map (fun i => (i.zero, i.size, i.bytes)) = some (some (.int .i64 0), 1, 8) := by kernel_rfl

/-- The slice v is the call's own (its block, if any, is base or later) and holds l. -/
def Own (W : World) (base : Nat) (v : Value) (l : List Int) : Prop := W.ownsRow base 3 1 v l.length (l.map (Value.int .i64))

section
variable {W W1 : World} {base : Nat} {v : Value} {l : List Int}
theorem Own.nil (W : World) (base : Nat) : Own W base (.slice none 0 0) [] := World.ownsRow_nil _ _ _ _
theorem Own.empty (W : World) (base : Nat) (hb : base ≤ W.heap.size) : Own (W.alloc (.cells #[] 3)) base (.slice (some ⟨W.heap.size, 0, none⟩) 0 0) [] :=
  World.ownsRow_made W #[] 0 hb (Nat.zero_le _) rfl
theorem Own.alloc (h : Own W base v l) (o : Obj) : Own (W.alloc o) base v l := World.ownsRow.alloc h o
theorem Own.drewN (h : Own W base v l) (n : Nat) : Own (W.drewN n) base v l := h
theorem Own.form (h : Own W base v l) : ∃ A c, v = .slice A l.length c := by
  rcases h.2 with ⟨rfl, h0⟩ | ⟨g, cap, cur, rfl, _⟩
  · exact ⟨none, 0, by rw [h0]⟩
  · exact ⟨_, _, rfl⟩
theorem Own.row {A : Option Addr} {n c : Nat} (h : Own W base (.slice A n c) l) : IRow .i64 W A n c l ∧ ∀ a, A = some a → base ≤ a.block := by
  rcases h.2 with ⟨h1, h0⟩ | ⟨g, cap, cur, hv, hb, hg, hnc, hcm, hsz, hcur⟩
  · cases h1
    exact ⟨⟨h0, Nat.le_refl _, Nat.zero_le _, fun h => absurd h (by omega)⟩, fun a ha => by cases ha⟩
  · injection hv with h1 h2 h3
    subst h1 h2 h3
    have hlt := Blk.lt (t := 3) hg
    refine ⟨⟨rfl, hnc, hcm, fun _ => ⟨g, 0, rfl, hlt, fun i hi => ?_⟩⟩, fun a ha => by cases ha; exact hb⟩
    rw [Nat.zero_add, Blk.cell hg i]
    have h2 : (cur.toList.take (l.length * 1))[i]? = some (Value.int .i64 (l.getD i 0)) := by
      rw [hcur]; simp [List.getD_eq_getElem?_getD, hi]
    rw [List.getElem?_take, if_pos (by omega)] at h2
    simpa using h2
theorem Own.below {B : Nat} (h : Own W base v l) (hb : Below B W W1) (hB : W.heap.size ≤ B) : Own W1 base v l :=
  World.ownsRow.kept h ⟨hb.os, hb.tape, hb.output, hb.size, fun k hk _ => hb.block k (Nat.lt_of_lt_of_le hk hB)⟩ (row := none) (by cases v.ownBlock <;> simp)
theorem Own.kp {g : Nat} (h : Own W base v l) (hk : Kp W W1 g) (hn : v.ownBlock ≠ some g) : Own W1 base v l := by
  refine ⟨h.1, ?_⟩
  rcases h.2 with hn | ⟨b, cap, cur, rfl, hb, hg, rest⟩
  · exact .inl hn
  · exact .inr ⟨b, cap, cur, rfl, hb, hk.blk hg (by intro e; subst e; exact hn rfl), rest⟩
theorem Own.ne_cu {w0 : World} {g : Nat} {xs : List Int} (h : Own W base v l) (hc : Cu w0 W g xs) : v.ownBlock ≠ some g := by
  intro e
  rcases h.2 with ⟨rfl, _⟩ | ⟨b, cap, cur, rfl, hb, hg, _⟩
  · cases e
  · injection e with e
    subst e
    obtain ⟨A, c, i, x, hk, _⟩ := hc
    have := hg.symm.trans hk
    simp at this
theorem Own.st {w0 wi : World} {g : Nat} {xs : List Int} (h : Own W base v l) (hs : St w0 wi W g xs) (hs1 : St w0 W W1 g xs) : Own W1 base v l := h.kp hs1.2.2 (h.ne_cu hs.1)
end

theorem St.grown {w0 wi W W1 : World} {g : Nat} {xs : List Int} {row : Option Nat} (h : St w0 wi W g xs) (hg : W.grownBy W1 row) (hn : row ≠ some g) (hr : ∀ k, row = some k → wi.heap.size ≤ k) (hw : w0.heap.size ≤ wi.heap.size) : St w0 wi W1 g xs := by
  obtain ⟨⟨A, c, i, x, hk, r⟩, hb, hp⟩ := h
  have hB := hb.size
  refine ⟨⟨A, c, i, x, (hg.block g hk.lt (fun e => hn e.symm)).trans hk, r⟩, hb.grown hg hB (fun k e => Nat.le_trans hw (hr k e)), ⟨Nat.le_trans hp.1 hg.size, fun i hi hne => ?_⟩⟩
  rw [hg.block i (Nat.lt_of_lt_of_le hi hp.1) (fun e => by have := hr i e.symm; omega)]
  exact hp.2 i hi hne

/-- append(v, x): x lies in a new block of its own. -/
theorem app1 {w : World} {ops : Array Oper} {rest : List Oper} {o : Oper} {a : Act} {Q : Exit → Act → World → Prop} (hgd : o.guard = none) (s y : Operand)
    (ho : o.op = .call { callee := .builtin .append, args := #[s, y], argTypes := #[27, 27] })
    (base : Nat) (v : Value) (l : List Int) (x : Int) (hs : a.eval s = v) (hown : Own w base v l) (hy : a.eval y = .slice (some ⟨w.heap.size, 0, none⟩) 1 1) (hl : l.length ≤ 1048576) (hb : base ≤ w.heap.size)
    (h : ∀ v' w', Own w' base v' (l ++ [x]) → (w.alloc (.cells #[.int .i64 x] 3)).grownBy w' v.ownBlock → wpList Try.prog ops Q rest (a.put o.dst v') w') :
    wpList Try.prog ops Q (o :: rest) a (w.alloc (.cells #[.int .i64 x] 3)) := by
  obtain ⟨i0, hi, hz0, hz1, hz2⟩ := info_parts intInfo
  refine wpList_append_own _ hgd s y 27 ho base 3 i0 (.int .i64 0) 1 8 Try.underlying27 hi hz0 hz1 hz2 rfl (by decide) v l.length (l.map (Value.int .i64)) hs (hown.alloc _) ⟨w.heap.size, 0, none⟩ 1 1 [.int .i64 x] hy rfl ?_ ?_ ?_ ?_ ?_ ?_
  · intro j u hj
    match j, hj with
    | 0, hj => simp at hj; subst hj; simp [Addr.add]
  · intro u hu; simp at hu; subst hu; rfl
  · unfold maxLen; omega
  · omega
  · simp; omega
  · intro v' w' h1 h2 _
    refine h v' w' ?_ h2
    unfold Own
    simpa using h1
end Go.Proofs.Ytihhklfmabencaa
