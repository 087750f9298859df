/-
  What the laid map of shapes gives the walks: its look-ups at every key.
-/
import Derived.Test.YtmjnnjjmfedlbaaDoorRows
import Derived.Maps.Keyed
import Derived.ProofKit
import Derived.LaidMore
import Derived.OpenShut
import Derived.Laws.IdiomElems
import Derived.Deep.Strs
import Derived.Stop.Joined
namespace Go.Proofs.YtmjnnjjmfedlbaaDoor
set_option linter.unusedVariables false
set_option linter.unusedSimpArgs false
open Go.ChangeShapes Go.WideShapes Go.ChangeAt Go.WideMaps Go.WideElems Go.RowKit

abbrev shapesL : List (String × DataW Unit) := [("loop.example/g00043/impl.shapes", Rows.laid_loop_example_g00043_impl_shapes)]
theorem gShapes : Tryd.prog.globalNamed "loop.example/g00043/impl.shapes" = some 0 := by kernel_rfl
theorem tShapes : (Tryd.prog.globals[0]?).map (·.type) = some 69 := by kernel_rfl

def shV (w p e : Int) : Value := .agg #[.int .i64 w, .int .i64 p, .int .i64 e]

set_option maxRecDepth 8000 in
theorem shape_elem {H : Type} {enc : TypeId × Value → H} {W : World} {base : Nat} {sp : Nat → Bool} {held : Bool} {n : Nat} {v : Value} {z : DataW H × List MemPlace} (h : elemAt enc Tryd.prog W base sp held n 48 v = some z) :
    ∃ a b c, v = shV a b c ∧ z.1 = .agg [.lit (.int .i64 a), .lit (.int .i64 b), .lit (.int .i64 c)] := by
  unfold elemAt at h
  split at h
  · rename_i hf
    obtain ⟨y0, y1, y2, m, rfl, hl, g0, g1, g2⟩ := Deep.trod_struct3 Tryd.underlying48 h
    obtain ⟨a, e0, h0, wa⟩ := DataW.trod_int Tryd.underlying3 g0
    obtain ⟨b, e1, h1, wb⟩ := DataW.trod_int Tryd.underlying3 g1
    obtain ⟨c, e2, h2, wc⟩ := DataW.trod_int Tryd.underlying3 g2
    have c3 : Tryd.prog.cellsOf 3 = 1 := by kernel_rfl
    have c48 : Tryd.prog.cellsOf 48 = 3 := by kernel_rfl
    subst h0 h1 h2
    refine ⟨a, b, c, ?_, rfl⟩
    cases v <;> simp [Value.formed, Tryd.underlying48] at hf
    rename_i cs
    obtain ⟨l⟩ := cs
    rw [c48] at hl
    simp only [c3] at e0 e1 e2
    simp [Value.cells] at hl e0 e1 e2
    match l, hl with
    | [x0, x1, x2], _ =>
      simp at e0 e1 e2
      subst e0 e1 e2
      rfl
  · cases h

def Look (bm : Nat) (W : World) (f : Int) (v : Value) (ok : Bool) : Prop := (Instr.lookup 69 (.map (some bm)) (.int .i64 f) true).run Tryd.prog W = .ok (.tuple #[v, .bool ok]) W
/-- What the look-ups give, in a world where the map's block stands. -/
def Looks (bm : Nat) (W : World) : Prop := Look bm W 1 (shV 16 11 15) true ∧ Look bm W 2 (shV 32 24 127) true ∧ Look bm W 3 (shV 64 53 1023) true ∧ ∀ f, (Lit.int .i64 f).wf = true → f ≠ 1 → f ≠ 2 → f ≠ 3 → Look bm W f (shV 0 0 0) false

set_option maxRecDepth 8000 in
theorem of_laid {W : World} (h : laidMetH Tryd.prog shapesL W) : ∃ bm o, W.cell? ⟨0, 0, none⟩ = some (.map (some bm)) ∧ W.heap[bm]? = some o ∧ ∀ W', W'.heap[bm]? = some o → Looks bm W' := by
  rw [MakeChecks.laidMetH_plain _ _ _ (by kernel_rfl)] at h
  obtain ⟨ps, ⟨g0, t0, cs0, f0, p0, q0, hg0, ht0, hv0, hd0, _⟩, _, _⟩ := h
  obtain rfl := Option.some.inj (gShapes.symm.trans hg0)
  obtain rfl := Option.some.inj (tShapes.symm.trans ht0)
  have zero : ∀ w : World, (zeroValue 48).run Tryd.prog w = .ok (shV 0 0 0) w := fun _ => by kernel_rfl
  rcases open_map Tryd.underlying69 hd0 with ⟨_, hx⟩ | ⟨bm, es, clock, m, rfl, hcs, hb, _, F, hx⟩
  · simp [Rows.laid_loop_example_g00043_impl_shapes] at hx
  simp only [Prod.mk.injEq] at hx
  have hcell : W.cell? ⟨0, 0, none⟩ = some (.map (some bm)) := by
    have := World.var?_cell hg0 hv0 0
    rw [Array.eq_one_of_toList hcs] at this
    simpa using this
  refine ⟨bm, _, hcell, hb, fun W' hb' => ?_⟩
  have K := Maps.int_keyed (P := Tryd.prog) Tryd.underlying3
  have hit : ∀ (f a b c : Int), (Lit.int .i64 f).wf = true → (Rows.laid_loop_example_g00043_impl_shapes (H := Unit)).atKey (.int .i64 f) .nil = .agg [.lit (.int .i64 a), .lit (.int .i64 b), .lit (.int .i64 c)] → Look bm W' f (shV a b c) true := by
    intro f a b c hw he
    rcases Maps.fit_look (w := W') true K Tryd.underlying69 (zero W') hb' F (Maps.keyOf_int_mk Tryd.underlying3 hw) with ⟨_, _, hat⟩ | ⟨e0, y, _, _, hrun, hR, hat, _⟩
    · have := hat .nil
      rw [← hx.1, he] at this
      exact absurd this (by intro e; injection e)
    · obtain ⟨a', b', c', hv, hy⟩ := shape_elem hR
      have := hat .nil
      rw [← hx.1, he, hy] at this
      simp at this
      obtain ⟨rfl, rfl, rfl⟩ := this
      rw [hv] at hrun
      exact hrun
  refine ⟨hit 1 _ _ _ (by decide) rfl, hit 2 _ _ _ (by decide) rfl, hit 3 _ _ _ (by decide) rfl, fun f hw h1 h2 h3 => ?_⟩
  have he : (Rows.laid_loop_example_g00043_impl_shapes (H := Unit)).atKey (.int .i64 f) .nil = .nil := by
    simp [Rows.laid_loop_example_g00043_impl_shapes, DataW.atKey, Lit.sameKey, Ne.symm h1, Ne.symm h2, Ne.symm h3, h1, h2, h3]
  rcases Maps.fit_look (w := W') true K Tryd.underlying69 (zero W') hb' F (Maps.keyOf_int_mk Tryd.underlying3 hw) with ⟨hrun, _, _⟩ | ⟨e0, y, _, _, hrun, hR, hat, _⟩
  · exact hrun
  · obtain ⟨a', b', c', hv, hy⟩ := shape_elem hR
    have := hat .nil
    rw [← hx.1, he, hy] at this
    cases this

/-- The door's own heap meets the condition. -/
theorem door_met (os : Os) (args : Array Value) : laidMetH Tryd.prog shapesL ((World.doorLaid Tryd.prog 37 os).forCall (fun _ _ => 0) ⟨#[], args, []⟩).memory :=
  laidMetH_of_parts3 (fuel := 8) (laidMet_of_run' 8 (by kernel_rfl) (by kernel_rfl)) (by kernel_rfl) (by kernel_rfl)
end Go.Proofs.YtmjnnjjmfedlbaaDoor
