/-
  What the laid table and the laid map give.
-/
import Derived.Test.YtmjnnjjmfedlbaaDoorOj
import Derived.Test.YtmjnnjjmfedlbaaDoorTz
namespace Go.Proofs.YtmjnnjjmfedlbaaDoor
set_option linter.unusedSimpArgs false
set_option linter.unusedVariables false
open Go.RowKit Go.ChangeShapes Go.WideShapes Go.ChangeAt Go.WideMaps Go.WideElems

abbrev laid2 : List (String × DataW Unit) := [("math/bits.deBruijn64tab", Rows.laid_math_bits_deBruijn64tab), ("loop.example/g00043/impl.shapes", Rows.laid_loop_example_g00043_impl_shapes)]
theorem gTab : Tryd.prog.globalNamed "math/bits.deBruijn64tab" = some 2 := by kernel_rfl
theorem tTab : (Tryd.prog.globals[2]?).map (·.type) = some 85 := by kernel_rfl
theorem cellsU8 : Tryd.prog.cellsOf 5 = 1 := by kernel_rfl
theorem tab_datum {H : Type} : (Rows.laid_math_bits_deBruijn64tab (H := H)) = .agg (tabZ.map fun (n : Nat) => .lit (.int .u8 (n : Int))) := rfl

set_option maxRecDepth 8000 in
theorem of_laid2 {W : World} (h : laidMetH Tryd.prog laid2 W) : Lk W ∧ Tk W := by
  rw [MakeChecks.laidMetH_plain _ _ _ (by kernel_rfl)] at h
  obtain ⟨ps, ⟨g1, t1, cs1, f1, p1, q1, hg1, ht1, hv1, hd1, hlv⟩, _, _⟩ := h
  obtain ⟨hlv, -⟩ := hlv
  obtain ⟨g0, t0, cs0, f0, p0, q0, hg0, ht0, hv0, hd0, _⟩ := hlv
  obtain rfl := Option.some.inj (gShapes.symm.trans hg0)
  obtain rfl := Option.some.inj (tShapes.symm.trans ht0)
  obtain rfl := Option.some.inj (gTab.symm.trans hg1)
  obtain rfl := Option.some.inj (tTab.symm.trans ht1)
  constructor
  · show ∃ bm o, W.cell? ⟨0, 0, none⟩ = some (.map (some bm)) ∧ W.heap[bm]? = some o ∧ ∀ W', W'.heap[bm]? = some o → Looks bm W'
    have zero : ∀ w : World, (zeroValue 48).run Tryd.prog w = .ok (shV 0 0 0) w := fun _ => by kernel_rfl
    rcases open_map Tryd.underlying69 hd0 with ⟨_, hx⟩ | ⟨bm, es, clock, m, rfl, hcs, hb, _, F, hx⟩
    · simp [Rows.laid_loop_example_g00043_impl_shapes] at hx
    simp only [Prod.mk.injEq] at hx
    have hcell : W.cell? ⟨0, 0, none⟩ = some (.map (some bm)) := by
      have := World.var?_cell hg0 hv0 0
      rw [Array.eq_one_of_toList hcs] at this
      simpa using this
    refine ⟨bm, _, hcell, hb, fun W' hb' => ?_⟩
    have K := Maps.int_keyed (P := Tryd.prog) Tryd.underlying3
    have hit : ∀ (f a b c : Int), (Lit.int .i64 f).wf = true → (Rows.laid_loop_example_g00043_impl_shapes (H := Unit)).atKey (.int .i64 f) .nil = .agg [.lit (.int .i64 a), .lit (.int .i64 b), .lit (.int .i64 c)] → Look bm W' f (shV a b c) true := by
      intro f a b c hw he
      rcases Maps.fit_look (w := W') true K Tryd.underlying69 (zero W') hb' F (Maps.keyOf_int_mk Tryd.underlying3 hw) with ⟨_, _, hat⟩ | ⟨e0, y, _, _, hrun, hR, hat, _⟩
      · have := hat .nil
        rw [← hx.1, he] at this
        exact absurd this (by intro e; injection e)
      · obtain ⟨a', b', c', hv, hy⟩ := shape_elem hR
        have := hat .nil
        rw [← hx.1, he, hy] at this
        simp at this
        obtain ⟨rfl, rfl, rfl⟩ := this
        rw [hv] at hrun
        exact hrun
    refine ⟨hit 1 _ _ _ (by decide) rfl, hit 2 _ _ _ (by decide) rfl, hit 3 _ _ _ (by decide) rfl, fun f hw h1 h2 h3 => ?_⟩
    have he : (Rows.laid_loop_example_g00043_impl_shapes (H := Unit)).atKey (.int .i64 f) .nil = .nil := by
      simp [Rows.laid_loop_example_g00043_impl_shapes, DataW.atKey, Lit.sameKey, Ne.symm h1, Ne.symm h2, Ne.symm h3, h1, h2, h3]
    rcases Maps.fit_look (w := W') true K Tryd.underlying69 (zero W') hb' F (Maps.keyOf_int_mk Tryd.underlying3 hw) with ⟨hrun, _, _⟩ | ⟨e0, y, _, _, hrun, hR, hat, _⟩
    · exact hrun
    · obtain ⟨a', b', c', hv, hy⟩ := shape_elem hR
      have := hat .nil
      rw [← hx.1, he, hy] at this
      cases this

  · obtain ⟨xs, m, rfl, hx, hlen, hxl, hel⟩ := DataW.trod_array Tryd.underlying85 hd1
    rw [cellsU8] at hel
    have hda : Rows.laid_math_bits_deBruijn64tab = DataW.agg (xs.map (·.1)) := congrArg Prod.fst hx
    rw [tab_datum] at hda
    injection hda with hda
    have c64 : Tryd.prog.cellsOf 85 = 64 := by kernel_rfl
    rw [c64] at hlen
    have key : ∀ i, i < 64 → W.cell? ⟨2, i, none⟩ = some (.int .u8 ((tabZ.getD i 0 : Nat) : Int)) := by
      intro i hi
      have hei := hel i hi
      have hxi : xs[i]? = some (xs[i]'(by omega)) := List.getElem?_eq_getElem (by omega)
      rw [hxi] at hei
      obtain ⟨a, e0, h0, wa⟩ := DataW.trod_int Tryd.underlying5 hei
      have hc : cs1.toList[i]? = some (.int .u8 a) := by
        have h1 := congrArg (fun l => l[0]?) e0
        simp only [Nat.mul_one, List.getElem?_take, List.getElem?_drop, Nat.add_zero, Nat.zero_lt_one, if_true, List.getElem?_cons_zero] at h1
        exact h1
      have hv := World.var?_cell hg1 hv1 i
      have hda2 := congrArg (fun l => l[i]?) hda
      simp only [List.getElem?_map, hxi, Option.map_some, h0] at hda2
      have htz : tabZ[i]? = some (tabZ.getD i 0) := by
        rw [List.getD_eq_getElem?_getD, List.getElem?_eq_getElem (show i < tabZ.length from hi)]
        rfl
      rw [htz] at hda2
      simp only [Option.map_some, Option.some.injEq, DataW.lit.injEq, Lit.int.injEq, true_and] at hda2
      rw [hv, ← Array.getElem?_toList, hc, ← hda2]
    exact ⟨World.block_lt_of_cell? W _ (key 0 (by decide)), key⟩

/-- The door's own heap meets both. -/
theorem door_met2 (os : Os) (args : Array Value) : laidMetH Tryd.prog laid2 ((World.doorLaid Tryd.prog 37 os).forCall (fun _ _ => 0) ⟨#[], args, []⟩).memory :=
  laidMetH_of_parts3 (fuel := 8) (laidMet_of_run' 8 (by kernel_rfl) (by kernel_rfl)) (by kernel_rfl) (by kernel_rfl)
end Go.Proofs.YtmjnnjjmfedlbaaDoor
