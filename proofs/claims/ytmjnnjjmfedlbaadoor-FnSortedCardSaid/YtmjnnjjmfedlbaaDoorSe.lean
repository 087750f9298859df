/-
  What FnSorted calls: the drawing, 'same', the sort of two; the memory of its loops.
-/
import Derived.Test.YtmjnnjjmfedlbaaDoorSd
import Derived.Test.YtmjnnjjmfedlbaaDoorDl
import Derived.Deep.CutRange
namespace Go.Proofs.YtmjnnjjmfedlbaaDoor
set_option linter.unusedSimpArgs false
set_option linter.unusedVariables false
open Go.RowKit Go.Dr
open Go.Fl (fl fres fres_lt feq isNan FRow)

theorem OwnF.frow {W : World} {base g c : Nat} {ys : List Nat} (h : OwnF W base (.slice (some ⟨g, 0, none⟩) ys.length c) ys) : FRow W (some ⟨g, 0, none⟩) ys.length c ys := by
  obtain ⟨g', cap', hv, a1, a2, a3, a4, a5⟩ := h.form (by intro e; cases e)
  injection hv with k1 k2 k3
  injection k1 with k1
  injection k1 with k1
  subst k1 k3
  exact ⟨rfl, a5.1, a5.2, fun _ => ⟨g, 0, rfl, a2, fun i hi => by rw [Nat.zero_add]; exact a3 i hi⟩⟩

set_option maxRecDepth 8000 in
theorem sDrawSF (A : Option Addr) (n c : Nat) (xs : List Int) (w : World) (h : IRow .u8 w A n c xs) (hn : n ≤ 1048576) :
    Calls Tryd.prog 29 #[.slice A n c] w fun e w' => ∃ gy cap ys, e = .returned (.slice (some ⟨gy, 0, none⟩) ys.length cap) ∧ ys.length ≤ 201 ∧ (∀ y ∈ ys, y < 2 ^ 64) ∧ OwnF w' w.heap.size (.slice (some ⟨gy, 0, none⟩) ys.length cap) ys ∧ Below w.heap.size w w' := by
  have HN := Lib.hid (l1New_any A n c xs w h hn)
  have HNN := Lib.hid hn
  clear h hn
  go_enter Tryd.func29, Tryd.ntmps29
  go_wp2_with (first
    | (go_at_call 59; (with_reducible refine HN.out.mono ?_); rintro e w1 ⟨g, rfl, hc, hb⟩; have HS := Lib.hid (show St w w1 w1 g xs from ⟨hc, hb, Kp.refl _ _⟩); have HSZ := Lib.hid hb.size; clear hc hb)
    | (go_at_call 58; (with_reducible refine (sDrawList HS.out _ _ _ HNN.out).mono ?_); rintro e w2 ⟨gy, cap, ys, rfl, hlen, hlt, ho, hs⟩; have HF := Lib.hid (And.intro hlen (And.intro hlt (And.intro ho hs))); clear hlen hlt ho hs))
  go_ret
  refine ⟨gy, cap, ys, rfl, HF.out.1, HF.out.2.1, ?_, HF.out.2.2.2.2.1⟩
  have ho := HF.out.2.2.1
  refine ⟨ho.1, ?_⟩
  rcases ho.2 with h | ⟨g', cap', cur, hv, hb, r⟩
  · exact .inl h
  · exact .inr ⟨g', cap', cur, hv, Nat.le_trans HSZ.out hb, r⟩

theorem same_dec (a b : Nat) (ha : a < 2 ^ 64) (hb : b < 2 ^ 64) (w : World) :
    Calls Tryd.prog 31 #[fl a, fl b] w fun e w' => e = .returned (.bool (decide (cn a = cn b))) ∧ Below w.heap.size w w' := by
  by_cases h : cn a = cn b
  · rw [decide_eq_true h]
    have hf : feq a b := (cn_feq a).symm.trans (h ▸ cn_feq b)
    exact same_any a b ha hb hf w
  · rw [decide_eq_false h]
    have H1 := Lib.hid (fun W => sToBits_any a W ha)
    have H2 := Lib.hid (fun W => sToBits_any b W hb)
    generalize cn a = x at h H1
    generalize cn b = y at h H2
    have hi : ¬ ((x : Int) = (y : Int)) := fun e => h (by omega)
    have hd : ((x : Int) == (y : Int)) = false := beq_eq_false_iff_ne.2 hi
    have hd2 : (x == y) = false := beq_eq_false_iff_ne.2 h
    have hd3 : decide ((x : Int) = (y : Int)) = false := decide_eq_false hi
    clear ha hb
    go_enter Tryd.func31, Tryd.ntmps31
    go_wp2_with (go_at_call 51; (first | (with_reducible refine (H1.out _).mono ?_) | (with_reducible refine (H2.out _).mono ?_)); rintro e w1 ⟨rfl, hbn⟩; (first | (replace HW := Lib.hid (HW.out.trans (hbn.mono HW.out.size))) | (have HW := Lib.hid hbn)); clear hbn)
    go_ret
    exact ⟨by simp [*], HW.out⟩

/-- The sort of two ends well. -/
theorem sort21 (W : World) (hl : Lk W) : Calls Tryd.prog 25 #[.slice (some ⟨W.heap.size, 0, none⟩) 2 2] (W.alloc (.cells #[fl 4611686018427387904, fl 4607182418800017408] 41)) fun e w' => ∃ g cap, e = .returned (.slice (some ⟨g, 0, none⟩) 2 cap) ∧ Below W.heap.size W w' := by
  have hb : Below W.heap.size W (W.alloc (.cells #[fl 4611686018427387904, fl 4607182418800017408] 41)) := (Below.refl _ _).alloc (Nat.le_refl _) _
  have hB : Fl.Blk (W.alloc (.cells #[fl 4611686018427387904, fl 4607182418800017408] 41)) W.heap.size 41 #[fl 4611686018427387904, fl 4607182418800017408] := Fl.Blk.new _ _ _
  have hr : FRow (W.alloc (.cells #[fl 4611686018427387904, fl 4607182418800017408] 41)) (some ⟨W.heap.size, 0, none⟩) [4611686018427387904, 4607182418800017408].length 2 [4611686018427387904, 4607182418800017408] := by
    refine ⟨rfl, Nat.le_refl _, by unfold maxLen; omega, fun _ => ⟨W.heap.size, 0, rfl, hB.lt, fun i hi => ?_⟩⟩
    have hi : i < 2 := hi
    rw [Nat.zero_add, hB.cell i]
    rcases (by omega : i = 0 ∨ i = 1) with rfl | rfl <;> rfl
  refine (iSortF _ _ _ _ hr (by intro x hx; simp at hx; rcases hx with rfl | rfl <;> decide) (by decide) (hl.below hb)).mono ?_
  rintro e w1 ⟨g, cap, f', rfl, -, -, hs, -, -⟩
  exact ⟨g, cap, rfl, Fl.chain hb hs.2.2.2.2.1⟩

/-- The words of block g, not frozen. -/
def Hm (g n : Nat) (f : Nat → Nat) (W : World) : Prop := (∀ i, i < n → W.cell? ⟨g, i, none⟩ = some (fl (f i))) ∧ (∀ i, W.frozen? ⟨g, i, none⟩ = false) ∧ g < W.heap.size
/-- The marks of block g. -/
def Um (g n : Nat) (u : Nat → Bool) (W : World) : Prop := (∀ i, i < n → W.cell? ⟨g, i, none⟩ = some (.bool (u i))) ∧ (∀ i, W.frozen? ⟨g, i, none⟩ = false) ∧ g < W.heap.size
section
variable {w W W1 : World} {g n c k : Nat} {f : Nat → Nat} {u : Nat → Bool}
theorem Hm.below (h : Hm g n f W) (hb : Below W.heap.size W W1) : Hm g n f W1 :=
  ⟨fun i hi => (hb.cell (p := ⟨g, i, none⟩) h.2.2).trans (h.1 i hi), fun i => (World.frozen?_of_block (a := ⟨g, i, none⟩) (hb.block g h.2.2)).trans (h.2.1 i), Nat.lt_of_lt_of_le h.2.2 hb.size⟩
theorem Um.below (h : Um g n u W) (hb : Below W.heap.size W W1) : Um g n u W1 :=
  ⟨fun i hi => (hb.cell (p := ⟨g, i, none⟩) h.2.2).trans (h.1 i hi), fun i => (World.frozen?_of_block (a := ⟨g, i, none⟩) (hb.block g h.2.2)).trans (h.2.1 i), Nat.lt_of_lt_of_le h.2.2 hb.size⟩
theorem Hm.off (h : Hm g n f W) {j : Nat} {v : Value} (hne : g ≠ k) : Hm g n f (W.setCell ⟨k, j, none⟩ v) :=
  ⟨fun i hi => (World.cell?_setCell_other _ _ _ _ (by intro e; injection e with e _; exact hne e.symm)).trans (h.1 i hi), fun i => by rw [World.frozen?_setCell]; exact h.2.1 i, by simpa [World.setCell] using h.2.2⟩
theorem Um.set (h : Um g n u W) (j : Nat) : Um g n (updB u j) (W.setCell ⟨g, j, none⟩ (.bool true)) := by
  refine ⟨fun i hi => ?_, fun i => by rw [World.frozen?_setCell]; exact h.2.1 i, by simpa [World.setCell] using h.2.2⟩
  rw [set_cell W g j i _ _ (h.1 i hi)]
  unfold updB
  split <;> rfl
theorem Hm.frow {xs : List Nat} (h : Hm g xs.length (fun i => xs.getD i 0) W) (hc : xs.length ≤ c) (hm : c ≤ maxLen) : FRow W (some ⟨g, 0, none⟩) xs.length c xs :=
  ⟨rfl, hc, hm, fun _ => ⟨g, 0, rfl, h.2.2, fun i hi => by rw [Nat.zero_add]; exact h.1 i hi⟩⟩
end
theorem boolInfo : (Tryd.prog.info? 4).map (fun i => (i.zero, i.size, i.bytes)) = some (some (.bool false), 1, 1) := by kernel_rfl
theorem make_bools (n : Nat) (hn : n ≤ 1000) (W : World) : (Instr.makeSlice 42 (.int .i64 (n : Int)) (.int .i64 (n : Int))).run Tryd.prog W = .ok (.slice (some ⟨W.heap.size, 0, none⟩) n n) (W.alloc (.cells (madeCells #[.bool false] n) 4)) := by
  obtain ⟨i0, hi, hz0, hz1, hz2⟩ := info_parts boolInfo
  have := run_make (P := Tryd.prog) W 42 4 i0 _ Tryd.underlying42 hi hz0 .i64 .i64 n n (by omega) (by omega) (by rw [hz2]; omega) (by omega)
  rw [hz1] at this
  simpa [Value.cells] using this
theorem Um.made (W : World) (n : Nat) : Um W.heap.size n (fun _ => false) (W.alloc (.cells (madeCells #[.bool false] n) 4)) := by
  have hB : Fl.Blk (W.alloc (.cells (madeCells #[.bool false] n) 4)) W.heap.size 4 (madeCells #[.bool false] n) := Fl.Blk.new _ _ _
  refine ⟨fun i hi => ?_, fun i => hB.frozen i, hB.lt⟩
  rw [hB.cell i]
  simp [madeCells, hi, Nat.mod_one]

/-- The round i of FnSorted. -/
def So (w : World) (N gz gi gu : Nat) (z f : Nat → Nat) (i : Nat) (u : Nat → Bool) (W : World) : Prop :=
  Hm gz N z W ∧ Hm gi N f W ∧ Um gu N u W ∧ Used N (fun j => cn (z j)) f i u ∧ Below w.heap.size w W
section
variable {w W W1 : World} {N gz gi gu i : Nat} {z f : Nat → Nat} {u : Nat → Bool}
theorem So.below (h : So w N gz gi gu z f i u W) (hb : Below W.heap.size W W1) : So w N gz gi gu z f i u W1 :=
  ⟨h.1.below hb, h.2.1.below hb, h.2.2.1.below hb, h.2.2.2.1, Fl.chain h.2.2.2.2 hb⟩
theorem So.step (h : So w N gz gi gu z f i u W) (hz : gz ≠ gu) (hi : gi ≠ gu) (hw : w.heap.size ≤ gu) {j : Nat} (hiN : i < N) (hj : j < N) (hu : u j = false) (he : cn (z j) = f i) : So w N gz gi gu z f (i + 1) (updB u j) (W.setCell ⟨gu, j, none⟩ (.bool true)) :=
  ⟨h.1.off hz, h.2.1.off hi, h.2.2.1.set j, h.2.2.2.1.step hiN hj hu he, h.2.2.2.2.setCell (p := ⟨gu, j, none⟩) hw _⟩
end
end Go.Proofs.YtmjnnjjmfedlbaaDoor
