/-
  markPairS writes numbers into a slice of pairs, heldPairS tells that they stand.
-/
import Derived.Test.YthoajaibaedjeaaPt
import Derived.Test.YthoajaibaedjeaaOp
import Derived.Test.YthoajaibaedjeaaWi
namespace Go.Proofs.Ythoajaibaedjeaa
set_option linter.unusedSimpArgs false
set_option linter.unusedVariables false
open Go.RowKit
open Go.Fl (PRow flat fl wi isNan_wi flat_at flat_length)
open Go.Dr (Blk Kp)

/-- The numbers from k on, in pairs. -/
def marks (k : Int) (n : Nat) : List (Nat × Nat) := (List.range n).map fun (i : Nat) => (floatOfInt .f64 (k + 2 * (i : Int)), floatOfInt .f64 (k + 2 * (i : Int) + 1))
theorem marks_at {k : Int} {n i : Nat} (h : i < n) : (marks k n).getD i (0, 0) = (floatOfInt .f64 (k + 2 * (i : Int)), floatOfInt .f64 (k + 2 * (i : Int) + 1)) := by
  simp [marks, List.getD_eq_getElem?_getD, h]

set_option maxHeartbeats 1600000 in
theorem held_any (A : Option Addr) (n c : Nat) (w : World) (h : PRow w A n c (marks 1 n)) (hn : n ≤ 1048576) :
    Calls Try.prog 40 #[.slice A n c, .int .i64 1] w fun e w' => e = .returned (.int .i64 (1 + 2 * (n : Int))) ∧ w' = w := by
  have HR := Lib.hid h.2.2.2
  clear h
  go_enter Try.func40, Try.ntmps40
  go_wp2
  go_loop [1, 5] (fun k i => ∃ j : Nat, j ≤ n ∧ i = .int .i64 (j : Int) ∧ k = .int .i64 (1 + 2 * (j : Int))) (fun _ i => n - (intOf i).toNat)
  case atStart => exact ⟨0, Nat.zero_le _, rfl, rfl⟩
  case round =>
    obtain ⟨j, hj, rfl, rfl⟩ := hrel
    by_cases hlt : j < n
    · obtain ⟨b, off, rfl, hb, hc⟩ := HR.out (by omega)
      have hcj := hc j hlt
      rw [marks_at hlt] at hcj
      obtain ⟨hc0, hc1⟩ := hcj
      clear hc
      have d : decide ((j : Int) < (n : Int)) = true := decide_eq_true (by omega)
      have w1 : wrap64 (1 + 2 * (j : Int) + 1) = 1 + 2 * (j : Int) + 1 := IntWalk.wrap64_in _ ⟨by omega, by omega⟩
      have w2 : wrap64 (1 + 2 * (j : Int) + 1 + 1) = 1 + 2 * ((j + 1 : Nat) : Int) := by rw [IntWalk.wrap64_in _ ⟨by omega, by omega⟩]; omega
      have w3 : wrap64 ((j : Int) + 1) = ((j + 1 : Nat) : Int) := by rw [IntWalk.wrap64_in _ ⟨by omega, by omega⟩]; omega
      have e1 : Fl.ford (floatOfInt .f64 (1 + 2 * (j : Int))) (floatOfInt .f64 (1 + 2 * (j : Int))) = some .eq := Fl.ford_self (isNan_wi (a := 1 + 2 * (j : Int)) (by omega))
      have e2 : Fl.ford (floatOfInt .f64 (1 + 2 * (j : Int) + 1)) (floatOfInt .f64 (1 + 2 * (j : Int) + 1)) = some .eq := Fl.ford_self (isNan_wi (a := 1 + 2 * (j : Int) + 1) (by omega))
      simp only [Fl.ford] at e1 e2
      go_wp2
      go_round
      case rel => exact ⟨j + 1, by omega, by first | rfl | go_num, by first | rfl | go_num⟩
      case measure => simp [intOf]; omega
    · have hkn : j = n := by omega
      subst hkn
      go_wp2
      go_ret
      exact ⟨rfl, rfl⟩

/-- The first j of n pairs are marked, the others read as before; only the slice's block has turned. -/
def MarkAt (w : World) (b off n c : Nat) (ps : List (Nat × Nat)) (j : Nat) (W : World) : Prop :=
  PRow W (some ⟨b, off, none⟩) n c (marks 1 j ++ ps.drop j) ∧ (∀ i, W.frozen? ⟨b, i, none⟩ = false) ∧ Kp w W b ∧ Below b w W

theorem _root_.Go.Fl.PRow.at_ {w : World} {b off n c i : Nat} {ps : List (Nat × Nat)} (h : PRow w (some ⟨b, off, none⟩) n c ps) (hi : i < n) : b < w.heap.size ∧ w.cell? ⟨b, off + i * 2, none⟩ = some (fl (ps.getD i (0, 0)).1) ∧ w.cell? ⟨b, off + i * 2 + 1, none⟩ = some (fl (ps.getD i (0, 0)).2) := by
  obtain ⟨b1, off1, e, hb, hc⟩ := h.2.2.2 (by omega)
  cases e
  exact ⟨hb, hc i hi⟩
theorem set_other (W : World) (b i j : Nat) (v : Value) (h : i ≠ j) : (W.setCell ⟨b, i, none⟩ v).cell? ⟨b, j, none⟩ = W.cell? ⟨b, j, none⟩ :=
  World.cell?_setCell_other _ _ _ _ (by intro e; injection e with _ e2; exact h e2)
theorem MarkAt.step {w W : World} {b off n c j : Nat} {ps : List (Nat × Nat)} (h : MarkAt w b off n c ps j W) (hl : ps.length = n) (hj : j < n) :
    MarkAt w b off n c ps (j + 1) ((W.setCell ⟨b, off + j * 2, none⟩ (fl (floatOfInt .f64 (1 + 2 * (j : Int))))).setCell ⟨b, off + j * 2 + 1, none⟩ (fl (floatOfInt .f64 (1 + 2 * (j : Int) + 1)))) := by
  obtain ⟨h1, h2, h3, h4⟩ := h
  have hcells : ∀ i, i < n → _ := fun i hi => (h1.at_ hi).2
  have hb := (h1.at_ hj).1
  refine ⟨⟨?_, h1.2.1, h1.2.2.1, fun _ => ⟨b, off, rfl, ?_, fun i hi => ?_⟩⟩, ?_, (h3.set_ _ _).set_ _ _, (h4.setCell (p := ⟨b, off + j * 2, none⟩) (Nat.le_refl _) _).setCell (p := ⟨b, off + j * 2 + 1, none⟩) (Nat.le_refl _) _⟩
  · simp [marks, hl]; omega
  · simpa [World.setCell] using hb
  · have hm : (marks 1 (j + 1) ++ ps.drop (j + 1)).getD i (0, 0) = if i ≤ j then (floatOfInt .f64 (1 + 2 * (i : Int)), floatOfInt .f64 (1 + 2 * (i : Int) + 1)) else ps.getD i (0, 0) := by
      have hml : (marks 1 (j + 1)).length = j + 1 := by simp [marks]
      by_cases hij : i ≤ j
      · rw [if_pos hij, List.getD_eq_getElem?_getD, List.getElem?_append_left (by omega), ← List.getD_eq_getElem?_getD, marks_at (by omega)]
      · rw [if_neg hij, List.getD_eq_getElem?_getD, List.getElem?_append_right (by omega), List.getElem?_drop, hml, show j + 1 + (i - (j + 1)) = i by omega, List.getD_eq_getElem?_getD]
    have hm0 : (marks 1 j ++ ps.drop j).getD i (0, 0) = if i < j then (floatOfInt .f64 (1 + 2 * (i : Int)), floatOfInt .f64 (1 + 2 * (i : Int) + 1)) else ps.getD i (0, 0) := by
      have hml : (marks 1 j).length = j := by simp [marks]
      by_cases hij : i < j
      · rw [if_pos hij, List.getD_eq_getElem?_getD, List.getElem?_append_left (by omega), ← List.getD_eq_getElem?_getD, marks_at (by omega)]
      · rw [if_neg hij, List.getD_eq_getElem?_getD, List.getElem?_append_right (by omega), List.getElem?_drop, hml, show j + (i - j) = i by omega, List.getD_eq_getElem?_getD]
    have hc := hcells i hi
    have hcj := hcells j hj
    rw [hm]
    rw [hm0] at hc
    by_cases e : i = j
    · subst e
      rw [if_pos (Nat.le_refl _)]
      refine ⟨?_, ?_⟩
      · rw [set_other _ _ _ _ _ (by omega)]
        exact World.cell?_setCell_same _ _ _ hcj.1
      · refine World.cell?_setCell_same (u := fl ((marks 1 i ++ ps.drop i).getD i (0, 0)).2) _ _ _ ?_
        rw [set_other _ _ _ _ _ (by omega)]
        exact hcj.2
    · have e2 : (if i ≤ j then (floatOfInt .f64 (1 + 2 * (i : Int)), floatOfInt .f64 (1 + 2 * (i : Int) + 1)) else ps.getD i (0, 0)) = if i < j then (floatOfInt .f64 (1 + 2 * (i : Int)), floatOfInt .f64 (1 + 2 * (i : Int) + 1)) else ps.getD i (0, 0) := by
        by_cases h1 : i < j
        · rw [if_pos h1, if_pos (by omega)]
        · rw [if_neg h1, if_neg (by omega)]
      rw [e2]
      refine ⟨?_, ?_⟩
      · rw [set_other _ _ _ _ _ (by omega), set_other _ _ _ _ _ (by omega)]
        exact hc.1
      · rw [set_other _ _ _ _ _ (by omega), set_other _ _ _ _ _ (by omega)]
        exact hc.2
  · intro i
    rw [World.frozen?_setCell, World.frozen?_setCell]
    exact h2 i

set_option maxHeartbeats 1600000 in
theorem mark_any (b off n c : Nat) (ps : List (Nat × Nat)) (w : World) (h : PRow w (some ⟨b, off, none⟩) n c ps) (hf : ∀ i, w.frozen? ⟨b, i, none⟩ = false) (hn : n ≤ 1048576) :
    Calls Try.prog 39 #[.slice (some ⟨b, off, none⟩) n c, .int .i64 1] w fun e w' => e = .returned (.int .i64 (1 + 2 * (n : Int))) ∧ MarkAt w b off n c ps n w' := by
  have HR := Lib.hid (show MarkAt w b off n c ps 0 w from ⟨by simpa [marks] using h, hf, Kp.refl _ _, Below.refl _ _⟩)
  have hl := h.1
  clear h hf
  go_enter Try.func39, Try.ntmps39
  go_wp2
  go_loopw [1, 5] (fun k i wr => ∃ j : Nat, j ≤ n ∧ i = .int .i64 (j : Int) ∧ k = .int .i64 (1 + 2 * (j : Int)) ∧ Hid (MarkAt w b off n c ps j wr)) (fun _ i _ => n - (intOf i).toNat)
  case atStart => exact ⟨0, Nat.zero_le _, rfl, rfl, HR.out⟩
  case round =>
    rename_i wr
    clear HR
    obtain ⟨j, hj, rfl, rfl, HR⟩ := hrel
    by_cases hlt : j < n
    · obtain ⟨hb, hc⟩ := HR.out.1.at_ hlt
      obtain ⟨hc0, hc1⟩ := hc
      have f0 := HR.out.2.1 (off + j * 2)
      have f1 := HR.out.2.1 (off + j * 2 + 1)
      have d : decide ((j : Int) < (n : Int)) = true := decide_eq_true (by omega)
      have w1 : wrap64 (1 + 2 * (j : Int) + 1) = 1 + 2 * (j : Int) + 1 := IntWalk.wrap64_in _ ⟨by omega, by omega⟩
      have w2 : wrap64 (1 + 2 * (j : Int) + 1 + 1) = 1 + 2 * ((j + 1 : Nat) : Int) := by rw [IntWalk.wrap64_in _ ⟨by omega, by omega⟩]; omega
      have w3 : wrap64 ((j : Int) + 1) = ((j + 1 : Nat) : Int) := by rw [IntWalk.wrap64_in _ ⟨by omega, by omega⟩]; omega
      go_wp2
      go_roundw
      case rel => exact ⟨j + 1, by omega, by first | rfl | go_num, by first | rfl | go_num, HR.out.step hl hlt⟩
      case measure => simp [intOf]; omega
    · have hkn : j = n := by omega
      subst hkn
      go_wp2
      go_ret
      exact ⟨rfl, HR.out⟩
end Go.Proofs.Ythoajaibaedjeaa
