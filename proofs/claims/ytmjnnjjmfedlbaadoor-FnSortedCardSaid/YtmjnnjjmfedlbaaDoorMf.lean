/-
  markFloat64S writes numbers into a slice of floats, heldFloat64S tells that they stand.
-/
import Derived.Test.YtmjnnjjmfedlbaaDoorSz
import Derived.Test.YtmjnnjjmfedlbaaDoorWi
namespace Go.Proofs.YtmjnnjjmfedlbaaDoor
set_option linter.unusedSimpArgs false
set_option linter.unusedVariables false
open Go.RowKit
open Go.Fl (fl isNan feq FRow wi isNan_wi)
open Go.Dr (Kp)

set_option maxHeartbeats 1600000 in
theorem heldF (A : Option Addr) (n c : Nat) (w : World) (h : Fl.Row w A n c fun i => fl (floatOfInt .f64 (1 + (i : Int)))) (hn : n ≤ 1048576) :
    Calls Tryd.prog 28 #[.slice A n c, .int .i64 1] w fun e w' => e = .returned (.int .i64 (1 + (n : Int))) ∧ w' = w := by
  have HR := Lib.hid h.2.2
  clear h
  go_enter Tryd.func28, Tryd.ntmps28
  go_wp2
  go_loop [1, 5] (fun k i => ∃ j : Nat, j ≤ n ∧ i = .int .i64 (j : Int) ∧ k = .int .i64 (1 + (j : Int))) (fun _ i => n - (intOf i).toNat)
  case atStart => exact ⟨0, Nat.zero_le _, rfl, rfl⟩
  case round =>
    obtain ⟨j, hj, rfl, rfl⟩ := hrel
    by_cases hlt : j < n
    · obtain ⟨b, off, rfl, hb, hc⟩ := HR.out (by omega)
      have hcj := hc j hlt
      clear hc
      have d : decide ((j : Int) < (n : Int)) = true := decide_eq_true (by omega)
      have w1 : wrap64 (1 + (j : Int) + 1) = 1 + ((j + 1 : Nat) : Int) := by rw [IntWalk.wrap64_in _ ⟨by omega, by omega⟩]; omega
      have w3 : wrap64 ((j : Int) + 1) = ((j + 1 : Nat) : Int) := by rw [IntWalk.wrap64_in _ ⟨by omega, by omega⟩]; omega
      have e1 : Fl.ford (floatOfInt .f64 (1 + (j : Int))) (floatOfInt .f64 (1 + (j : Int))) = some .eq := Fl.ford_self (isNan_wi (a := 1 + (j : Int)) (by omega))
      simp only [Fl.ford] at e1
      go_wp2
      go_round
      case rel => exact ⟨j + 1, by omega, by first | rfl | go_num, by first | rfl | go_num⟩
      case measure => simp [intOf]; omega
    · have hkn : j = n := by omega
      subst hkn
      go_wp2
      go_ret
      exact ⟨rfl, rfl⟩

/-- The first j of n words are marked, the others as before; only block g has turned. -/
def Mk (w : World) (g n : Nat) (f : Nat → Nat) (j : Nat) (W : World) : Prop :=
  (∀ i, i < n → W.cell? ⟨g, i, none⟩ = some (fl (if i < j then floatOfInt .f64 (1 + (i : Int)) else f i))) ∧ (∀ i, W.frozen? ⟨g, i, none⟩ = false) ∧ Kp w W g ∧ Below g w W ∧ g < W.heap.size
theorem Mk.step {w W : World} {g n j : Nat} {f : Nat → Nat} (h : Mk w g n f j W) (hj : j < n) : Mk w g n f (j + 1) (W.setCell ⟨g, j, none⟩ (fl (floatOfInt .f64 (1 + (j : Int))))) := by
  obtain ⟨h1, h2, h3, h4, h5⟩ := h
  refine ⟨fun i hi => ?_, fun i => ?_, h3.set_ _ _, h4.setCell (p := ⟨g, j, none⟩) (Nat.le_refl _) _, by simpa [World.setCell] using h5⟩
  · rw [set_cell W g j i _ _ (h1 i hi)]
    by_cases e : i = j
    · subst e; rw [if_pos rfl, if_pos (by omega)]
    · rw [if_neg e]
      by_cases h : i < j
      · rw [if_pos h, if_pos (by omega)]
      · rw [if_neg h, if_neg (by omega)]
  · rw [World.frozen?_setCell]; exact h2 i
theorem Mk.row {w W : World} {g n c : Nat} {f : Nat → Nat} (h : Mk w g n f n W) (hc : n ≤ c) (hm : c ≤ maxLen) : Fl.Row W (some ⟨g, 0, none⟩) n c fun i => fl (floatOfInt .f64 (1 + (i : Int))) := by
  refine ⟨hc, hm, fun _ => ⟨g, 0, rfl, h.2.2.2.2, fun i hi => ?_⟩⟩
  rw [Nat.zero_add, h.1 i hi, if_pos hi]

set_option maxHeartbeats 1600000 in
theorem markF (g n c : Nat) (f : Nat → Nat) (w : World) (hc : ∀ i, i < n → w.cell? ⟨g, i, none⟩ = some (fl (f i))) (hf : ∀ i, w.frozen? ⟨g, i, none⟩ = false) (hg : g < w.heap.size) (hn : n ≤ 1048576) :
    Calls Tryd.prog 27 #[.slice (some ⟨g, 0, none⟩) n c, .int .i64 1] w fun e w' => e = .returned (.int .i64 (1 + (n : Int))) ∧ Mk w g n f n w' := by
  have HR := Lib.hid (show Mk w g n f 0 w from ⟨fun i hi => by rw [if_neg (by omega)]; exact hc i hi, hf, Kp.refl _ _, Below.refl _ _, hg⟩)
  clear hc hf hg
  go_enter Tryd.func27, Tryd.ntmps27
  go_wp2
  go_loopw [1, 5] (fun k i wr => ∃ j : Nat, j ≤ n ∧ i = .int .i64 (j : Int) ∧ k = .int .i64 (1 + (j : Int)) ∧ Hid (Mk w g n f j wr)) (fun _ i _ => n - (intOf i).toNat)
  case atStart => exact ⟨0, Nat.zero_le _, rfl, rfl, HR.out⟩
  case round =>
    rename_i wr
    clear HR
    obtain ⟨j, hj, rfl, rfl, HR⟩ := hrel
    by_cases hlt : j < n
    · have hc0 := HR.out.1 j hlt
      have f0 := HR.out.2.1 j
      generalize (if j < j then floatOfInt .f64 (1 + (j : Int)) else f j) = z at hc0
      have d : decide ((j : Int) < (n : Int)) = true := decide_eq_true (by omega)
      have w1 : wrap64 (1 + (j : Int) + 1) = 1 + ((j + 1 : Nat) : Int) := by rw [IntWalk.wrap64_in _ ⟨by omega, by omega⟩]; omega
      have w3 : wrap64 ((j : Int) + 1) = ((j + 1 : Nat) : Int) := by rw [IntWalk.wrap64_in _ ⟨by omega, by omega⟩]; omega
      go_wp2
      go_roundw
      case rel => exact ⟨j + 1, by omega, by first | rfl | go_num, by first | rfl | go_num, HR.out.step hlt⟩
      case measure => simp [intOf]; omega
    · have hkn : j = n := by omega
      subst hkn
      go_wp2
      go_ret
      exact ⟨rfl, HR.out⟩

theorem markF_nil (w : World) : Calls Tryd.prog 27 #[.slice none 0 0, .int .i64 1] w fun e w' => e = .returned (.int .i64 1) ∧ w' = w := by
  go_enter Tryd.func27, Tryd.ntmps27
  go_wp2
  go_loop [1, 5] (fun k i => k = .int .i64 1 ∧ i = .int .i64 0) (fun _ i => 0)
  case atStart => exact ⟨rfl, rfl⟩
  case round =>
    obtain ⟨rfl, rfl⟩ := hrel
    go_wp2
    go_ret
    exact ⟨rfl, rfl⟩
theorem heldF_nil (w : World) : Calls Tryd.prog 28 #[.slice none 0 0, .int .i64 1] w fun e w' => e = .returned (.int .i64 1) ∧ w' = w :=
  heldF none 0 0 w ⟨Nat.le_refl _, Nat.zero_le _, fun h => absurd h (by omega)⟩ (by decide)

/-- What a sort left reads as a list. -/
def lst (n : Nat) (f : Nat → Nat) : List Nat := (List.range n).map f
theorem lst_length (n : Nat) (f : Nat → Nat) : (lst n f).length = n := by simp [lst]
theorem lst_at {n i : Nat} (f : Nat → Nat) (h : i < n) : (lst n f).getD i 0 = f i := by simp [lst, List.getD_eq_getElem?_getD, h]
theorem Ss.frow {w W : World} {g n c : Nat} {f : Nat → Nat} (h : Ss w g n f W) (hc : n ≤ c) (hm : c ≤ maxLen) : FRow W (some ⟨g, 0, none⟩) n c (lst n f) := by
  refine ⟨lst_length n f, hc, hm, fun _ => ⟨g, 0, rfl, h.2.2.1, fun i hi => ?_⟩⟩
  rw [Nat.zero_add, h.1 i hi]
  show _ = some (fl ((lst n f).getD i 0))
  rw [lst_at f hi]
/-- Sorted rearrangements of words and of the same words made plain read alike. -/
theorem lst_leq {n : Nat} {f g h : Nat → Nat} (p : PermOn 0 n (fun i => cn (f i)) g) (q : PermOn 0 n f h) (sg : SortOn 0 n g) (sh : SortOn 0 n h) : leq (lst n g) (lst n h) := by
  have q' : PermOn 0 n (fun i => cn (f i)) (fun i => cn (h i)) := by
    obtain ⟨s, t, h1, h2, h3, h4⟩ := q
    exact ⟨s, t, h1, h2, h3, fun i => by show cn (h i) = cn (f (s i)); rw [h4]⟩
  have hk : ∀ v, kw (cn v) = kw v := fun v => by unfold kw; rw [cn_of (cn_feq v)]
  have sh' : SortOn 0 n (fun i => cn (h i)) := fun i j a b c => by rw [hk, hk]; exact sh i j a b c
  have he := sorted_one p q' sg sh'
  refine ⟨by rw [lst_length, lst_length], fun i hi => ?_⟩
  rw [lst_length] at hi
  rw [lst_at _ hi, lst_at _ hi]
  exact kw_feq ((he i hi).trans (hk _))
end Go.Proofs.YtmjnnjjmfedlbaaDoor
