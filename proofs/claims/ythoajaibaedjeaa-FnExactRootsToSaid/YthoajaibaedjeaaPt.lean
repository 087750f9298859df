/-
  Contracts of the laws' helpers on slices of pairs: toPairS copies into new memory, eqPairS tells equal lists to be equal, szPairS takes the length away.
-/
import Derived.Test.YthoajaibaedjeaaBe
import Derived.Test.YthoajaibaedjeaaPs
import Derived.Deep.RegionHeld3
import Derived.Deep.RegionWith
import Derived.Deep.QuietTactic
import Derived.BigQuiet
namespace Go.Proofs.Ythoajaibaedjeaa
set_option linter.unusedSimpArgs false
set_option linter.unusedVariables false
open Go.RowKit Go.Fl

abbrev PB (w : World) (g : Nat) (ps : List (Nat × Nat)) : Prop := PBlk w g 25 ps

def RetPS (ps : List (Nat × Nat)) (B : Nat) (w : World) (e : Ending) (w' : World) : Prop := ∃ g, e = .returned (.slice (some ⟨g, 0, none⟩) ps.length ps.length) ∧ B ≤ g ∧ PB w' g ps ∧ Below B w w'

theorem pairInfo : (Try.prog.info? 25).map (fun i => (i.zero, i.size, i.bytes)) = some (some (.agg #[.float .f64 0, .float .f64 0]), 2, 16) := by kernel_rfl

theorem sz_any (A : Option Addr) (n c : Nat) (w : World) (hn : n ≤ 1048576) :
    Calls Try.prog 30 #[.slice A n c, .int .i64 1048576] w fun e w' => e = .returned (.int .i64 (1048576 - (n : Int))) ∧ w' = w := by
  have hw : wrap64 (1048576 - (n : Int)) = 1048576 - (n : Int) := IntWalk.wrap64_in _ ⟨by omega, by omega⟩
  have d : decide (1048576 - (n : Int) < 0) = false := decide_eq_false (by omega)
  clear hn
  go_enter Try.func30, Try.ntmps30
  go_wp2
  all_goals (go_ret; exact ⟨by simp [hw], rfl⟩)

theorem sz_big (A : Option Addr) (n c : Nat) (w : World) (hn : 1048576 < n) (hm : n ≤ maxLen) :
    Calls Try.prog 30 #[.slice A n c, .int .i64 1048576] w fun e w' => e = .returned (.int .i64 (-1)) ∧ w' = w := by
  have hw : wrap64 (1048576 - (n : Int)) = 1048576 - (n : Int) := IntWalk.wrap64_in _ ⟨by unfold maxLen at hm; omega, by omega⟩
  have d : decide (1048576 - (n : Int) < 0) = true := decide_eq_true (by omega)
  clear hn hm
  go_enter Try.func30, Try.ntmps30
  go_wp2
  all_goals (go_ret; exact ⟨rfl, rfl⟩)

set_option maxHeartbeats 400000 in
theorem toPairS_any (A : Option Addr) (n c : Nat) (ps : List (Nat × Nat)) (w : World) (h : PRow w A n c ps) (hn : n ≤ 1048576) :
    Calls Try.prog 32 #[.slice A n c] w (RetPS ps w.heap.size w) := by
  have HX := Lib.hid h.1
  have HR := Lib.hid h
  clear h
  obtain ⟨i0, hi, hz0, hz1, hz2⟩ := info_parts pairInfo
  have hmk : ∀ W, (Instr.makeSlice 47 (.int .i64 (n : Int)) (.int .i64 (n : Int))).run Try.prog W = .ok (.slice (some ⟨W.heap.size, 0, none⟩) n n) (W.alloc (.cells (madeCells #[.float .f64 0, .float .f64 0] (n * 2)) 25)) := by
    intro W
    have := run_make (P := Try.prog) W 47 25 i0 _ Try.underlying47 hi hz0 .i64 .i64 n n (by omega) (by omega) (by rw [hz2]; omega) (by omega)
    rw [hz1] at this
    simpa [Value.cells] using this
  clear hi hz0 hz1 hz2
  go_enter Try.func32, Try.ntmps32
  go_wp2
  clear hmk
  go_loopw [4] (fun i wr => ∃ k cs, k ≤ n ∧ i = .int .i64 ((k : Nat) : Int) ∧ Hid (Blk wr w.heap.size 25 cs ∧ FilledP cs ps k ∧ Below w.heap.size w wr)) (fun i _ => n - (intOf i).toNat)
  case atStart => exact ⟨0, _, Nat.zero_le _, rfl, ⟨Blk.new _ _ _, ⟨by rw [size_madeCells, HX.out], by intro j hj; omega⟩, (Below.refl _ _).alloc (Nat.le_refl _) _⟩⟩
  case round =>
    rename_i wr
    obtain ⟨k, cs, hk, rfl, HK⟩ := hrel
    by_cases hlt : k < n
    · obtain ⟨b, off, rfl, hb, hc⟩ := HR.out.2.2.2 (by omega)
      have hcell0 : wr.cell? ⟨b, off + k * 2, none⟩ = some (fl (ps.getD k (0, 0)).1) := by rw [HK.out.2.2.cell (p := ⟨b, off + k * 2, none⟩) hb]; exact (hc k hlt).1
      have hcell1 : wr.cell? ⟨b, off + k * 2 + 1, none⟩ = some (fl (ps.getD k (0, 0)).2) := by rw [HK.out.2.2.cell (p := ⟨b, off + k * 2 + 1, none⟩) hb]; exact (hc k hlt).2
      clear hc
      have hHK := HK.out
      go_wp2_with (go_at_call 12; (with_reducible refine (toPair_any _ _ _).mono ?_); rintro e w1 ⟨rfl, hbn⟩; have HK1 := Lib.hid (show Blk w1 w.heap.size 25 cs ∧ Below w.heap.size w w1 from ⟨HK.out.1.below hbn HK.out.1.lt, HK.out.2.2.trans (hbn.mono HK.out.2.2.size)⟩); clear hbn; have hfz0 : w1.frozen? ⟨w.heap.size, k * 2, none⟩ = false := HK1.out.1.frozen _; have hfz1 : w1.frozen? ⟨w.heap.size, k * 2 + 1, none⟩ = false := HK1.out.1.frozen _; obtain ⟨v0, hv0⟩ : ∃ v, w1.cell? ⟨w.heap.size, k * 2, none⟩ = some v := ⟨_, (by rw [HK1.out.1.cell, Array.getElem?_eq_getElem (by rw [HK.out.2.1.1, HX.out]; omega)])⟩; obtain ⟨v1, hv1⟩ : ∃ v, w1.cell? ⟨w.heap.size, k * 2 + 1, none⟩ = some v := ⟨_, (by rw [HK1.out.1.cell, Array.getElem?_eq_getElem (by rw [HK.out.2.1.1, HX.out]; omega)])⟩)
      go_roundw
      case rel => exact ⟨k + 1, _, by omega, by go_num, ⟨(HK1.out.1.set_ _ _).set_ _ _, HK.out.2.1.step (by rw [HX.out]; exact hlt), (HK1.out.2.setCell (Nat.le_refl _) _).setCell (Nat.le_refl _) _⟩⟩
      case measure => simp [intOf]; omega
    · have hkn : k = n := by omega
      subst hkn
      go_wp2
      go_ret
      have hx := HX.out
      subst hx
      have hall := HK.out.2.1.all
      subst hall
      exact ⟨_, rfl, Nat.le_refl _, HK.out.1, HK.out.2.2⟩

/-- Two lists of pairs that a program cannot tell apart. -/
def pleq (xs ys : List (Nat × Nat)) : Prop := xs.length = ys.length ∧ ∀ j, j < xs.length → peq (xs.getD j (0, 0)) (ys.getD j (0, 0))
theorem pleq.refl (xs : List (Nat × Nat)) : pleq xs xs := ⟨rfl, fun _ _ => peq.refl _⟩

set_option maxHeartbeats 800000 in
theorem eqPairS_any (A A' : Option Addr) (n c n' c' : Nat) (xs ys : List (Nat × Nat)) (w : World) (h : PRow w A n c xs) (h' : PRow w A' n' c' ys) (hl : pleq xs ys) (hn : n ≤ 1048576) :
    Calls Try.prog 34 #[.slice A n c, .slice A' n' c'] w fun e w' => e = .returned (.bool true) ∧ Below w.heap.size w w' := by
  obtain rfl : n = n' := by rw [← h.1, ← h'.1]; exact hl.1
  have HX := Lib.hid h.1
  have HR := Lib.hid h.2.2.2
  have HR' := Lib.hid h'.2.2.2
  have HL := Lib.hid hl.2
  clear h h' hl
  go_enter Try.func34, Try.ntmps34
  go_wp2
  go_loopw [5] (fun i wr => ∃ k, k ≤ n ∧ i = .int .i64 ((k : Nat) : Int) ∧ Hid (Below w.heap.size w wr)) (fun i _ => n - (intOf i).toNat)
  case atStart => exact ⟨0, Nat.zero_le _, rfl, Below.refl _ _⟩
  case round =>
    rename_i wr
    obtain ⟨k, hk, rfl, HK⟩ := hrel
    by_cases hlt : k < n
    · obtain ⟨b, off, rfl, hb, hc⟩ := HR.out (by omega)
      obtain ⟨b', off', rfl, hb', hc'⟩ := HR'.out (by omega)
      have hcell0 : wr.cell? ⟨b, off + k * 2, none⟩ = some (fl (xs.getD k (0, 0)).1) := by rw [HK.out.cell (p := ⟨b, off + k * 2, none⟩) hb]; exact (hc k hlt).1
      have hcell1 : wr.cell? ⟨b, off + k * 2 + 1, none⟩ = some (fl (xs.getD k (0, 0)).2) := by rw [HK.out.cell (p := ⟨b, off + k * 2 + 1, none⟩) hb]; exact (hc k hlt).2
      have hcell0' : wr.cell? ⟨b', off' + k * 2, none⟩ = some (fl (ys.getD k (0, 0)).1) := by rw [HK.out.cell (p := ⟨b', off' + k * 2, none⟩) hb']; exact (hc' k hlt).1
      have hcell1' : wr.cell? ⟨b', off' + k * 2 + 1, none⟩ = some (fl (ys.getD k (0, 0)).2) := by rw [HK.out.cell (p := ⟨b', off' + k * 2 + 1, none⟩) hb']; exact (hc' k hlt).2
      clear hc hc'
      have HE := Lib.hid (HL.out k (by rw [HX.out]; exact hlt))
      generalize xs.getD k (0, 0) = x at hcell0 hcell1 HE
      generalize ys.getD k (0, 0) = y at hcell0' hcell1' HE
      obtain ⟨x0, x1⟩ := x
      obtain ⟨y0, y1⟩ := y
      have hbw : b < wr.heap.size := Nat.lt_of_lt_of_le hb HK.out.size
      have hbw' : b' < wr.heap.size := Nat.lt_of_lt_of_le hb' HK.out.size
      go_wp2_with fail
      go_region_held3 (fun wx => (∀ z y, z < wr.heap.size → wx.cell? ⟨z, y, none⟩ = wr.cell? ⟨z, y, none⟩) ∧ Below wr.heap.size wr wx)
        (first
          | exact keeps0 _
          | (refine keepsB hbn ?_; assumption))
        (first
          | (go_at_call 14; refine (eqPair_any _ _ _ _ HE.out _).mono ?_; rintro e w1 ⟨rfl, hbn⟩))
      have HB := Lib.hid (stays_of (by assumption : (∀ z y, z < wr.heap.size → World.cell? _ ⟨z, y, none⟩ = wr.cell? ⟨z, y, none⟩) ∧ Below wr.heap.size wr _))
      go_wp2
      go_roundw
      case rel => exact ⟨k + 1, by omega, by go_num, HK.out.trans (HB.out.mono HK.out.size)⟩
      case measure => simp [intOf]; omega
    · have hkn : k = n := by omega
      subst hkn
      go_wp2
      go_ret
      exact ⟨rfl, HK.out⟩
end Go.Proofs.Ythoajaibaedjeaa
