/-
  The bits of a form and their order: the contracts of the program's small methods on a shape.
-/
import Derived.Test.YtmjnnjjmfedlbaaDoorOs
import Derived.Test.YtmjnnjjmfedlbaaDoorLd
import Derived.Test.YtmjnnjjmfedlbaaDoorDw
import Derived.Test.YtmjnnjjmfedlbaaDoorFl
import Derived.Deep.DeepCutAuto
import Derived.LoopTactic
namespace Go.Proofs.YtmjnnjjmfedlbaaDoor
set_option linter.unusedSimpArgs false
set_option linter.unusedVariables false
open Go.RowKit Go.Dr

theorem iSign_1 (w : World) : Calls Tryd.prog 46 #[shV 16 11 15] w fun e w' => e = .returned (.int .u64 32768) ∧ Below w.heap.size w w' := by
  unfold shV
  go_enter Tryd.func46, Tryd.ntmps46
  go_wp2
  go_ret
  refine ⟨rfl, ?_⟩
  repeat' (first | (with_reducible exact Below.refl _ _) | (with_reducible assumption) | (with_reducible refine below_drewN ?_ _) | (with_reducible refine Below.drew ?_) | (with_reducible refine Below.alloc ?_ ?_ _) | (with_reducible refine Below.setCell ?_ ?_ _) | (simp; done) | (simp; omega))

set_option maxRecDepth 8000 in
set_option maxHeartbeats 1600000 in
theorem iPlace_1 {b : Nat} (hb : b < 65536) (w : World) : Calls Tryd.prog 64 #[shV 16 11 15, .int .u64 (b : Int)] w fun e w' => e = .returned (.tuple #[.bool (decide (32768 ≤ b)), .int .u64 ((b % 32768 : Nat) : Int)]) ∧ Below w.heap.size w w' := by
  have xa : Go.bits .and .u64 (b : Int) 32768 = ((b / 32768 * 32768 : Nat) : Int) := and_pow (s := 15) (by decide) hb
  have xn : Go.bits .andNot .u64 (b : Int) 32768 = ((b % 32768 : Nat) : Int) := andNot_pow (s := 15) (by decide) hb
  have tb : (Go.bits .and .u64 (b : Int) 32768 != 0) = decide (32768 ≤ b) := by
    rw [xa]
    by_cases h : 32768 ≤ b
    · rw [decide_eq_true h, bne_iff_ne]; omega
    · rw [decide_eq_false h, bne_eq_false_iff_eq]; omega
  clear xa hb
  unfold shV
  go_enter Tryd.func64, Tryd.ntmps64
  go_upto_region 1 with fail
  obtain ⟨W0, hW0⟩ : ∃ W0, W0 = w.alloc (.cells #[.int .i64 16, .int .i64 11, .int .i64 15] 48) := ⟨_, rfl⟩
  have hb0 : Blk W0 w.heap.size 48 #[.int .i64 16, .int .i64 11, .int .i64 15] := by rw [hW0]; exact Blk.new _ _ _
  have HW0 := Lib.hid (show Below w.heap.size w W0 by rw [hW0]; exact (Below.refl _ _).alloc (Nat.le_refl _) _)
  have c0 : W0.cell? ⟨w.heap.size, 0, none⟩ = some (.int .i64 16) := hb0.cell 0
  have c1 : W0.cell? ⟨w.heap.size, 1, none⟩ = some (.int .i64 11) := hb0.cell 1
  have c2 : W0.cell? ⟨w.heap.size, 2, none⟩ = some (.int .i64 15) := hb0.cell 2
  have hlt : w.heap.size < W0.heap.size := hb0.lt
  rw [← hW0]
  clear hW0 hb0
  go_region_held3 (fun wx => (∀ z y, z < W0.heap.size → wx.cell? ⟨z, y, none⟩ = W0.cell? ⟨z, y, none⟩) ∧ Below W0.heap.size W0 wx)
    (first
      | exact Fl.keeps0 _
      | (refine Fl.keepsB hbn ?_; assumption))
    (first
      | (go_at_call 46; (refine (iSign_1 _).mono ?_); rintro e w1 ⟨rfl, hbn⟩))
  have HB := Lib.hid (Fl.stays_of (by assumption : (∀ z y, z < W0.heap.size → World.cell? _ ⟨z, y, none⟩ = W0.cell? ⟨z, y, none⟩) ∧ Below W0.heap.size W0 _))
  go_wp2
  go_ret2
  exact ⟨rfl, HW0.out.trans (HB.out.mono HW0.out.size)⟩

theorem iSign_2 (w : World) : Calls Tryd.prog 46 #[shV 32 24 127] w fun e w' => e = .returned (.int .u64 2147483648) ∧ Below w.heap.size w w' := by
  unfold shV
  go_enter Tryd.func46, Tryd.ntmps46
  go_wp2
  go_ret
  refine ⟨rfl, ?_⟩
  repeat' (first | (with_reducible exact Below.refl _ _) | (with_reducible assumption) | (with_reducible refine below_drewN ?_ _) | (with_reducible refine Below.drew ?_) | (with_reducible refine Below.alloc ?_ ?_ _) | (with_reducible refine Below.setCell ?_ ?_ _) | (simp; done) | (simp; omega))

set_option maxRecDepth 8000 in
set_option maxHeartbeats 1600000 in
theorem iPlace_2 {b : Nat} (hb : b < 4294967296) (w : World) : Calls Tryd.prog 64 #[shV 32 24 127, .int .u64 (b : Int)] w fun e w' => e = .returned (.tuple #[.bool (decide (2147483648 ≤ b)), .int .u64 ((b % 2147483648 : Nat) : Int)]) ∧ Below w.heap.size w w' := by
  have xa : Go.bits .and .u64 (b : Int) 2147483648 = ((b / 2147483648 * 2147483648 : Nat) : Int) := and_pow (s := 31) (by decide) hb
  have xn : Go.bits .andNot .u64 (b : Int) 2147483648 = ((b % 2147483648 : Nat) : Int) := andNot_pow (s := 31) (by decide) hb
  have tb : (Go.bits .and .u64 (b : Int) 2147483648 != 0) = decide (2147483648 ≤ b) := by
    rw [xa]
    by_cases h : 2147483648 ≤ b
    · rw [decide_eq_true h, bne_iff_ne]; omega
    · rw [decide_eq_false h, bne_eq_false_iff_eq]; omega
  clear xa hb
  unfold shV
  go_enter Tryd.func64, Tryd.ntmps64
  go_upto_region 1 with fail
  obtain ⟨W0, hW0⟩ : ∃ W0, W0 = w.alloc (.cells #[.int .i64 32, .int .i64 24, .int .i64 127] 48) := ⟨_, rfl⟩
  have hb0 : Blk W0 w.heap.size 48 #[.int .i64 32, .int .i64 24, .int .i64 127] := by rw [hW0]; exact Blk.new _ _ _
  have HW0 := Lib.hid (show Below w.heap.size w W0 by rw [hW0]; exact (Below.refl _ _).alloc (Nat.le_refl _) _)
  have c0 : W0.cell? ⟨w.heap.size, 0, none⟩ = some (.int .i64 32) := hb0.cell 0
  have c1 : W0.cell? ⟨w.heap.size, 1, none⟩ = some (.int .i64 24) := hb0.cell 1
  have c2 : W0.cell? ⟨w.heap.size, 2, none⟩ = some (.int .i64 127) := hb0.cell 2
  have hlt : w.heap.size < W0.heap.size := hb0.lt
  rw [← hW0]
  clear hW0 hb0
  go_region_held3 (fun wx => (∀ z y, z < W0.heap.size → wx.cell? ⟨z, y, none⟩ = W0.cell? ⟨z, y, none⟩) ∧ Below W0.heap.size W0 wx)
    (first
      | exact Fl.keeps0 _
      | (refine Fl.keepsB hbn ?_; assumption))
    (first
      | (go_at_call 46; (refine (iSign_2 _).mono ?_); rintro e w1 ⟨rfl, hbn⟩))
  have HB := Lib.hid (Fl.stays_of (by assumption : (∀ z y, z < W0.heap.size → World.cell? _ ⟨z, y, none⟩ = W0.cell? ⟨z, y, none⟩) ∧ Below W0.heap.size W0 _))
  go_wp2
  go_ret2
  exact ⟨rfl, HW0.out.trans (HB.out.mono HW0.out.size)⟩

theorem iSign_3 (w : World) : Calls Tryd.prog 46 #[shV 64 53 1023] w fun e w' => e = .returned (.int .u64 9223372036854775808) ∧ Below w.heap.size w w' := by
  unfold shV
  go_enter Tryd.func46, Tryd.ntmps46
  go_wp2
  go_ret
  refine ⟨rfl, ?_⟩
  repeat' (first | (with_reducible exact Below.refl _ _) | (with_reducible assumption) | (with_reducible refine below_drewN ?_ _) | (with_reducible refine Below.drew ?_) | (with_reducible refine Below.alloc ?_ ?_ _) | (with_reducible refine Below.setCell ?_ ?_ _) | (simp; done) | (simp; omega))

set_option maxRecDepth 8000 in
set_option maxHeartbeats 1600000 in
theorem iPlace_3 {b : Nat} (hb : b < 18446744073709551616) (w : World) : Calls Tryd.prog 64 #[shV 64 53 1023, .int .u64 (b : Int)] w fun e w' => e = .returned (.tuple #[.bool (decide (9223372036854775808 ≤ b)), .int .u64 ((b % 9223372036854775808 : Nat) : Int)]) ∧ Below w.heap.size w w' := by
  have xa : Go.bits .and .u64 (b : Int) 9223372036854775808 = ((b / 9223372036854775808 * 9223372036854775808 : Nat) : Int) := and_pow (s := 63) (by decide) hb
  have xn : Go.bits .andNot .u64 (b : Int) 9223372036854775808 = ((b % 9223372036854775808 : Nat) : Int) := andNot_pow (s := 63) (by decide) hb
  have tb : (Go.bits .and .u64 (b : Int) 9223372036854775808 != 0) = decide (9223372036854775808 ≤ b) := by
    rw [xa]
    by_cases h : 9223372036854775808 ≤ b
    · rw [decide_eq_true h, bne_iff_ne]; omega
    · rw [decide_eq_false h, bne_eq_false_iff_eq]; omega
  clear xa hb
  unfold shV
  go_enter Tryd.func64, Tryd.ntmps64
  go_upto_region 1 with fail
  obtain ⟨W0, hW0⟩ : ∃ W0, W0 = w.alloc (.cells #[.int .i64 64, .int .i64 53, .int .i64 1023] 48) := ⟨_, rfl⟩
  have hb0 : Blk W0 w.heap.size 48 #[.int .i64 64, .int .i64 53, .int .i64 1023] := by rw [hW0]; exact Blk.new _ _ _
  have HW0 := Lib.hid (show Below w.heap.size w W0 by rw [hW0]; exact (Below.refl _ _).alloc (Nat.le_refl _) _)
  have c0 : W0.cell? ⟨w.heap.size, 0, none⟩ = some (.int .i64 64) := hb0.cell 0
  have c1 : W0.cell? ⟨w.heap.size, 1, none⟩ = some (.int .i64 53) := hb0.cell 1
  have c2 : W0.cell? ⟨w.heap.size, 2, none⟩ = some (.int .i64 1023) := hb0.cell 2
  have hlt : w.heap.size < W0.heap.size := hb0.lt
  rw [← hW0]
  clear hW0 hb0
  go_region_held3 (fun wx => (∀ z y, z < W0.heap.size → wx.cell? ⟨z, y, none⟩ = W0.cell? ⟨z, y, none⟩) ∧ Below W0.heap.size W0 wx)
    (first
      | exact Fl.keeps0 _
      | (refine Fl.keepsB hbn ?_; assumption))
    (first
      | (go_at_call 46; (refine (iSign_3 _).mono ?_); rintro e w1 ⟨rfl, hbn⟩))
  have HB := Lib.hid (Fl.stays_of (by assumption : (∀ z y, z < W0.heap.size → World.cell? _ ⟨z, y, none⟩ = W0.cell? ⟨z, y, none⟩) ∧ Below W0.heap.size W0 _))
  go_wp2
  go_ret2
  exact ⟨rfl, HW0.out.trans (HB.out.mono HW0.out.size)⟩
end Go.Proofs.YtmjnnjjmfedlbaaDoor
