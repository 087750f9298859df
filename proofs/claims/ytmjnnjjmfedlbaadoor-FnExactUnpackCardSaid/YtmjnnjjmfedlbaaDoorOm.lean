/-
  NaN, infinity and the like of a form: the contracts of the program's small methods.
-/
import Derived.Test.YtmjnnjjmfedlbaaDoorOk
namespace Go.Proofs.YtmjnnjjmfedlbaaDoor
set_option linter.unusedSimpArgs false
set_option linter.unusedVariables false
open Go.RowKit Go.Dr

/-- The bits of infinity. -/
def infP (f : Int) : Nat := if f = 1 then 31744 else if f = 2 then 2139095040 else 9218868437227405312
/-- The bits of the plain NaN. -/
def nanP (f : Int) : Nat := if f = 1 then 32256 else if f = 2 then 2143289344 else 9221120237041090560
/-- Whether bits are a NaN; a zero. -/
def nanB (f : Int) (b : Nat) : Bool := decide (infP f < b % sgP f)
def zerB (f : Int) (b : Nat) : Bool := decide (b % sgP f = 0)

theorem iInf_1 (w : World) : Calls Tryd.prog 45 #[shV 16 11 15] w fun e w' => e = .returned (.int .u64 31744) ∧ Below w.heap.size w w' := by
  unfold shV
  go_enter Tryd.func45, Tryd.ntmps45
  go_wp2
  go_ret
  refine ⟨rfl, ?_⟩
  repeat' (first | (with_reducible exact Below.refl _ _) | (with_reducible assumption) | (with_reducible refine below_drewN ?_ _) | (with_reducible refine Below.drew ?_) | (with_reducible refine Below.alloc ?_ ?_ _) | (with_reducible refine Below.setCell ?_ ?_ _) | (simp; done) | (simp; omega))

set_option maxRecDepth 8000 in
set_option maxHeartbeats 1600000 in
theorem iNan_1 (w : World) : Calls Tryd.prog 44 #[shV 16 11 15] w fun e w' => e = .returned (.int .u64 32256) ∧ Below w.heap.size w w' := by
  have hor : Go.bits .or .u64 31744 512 = 32256 := by kernel_rfl
  have hw1 : IntKind.i64.wrap 9 = 9 := by kernel_rfl
  have hw2 : IntKind.u64.wrap 512 = 512 := by kernel_rfl
  unfold shV
  go_enter Tryd.func44, Tryd.ntmps44
  go_upto_region 1 with fail
  obtain ⟨W0, hW0⟩ : ∃ W0, W0 = w.alloc (.cells #[.int .i64 16, .int .i64 11, .int .i64 15] 48) := ⟨_, rfl⟩
  have hb0 : Blk W0 w.heap.size 48 #[.int .i64 16, .int .i64 11, .int .i64 15] := by rw [hW0]; exact Blk.new _ _ _
  have HW0 := Lib.hid (show Below w.heap.size w W0 by rw [hW0]; exact (Below.refl _ _).alloc (Nat.le_refl _) _)
  have c0 : W0.cell? ⟨w.heap.size, 0, none⟩ = some (.int .i64 16) := hb0.cell 0
  have c1 : W0.cell? ⟨w.heap.size, 1, none⟩ = some (.int .i64 11) := hb0.cell 1
  have c2 : W0.cell? ⟨w.heap.size, 2, none⟩ = some (.int .i64 15) := hb0.cell 2
  have hlt : w.heap.size < W0.heap.size := hb0.lt
  rw [← hW0]
  clear hW0 hb0
  go_region_held3 (fun wx => (∀ z y, z < W0.heap.size → wx.cell? ⟨z, y, none⟩ = W0.cell? ⟨z, y, none⟩) ∧ Below W0.heap.size W0 wx)
    (first
      | exact Fl.keeps0 _
      | (refine Fl.keepsB hbn ?_; assumption))
    (first
      | (go_at_call 45; (refine (iInf_1 _).mono ?_); rintro e w1 ⟨rfl, hbn⟩)
      | (go_at_call 46; (refine (iSign_1 _).mono ?_); rintro e w1 ⟨rfl, hbn⟩))
  have HB := Lib.hid (Fl.stays_of (by assumption : (∀ z y, z < W0.heap.size → World.cell? _ ⟨z, y, none⟩ = W0.cell? ⟨z, y, none⟩) ∧ Below W0.heap.size W0 _))
  go_wp2
  go_ret
  exact ⟨rfl, HW0.out.trans (HB.out.mono HW0.out.size)⟩


set_option maxRecDepth 8000 in
set_option maxHeartbeats 1600000 in
theorem iIsNan_1 {b : Nat} (hb : b < 65536) (w : World) : Calls Tryd.prog 43 #[shV 16 11 15, .int .u64 (b : Int)] w fun e w' => e = .returned (.bool (nanB 1 b)) ∧ Below w.heap.size w w' := by
  have xn : Go.bits .andNot .u64 (b : Int) 32768 = ((b % 32768 : Nat) : Int) := andNot_pow (s := 15) (by decide) hb
  have td : decide (31744 < ((b % 32768 : Nat) : Int)) = nanB 1 b := by
    show _ = decide (31744 < b % 32768)
    by_cases h : 31744 < b % 32768
    · rw [decide_eq_true h]; exact decide_eq_true (by omega)
    · rw [decide_eq_false h]; exact decide_eq_false (by omega)
  generalize nanB 1 b = nn at td ⊢
  generalize b % 32768 = bs at xn td
  clear hb
  unfold shV
  go_enter Tryd.func43, Tryd.ntmps43
  go_upto_region 1 with fail
  obtain ⟨W0, hW0⟩ : ∃ W0, W0 = w.alloc (.cells #[.int .i64 16, .int .i64 11, .int .i64 15] 48) := ⟨_, rfl⟩
  have hb0 : Blk W0 w.heap.size 48 #[.int .i64 16, .int .i64 11, .int .i64 15] := by rw [hW0]; exact Blk.new _ _ _
  have HW0 := Lib.hid (show Below w.heap.size w W0 by rw [hW0]; exact (Below.refl _ _).alloc (Nat.le_refl _) _)
  have c0 : W0.cell? ⟨w.heap.size, 0, none⟩ = some (.int .i64 16) := hb0.cell 0
  have c1 : W0.cell? ⟨w.heap.size, 1, none⟩ = some (.int .i64 11) := hb0.cell 1
  have c2 : W0.cell? ⟨w.heap.size, 2, none⟩ = some (.int .i64 15) := hb0.cell 2
  have hlt : w.heap.size < W0.heap.size := hb0.lt
  rw [← hW0]
  clear hW0 hb0
  go_region_held3 (fun wx => (∀ z y, z < W0.heap.size → wx.cell? ⟨z, y, none⟩ = W0.cell? ⟨z, y, none⟩) ∧ Below W0.heap.size W0 wx)
    (first
      | exact Fl.keeps0 _
      | (refine Fl.keepsB hbn ?_; assumption))
    (first
      | (go_at_call 45; (refine (iInf_1 _).mono ?_); rintro e w1 ⟨rfl, hbn⟩)
      | (go_at_call 46; (refine (iSign_1 _).mono ?_); rintro e w1 ⟨rfl, hbn⟩))
  have HB := Lib.hid (Fl.stays_of (by assumption : (∀ z y, z < W0.heap.size → World.cell? _ ⟨z, y, none⟩ = W0.cell? ⟨z, y, none⟩) ∧ Below W0.heap.size W0 _))
  go_wp2
  go_ret
  exact ⟨rfl, HW0.out.trans (HB.out.mono HW0.out.size)⟩


theorem iInf_2 (w : World) : Calls Tryd.prog 45 #[shV 32 24 127] w fun e w' => e = .returned (.int .u64 2139095040) ∧ Below w.heap.size w w' := by
  unfold shV
  go_enter Tryd.func45, Tryd.ntmps45
  go_wp2
  go_ret
  refine ⟨rfl, ?_⟩
  repeat' (first | (with_reducible exact Below.refl _ _) | (with_reducible assumption) | (with_reducible refine below_drewN ?_ _) | (with_reducible refine Below.drew ?_) | (with_reducible refine Below.alloc ?_ ?_ _) | (with_reducible refine Below.setCell ?_ ?_ _) | (simp; done) | (simp; omega))

set_option maxRecDepth 8000 in
set_option maxHeartbeats 1600000 in
theorem iNan_2 (w : World) : Calls Tryd.prog 44 #[shV 32 24 127] w fun e w' => e = .returned (.int .u64 2143289344) ∧ Below w.heap.size w w' := by
  have hor : Go.bits .or .u64 2139095040 4194304 = 2143289344 := by kernel_rfl
  have hw1 : IntKind.i64.wrap 22 = 22 := by kernel_rfl
  have hw2 : IntKind.u64.wrap 4194304 = 4194304 := by kernel_rfl
  unfold shV
  go_enter Tryd.func44, Tryd.ntmps44
  go_upto_region 1 with fail
  obtain ⟨W0, hW0⟩ : ∃ W0, W0 = w.alloc (.cells #[.int .i64 32, .int .i64 24, .int .i64 127] 48) := ⟨_, rfl⟩
  have hb0 : Blk W0 w.heap.size 48 #[.int .i64 32, .int .i64 24, .int .i64 127] := by rw [hW0]; exact Blk.new _ _ _
  have HW0 := Lib.hid (show Below w.heap.size w W0 by rw [hW0]; exact (Below.refl _ _).alloc (Nat.le_refl _) _)
  have c0 : W0.cell? ⟨w.heap.size, 0, none⟩ = some (.int .i64 32) := hb0.cell 0
  have c1 : W0.cell? ⟨w.heap.size, 1, none⟩ = some (.int .i64 24) := hb0.cell 1
  have c2 : W0.cell? ⟨w.heap.size, 2, none⟩ = some (.int .i64 127) := hb0.cell 2
  have hlt : w.heap.size < W0.heap.size := hb0.lt
  rw [← hW0]
  clear hW0 hb0
  go_region_held3 (fun wx => (∀ z y, z < W0.heap.size → wx.cell? ⟨z, y, none⟩ = W0.cell? ⟨z, y, none⟩) ∧ Below W0.heap.size W0 wx)
    (first
      | exact Fl.keeps0 _
      | (refine Fl.keepsB hbn ?_; assumption))
    (first
      | (go_at_call 45; (refine (iInf_2 _).mono ?_); rintro e w1 ⟨rfl, hbn⟩)
      | (go_at_call 46; (refine (iSign_2 _).mono ?_); rintro e w1 ⟨rfl, hbn⟩))
  have HB := Lib.hid (Fl.stays_of (by assumption : (∀ z y, z < W0.heap.size → World.cell? _ ⟨z, y, none⟩ = W0.cell? ⟨z, y, none⟩) ∧ Below W0.heap.size W0 _))
  go_wp2
  go_ret
  exact ⟨rfl, HW0.out.trans (HB.out.mono HW0.out.size)⟩


set_option maxRecDepth 8000 in
set_option maxHeartbeats 1600000 in
theorem iIsNan_2 {b : Nat} (hb : b < 4294967296) (w : World) : Calls Tryd.prog 43 #[shV 32 24 127, .int .u64 (b : Int)] w fun e w' => e = .returned (.bool (nanB 2 b)) ∧ Below w.heap.size w w' := by
  have xn : Go.bits .andNot .u64 (b : Int) 2147483648 = ((b % 2147483648 : Nat) : Int) := andNot_pow (s := 31) (by decide) hb
  have td : decide (2139095040 < ((b % 2147483648 : Nat) : Int)) = nanB 2 b := by
    show _ = decide (2139095040 < b % 2147483648)
    by_cases h : 2139095040 < b % 2147483648
    · rw [decide_eq_true h]; exact decide_eq_true (by omega)
    · rw [decide_eq_false h]; exact decide_eq_false (by omega)
  generalize nanB 2 b = nn at td ⊢
  generalize b % 2147483648 = bs at xn td
  clear hb
  unfold shV
  go_enter Tryd.func43, Tryd.ntmps43
  go_upto_region 1 with fail
  obtain ⟨W0, hW0⟩ : ∃ W0, W0 = w.alloc (.cells #[.int .i64 32, .int .i64 24, .int .i64 127] 48) := ⟨_, rfl⟩
  have hb0 : Blk W0 w.heap.size 48 #[.int .i64 32, .int .i64 24, .int .i64 127] := by rw [hW0]; exact Blk.new _ _ _
  have HW0 := Lib.hid (show Below w.heap.size w W0 by rw [hW0]; exact (Below.refl _ _).alloc (Nat.le_refl _) _)
  have c0 : W0.cell? ⟨w.heap.size, 0, none⟩ = some (.int .i64 32) := hb0.cell 0
  have c1 : W0.cell? ⟨w.heap.size, 1, none⟩ = some (.int .i64 24) := hb0.cell 1
  have c2 : W0.cell? ⟨w.heap.size, 2, none⟩ = some (.int .i64 127) := hb0.cell 2
  have hlt : w.heap.size < W0.heap.size := hb0.lt
  rw [← hW0]
  clear hW0 hb0
  go_region_held3 (fun wx => (∀ z y, z < W0.heap.size → wx.cell? ⟨z, y, none⟩ = W0.cell? ⟨z, y, none⟩) ∧ Below W0.heap.size W0 wx)
    (first
      | exact Fl.keeps0 _
      | (refine Fl.keepsB hbn ?_; assumption))
    (first
      | (go_at_call 45; (refine (iInf_2 _).mono ?_); rintro e w1 ⟨rfl, hbn⟩)
      | (go_at_call 46; (refine (iSign_2 _).mono ?_); rintro e w1 ⟨rfl, hbn⟩))
  have HB := Lib.hid (Fl.stays_of (by assumption : (∀ z y, z < W0.heap.size → World.cell? _ ⟨z, y, none⟩ = W0.cell? ⟨z, y, none⟩) ∧ Below W0.heap.size W0 _))
  go_wp2
  go_ret
  exact ⟨rfl, HW0.out.trans (HB.out.mono HW0.out.size)⟩


theorem iInf_3 (w : World) : Calls Tryd.prog 45 #[shV 64 53 1023] w fun e w' => e = .returned (.int .u64 9218868437227405312) ∧ Below w.heap.size w w' := by
  unfold shV
  go_enter Tryd.func45, Tryd.ntmps45
  go_wp2
  go_ret
  refine ⟨rfl, ?_⟩
  repeat' (first | (with_reducible exact Below.refl _ _) | (with_reducible assumption) | (with_reducible refine below_drewN ?_ _) | (with_reducible refine Below.drew ?_) | (with_reducible refine Below.alloc ?_ ?_ _) | (with_reducible refine Below.setCell ?_ ?_ _) | (simp; done) | (simp; omega))

set_option maxRecDepth 8000 in
set_option maxHeartbeats 1600000 in
theorem iNan_3 (w : World) : Calls Tryd.prog 44 #[shV 64 53 1023] w fun e w' => e = .returned (.int .u64 9221120237041090560) ∧ Below w.heap.size w w' := by
  have hor : Go.bits .or .u64 9218868437227405312 2251799813685248 = 9221120237041090560 := by kernel_rfl
  have hw1 : IntKind.i64.wrap 51 = 51 := by kernel_rfl
  have hw2 : IntKind.u64.wrap 2251799813685248 = 2251799813685248 := by kernel_rfl
  unfold shV
  go_enter Tryd.func44, Tryd.ntmps44
  go_upto_region 1 with fail
  obtain ⟨W0, hW0⟩ : ∃ W0, W0 = w.alloc (.cells #[.int .i64 64, .int .i64 53, .int .i64 1023] 48) := ⟨_, rfl⟩
  have hb0 : Blk W0 w.heap.size 48 #[.int .i64 64, .int .i64 53, .int .i64 1023] := by rw [hW0]; exact Blk.new _ _ _
  have HW0 := Lib.hid (show Below w.heap.size w W0 by rw [hW0]; exact (Below.refl _ _).alloc (Nat.le_refl _) _)
  have c0 : W0.cell? ⟨w.heap.size, 0, none⟩ = some (.int .i64 64) := hb0.cell 0
  have c1 : W0.cell? ⟨w.heap.size, 1, none⟩ = some (.int .i64 53) := hb0.cell 1
  have c2 : W0.cell? ⟨w.heap.size, 2, none⟩ = some (.int .i64 1023) := hb0.cell 2
  have hlt : w.heap.size < W0.heap.size := hb0.lt
  rw [← hW0]
  clear hW0 hb0
  go_region_held3 (fun wx => (∀ z y, z < W0.heap.size → wx.cell? ⟨z, y, none⟩ = W0.cell? ⟨z, y, none⟩) ∧ Below W0.heap.size W0 wx)
    (first
      | exact Fl.keeps0 _
      | (refine Fl.keepsB hbn ?_; assumption))
    (first
      | (go_at_call 45; (refine (iInf_3 _).mono ?_); rintro e w1 ⟨rfl, hbn⟩)
      | (go_at_call 46; (refine (iSign_3 _).mono ?_); rintro e w1 ⟨rfl, hbn⟩))
  have HB := Lib.hid (Fl.stays_of (by assumption : (∀ z y, z < W0.heap.size → World.cell? _ ⟨z, y, none⟩ = W0.cell? ⟨z, y, none⟩) ∧ Below W0.heap.size W0 _))
  go_wp2
  go_ret
  exact ⟨rfl, HW0.out.trans (HB.out.mono HW0.out.size)⟩


set_option maxRecDepth 8000 in
set_option maxHeartbeats 1600000 in
theorem iIsNan_3 {b : Nat} (hb : b < 18446744073709551616) (w : World) : Calls Tryd.prog 43 #[shV 64 53 1023, .int .u64 (b : Int)] w fun e w' => e = .returned (.bool (nanB 3 b)) ∧ Below w.heap.size w w' := by
  have xn : Go.bits .andNot .u64 (b : Int) 9223372036854775808 = ((b % 9223372036854775808 : Nat) : Int) := andNot_pow (s := 63) (by decide) hb
  have td : decide (9218868437227405312 < ((b % 9223372036854775808 : Nat) : Int)) = nanB 3 b := by
    show _ = decide (9218868437227405312 < b % 9223372036854775808)
    by_cases h : 9218868437227405312 < b % 9223372036854775808
    · rw [decide_eq_true h]; exact decide_eq_true (by omega)
    · rw [decide_eq_false h]; exact decide_eq_false (by omega)
  generalize nanB 3 b = nn at td ⊢
  generalize b % 9223372036854775808 = bs at xn td
  clear hb
  unfold shV
  go_enter Tryd.func43, Tryd.ntmps43
  go_upto_region 1 with fail
  obtain ⟨W0, hW0⟩ : ∃ W0, W0 = w.alloc (.cells #[.int .i64 64, .int .i64 53, .int .i64 1023] 48) := ⟨_, rfl⟩
  have hb0 : Blk W0 w.heap.size 48 #[.int .i64 64, .int .i64 53, .int .i64 1023] := by rw [hW0]; exact Blk.new _ _ _
  have HW0 := Lib.hid (show Below w.heap.size w W0 by rw [hW0]; exact (Below.refl _ _).alloc (Nat.le_refl _) _)
  have c0 : W0.cell? ⟨w.heap.size, 0, none⟩ = some (.int .i64 64) := hb0.cell 0
  have c1 : W0.cell? ⟨w.heap.size, 1, none⟩ = some (.int .i64 53) := hb0.cell 1
  have c2 : W0.cell? ⟨w.heap.size, 2, none⟩ = some (.int .i64 1023) := hb0.cell 2
  have hlt : w.heap.size < W0.heap.size := hb0.lt
  rw [← hW0]
  clear hW0 hb0
  go_region_held3 (fun wx => (∀ z y, z < W0.heap.size → wx.cell? ⟨z, y, none⟩ = W0.cell? ⟨z, y, none⟩) ∧ Below W0.heap.size W0 wx)
    (first
      | exact Fl.keeps0 _
      | (refine Fl.keepsB hbn ?_; assumption))
    (first
      | (go_at_call 45; (refine (iInf_3 _).mono ?_); rintro e w1 ⟨rfl, hbn⟩)
      | (go_at_call 46; (refine (iSign_3 _).mono ?_); rintro e w1 ⟨rfl, hbn⟩))
  have HB := Lib.hid (Fl.stays_of (by assumption : (∀ z y, z < W0.heap.size → World.cell? _ ⟨z, y, none⟩ = W0.cell? ⟨z, y, none⟩) ∧ Below W0.heap.size W0 _))
  go_wp2
  go_ret
  exact ⟨rfl, HW0.out.trans (HB.out.mono HW0.out.size)⟩

end Go.Proofs.YtmjnnjjmfedlbaaDoor
