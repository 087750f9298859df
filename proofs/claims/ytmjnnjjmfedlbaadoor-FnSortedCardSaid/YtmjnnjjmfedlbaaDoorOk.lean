/-
  The contract of the program's Order; the reference's Order at every input.
-/
import Derived.Test.YtmjnnjjmfedlbaaDoorOj
namespace Go.Proofs.YtmjnnjjmfedlbaaDoor
set_option linter.unusedSimpArgs false
set_option linter.unusedVariables false
open Go.RowKit Go.Dr

theorem u64_nat {a : Int} (h : (Lit.int .u64 a).wf = true) : ∃ n : Nat, a = (n : Int) ∧ n < 18446744073709551616 := by
  simp only [Lit.wf, Bool.and_eq_true, decide_eq_true_eq] at h
  have h1 : (0 : Int) ≤ a := h.1
  have h2 : a ≤ 18446744073709551615 := h.2
  exact ⟨a.toNat, by omega, by omega⟩
theorem row2 (a b : Nat) (W : World) : IRow .u64 (W.alloc (.cells #[.int .u64 (a : Int), .int .u64 (b : Int)] 22)) (some ⟨W.heap.size, 0, none⟩) 2 2 (nums [a, b]) := by
  refine ⟨rfl, Nat.le_refl _, by decide, fun _ => ⟨W.heap.size, 0, rfl, by simp, fun i hi => ?_⟩⟩
  rw [Nat.zero_add, (Blk.new W _ _).cell i]
  match i, hi with
  | 0, _ => rfl
  | 1, _ => rfl
theorem row1 (a : Nat) (W : World) : IRow .u64 (W.alloc (.cells #[.int .u64 (a : Int)] 22)) (some ⟨W.heap.size, 0, none⟩) 1 1 (nums [a]) := by
  refine ⟨rfl, Nat.le_refl _, by decide, fun _ => ⟨W.heap.size, 0, rfl, by simp, fun i hi => ?_⟩⟩
  rw [Nat.zero_add, (Blk.new W _ _).cell i]
  match i, hi with
  | 0, _ => rfl
theorem okL_2 (f : Int) (a b : Nat) : okL f [a, b] = (okB f a && okB f b) := by simp [okL]
theorem okL_1 (f : Int) (a : Nat) : okL f [a] = okB f a := by simp [okL]
theorem Lk.new {w : World} (h : Lk w) (o : Obj) : Lk (w.alloc o) := h.below ((Below.refl _ _).alloc (Nat.le_refl _) o)

set_option maxRecDepth 8000 in
set_option maxHeartbeats 1600000 in
theorem sOrder_bad {f : Int} {a b : Nat} (ha : a < 18446744073709551616) (hb : b < 18446744073709551616) (h : (okB f a && okB f b) = false) (w : World) :
    Calls Tryd.prog 12 #[.int .i64 f, .int .u64 (a : Int), .int .u64 (b : Int)] w fun e w' => e = .returned (.int .i64 2) ∧ w' = w := by
  have HA := Lib.hid (fun (W : World) => sAre (f := f) ha W)
  have HB := Lib.hid (fun (W : World) => sAre (f := f) hb W)
  generalize okB f a = x at h HA
  generalize okB f b = y at h HB
  clear ha hb
  cases x
  · clear h
    go_enter Tryd.func12, Tryd.ntmps12
    go_wp2_with (go_at_call 37; (first | ((with_reducible refine (HA.out _).mono ?_); rintro e w1 ⟨rfl, rfl⟩) | ((with_reducible refine (HB.out _).mono ?_); rintro e w1 ⟨rfl, rfl⟩)))
    all_goals go_ret
    all_goals exact ⟨rfl, rfl⟩
  · cases y
    · clear h
      go_enter Tryd.func12, Tryd.ntmps12
      go_wp2_with (go_at_call 37; (first | ((with_reducible refine (HA.out _).mono ?_); rintro e w1 ⟨rfl, rfl⟩) | ((with_reducible refine (HB.out _).mono ?_); rintro e w1 ⟨rfl, rfl⟩)))
      all_goals go_ret
      all_goals exact ⟨rfl, rfl⟩
    · cases h

theorem sOrder {f : Int} {a b : Nat} (ha : a < 18446744073709551616) (hb : b < 18446744073709551616) (w : World) :
    Calls Tryd.prog 12 #[.int .i64 f, .int .u64 (a : Int), .int .u64 (b : Int)] w fun e w' => e = .returned (.int .i64 (ordV f a b)) ∧ w' = w := by
  cases h : (okB f a && okB f b)
  · rw [show ordV f a b = 2 by unfold ordV; rw [if_neg]; intro ⟨h1, h2⟩; rw [h1, h2] at h; cases h]
    exact sOrder_bad ha hb h w
  · rw [Bool.and_eq_true] at h
    rw [show ordV f a b = cmpS (sgP f) a b by unfold ordV; rw [if_pos h]]
    obtain ⟨h1, h2⟩ := h
    rcases form_cases f with rfl | rfl | rfl | hf
    · exact sOrder_1 (by simpa [okB] using h1) (by simpa [okB] using h2) w
    · exact sOrder_2 (by simpa [okB] using h1) (by simpa [okB] using h2) w
    · exact sOrder_3 ha hb w
    · rw [okB_none hf] at h1; cases h1

set_option maxRecDepth 8000 in
set_option maxHeartbeats 1600000 in
theorem iOrder_1 {a b : Nat} (h : (okB 1 a && okB 1 b) = true) (ha : a < 18446744073709551616) (hb : b < 18446744073709551616) (w : World) (hl : Lk w) :
    Calls Tryd.prog 13 #[.int .i64 1, .int .u64 (a : Int), .int .u64 (b : Int)] w fun e w' => e = .returned (.int .i64 (cmpS 32768 a b)) ∧ Below w.heap.size w w' := by
  have HOF := Lib.hid (fun (A : Option Addr) (c : Nat) (W : World) (hl : Lk W) (hr : IRow .u64 W A 2 c (nums [a, b])) => iOf_1 A 2 c [a, b] W hl hr (by intro x hx; simp at hx; rcases hx with rfl | rfl <;> assumption))
  rw [okL_2, h] at HOF
  have hab : okB 1 a = true ∧ okB 1 b = true := by rwa [Bool.and_eq_true] at h
  have HO := Lib.hid (fun (W : World) => iOrd_1 (a := a) (b := b) (by simpa [okB] using hab.1) (by simpa [okB] using hab.2) W)
  clear hab
  have HR := Lib.hid (row2 a b w)
  have HW1 := Lib.hid ((Below.refl w.heap.size w).alloc (Nat.le_refl _) (.cells #[.int .u64 (a : Int), .int .u64 (b : Int)] 22))
  have HL1 := Lib.hid (hl.new (.cells #[.int .u64 (a : Int), .int .u64 (b : Int)] 22))
  clear ha hb hl h
  simp only [shV] at HOF HO
  go_enter Tryd.func13, Tryd.ntmps13
  go_upto_region 2 with (first
    | (go_at_call 39; (with_reducible refine (HOF.out _ _ _ HL1.out HR.out).mono ?_); rintro e w1 ⟨rfl, hbn⟩; have HW2 := Lib.hid (Fl.chain HW1.out hbn); clear hbn))
  obtain ⟨W1, hW1⟩ : ∃ W1, W1 = w1.alloc (.cells #[.int .i64 16, .int .i64 11, .int .i64 15] 48) := ⟨_, rfl⟩
  have hb0 : Blk W1 w1.heap.size 48 #[.int .i64 16, .int .i64 11, .int .i64 15] := by rw [hW1]; exact Blk.new _ _ _
  have HW3 := Lib.hid (show Below w.heap.size w W1 by rw [hW1]; exact HW2.out.alloc HW2.out.size _)
  have c0 := hb0.cell 0
  have c1 := hb0.cell 1
  have c2 := hb0.cell 2
  rw [← hW1]
  clear hW1 hb0
  go_wp2_with (go_at_call 40; (with_reducible refine (HO.out _).mono ?_); rintro e w2 ⟨rfl, hbn⟩; have HW4 := Lib.hid (Fl.chain HW3.out hbn); clear hbn)
  go_ret
  exact ⟨rfl, HW4.out⟩

set_option maxRecDepth 8000 in
set_option maxHeartbeats 1600000 in
theorem iOrder_1b {a b : Nat} (h : (okB 1 a && okB 1 b) = false) (ha : a < 18446744073709551616) (hb : b < 18446744073709551616) (w : World) (hl : Lk w) :
    Calls Tryd.prog 13 #[.int .i64 1, .int .u64 (a : Int), .int .u64 (b : Int)] w fun e w' => e = .returned (.int .i64 (2)) ∧ Below w.heap.size w w' := by
  have HOF := Lib.hid (fun (A : Option Addr) (c : Nat) (W : World) (hl : Lk W) (hr : IRow .u64 W A 2 c (nums [a, b])) => iOf_1 A 2 c [a, b] W hl hr (by intro x hx; simp at hx; rcases hx with rfl | rfl <;> assumption))
  rw [okL_2, h] at HOF
  have HR := Lib.hid (row2 a b w)
  have HW1 := Lib.hid ((Below.refl w.heap.size w).alloc (Nat.le_refl _) (.cells #[.int .u64 (a : Int), .int .u64 (b : Int)] 22))
  have HL1 := Lib.hid (hl.new (.cells #[.int .u64 (a : Int), .int .u64 (b : Int)] 22))
  clear ha hb hl h
  simp only [shV] at HOF
  go_enter Tryd.func13, Tryd.ntmps13
  go_upto_region 2 with (first
    | (go_at_call 39; (with_reducible refine (HOF.out _ _ _ HL1.out HR.out).mono ?_); rintro e w1 ⟨rfl, hbn⟩; have HW2 := Lib.hid (Fl.chain HW1.out hbn); clear hbn))
  have HW3 := Lib.hid (HW2.out.alloc HW2.out.size (.cells #[.int .i64 16, .int .i64 11, .int .i64 15] 48))
  go_wp2
  go_ret
  exact ⟨rfl, HW3.out⟩

set_option maxRecDepth 8000 in
set_option maxHeartbeats 1600000 in
theorem iOrder_2 {a b : Nat} (h : (okB 2 a && okB 2 b) = true) (ha : a < 18446744073709551616) (hb : b < 18446744073709551616) (w : World) (hl : Lk w) :
    Calls Tryd.prog 13 #[.int .i64 2, .int .u64 (a : Int), .int .u64 (b : Int)] w fun e w' => e = .returned (.int .i64 (cmpS 2147483648 a b)) ∧ Below w.heap.size w w' := by
  have HOF := Lib.hid (fun (A : Option Addr) (c : Nat) (W : World) (hl : Lk W) (hr : IRow .u64 W A 2 c (nums [a, b])) => iOf_2 A 2 c [a, b] W hl hr (by intro x hx; simp at hx; rcases hx with rfl | rfl <;> assumption))
  rw [okL_2, h] at HOF
  have hab : okB 2 a = true ∧ okB 2 b = true := by rwa [Bool.and_eq_true] at h
  have HO := Lib.hid (fun (W : World) => iOrd_2 (a := a) (b := b) (by simpa [okB] using hab.1) (by simpa [okB] using hab.2) W)
  clear hab
  have HR := Lib.hid (row2 a b w)
  have HW1 := Lib.hid ((Below.refl w.heap.size w).alloc (Nat.le_refl _) (.cells #[.int .u64 (a : Int), .int .u64 (b : Int)] 22))
  have HL1 := Lib.hid (hl.new (.cells #[.int .u64 (a : Int), .int .u64 (b : Int)] 22))
  clear ha hb hl h
  simp only [shV] at HOF HO
  go_enter Tryd.func13, Tryd.ntmps13
  go_upto_region 2 with (first
    | (go_at_call 39; (with_reducible refine (HOF.out _ _ _ HL1.out HR.out).mono ?_); rintro e w1 ⟨rfl, hbn⟩; have HW2 := Lib.hid (Fl.chain HW1.out hbn); clear hbn))
  obtain ⟨W1, hW1⟩ : ∃ W1, W1 = w1.alloc (.cells #[.int .i64 32, .int .i64 24, .int .i64 127] 48) := ⟨_, rfl⟩
  have hb0 : Blk W1 w1.heap.size 48 #[.int .i64 32, .int .i64 24, .int .i64 127] := by rw [hW1]; exact Blk.new _ _ _
  have HW3 := Lib.hid (show Below w.heap.size w W1 by rw [hW1]; exact HW2.out.alloc HW2.out.size _)
  have c0 := hb0.cell 0
  have c1 := hb0.cell 1
  have c2 := hb0.cell 2
  rw [← hW1]
  clear hW1 hb0
  go_wp2_with (go_at_call 40; (with_reducible refine (HO.out _).mono ?_); rintro e w2 ⟨rfl, hbn⟩; have HW4 := Lib.hid (Fl.chain HW3.out hbn); clear hbn)
  go_ret
  exact ⟨rfl, HW4.out⟩

set_option maxRecDepth 8000 in
set_option maxHeartbeats 1600000 in
theorem iOrder_2b {a b : Nat} (h : (okB 2 a && okB 2 b) = false) (ha : a < 18446744073709551616) (hb : b < 18446744073709551616) (w : World) (hl : Lk w) :
    Calls Tryd.prog 13 #[.int .i64 2, .int .u64 (a : Int), .int .u64 (b : Int)] w fun e w' => e = .returned (.int .i64 (2)) ∧ Below w.heap.size w w' := by
  have HOF := Lib.hid (fun (A : Option Addr) (c : Nat) (W : World) (hl : Lk W) (hr : IRow .u64 W A 2 c (nums [a, b])) => iOf_2 A 2 c [a, b] W hl hr (by intro x hx; simp at hx; rcases hx with rfl | rfl <;> assumption))
  rw [okL_2, h] at HOF
  have HR := Lib.hid (row2 a b w)
  have HW1 := Lib.hid ((Below.refl w.heap.size w).alloc (Nat.le_refl _) (.cells #[.int .u64 (a : Int), .int .u64 (b : Int)] 22))
  have HL1 := Lib.hid (hl.new (.cells #[.int .u64 (a : Int), .int .u64 (b : Int)] 22))
  clear ha hb hl h
  simp only [shV] at HOF
  go_enter Tryd.func13, Tryd.ntmps13
  go_upto_region 2 with (first
    | (go_at_call 39; (with_reducible refine (HOF.out _ _ _ HL1.out HR.out).mono ?_); rintro e w1 ⟨rfl, hbn⟩; have HW2 := Lib.hid (Fl.chain HW1.out hbn); clear hbn))
  have HW3 := Lib.hid (HW2.out.alloc HW2.out.size (.cells #[.int .i64 32, .int .i64 24, .int .i64 127] 48))
  go_wp2
  go_ret
  exact ⟨rfl, HW3.out⟩

set_option maxRecDepth 8000 in
set_option maxHeartbeats 1600000 in
theorem iOrder_3 {a b : Nat} (h : (okB 3 a && okB 3 b) = true) (ha : a < 18446744073709551616) (hb : b < 18446744073709551616) (w : World) (hl : Lk w) :
    Calls Tryd.prog 13 #[.int .i64 3, .int .u64 (a : Int), .int .u64 (b : Int)] w fun e w' => e = .returned (.int .i64 (cmpS 9223372036854775808 a b)) ∧ Below w.heap.size w w' := by
  have HOF := Lib.hid (fun (A : Option Addr) (c : Nat) (W : World) (hl : Lk W) (hr : IRow .u64 W A 2 c (nums [a, b])) => iOf_3 A 2 c [a, b] W hl hr (by intro x hx; simp at hx; rcases hx with rfl | rfl <;> assumption))
  rw [okL_2, h] at HOF
  have hab : okB 3 a = true ∧ okB 3 b = true := by rwa [Bool.and_eq_true] at h
  have HO := Lib.hid (fun (W : World) => iOrd_3 (a := a) (b := b) (by exact ha) (by exact hb) W)
  clear hab
  have HR := Lib.hid (row2 a b w)
  have HW1 := Lib.hid ((Below.refl w.heap.size w).alloc (Nat.le_refl _) (.cells #[.int .u64 (a : Int), .int .u64 (b : Int)] 22))
  have HL1 := Lib.hid (hl.new (.cells #[.int .u64 (a : Int), .int .u64 (b : Int)] 22))
  clear ha hb hl h
  simp only [shV] at HOF HO
  go_enter Tryd.func13, Tryd.ntmps13
  go_upto_region 2 with (first
    | (go_at_call 39; (with_reducible refine (HOF.out _ _ _ HL1.out HR.out).mono ?_); rintro e w1 ⟨rfl, hbn⟩; have HW2 := Lib.hid (Fl.chain HW1.out hbn); clear hbn))
  obtain ⟨W1, hW1⟩ : ∃ W1, W1 = w1.alloc (.cells #[.int .i64 64, .int .i64 53, .int .i64 1023] 48) := ⟨_, rfl⟩
  have hb0 : Blk W1 w1.heap.size 48 #[.int .i64 64, .int .i64 53, .int .i64 1023] := by rw [hW1]; exact Blk.new _ _ _
  have HW3 := Lib.hid (show Below w.heap.size w W1 by rw [hW1]; exact HW2.out.alloc HW2.out.size _)
  have c0 := hb0.cell 0
  have c1 := hb0.cell 1
  have c2 := hb0.cell 2
  rw [← hW1]
  clear hW1 hb0
  go_wp2_with (go_at_call 40; (with_reducible refine (HO.out _).mono ?_); rintro e w2 ⟨rfl, hbn⟩; have HW4 := Lib.hid (Fl.chain HW3.out hbn); clear hbn)
  go_ret
  exact ⟨rfl, HW4.out⟩

set_option maxRecDepth 8000 in
set_option maxHeartbeats 1600000 in
theorem iOrder_3b {a b : Nat} (h : (okB 3 a && okB 3 b) = false) (ha : a < 18446744073709551616) (hb : b < 18446744073709551616) (w : World) (hl : Lk w) :
    Calls Tryd.prog 13 #[.int .i64 3, .int .u64 (a : Int), .int .u64 (b : Int)] w fun e w' => e = .returned (.int .i64 (2)) ∧ Below w.heap.size w w' := by
  have HOF := Lib.hid (fun (A : Option Addr) (c : Nat) (W : World) (hl : Lk W) (hr : IRow .u64 W A 2 c (nums [a, b])) => iOf_3 A 2 c [a, b] W hl hr (by intro x hx; simp at hx; rcases hx with rfl | rfl <;> assumption))
  rw [okL_2, h] at HOF
  have HR := Lib.hid (row2 a b w)
  have HW1 := Lib.hid ((Below.refl w.heap.size w).alloc (Nat.le_refl _) (.cells #[.int .u64 (a : Int), .int .u64 (b : Int)] 22))
  have HL1 := Lib.hid (hl.new (.cells #[.int .u64 (a : Int), .int .u64 (b : Int)] 22))
  clear ha hb hl h
  simp only [shV] at HOF
  go_enter Tryd.func13, Tryd.ntmps13
  go_upto_region 2 with (first
    | (go_at_call 39; (with_reducible refine (HOF.out _ _ _ HL1.out HR.out).mono ?_); rintro e w1 ⟨rfl, hbn⟩; have HW2 := Lib.hid (Fl.chain HW1.out hbn); clear hbn))
  have HW3 := Lib.hid (HW2.out.alloc HW2.out.size (.cells #[.int .i64 64, .int .i64 53, .int .i64 1023] 48))
  go_wp2
  go_ret
  exact ⟨rfl, HW3.out⟩

set_option maxRecDepth 8000 in
set_option maxHeartbeats 1600000 in
theorem iOrder_n {a b : Nat} {f : Int} (hf : NoForm f) (hw : (Lit.int .i64 f).wf = true) (ha : a < 18446744073709551616) (hb : b < 18446744073709551616) (w : World) (hl : Lk w) :
    Calls Tryd.prog 13 #[.int .i64 f, .int .u64 (a : Int), .int .u64 (b : Int)] w fun e w' => e = .returned (.int .i64 (2)) ∧ Below w.heap.size w w' := by
  have HOF := Lib.hid (fun (A : Option Addr) (c : Nat) (W : World) (hl : Lk W) (hr : IRow .u64 W A 2 c (nums [a, b])) => iOf_n hf hw A 2 c W hl)
  have HR := Lib.hid (row2 a b w)
  have HW1 := Lib.hid ((Below.refl w.heap.size w).alloc (Nat.le_refl _) (.cells #[.int .u64 (a : Int), .int .u64 (b : Int)] 22))
  have HL1 := Lib.hid (hl.new (.cells #[.int .u64 (a : Int), .int .u64 (b : Int)] 22))
  clear ha hb hl hf hw
  simp only [shV] at HOF
  go_enter Tryd.func13, Tryd.ntmps13
  go_upto_region 2 with (first
    | (go_at_call 39; (with_reducible refine (HOF.out _ _ _ HL1.out HR.out).mono ?_); rintro e w1 ⟨rfl, hbn⟩; have HW2 := Lib.hid (Fl.chain HW1.out hbn); clear hbn))
  have HW3 := Lib.hid (HW2.out.alloc HW2.out.size (.cells #[.int .i64 0, .int .i64 0, .int .i64 0] 48))
  go_wp2
  go_ret
  exact ⟨rfl, HW3.out⟩

theorem iOrder {f : Int} (hw : (Lit.int .i64 f).wf = true) {a b : Nat} (ha : a < 18446744073709551616) (hb : b < 18446744073709551616) (w : World) (hl : Lk w) :
    Calls Tryd.prog 13 #[.int .i64 f, .int .u64 (a : Int), .int .u64 (b : Int)] w fun e w' => e = .returned (.int .i64 (ordV f a b)) ∧ Below w.heap.size w w' := by
  cases h : (okB f a && okB f b)
  · rw [show ordV f a b = 2 by unfold ordV; rw [if_neg]; intro ⟨h1, h2⟩; rw [h1, h2] at h; cases h]
    rcases form_cases f with rfl | rfl | rfl | hf
    · exact iOrder_1b h ha hb w hl
    · exact iOrder_2b h ha hb w hl
    · exact iOrder_3b h ha hb w hl
    · exact iOrder_n hf hw ha hb w hl
  · rw [show ordV f a b = cmpS (sgP f) a b by unfold ordV; rw [if_pos (by rwa [Bool.and_eq_true] at h)]]
    rcases form_cases f with rfl | rfl | rfl | hf
    · exact iOrder_1 h ha hb w hl
    · exact iOrder_2 h ha hb w hl
    · exact iOrder_3 h ha hb w hl
    · rw [okB_none hf] at h; cases h
end Go.Proofs.YtmjnnjjmfedlbaaDoor
