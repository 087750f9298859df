/-
  Unpack of the program; the walk of FnExactUnpack.
-/
import Derived.Test.YtmjnnjjmfedlbaaDoorUl
import Derived.Test.YtmjnnjjmfedlbaaDoorOn
import Derived.Test.YtmjnnjjmfedlbaaDoorUr
import Derived.Test.YtmjnnjjmfedlbaaDoorUt
namespace Go.Proofs.YtmjnnjjmfedlbaaDoor
set_option linter.unusedSimpArgs false
set_option linter.unusedVariables false
open Go.RowKit Go.Dr

theorem unp_num {P I : Nat} {B : Int} {n : Bool} {r : Nat} {v : Value} (h : UnpIs P I B n r v) : ∃ k n x m, v = num k n x m := by
  rcases h with ⟨-, rfl⟩ | ⟨-, rfl⟩ | ⟨-, rfl⟩ | ⟨-, -, x, m, rfl, -⟩ <;> exact ⟨_, _, _, _, rfl⟩
theorem fin_same {m0 : Nat} {e0 x y : Int} {a b : Nat} (h : Fin m0 e0 x a) (g : Fin m0 e0 y b) : x = y ∧ a = b := by
  obtain ⟨ha, i, hi, rfl⟩ := h
  obtain ⟨hb, j, hj, rfl⟩ := g
  have key : ∀ {a b i j : Nat}, a % 2 = 1 → b % 2 = 1 → a * 2 ^ i = b * 2 ^ j → i ≤ j → i = j := by
    intro a b i j ha hb h hij
    rcases Nat.lt_or_ge i j with hlt | hge
    · exfalso
      obtain ⟨t, rfl⟩ : ∃ t, j = i + 1 + t := ⟨j - i - 1, by omega⟩
      rw [show i + 1 + t = i + (1 + t) by omega, Nat.pow_add, ← Nat.mul_assoc, Nat.mul_right_comm] at h
      have h2 := Nat.eq_of_mul_eq_mul_right (Nat.two_pow_pos i) h
      rw [Nat.pow_add, Nat.pow_one, ← Nat.mul_assoc] at h2
      have : a % 2 = 0 := by rw [h2, Nat.mul_right_comm, Nat.mul_mod_left]
      omega
    · omega
  have e : i = j := by
    rcases Nat.le_total i j with h | h
    · exact key ha hb (hi.symm.trans hj) h
    · exact (key hb ha (hj.symm.trans hi) h).symm
  subst e
  exact ⟨rfl, Nat.eq_of_mul_eq_mul_right (Nat.two_pow_pos i) (hi.symm.trans hj)⟩
theorem unp_same {P I : Nat} {B : Int} {n : Bool} {r : Nat} {v u : Value} (hI : 0 < I) (h : UnpIs P I B n r v) (g : UnpIs P I B n r u) : v = u := by
  rcases h with ⟨h1, rfl⟩ | ⟨h1, rfl⟩ | ⟨h1, rfl⟩ | ⟨h1, h2, x, m, rfl, hf⟩ <;> rcases g with ⟨g1, rfl⟩ | ⟨g1, rfl⟩ | ⟨g1, rfl⟩ | ⟨g1, g2, y, q, rfl, gf⟩ <;> first
    | rfl
    | (exfalso; omega)
    | (obtain ⟨rfl, rfl⟩ := fin_same hf gf; rfl)

set_option maxRecDepth 8000 in
set_option maxHeartbeats 3200000 in
theorem iUnpack_1 {b : Nat} (h : okB 1 b = true) (hb : b < 18446744073709551616) (w : World) (hl : Lk w) (ht : Tk w) :
    Calls Tryd.prog 17 #[.int .i64 1, .int .u64 (b : Int)] w fun e w' => ∃ v, e = .returned v ∧ UnpIs 1024 31744 25 (decide (32768 ≤ b)) (b % 32768) v ∧ Below w.heap.size w w' := by
  have HOF := Lib.hid (fun (A : Option Addr) (c : Nat) (W : World) (hl : Lk W) (hr : IRow .u64 W A 1 c (nums [b])) => iOf_1 A 1 c [b] W hl hr (by intro x hx; simp at hx; rcases hx with rfl; assumption))
  rw [okL_1, h] at HOF
  have HP := Lib.hid (fun (W : World) (ht : Tk W) => iUnp_1 (b := b) (by simpa [okB] using h) W ht)
  have HL := Lib.hid hl
  have HT := Lib.hid ht
  clear hb hl ht h
  simp only [shV] at HOF HP
  go_enter Tryd.func17, Tryd.ntmps17
  go_upto_region 1 with fail
  obtain ⟨W0, hW0⟩ : ∃ W0, W0 = w.alloc (.cells #[.int .i64 0, .bool false, .int .i64 0, .int .u64 0] 28) := ⟨_, rfl⟩
  have H4 := Lib.hid (show Blk W0 w.heap.size 28 #[.int .i64 0, .bool false, .int .i64 0, .int .u64 0] by rw [hW0]; exact Blk.new _ _ _)
  have HW0 := Lib.hid (show Below w.heap.size w W0 by rw [hW0]; exact (Below.refl _ _).alloc (Nat.le_refl _) _)
  rw [← hW0]
  clear hW0
  have HR := Lib.hid (row1 b W0)
  have HL1 := Lib.hid ((HL.out.below HW0.out).new (.cells #[.int .u64 (b : Int)] 22))
  go_upto_region 2 with (go_at_call 39; (with_reducible refine (HOF.out _ _ _ HL1.out HR.out).mono ?_); rintro e w1 ⟨rfl, hbn⟩; have HB1 := Lib.hid (Fl.chain ((Below.refl W0.heap.size W0).alloc (Nat.le_refl _) _) hbn); clear hbn)
  obtain ⟨W2, hW2⟩ : ∃ W2, W2 = w1.alloc (.cells #[.int .i64 16, .int .i64 11, .int .i64 15] 48) := ⟨_, rfl⟩
  have HG := Lib.hid (show Blk W2 w1.heap.size 48 #[.int .i64 16, .int .i64 11, .int .i64 15] by rw [hW2]; exact Blk.new _ _ _)
  have HB2 := Lib.hid (show Below W0.heap.size W0 W2 by rw [hW2]; exact HB1.out.alloc HB1.out.size _)
  have H42 := Lib.hid (H4.out.below HB2.out H4.out.lt)
  have HW2 := Lib.hid (show Below w.heap.size w W2 from Fl.chain HW0.out HB2.out)
  rw [← hW2]
  clear hW2 HL1 HR HB1 HOF
  have c0 := HG.out.cell 0
  have c1 := HG.out.cell 1
  have c2 := HG.out.cell 2
  go_upto_region 4 with fail
  go_wp2_with (go_at_call 48; (with_reducible refine (HP.out _ (HT.out.below HW2.out)).mono ?_); rintro e w3 ⟨v, rfl, hv, hbn⟩; have HV := Lib.hid hv; obtain ⟨kk, nn, xx, mm, rfl⟩ := unp_num hv; have H43 := Lib.hid (H42.out.below hbn H42.out.lt); have HW3 := Lib.hid (Fl.chain HW2.out hbn); clear hbn hv; (have k0 := H43.out.cell 0); (have k1 := H43.out.cell 1); (have k2 := H43.out.cell 2); (have k3 := H43.out.cell 3); (have f0 := H43.out.frozen 0); (have f1 := H43.out.frozen 1); (have f2 := H43.out.frozen 2); (have f3 := H43.out.frozen 3))
  have HF := Lib.hid ((((H43.out.set_ 0 (.int .i64 kk)).set_ 1 (.bool nn)).set_ 2 (.int .i64 xx)).set_ 3 (.int .u64 mm))
  have HBF := Lib.hid ((((HW3.out.setCell (p := ⟨w.heap.size, 0, none⟩) (Nat.le_refl _) (.int .i64 kk)).setCell (p := ⟨w.heap.size, 1, none⟩) (Nat.le_refl _) (.bool nn)).setCell (p := ⟨w.heap.size, 2, none⟩) (Nat.le_refl _) (.int .i64 xx)).setCell (p := ⟨w.heap.size, 3, none⟩) (Nat.le_refl _) (.int .u64 mm))
  refine bodyPost_ret (v := num kk nn xx mm) ?_ rfl ⟨_, rfl, HV.out, HBF.out⟩
  have h0 := HF.out.cell 0
  have h1 := HF.out.cell 1
  have h2 := HF.out.cell 2
  have h3 := HF.out.cell 3
  clear HF k0 k1 k2 k3
  simp [results, Tryd.results17, go_sem, h0, h1, h2, h3]

set_option maxRecDepth 8000 in
set_option maxHeartbeats 3200000 in
theorem iUnpack_1b {b : Nat} (h : okB 1 b = false) (hb : b < 18446744073709551616) (w : World) (hl : Lk w) (ht : Tk w) :
    Calls Tryd.prog 17 #[.int .i64 1, .int .u64 (b : Int)] w fun e w' => e = .returned (num 4 false 0 0) ∧ Below w.heap.size w w' := by
  have HOF := Lib.hid (fun (A : Option Addr) (c : Nat) (W : World) (hl : Lk W) (hr : IRow .u64 W A 1 c (nums [b])) => iOf_1 A 1 c [b] W hl hr (by intro x hx; simp at hx; rcases hx with rfl; assumption))
  rw [okL_1, h] at HOF
  have HL := Lib.hid hl
  have HT := Lib.hid ht
  clear hb hl ht h
  simp only [shV] at HOF
  go_enter Tryd.func17, Tryd.ntmps17
  go_upto_region 1 with fail
  obtain ⟨W0, hW0⟩ : ∃ W0, W0 = w.alloc (.cells #[.int .i64 0, .bool false, .int .i64 0, .int .u64 0] 28) := ⟨_, rfl⟩
  have H4 := Lib.hid (show Blk W0 w.heap.size 28 #[.int .i64 0, .bool false, .int .i64 0, .int .u64 0] by rw [hW0]; exact Blk.new _ _ _)
  have HW0 := Lib.hid (show Below w.heap.size w W0 by rw [hW0]; exact (Below.refl _ _).alloc (Nat.le_refl _) _)
  rw [← hW0]
  clear hW0
  have HR := Lib.hid (row1 b W0)
  have HL1 := Lib.hid ((HL.out.below HW0.out).new (.cells #[.int .u64 (b : Int)] 22))
  go_upto_region 2 with (go_at_call 39; (with_reducible refine (HOF.out _ _ _ HL1.out HR.out).mono ?_); rintro e w1 ⟨rfl, hbn⟩; have HB1 := Lib.hid (Fl.chain ((Below.refl W0.heap.size W0).alloc (Nat.le_refl _) _) hbn); clear hbn)
  obtain ⟨W2, hW2⟩ : ∃ W2, W2 = w1.alloc (.cells #[.int .i64 16, .int .i64 11, .int .i64 15] 48) := ⟨_, rfl⟩
  have HG := Lib.hid (show Blk W2 w1.heap.size 48 #[.int .i64 16, .int .i64 11, .int .i64 15] by rw [hW2]; exact Blk.new _ _ _)
  have HB2 := Lib.hid (show Below W0.heap.size W0 W2 by rw [hW2]; exact HB1.out.alloc HB1.out.size _)
  have H42 := Lib.hid (H4.out.below HB2.out H4.out.lt)
  have HW2 := Lib.hid (show Below w.heap.size w W2 from Fl.chain HW0.out HB2.out)
  rw [← hW2]
  clear hW2 HL1 HR HB1 HOF
  have c0 := HG.out.cell 0
  have c1 := HG.out.cell 1
  have c2 := HG.out.cell 2
  have H43 := H42
  have HW3 := HW2
  (have k0 := H43.out.cell 0); (have k1 := H43.out.cell 1); (have k2 := H43.out.cell 2); (have k3 := H43.out.cell 3); (have f0 := H43.out.frozen 0); (have f1 := H43.out.frozen 1); (have f2 := H43.out.frozen 2); (have f3 := H43.out.frozen 3)
  go_wp2
  have HF := Lib.hid ((((H43.out.set_ 0 (.int .i64 4)).set_ 1 (.bool false)).set_ 2 (.int .i64 0)).set_ 3 (.int .u64 0))
  have HBF := Lib.hid ((((HW3.out.setCell (p := ⟨w.heap.size, 0, none⟩) (Nat.le_refl _) (.int .i64 4)).setCell (p := ⟨w.heap.size, 1, none⟩) (Nat.le_refl _) (.bool false)).setCell (p := ⟨w.heap.size, 2, none⟩) (Nat.le_refl _) (.int .i64 0)).setCell (p := ⟨w.heap.size, 3, none⟩) (Nat.le_refl _) (.int .u64 0))
  refine bodyPost_ret (v := num 4 false 0 0) ?_ rfl ⟨rfl, HBF.out⟩
  have h0 := HF.out.cell 0
  have h1 := HF.out.cell 1
  have h2 := HF.out.cell 2
  have h3 := HF.out.cell 3
  clear HF k0 k1 k2 k3
  simp [results, Tryd.results17, go_sem, h0, h1, h2, h3]

set_option maxRecDepth 8000 in
set_option maxHeartbeats 3200000 in
theorem iUnpack_2 {b : Nat} (h : okB 2 b = true) (hb : b < 18446744073709551616) (w : World) (hl : Lk w) (ht : Tk w) :
    Calls Tryd.prog 17 #[.int .i64 2, .int .u64 (b : Int)] w fun e w' => ∃ v, e = .returned v ∧ UnpIs 8388608 2139095040 150 (decide (2147483648 ≤ b)) (b % 2147483648) v ∧ Below w.heap.size w w' := by
  have HOF := Lib.hid (fun (A : Option Addr) (c : Nat) (W : World) (hl : Lk W) (hr : IRow .u64 W A 1 c (nums [b])) => iOf_2 A 1 c [b] W hl hr (by intro x hx; simp at hx; rcases hx with rfl; assumption))
  rw [okL_1, h] at HOF
  have HP := Lib.hid (fun (W : World) (ht : Tk W) => iUnp_2 (b := b) (by simpa [okB] using h) W ht)
  have HL := Lib.hid hl
  have HT := Lib.hid ht
  clear hb hl ht h
  simp only [shV] at HOF HP
  go_enter Tryd.func17, Tryd.ntmps17
  go_upto_region 1 with fail
  obtain ⟨W0, hW0⟩ : ∃ W0, W0 = w.alloc (.cells #[.int .i64 0, .bool false, .int .i64 0, .int .u64 0] 28) := ⟨_, rfl⟩
  have H4 := Lib.hid (show Blk W0 w.heap.size 28 #[.int .i64 0, .bool false, .int .i64 0, .int .u64 0] by rw [hW0]; exact Blk.new _ _ _)
  have HW0 := Lib.hid (show Below w.heap.size w W0 by rw [hW0]; exact (Below.refl _ _).alloc (Nat.le_refl _) _)
  rw [← hW0]
  clear hW0
  have HR := Lib.hid (row1 b W0)
  have HL1 := Lib.hid ((HL.out.below HW0.out).new (.cells #[.int .u64 (b : Int)] 22))
  go_upto_region 2 with (go_at_call 39; (with_reducible refine (HOF.out _ _ _ HL1.out HR.out).mono ?_); rintro e w1 ⟨rfl, hbn⟩; have HB1 := Lib.hid (Fl.chain ((Below.refl W0.heap.size W0).alloc (Nat.le_refl _) _) hbn); clear hbn)
  obtain ⟨W2, hW2⟩ : ∃ W2, W2 = w1.alloc (.cells #[.int .i64 32, .int .i64 24, .int .i64 127] 48) := ⟨_, rfl⟩
  have HG := Lib.hid (show Blk W2 w1.heap.size 48 #[.int .i64 32, .int .i64 24, .int .i64 127] by rw [hW2]; exact Blk.new _ _ _)
  have HB2 := Lib.hid (show Below W0.heap.size W0 W2 by rw [hW2]; exact HB1.out.alloc HB1.out.size _)
  have H42 := Lib.hid (H4.out.below HB2.out H4.out.lt)
  have HW2 := Lib.hid (show Below w.heap.size w W2 from Fl.chain HW0.out HB2.out)
  rw [← hW2]
  clear hW2 HL1 HR HB1 HOF
  have c0 := HG.out.cell 0
  have c1 := HG.out.cell 1
  have c2 := HG.out.cell 2
  go_upto_region 4 with fail
  go_wp2_with (go_at_call 48; (with_reducible refine (HP.out _ (HT.out.below HW2.out)).mono ?_); rintro e w3 ⟨v, rfl, hv, hbn⟩; have HV := Lib.hid hv; obtain ⟨kk, nn, xx, mm, rfl⟩ := unp_num hv; have H43 := Lib.hid (H42.out.below hbn H42.out.lt); have HW3 := Lib.hid (Fl.chain HW2.out hbn); clear hbn hv; (have k0 := H43.out.cell 0); (have k1 := H43.out.cell 1); (have k2 := H43.out.cell 2); (have k3 := H43.out.cell 3); (have f0 := H43.out.frozen 0); (have f1 := H43.out.frozen 1); (have f2 := H43.out.frozen 2); (have f3 := H43.out.frozen 3))
  have HF := Lib.hid ((((H43.out.set_ 0 (.int .i64 kk)).set_ 1 (.bool nn)).set_ 2 (.int .i64 xx)).set_ 3 (.int .u64 mm))
  have HBF := Lib.hid ((((HW3.out.setCell (p := ⟨w.heap.size, 0, none⟩) (Nat.le_refl _) (.int .i64 kk)).setCell (p := ⟨w.heap.size, 1, none⟩) (Nat.le_refl _) (.bool nn)).setCell (p := ⟨w.heap.size, 2, none⟩) (Nat.le_refl _) (.int .i64 xx)).setCell (p := ⟨w.heap.size, 3, none⟩) (Nat.le_refl _) (.int .u64 mm))
  refine bodyPost_ret (v := num kk nn xx mm) ?_ rfl ⟨_, rfl, HV.out, HBF.out⟩
  have h0 := HF.out.cell 0
  have h1 := HF.out.cell 1
  have h2 := HF.out.cell 2
  have h3 := HF.out.cell 3
  clear HF k0 k1 k2 k3
  simp [results, Tryd.results17, go_sem, h0, h1, h2, h3]

set_option maxRecDepth 8000 in
set_option maxHeartbeats 3200000 in
theorem iUnpack_2b {b : Nat} (h : okB 2 b = false) (hb : b < 18446744073709551616) (w : World) (hl : Lk w) (ht : Tk w) :
    Calls Tryd.prog 17 #[.int .i64 2, .int .u64 (b : Int)] w fun e w' => e = .returned (num 4 false 0 0) ∧ Below w.heap.size w w' := by
  have HOF := Lib.hid (fun (A : Option Addr) (c : Nat) (W : World) (hl : Lk W) (hr : IRow .u64 W A 1 c (nums [b])) => iOf_2 A 1 c [b] W hl hr (by intro x hx; simp at hx; rcases hx with rfl; assumption))
  rw [okL_1, h] at HOF
  have HL := Lib.hid hl
  have HT := Lib.hid ht
  clear hb hl ht h
  simp only [shV] at HOF
  go_enter Tryd.func17, Tryd.ntmps17
  go_upto_region 1 with fail
  obtain ⟨W0, hW0⟩ : ∃ W0, W0 = w.alloc (.cells #[.int .i64 0, .bool false, .int .i64 0, .int .u64 0] 28) := ⟨_, rfl⟩
  have H4 := Lib.hid (show Blk W0 w.heap.size 28 #[.int .i64 0, .bool false, .int .i64 0, .int .u64 0] by rw [hW0]; exact Blk.new _ _ _)
  have HW0 := Lib.hid (show Below w.heap.size w W0 by rw [hW0]; exact (Below.refl _ _).alloc (Nat.le_refl _) _)
  rw [← hW0]
  clear hW0
  have HR := Lib.hid (row1 b W0)
  have HL1 := Lib.hid ((HL.out.below HW0.out).new (.cells #[.int .u64 (b : Int)] 22))
  go_upto_region 2 with (go_at_call 39; (with_reducible refine (HOF.out _ _ _ HL1.out HR.out).mono ?_); rintro e w1 ⟨rfl, hbn⟩; have HB1 := Lib.hid (Fl.chain ((Below.refl W0.heap.size W0).alloc (Nat.le_refl _) _) hbn); clear hbn)
  obtain ⟨W2, hW2⟩ : ∃ W2, W2 = w1.alloc (.cells #[.int .i64 32, .int .i64 24, .int .i64 127] 48) := ⟨_, rfl⟩
  have HG := Lib.hid (show Blk W2 w1.heap.size 48 #[.int .i64 32, .int .i64 24, .int .i64 127] by rw [hW2]; exact Blk.new _ _ _)
  have HB2 := Lib.hid (show Below W0.heap.size W0 W2 by rw [hW2]; exact HB1.out.alloc HB1.out.size _)
  have H42 := Lib.hid (H4.out.below HB2.out H4.out.lt)
  have HW2 := Lib.hid (show Below w.heap.size w W2 from Fl.chain HW0.out HB2.out)
  rw [← hW2]
  clear hW2 HL1 HR HB1 HOF
  have c0 := HG.out.cell 0
  have c1 := HG.out.cell 1
  have c2 := HG.out.cell 2
  have H43 := H42
  have HW3 := HW2
  (have k0 := H43.out.cell 0); (have k1 := H43.out.cell 1); (have k2 := H43.out.cell 2); (have k3 := H43.out.cell 3); (have f0 := H43.out.frozen 0); (have f1 := H43.out.frozen 1); (have f2 := H43.out.frozen 2); (have f3 := H43.out.frozen 3)
  go_wp2
  have HF := Lib.hid ((((H43.out.set_ 0 (.int .i64 4)).set_ 1 (.bool false)).set_ 2 (.int .i64 0)).set_ 3 (.int .u64 0))
  have HBF := Lib.hid ((((HW3.out.setCell (p := ⟨w.heap.size, 0, none⟩) (Nat.le_refl _) (.int .i64 4)).setCell (p := ⟨w.heap.size, 1, none⟩) (Nat.le_refl _) (.bool false)).setCell (p := ⟨w.heap.size, 2, none⟩) (Nat.le_refl _) (.int .i64 0)).setCell (p := ⟨w.heap.size, 3, none⟩) (Nat.le_refl _) (.int .u64 0))
  refine bodyPost_ret (v := num 4 false 0 0) ?_ rfl ⟨rfl, HBF.out⟩
  have h0 := HF.out.cell 0
  have h1 := HF.out.cell 1
  have h2 := HF.out.cell 2
  have h3 := HF.out.cell 3
  clear HF k0 k1 k2 k3
  simp [results, Tryd.results17, go_sem, h0, h1, h2, h3]

set_option maxRecDepth 8000 in
set_option maxHeartbeats 3200000 in
theorem iUnpack_3 {b : Nat} (h : okB 3 b = true) (hb : b < 18446744073709551616) (w : World) (hl : Lk w) (ht : Tk w) :
    Calls Tryd.prog 17 #[.int .i64 3, .int .u64 (b : Int)] w fun e w' => ∃ v, e = .returned v ∧ UnpIs 4503599627370496 9218868437227405312 1075 (decide (9223372036854775808 ≤ b)) (b % 9223372036854775808) v ∧ Below w.heap.size w w' := by
  have HOF := Lib.hid (fun (A : Option Addr) (c : Nat) (W : World) (hl : Lk W) (hr : IRow .u64 W A 1 c (nums [b])) => iOf_3 A 1 c [b] W hl hr (by intro x hx; simp at hx; rcases hx with rfl; assumption))
  rw [okL_1, h] at HOF
  have HP := Lib.hid (fun (W : World) (ht : Tk W) => iUnp_3 (b := b) (by exact hb) W ht)
  have HL := Lib.hid hl
  have HT := Lib.hid ht
  clear hb hl ht h
  simp only [shV] at HOF HP
  go_enter Tryd.func17, Tryd.ntmps17
  go_upto_region 1 with fail
  obtain ⟨W0, hW0⟩ : ∃ W0, W0 = w.alloc (.cells #[.int .i64 0, .bool false, .int .i64 0, .int .u64 0] 28) := ⟨_, rfl⟩
  have H4 := Lib.hid (show Blk W0 w.heap.size 28 #[.int .i64 0, .bool false, .int .i64 0, .int .u64 0] by rw [hW0]; exact Blk.new _ _ _)
  have HW0 := Lib.hid (show Below w.heap.size w W0 by rw [hW0]; exact (Below.refl _ _).alloc (Nat.le_refl _) _)
  rw [← hW0]
  clear hW0
  have HR := Lib.hid (row1 b W0)
  have HL1 := Lib.hid ((HL.out.below HW0.out).new (.cells #[.int .u64 (b : Int)] 22))
  go_upto_region 2 with (go_at_call 39; (with_reducible refine (HOF.out _ _ _ HL1.out HR.out).mono ?_); rintro e w1 ⟨rfl, hbn⟩; have HB1 := Lib.hid (Fl.chain ((Below.refl W0.heap.size W0).alloc (Nat.le_refl _) _) hbn); clear hbn)
  obtain ⟨W2, hW2⟩ : ∃ W2, W2 = w1.alloc (.cells #[.int .i64 64, .int .i64 53, .int .i64 1023] 48) := ⟨_, rfl⟩
  have HG := Lib.hid (show Blk W2 w1.heap.size 48 #[.int .i64 64, .int .i64 53, .int .i64 1023] by rw [hW2]; exact Blk.new _ _ _)
  have HB2 := Lib.hid (show Below W0.heap.size W0 W2 by rw [hW2]; exact HB1.out.alloc HB1.out.size _)
  have H42 := Lib.hid (H4.out.below HB2.out H4.out.lt)
  have HW2 := Lib.hid (show Below w.heap.size w W2 from Fl.chain HW0.out HB2.out)
  rw [← hW2]
  clear hW2 HL1 HR HB1 HOF
  have c0 := HG.out.cell 0
  have c1 := HG.out.cell 1
  have c2 := HG.out.cell 2
  go_upto_region 4 with fail
  go_wp2_with (go_at_call 48; (with_reducible refine (HP.out _ (HT.out.below HW2.out)).mono ?_); rintro e w3 ⟨v, rfl, hv, hbn⟩; have HV := Lib.hid hv; obtain ⟨kk, nn, xx, mm, rfl⟩ := unp_num hv; have H43 := Lib.hid (H42.out.below hbn H42.out.lt); have HW3 := Lib.hid (Fl.chain HW2.out hbn); clear hbn hv; (have k0 := H43.out.cell 0); (have k1 := H43.out.cell 1); (have k2 := H43.out.cell 2); (have k3 := H43.out.cell 3); (have f0 := H43.out.frozen 0); (have f1 := H43.out.frozen 1); (have f2 := H43.out.frozen 2); (have f3 := H43.out.frozen 3))
  have HF := Lib.hid ((((H43.out.set_ 0 (.int .i64 kk)).set_ 1 (.bool nn)).set_ 2 (.int .i64 xx)).set_ 3 (.int .u64 mm))
  have HBF := Lib.hid ((((HW3.out.setCell (p := ⟨w.heap.size, 0, none⟩) (Nat.le_refl _) (.int .i64 kk)).setCell (p := ⟨w.heap.size, 1, none⟩) (Nat.le_refl _) (.bool nn)).setCell (p := ⟨w.heap.size, 2, none⟩) (Nat.le_refl _) (.int .i64 xx)).setCell (p := ⟨w.heap.size, 3, none⟩) (Nat.le_refl _) (.int .u64 mm))
  refine bodyPost_ret (v := num kk nn xx mm) ?_ rfl ⟨_, rfl, HV.out, HBF.out⟩
  have h0 := HF.out.cell 0
  have h1 := HF.out.cell 1
  have h2 := HF.out.cell 2
  have h3 := HF.out.cell 3
  clear HF k0 k1 k2 k3
  simp [results, Tryd.results17, go_sem, h0, h1, h2, h3]

set_option maxRecDepth 8000 in
set_option maxHeartbeats 3200000 in
theorem iUnpack_n {b : Nat} {f : Int} (hf : NoForm f) (hw : (Lit.int .i64 f).wf = true) (hb : b < 18446744073709551616) (w : World) (hl : Lk w) (ht : Tk w) :
    Calls Tryd.prog 17 #[.int .i64 f, .int .u64 (b : Int)] w fun e w' => e = .returned (num 4 false 0 0) ∧ Below w.heap.size w w' := by
  have HOF := Lib.hid (fun (A : Option Addr) (c : Nat) (W : World) (hl : Lk W) (hr : IRow .u64 W A 1 c (nums [b])) => iOf_n hf hw A 1 c W hl)
  have HL := Lib.hid hl
  have HT := Lib.hid ht
  clear hb hl ht hf hw
  simp only [shV] at HOF
  go_enter Tryd.func17, Tryd.ntmps17
  go_upto_region 1 with fail
  obtain ⟨W0, hW0⟩ : ∃ W0, W0 = w.alloc (.cells #[.int .i64 0, .bool false, .int .i64 0, .int .u64 0] 28) := ⟨_, rfl⟩
  have H4 := Lib.hid (show Blk W0 w.heap.size 28 #[.int .i64 0, .bool false, .int .i64 0, .int .u64 0] by rw [hW0]; exact Blk.new _ _ _)
  have HW0 := Lib.hid (show Below w.heap.size w W0 by rw [hW0]; exact (Below.refl _ _).alloc (Nat.le_refl _) _)
  rw [← hW0]
  clear hW0
  have HR := Lib.hid (row1 b W0)
  have HL1 := Lib.hid ((HL.out.below HW0.out).new (.cells #[.int .u64 (b : Int)] 22))
  go_upto_region 2 with (go_at_call 39; (with_reducible refine (HOF.out _ _ _ HL1.out HR.out).mono ?_); rintro e w1 ⟨rfl, hbn⟩; have HB1 := Lib.hid (Fl.chain ((Below.refl W0.heap.size W0).alloc (Nat.le_refl _) _) hbn); clear hbn)
  obtain ⟨W2, hW2⟩ : ∃ W2, W2 = w1.alloc (.cells #[.int .i64 0, .int .i64 0, .int .i64 0] 48) := ⟨_, rfl⟩
  have HG := Lib.hid (show Blk W2 w1.heap.size 48 #[.int .i64 0, .int .i64 0, .int .i64 0] by rw [hW2]; exact Blk.new _ _ _)
  have HB2 := Lib.hid (show Below W0.heap.size W0 W2 by rw [hW2]; exact HB1.out.alloc HB1.out.size _)
  have H42 := Lib.hid (H4.out.below HB2.out H4.out.lt)
  have HW2 := Lib.hid (show Below w.heap.size w W2 from Fl.chain HW0.out HB2.out)
  rw [← hW2]
  clear hW2 HL1 HR HB1 HOF
  have c0 := HG.out.cell 0
  have c1 := HG.out.cell 1
  have c2 := HG.out.cell 2
  have H43 := H42
  have HW3 := HW2
  (have k0 := H43.out.cell 0); (have k1 := H43.out.cell 1); (have k2 := H43.out.cell 2); (have k3 := H43.out.cell 3); (have f0 := H43.out.frozen 0); (have f1 := H43.out.frozen 1); (have f2 := H43.out.frozen 2); (have f3 := H43.out.frozen 3)
  go_wp2
  have HF := Lib.hid ((((H43.out.set_ 0 (.int .i64 4)).set_ 1 (.bool false)).set_ 2 (.int .i64 0)).set_ 3 (.int .u64 0))
  have HBF := Lib.hid ((((HW3.out.setCell (p := ⟨w.heap.size, 0, none⟩) (Nat.le_refl _) (.int .i64 4)).setCell (p := ⟨w.heap.size, 1, none⟩) (Nat.le_refl _) (.bool false)).setCell (p := ⟨w.heap.size, 2, none⟩) (Nat.le_refl _) (.int .i64 0)).setCell (p := ⟨w.heap.size, 3, none⟩) (Nat.le_refl _) (.int .u64 0))
  refine bodyPost_ret (v := num 4 false 0 0) ?_ rfl ⟨rfl, HBF.out⟩
  have h0 := HF.out.cell 0
  have h1 := HF.out.cell 1
  have h2 := HF.out.cell 2
  have h3 := HF.out.cell 3
  clear HF k0 k1 k2 k3
  simp [results, Tryd.results17, go_sem, h0, h1, h2, h3]
end Go.Proofs.YtmjnnjjmfedlbaaDoor
