/-
  Compare of the program.
-/
import Derived.Test.YtmjnnjjmfedlbaaDoorOn
namespace Go.Proofs.YtmjnnjjmfedlbaaDoor
set_option linter.unusedSimpArgs false
set_option linter.unusedVariables false
open Go.RowKit Go.Dr

set_option maxRecDepth 8000 in
set_option maxHeartbeats 6400000 in
theorem iCompare_1 {a b : Nat} (h : (okB 1 a && okB 1 b) = true) (ha : a < 18446744073709551616) (hb : b < 18446744073709551616) (w : World) (hl : Lk w) :
    Calls Tryd.prog 20 #[.int .i64 1, .int .u64 (a : Int), .int .u64 (b : Int)] w fun e w' => e = .returned (.int .i64 (cmpR (nanB 1 a) (nanB 1 b) (zerB 1 a) (zerB 1 b) (cmpS 32768 a b))) ∧ Below w.heap.size w w' := by
  have HOF := Lib.hid (fun (A : Option Addr) (c : Nat) (W : World) (hl : Lk W) (hr : IRow .u64 W A 2 c (nums [a, b])) => iOf_1 A 2 c [a, b] W hl hr (by intro x hx; simp at hx; rcases hx with rfl | rfl <;> assumption))
  rw [okL_2, h] at HOF
  have hab : okB 1 a = true ∧ okB 1 b = true := by rwa [Bool.and_eq_true] at h
  have la : a < 65536 := by simpa [okB] using hab.1
  have lb : b < 65536 := by simpa [okB] using hab.2
  have HO := Lib.hid (fun (W : World) => iOrd_1 la lb W)
  have HNA := Lib.hid (fun (W : World) => iIsNan_1 la W)
  have HNB := Lib.hid (fun (W : World) => iIsNan_1 lb W)
  have HSG := Lib.hid (fun (W : World) => iSign_1 W)
  have xa : Go.bits .andNot .u64 (a : Int) 32768 = ((a % 32768 : Nat) : Int) := andNot_pow (s := 15) (by decide) la
  have xb : Go.bits .andNot .u64 (b : Int) 32768 = ((b % 32768 : Nat) : Int) := andNot_pow (s := 15) (by decide) lb
  have ta : (((a % 32768 : Nat) : Int) == 0) = zerB 1 a := by
    show _ = decide (a % 32768 = 0)
    by_cases h : a % 32768 = 0
    · rw [decide_eq_true h, beq_iff_eq]; omega
    · rw [decide_eq_false h, beq_eq_false_iff_ne]; omega
  have tb : (((b % 32768 : Nat) : Int) == 0) = zerB 1 b := by
    show _ = decide (b % 32768 = 0)
    by_cases h : b % 32768 = 0
    · rw [decide_eq_true h, beq_iff_eq]; omega
    · rw [decide_eq_false h, beq_eq_false_iff_ne]; omega
  generalize a % 32768 = am at xa ta
  generalize b % 32768 = bm at xb tb
  generalize nanB 1 a = na at HNA ⊢
  generalize nanB 1 b = nb at HNB ⊢
  generalize zerB 1 a = za at ta ⊢
  generalize zerB 1 b = zb at tb ⊢
  generalize cmpS 32768 a b = r at HO ⊢
  clear hab la lb
  have HR := Lib.hid (row2 a b w)
  have HW1 := Lib.hid ((Below.refl w.heap.size w).alloc (Nat.le_refl _) (.cells #[.int .u64 (a : Int), .int .u64 (b : Int)] 22))
  have HL1 := Lib.hid (hl.new (.cells #[.int .u64 (a : Int), .int .u64 (b : Int)] 22))
  clear ha hb hl h
  simp only [shV] at HOF HO HNA HNB HSG
  go_enter Tryd.func20, Tryd.ntmps20
  go_upto_region 2 with (first
    | (go_at_call 39; (with_reducible refine (HOF.out _ _ _ HL1.out HR.out).mono ?_); rintro e w1 ⟨rfl, hbn⟩; have HW2 := Lib.hid (Fl.chain HW1.out hbn); clear hbn))
  obtain ⟨W1, hW1⟩ : ∃ W1, W1 = w1.alloc (.cells #[.int .i64 16, .int .i64 11, .int .i64 15] 48) := ⟨_, rfl⟩
  have HG := Lib.hid (show Blk W1 w1.heap.size 48 #[.int .i64 16, .int .i64 11, .int .i64 15] by rw [hW1]; exact Blk.new _ _ _)
  have HW3 := Lib.hid (show Below w.heap.size w W1 by rw [hW1]; exact HW2.out.alloc HW2.out.size _)
  have c0 := HG.out.cell 0
  have c1 := HG.out.cell 1
  have c2 := HG.out.cell 2
  rw [← hW1]
  clear hW1 HW1 HW2 HL1 HR HOF
  generalize w1.heap.size = g0 at *
  cases na
  · cases nb
    · cases za
      · go_wp2_with (first
          | (go_at_call 43; (first | (with_reducible refine (HNA.out _).mono ?_) | (with_reducible refine (HNB.out _).mono ?_)); rintro e w2 ⟨rfl, hbn⟩; (replace HG := Lib.hid (HG.out.below hbn HG.out.lt)); (have c0 := HG.out.cell 0); (have c1 := HG.out.cell 1); (have c2 := HG.out.cell 2); (replace HW3 := Lib.hid (Fl.chain HW3.out hbn)); clear hbn)
          | (go_at_call 46; (with_reducible refine (HSG.out _).mono ?_); rintro e w2 ⟨rfl, hbn⟩; (replace HG := Lib.hid (HG.out.below hbn HG.out.lt)); (have c0 := HG.out.cell 0); (have c1 := HG.out.cell 1); (have c2 := HG.out.cell 2); (replace HW3 := Lib.hid (Fl.chain HW3.out hbn)); clear hbn)
          | (go_at_call 40; (with_reducible refine (HO.out _).mono ?_); rintro e w2 ⟨rfl, hbn⟩; (replace HG := Lib.hid (HG.out.below hbn HG.out.lt)); (have c0 := HG.out.cell 0); (have c1 := HG.out.cell 1); (have c2 := HG.out.cell 2); (replace HW3 := Lib.hid (Fl.chain HW3.out hbn)); clear hbn))
        go_ret
        exact ⟨rfl, HW3.out⟩
      · cases zb
        · go_wp2_with (first
            | (go_at_call 43; (first | (with_reducible refine (HNA.out _).mono ?_) | (with_reducible refine (HNB.out _).mono ?_)); rintro e w2 ⟨rfl, hbn⟩; (replace HG := Lib.hid (HG.out.below hbn HG.out.lt)); (have c0 := HG.out.cell 0); (have c1 := HG.out.cell 1); (have c2 := HG.out.cell 2); (replace HW3 := Lib.hid (Fl.chain HW3.out hbn)); clear hbn)
            | (go_at_call 46; (with_reducible refine (HSG.out _).mono ?_); rintro e w2 ⟨rfl, hbn⟩; (replace HG := Lib.hid (HG.out.below hbn HG.out.lt)); (have c0 := HG.out.cell 0); (have c1 := HG.out.cell 1); (have c2 := HG.out.cell 2); (replace HW3 := Lib.hid (Fl.chain HW3.out hbn)); clear hbn)
            | (go_at_call 40; (with_reducible refine (HO.out _).mono ?_); rintro e w2 ⟨rfl, hbn⟩; (replace HG := Lib.hid (HG.out.below hbn HG.out.lt)); (have c0 := HG.out.cell 0); (have c1 := HG.out.cell 1); (have c2 := HG.out.cell 2); (replace HW3 := Lib.hid (Fl.chain HW3.out hbn)); clear hbn))
          go_ret
          exact ⟨rfl, HW3.out⟩
        · go_wp2_with (first
            | (go_at_call 43; (first | (with_reducible refine (HNA.out _).mono ?_) | (with_reducible refine (HNB.out _).mono ?_)); rintro e w2 ⟨rfl, hbn⟩; (replace HG := Lib.hid (HG.out.below hbn HG.out.lt)); (have c0 := HG.out.cell 0); (have c1 := HG.out.cell 1); (have c2 := HG.out.cell 2); (replace HW3 := Lib.hid (Fl.chain HW3.out hbn)); clear hbn)
            | (go_at_call 46; (with_reducible refine (HSG.out _).mono ?_); rintro e w2 ⟨rfl, hbn⟩; (replace HG := Lib.hid (HG.out.below hbn HG.out.lt)); (have c0 := HG.out.cell 0); (have c1 := HG.out.cell 1); (have c2 := HG.out.cell 2); (replace HW3 := Lib.hid (Fl.chain HW3.out hbn)); clear hbn)
            | (go_at_call 40; (with_reducible refine (HO.out _).mono ?_); rintro e w2 ⟨rfl, hbn⟩; (replace HG := Lib.hid (HG.out.below hbn HG.out.lt)); (have c0 := HG.out.cell 0); (have c1 := HG.out.cell 1); (have c2 := HG.out.cell 2); (replace HW3 := Lib.hid (Fl.chain HW3.out hbn)); clear hbn))
          go_ret
          exact ⟨rfl, HW3.out⟩
    · go_wp2_with (first
        | (go_at_call 43; (first | (with_reducible refine (HNA.out _).mono ?_) | (with_reducible refine (HNB.out _).mono ?_)); rintro e w2 ⟨rfl, hbn⟩; (replace HG := Lib.hid (HG.out.below hbn HG.out.lt)); (have c0 := HG.out.cell 0); (have c1 := HG.out.cell 1); (have c2 := HG.out.cell 2); (replace HW3 := Lib.hid (Fl.chain HW3.out hbn)); clear hbn)
        | (go_at_call 46; (with_reducible refine (HSG.out _).mono ?_); rintro e w2 ⟨rfl, hbn⟩; (replace HG := Lib.hid (HG.out.below hbn HG.out.lt)); (have c0 := HG.out.cell 0); (have c1 := HG.out.cell 1); (have c2 := HG.out.cell 2); (replace HW3 := Lib.hid (Fl.chain HW3.out hbn)); clear hbn)
        | (go_at_call 40; (with_reducible refine (HO.out _).mono ?_); rintro e w2 ⟨rfl, hbn⟩; (replace HG := Lib.hid (HG.out.below hbn HG.out.lt)); (have c0 := HG.out.cell 0); (have c1 := HG.out.cell 1); (have c2 := HG.out.cell 2); (replace HW3 := Lib.hid (Fl.chain HW3.out hbn)); clear hbn))
      go_ret
      exact ⟨rfl, HW3.out⟩
  · go_wp2_with (first
      | (go_at_call 43; (first | (with_reducible refine (HNA.out _).mono ?_) | (with_reducible refine (HNB.out _).mono ?_)); rintro e w2 ⟨rfl, hbn⟩; (replace HG := Lib.hid (HG.out.below hbn HG.out.lt)); (have c0 := HG.out.cell 0); (have c1 := HG.out.cell 1); (have c2 := HG.out.cell 2); (replace HW3 := Lib.hid (Fl.chain HW3.out hbn)); clear hbn)
      | (go_at_call 46; (with_reducible refine (HSG.out _).mono ?_); rintro e w2 ⟨rfl, hbn⟩; (replace HG := Lib.hid (HG.out.below hbn HG.out.lt)); (have c0 := HG.out.cell 0); (have c1 := HG.out.cell 1); (have c2 := HG.out.cell 2); (replace HW3 := Lib.hid (Fl.chain HW3.out hbn)); clear hbn)
      | (go_at_call 40; (with_reducible refine (HO.out _).mono ?_); rintro e w2 ⟨rfl, hbn⟩; (replace HG := Lib.hid (HG.out.below hbn HG.out.lt)); (have c0 := HG.out.cell 0); (have c1 := HG.out.cell 1); (have c2 := HG.out.cell 2); (replace HW3 := Lib.hid (Fl.chain HW3.out hbn)); clear hbn))
    go_ret
    exact ⟨rfl, HW3.out⟩

set_option maxRecDepth 8000 in
set_option maxHeartbeats 6400000 in
theorem iCompare_1b {a b : Nat} (h : (okB 1 a && okB 1 b) = false) (ha : a < 18446744073709551616) (hb : b < 18446744073709551616) (w : World) (hl : Lk w) :
    Calls Tryd.prog 20 #[.int .i64 1, .int .u64 (a : Int), .int .u64 (b : Int)] w fun e w' => e = .returned (.int .i64 (2)) ∧ Below w.heap.size w w' := by
  have HOF := Lib.hid (fun (A : Option Addr) (c : Nat) (W : World) (hl : Lk W) (hr : IRow .u64 W A 2 c (nums [a, b])) => iOf_1 A 2 c [a, b] W hl hr (by intro x hx; simp at hx; rcases hx with rfl | rfl <;> assumption))
  rw [okL_2, h] at HOF
  have HR := Lib.hid (row2 a b w)
  have HW1 := Lib.hid ((Below.refl w.heap.size w).alloc (Nat.le_refl _) (.cells #[.int .u64 (a : Int), .int .u64 (b : Int)] 22))
  have HL1 := Lib.hid (hl.new (.cells #[.int .u64 (a : Int), .int .u64 (b : Int)] 22))
  clear ha hb hl h
  simp only [shV] at HOF
  go_enter Tryd.func20, Tryd.ntmps20
  go_upto_region 2 with (first
    | (go_at_call 39; (with_reducible refine (HOF.out _ _ _ HL1.out HR.out).mono ?_); rintro e w1 ⟨rfl, hbn⟩; have HW2 := Lib.hid (Fl.chain HW1.out hbn); clear hbn))
  have HW3 := Lib.hid (HW2.out.alloc HW2.out.size (.cells #[.int .i64 16, .int .i64 11, .int .i64 15] 48))
  go_wp2
  go_ret
  exact ⟨rfl, HW3.out⟩

set_option maxRecDepth 8000 in
set_option maxHeartbeats 6400000 in
theorem iCompare_2 {a b : Nat} (h : (okB 2 a && okB 2 b) = true) (ha : a < 18446744073709551616) (hb : b < 18446744073709551616) (w : World) (hl : Lk w) :
    Calls Tryd.prog 20 #[.int .i64 2, .int .u64 (a : Int), .int .u64 (b : Int)] w fun e w' => e = .returned (.int .i64 (cmpR (nanB 2 a) (nanB 2 b) (zerB 2 a) (zerB 2 b) (cmpS 2147483648 a b))) ∧ Below w.heap.size w w' := by
  have HOF := Lib.hid (fun (A : Option Addr) (c : Nat) (W : World) (hl : Lk W) (hr : IRow .u64 W A 2 c (nums [a, b])) => iOf_2 A 2 c [a, b] W hl hr (by intro x hx; simp at hx; rcases hx with rfl | rfl <;> assumption))
  rw [okL_2, h] at HOF
  have hab : okB 2 a = true ∧ okB 2 b = true := by rwa [Bool.and_eq_true] at h
  have la : a < 4294967296 := by simpa [okB] using hab.1
  have lb : b < 4294967296 := by simpa [okB] using hab.2
  have HO := Lib.hid (fun (W : World) => iOrd_2 la lb W)
  have HNA := Lib.hid (fun (W : World) => iIsNan_2 la W)
  have HNB := Lib.hid (fun (W : World) => iIsNan_2 lb W)
  have HSG := Lib.hid (fun (W : World) => iSign_2 W)
  have xa : Go.bits .andNot .u64 (a : Int) 2147483648 = ((a % 2147483648 : Nat) : Int) := andNot_pow (s := 31) (by decide) la
  have xb : Go.bits .andNot .u64 (b : Int) 2147483648 = ((b % 2147483648 : Nat) : Int) := andNot_pow (s := 31) (by decide) lb
  have ta : (((a % 2147483648 : Nat) : Int) == 0) = zerB 2 a := by
    show _ = decide (a % 2147483648 = 0)
    by_cases h : a % 2147483648 = 0
    · rw [decide_eq_true h, beq_iff_eq]; omega
    · rw [decide_eq_false h, beq_eq_false_iff_ne]; omega
  have tb : (((b % 2147483648 : Nat) : Int) == 0) = zerB 2 b := by
    show _ = decide (b % 2147483648 = 0)
    by_cases h : b % 2147483648 = 0
    · rw [decide_eq_true h, beq_iff_eq]; omega
    · rw [decide_eq_false h, beq_eq_false_iff_ne]; omega
  generalize a % 2147483648 = am at xa ta
  generalize b % 2147483648 = bm at xb tb
  generalize nanB 2 a = na at HNA ⊢
  generalize nanB 2 b = nb at HNB ⊢
  generalize zerB 2 a = za at ta ⊢
  generalize zerB 2 b = zb at tb ⊢
  generalize cmpS 2147483648 a b = r at HO ⊢
  clear hab la lb
  have HR := Lib.hid (row2 a b w)
  have HW1 := Lib.hid ((Below.refl w.heap.size w).alloc (Nat.le_refl _) (.cells #[.int .u64 (a : Int), .int .u64 (b : Int)] 22))
  have HL1 := Lib.hid (hl.new (.cells #[.int .u64 (a : Int), .int .u64 (b : Int)] 22))
  clear ha hb hl h
  simp only [shV] at HOF HO HNA HNB HSG
  go_enter Tryd.func20, Tryd.ntmps20
  go_upto_region 2 with (first
    | (go_at_call 39; (with_reducible refine (HOF.out _ _ _ HL1.out HR.out).mono ?_); rintro e w1 ⟨rfl, hbn⟩; have HW2 := Lib.hid (Fl.chain HW1.out hbn); clear hbn))
  obtain ⟨W1, hW1⟩ : ∃ W1, W1 = w1.alloc (.cells #[.int .i64 32, .int .i64 24, .int .i64 127] 48) := ⟨_, rfl⟩
  have HG := Lib.hid (show Blk W1 w1.heap.size 48 #[.int .i64 32, .int .i64 24, .int .i64 127] by rw [hW1]; exact Blk.new _ _ _)
  have HW3 := Lib.hid (show Below w.heap.size w W1 by rw [hW1]; exact HW2.out.alloc HW2.out.size _)
  have c0 := HG.out.cell 0
  have c1 := HG.out.cell 1
  have c2 := HG.out.cell 2
  rw [← hW1]
  clear hW1 HW1 HW2 HL1 HR HOF
  generalize w1.heap.size = g0 at *
  cases na
  · cases nb
    · cases za
      · go_wp2_with (first
          | (go_at_call 43; (first | (with_reducible refine (HNA.out _).mono ?_) | (with_reducible refine (HNB.out _).mono ?_)); rintro e w2 ⟨rfl, hbn⟩; (replace HG := Lib.hid (HG.out.below hbn HG.out.lt)); (have c0 := HG.out.cell 0); (have c1 := HG.out.cell 1); (have c2 := HG.out.cell 2); (replace HW3 := Lib.hid (Fl.chain HW3.out hbn)); clear hbn)
          | (go_at_call 46; (with_reducible refine (HSG.out _).mono ?_); rintro e w2 ⟨rfl, hbn⟩; (replace HG := Lib.hid (HG.out.below hbn HG.out.lt)); (have c0 := HG.out.cell 0); (have c1 := HG.out.cell 1); (have c2 := HG.out.cell 2); (replace HW3 := Lib.hid (Fl.chain HW3.out hbn)); clear hbn)
          | (go_at_call 40; (with_reducible refine (HO.out _).mono ?_); rintro e w2 ⟨rfl, hbn⟩; (replace HG := Lib.hid (HG.out.below hbn HG.out.lt)); (have c0 := HG.out.cell 0); (have c1 := HG.out.cell 1); (have c2 := HG.out.cell 2); (replace HW3 := Lib.hid (Fl.chain HW3.out hbn)); clear hbn))
        go_ret
        exact ⟨rfl, HW3.out⟩
      · cases zb
        · go_wp2_with (first
            | (go_at_call 43; (first | (with_reducible refine (HNA.out _).mono ?_) | (with_reducible refine (HNB.out _).mono ?_)); rintro e w2 ⟨rfl, hbn⟩; (replace HG := Lib.hid (HG.out.below hbn HG.out.lt)); (have c0 := HG.out.cell 0); (have c1 := HG.out.cell 1); (have c2 := HG.out.cell 2); (replace HW3 := Lib.hid (Fl.chain HW3.out hbn)); clear hbn)
            | (go_at_call 46; (with_reducible refine (HSG.out _).mono ?_); rintro e w2 ⟨rfl, hbn⟩; (replace HG := Lib.hid (HG.out.below hbn HG.out.lt)); (have c0 := HG.out.cell 0); (have c1 := HG.out.cell 1); (have c2 := HG.out.cell 2); (replace HW3 := Lib.hid (Fl.chain HW3.out hbn)); clear hbn)
            | (go_at_call 40; (with_reducible refine (HO.out _).mono ?_); rintro e w2 ⟨rfl, hbn⟩; (replace HG := Lib.hid (HG.out.below hbn HG.out.lt)); (have c0 := HG.out.cell 0); (have c1 := HG.out.cell 1); (have c2 := HG.out.cell 2); (replace HW3 := Lib.hid (Fl.chain HW3.out hbn)); clear hbn))
          go_ret
          exact ⟨rfl, HW3.out⟩
        · go_wp2_with (first
            | (go_at_call 43; (first | (with_reducible refine (HNA.out _).mono ?_) | (with_reducible refine (HNB.out _).mono ?_)); rintro e w2 ⟨rfl, hbn⟩; (replace HG := Lib.hid (HG.out.below hbn HG.out.lt)); (have c0 := HG.out.cell 0); (have c1 := HG.out.cell 1); (have c2 := HG.out.cell 2); (replace HW3 := Lib.hid (Fl.chain HW3.out hbn)); clear hbn)
            | (go_at_call 46; (with_reducible refine (HSG.out _).mono ?_); rintro e w2 ⟨rfl, hbn⟩; (replace HG := Lib.hid (HG.out.below hbn HG.out.lt)); (have c0 := HG.out.cell 0); (have c1 := HG.out.cell 1); (have c2 := HG.out.cell 2); (replace HW3 := Lib.hid (Fl.chain HW3.out hbn)); clear hbn)
            | (go_at_call 40; (with_reducible refine (HO.out _).mono ?_); rintro e w2 ⟨rfl, hbn⟩; (replace HG := Lib.hid (HG.out.below hbn HG.out.lt)); (have c0 := HG.out.cell 0); (have c1 := HG.out.cell 1); (have c2 := HG.out.cell 2); (replace HW3 := Lib.hid (Fl.chain HW3.out hbn)); clear hbn))
          go_ret
          exact ⟨rfl, HW3.out⟩
    · go_wp2_with (first
        | (go_at_call 43; (first | (with_reducible refine (HNA.out _).mono ?_) | (with_reducible refine (HNB.out _).mono ?_)); rintro e w2 ⟨rfl, hbn⟩; (replace HG := Lib.hid (HG.out.below hbn HG.out.lt)); (have c0 := HG.out.cell 0); (have c1 := HG.out.cell 1); (have c2 := HG.out.cell 2); (replace HW3 := Lib.hid (Fl.chain HW3.out hbn)); clear hbn)
        | (go_at_call 46; (with_reducible refine (HSG.out _).mono ?_); rintro e w2 ⟨rfl, hbn⟩; (replace HG := Lib.hid (HG.out.below hbn HG.out.lt)); (have c0 := HG.out.cell 0); (have c1 := HG.out.cell 1); (have c2 := HG.out.cell 2); (replace HW3 := Lib.hid (Fl.chain HW3.out hbn)); clear hbn)
        | (go_at_call 40; (with_reducible refine (HO.out _).mono ?_); rintro e w2 ⟨rfl, hbn⟩; (replace HG := Lib.hid (HG.out.below hbn HG.out.lt)); (have c0 := HG.out.cell 0); (have c1 := HG.out.cell 1); (have c2 := HG.out.cell 2); (replace HW3 := Lib.hid (Fl.chain HW3.out hbn)); clear hbn))
      go_ret
      exact ⟨rfl, HW3.out⟩
  · go_wp2_with (first
      | (go_at_call 43; (first | (with_reducible refine (HNA.out _).mono ?_) | (with_reducible refine (HNB.out _).mono ?_)); rintro e w2 ⟨rfl, hbn⟩; (replace HG := Lib.hid (HG.out.below hbn HG.out.lt)); (have c0 := HG.out.cell 0); (have c1 := HG.out.cell 1); (have c2 := HG.out.cell 2); (replace HW3 := Lib.hid (Fl.chain HW3.out hbn)); clear hbn)
      | (go_at_call 46; (with_reducible refine (HSG.out _).mono ?_); rintro e w2 ⟨rfl, hbn⟩; (replace HG := Lib.hid (HG.out.below hbn HG.out.lt)); (have c0 := HG.out.cell 0); (have c1 := HG.out.cell 1); (have c2 := HG.out.cell 2); (replace HW3 := Lib.hid (Fl.chain HW3.out hbn)); clear hbn)
      | (go_at_call 40; (with_reducible refine (HO.out _).mono ?_); rintro e w2 ⟨rfl, hbn⟩; (replace HG := Lib.hid (HG.out.below hbn HG.out.lt)); (have c0 := HG.out.cell 0); (have c1 := HG.out.cell 1); (have c2 := HG.out.cell 2); (replace HW3 := Lib.hid (Fl.chain HW3.out hbn)); clear hbn))
    go_ret
    exact ⟨rfl, HW3.out⟩

set_option maxRecDepth 8000 in
set_option maxHeartbeats 6400000 in
theorem iCompare_2b {a b : Nat} (h : (okB 2 a && okB 2 b) = false) (ha : a < 18446744073709551616) (hb : b < 18446744073709551616) (w : World) (hl : Lk w) :
    Calls Tryd.prog 20 #[.int .i64 2, .int .u64 (a : Int), .int .u64 (b : Int)] w fun e w' => e = .returned (.int .i64 (2)) ∧ Below w.heap.size w w' := by
  have HOF := Lib.hid (fun (A : Option Addr) (c : Nat) (W : World) (hl : Lk W) (hr : IRow .u64 W A 2 c (nums [a, b])) => iOf_2 A 2 c [a, b] W hl hr (by intro x hx; simp at hx; rcases hx with rfl | rfl <;> assumption))
  rw [okL_2, h] at HOF
  have HR := Lib.hid (row2 a b w)
  have HW1 := Lib.hid ((Below.refl w.heap.size w).alloc (Nat.le_refl _) (.cells #[.int .u64 (a : Int), .int .u64 (b : Int)] 22))
  have HL1 := Lib.hid (hl.new (.cells #[.int .u64 (a : Int), .int .u64 (b : Int)] 22))
  clear ha hb hl h
  simp only [shV] at HOF
  go_enter Tryd.func20, Tryd.ntmps20
  go_upto_region 2 with (first
    | (go_at_call 39; (with_reducible refine (HOF.out _ _ _ HL1.out HR.out).mono ?_); rintro e w1 ⟨rfl, hbn⟩; have HW2 := Lib.hid (Fl.chain HW1.out hbn); clear hbn))
  have HW3 := Lib.hid (HW2.out.alloc HW2.out.size (.cells #[.int .i64 32, .int .i64 24, .int .i64 127] 48))
  go_wp2
  go_ret
  exact ⟨rfl, HW3.out⟩

set_option maxRecDepth 8000 in
set_option maxHeartbeats 6400000 in
theorem iCompare_3 {a b : Nat} (h : (okB 3 a && okB 3 b) = true) (ha : a < 18446744073709551616) (hb : b < 18446744073709551616) (w : World) (hl : Lk w) :
    Calls Tryd.prog 20 #[.int .i64 3, .int .u64 (a : Int), .int .u64 (b : Int)] w fun e w' => e = .returned (.int .i64 (cmpR (nanB 3 a) (nanB 3 b) (zerB 3 a) (zerB 3 b) (cmpS 9223372036854775808 a b))) ∧ Below w.heap.size w w' := by
  have HOF := Lib.hid (fun (A : Option Addr) (c : Nat) (W : World) (hl : Lk W) (hr : IRow .u64 W A 2 c (nums [a, b])) => iOf_3 A 2 c [a, b] W hl hr (by intro x hx; simp at hx; rcases hx with rfl | rfl <;> assumption))
  rw [okL_2, h] at HOF
  have hab : okB 3 a = true ∧ okB 3 b = true := by rwa [Bool.and_eq_true] at h
  have la : a < 18446744073709551616 := by exact ha
  have lb : b < 18446744073709551616 := by exact hb
  have HO := Lib.hid (fun (W : World) => iOrd_3 la lb W)
  have HNA := Lib.hid (fun (W : World) => iIsNan_3 la W)
  have HNB := Lib.hid (fun (W : World) => iIsNan_3 lb W)
  have HSG := Lib.hid (fun (W : World) => iSign_3 W)
  have xa : Go.bits .andNot .u64 (a : Int) 9223372036854775808 = ((a % 9223372036854775808 : Nat) : Int) := andNot_pow (s := 63) (by decide) la
  have xb : Go.bits .andNot .u64 (b : Int) 9223372036854775808 = ((b % 9223372036854775808 : Nat) : Int) := andNot_pow (s := 63) (by decide) lb
  have ta : (((a % 9223372036854775808 : Nat) : Int) == 0) = zerB 3 a := by
    show _ = decide (a % 9223372036854775808 = 0)
    by_cases h : a % 9223372036854775808 = 0
    · rw [decide_eq_true h, beq_iff_eq]; omega
    · rw [decide_eq_false h, beq_eq_false_iff_ne]; omega
  have tb : (((b % 9223372036854775808 : Nat) : Int) == 0) = zerB 3 b := by
    show _ = decide (b % 9223372036854775808 = 0)
    by_cases h : b % 9223372036854775808 = 0
    · rw [decide_eq_true h, beq_iff_eq]; omega
    · rw [decide_eq_false h, beq_eq_false_iff_ne]; omega
  generalize a % 9223372036854775808 = am at xa ta
  generalize b % 9223372036854775808 = bm at xb tb
  generalize nanB 3 a = na at HNA ⊢
  generalize nanB 3 b = nb at HNB ⊢
  generalize zerB 3 a = za at ta ⊢
  generalize zerB 3 b = zb at tb ⊢
  generalize cmpS 9223372036854775808 a b = r at HO ⊢
  clear hab la lb
  have HR := Lib.hid (row2 a b w)
  have HW1 := Lib.hid ((Below.refl w.heap.size w).alloc (Nat.le_refl _) (.cells #[.int .u64 (a : Int), .int .u64 (b : Int)] 22))
  have HL1 := Lib.hid (hl.new (.cells #[.int .u64 (a : Int), .int .u64 (b : Int)] 22))
  clear ha hb hl h
  simp only [shV] at HOF HO HNA HNB HSG
  go_enter Tryd.func20, Tryd.ntmps20
  go_upto_region 2 with (first
    | (go_at_call 39; (with_reducible refine (HOF.out _ _ _ HL1.out HR.out).mono ?_); rintro e w1 ⟨rfl, hbn⟩; have HW2 := Lib.hid (Fl.chain HW1.out hbn); clear hbn))
  obtain ⟨W1, hW1⟩ : ∃ W1, W1 = w1.alloc (.cells #[.int .i64 64, .int .i64 53, .int .i64 1023] 48) := ⟨_, rfl⟩
  have HG := Lib.hid (show Blk W1 w1.heap.size 48 #[.int .i64 64, .int .i64 53, .int .i64 1023] by rw [hW1]; exact Blk.new _ _ _)
  have HW3 := Lib.hid (show Below w.heap.size w W1 by rw [hW1]; exact HW2.out.alloc HW2.out.size _)
  have c0 := HG.out.cell 0
  have c1 := HG.out.cell 1
  have c2 := HG.out.cell 2
  rw [← hW1]
  clear hW1 HW1 HW2 HL1 HR HOF
  generalize w1.heap.size = g0 at *
  cases na
  · cases nb
    · cases za
      · go_wp2_with (first
          | (go_at_call 43; (first | (with_reducible refine (HNA.out _).mono ?_) | (with_reducible refine (HNB.out _).mono ?_)); rintro e w2 ⟨rfl, hbn⟩; (replace HG := Lib.hid (HG.out.below hbn HG.out.lt)); (have c0 := HG.out.cell 0); (have c1 := HG.out.cell 1); (have c2 := HG.out.cell 2); (replace HW3 := Lib.hid (Fl.chain HW3.out hbn)); clear hbn)
          | (go_at_call 46; (with_reducible refine (HSG.out _).mono ?_); rintro e w2 ⟨rfl, hbn⟩; (replace HG := Lib.hid (HG.out.below hbn HG.out.lt)); (have c0 := HG.out.cell 0); (have c1 := HG.out.cell 1); (have c2 := HG.out.cell 2); (replace HW3 := Lib.hid (Fl.chain HW3.out hbn)); clear hbn)
          | (go_at_call 40; (with_reducible refine (HO.out _).mono ?_); rintro e w2 ⟨rfl, hbn⟩; (replace HG := Lib.hid (HG.out.below hbn HG.out.lt)); (have c0 := HG.out.cell 0); (have c1 := HG.out.cell 1); (have c2 := HG.out.cell 2); (replace HW3 := Lib.hid (Fl.chain HW3.out hbn)); clear hbn))
        go_ret
        exact ⟨rfl, HW3.out⟩
      · cases zb
        · go_wp2_with (first
            | (go_at_call 43; (first | (with_reducible refine (HNA.out _).mono ?_) | (with_reducible refine (HNB.out _).mono ?_)); rintro e w2 ⟨rfl, hbn⟩; (replace HG := Lib.hid (HG.out.below hbn HG.out.lt)); (have c0 := HG.out.cell 0); (have c1 := HG.out.cell 1); (have c2 := HG.out.cell 2); (replace HW3 := Lib.hid (Fl.chain HW3.out hbn)); clear hbn)
            | (go_at_call 46; (with_reducible refine (HSG.out _).mono ?_); rintro e w2 ⟨rfl, hbn⟩; (replace HG := Lib.hid (HG.out.below hbn HG.out.lt)); (have c0 := HG.out.cell 0); (have c1 := HG.out.cell 1); (have c2 := HG.out.cell 2); (replace HW3 := Lib.hid (Fl.chain HW3.out hbn)); clear hbn)
            | (go_at_call 40; (with_reducible refine (HO.out _).mono ?_); rintro e w2 ⟨rfl, hbn⟩; (replace HG := Lib.hid (HG.out.below hbn HG.out.lt)); (have c0 := HG.out.cell 0); (have c1 := HG.out.cell 1); (have c2 := HG.out.cell 2); (replace HW3 := Lib.hid (Fl.chain HW3.out hbn)); clear hbn))
          go_ret
          exact ⟨rfl, HW3.out⟩
        · go_wp2_with (first
            | (go_at_call 43; (first | (with_reducible refine (HNA.out _).mono ?_) | (with_reducible refine (HNB.out _).mono ?_)); rintro e w2 ⟨rfl, hbn⟩; (replace HG := Lib.hid (HG.out.below hbn HG.out.lt)); (have c0 := HG.out.cell 0); (have c1 := HG.out.cell 1); (have c2 := HG.out.cell 2); (replace HW3 := Lib.hid (Fl.chain HW3.out hbn)); clear hbn)
            | (go_at_call 46; (with_reducible refine (HSG.out _).mono ?_); rintro e w2 ⟨rfl, hbn⟩; (replace HG := Lib.hid (HG.out.below hbn HG.out.lt)); (have c0 := HG.out.cell 0); (have c1 := HG.out.cell 1); (have c2 := HG.out.cell 2); (replace HW3 := Lib.hid (Fl.chain HW3.out hbn)); clear hbn)
            | (go_at_call 40; (with_reducible refine (HO.out _).mono ?_); rintro e w2 ⟨rfl, hbn⟩; (replace HG := Lib.hid (HG.out.below hbn HG.out.lt)); (have c0 := HG.out.cell 0); (have c1 := HG.out.cell 1); (have c2 := HG.out.cell 2); (replace HW3 := Lib.hid (Fl.chain HW3.out hbn)); clear hbn))
          go_ret
          exact ⟨rfl, HW3.out⟩
    · go_wp2_with (first
        | (go_at_call 43; (first | (with_reducible refine (HNA.out _).mono ?_) | (with_reducible refine (HNB.out _).mono ?_)); rintro e w2 ⟨rfl, hbn⟩; (replace HG := Lib.hid (HG.out.below hbn HG.out.lt)); (have c0 := HG.out.cell 0); (have c1 := HG.out.cell 1); (have c2 := HG.out.cell 2); (replace HW3 := Lib.hid (Fl.chain HW3.out hbn)); clear hbn)
        | (go_at_call 46; (with_reducible refine (HSG.out _).mono ?_); rintro e w2 ⟨rfl, hbn⟩; (replace HG := Lib.hid (HG.out.below hbn HG.out.lt)); (have c0 := HG.out.cell 0); (have c1 := HG.out.cell 1); (have c2 := HG.out.cell 2); (replace HW3 := Lib.hid (Fl.chain HW3.out hbn)); clear hbn)
        | (go_at_call 40; (with_reducible refine (HO.out _).mono ?_); rintro e w2 ⟨rfl, hbn⟩; (replace HG := Lib.hid (HG.out.below hbn HG.out.lt)); (have c0 := HG.out.cell 0); (have c1 := HG.out.cell 1); (have c2 := HG.out.cell 2); (replace HW3 := Lib.hid (Fl.chain HW3.out hbn)); clear hbn))
      go_ret
      exact ⟨rfl, HW3.out⟩
  · go_wp2_with (first
      | (go_at_call 43; (first | (with_reducible refine (HNA.out _).mono ?_) | (with_reducible refine (HNB.out _).mono ?_)); rintro e w2 ⟨rfl, hbn⟩; (replace HG := Lib.hid (HG.out.below hbn HG.out.lt)); (have c0 := HG.out.cell 0); (have c1 := HG.out.cell 1); (have c2 := HG.out.cell 2); (replace HW3 := Lib.hid (Fl.chain HW3.out hbn)); clear hbn)
      | (go_at_call 46; (with_reducible refine (HSG.out _).mono ?_); rintro e w2 ⟨rfl, hbn⟩; (replace HG := Lib.hid (HG.out.below hbn HG.out.lt)); (have c0 := HG.out.cell 0); (have c1 := HG.out.cell 1); (have c2 := HG.out.cell 2); (replace HW3 := Lib.hid (Fl.chain HW3.out hbn)); clear hbn)
      | (go_at_call 40; (with_reducible refine (HO.out _).mono ?_); rintro e w2 ⟨rfl, hbn⟩; (replace HG := Lib.hid (HG.out.below hbn HG.out.lt)); (have c0 := HG.out.cell 0); (have c1 := HG.out.cell 1); (have c2 := HG.out.cell 2); (replace HW3 := Lib.hid (Fl.chain HW3.out hbn)); clear hbn))
    go_ret
    exact ⟨rfl, HW3.out⟩

set_option maxRecDepth 8000 in
set_option maxHeartbeats 6400000 in
theorem iCompare_3b {a b : Nat} (h : (okB 3 a && okB 3 b) = false) (ha : a < 18446744073709551616) (hb : b < 18446744073709551616) (w : World) (hl : Lk w) :
    Calls Tryd.prog 20 #[.int .i64 3, .int .u64 (a : Int), .int .u64 (b : Int)] w fun e w' => e = .returned (.int .i64 (2)) ∧ Below w.heap.size w w' := by
  have HOF := Lib.hid (fun (A : Option Addr) (c : Nat) (W : World) (hl : Lk W) (hr : IRow .u64 W A 2 c (nums [a, b])) => iOf_3 A 2 c [a, b] W hl hr (by intro x hx; simp at hx; rcases hx with rfl | rfl <;> assumption))
  rw [okL_2, h] at HOF
  have HR := Lib.hid (row2 a b w)
  have HW1 := Lib.hid ((Below.refl w.heap.size w).alloc (Nat.le_refl _) (.cells #[.int .u64 (a : Int), .int .u64 (b : Int)] 22))
  have HL1 := Lib.hid (hl.new (.cells #[.int .u64 (a : Int), .int .u64 (b : Int)] 22))
  clear ha hb hl h
  simp only [shV] at HOF
  go_enter Tryd.func20, Tryd.ntmps20
  go_upto_region 2 with (first
    | (go_at_call 39; (with_reducible refine (HOF.out _ _ _ HL1.out HR.out).mono ?_); rintro e w1 ⟨rfl, hbn⟩; have HW2 := Lib.hid (Fl.chain HW1.out hbn); clear hbn))
  have HW3 := Lib.hid (HW2.out.alloc HW2.out.size (.cells #[.int .i64 64, .int .i64 53, .int .i64 1023] 48))
  go_wp2
  go_ret
  exact ⟨rfl, HW3.out⟩

set_option maxRecDepth 8000 in
set_option maxHeartbeats 6400000 in
theorem iCompare_n {a b : Nat} {f : Int} (hf : NoForm f) (hw : (Lit.int .i64 f).wf = true) (ha : a < 18446744073709551616) (hb : b < 18446744073709551616) (w : World) (hl : Lk w) :
    Calls Tryd.prog 20 #[.int .i64 f, .int .u64 (a : Int), .int .u64 (b : Int)] w fun e w' => e = .returned (.int .i64 (2)) ∧ Below w.heap.size w w' := by
  have HOF := Lib.hid (fun (A : Option Addr) (c : Nat) (W : World) (hl : Lk W) (hr : IRow .u64 W A 2 c (nums [a, b])) => iOf_n hf hw A 2 c W hl)
  have HR := Lib.hid (row2 a b w)
  have HW1 := Lib.hid ((Below.refl w.heap.size w).alloc (Nat.le_refl _) (.cells #[.int .u64 (a : Int), .int .u64 (b : Int)] 22))
  have HL1 := Lib.hid (hl.new (.cells #[.int .u64 (a : Int), .int .u64 (b : Int)] 22))
  clear ha hb hl hf hw
  simp only [shV] at HOF
  go_enter Tryd.func20, Tryd.ntmps20
  go_upto_region 2 with (first
    | (go_at_call 39; (with_reducible refine (HOF.out _ _ _ HL1.out HR.out).mono ?_); rintro e w1 ⟨rfl, hbn⟩; have HW2 := Lib.hid (Fl.chain HW1.out hbn); clear hbn))
  have HW3 := Lib.hid (HW2.out.alloc HW2.out.size (.cells #[.int .i64 0, .int .i64 0, .int .i64 0] 48))
  go_wp2
  go_ret
  exact ⟨rfl, HW3.out⟩

theorem iCompare {f : Int} (hw : (Lit.int .i64 f).wf = true) {a b : Nat} (ha : a < 18446744073709551616) (hb : b < 18446744073709551616) (w : World) (hl : Lk w) :
    Calls Tryd.prog 20 #[.int .i64 f, .int .u64 (a : Int), .int .u64 (b : Int)] w fun e w' => e = .returned (.int .i64 (cmpV f a b)) ∧ Below w.heap.size w w' := by
  cases h : (okB f a && okB f b)
  · rw [show cmpV f a b = 2 by unfold cmpV; rw [h]; rfl]
    rcases form_cases f with rfl | rfl | rfl | hf
    · exact iCompare_1b h ha hb w hl
    · exact iCompare_2b h ha hb w hl
    · exact iCompare_3b h ha hb w hl
    · exact iCompare_n hf hw ha hb w hl
  · rw [show cmpV f a b = cmpR (nanB f a) (nanB f b) (zerB f a) (zerB f b) (cmpS (sgP f) a b) by unfold cmpV; rw [h]; rfl]
    rcases form_cases f with rfl | rfl | rfl | hf
    · exact iCompare_1 h ha hb w hl
    · exact iCompare_2 h ha hb w hl
    · exact iCompare_3 h ha hb w hl
    · rw [okB_none hf] at h; cases h
end Go.Proofs.YtmjnnjjmfedlbaaDoor
