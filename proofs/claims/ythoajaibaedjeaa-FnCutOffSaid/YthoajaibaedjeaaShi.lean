/-
  The contract of Shift, of the program.
-/
import Derived.Test.YthoajaibaedjeaaSh
namespace Go.Proofs.Ythoajaibaedjeaa
set_option linter.unusedSimpArgs false
set_option linter.unusedVariables false
open Go.RowKit Go.Dr

set_option maxHeartbeats 1600000 in
theorem iShift_any (x b c : Int) (w : World) : Calls Try.prog 25 #[.int .i64 x, .int .i64 b, .int .i64 c] w fun e w' => e = .returned (.int .i64 (shf x b c)) ∧ Below w.heap.size w w' := by
  by_cases c0 : ¬ (-4000000000000000000 ≤ x)
  · have HZ := Lib.hid (shf_no (fun h : okS x b c => c0 h.1.1))
    have t0 : decide (-4000000000000000000 ≤ x) = false := decide_eq_false c0
    clear c0
    go_enter Try.func25, Try.ntmps25
    go_wp2_with go_in
    go_ret
    exact ⟨ret_i64 HZ.out.symm, Below.refl _ _⟩
  replace c0 := Classical.not_not.1 c0
  by_cases c1 : ¬ (x ≤ 4000000000000000000)
  · have HZ := Lib.hid (shf_no (fun h : okS x b c => c1 h.1.2))
    have t0 : decide (-4000000000000000000 ≤ x) = true := decide_eq_true c0
    have t1 : decide (x ≤ 4000000000000000000) = false := decide_eq_false c1
    clear c0 c1
    go_enter Try.func25, Try.ntmps25
    go_wp2_with go_in
    go_ret
    exact ⟨ret_i64 HZ.out.symm, Below.refl _ _⟩
  replace c1 := Classical.not_not.1 c1
  by_cases c2 : ¬ (0 ≤ b)
  · have HZ := Lib.hid (shf_no (fun h : okS x b c => c2 h.2.1.1))
    have t0 : decide (-4000000000000000000 ≤ x) = true := decide_eq_true c0
    have t1 : decide (x ≤ 4000000000000000000) = true := decide_eq_true c1
    have t2 : decide (0 ≤ b) = false := decide_eq_false c2
    have u2 : decide (b < 0) = true := decide_eq_true (by omega)
    clear c0 c1 c2
    go_enter Try.func25, Try.ntmps25
    go_wp2_with go_in
    go_ret
    exact ⟨ret_i64 HZ.out.symm, Below.refl _ _⟩
  replace c2 := Classical.not_not.1 c2
  by_cases c3 : ¬ (b ≤ 60)
  · have HZ := Lib.hid (shf_no (fun h : okS x b c => c3 h.2.1.2))
    have t0 : decide (-4000000000000000000 ≤ x) = true := decide_eq_true c0
    have t1 : decide (x ≤ 4000000000000000000) = true := decide_eq_true c1
    have t2 : decide (0 ≤ b) = true := decide_eq_true c2
    have u2 : decide (b < 0) = false := decide_eq_false (by omega)
    have t3 : decide (b ≤ 60) = false := decide_eq_false c3
    have u3 : decide (60 < b) = true := decide_eq_true (by omega)
    clear c0 c1 c2 c3
    go_enter Try.func25, Try.ntmps25
    go_wp2_with go_in
    go_ret
    exact ⟨ret_i64 HZ.out.symm, Below.refl _ _⟩
  replace c3 := Classical.not_not.1 c3
  by_cases c4 : ¬ (1 ≤ c)
  · have HZ := Lib.hid (shf_no (fun h : okS x b c => c4 h.2.2.1))
    have t0 : decide (-4000000000000000000 ≤ x) = true := decide_eq_true c0
    have t1 : decide (x ≤ 4000000000000000000) = true := decide_eq_true c1
    have t2 : decide (0 ≤ b) = true := decide_eq_true c2
    have u2 : decide (b < 0) = false := decide_eq_false (by omega)
    have t3 : decide (b ≤ 60) = true := decide_eq_true c3
    have u3 : decide (60 < b) = false := decide_eq_false (by omega)
    have t4 : decide (1 ≤ c) = false := decide_eq_false c4
    clear c0 c1 c2 c3 c4
    go_enter Try.func25, Try.ntmps25
    go_wp2_with go_in
    go_ret
    exact ⟨ret_i64 HZ.out.symm, Below.refl _ _⟩
  replace c4 := Classical.not_not.1 c4
  by_cases c5 : ¬ (c ≤ 4)
  · have HZ := Lib.hid (shf_no (fun h : okS x b c => c5 h.2.2.2))
    have t0 : decide (-4000000000000000000 ≤ x) = true := decide_eq_true c0
    have t1 : decide (x ≤ 4000000000000000000) = true := decide_eq_true c1
    have t2 : decide (0 ≤ b) = true := decide_eq_true c2
    have u2 : decide (b < 0) = false := decide_eq_false (by omega)
    have t3 : decide (b ≤ 60) = true := decide_eq_true c3
    have u3 : decide (60 < b) = false := decide_eq_false (by omega)
    have t4 : decide (1 ≤ c) = true := decide_eq_true c4
    have t5 : decide (c ≤ 4) = false := decide_eq_false c5
    clear c0 c1 c2 c3 c4 c5
    go_enter Try.func25, Try.ntmps25
    go_wp2_with go_in
    go_ret
    exact ⟨ret_i64 HZ.out.symm, Below.refl _ _⟩
  replace c5 := Classical.not_not.1 c5
  obtain ⟨n, rfl⟩ := Int.eq_ofNat_of_zero_le c2
  obtain ⟨D, Q, E, f1, f2, f3, f4, f5, f6, f7, f8, f9, f10, f11, f12, f13, f14, f15, f16, f17⟩ := shf_parts (x := x) (n := n) (c := c) ⟨⟨c0, c1⟩, ⟨c2, c3⟩, c4, c5⟩
  have HF := Lib.hid (And.intro f3 (And.intro f4 (And.intro f5 (And.intro f6 (And.intro f7 (And.intro f11 f12))))))
  have HG := Lib.hid f11
  clear f3 f4 f5 f6 f7 f11 f12
  have t0 : decide (-4000000000000000000 ≤ x) = true := decide_eq_true c0
  have t1 : decide (x ≤ 4000000000000000000) = true := decide_eq_true c1
  have t2 : decide (0 ≤ (n : Int)) = true := decide_eq_true c2
  have u2 : decide ((n : Int) < 0) = false := decide_eq_false (by omega)
  have t3 : decide ((n : Int) ≤ 60) = true := decide_eq_true c3
  have u3 : decide (60 < (n : Int)) = false := decide_eq_false (by omega)
  have hn60 : n ≤ 60 := by omega
  have hp0 : 0 ≤ (n : Int) := by omega
  by_cases b0 : n = 0
  · obtain ⟨g1, g2, g3⟩ := f16 b0
    have hu : ¬ upC x n c D Q E := by unfold upC; omega
    have HZ := Lib.hid ((f15 hu).trans g2)
    have b1 : ((0 : Int) == 0) = true := rfl
    have t4 : decide (1 ≤ c) = true := decide_eq_true c4
    have t5 : decide (c ≤ 4) = true := decide_eq_true c5
    clear c0 c1 c3 c4 c5 f1 f2 f8 f9 f10 f13 f14 f15 f16 f17 hu
    obtain ⟨f3, f4, f5, f6, f7, f11, f12⟩ := HF.out
    clear HF
    subst b0
    go_enter Try.func25, Try.ntmps25
    go_wp2_with go_in
    go_ret
    exact ⟨ret_i64 HZ.out.symm, Below.refl _ _⟩
  have b1 : ((n : Int) == 0) = false := by simp; omega
  have hb0 : 0 < n := by omega
  obtain ⟨H, k1, k3⟩ := f17 hb0
  have HK := Lib.hid k3
  clear k3
  obtain rfl | rfl | rfl | rfl : c = 1 ∨ c = 2 ∨ c = 3 ∨ c = 4 := by omega
  · have HZ := Lib.hid (f15 (by unfold upC; omega))
    clear c0 c1 c2 c3 c4 c5 f1 f2 f8 f9 f10 f13 f14 f15 f16 f17
    obtain ⟨f3, f4, f5, f6, f7, f11, f12⟩ := HF.out
    clear HF
    have k3 := HK.out
    clear HK k1
    go_enter Try.func25, Try.ntmps25
    go_wp2_with go_in
    go_ret
    exact ⟨by first | exact ret_i64 HZ.out.symm | exact ret_i64 (HG.out.trans HZ.out.symm), Below.refl _ _⟩
  · by_cases y1 : x < 0
    · by_cases y2 : 0 < E
      · have HZ := Lib.hid (f14 (by unfold upC; omega))
        have z1 : decide (x < 0) = true := decide_eq_true (by omega)
        have z2 : decide (0 < E) = true := decide_eq_true (by omega)
        clear y1 y2
        clear c0 c1 c2 c3 c4 c5 f1 f2 f8 f9 f10 f13 f14 f15 f16 f17
        obtain ⟨f3, f4, f5, f6, f7, f11, f12⟩ := HF.out
        clear HF
        have k3 := HK.out
        clear HK k1
        go_enter Try.func25, Try.ntmps25
        go_wp2_with go_in
        go_ret
        exact ⟨by first | exact ret_i64 HZ.out.symm | exact ret_i64 (HG.out.trans HZ.out.symm), Below.refl _ _⟩
      · have HZ := Lib.hid (f15 (by unfold upC; omega))
        have z1 : decide (x < 0) = true := decide_eq_true (by omega)
        have z2 : decide (0 < E) = false := decide_eq_false (by omega)
        clear y1 y2
        clear c0 c1 c2 c3 c4 c5 f1 f2 f8 f9 f10 f13 f14 f15 f16 f17
        obtain ⟨f3, f4, f5, f6, f7, f11, f12⟩ := HF.out
        clear HF
        have k3 := HK.out
        clear HK k1
        go_enter Try.func25, Try.ntmps25
        go_wp2_with go_in
        go_ret
        exact ⟨by first | exact ret_i64 HZ.out.symm | exact ret_i64 (HG.out.trans HZ.out.symm), Below.refl _ _⟩
    · have HZ := Lib.hid (f15 (by unfold upC; omega))
      have z1 : decide (x < 0) = false := decide_eq_false (by omega)
      clear y1
      clear c0 c1 c2 c3 c4 c5 f1 f2 f8 f9 f10 f13 f14 f15 f16 f17
      obtain ⟨f3, f4, f5, f6, f7, f11, f12⟩ := HF.out
      clear HF
      have k3 := HK.out
      clear HK k1
      go_enter Try.func25, Try.ntmps25
      go_wp2_with go_in
      go_ret
      exact ⟨by first | exact ret_i64 HZ.out.symm | exact ret_i64 (HG.out.trans HZ.out.symm), Below.refl _ _⟩
  · by_cases y1 : H ≤ E
    · have HZ := Lib.hid (f14 (by unfold upC; omega))
      have z1 : decide (H ≤ E) = true := decide_eq_true (by omega)
      clear y1
      clear c0 c1 c2 c3 c4 c5 f1 f2 f8 f9 f10 f13 f14 f15 f16 f17
      obtain ⟨f3, f4, f5, f6, f7, f11, f12⟩ := HF.out
      clear HF
      have k3 := HK.out
      clear HK k1
      go_enter Try.func25, Try.ntmps25
      go_wp2_with go_in
      go_ret
      exact ⟨by first | exact ret_i64 HZ.out.symm | exact ret_i64 (HG.out.trans HZ.out.symm), Below.refl _ _⟩
    · have HZ := Lib.hid (f15 (by unfold upC; omega))
      have z1 : decide (H ≤ E) = false := decide_eq_false (by omega)
      clear y1
      clear c0 c1 c2 c3 c4 c5 f1 f2 f8 f9 f10 f13 f14 f15 f16 f17
      obtain ⟨f3, f4, f5, f6, f7, f11, f12⟩ := HF.out
      clear HF
      have k3 := HK.out
      clear HK k1
      go_enter Try.func25, Try.ntmps25
      go_wp2_with go_in
      go_ret
      exact ⟨by first | exact ret_i64 HZ.out.symm | exact ret_i64 (HG.out.trans HZ.out.symm), Below.refl _ _⟩
  · have hq := i64_and1 Q
    by_cases y1 : H < E
    · have HZ := Lib.hid (f14 (by unfold upC; omega))
      have z1 : decide (H < E) = true := decide_eq_true (by omega)
      clear y1
      clear c0 c1 c2 c3 c4 c5 f1 f2 f8 f9 f10 f13 f14 f15 f16 f17
      obtain ⟨f3, f4, f5, f6, f7, f11, f12⟩ := HF.out
      clear HF
      have k3 := HK.out
      clear HK k1
      go_enter Try.func25, Try.ntmps25
      go_wp2_with go_in
      go_ret
      exact ⟨by first | exact ret_i64 HZ.out.symm | exact ret_i64 (HG.out.trans HZ.out.symm), Below.refl _ _⟩
    · by_cases y2 : E = H
      · by_cases y3 : Q % 2 = 1
        · have HZ := Lib.hid (f14 (by unfold upC; omega))
          have z1 : decide (H < E) = false := decide_eq_false (by omega)
          have z2 : (E == H) = true := by simp; omega
          have z3 : (Q % 2 == 1) = true := by simp; omega
          clear y1 y2 y3
          clear c0 c1 c2 c3 c4 c5 f1 f2 f8 f9 f10 f13 f14 f15 f16 f17
          obtain ⟨f3, f4, f5, f6, f7, f11, f12⟩ := HF.out
          clear HF
          have k3 := HK.out
          clear HK k1
          go_enter Try.func25, Try.ntmps25
          go_wp2_with go_in
          go_ret
          exact ⟨by first | exact ret_i64 HZ.out.symm | exact ret_i64 (HG.out.trans HZ.out.symm), Below.refl _ _⟩
        · have HZ := Lib.hid (f15 (by unfold upC; omega))
          have z1 : decide (H < E) = false := decide_eq_false (by omega)
          have z2 : (E == H) = true := by simp; omega
          have z3 : (Q % 2 == 1) = false := by simp; omega
          clear y1 y2 y3
          clear c0 c1 c2 c3 c4 c5 f1 f2 f8 f9 f10 f13 f14 f15 f16 f17
          obtain ⟨f3, f4, f5, f6, f7, f11, f12⟩ := HF.out
          clear HF
          have k3 := HK.out
          clear HK k1
          go_enter Try.func25, Try.ntmps25
          go_wp2_with go_in
          go_ret
          exact ⟨by first | exact ret_i64 HZ.out.symm | exact ret_i64 (HG.out.trans HZ.out.symm), Below.refl _ _⟩
      · have HZ := Lib.hid (f15 (by unfold upC; omega))
        have z1 : decide (H < E) = false := decide_eq_false (by omega)
        have z2 : (E == H) = false := by simp; omega
        clear y1 y2
        clear c0 c1 c2 c3 c4 c5 f1 f2 f8 f9 f10 f13 f14 f15 f16 f17
        obtain ⟨f3, f4, f5, f6, f7, f11, f12⟩ := HF.out
        clear HF
        have k3 := HK.out
        clear HK k1
        go_enter Try.func25, Try.ntmps25
        go_wp2_with go_in
        go_ret
        exact ⟨by first | exact ret_i64 HZ.out.symm | exact ret_i64 (HG.out.trans HZ.out.symm), Below.refl _ _⟩
end Go.Proofs.Ythoajaibaedjeaa
