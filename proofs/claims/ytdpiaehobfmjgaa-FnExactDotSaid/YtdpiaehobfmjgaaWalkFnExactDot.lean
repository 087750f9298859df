/-
  The walk of the law Dot: for every two lists of floats it returns true.
-/
import Derived.Test.YtdpiaehobfmjgaaFt
import Derived.Test.YtdpiaehobfmjgaaFdot
namespace Go.Proofs.Ytdpiaehobfmjgaa
set_option linter.unusedSimpArgs false
set_option linter.unusedVariables false
open Go.RowKit Go.Fl

theorem frow_of {w : World} {g n : Nat} {xs : List Nat} (h : xs.length = n) (hn : n ≤ 1048576) (hf : FBlk w g xs) : FRow w (some ⟨g, 0, none⟩) n n xs := by
  subst h; exact hf.row hn

set_option maxHeartbeats 800000 in
theorem walk_FnExactDot (A : Option Addr) (n c : Nat) (xs : List Nat) (A' : Option Addr) (n' c' : Nat) (ys : List Nat) (w : World) (h : FRow w A n c xs ∧ ∀ x ∈ xs, x < 2 ^ 64) (h' : FRow w A' n' c' ys ∧ ∀ x ∈ ys, x < 2 ^ 64) :
    Calls Try.prog 4 #[.slice A n c, .slice A' n' c'] w fun e w' => e = .returned (.bool true) ∧ Below w.heap.size w w' := by
  by_cases hn : n ≤ 1048576
  · have hd : decide ((1048576 : Int) < (n : Int)) = false := decide_eq_false (by omega)
    by_cases hn' : n' ≤ 1048576
    · have HN := Lib.hid hn
      have HN' := Lib.hid hn'
      have HR := Lib.hid h.1
      have HR' := Lib.hid h'.1
      have hd' : decide ((1048576 : Int) < (n' : Int)) = false := decide_eq_false (by omega)
      clear h hn h' hn'
      go_enter Try.func4, Try.ntmps4
      go_wp2_with fail
      refine (toFloat64S_any A n c xs _ (HR.out) HN.out).mono ?_
      rintro e w1 ⟨g1, rfl, hg1, hf1, hb1⟩
      have R1 := Lib.hid (frow_of HR.out.1 HN.out hf1)
      have Y1 := Lib.hid (hb1)
      clear hf1 hb1
      rw [HR.out.1]
      go_wp2_with fail
      refine (toFloat64S_any A' n' c' ys _ (HR'.out.below Y1.out) HN'.out).mono ?_
      rintro e w2 ⟨g2, rfl, hg2, hf2, hb2⟩
      have R2 := Lib.hid (frow_of HR'.out.1 HN'.out hf2)
      have R1b := Lib.hid (R1.out.below hb2)
      have Y2 := Lib.hid (Y1.out.trans (hb2.mono Y1.out.size))
      clear hf2 hb2
      rw [HR'.out.1]
      go_wp2_with fail
      refine (sDot_any _ _ _ _ _ _ xs ys _ R1b.out R2.out HN.out HN'.out).mono ?_
      rintro e w3 ⟨r, rfl, hr, -, hb3⟩
      have HRr := Lib.hid hr
      have Y3 := Lib.hid (Y2.out.trans (hb3.mono Y2.out.size))
      clear hr hb3
      go_wp2_with fail
      refine (toFloat64S_any A n c xs _ (HR.out.below Y3.out) HN.out).mono ?_
      rintro e w4 ⟨g4, rfl, hg4, hf4, hb4⟩
      have R4 := Lib.hid (frow_of HR.out.1 HN.out hf4)
      have Y4 := Lib.hid (Y3.out.trans (hb4.mono Y3.out.size))
      clear hf4 hb4
      rw [HR.out.1]
      go_wp2_with fail
      refine (toFloat64S_any A' n' c' ys _ (HR'.out.below Y4.out) HN'.out).mono ?_
      rintro e w5 ⟨g5, rfl, hg5, hf5, hb5⟩
      have R5 := Lib.hid (frow_of HR'.out.1 HN'.out hf5)
      have R4b := Lib.hid (R4.out.below hb5)
      have Y5 := Lib.hid (Y4.out.trans (hb5.mono Y4.out.size))
      clear hf5 hb5
      rw [HR'.out.1]
      go_wp2_with fail
      refine (iDot_any _ _ _ _ _ _ xs ys _ R4b.out R5.out HN.out HN'.out).mono ?_
      rintro e w6 ⟨r', rfl, hr', -, hb6⟩
      have HRr' := Lib.hid hr'
      have R4c := Lib.hid (R4b.out.below hb6)
      have R5c := Lib.hid (R5.out.below hb6)
      have Y6 := Lib.hid (Y5.out.trans (hb6.mono Y5.out.size))
      clear hr' hb6
      go_wp2_with fail
      refine (sameFloat_any _ _ (HRr'.out.trans HRr.out.symm) _).mono ?_
      rintro e w7 ⟨rfl, hb7⟩
      have R4d := Lib.hid (R4c.out.below hb7)
      have R5d := Lib.hid (R5c.out.below hb7)
      have Y7 := Lib.hid (Y6.out.trans (hb7.mono Y6.out.size))
      clear hb7
      go_wp2_with fail
      refine (toFloat64S_any A n c xs _ (HR.out.below Y7.out) HN.out).mono ?_
      rintro e w8 ⟨g8, rfl, hg8, hf8, hb8⟩
      have R8 := Lib.hid (frow_of HR.out.1 HN.out hf8)
      have R4e := Lib.hid (R4d.out.below hb8)
      have R5e := Lib.hid (R5d.out.below hb8)
      have Y8 := Lib.hid (Y7.out.trans (hb8.mono Y7.out.size))
      clear hf8 hb8
      rw [HR.out.1]
      go_wp2_with fail
      refine (eqFloat64S_any _ _ _ _ _ _ xs xs _ R4e.out R8.out (leq.refl _) HN.out).mono ?_
      rintro e w9 ⟨rfl, hb9⟩
      have R5f := Lib.hid (R5e.out.below hb9)
      have Y9 := Lib.hid (Y8.out.trans (hb9.mono Y8.out.size))
      clear hb9
      go_wp2_with fail
      refine (toFloat64S_any A' n' c' ys _ (HR'.out.below Y9.out) HN'.out).mono ?_
      rintro e w10 ⟨g10, rfl, hg10, hf10, hb10⟩
      have R10 := Lib.hid (frow_of HR'.out.1 HN'.out hf10)
      have R5g := Lib.hid (R5f.out.below hb10)
      have Y10 := Lib.hid (Y9.out.trans (hb10.mono Y9.out.size))
      clear hf10 hb10
      rw [HR'.out.1]
      go_wp2_with fail
      refine (eqFloat64S_any _ _ _ _ _ _ ys ys _ R5g.out R10.out (leq.refl _) HN'.out).mono ?_
      rintro e w11 ⟨rfl, hb11⟩
      have Y11 := Lib.hid (Y10.out.trans (hb11.mono Y10.out.size))
      clear hb11
      go_wp2_with fail
      go_ret
      exact ⟨rfl, Y11.out⟩
    · have hd' : decide ((1048576 : Int) < (n' : Int)) = true := decide_eq_true (by omega)
      clear h h'
      go_enter Try.func4, Try.ntmps4
      go_wp2
      go_ret
      exact ⟨rfl, Below.refl _ _⟩
  · have hd : decide ((1048576 : Int) < (n : Int)) = true := decide_eq_true (by omega)
    clear h h'
    go_enter Try.func4, Try.ntmps4
    go_wp2
    go_ret
    exact ⟨rfl, Below.refl _ _⟩
end Go.Proofs.Ytdpiaehobfmjgaa
