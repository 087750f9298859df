/-
  The walk of the law Horner: for every list of floats and every float it returns true.
-/
import Derived.Test.YtdpiaehobfmjgaaFt
import Derived.Test.YtdpiaehobfmjgaaFhorn
namespace Go.Proofs.Ytdpiaehobfmjgaa
set_option linter.unusedSimpArgs false
set_option linter.unusedVariables false
open Go.RowKit Go.Fl

theorem frow_of {w : World} {g n : Nat} {xs : List Nat} (h : xs.length = n) (hn : n ≤ 1048576) (hf : FBlk w g xs) : FRow w (some ⟨g, 0, none⟩) n n xs := by
  subst h; exact hf.row hn

set_option maxHeartbeats 400000 in
theorem walk_FnExactHorner (A : Option Addr) (n c : Nat) (xs : List Nat) (v : Nat) (w : World) (h : FRow w A n c xs ∧ ∀ x ∈ xs, x < 2 ^ 64) (hv : v < 2 ^ 64) :
    Calls Try.prog 5 #[.slice A n c, fl v] w fun e w' => e = .returned (.bool true) ∧ Below w.heap.size w w' := by
  by_cases hn : n ≤ 1048576
  · have HN := Lib.hid hn
    have HBD := Lib.hid h.2
    have HR := Lib.hid h.1
    have HV := Lib.hid hv
    have hd : decide ((1048576 : Int) < (n : Int)) = false := decide_eq_false (by omega)
    clear h hn hv
    go_enter Try.func5, Try.ntmps5
    go_wp2_with fail
    refine (toFloat64S_any A n c xs _ (HR.out) HN.out).mono ?_
    rintro e w1 ⟨g1, rfl, hg1, hf1, hb1⟩
    have R1 := Lib.hid (frow_of HR.out.1 HN.out hf1)
    have Y1 := Lib.hid (hb1)
    clear hf1 hb1
    rw [HR.out.1]
    go_wp2_with fail
    refine (sHorner_any _ _ _ xs v _ R1.out HN.out HV.out HBD.out).mono ?_
    rintro e w2 ⟨r, rfl, hr, -, hb2⟩
    have HRr := Lib.hid hr
    have Y2 := Lib.hid (Y1.out.trans (hb2.mono Y1.out.size))
    clear hr hb2
    go_wp2_with fail
    refine (toFloat64S_any A n c xs _ (HR.out.below Y2.out) HN.out).mono ?_
    rintro e w3 ⟨g3, rfl, hg3, hf3, hb3⟩
    have R3 := Lib.hid (frow_of HR.out.1 HN.out hf3)
    have Y3 := Lib.hid (Y2.out.trans (hb3.mono Y2.out.size))
    clear hf3 hb3
    rw [HR.out.1]
    go_wp2_with fail
    refine (iHorner_any _ _ _ xs v _ R3.out HN.out HV.out HBD.out).mono ?_
    rintro e w4 ⟨r', rfl, hr', -, hb4⟩
    have HRr' := Lib.hid hr'
    have R4 := Lib.hid (R3.out.below hb4)
    have Y4 := Lib.hid (Y3.out.trans (hb4.mono Y3.out.size))
    clear hr' hb4
    go_wp2_with fail
    refine (sameFloat_any _ _ (HRr'.out.trans HRr.out.symm) _).mono ?_
    rintro e w5 ⟨rfl, hb5⟩
    have R5 := Lib.hid (R4.out.below hb5)
    have Y5 := Lib.hid (Y4.out.trans (hb5.mono Y4.out.size))
    clear hb5
    go_wp2_with fail
    refine (toFloat64S_any A n c xs _ (HR.out.below Y5.out) HN.out).mono ?_
    rintro e w6 ⟨g6, rfl, hg6, hf6, hb6⟩
    have R6 := Lib.hid (frow_of HR.out.1 HN.out hf6)
    have R7 := Lib.hid (R5.out.below hb6)
    have Y6 := Lib.hid (Y5.out.trans (hb6.mono Y5.out.size))
    clear hf6 hb6
    rw [HR.out.1]
    go_wp2_with fail
    refine (eqFloat64S_any _ _ _ _ _ _ xs xs _ R7.out R6.out (leq.refl _) HN.out).mono ?_
    rintro e w7 ⟨rfl, hb7⟩
    have Y7 := Lib.hid (Y6.out.trans (hb7.mono Y6.out.size))
    clear hb7
    go_wp2_with fail
    go_ret
    exact ⟨rfl, Y7.out⟩
  · have hd : decide ((1048576 : Int) < (n : Int)) = true := decide_eq_true (by omega)
    clear h hv
    go_enter Try.func5, Try.ntmps5
    go_wp2
    go_ret
    exact ⟨rfl, Below.refl _ _⟩
end Go.Proofs.Ytdpiaehobfmjgaa
