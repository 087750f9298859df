/-
  The walk of the law DotFix: for every two lists and numbers it returns true.
-/
import Derived.Test.YtbjnggnlflofbaaIs
import Derived.Test.YtbjnggnlflofbaaDots
namespace Go.Proofs.Ytbjnggnlflofbaa
set_option linter.unusedSimpArgs false
set_option linter.unusedVariables false
open Go.RowKit Go.Dr

set_option maxHeartbeats 3200000 in
theorem dotfix_e (A B : Option Addr) (n c n' c' : Nat) (a b : List Int) (frac bits cut : Int) (w : World) (ha : IRow .i64 w A n c a) (hb : IRow .i64 w B n' c' b) :
    Calls Try.prog 10 #[.slice A n c, .slice B n' c', .int .i64 frac, .int .i64 bits, .int .i64 cut, .bool true] w fun e w' => e = .returned (.bool true) ∧ Below w.heap.size w w' := by
  have HA := Lib.hid ha
  have HB := Lib.hid hb
  clear ha hb
  by_cases hn : (n : Int) > 1048576
  · have d : decide (1048576 < (n : Int)) = true := decide_eq_true hn
    clear hn
    go_enter Try.func10, Try.ntmps10
    go_wp2
    go_ret
    exact ⟨rfl, Below.refl _ _⟩
  have d : decide (1048576 < (n : Int)) = false := decide_eq_false hn
  have HN := Lib.hid (show n ≤ 1048576 by omega)
  clear hn
  by_cases hm : (n' : Int) > 1048576
  · have d' : decide (1048576 < (n' : Int)) = true := decide_eq_true hm
    clear hm
    go_enter Try.func10, Try.ntmps10
    go_wp2
    go_ret
    exact ⟨rfl, Below.refl _ _⟩
  have d' : decide (1048576 < (n' : Int)) = false := decide_eq_false hm
  have HM := Lib.hid (show n' ≤ 1048576 by omega)
  clear hm
  go_enter Try.func10, Try.ntmps10
  go_wp2_with fail
  refine (toIntS_any A n c a _ HA.out HN.out).mono ?_
  rintro e w1 ⟨g1, rfl, h1, hb⟩
  replace HA := Lib.hid (HA.out.below hb)
  replace HB := Lib.hid (HB.out.below hb)
  have H1 := Lib.hid h1
  have HW := Lib.hid hb
  clear h1 hb
  go_wp2_with fail
  refine (toIntS_any B n' c' b _ HB.out HM.out).mono ?_
  rintro e w1 ⟨g2, rfl, h2, hb⟩
  have H2 := Lib.hid h2
  clear h2
  replace HA := Lib.hid (HA.out.below hb)
  replace HB := Lib.hid (HB.out.below hb)
  replace H1 := Lib.hid (H1.out.below hb)
  replace HW := Lib.hid (HW.out.trans (hb.mono HW.out.size))
  clear hb
  go_wp2_with fail
  refine (sDotFix_e _ _ _ _ _ _ _ _ _ _ _ _ H1.out H2.out HN.out).mono ?_
  rintro e w1 ⟨rfl, hb⟩
  replace HA := Lib.hid (HA.out.below hb)
  replace HB := Lib.hid (HB.out.below hb)
  replace H1 := Lib.hid (H1.out.below hb)
  replace H2 := Lib.hid (H2.out.below hb)
  replace HW := Lib.hid (HW.out.trans (hb.mono HW.out.size))
  clear hb
  clear H1 H2
  go_wp2_with fail
  refine (toIntS_any A n c a _ HA.out HN.out).mono ?_
  rintro e w1 ⟨g3, rfl, h1, hb⟩
  have H1 := Lib.hid h1
  clear h1
  replace HA := Lib.hid (HA.out.below hb)
  replace HB := Lib.hid (HB.out.below hb)
  replace HW := Lib.hid (HW.out.trans (hb.mono HW.out.size))
  clear hb
  go_wp2_with fail
  refine (toIntS_any B n' c' b _ HB.out HM.out).mono ?_
  rintro e w1 ⟨g4, rfl, h2, hb⟩
  have H2 := Lib.hid h2
  clear h2
  replace HA := Lib.hid (HA.out.below hb)
  replace HB := Lib.hid (HB.out.below hb)
  replace H1 := Lib.hid (H1.out.below hb)
  replace HW := Lib.hid (HW.out.trans (hb.mono HW.out.size))
  clear hb
  go_wp2_with fail
  refine (iDotFix_e _ _ _ _ _ _ _ _ _ _ _ _ H1.out H2.out HN.out).mono ?_
  rintro e w1 ⟨rfl, hb⟩
  replace HA := Lib.hid (HA.out.below hb)
  replace HB := Lib.hid (HB.out.below hb)
  replace H1 := Lib.hid (H1.out.below hb)
  replace H2 := Lib.hid (H2.out.below hb)
  replace HW := Lib.hid (HW.out.trans (hb.mono HW.out.size))
  clear hb
  go_wp2_with fail
  refine (toIntS_any A n c a _ HA.out HN.out).mono ?_
  rintro e w1 ⟨g5, rfl, h3, hb⟩
  have H3 := Lib.hid h3
  clear h3
  replace HA := Lib.hid (HA.out.below hb)
  replace HB := Lib.hid (HB.out.below hb)
  replace H1 := Lib.hid (H1.out.below hb)
  replace H2 := Lib.hid (H2.out.below hb)
  replace HW := Lib.hid (HW.out.trans (hb.mono HW.out.size))
  clear hb
  go_wp2_with fail
  refine (eqIntS_any _ _ _ _ _ _ a _ H1.out H3.out HN.out).mono ?_
  rintro e w1 ⟨rfl, hb⟩
  replace HA := Lib.hid (HA.out.below hb)
  replace HB := Lib.hid (HB.out.below hb)
  replace H2 := Lib.hid (H2.out.below hb)
  replace HW := Lib.hid (HW.out.trans (hb.mono HW.out.size))
  clear hb
  clear H1 H3
  go_wp2_with fail
  refine (toIntS_any B n' c' b _ HB.out HM.out).mono ?_
  rintro e w1 ⟨g6, rfl, h4, hb⟩
  have H4 := Lib.hid h4
  clear h4
  replace HB := Lib.hid (HB.out.below hb)
  replace H2 := Lib.hid (H2.out.below hb)
  replace HW := Lib.hid (HW.out.trans (hb.mono HW.out.size))
  clear hb
  go_wp2_with fail
  refine (eqIntS_any _ _ _ _ _ _ b _ H2.out H4.out HM.out).mono ?_
  rintro e w1 ⟨rfl, hb⟩
  replace HW := Lib.hid (HW.out.trans (hb.mono HW.out.size))
  clear hb
  go_wp2
  go_ret
  exact ⟨rfl, HW.out⟩

set_option maxHeartbeats 3200000 in
theorem dotfix_o (A B : Option Addr) (n c n' c' : Nat) (a b : List Int) (frac bits cut : Int) (w : World) (ha : IRow .i64 w A n c a) (hb : IRow .i64 w B n' c' b) :
    Calls Try.prog 10 #[.slice A n c, .slice B n' c', .int .i64 frac, .int .i64 bits, .int .i64 cut, .bool false] w fun e w' => e = .returned (.bool true) ∧ Below w.heap.size w w' := by
  have HA := Lib.hid ha
  have HB := Lib.hid hb
  clear ha hb
  by_cases hn : (n : Int) > 1048576
  · have d : decide (1048576 < (n : Int)) = true := decide_eq_true hn
    clear hn
    go_enter Try.func10, Try.ntmps10
    go_wp2
    go_ret
    exact ⟨rfl, Below.refl _ _⟩
  have d : decide (1048576 < (n : Int)) = false := decide_eq_false hn
  have HN := Lib.hid (show n ≤ 1048576 by omega)
  clear hn
  by_cases hm : (n' : Int) > 1048576
  · have d' : decide (1048576 < (n' : Int)) = true := decide_eq_true hm
    clear hm
    go_enter Try.func10, Try.ntmps10
    go_wp2
    go_ret
    exact ⟨rfl, Below.refl _ _⟩
  have d' : decide (1048576 < (n' : Int)) = false := decide_eq_false hm
  have HM := Lib.hid (show n' ≤ 1048576 by omega)
  clear hm
  go_enter Try.func10, Try.ntmps10
  go_wp2_with fail
  refine (toIntS_any A n c a _ HA.out HN.out).mono ?_
  rintro e w1 ⟨g1, rfl, h1, hb⟩
  replace HA := Lib.hid (HA.out.below hb)
  replace HB := Lib.hid (HB.out.below hb)
  have H1 := Lib.hid h1
  have HW := Lib.hid hb
  clear h1 hb
  go_wp2_with fail
  refine (toIntS_any B n' c' b _ HB.out HM.out).mono ?_
  rintro e w1 ⟨g2, rfl, h2, hb⟩
  have H2 := Lib.hid h2
  clear h2
  replace HA := Lib.hid (HA.out.below hb)
  replace HB := Lib.hid (HB.out.below hb)
  replace H1 := Lib.hid (H1.out.below hb)
  replace HW := Lib.hid (HW.out.trans (hb.mono HW.out.size))
  clear hb
  go_wp2_with fail
  refine (sDotFix_o _ _ _ _ _ _ _ _ _ _ _ _ H1.out H2.out HN.out).mono ?_
  rintro e w1 ⟨rfl, hb⟩
  replace HA := Lib.hid (HA.out.below hb)
  replace HB := Lib.hid (HB.out.below hb)
  replace H1 := Lib.hid (H1.out.below hb)
  replace H2 := Lib.hid (H2.out.below hb)
  replace HW := Lib.hid (HW.out.trans (hb.mono HW.out.size))
  clear hb
  clear H1 H2
  go_wp2_with fail
  refine (toIntS_any A n c a _ HA.out HN.out).mono ?_
  rintro e w1 ⟨g3, rfl, h1, hb⟩
  have H1 := Lib.hid h1
  clear h1
  replace HA := Lib.hid (HA.out.below hb)
  replace HB := Lib.hid (HB.out.below hb)
  replace HW := Lib.hid (HW.out.trans (hb.mono HW.out.size))
  clear hb
  go_wp2_with fail
  refine (toIntS_any B n' c' b _ HB.out HM.out).mono ?_
  rintro e w1 ⟨g4, rfl, h2, hb⟩
  have H2 := Lib.hid h2
  clear h2
  replace HA := Lib.hid (HA.out.below hb)
  replace HB := Lib.hid (HB.out.below hb)
  replace H1 := Lib.hid (H1.out.below hb)
  replace HW := Lib.hid (HW.out.trans (hb.mono HW.out.size))
  clear hb
  go_wp2_with fail
  refine (iDotFix_o _ _ _ _ _ _ _ _ _ _ _ _ H1.out H2.out HN.out).mono ?_
  rintro e w1 ⟨rfl, hb⟩
  replace HA := Lib.hid (HA.out.below hb)
  replace HB := Lib.hid (HB.out.below hb)
  replace H1 := Lib.hid (H1.out.below hb)
  replace H2 := Lib.hid (H2.out.below hb)
  replace HW := Lib.hid (HW.out.trans (hb.mono HW.out.size))
  clear hb
  go_wp2_with fail
  refine (toIntS_any A n c a _ HA.out HN.out).mono ?_
  rintro e w1 ⟨g5, rfl, h3, hb⟩
  have H3 := Lib.hid h3
  clear h3
  replace HA := Lib.hid (HA.out.below hb)
  replace HB := Lib.hid (HB.out.below hb)
  replace H1 := Lib.hid (H1.out.below hb)
  replace H2 := Lib.hid (H2.out.below hb)
  replace HW := Lib.hid (HW.out.trans (hb.mono HW.out.size))
  clear hb
  go_wp2_with fail
  refine (eqIntS_any _ _ _ _ _ _ a _ H1.out H3.out HN.out).mono ?_
  rintro e w1 ⟨rfl, hb⟩
  replace HA := Lib.hid (HA.out.below hb)
  replace HB := Lib.hid (HB.out.below hb)
  replace H2 := Lib.hid (H2.out.below hb)
  replace HW := Lib.hid (HW.out.trans (hb.mono HW.out.size))
  clear hb
  clear H1 H3
  go_wp2_with fail
  refine (toIntS_any B n' c' b _ HB.out HM.out).mono ?_
  rintro e w1 ⟨g6, rfl, h4, hb⟩
  have H4 := Lib.hid h4
  clear h4
  replace HB := Lib.hid (HB.out.below hb)
  replace H2 := Lib.hid (H2.out.below hb)
  replace HW := Lib.hid (HW.out.trans (hb.mono HW.out.size))
  clear hb
  go_wp2_with fail
  refine (eqIntS_any _ _ _ _ _ _ b _ H2.out H4.out HM.out).mono ?_
  rintro e w1 ⟨rfl, hb⟩
  replace HW := Lib.hid (HW.out.trans (hb.mono HW.out.size))
  clear hb
  go_wp2
  go_ret
  exact ⟨rfl, HW.out⟩

theorem walk_FnExactDotFix (A : Option Addr) (n c : Nat) (a : List Int) (B : Option Addr) (n' c' : Nat) (b : List Int) (frac bits cut : Int) (each : Bool) (w : World)
    (ha : IRow .i64 w A n c a ∧ ∀ n ∈ a, (Lit.int .i64 n).wf = true) (hb : IRow .i64 w B n' c' b ∧ ∀ n ∈ b, (Lit.int .i64 n).wf = true) (_ : (Lit.int .i64 frac).wf = true) (_ : (Lit.int .i64 bits).wf = true) (_ : (Lit.int .i64 cut).wf = true) :
    Calls Try.prog 10 #[.slice A n c, .slice B n' c', .int .i64 frac, .int .i64 bits, .int .i64 cut, .bool each] w fun e w' => e = .returned (.bool true) ∧ Below w.heap.size w w' := by
  cases each
  · exact dotfix_o A B n c n' c' a b frac bits cut w ha.1 hb.1
  · exact dotfix_e A B n c n' c' a b frac bits cut w ha.1 hb.1
end Go.Proofs.Ytbjnggnlflofbaa
