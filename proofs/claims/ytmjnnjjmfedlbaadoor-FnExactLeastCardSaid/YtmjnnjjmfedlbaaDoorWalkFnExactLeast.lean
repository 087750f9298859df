/-
  The walk of FnExactLeast.
-/
import Derived.Test.YtmjnnjjmfedlbaaDoorGs
namespace Go.Proofs.YtmjnnjjmfedlbaaDoor
set_option linter.unusedSimpArgs false
set_option linter.unusedVariables false
open Go.RowKit
open Go.Fl (fl isNan feq ford FRow)

set_option maxRecDepth 8000 in
set_option maxHeartbeats 3200000 in
theorem walk_FnExactLeast (A : Option Addr) (n c : Nat) (xs : List Nat) (w : World) (h : FRow w A n c xs ∧ ∀ x ∈ xs, x < 2 ^ 64) (hl : Lk w) :
    Calls Tryd.prog 11 #[.slice A n c] w fun e w' => e = .returned (.bool true) ∧ Below w.heap.size w w' := by
  obtain ⟨h, hx⟩ := h
  obtain rfl : n = xs.length := h.1.symm
  have HR := Lib.hid h
  have HX := Lib.hid hx
  have HL := Lib.hid hl
  clear h hx hl
  by_cases hn : (xs.length : Int) > 1048576
  · have d : decide (1048576 < (xs.length : Int)) = true := decide_eq_true hn
    have d' : decide ((xs.length : Int) > 1048576) = true := decide_eq_true hn
    clear hn
    go_enter Tryd.func11, Tryd.ntmps11
    go_wp2
    go_ret
    exact ⟨rfl, Below.refl _ _⟩
  have d : decide (1048576 < (xs.length : Int)) = false := decide_eq_false hn
  have d' : decide ((xs.length : Int) > 1048576) = false := decide_eq_false hn
  have HN := Lib.hid (show xs.length ≤ 1048576 by omega)
  clear hn
  go_enter Tryd.func11, Tryd.ntmps11
  go_upto_region 4 with (first
    | (go_at_call 24; (with_reducible refine (toFloat64S_any _ _ _ _ _ HR.out HN.out).mono ?_); rintro e w1 ⟨g1, rfl, hg1, hp1, hb1⟩; have H1 := Lib.hid (And.intro hg1 (And.intro hp1 hb1)); clear hg1 hp1 hb1)
    | (go_at_call 36; (with_reducible refine (sTopLe _ _ _ _ _ (FBlk.row H1.out.2.1 HN.out) HX.out).mono ?_); rintro e w2 ⟨r1, rfl, hr, hb⟩; have H2 := Lib.hid (And.intro hr hb); clear hr hb))
  have HB2 := Lib.hid (show Below w.heap.size w w2 from Fl.chain H1.out.2.2 H2.out.2)
  go_upto_region 5 with (go_at_call 24; (with_reducible refine (toFloat64S_any _ _ _ _ _ (HR.out.below HB2.out) HN.out).mono ?_); rintro e w3 ⟨gx, rfl, hgx, hpx, hbx⟩; have H3 := Lib.hid (And.intro hgx (And.intro hpx hbx)); clear hgx hpx hbx)
  have HB3 := Lib.hid (show Below w.heap.size w w3 from Fl.chain HB2.out H3.out.2.2)
  go_upto_region 6 with (go_at_call 32; (with_reducible refine (iTopLe _ _ _ _ _ (FBlk.row H3.out.2.1 HN.out) HX.out (HL.out.below HB3.out)).mono ?_); rintro e w4 ⟨r2, rfl, hr, hb⟩; have H4 := Lib.hid (And.intro hr hb); clear hr hb)
  have HB4 := Lib.hid (show Below w.heap.size w w4 from Fl.chain HB3.out H4.out.2)
  have HFE := Lib.hid (show feq r2 r1 from H4.out.1.trans H2.out.1.symm)
  go_wp2_with (first
    | (go_at_call 35; (with_reducible refine (sameFloat_any _ _ HFE.out _).mono ?_); rintro e w5 ⟨rfl, hb⟩; have H5 := Lib.hid hb; have HB5 := Lib.hid (show Below w.heap.size w w5 from Fl.chain HB4.out hb); clear hb)
    | (go_at_call 24; (with_reducible refine (toFloat64S_any _ _ _ _ _ (HR.out.below HB5.out) HN.out).mono ?_); rintro e w6 ⟨g6, rfl, hg6, hp6, hb6⟩; have H6 := Lib.hid (And.intro hg6 (And.intro hp6 hb6)); clear hg6 hp6 hb6)
    | (go_at_call 26; (with_reducible refine (eqFloat64S_any _ _ _ _ _ _ _ _ _ ((((FBlk.row H3.out.2.1 HN.out).below H4.out.2).below H5.out).below H6.out.2.2) (FBlk.row H6.out.2.1 HN.out) (leq.refl _) HN.out).mono ?_); rintro e w7 ⟨rfl, hb⟩; have HB7 := Lib.hid (show Below w.heap.size w w7 from Fl.chain (Fl.chain HB5.out H6.out.2.2) hb); clear hb))
  go_ret
  exact ⟨rfl, HB7.out⟩
end Go.Proofs.YtmjnnjjmfedlbaaDoor
