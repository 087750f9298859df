/-
  The walk of the law FromBits: for every word it returns true.
-/
import Derived.Test.YtmjnnjjmfedlbaaFb
import Derived.Test.YtmjnnjjmfedlbaaMb
import Derived.Test.YtmjnnjjmfedlbaaSame
namespace Go.Proofs.Ytmjnnjjmfedlbaa
set_option linter.unusedSimpArgs false
set_option linter.unusedVariables false
open Go.RowKit Go.Fl

theorem walk_FnExactFromBits (b : Int) (w : World) (h : (Lit.int .u64 b).wf = true) :
    Calls Try.prog 3 #[.int .u64 b] w fun e w' => e = .returned (.bool true) ∧ Below w.heap.size w w' := by
  simp only [Lit.wf, Bool.and_eq_true, decide_eq_true_eq] at h
  have h0 : 0 ≤ b := h.1
  have h1 : b ≤ 18446744073709551615 := h.2
  obtain ⟨n, rfl⟩ := Int.eq_ofNat_of_zero_le h0
  have hb : n < 2 ^ 64 := by omega
  have HB := Lib.hid hb
  clear h h0 h1 hb
  go_enter Try.func3, Try.ntmps3
  go_wp2_with (first
    | (go_at_call 6; (with_reducible refine (sFromBits_any _ _ HB.out).mono ?_); rintro e w1 ⟨r, rfl, hr, -, hbn⟩; have HR := Lib.hid hr; have HW := Lib.hid hbn; clear hr hbn)
    | (go_at_call 7; (with_reducible refine (iFromBits_any _ _ HB.out).mono ?_); rintro e w2 ⟨rfl, rfl⟩; have HE := Lib.hid ((cn_feq _).trans HR.out.symm))
    | (go_at_call 8; (with_reducible refine (sameFloat_any _ _ HE.out _).mono ?_); rintro e w3 ⟨rfl, hbn⟩; replace HW := Lib.hid (HW.out.trans (hbn.mono HW.out.size)); clear hbn))
  go_ret
  exact ⟨rfl, HW.out⟩
end Go.Proofs.Ytmjnnjjmfedlbaa
