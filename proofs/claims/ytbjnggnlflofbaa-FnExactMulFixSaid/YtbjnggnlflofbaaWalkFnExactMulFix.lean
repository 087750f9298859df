/-
  The walk of the law MulFix: for every five numbers it returns true.
-/
import Derived.Test.YtbjnggnlflofbaaMulFix
namespace Go.Proofs.Ytbjnggnlflofbaa
set_option linter.unusedSimpArgs false
set_option linter.unusedVariables false
open Go.RowKit

theorem walk_FnExactMulFix (a b frac bits cut : Int) (w : World) (_ : (Lit.int .i64 a).wf = true) (_ : (Lit.int .i64 b).wf = true) (_ : (Lit.int .i64 frac).wf = true) (_ : (Lit.int .i64 bits).wf = true) (_ : (Lit.int .i64 cut).wf = true) :
    Calls Try.prog 9 #[.int .i64 a, .int .i64 b, .int .i64 frac, .int .i64 bits, .int .i64 cut] w fun e w' => e = .returned (.bool true) ∧ Below w.heap.size w w' := by
  go_enter Try.func9, Try.ntmps9
  go_wp2_with (first | (go_at_call 29; (with_reducible refine (sMulFix_any _ _ _ _ _ _).mono ?_); rintro e w1 ⟨rfl, hbn⟩; (first | (replace HB1 := Lib.hid (HB1.out.trans (hbn.mono HB1.out.size))) | (have HB1 := Lib.hid hbn)); clear hbn) | (go_at_call 30; (with_reducible refine (iMulFix_any _ _ _ _ _ _).mono ?_); rintro e w1 ⟨rfl, hbn⟩; (first | (replace HB1 := Lib.hid (HB1.out.trans (hbn.mono HB1.out.size))) | (have HB1 := Lib.hid hbn)); clear hbn))
  go_ret
  exact ⟨rfl, HB1.out⟩
end Go.Proofs.Ytbjnggnlflofbaa
