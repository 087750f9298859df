/-
  The walk of the law Clip: for every two numbers it returns true.
-/
import Derived.Test.YtlhiaajacfganaaClip
namespace Go.Proofs.Ytlhiaajacfganaa
set_option linter.unusedSimpArgs false
set_option linter.unusedVariables false
open Go.RowKit

theorem walk_FnExactClip (x b : Int) (w : World) (hx : (Lit.int .i64 x).wf = true) (hb : (Lit.int .i64 b).wf = true) :
    Calls Try.prog 7 #[.int .i64 x, .int .i64 b] w fun e w' => e = .returned (.bool true) ∧ Below w.heap.size w w' := by
  clear hx hb
  go_enter Try.func7, Try.ntmps7
  go_wp2_with fail
  refine (sClip_any _ _ _).mono ?_
  rintro e w1 ⟨rfl, hb1⟩
  go_wp2_with fail
  refine (iClip_any _ _ _).mono ?_
  rintro e w2 ⟨rfl, hb2⟩
  go_wp2_with fail
  go_ret
  exact ⟨rfl, hb1.trans (hb2.mono hb1.size)⟩
end Go.Proofs.Ytlhiaajacfganaa
