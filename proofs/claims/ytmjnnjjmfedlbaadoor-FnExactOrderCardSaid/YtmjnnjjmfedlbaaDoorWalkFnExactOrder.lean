/-
  The walk of FnExactOrder.
-/
import Derived.Test.YtmjnnjjmfedlbaaDoorOk
namespace Go.Proofs.YtmjnnjjmfedlbaaDoor
set_option linter.unusedSimpArgs false
set_option linter.unusedVariables false
open Go.RowKit Go.Dr

theorem walk_FnExactOrder (f a b : Int) (w : World) (w0 : (Lit.int .i64 f).wf = true) (w1 : (Lit.int .u64 a).wf = true) (w2 : (Lit.int .u64 b).wf = true) (hl : Lk w) :
    Calls Tryd.prog 3 #[.int .i64 f, .int .u64 a, .int .u64 b] w fun e w' => e = .returned (.bool true) ∧ Below w.heap.size w w' := by
  obtain ⟨a, rfl, ha⟩ := u64_nat w1
  obtain ⟨b, rfl, hb⟩ := u64_nat w2
  have HS := Lib.hid (sOrder (f := f) ha hb w)
  have HI := Lib.hid (iOrder w0 ha hb w hl)
  clear w0 w1 w2 hl ha hb
  go_enter Tryd.func3, Tryd.ntmps3
  go_wp2_with (first
    | (go_at_call 12; (with_reducible refine HS.out.mono ?_); rintro e w1 ⟨rfl, rfl⟩)
    | (go_at_call 13; (with_reducible refine HI.out.mono ?_); rintro e w1 ⟨rfl, hbn⟩; have HB := Lib.hid hbn; clear hbn))
  all_goals go_ret
  all_goals exact ⟨rfl, HB.out⟩
end Go.Proofs.YtmjnnjjmfedlbaaDoor
