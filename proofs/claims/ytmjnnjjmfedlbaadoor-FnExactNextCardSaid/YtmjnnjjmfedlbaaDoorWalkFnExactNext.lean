/-
  The walk of FnExactNext.
-/
import Derived.Test.YtmjnnjjmfedlbaaDoorNx
namespace Go.Proofs.YtmjnnjjmfedlbaaDoor
set_option linter.unusedSimpArgs false
set_option linter.unusedVariables false
open Go.RowKit Go.Dr

theorem walk_FnExactNext (f a : Int) (w : World) (w0 : (Lit.int .i64 f).wf = true) (w1 : (Lit.int .u64 a).wf = true) (hl : Lk w) :
    Calls Tryd.prog 4 #[.int .i64 f, .int .u64 a] w fun e w' => e = .returned (.bool true) ∧ Below w.heap.size w w' := by
  obtain ⟨a, rfl, ha⟩ := u64_nat w1
  have HS := Lib.hid (sNext (f := f) ha w)
  have HI := Lib.hid (fun (W : World) (hlw : Lk W) => iNext w0 ha W hlw)
  have HK := Lib.hid hl
  clear w0 w1 hl ha
  go_enter Tryd.func4, Tryd.ntmps4
  go_wp2_with (first
    | (go_at_call 14; (with_reducible refine HS.out.mono ?_); rintro e w1 ⟨rfl, hbn⟩; have HB1 := Lib.hid hbn; clear hbn)
    | (go_at_call 15; (with_reducible refine (HI.out _ (HK.out.below HB1.out)).mono ?_); rintro e w2 ⟨rfl, hbn⟩; have HB := Lib.hid (Fl.chain HB1.out hbn); clear hbn))
  all_goals go_ret
  all_goals exact ⟨rfl, HB.out⟩
end Go.Proofs.YtmjnnjjmfedlbaaDoor
