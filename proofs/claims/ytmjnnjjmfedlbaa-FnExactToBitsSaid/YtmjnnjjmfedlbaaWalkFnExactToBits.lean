/-
  The walk of the law ToBits: for every float it returns true.
-/
import Derived.Test.YtmjnnjjmfedlbaaTd
namespace Go.Proofs.Ytmjnnjjmfedlbaa
set_option linter.unusedSimpArgs false
set_option linter.unusedVariables false
open Go.RowKit Go.Dr
open Go.Fl (fl)

theorem walk_FnExactToBits (b : Nat) (w : World) (h : b < 2 ^ 64) :
    Calls Try.prog 4 #[fl b] w fun e w' => e = .returned (.bool true) ∧ Below w.heap.size w w' := by
  have HT := Lib.hid (sToBits_any b w h)
  have HI := Lib.hid (iToBits_any b)
  clear h
  go_enter Try.func4, Try.ntmps4
  go_wp2_with (first
    | (go_at_call 9; (with_reducible refine HT.out.mono ?_); rintro e w1 ⟨rfl, hbn⟩; have HW := Lib.hid hbn; clear hbn)
    | (go_at_call 10; (with_reducible refine (HI.out _).mono ?_); rintro e w2 ⟨rfl, rfl⟩))
  go_ret
  exact ⟨rfl, HW.out⟩
end Go.Proofs.Ytmjnnjjmfedlbaa
