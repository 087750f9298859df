/-
  Contracts of mulOk and MulFix of the program.
-/
import Derived.Test.YtihhklfmabencaaClipH
namespace Go.Proofs.Ytihhklfmabencaa
set_option linter.unusedSimpArgs false
set_option linter.unusedVariables false
open Go.RowKit

def okM (a b frac bits cut : Int) : Prop := (((((((1 ≤ bits ∧ bits ≤ 24) ∧ 0 ≤ frac) ∧ frac ≤ 24) ∧ 1 ≤ cut) ∧ cut ≤ 4) ∧ clp a bits = a) ∧ clp b bits = b)
instance (a b frac bits cut : Int) : Decidable (okM a b frac bits cut) := by unfold okM; infer_instance
def okB (a b frac bits cut : Int) : Bool := decide (okM a b frac bits cut)
theorem ret_bm {a b : Bool} (h : a = b) : Ending.returned (.bool a) = .returned (.bool b) := by rw [h]

set_option maxHeartbeats 800000 in
theorem mulOk_any (a b frac bits cut : Int) (w : World) : Calls Try.prog 44 #[.int .i64 a, .int .i64 b, .int .i64 frac, .int .i64 bits, .int .i64 cut] w fun e w' => e = .returned (.bool (okB a b frac bits cut)) ∧ Below w.heap.size w w' := by
  by_cases c0 : ¬ (1 ≤ bits)
  · have HZ := Lib.hid (show okB a b frac bits cut = false from decide_eq_false (fun h => c0 (by unfold okM at h; exact h.1.1.1.1.1.1.1)))
    have dc0 : decide (1 ≤ bits) = false := decide_eq_false c0
    clear c0
    go_enter Try.func44, Try.ntmps44
    go_wp2_with (first | (go_at_call 24; (with_reducible refine (iClip_any _ _ _).mono ?_); rintro e w1 ⟨rfl, hbn⟩; (first | (replace HB1 := Lib.hid (HB1.out.trans (hbn.mono HB1.out.size))) | (have HB1 := Lib.hid hbn)); clear hbn) | go_in)
    go_ret
    exact ⟨ret_bm HZ.out.symm, Below.refl _ _⟩
  replace c0 := Classical.not_not.1 c0
  by_cases c1 : ¬ (bits ≤ 24)
  · have HZ := Lib.hid (show okB a b frac bits cut = false from decide_eq_false (fun h => c1 (by unfold okM at h; exact h.1.1.1.1.1.1.2)))
    have dc0 : decide (1 ≤ bits) = true := decide_eq_true c0
    have dc1 : decide (bits ≤ 24) = false := decide_eq_false c1
    clear c0 c1
    go_enter Try.func44, Try.ntmps44
    go_wp2_with (first | (go_at_call 24; (with_reducible refine (iClip_any _ _ _).mono ?_); rintro e w1 ⟨rfl, hbn⟩; (first | (replace HB1 := Lib.hid (HB1.out.trans (hbn.mono HB1.out.size))) | (have HB1 := Lib.hid hbn)); clear hbn) | go_in)
    go_ret
    exact ⟨ret_bm HZ.out.symm, Below.refl _ _⟩
  replace c1 := Classical.not_not.1 c1
  by_cases c2 : ¬ (0 ≤ frac)
  · have HZ := Lib.hid (show okB a b frac bits cut = false from decide_eq_false (fun h => c2 (by unfold okM at h; exact h.1.1.1.1.1.2)))
    have dc0 : decide (1 ≤ bits) = true := decide_eq_true c0
    have dc1 : decide (bits ≤ 24) = true := decide_eq_true c1
    have dc2 : decide (0 ≤ frac) = false := decide_eq_false c2
    clear c0 c1 c2
    go_enter Try.func44, Try.ntmps44
    go_wp2_with (first | (go_at_call 24; (with_reducible refine (iClip_any _ _ _).mono ?_); rintro e w1 ⟨rfl, hbn⟩; (first | (replace HB1 := Lib.hid (HB1.out.trans (hbn.mono HB1.out.size))) | (have HB1 := Lib.hid hbn)); clear hbn) | go_in)
    go_ret
    exact ⟨ret_bm HZ.out.symm, Below.refl _ _⟩
  replace c2 := Classical.not_not.1 c2
  by_cases c3 : ¬ (frac ≤ 24)
  · have HZ := Lib.hid (show okB a b frac bits cut = false from decide_eq_false (fun h => c3 (by unfold okM at h; exact h.1.1.1.1.2)))
    have dc0 : decide (1 ≤ bits) = true := decide_eq_true c0
    have dc1 : decide (bits ≤ 24) = true := decide_eq_true c1
    have dc2 : decide (0 ≤ frac) = true := decide_eq_true c2
    have dc3 : decide (frac ≤ 24) = false := decide_eq_false c3
    clear c0 c1 c2 c3
    go_enter Try.func44, Try.ntmps44
    go_wp2_with (first | (go_at_call 24; (with_reducible refine (iClip_any _ _ _).mono ?_); rintro e w1 ⟨rfl, hbn⟩; (first | (replace HB1 := Lib.hid (HB1.out.trans (hbn.mono HB1.out.size))) | (have HB1 := Lib.hid hbn)); clear hbn) | go_in)
    go_ret
    exact ⟨ret_bm HZ.out.symm, Below.refl _ _⟩
  replace c3 := Classical.not_not.1 c3
  by_cases c4 : ¬ (1 ≤ cut)
  · have HZ := Lib.hid (show okB a b frac bits cut = false from decide_eq_false (fun h => c4 (by unfold okM at h; exact h.1.1.1.2)))
    have dc0 : decide (1 ≤ bits) = true := decide_eq_true c0
    have dc1 : decide (bits ≤ 24) = true := decide_eq_true c1
    have dc2 : decide (0 ≤ frac) = true := decide_eq_true c2
    have dc3 : decide (frac ≤ 24) = true := decide_eq_true c3
    have dc4 : decide (1 ≤ cut) = false := decide_eq_false c4
    clear c0 c1 c2 c3 c4
    go_enter Try.func44, Try.ntmps44
    go_wp2_with (first | (go_at_call 24; (with_reducible refine (iClip_any _ _ _).mono ?_); rintro e w1 ⟨rfl, hbn⟩; (first | (replace HB1 := Lib.hid (HB1.out.trans (hbn.mono HB1.out.size))) | (have HB1 := Lib.hid hbn)); clear hbn) | go_in)
    go_ret
    exact ⟨ret_bm HZ.out.symm, Below.refl _ _⟩
  replace c4 := Classical.not_not.1 c4
  by_cases c5 : ¬ (cut ≤ 4)
  · have HZ := Lib.hid (show okB a b frac bits cut = false from decide_eq_false (fun h => c5 (by unfold okM at h; exact h.1.1.2)))
    have dc0 : decide (1 ≤ bits) = true := decide_eq_true c0
    have dc1 : decide (bits ≤ 24) = true := decide_eq_true c1
    have dc2 : decide (0 ≤ frac) = true := decide_eq_true c2
    have dc3 : decide (frac ≤ 24) = true := decide_eq_true c3
    have dc4 : decide (1 ≤ cut) = true := decide_eq_true c4
    have dc5 : decide (cut ≤ 4) = false := decide_eq_false c5
    clear c0 c1 c2 c3 c4 c5
    go_enter Try.func44, Try.ntmps44
    go_wp2_with (first | (go_at_call 24; (with_reducible refine (iClip_any _ _ _).mono ?_); rintro e w1 ⟨rfl, hbn⟩; (first | (replace HB1 := Lib.hid (HB1.out.trans (hbn.mono HB1.out.size))) | (have HB1 := Lib.hid hbn)); clear hbn) | go_in)
    go_ret
    exact ⟨ret_bm HZ.out.symm, Below.refl _ _⟩
  replace c5 := Classical.not_not.1 c5
  by_cases c6 : ¬ (clp a bits = a)
  · have HZ := Lib.hid (show okB a b frac bits cut = false from decide_eq_false (fun h => c6 (by unfold okM at h; exact h.1.2)))
    have dc0 : decide (1 ≤ bits) = true := decide_eq_true c0
    have dc1 : decide (bits ≤ 24) = true := decide_eq_true c1
    have dc2 : decide (0 ≤ frac) = true := decide_eq_true c2
    have dc3 : decide (frac ≤ 24) = true := decide_eq_true c3
    have dc4 : decide (1 ≤ cut) = true := decide_eq_true c4
    have dc5 : decide (cut ≤ 4) = true := decide_eq_true c5
    have dc6 : (clp a bits == a) = false := by simpa using c6
    clear c0 c1 c2 c3 c4 c5 c6
    go_enter Try.func44, Try.ntmps44
    go_wp2_with (first | (go_at_call 24; (with_reducible refine (iClip_any _ _ _).mono ?_); rintro e w1 ⟨rfl, hbn⟩; (first | (replace HB1 := Lib.hid (HB1.out.trans (hbn.mono HB1.out.size))) | (have HB1 := Lib.hid hbn)); clear hbn) | go_in)
    go_ret
    exact ⟨ret_bm HZ.out.symm, HB1.out⟩
  replace c6 := Classical.not_not.1 c6
  by_cases c7 : ¬ (clp b bits = b)
  · have HZ := Lib.hid (show okB a b frac bits cut = false from decide_eq_false (fun h => c7 (by unfold okM at h; exact h.2)))
    have dc0 : decide (1 ≤ bits) = true := decide_eq_true c0
    have dc1 : decide (bits ≤ 24) = true := decide_eq_true c1
    have dc2 : decide (0 ≤ frac) = true := decide_eq_true c2
    have dc3 : decide (frac ≤ 24) = true := decide_eq_true c3
    have dc4 : decide (1 ≤ cut) = true := decide_eq_true c4
    have dc5 : decide (cut ≤ 4) = true := decide_eq_true c5
    have dc6 : (clp a bits == a) = true := by simpa using c6
    have dc7 : (clp b bits == b) = false := by simpa using c7
    clear c0 c1 c2 c3 c4 c5 c6 c7
    go_enter Try.func44, Try.ntmps44
    go_wp2_with (first | (go_at_call 24; (with_reducible refine (iClip_any _ _ _).mono ?_); rintro e w1 ⟨rfl, hbn⟩; (first | (replace HB1 := Lib.hid (HB1.out.trans (hbn.mono HB1.out.size))) | (have HB1 := Lib.hid hbn)); clear hbn) | go_in)
    go_ret
    exact ⟨ret_bm HZ.out.symm, HB1.out⟩
  replace c7 := Classical.not_not.1 c7
  have HZ := Lib.hid (show okB a b frac bits cut = true from decide_eq_true ⟨⟨⟨⟨⟨⟨⟨c0, c1⟩, c2⟩, c3⟩, c4⟩, c5⟩, c6⟩, c7⟩)
  have dc0 : decide (1 ≤ bits) = true := decide_eq_true c0
  have dc1 : decide (bits ≤ 24) = true := decide_eq_true c1
  have dc2 : decide (0 ≤ frac) = true := decide_eq_true c2
  have dc3 : decide (frac ≤ 24) = true := decide_eq_true c3
  have dc4 : decide (1 ≤ cut) = true := decide_eq_true c4
  have dc5 : decide (cut ≤ 4) = true := decide_eq_true c5
  have dc6 : (clp a bits == a) = true := by simpa using c6
  have dc7 : (clp b bits == b) = true := by simpa using c7
  clear c0 c1 c2 c3 c4 c5 c6 c7
  go_enter Try.func44, Try.ntmps44
  go_wp2_with (first | (go_at_call 24; (with_reducible refine (iClip_any _ _ _).mono ?_); rintro e w1 ⟨rfl, hbn⟩; (first | (replace HB1 := Lib.hid (HB1.out.trans (hbn.mono HB1.out.size))) | (have HB1 := Lib.hid hbn)); clear hbn) | go_in)
  go_ret
  exact ⟨ret_bm HZ.out.symm, HB1.out⟩
end Go.Proofs.Ytihhklfmabencaa
