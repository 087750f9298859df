/-
  Contracts of the drawing of fixed-point rules and words.
-/
import Derived.Test.YtihhklfmabencaaSn
import Derived.Test.YtihhklfmabencaaDsg
namespace Go.Proofs.Ytihhklfmabencaa
set_option linter.unusedSimpArgs false
set_option linter.unusedVariables false
open Go.RowKit Go.Dr

theorem sPick2 {w0 wi W : World} {g : Nat} {xs : List Int} (h : St w0 wi W g xs) (x y : Int) (t : TypeId) :
    Calls Try.prog 39 #[.pointer (some ⟨g, 0, none⟩), .slice (some ⟨W.heap.size, 0, none⟩) 2 2] (W.alloc (.cells #[.int .i64 x, .int .i64 y] t)) fun e w' => ∃ v, e = .returned (.int .i64 v) ∧ v ∈ [x, y] ∧ St w0 wi w' g xs :=
  sPickInt h [x, y] 2 rfl (by decide) (by decide) t _ rfl

set_option maxHeartbeats 1600000 in
theorem sDrawFix {w0 wi W : World} {g : Nat} {xs : List Int} (h : St w0 wi W g xs) :
    Calls Try.prog 42 #[.pointer (some ⟨g, 0, none⟩)] W fun e w' => ∃ f b c, e = .returned (.tuple #[.int .i64 f, .int .i64 b, .int .i64 c]) ∧ St w0 wi w' g xs := by
  have HS := Lib.hid h
  clear h
  go_enter Try.func42, Try.ntmps42
  go_wp2_with (first | (go_at_call 39; (with_reducible refine (sPickInt HS.out [1, 4, 8, 16, 20, 24, 24, 16, 12] 9 rfl (by decide) (by decide) _ _ (by simp only [List.map])).mono ?_); rintro e w1 ⟨v, rfl, hv, hs⟩; replace HS := Lib.hid hs; clear hs hv) | (go_at_call 39; (with_reducible refine (sPick2 HS.out _ _ _).mono ?_); rintro e w1 ⟨v, rfl, hv, hs⟩; replace HS := Lib.hid hs; clear hs hv) | (go_at_call 39; (with_reducible refine (sPickInt HS.out [-1, 24, 25] 3 rfl (by decide) (by decide) _ _ (by simp only [List.map])).mono ?_); rintro e w1 ⟨v, rfl, hv, hs⟩; replace HS := Lib.hid hs; clear hs hv) | (go_at_call 29; (with_reducible refine (sBelow HS.out _).mono ?_); rintro e w1 ⟨v, rfl, hv, hs⟩; replace HS := Lib.hid hs; clear hs hv))
  all_goals go_ret3
  all_goals exact ⟨_, _, _, rfl, HS.out⟩

set_option maxHeartbeats 1600000 in
theorem sDrawWord {w0 wi W : World} {g : Nat} {xs : List Int} (h : St w0 wi W g xs) (b : Int) :
    Calls Try.prog 43 #[.pointer (some ⟨g, 0, none⟩), .int .i64 b] W fun e w' => ∃ v, e = .returned (.int .i64 v) ∧ St w0 wi w' g xs := by
  have HS := Lib.hid h
  have HI := Lib.hid (sIn_any b 1 24)
  clear h
  by_cases hb : 1 ≤ b ∧ b ≤ 24
  · rw [decide_eq_true hb] at HI
    obtain ⟨m, rfl⟩ : ∃ m : Nat, b = (m : Int) + 1 := ⟨(b - 1).toNat, by omega⟩
    have mu : IntKind.u64.wrap (m : Int) = m := IntWalk.u64_in _ ⟨by omega, by omega⟩
    have m1 : m ≤ 23 := by omega
    have mw : wrap64 (m : Int) = m := wrap_id (by omega) (by omega)
    clear hb
    go_enter Try.func43, Try.ntmps43
    go_wp2_with (first | (go_at_call 32; ((with_reducible refine (HI.out _).mono ?_); rintro e w1 ⟨rfl, hb2⟩; replace HS := Lib.hid (HS.out.below hb2); clear hb2)) | (go_at_call 29; (with_reducible refine (sBelow HS.out _).mono ?_); rintro e w1 ⟨v, rfl, hv, hs⟩; replace HS := Lib.hid hs; clear hs hv))
    all_goals go_ret
    all_goals exact ⟨_, rfl, HS.out⟩
  · rw [decide_eq_false hb] at HI
    clear hb
    go_enter Try.func43, Try.ntmps43
    go_wp2_with (first | (go_at_call 32; ((with_reducible refine (HI.out _).mono ?_); rintro e w1 ⟨rfl, hb2⟩; replace HS := Lib.hid (HS.out.below hb2); clear hb2)) | (go_at_call 29; (with_reducible refine (sBelow HS.out _).mono ?_); rintro e w1 ⟨v, rfl, hv, hs⟩; replace HS := Lib.hid hs; clear hs hv))
    all_goals go_ret
    all_goals exact ⟨_, rfl, HS.out⟩
end Go.Proofs.Ytihhklfmabencaa
