/-
  Contracts of the drawing of a float64's bits.
-/
import Derived.Test.YtmjnnjjmfedlbaaDoorChecked
import Derived.Outline
import Derived.Handy
import Derived.Test.YtmjnnjjmfedlbaaDoorDs
import Derived.Test.YtmjnnjjmfedlbaaDoorTb
namespace Go.Proofs.YtmjnnjjmfedlbaaDoor
set_option linter.unusedSimpArgs false
set_option linter.unusedVariables false
open Go.RowKit Go.Dr

theorem u64_rng (x : Int) : 0 ≤ IntKind.u64.wrap x ∧ IntKind.u64.wrap x ≤ 18446744073709551615 := by
  rw [IntKind.wrap_u64]; omega

theorem sWord {w0 wi W : World} {g : Nat} {xs : List Int} (h : St w0 wi W g xs) :
    Calls Tryd.prog 76 #[.pointer (some ⟨g, 0, none⟩)] W fun e w' => ∃ v, e = .returned (.int .u64 v) ∧ St w0 wi w' g xs := by
  have HS := Lib.hid h
  clear h
  go_enter Tryd.func76, Tryd.ntmps76
  go_wp2
  go_loopw [3, 4] (fun u i wr => ∃ (x : Int) (k : Nat), u = .int .u64 x ∧ i = .int .i64 (k : Int) ∧ k ≤ 8 ∧ Hid (St w0 wi wr g xs)) (fun _ i _ => 8 - (intOf i).toNat)
  case atStart => exact ⟨0, 0, rfl, rfl, by omega, HS.out⟩
  case round =>
    clear HS
    obtain ⟨x, k, rfl, rfl, hk, HS⟩ := hrel
    by_cases h8 : k < 8
    · have hk8 : (k : Int) < 8 := by omega
      have HK := Lib.hid h8
      clear hk
      go_wp2_with (go_at_call 85; (with_reducible refine (sByte HS.out).mono ?_); rintro e w1 ⟨v, rfl, hv, hs⟩; replace HS := Lib.hid hs; clear hs hv)
      go_roundw
      case rel => exact ⟨_, k + 1, rfl, by go_num, HK.out, HS.out⟩
      case measure => have := HK.out; simp [intOf]; omega
    · obtain rfl : k = 8 := by omega
      go_wp2
      go_ret
      exact ⟨_, rfl, HS.out⟩

set_option maxRecDepth 8000 in
set_option maxHeartbeats 1600000 in
theorem sDrawBits_3 {w0 wi W : World} {g : Nat} {xs : List Int} (h : St w0 wi W g xs) :
    Calls Tryd.prog 77 #[.pointer (some ⟨g, 0, none⟩), .int .i64 3] W fun e w' => ∃ v, e = .returned (.int .u64 v) ∧ (0 ≤ v ∧ v ≤ 18446744073709551615) ∧ St w0 wi w' g xs := by
  have HS := Lib.hid h
  clear h
  have HSG := Lib.hid (show ∀ (n : Bool) (w : World), Calls Tryd.prog 38 #[.int .i64 3, .bool n] w fun e w' => ∃ s, e = .returned (.int .u64 s) ∧ w' = w from fun n w => (sSign n w).mono fun e w' h => ⟨_, h⟩)
  go_enter Tryd.func77, Tryd.ntmps77
  go_wp2_with (first
    | (go_at_call 47; (with_reducible refine (sForm_3 _).mono ?_); rintro e w1 ⟨rfl, rfl⟩)
    | (go_at_call 72; (with_reducible refine (sOnce HS.out _).mono ?_); rintro e w1 ⟨q, rfl, hs⟩; replace HS := Lib.hid hs; clear hs)
    | (go_at_call 38; (with_reducible refine (HSG.out _ _).mono ?_); rintro e w1 ⟨sg, rfl, rfl⟩)
    | (go_at_call 70; (with_reducible refine (sBelow HS.out _).mono ?_); rintro e w1 ⟨v, rfl, hv, hs⟩; replace HS := Lib.hid hs; clear hs hv)
    | (go_at_call 42; (with_reducible refine (sInf_3 false _).mono ?_); rintro e w1 ⟨rfl, rfl⟩)
    | (go_at_call 41; (with_reducible refine (sPlain_3 _).mono ?_); rintro e w1 ⟨rfl, rfl⟩)
    | (go_at_call 76; (with_reducible refine (sWord HS.out).mono ?_); rintro e w1 ⟨v, rfl, hs⟩; replace HS := Lib.hid hs; clear hs))
  all_goals go_ret
  all_goals exact ⟨_, rfl, u64_rng _, HS.out⟩

end Go.Proofs.YtmjnnjjmfedlbaaDoor
