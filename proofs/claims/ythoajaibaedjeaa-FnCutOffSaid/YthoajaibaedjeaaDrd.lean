/-
  Contracts of the drawing of a quotient.
-/
import Derived.Test.YthoajaibaedjeaaDs
namespace Go.Proofs.Ythoajaibaedjeaa
set_option linter.unusedSimpArgs false
set_option linter.unusedVariables false
open Go.RowKit Go.Dr

theorem sDrawBig {w0 wi W : World} {g : Nat} {xs : List Int} (h : St w0 wi W g xs) :
    Calls Try.prog 46 #[.pointer (some ⟨g, 0, none⟩)] W fun e w' => ∃ v, e = .returned (.int .i64 v) ∧ St w0 wi w' g xs := by
  have HS := Lib.hid h
  clear h
  go_enter Try.func46, Try.ntmps46
  go_wp2_with (go_at_call 47; (with_reducible refine (sBelow HS.out _).mono ?_); rintro e w1 ⟨v, rfl, hv, hs⟩; replace HS := Lib.hid hs; have HV := Lib.hid hv; clear hs hv)
  rename_i v
  obtain ⟨k, rfl⟩ := Int.eq_ofNat_of_zero_le HV.out.1
  have HK := Lib.hid (show k < 8 by have := HV.out.2 (by omega); omega)
  clear HV
  go_loopw [3, 4] (fun x i wr => ∃ (j : Nat) (y : Int), j ≤ k ∧ x = .int .i64 y ∧ i = .int .i64 ((j : Nat) : Int) ∧ Hid (St w0 wi wr g xs)) (fun _ i _ => (intOf i).toNat)
  case atStart => exact ⟨k, _, Nat.le_refl _, rfl, rfl, HS.out⟩
  case round =>
    rename_i wr
    clear HS
    obtain ⟨j, y, hj, rfl, rfl, HS⟩ := hrel
    cases j with
    | zero =>
      go_wp2_with (first | (go_at_call 48; (with_reducible refine (sOnce HS.out _).mono ?_); rintro e w1 ⟨q, rfl, hs⟩; replace HS := Lib.hid hs; clear hs; cases q) | (go_at_call 59; ((with_reducible refine (sPickInt HS.out [4000000000000000000, 4000000000000000001, -4000000000000000000, -4000000000000000001, 9223372036854775807, -9223372036854775808] 6 rfl (by decide) (by decide) _ _ (by simp only [List.map])).mono ?_); rintro e w1 ⟨v, rfl, hv, hs⟩; replace HS := Lib.hid hs; clear hs hv)))
      all_goals go_ret
      all_goals exact ⟨_, rfl, HS.out⟩
    | succ j =>
      have hp : decide (0 < ((j + 1 : Nat) : Int)) = true := decide_eq_true (by omega)
      have hk1 : wrap64 (j : Int) = (j : Int) := by have := HK.out; exact wrap_id (by omega) (by omega)
      go_wp2_with (go_at_call 58; (with_reducible refine (sByte HS.out).mono ?_); rintro e w1 ⟨v, rfl, hv, hs⟩; replace HS := Lib.hid hs; clear hs hv)
      go_roundw
      case rel => exact ⟨j, _, by omega, rfl, by rw [hk1], HS.out⟩
      case measure => rw [hk1]; simp only [intOf, Int.toNat_natCast]; omega

end Go.Proofs.Ythoajaibaedjeaa
