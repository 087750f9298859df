/-
  The walk of the law FnRoundDiv: whatever is drawn, it returns true.
-/
import Derived.Test.YtihhklfmabencaaDrd
import Derived.Test.YtihhklfmabencaaRd
namespace Go.Proofs.Ytihhklfmabencaa
set_option linter.unusedSimpArgs false
set_option linter.unusedVariables false
open Go.RowKit Go.Dr

theorem rd1 : Pl.rdv (-3) 2 = -1 := by decide
theorem rd2 : Pl.rdv 3 2 = 2 := by decide

/-- Every pair that may be drawn, as the law's tests tell it. -/
theorem rd_cases (x y : Int) :
    (decide (y < 1) = true ∧ Pl.rdv x y = 0) ∨
    (decide (y < 1) = false ∧ decide (4000000000000000000 < y) = true ∧ Pl.rdv x y = 0) ∨
    (decide (y < 1) = false ∧ decide (4000000000000000000 < y) = false ∧ decide (4000000000000000000 < x) = true ∧ Pl.rdv x y = 0) ∨
    (decide (y < 1) = false ∧ decide (4000000000000000000 < y) = false ∧ decide (4000000000000000000 < x) = false ∧ decide (x < -4000000000000000000) = true ∧ Pl.rdv x y = 0) ∨
    (decide (y < 1) = false ∧ decide (4000000000000000000 < y) = false ∧ decide (4000000000000000000 < x) = false ∧ decide (x < -4000000000000000000) = false ∧
      ∃ Z R N P, wrap64 (Pl.rdv x y * y) = Z ∧ wrap64 (x - Z) = R ∧ decide (R < 0) = true ∧ wrap64 (-R) = N ∧ wrap64 (y + R) = P ∧ decide (N ≤ P) = true) ∨
    (decide (y < 1) = false ∧ decide (4000000000000000000 < y) = false ∧ decide (4000000000000000000 < x) = false ∧ decide (x < -4000000000000000000) = false ∧
      ∃ Z R S, wrap64 (Pl.rdv x y * y) = Z ∧ wrap64 (x - Z) = R ∧ decide (R < 0) = false ∧ decide (0 ≤ R) = true ∧ wrap64 (y - R) = S ∧ decide (R < S) = true) := by
  by_cases h1 : y < 1
  · exact .inl ⟨decide_eq_true h1, rdv_no (fun h => by unfold okR at h; omega)⟩
  by_cases h2 : 4000000000000000000 < y
  · exact .inr (.inl ⟨decide_eq_false h1, decide_eq_true h2, rdv_no (fun h => by unfold okR at h; omega)⟩)
  by_cases h3 : 4000000000000000000 < x
  · exact .inr (.inr (.inl ⟨decide_eq_false h1, decide_eq_false h2, decide_eq_true h3, rdv_no (fun h => by unfold okR at h; omega)⟩))
  by_cases h4 : x < -4000000000000000000
  · exact .inr (.inr (.inr (.inl ⟨decide_eq_false h1, decide_eq_false h2, decide_eq_false h3, decide_eq_true h4, rdv_no (fun h => by unfold okR at h; omega)⟩)))
  refine .inr (.inr (.inr (.inr ?_)))
  have hd := Pl.div_le_abs (a := x) (b := y) (M := 4000000000000000000) (by omega) (by omega) (by omega) (by omega)
  have hm := Int.mul_ediv_add_emod x y
  have hm2 := Int.emod_lt_of_pos x (show 0 < y by omega)
  have hm3 := Int.emod_nonneg x (show y ≠ 0 by omega)
  rw [Int.mul_comm] at hm
  have key : (Pl.rdv x y * y = x - x % y ∧ ¬ y ≤ 2 * (x % y)) ∨ (Pl.rdv x y * y = x - x % y + y ∧ y ≤ 2 * (x % y)) := by
    unfold Pl.rdv
    rw [if_pos ⟨by omega, by omega, by omega, by omega⟩]
    split
    · rename_i hc; exact .inr ⟨by rw [Int.add_mul, Int.one_mul]; omega, hc⟩
    · rename_i hc; exact .inl ⟨by omega, hc⟩
  generalize Pl.rdv x y * y = z at *
  rcases key with ⟨k1, k2⟩ | ⟨k1, k2⟩
  · refine .inr ⟨decide_eq_false h1, decide_eq_false h2, decide_eq_false h3, decide_eq_false h4, z, x % y, y - x % y, ?_, ?_, ?_, ?_, ?_, ?_⟩
    · exact Pl.wrap_id (by omega) (by omega)
    · rw [Pl.wrap_id (by omega) (by omega)]; omega
    · exact decide_eq_false (by omega)
    · exact decide_eq_true (by omega)
    · exact Pl.wrap_id (by omega) (by omega)
    · exact decide_eq_true (by omega)
  · refine .inl ⟨decide_eq_false h1, decide_eq_false h2, decide_eq_false h3, decide_eq_false h4, z, x % y - y, y - x % y, x % y, ?_, ?_, ?_, ?_, ?_, ?_⟩
    · exact Pl.wrap_id (by omega) (by omega)
    · rw [Pl.wrap_id (by omega) (by omega)]; omega
    · exact decide_eq_true (by omega)
    · rw [Pl.wrap_id (by omega) (by omega)]; omega
    · rw [Pl.wrap_id (by omega) (by omega)]; omega
    · exact decide_eq_true (by omega)

set_option maxHeartbeats 1600000 in
theorem walk_FnRoundDiv (A : Option Addr) (n c : Nat) (xs : List Int) (w : World) (h : IRow .u8 w A n c xs ∧ ∀ n ∈ xs, (Lit.int .u8 n).wf = true) :
    Calls Try.prog 3 #[.slice A n c] w fun e w' => e = .returned (.bool true) ∧ Below w.heap.size w w' := by
  have HH := Lib.hid h.1
  clear h
  have HG := Lib.hid (big_any A n c)
  have e1 := rd1
  have e2 := rd2
  by_cases hn : (n : Int) > 1048576
  · have d : decide ((n : Int) > 1048576) = true := decide_eq_true hn
    rw [d] at HG
    clear hn
    go_enter Try.func3, Try.ntmps3
    go_wp2_with ((go_at_call 7; (with_reducible refine (HG.out _).mono ?_); rintro e w1 ⟨rfl, hbn⟩; have HB1 := Lib.hid hbn; clear hbn))
    go_ret
    exact ⟨rfl, HB1.out⟩
  · have d : decide ((n : Int) > 1048576) = false := decide_eq_false hn
    rw [d] at HG
    have HN := Lib.hid (show n ≤ 1048576 by omega)
    clear hn
    go_enter Try.func3, Try.ntmps3
    go_wp2_with (first | (go_at_call 7; (with_reducible refine (HG.out _).mono ?_); rintro e w1 ⟨rfl, hbn⟩; have HB1 := Lib.hid hbn; clear hbn) | (go_at_call 8; (with_reducible refine (sDrawRoundDiv _ _ _ _ _ (HH.out.below HB1.out) HN.out).mono ?_); rintro e w1 ⟨x, y, rfl, hbn⟩; replace HB1 := Lib.hid (HB1.out.trans (hbn.mono HB1.out.size)); clear hbn; rcases rd_cases x y with ⟨d1, hq⟩ | ⟨d1, d2, hq⟩ | ⟨d1, d2, d3, hq⟩ | ⟨d1, d2, d3, d4, hq⟩ | ⟨d1, d2, d3, d4, Z, R, N, P, f1, f2, f3, f4, f5, f6⟩ | ⟨d1, d2, d3, d4, Z, R, S, f1, f2, f3, f4, f5, f6⟩) | (go_at_call 9; (with_reducible refine (iRoundDiv_any _ _ _).mono ?_); rintro e w1 ⟨rfl, hbn⟩; (first | (replace HB1 := Lib.hid (HB1.out.trans (hbn.mono HB1.out.size))) | (have HB1 := Lib.hid hbn)); clear hbn) | (go_at_call 10; (with_reducible refine (sRoundDiv_any _ _ _).mono ?_); rintro e w1 ⟨rfl, hbn⟩; (first | (replace HB1 := Lib.hid (HB1.out.trans (hbn.mono HB1.out.size))) | (have HB1 := Lib.hid hbn)); clear hbn))
    all_goals go_ret
    all_goals exact ⟨rfl, HB1.out⟩
end Go.Proofs.Ytihhklfmabencaa
