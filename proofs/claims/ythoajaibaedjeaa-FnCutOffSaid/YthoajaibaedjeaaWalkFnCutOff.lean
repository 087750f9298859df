/-
  The walk of the law FnCutOff: whatever is drawn, it returns true.
-/
import Derived.Test.YthoajaibaedjeaaDrd
import Derived.Test.YthoajaibaedjeaaShi
namespace Go.Proofs.Ythoajaibaedjeaa
set_option linter.unusedSimpArgs false
set_option linter.unusedVariables false
open Go.RowKit Go.Dr

theorem sDrawShift (A : Option Addr) (n c : Nat) (xs : List Int) (w : World) (h : IRow .u8 w A n c xs) (hn : n ≤ 1048576) :
    Calls Try.prog 24 #[.slice A n c] w fun e w' => ∃ x y z, e = .returned (.tuple #[.int .i64 x, .int .i64 y, .int .i64 z]) ∧ Below w.heap.size w w' := by
  have HN := Lib.hid (l1New_any A n c xs w h hn)
  clear h hn
  go_enter Try.func24, Try.ntmps24
  go_wp2_with (first | (go_at_call 45; (with_reducible refine HN.out.mono ?_); rintro e w1 ⟨g, rfl, hc, hb⟩; have HS := Lib.hid (St.new hc hb); clear hc hb) | (go_at_call 46; (with_reducible refine (sDrawBig HS.out).mono ?_); rintro e w1 ⟨v, rfl, hs⟩; replace HS := Lib.hid hs; clear hs) | (go_at_call 48; (with_reducible refine (sOnce HS.out _).mono ?_); rintro e w1 ⟨q, rfl, hs⟩; replace HS := Lib.hid hs; clear hs; cases q) | (go_at_call 47; (with_reducible refine (sBelow HS.out _).mono ?_); rintro e w1 ⟨v, rfl, hv, hs⟩; replace HS := Lib.hid hs; clear hs hv))
  all_goals go_ret3
  all_goals exact ⟨_, _, _, rfl, HS.out.2.1⟩

/-- How far a number stands from 0. -/
def absv (x : Int) : Int := if x < 0 then wrap64 (-x) else x

theorem abs_any (x : Int) (w : World) : Calls Try.prog 26 #[.int .i64 x] w fun e w' => e = .returned (.int .i64 (absv x)) ∧ Below w.heap.size w w' := by
  by_cases h : x < 0
  · have d : decide (x < 0) = true := decide_eq_true h
    have HV := Lib.hid (show absv x = wrap64 (-x) from if_pos h)
    clear h
    go_enter Try.func26, Try.ntmps26
    go_wp2
    go_ret
    exact ⟨ret_i64 HV.out.symm, Below.refl _ _⟩
  · have d : decide (x < 0) = false := decide_eq_false h
    have HV := Lib.hid (show absv x = x from if_neg h)
    clear h
    go_enter Try.func26, Try.ntmps26
    go_wp2
    go_ret
    exact ⟨ret_i64 HV.out.symm, Below.refl _ _⟩

theorem co1 : shf 5 1 4 = 2 := by decide
theorem co2 : shf 7 1 3 = 4 := by decide

/-- What the law compares in one round. -/
theorem co_parts {x c : Int} {n : Nat} (h : okS x n c) : ∃ D Q Z R N M E Q0 : Int, wrap64 (2 ^ n) = D ∧ shf x n c = Q ∧ wrap64 (Q * D) = Z ∧ wrap64 (x - Z) = R ∧ absv R = N ∧ decide (D ≤ N) = false ∧ wrap64 (D - N) = M ∧
    (N = if R < 0 then -R else R) ∧ M = D - N ∧ 0 ≤ E ∧ E < D ∧ (Q0 < 0 ↔ x < 0) ∧ (n = 0 → E = 0) ∧ ((upC x n c D Q0 E ∧ Q = Q0 + 1 ∧ R = E - D) ∨ (¬ upC x n c D Q0 E ∧ Q = Q0 ∧ R = E)) := by
  have hx : -4000000000000000000 ≤ x ∧ x ≤ 4000000000000000000 := h.1
  obtain ⟨D, Q, E, g1, g2, g3, g4, g5, g6, g7, g8, g9, g10, g11, g12, g13, g14, g15, g16, g17⟩ := shf_parts h
  by_cases hu : upC x n c D Q E
  · have hz : wrap64 ((Q + 1) * D) = x - E + D := by
      have hm : Q * D = x - E := by
        have h1 := Int.mul_ediv_add_emod x D
        rw [g13] at h1
        have hE : x % D = E := by
          by_cases hc : x % D = E
          · exact hc
          · exfalso
            have h2 := Int.emod_nonneg x (show D ≠ 0 by omega)
            have h3 := Int.emod_lt_of_pos x (show 0 < D by omega)
            have h4 : D * Q = x - x % D := by omega
            rw [Int.mul_comm] at h4
            rw [h4] at g12
            rw [wrap_id (by omega) (by omega)] at g12
            omega
        rw [Int.mul_comm]; omega
      rw [Int.add_mul, Int.one_mul, hm]
      exact wrap_id (by omega) (by omega)
    have hN : absv (E - D) = D - E := by
      unfold absv; rw [if_pos (by omega), wrap_id (by omega) (by omega)]; omega
    refine ⟨D, Q + 1, x - E + D, E - D, D - E, E, E, Q, g4, g14 hu, hz, ?_, hN, ?_, ?_, ?_, by omega, g8, g9, g10, fun hn => (g16 hn).2.2, .inl ⟨hu, rfl, rfl⟩⟩
    · rw [wrap_id (by omega) (by omega)]; omega
    · have : E ≠ 0 := by
        intro e0
        subst e0
        rcases hu with ⟨_, _, h3⟩ | ⟨_, _, h3⟩ | ⟨_, _, h3⟩ <;> omega
      exact decide_eq_false (by omega)
    · rw [wrap_id (by omega) (by omega)]; omega
    · rw [if_pos (by omega)]; omega
  · have hN : absv E = E := by unfold absv; rw [if_neg (by omega)]
    refine ⟨D, Q, x - E, E, E, D - E, E, Q, g4, g15 hu, g12, g7, hN, decide_eq_false (by omega), wrap_id (by omega) (by omega), by rw [if_neg (by omega)], rfl, g8, g9, g10, fun hn => (g16 hn).2.2, .inr ⟨hu, rfl, rfl⟩⟩

/-- The first test of the law. -/
theorem co_cases (x y : Int) :
    (decide (y < 0) = true ∧ shf x y 1 = 0) ∨
    (decide (y < 0) = false ∧ decide (60 < y) = true ∧ shf x y 1 = 0) ∨
    (decide (y < 0) = false ∧ decide (60 < y) = false ∧ decide (4000000000000000000 < x) = true ∧ shf x y 1 = 0) ∨
    (decide (y < 0) = false ∧ decide (60 < y) = false ∧ decide (4000000000000000000 < x) = false ∧ decide (x < -4000000000000000000) = true ∧ shf x y 1 = 0) ∨
    (decide (y < 0) = false ∧ decide (60 < y) = false ∧ decide (4000000000000000000 < x) = false ∧ decide (x < -4000000000000000000) = false ∧ ∃ (n : Nat) (D : Int), y = n ∧ wrap64 (2 ^ n) = D ∧ n ≤ 60 ∧ 0 ≤ (n : Int) ∧ IntKind.u64.wrap (n : Int) = n ∧ -4000000000000000000 ≤ x ∧ x ≤ 4000000000000000000) := by
  by_cases h1 : y < 0
  · exact .inl ⟨decide_eq_true h1, shf_no (fun h => by unfold okS at h; omega)⟩
  by_cases h2 : 60 < y
  · exact .inr (.inl ⟨decide_eq_false h1, decide_eq_true h2, shf_no (fun h => by unfold okS at h; omega)⟩)
  by_cases h3 : 4000000000000000000 < x
  · exact .inr (.inr (.inl ⟨decide_eq_false h1, decide_eq_false h2, decide_eq_true h3, shf_no (fun h => by unfold okS at h; omega)⟩))
  by_cases h4 : x < -4000000000000000000
  · exact .inr (.inr (.inr (.inl ⟨decide_eq_false h1, decide_eq_false h2, decide_eq_false h3, decide_eq_true h4, shf_no (fun h => by unfold okS at h; omega)⟩)))
  obtain ⟨n, rfl⟩ := Int.eq_ofNat_of_zero_le (show 0 ≤ y by omega)
  exact .inr (.inr (.inr (.inr ⟨decide_eq_false h1, decide_eq_false h2, decide_eq_false h3, decide_eq_false h4, n, _, rfl, rfl, by omega, by omega, IntWalk.u64_in _ ⟨by omega, by omega⟩, by omega, by omega⟩)))

theorem co_1 {x D : Int} {n : Nat} (h : okS x n 1) (hD : wrap64 (2 ^ n) = D) : ∃ Q Z R N M : Int, shf x n 1 = Q ∧ wrap64 (Q * D) = Z ∧ wrap64 (x - Z) = R ∧ absv R = N ∧ decide (D ≤ N) = false ∧ wrap64 (D - N) = M ∧ decide (R < 0) = false := by
  obtain ⟨D', Q, Z, R, N, M, E, Q0, f1, f2, f3, f4, f5, f6, f7, f8, f9, f10, f11, f12, f14, f13⟩ := co_parts h
  obtain rfl : D' = D := f1.symm.trans hD
  refine ⟨Q, Z, R, N, M, f2, f3, f4, f5, f6, f7, decide_eq_false ?_⟩
  unfold upC at f13
  omega

theorem co_2 {x D : Int} {n : Nat} (h : okS x n 2) (hD : wrap64 (2 ^ n) = D) : ∃ Q Z R N M : Int, shf x n 2 = Q ∧ wrap64 (Q * D) = Z ∧ wrap64 (x - Z) = R ∧ absv R = N ∧ decide (D ≤ N) = false ∧ wrap64 (D - N) = M ∧
    ((decide (R < 0) = true ∧ decide (0 < R) = false ∧ decide (0 < x) = false) ∨ (decide (R < 0) = false ∧ decide (0 < R) = true ∧ decide (x < 0) = false) ∨ (decide (R < 0) = false ∧ decide (0 < R) = false)) := by
  obtain ⟨D', Q, Z, R, N, M, E, Q0, f1, f2, f3, f4, f5, f6, f7, f8, f9, f10, f11, f12, f14, f13⟩ := co_parts h
  obtain rfl : D' = D := f1.symm.trans hD
  refine ⟨Q, Z, R, N, M, f2, f3, f4, f5, f6, f7, ?_⟩
  unfold upC at f13
  by_cases r0 : R < 0
  · exact .inl ⟨decide_eq_true r0, decide_eq_false (by omega), decide_eq_false (by omega)⟩
  by_cases r1 : 0 < R
  · exact .inr (.inl ⟨decide_eq_false r0, decide_eq_true r1, decide_eq_false (by omega)⟩)
  · exact .inr (.inr ⟨decide_eq_false r0, decide_eq_false r1⟩)

theorem co_3 {x D : Int} {n : Nat} (h : okS x n 3) (hD : wrap64 (2 ^ n) = D) : ∃ Q Z R N M : Int, shf x n 3 = Q ∧ wrap64 (Q * D) = Z ∧ wrap64 (x - Z) = R ∧ absv R = N ∧ decide (D ≤ N) = false ∧ wrap64 (D - N) = M ∧ decide (M < N) = false ∧
    (((N == M) = true ∧ decide (0 < R) = false) ∨ (N == M) = false) := by
  obtain ⟨D', Q, Z, R, N, M, E, Q0, f1, f2, f3, f4, f5, f6, f7, f8, f9, f10, f11, f12, f14, f13⟩ := co_parts h
  obtain rfl : D' = D := f1.symm.trans hD
  refine ⟨Q, Z, R, N, M, f2, f3, f4, f5, f6, f7, decide_eq_false ?_, ?_⟩
  · unfold upC at f13
    split at f8 <;> omega
  · by_cases hn : N = M
    · refine .inl ⟨beq_iff_eq.2 hn, decide_eq_false ?_⟩
      unfold upC at f13
      split at f8 <;> omega
    · exact .inr (beq_eq_false_iff_ne.2 hn)

theorem co_4 {x D : Int} {n : Nat} (h : okS x n 4) (hD : wrap64 (2 ^ n) = D) : ∃ Q Z R N M : Int, shf x n 4 = Q ∧ wrap64 (Q * D) = Z ∧ wrap64 (x - Z) = R ∧ absv R = N ∧ decide (D ≤ N) = false ∧ wrap64 (D - N) = M ∧ decide (M < N) = false ∧
    (((N == M) = true ∧ (Int.tmod Q 2 == 0) = true) ∨ (N == M) = false) := by
  obtain ⟨D', Q, Z, R, N, M, E, Q0, f1, f2, f3, f4, f5, f6, f7, f8, f9, f10, f11, f12, f14, f13⟩ := co_parts h
  obtain rfl : D' = D := f1.symm.trans hD
  refine ⟨Q, Z, R, N, M, f2, f3, f4, f5, f6, f7, decide_eq_false ?_, ?_⟩
  · unfold upC at f13
    split at f8 <;> omega
  · by_cases hn : N = M
    · refine .inl ⟨beq_iff_eq.2 hn, ?_⟩
      rw [tmod2, beq_iff_eq]
      unfold upC at f13
      split at f8 <;> omega
    · exact .inr (beq_eq_false_iff_ne.2 hn)

set_option maxRecDepth 100000 in
set_option maxHeartbeats 1600000 in
theorem walk_FnCutOff (A : Option Addr) (n c : Nat) (xs : List Int) (w : World) (h : IRow .u8 w A n c xs ∧ ∀ n ∈ xs, (Lit.int .u8 n).wf = true) :
    Calls Try.prog 5 #[.slice A n c] w fun e w' => e = .returned (.bool true) ∧ Below w.heap.size w w' := by
  have HH := Lib.hid h.1
  clear h
  have HG := Lib.hid (big_any A n c)
  have e1 := co1
  have e2 := co2
  by_cases hn : (n : Int) > 1048576
  · have d : decide ((n : Int) > 1048576) = true := decide_eq_true hn
    rw [d] at HG
    clear hn
    go_enter Try.func5, Try.ntmps5
    go_wp2_with ((go_at_call 15; (with_reducible refine (HG.out _).mono ?_); rintro e w1 ⟨rfl, hbn⟩; have HB1 := Lib.hid hbn; clear hbn))
    go_ret
    exact ⟨rfl, HB1.out⟩
  · have d : decide ((n : Int) > 1048576) = false := decide_eq_false hn
    rw [d] at HG
    have HN := Lib.hid (show n ≤ 1048576 by omega)
    clear hn
    go_enter Try.func5, Try.ntmps5
    go_wp2_with (first | (go_at_call 15; (with_reducible refine (HG.out _).mono ?_); rintro e w1 ⟨rfl, hbn⟩; have HB1 := Lib.hid hbn; clear hbn) | (go_at_call 24; (with_reducible refine (sDrawShift _ _ _ _ _ (HH.out.below HB1.out) HN.out).mono ?_); rintro e w1 ⟨x, y, z, rfl, hbn⟩; replace HB1 := Lib.hid (HB1.out.trans (hbn.mono HB1.out.size)); clear hbn; rcases co_cases x y with ⟨d1, hq⟩ | ⟨d1, d2, hq⟩ | ⟨d1, d2, d3, hq⟩ | ⟨d1, d2, d3, d4, hq⟩ | ⟨d1, d2, d3, d4, n0, D, rfl, hD, hn60, hn0, hu0, hx1, hx2⟩) | (go_at_call 25; (with_reducible refine (iShift_any _ _ _ _).mono ?_); rintro e w1 ⟨rfl, hbn⟩; (first | (replace HB1 := Lib.hid (HB1.out.trans (hbn.mono HB1.out.size))) | (have HB1 := Lib.hid hbn)); clear hbn))
    all_goals try (go_ret; exact ⟨rfl, HB1.out⟩)
    simp only [hD]
    go_loopw [7, 8, 9, 10] (fun cv _ _ _ wr => ∃ k : Int, (k = 1 ∨ k = 2 ∨ k = 3 ∨ k = 4 ∨ k = 5) ∧ cv = .int .i64 k ∧ Hid (Below w.heap.size w wr)) (fun cv _ _ _ _ => (5 - intOf cv).toNat)
    case atStart => exact ⟨1, .inl rfl, rfl, HB1.out⟩
    case round =>
      rename_i wr
      clear HB1
      obtain ⟨k, hk, rfl, HB1⟩ := hrel
      rcases hk with rfl | rfl | rfl | rfl | rfl
      · obtain ⟨Q, Z, R, N, M, f2, f3, f4, f5, f6, f7, f8⟩ := co_1 (x := x) (n := n0) ⟨⟨hx1, hx2⟩, ⟨hn0, by omega⟩, by decide, by decide⟩ hD
        go_wp2_with (first | (go_at_call 25; (with_reducible refine (iShift_any _ _ _ _).mono ?_); rintro e w1 ⟨rfl, hbn⟩; (first | (replace HB1 := Lib.hid (HB1.out.trans (hbn.mono HB1.out.size))) | (have HB1 := Lib.hid hbn)); clear hbn) | (go_at_call 26; (with_reducible refine (abs_any _ _).mono ?_); rintro e w1 ⟨rfl, hbn⟩; (first | (replace HB1 := Lib.hid (HB1.out.trans (hbn.mono HB1.out.size))) | (have HB1 := Lib.hid hbn)); clear hbn))
        go_roundw
        case rel => exact ⟨2, by omega, rfl, HB1.out⟩
        case measure => simp [intOf]
      · obtain ⟨Q, Z, R, N, M, f2, f3, f4, f5, f6, f7, ⟨f8, f9, f10⟩ | ⟨f8, f9, f10⟩ | ⟨f8, f9⟩⟩ := co_2 (x := x) (n := n0) ⟨⟨hx1, hx2⟩, ⟨hn0, by omega⟩, by decide, by decide⟩ hD
        all_goals go_wp2_with (first | (go_at_call 25; (with_reducible refine (iShift_any _ _ _ _).mono ?_); rintro e w1 ⟨rfl, hbn⟩; (first | (replace HB1 := Lib.hid (HB1.out.trans (hbn.mono HB1.out.size))) | (have HB1 := Lib.hid hbn)); clear hbn) | (go_at_call 26; (with_reducible refine (abs_any _ _).mono ?_); rintro e w1 ⟨rfl, hbn⟩; (first | (replace HB1 := Lib.hid (HB1.out.trans (hbn.mono HB1.out.size))) | (have HB1 := Lib.hid hbn)); clear hbn))
        all_goals go_roundw
        all_goals first | exact ⟨3, by omega, rfl, HB1.out⟩ | (simp [intOf]; done)
      · obtain ⟨Q, Z, R, N, M, f2, f3, f4, f5, f6, f7, f8, ⟨f9, f10⟩ | f9⟩ := co_3 (x := x) (n := n0) ⟨⟨hx1, hx2⟩, ⟨hn0, by omega⟩, by decide, by decide⟩ hD
        all_goals go_wp2_with (first | (go_at_call 25; (with_reducible refine (iShift_any _ _ _ _).mono ?_); rintro e w1 ⟨rfl, hbn⟩; (first | (replace HB1 := Lib.hid (HB1.out.trans (hbn.mono HB1.out.size))) | (have HB1 := Lib.hid hbn)); clear hbn) | (go_at_call 26; (with_reducible refine (abs_any _ _).mono ?_); rintro e w1 ⟨rfl, hbn⟩; (first | (replace HB1 := Lib.hid (HB1.out.trans (hbn.mono HB1.out.size))) | (have HB1 := Lib.hid hbn)); clear hbn))
        all_goals go_roundw
        all_goals first | exact ⟨4, by omega, rfl, HB1.out⟩ | (simp [intOf]; done)
      · obtain ⟨Q, Z, R, N, M, f2, f3, f4, f5, f6, f7, f8, ⟨f9, f10⟩ | f9⟩ := co_4 (x := x) (n := n0) ⟨⟨hx1, hx2⟩, ⟨hn0, by omega⟩, by decide, by decide⟩ hD
        all_goals go_wp2_with (first | (go_at_call 25; (with_reducible refine (iShift_any _ _ _ _).mono ?_); rintro e w1 ⟨rfl, hbn⟩; (first | (replace HB1 := Lib.hid (HB1.out.trans (hbn.mono HB1.out.size))) | (have HB1 := Lib.hid hbn)); clear hbn) | (go_at_call 26; (with_reducible refine (abs_any _ _).mono ?_); rintro e w1 ⟨rfl, hbn⟩; (first | (replace HB1 := Lib.hid (HB1.out.trans (hbn.mono HB1.out.size))) | (have HB1 := Lib.hid hbn)); clear hbn))
        all_goals go_roundw
        all_goals first | exact ⟨5, by omega, rfl, HB1.out⟩ | (simp [intOf]; done)
      · go_wp2_with (first | (go_at_call 25; (with_reducible refine (iShift_any _ _ _ _).mono ?_); rintro e w1 ⟨rfl, hbn⟩; (first | (replace HB1 := Lib.hid (HB1.out.trans (hbn.mono HB1.out.size))) | (have HB1 := Lib.hid hbn)); clear hbn) | (go_at_call 26; (with_reducible refine (abs_any _ _).mono ?_); rintro e w1 ⟨rfl, hbn⟩; (first | (replace HB1 := Lib.hid (HB1.out.trans (hbn.mono HB1.out.size))) | (have HB1 := Lib.hid hbn)); clear hbn))
        go_ret
        exact ⟨rfl, HB1.out⟩
end Go.Proofs.Ythoajaibaedjeaa
