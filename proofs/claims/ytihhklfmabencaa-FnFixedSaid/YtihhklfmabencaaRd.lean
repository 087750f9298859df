/-
  Contracts of RoundDiv, of the program and of the reference.
-/
import Derived.Test.YtihhklfmabencaaDw
import Derived.Test.YtihhklfmabencaaPl
namespace Go.Proofs.Ytihhklfmabencaa
set_option linter.unusedSimpArgs false
set_option linter.unusedVariables false
open Go.RowKit Go.Dr

theorem ret_i64 {a b : Int} (h : a = b) : Ending.returned (.int .i64 a) = .returned (.int .i64 b) := by rw [h]

theorem ret_ii {a b c d : Int} (h : a = b) (k : c = d) : Ending.returned (.tuple #[.int .i64 a, .int .i64 c]) = .returned (.tuple #[.int .i64 b, .int .i64 d]) := by rw [h, k]

/-- Within reach of RoundDiv. -/
def okR (a b : Int) : Prop := 1 ≤ b ∧ b ≤ 4000000000000000000 ∧ -4000000000000000000 ≤ a ∧ a ≤ 4000000000000000000
theorem rdv_no {a b : Int} (h : ¬ okR a b) : Pl.rdv a b = 0 := by unfold okR at h; unfold Pl.rdv; rw [if_neg h]

/-- What stands in the middle of RoundDiv: the quotient and the rest as they are told, then down, then rounded. -/
theorem rdv_parts {a b : Int} (h : okR a b) : ∃ Q R D E : Int, wrap64 (Int.tdiv a b) = Q ∧ Int.tmod a b = R ∧ (R < 0 → wrap64 (Q - 1) = D ∧ R + b = E) ∧ (¬ R < 0 → Q = D ∧ R = E) ∧
    0 ≤ E ∧ E < b ∧ wrap64 (D * b) = a - E ∧ wrap64 (D + 1) = D + 1 ∧ (b - E ≤ E → Pl.rdv a b = D + 1) ∧ (¬ b - E ≤ E → Pl.rdv a b = D) := by
  have h' := h
  obtain ⟨h1, h2, h3, h4⟩ := h
  refine ⟨_, _, a / b, a % b, rfl, rfl, ?_⟩
  have hd := Pl.div_le_abs (a := a) (b := b) (M := 4000000000000000000) (by omega) h3 h4 (by omega)
  have hm := Int.mul_ediv_add_emod a b
  have hm2 := Int.emod_lt_of_pos a (show 0 < b by omega)
  have hm3 := Int.emod_nonneg a (show b ≠ 0 by omega)
  rw [Int.mul_comm] at hm
  refine ⟨fun h => ?_, fun h => ?_, hm3, hm2, ?_, Pl.wrap_id (by omega) (by omega), fun h => ?_, fun h => ?_⟩
  · have := Pl.t_neg (show 0 < b by omega) h
    rw [Pl.wrap_id (n := Int.tdiv a b) (by omega) (by omega), this.1, Pl.wrap_id (by omega) (by omega)]
    exact ⟨rfl, this.2⟩
  · have := Pl.t_pos (a := a) (show 0 < b by omega) (by omega)
    rw [Pl.wrap_id (n := Int.tdiv a b) (by omega) (by omega)]
    exact this
  · generalize a / b * b = z at *
    rw [Pl.wrap_id (by omega) (by omega)]; omega
  · unfold okR at h'; unfold Pl.rdv; rw [if_pos h', if_pos (by omega)]
  · unfold okR at h'; unfold Pl.rdv; rw [if_pos h', if_neg (by omega)]

theorem iDown_any {a b Q R D E : Int} (hb : b ≠ 0) (hQ : wrap64 (Int.tdiv a b) = Q) (hR : Int.tmod a b = R) (hn : R < 0 → wrap64 (Q - 1) = D ∧ wrap64 (R + b) = E) (hp : ¬ R < 0 → Q = D ∧ R = E) (w : World) :
    Calls Try.prog 31 #[.int .i64 a, .int .i64 b] w fun e w' => e = .returned (.tuple #[.int .i64 D, .int .i64 E]) ∧ Below w.heap.size w w' := by
  have hb1 : (b == 0) = false := by simp; omega
  by_cases hr : R < 0
  · obtain ⟨e1, e2⟩ := hn hr
    have dr : decide (R < 0) = true := decide_eq_true hr
    clear hr hn hp
    go_enter Try.func31, Try.ntmps31
    go_wp2
    repeat (go_quiet (fail); try go_wp2)
    go_ret2
    exact ⟨ret_ii e1 e2, below_drewN (Below.refl _ _) _⟩
  · obtain ⟨rfl, rfl⟩ := hp hr
    have dr : decide (R < 0) = false := decide_eq_false hr
    clear hr hn hp
    go_enter Try.func31, Try.ntmps31
    go_wp2
    repeat (go_quiet (fail); try go_wp2)
    go_ret2
    exact ⟨ret_ii hQ rfl, below_drewN (Below.refl _ _) _⟩

theorem iRoundDiv_any (a b : Int) (w : World) : Calls Try.prog 9 #[.int .i64 a, .int .i64 b] w fun e w' => e = .returned (.int .i64 (Pl.rdv a b)) ∧ Below w.heap.size w w' := by
  by_cases c0 : ¬ (1 ≤ b)
  · have HZ := Lib.hid (rdv_no (fun h : okR a b => c0 h.1))
    have t0 : decide (1 ≤ b) = false := decide_eq_false c0
    have u0 : decide (b < 1) = true := decide_eq_true (by omega)
    clear c0
    go_enter Try.func9, Try.ntmps9
    go_wp2_with go_in
    go_ret
    exact ⟨ret_i64 HZ.out.symm, Below.refl _ _⟩
  replace c0 := Classical.not_not.1 c0
  by_cases c1 : ¬ (b ≤ 4000000000000000000)
  · have HZ := Lib.hid (rdv_no (fun h : okR a b => c1 h.2.1))
    have t0 : decide (1 ≤ b) = true := decide_eq_true c0
    have u0 : decide (b < 1) = false := decide_eq_false (by omega)
    have t1 : decide (b ≤ 4000000000000000000) = false := decide_eq_false c1
    have u1 : decide (4000000000000000000 < b) = true := decide_eq_true (by omega)
    clear c0 c1
    go_enter Try.func9, Try.ntmps9
    go_wp2_with go_in
    go_ret
    exact ⟨ret_i64 HZ.out.symm, Below.refl _ _⟩
  replace c1 := Classical.not_not.1 c1
  by_cases c2 : ¬ (-4000000000000000000 ≤ a)
  · have HZ := Lib.hid (rdv_no (fun h : okR a b => c2 h.2.2.1))
    have t0 : decide (1 ≤ b) = true := decide_eq_true c0
    have u0 : decide (b < 1) = false := decide_eq_false (by omega)
    have t1 : decide (b ≤ 4000000000000000000) = true := decide_eq_true c1
    have u1 : decide (4000000000000000000 < b) = false := decide_eq_false (by omega)
    have t2 : decide (-4000000000000000000 ≤ a) = false := decide_eq_false c2
    clear c0 c1 c2
    go_enter Try.func9, Try.ntmps9
    go_wp2_with go_in
    go_ret
    exact ⟨ret_i64 HZ.out.symm, Below.refl _ _⟩
  replace c2 := Classical.not_not.1 c2
  by_cases c3 : ¬ (a ≤ 4000000000000000000)
  · have HZ := Lib.hid (rdv_no (fun h : okR a b => c3 h.2.2.2))
    have t0 : decide (1 ≤ b) = true := decide_eq_true c0
    have u0 : decide (b < 1) = false := decide_eq_false (by omega)
    have t1 : decide (b ≤ 4000000000000000000) = true := decide_eq_true c1
    have u1 : decide (4000000000000000000 < b) = false := decide_eq_false (by omega)
    have t2 : decide (-4000000000000000000 ≤ a) = true := decide_eq_true c2
    have t3 : decide (a ≤ 4000000000000000000) = false := decide_eq_false c3
    clear c0 c1 c2 c3
    go_enter Try.func9, Try.ntmps9
    go_wp2_with go_in
    go_ret
    exact ⟨ret_i64 HZ.out.symm, Below.refl _ _⟩
  replace c3 := Classical.not_not.1 c3
  obtain ⟨Q, R, D, E, hQ, hR, hn, hp, hE0, hEb, hm, h1, hu, hd⟩ := rdv_parts (a := a) (b := b) ⟨c0, c1, c2, c3⟩
  have t0 : decide (1 ≤ b) = true := decide_eq_true c0
  have u0 : decide (b < 1) = false := decide_eq_false (by omega)
  have t1 : decide (b ≤ 4000000000000000000) = true := decide_eq_true c1
  have u1 : decide (4000000000000000000 < b) = false := decide_eq_false (by omega)
  have t2 : decide (-4000000000000000000 ≤ a) = true := decide_eq_true c2
  have t3 : decide (a ≤ 4000000000000000000) = true := decide_eq_true c3
  have hb : (b == 0) = false := by simp; omega
  have hb2 : b ≠ 0 := by omega
  have hw : wrap64 (b - E) = b - E := Pl.wrap_id (by omega) (by omega)
  have hw2 : wrap64 (a - (a - E)) = E := by rw [Pl.wrap_id (by omega) (by omega)]; omega
  have HU := Lib.hid hu
  have HV := Lib.hid hd
  clear hu hd
  by_cases hr : R < 0
  · obtain ⟨e1, e2⟩ := hn hr
    have e3 : wrap64 (R + b) = E := by rw [e2]; exact Pl.wrap_id (by omega) (by omega)
    have dr : decide (R < 0) = true := decide_eq_true hr
    by_cases hc : b - E ≤ E
    · have HZ := Lib.hid (HU.out hc)
      have dc : decide (b - E ≤ E) = true := decide_eq_true hc
      have HD := Lib.hid (iDown_any (a := a) (b := b) hb2 hQ hR (fun _ => ⟨e1, e3⟩) (fun h => absurd hr h))
      clear hn hp c0 c1 c2 c3 hr hc hE0 hEb
      go_enter Try.func9, Try.ntmps9
      go_wp2_with (first | (go_at_call 31; (with_reducible refine (HD.out _).mono ?_); rintro e w1 ⟨rfl, hbn⟩; have HB1 := Lib.hid hbn; clear hbn) | go_in)
      go_ret
      exact ⟨by first | exact ret_i64 HZ.out.symm | exact ret_i64 (h1.trans HZ.out.symm), HB1.out⟩
    · have HZ := Lib.hid (HV.out hc)
      have dc : decide (b - E ≤ E) = false := decide_eq_false hc
      have HD := Lib.hid (iDown_any (a := a) (b := b) hb2 hQ hR (fun _ => ⟨e1, e3⟩) (fun h => absurd hr h))
      clear hn hp c0 c1 c2 c3 hr hc hE0 hEb
      go_enter Try.func9, Try.ntmps9
      go_wp2_with (first | (go_at_call 31; (with_reducible refine (HD.out _).mono ?_); rintro e w1 ⟨rfl, hbn⟩; have HB1 := Lib.hid hbn; clear hbn) | go_in)
      go_ret
      exact ⟨by first | exact ret_i64 HZ.out.symm | exact ret_i64 (h1.trans HZ.out.symm), HB1.out⟩
  · obtain ⟨rfl, rfl⟩ := hp hr
    have dr : decide (R < 0) = false := decide_eq_false hr
    by_cases hc : b - R ≤ R
    · have HZ := Lib.hid (HU.out hc)
      have dc : decide (b - R ≤ R) = true := decide_eq_true hc
      have HD := Lib.hid (iDown_any (a := a) (b := b) hb2 hQ hR (fun h => absurd h hr) (fun _ => ⟨rfl, rfl⟩))
      clear hn hp c0 c1 c2 c3 hr hc hE0 hEb
      go_enter Try.func9, Try.ntmps9
      go_wp2_with (first | (go_at_call 31; (with_reducible refine (HD.out _).mono ?_); rintro e w1 ⟨rfl, hbn⟩; have HB1 := Lib.hid hbn; clear hbn) | go_in)
      go_ret
      exact ⟨by first | exact ret_i64 HZ.out.symm | exact ret_i64 (h1.trans HZ.out.symm), HB1.out⟩
    · have HZ := Lib.hid (HV.out hc)
      have dc : decide (b - R ≤ R) = false := decide_eq_false hc
      have HD := Lib.hid (iDown_any (a := a) (b := b) hb2 hQ hR (fun h => absurd h hr) (fun _ => ⟨rfl, rfl⟩))
      clear hn hp c0 c1 c2 c3 hr hc hE0 hEb
      go_enter Try.func9, Try.ntmps9
      go_wp2_with (first | (go_at_call 31; (with_reducible refine (HD.out _).mono ?_); rintro e w1 ⟨rfl, hbn⟩; have HB1 := Lib.hid hbn; clear hbn) | go_in)
      go_ret
      exact ⟨by first | exact ret_i64 HZ.out.symm | exact ret_i64 (h1.trans HZ.out.symm), HB1.out⟩

theorem sRoundDiv_any (a b : Int) (w : World) : Calls Try.prog 10 #[.int .i64 a, .int .i64 b] w fun e w' => e = .returned (.int .i64 (Pl.rdv a b)) ∧ Below w.heap.size w w' := by
  by_cases c0 : ¬ (1 ≤ b)
  · have HZ := Lib.hid (rdv_no (fun h : okR a b => c0 h.1))
    have t0 : decide (1 ≤ b) = false := decide_eq_false c0
    clear c0
    go_enter Try.func10, Try.ntmps10
    go_wp2_with go_in
    go_ret
    exact ⟨ret_i64 HZ.out.symm, Below.refl _ _⟩
  replace c0 := Classical.not_not.1 c0
  by_cases c1 : ¬ (b ≤ 4000000000000000000)
  · have HZ := Lib.hid (rdv_no (fun h : okR a b => c1 h.2.1))
    have t0 : decide (1 ≤ b) = true := decide_eq_true c0
    have t1 : decide (b ≤ 4000000000000000000) = false := decide_eq_false c1
    clear c0 c1
    go_enter Try.func10, Try.ntmps10
    go_wp2_with go_in
    go_ret
    exact ⟨ret_i64 HZ.out.symm, Below.refl _ _⟩
  replace c1 := Classical.not_not.1 c1
  by_cases c2 : ¬ (-4000000000000000000 ≤ a)
  · have HZ := Lib.hid (rdv_no (fun h : okR a b => c2 h.2.2.1))
    have t0 : decide (1 ≤ b) = true := decide_eq_true c0
    have t1 : decide (b ≤ 4000000000000000000) = true := decide_eq_true c1
    have t2 : decide (-4000000000000000000 ≤ a) = false := decide_eq_false c2
    clear c0 c1 c2
    go_enter Try.func10, Try.ntmps10
    go_wp2_with go_in
    go_ret
    exact ⟨ret_i64 HZ.out.symm, Below.refl _ _⟩
  replace c2 := Classical.not_not.1 c2
  by_cases c3 : ¬ (a ≤ 4000000000000000000)
  · have HZ := Lib.hid (rdv_no (fun h : okR a b => c3 h.2.2.2))
    have t0 : decide (1 ≤ b) = true := decide_eq_true c0
    have t1 : decide (b ≤ 4000000000000000000) = true := decide_eq_true c1
    have t2 : decide (-4000000000000000000 ≤ a) = true := decide_eq_true c2
    have t3 : decide (a ≤ 4000000000000000000) = false := decide_eq_false c3
    clear c0 c1 c2 c3
    go_enter Try.func10, Try.ntmps10
    go_wp2_with go_in
    go_ret
    exact ⟨ret_i64 HZ.out.symm, Below.refl _ _⟩
  replace c3 := Classical.not_not.1 c3
  obtain ⟨Q, R, D, E, hQ, hR, hn, hp, hE0, hEb, hm, h1, hu, hd⟩ := rdv_parts (a := a) (b := b) ⟨c0, c1, c2, c3⟩
  have t0 : decide (1 ≤ b) = true := decide_eq_true c0
  have t1 : decide (b ≤ 4000000000000000000) = true := decide_eq_true c1
  have t2 : decide (-4000000000000000000 ≤ a) = true := decide_eq_true c2
  have t3 : decide (a ≤ 4000000000000000000) = true := decide_eq_true c3
  have hb : (b == 0) = false := by simp; omega
  have hb2 : b ≠ 0 := by omega
  have hw : wrap64 (b - E) = b - E := Pl.wrap_id (by omega) (by omega)
  have hw2 : wrap64 (a - (a - E)) = E := by rw [Pl.wrap_id (by omega) (by omega)]; omega
  have HU := Lib.hid hu
  have HV := Lib.hid hd
  clear hu hd
  by_cases hr : R < 0
  · obtain ⟨e1, e2⟩ := hn hr
    have e3 : wrap64 (R + b) = E := by rw [e2]; exact Pl.wrap_id (by omega) (by omega)
    have dr : decide (R < 0) = true := decide_eq_true hr
    by_cases hc : b - E ≤ E
    · have HZ := Lib.hid (HU.out hc)
      have dc : decide (b - E ≤ E) = true := decide_eq_true hc
      clear hn hp c0 c1 c2 c3 hr hc hE0 hEb
      go_enter Try.func10, Try.ntmps10
      go_wp2_with go_in
      go_ret
      exact ⟨ret_i64 HZ.out.symm, Below.refl _ _⟩
    · have HZ := Lib.hid (HV.out hc)
      have dc : decide (b - E ≤ E) = false := decide_eq_false hc
      clear hn hp c0 c1 c2 c3 hr hc hE0 hEb
      go_enter Try.func10, Try.ntmps10
      go_wp2_with go_in
      go_ret
      exact ⟨ret_i64 HZ.out.symm, Below.refl _ _⟩
  · obtain ⟨rfl, rfl⟩ := hp hr
    have dr : decide (R < 0) = false := decide_eq_false hr
    by_cases hc : b - R ≤ R
    · have HZ := Lib.hid (HU.out hc)
      have dc : decide (b - R ≤ R) = true := decide_eq_true hc
      clear hn hp c0 c1 c2 c3 hr hc hE0 hEb
      go_enter Try.func10, Try.ntmps10
      go_wp2_with go_in
      go_ret
      exact ⟨ret_i64 HZ.out.symm, Below.refl _ _⟩
    · have HZ := Lib.hid (HV.out hc)
      have dc : decide (b - R ≤ R) = false := decide_eq_false hc
      clear hn hp c0 c1 c2 c3 hr hc hE0 hEb
      go_enter Try.func10, Try.ntmps10
      go_wp2_with go_in
      go_ret
      exact ⟨ret_i64 HZ.out.symm, Below.refl _ _⟩
end Go.Proofs.Ytihhklfmabencaa
