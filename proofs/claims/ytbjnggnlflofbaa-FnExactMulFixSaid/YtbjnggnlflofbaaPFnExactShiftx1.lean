-- PRINTED BY print.sh 35421559b90ae4d0a3588c463048766b98c2df88dd9212a6774a882060cdf62d: not written by this session
import Derived.Test.YtbjnggnlflofbaaPFnExactShiftx0
namespace Go.Proofs.Ytbjnggnlflofbaa.PFnExactShift
open Go.RowKit Go.Proofs.YtbjnggnlflofbaaW.PrintWords Go.Proofs.YtbjnggnlflofbaaW.PrintLast Go.Proofs.YtbjnggnlflofbaaW.PrintMore
attribute [local go_sem] max2_int min2_int max_two min_two max_three min_three max_four min_four   -- for this text's walks alone
set_option linter.unusedVariables false
set_option linter.unusedSimpArgs false

/-! ### spec_l1In: function 45 -/
def spec_l1In.f (a0 : Int) (a1 : Int) (a2 : Int) : Option (Bool) := if a0 ≥ a1 then (some (decide (a0 ≤ a2))) else (some false)
set_option maxHeartbeats 8000000 in
set_option maxRecDepth 100000 in
theorem spec_l1In.calls (a0 : Int) (a1 : Int) (a2 : Int) (r : Bool) (w : World) (h : spec_l1In.f a0 a1 a2 = some r) :
    Calls Try.prog 45 #[.int .i64 a0, .int .i64 a1, .int .i64 a2] w fun e w' => e = .returned (.bool r) ∧ Drawn0 w w' := by
  have H : (if a0 ≥ a1 then (some (decide (a0 ≤ a2))) else (some false)) = some r := h
  clear h
  by_cases c4 : a0 ≥ a1
  · rw [if_pos c4] at H
    have c4b0 : decide (a1 ≤ a0) = true := decide_eq_true c4
    clear c4
    obtain rfl := Option.some.inj H
    go_enter Try.func45, Try.ntmps45
    go_wp2
    go_ret
    exact ⟨by first | rfl | (simp; done) | (simp [*]; done), by repeat (first | exact Drawn0.refl _ | apply Drawn0.step)⟩
  · rw [if_neg c4] at H
    have c4b0 : decide (a1 ≤ a0) = false := decide_eq_false c4
    clear c4
    obtain rfl := Option.some.inj H
    go_enter Try.func45, Try.ntmps45
    go_wp2
    go_ret
    exact ⟨by first | rfl | (simp; done) | (simp [*]; done), by repeat (first | exact Drawn0.refl _ | apply Drawn0.step)⟩

/-! ### spec_l5Floor: function 53 -/
def spec_l5Floor.f (a0 : Int) (a1 : Int) : Option (Int) := if a1 = 0 then (none) else (if (Int.tmod a0 a1) < 0 then (some (wrap64 ((wrap64 (Int.tdiv a0 a1)) - 1))) else (some (wrap64 (Int.tdiv a0 a1))))
set_option maxHeartbeats 8000000 in
set_option maxRecDepth 100000 in
theorem spec_l5Floor.calls (a0 : Int) (a1 : Int) (r : Int) (w : World) (h : spec_l5Floor.f a0 a1 = some r) :
    Calls Try.prog 53 #[.int .i64 a0, .int .i64 a1] w fun e w' => e = .returned (.int .i64 r) ∧ Drawn0 w w' := by
  have H : (if a1 = 0 then (none) else (if (Int.tmod a0 a1) < 0 then (some (wrap64 ((wrap64 (Int.tdiv a0 a1)) - 1))) else (some (wrap64 (Int.tdiv a0 a1))))) = some r := h
  clear h
  by_cases c3 : a1 = 0
  · rw [if_pos c3] at H
    exact absurd H (by simp)
  · rw [if_neg c3] at H
    have c3b0 : (a1 == 0) = false := beq_eq_false_iff_ne.mpr c3
    have c3b1 : (a1 != 0) = true := bne_iff_ne.mpr c3
    by_cases c4 : (Int.tmod a0 a1) < 0
    · rw [if_pos c4] at H
      have c4b0 : decide ((Int.tmod a0 a1) < 0) = true := decide_eq_true c4
      clear c4
      obtain rfl := Option.some.inj H
      go_enter Try.func53, Try.ntmps53
      go_wp2
      go_ret
      exact ⟨by first | rfl | (simp; done) | (simp [*]; done), by repeat (first | exact Drawn0.refl _ | apply Drawn0.step)⟩
    · rw [if_neg c4] at H
      have c4b0 : decide ((Int.tmod a0 a1) < 0) = false := decide_eq_false c4
      clear c4
      obtain rfl := Option.some.inj H
      go_enter Try.func53, Try.ntmps53
      go_wp2
      go_ret
      exact ⟨by first | rfl | (simp; done) | (simp [*]; done), by repeat (first | exact Drawn0.refl _ | apply Drawn0.step)⟩

/-! ### spec_l5Cut: function 56 -/
def spec_l5Cut.f (a0 : Int) : Option (Bool) := (spec_l1In.f a0 1 4).bind fun t101 => (some t101)
set_option maxHeartbeats 8000000 in
set_option maxRecDepth 100000 in
theorem spec_l5Cut.calls (a0 : Int) (r : Bool) (w : World) (h : spec_l5Cut.f a0 = some r) :
    Calls Try.prog 56 #[.int .i64 a0] w fun e w' => e = .returned (.bool r) ∧ Drawn0 w w' := by
  have H : ((spec_l1In.f a0 1 4).bind fun t101 => (some t101)) = some r := h
  clear h
  replace H := Option.bind_eq_some_iff.mp H
  obtain ⟨t101, A20, H⟩ := H
  replace H : (some t101) = some r := H
  have A2 := Aside0.mk A20
  clear A20
  obtain rfl := Option.some.inj H
  go_enter Try.func56, Try.ntmps56
  go_wp2_with (first | ((with_reducible refine gate_callee (f := 45) rfl ?_); refine goesL_ (some 4) rfl rfl Try.func45 (by kernel_rfl) rfl #[.int .i64 a0, .int .i64 1, .int .i64 4] rfl (by (try simp only [List.map_toArray, List.map_cons, List.map_nil]); first | done | rfl | (simp only [List.length_drop, List.length_take]; rfl)) ?_; (with_reducible refine (spec_l1In.calls a0 1 4 t101 _ A2.out).mono ?_); rintro e w' ⟨rfl, ⟨nd, rfl⟩⟩; refine ⟨_, rfl, ?_⟩))
  go_ret
  exact ⟨by first | rfl | (simp; done) | (simp [*]; done), by repeat (first | exact Drawn0.refl _ | apply Drawn0.step)⟩

/-! ### spec_Shift: function 27 -/
def spec_Shift.j0 : Nat → Int → Int → Int → Bool → Option (Int)
  | 0, _, _, _, _ => none
  | k + 1, x0, x1, x2, x22 => if x22 = true then (some 0) else (if 0 ≤ (IntKind.u64.wrap (x1)) then ((spec_l5Floor.f x0 (shl .i64 1 (IntKind.u64.wrap (x1)))).bind fun t105 => (if x2 = 2 then (if t105 < 0 then (if (wrap64 (x0 - (wrap64 (t105 * (shl .i64 1 (IntKind.u64.wrap (x1))))))) > 0 then (some (wrap64 (t105 + 1))) else (some t105)) else (some t105)) else (if x2 = 3 then (if x1 > 0 then (if (wrap64 (x0 - (wrap64 (t105 * (shl .i64 1 (IntKind.u64.wrap (x1))))))) ≥ (wrap64 ((shl .i64 1 (IntKind.u64.wrap (x1))) - (wrap64 (x0 - (wrap64 (t105 * (shl .i64 1 (IntKind.u64.wrap (x1))))))))) then (some (wrap64 (t105 + 1))) else (some t105)) else (some t105)) else (if x2 = 4 then (if x1 > 0 then (if (wrap64 (x0 - (wrap64 (t105 * (shl .i64 1 (IntKind.u64.wrap (x1))))))) > (wrap64 ((shl .i64 1 (IntKind.u64.wrap (x1))) - (wrap64 (x0 - (wrap64 (t105 * (shl .i64 1 (IntKind.u64.wrap (x1))))))))) then (some (wrap64 (t105 + 1))) else (if (wrap64 (x0 - (wrap64 (t105 * (shl .i64 1 (IntKind.u64.wrap (x1))))))) = (wrap64 ((shl .i64 1 (IntKind.u64.wrap (x1))) - (wrap64 (x0 - (wrap64 (t105 * (shl .i64 1 (IntKind.u64.wrap (x1))))))))) then (if (Int.tmod t105 2) = 0 then (some t105) else (some (wrap64 (t105 + 1)))) else (some t105))) else (some t105)) else (some t105))))) else (none))
def spec_Shift.f (k : Nat) (a0 : Int) (a1 : Int) (a2 : Int) : Option (Int) := (spec_l1In.f a0 (-4000000000000000000) 4000000000000000000).bind fun t102 => (if t102 = true then ((spec_l1In.f a1 0 60).bind fun t103 => (if t103 = true then ((spec_l5Cut.f a2).bind fun t104 => (spec_Shift.j0 k a0 a1 a2 (!t104))) else (spec_Shift.j0 k a0 a1 a2 true))) else (spec_Shift.j0 k a0 a1 a2 true))
theorem spec_Shift.mono_l : ∀ k, (∀ y0 y1 y2 y3, LeO (spec_Shift.j0 k y0 y1 y2 y3) (spec_Shift.j0 (k + 1) y0 y1 y2 y3))
  | 0 => fun _ _ _ _ r h => by simp [spec_Shift.j0] at h
  | k + 1 => by
    have ih0 := spec_Shift.mono_l k
    · intro y0 y1 y2 y3
      unfold spec_Shift.j0
      repeat' first
      | (with_reducible exact ih0 _ _ _ _)
      | (with_reducible exact LeO.refl _)
      | (with_reducible exact LeO.none _)
      | (with_reducible refine LeO.ite ?_ ?_)
      | (with_reducible refine LeO.bind ?_ (fun _ => ?_))
      | exact ih0 _ _ _ _
      | exact LeO.none _
      | refine LeO.ite ?_ ?_
      | refine LeO.bind ?_ (fun _ => ?_)
theorem spec_Shift.mono : ∀ a0 a1 a2 k, LeO (spec_Shift.f k a0 a1 a2) (spec_Shift.f (k + 1) a0 a1 a2) := by
  intro a0 a1 a2 k
  have ih0 := spec_Shift.mono_l k
  unfold spec_Shift.f
  repeat' first
      | (with_reducible exact ih0 _ _ _ _)
      | (with_reducible exact LeO.refl _)
      | (with_reducible exact LeO.none _)
      | (with_reducible refine LeO.ite ?_ ?_)
      | (with_reducible refine LeO.bind ?_ (fun _ => ?_))
      | exact ih0 _ _ _ _
      | exact LeO.none _
      | refine LeO.ite ?_ ?_
      | refine LeO.bind ?_ (fun _ => ?_)
set_option maxHeartbeats 8000000 in
set_option maxRecDepth 100000 in
theorem spec_Shift.calls (k : Nat) (a0 : Int) (a1 : Int) (a2 : Int) (r : Int) (w : World) (h : spec_Shift.f k a0 a1 a2 = some r) :
    Calls Try.prog 27 #[.int .i64 a0, .int .i64 a1, .int .i64 a2] w fun e w' => e = .returned (.int .i64 r) ∧ Drawn0 w w' := by
  have H : ((spec_l1In.f a0 (-4000000000000000000) 4000000000000000000).bind fun t102 => (if t102 = true then ((spec_l1In.f a1 0 60).bind fun t103 => (if t103 = true then ((spec_l5Cut.f a2).bind fun t104 => (spec_Shift.j0 k a0 a1 a2 (!t104))) else (spec_Shift.j0 k a0 a1 a2 true))) else (spec_Shift.j0 k a0 a1 a2 true))) = some r := h
  clear h
  have HC4 := Aside0.mk H
  clear H
  go_enter Try.func27, Try.ntmps27
  go_upto_region 1 with (fail)
  go_cut [22] (fun v22 wc => ∃ (kq : Nat) (x22_3 : Bool), v22 = .bool x22_3 ∧ Aside0 (spec_Shift.j0 kq a0 a1 a2 x22_3 = some r) ∧ Aside0 (kq ≤ k) ∧ Drawn0 w wc)
  case first =>
    have H := HC4.out
    clear HC4
    replace H := Option.bind_eq_some_iff.mp H
    obtain ⟨t102, A50, H⟩ := H
    replace H : (if t102 = true then ((spec_l1In.f a1 0 60).bind fun t103 => (if t103 = true then ((spec_l5Cut.f a2).bind fun t104 => (spec_Shift.j0 k a0 a1 a2 (!t104))) else (spec_Shift.j0 k a0 a1 a2 true))) else (spec_Shift.j0 k a0 a1 a2 true)) = some r := H
    have A5 := Aside0.mk A50
    clear A50
    by_cases c6 : t102 = true
    · subst c6
      have H1 : ((spec_l1In.f a1 0 60).bind fun t103 => (if t103 = true then ((spec_l5Cut.f a2).bind fun t104 => (spec_Shift.j0 k a0 a1 a2 (!t104))) else (spec_Shift.j0 k a0 a1 a2 true))) = some r := by rw [if_pos rfl] at H; exact H
      clear H
      have H := H1
      clear H1
      replace H := Option.bind_eq_some_iff.mp H
      obtain ⟨t103, A70, H⟩ := H
      replace H : (if t103 = true then ((spec_l5Cut.f a2).bind fun t104 => (spec_Shift.j0 k a0 a1 a2 (!t104))) else (spec_Shift.j0 k a0 a1 a2 true)) = some r := H
      have A7 := Aside0.mk A70
      clear A70
      by_cases c8 : t103 = true
      · subst c8
        have H1 : ((spec_l5Cut.f a2).bind fun t104 => (spec_Shift.j0 k a0 a1 a2 (!t104))) = some r := by rw [if_pos rfl] at H; exact H
        clear H
        have H := H1
        clear H1
        replace H := Option.bind_eq_some_iff.mp H
        obtain ⟨t104, A90, H⟩ := H
        replace H : (spec_Shift.j0 k a0 a1 a2 (!t104)) = some r := H
        have A9 := Aside0.mk A90
        clear A90
        have H' := Aside0.mk H
        clear H
        go_wp2_with (first | ((with_reducible refine gate_callee (f := 45) rfl ?_); refine goesL_ (some 11) rfl rfl Try.func45 (by kernel_rfl) rfl #[.int .i64 a0, .int .i64 (-4000000000000000000), .int .i64 4000000000000000000] rfl (by (try simp only [List.map_toArray, List.map_cons, List.map_nil]); first | done | rfl | (simp only [List.length_drop, List.length_take]; rfl)) ?_; (with_reducible refine (spec_l1In.calls a0 (-4000000000000000000) 4000000000000000000 true _ A5.out).mono ?_); rintro e w' ⟨rfl, ⟨nd, rfl⟩⟩; refine ⟨_, rfl, ?_⟩) | (go_at_call 45; (with_reducible refine (spec_l1In.calls a1 0 60 true _ A7.out).mono ?_); rintro e w' ⟨rfl, ⟨nd, rfl⟩⟩) | (go_at_call 56; (with_reducible refine (spec_l5Cut.calls a2 t104 _ A9.out).mono ?_); rintro e w' ⟨rfl, ⟨nd, rfl⟩⟩))
        go_meet
        case rel => exact ⟨_, (!t104), (by first | rfl | (simp; done) | (simp [*]; done)), H', ⟨by first | omega | exact Nat.le_refl _⟩, by repeat (first | exact Drawn0.refl _ | apply Drawn0.step)⟩
      · replace c8 := Bool.eq_false_iff.mpr c8
        subst c8
        have H1 : (spec_Shift.j0 k a0 a1 a2 true) = some r := by rw [if_neg (show ¬ (false = true) by decide)] at H; exact H
        clear H
        have H := H1
        clear H1
        have H' := Aside0.mk H
        clear H
        go_wp2_with (first | ((with_reducible refine gate_callee (f := 45) rfl ?_); refine goesL_ (some 11) rfl rfl Try.func45 (by kernel_rfl) rfl #[.int .i64 a0, .int .i64 (-4000000000000000000), .int .i64 4000000000000000000] rfl (by (try simp only [List.map_toArray, List.map_cons, List.map_nil]); first | done | rfl | (simp only [List.length_drop, List.length_take]; rfl)) ?_; (with_reducible refine (spec_l1In.calls a0 (-4000000000000000000) 4000000000000000000 true _ A5.out).mono ?_); rintro e w' ⟨rfl, ⟨nd, rfl⟩⟩; refine ⟨_, rfl, ?_⟩) | (go_at_call 45; (with_reducible refine (spec_l1In.calls a1 0 60 false _ A7.out).mono ?_); rintro e w' ⟨rfl, ⟨nd, rfl⟩⟩))
        go_meet
        case rel => exact ⟨_, (true), (by first | rfl | (simp; done) | (simp [*]; done)), H', ⟨by first | omega | exact Nat.le_refl _⟩, by repeat (first | exact Drawn0.refl _ | apply Drawn0.step)⟩
    · replace c6 := Bool.eq_false_iff.mpr c6
      subst c6
      have H1 : (spec_Shift.j0 k a0 a1 a2 true) = some r := by rw [if_neg (show ¬ (false = true) by decide)] at H; exact H
      clear H
      have H := H1
      clear H1
      have H' := Aside0.mk H
      clear H
      go_wp2_with (first | ((with_reducible refine gate_callee (f := 45) rfl ?_); refine goesL_ (some 11) rfl rfl Try.func45 (by kernel_rfl) rfl #[.int .i64 a0, .int .i64 (-4000000000000000000), .int .i64 4000000000000000000] rfl (by (try simp only [List.map_toArray, List.map_cons, List.map_nil]); first | done | rfl | (simp only [List.length_drop, List.length_take]; rfl)) ?_; (with_reducible refine (spec_l1In.calls a0 (-4000000000000000000) 4000000000000000000 false _ A5.out).mono ?_); rintro e w' ⟨rfl, ⟨nd, rfl⟩⟩; refine ⟨_, rfl, ?_⟩))
      go_meet
      case rel => exact ⟨_, (true), (by first | rfl | (simp; done) | (simp [*]; done)), H', ⟨by first | omega | exact Nat.le_refl _⟩, by repeat (first | exact Drawn0.refl _ | apply Drawn0.step)⟩
  case rest =>
    clear HC4
    try clear c2
    try clear p2
    try clear c4
    try clear c6
    try clear c8
    obtain ⟨kq, x22_3, rfl, HA, HJ3, ⟨mc3, rfl⟩⟩ := hcut
    cases kq with
    | zero => exact absurd HA.out (by simp [spec_Shift.j0])
    | succ kj3 =>
      have H := HA.out
      clear HA
      simp only [spec_Shift.j0] at H
      by_cases c10 : x22_3 = true
      · subst c10
        have H1 : (some 0) = some r := by rw [if_pos rfl] at H; exact H
        clear H
        have H := H1
        clear H1
        obtain rfl := Option.some.inj H
        go_wp2
        go_ret
        exact ⟨by first | rfl | (simp; done) | (simp [*]; done), by repeat (first | exact Drawn0.refl _ | apply Drawn0.step)⟩
      · replace c10 := Bool.eq_false_iff.mpr c10
        subst c10
        have H1 : (if 0 ≤ (IntKind.u64.wrap (a1)) then ((spec_l5Floor.f a0 (shl .i64 1 (IntKind.u64.wrap (a1)))).bind fun t105 => (if a2 = 2 then (if t105 < 0 then (if (wrap64 (a0 - (wrap64 (t105 * (shl .i64 1 (IntKind.u64.wrap (a1))))))) > 0 then (some (wrap64 (t105 + 1))) else (some t105)) else (some t105)) else (if a2 = 3 then (if a1 > 0 then (if (wrap64 (a0 - (wrap64 (t105 * (shl .i64 1 (IntKind.u64.wrap (a1))))))) ≥ (wrap64 ((shl .i64 1 (IntKind.u64.wrap (a1))) - (wrap64 (a0 - (wrap64 (t105 * (shl .i64 1 (IntKind.u64.wrap (a1))))))))) then (some (wrap64 (t105 + 1))) else (some t105)) else (some t105)) else (if a2 = 4 then (if a1 > 0 then (if (wrap64 (a0 - (wrap64 (t105 * (shl .i64 1 (IntKind.u64.wrap (a1))))))) > (wrap64 ((shl .i64 1 (IntKind.u64.wrap (a1))) - (wrap64 (a0 - (wrap64 (t105 * (shl .i64 1 (IntKind.u64.wrap (a1))))))))) then (some (wrap64 (t105 + 1))) else (if (wrap64 (a0 - (wrap64 (t105 * (shl .i64 1 (IntKind.u64.wrap (a1))))))) = (wrap64 ((shl .i64 1 (IntKind.u64.wrap (a1))) - (wrap64 (a0 - (wrap64 (t105 * (shl .i64 1 (IntKind.u64.wrap (a1))))))))) then (if (Int.tmod t105 2) = 0 then (some t105) else (some (wrap64 (t105 + 1)))) else (some t105))) else (some t105)) else (some t105))))) else (none)) = some r := by rw [if_neg (show ¬ (false = true) by decide)] at H; exact H
        clear H
        have H := H1
        clear H1
        obtain ⟨ji11, hji11⟩ : ∃ j_ : Int, (IntKind.u64.wrap (a1)) = j_ := ⟨_, rfl⟩
        replace H : (if 0 ≤ (ji11) then ((spec_l5Floor.f a0 (shl .i64 1 (ji11))).bind fun t105 => (if a2 = 2 then (if t105 < 0 then (if (wrap64 (a0 - (wrap64 (t105 * (shl .i64 1 (ji11)))))) > 0 then (some (wrap64 (t105 + 1))) else (some t105)) else (some t105)) else (if a2 = 3 then (if a1 > 0 then (if (wrap64 (a0 - (wrap64 (t105 * (shl .i64 1 (ji11)))))) ≥ (wrap64 ((shl .i64 1 (ji11)) - (wrap64 (a0 - (wrap64 (t105 * (shl .i64 1 (ji11)))))))) then (some (wrap64 (t105 + 1))) else (some t105)) else (some t105)) else (if a2 = 4 then (if a1 > 0 then (if (wrap64 (a0 - (wrap64 (t105 * (shl .i64 1 (ji11)))))) > (wrap64 ((shl .i64 1 (ji11)) - (wrap64 (a0 - (wrap64 (t105 * (shl .i64 1 (ji11)))))))) then (some (wrap64 (t105 + 1))) else (if (wrap64 (a0 - (wrap64 (t105 * (shl .i64 1 (ji11)))))) = (wrap64 ((shl .i64 1 (ji11)) - (wrap64 (a0 - (wrap64 (t105 * (shl .i64 1 (ji11)))))))) then (if (Int.tmod t105 2) = 0 then (some t105) else (some (wrap64 (t105 + 1)))) else (some t105))) else (some t105)) else (some t105))))) else (none)) = some r := by first | (rw [hji11] at H; exact H) | (simp only [hji11] at H ⊢; exact H)
        by_cases c12 : 0 ≤ (ji11)
        · rw [if_pos c12] at H
          have c12b0 := eq_true c12
          have c12b1 : decide (0 ≤ (ji11)) = true := decide_eq_true c12
          clear c12
          obtain ⟨ji13, hji13⟩ : ∃ j_ : Int, (shl .i64 1 (ji11)) = j_ := ⟨_, rfl⟩
          replace H : ((spec_l5Floor.f a0 (ji13)).bind fun t105 => (if a2 = 2 then (if t105 < 0 then (if (wrap64 (a0 - (wrap64 (t105 * (ji13))))) > 0 then (some (wrap64 (t105 + 1))) else (some t105)) else (some t105)) else (if a2 = 3 then (if a1 > 0 then (if (wrap64 (a0 - (wrap64 (t105 * (ji13))))) ≥ (wrap64 ((ji13) - (wrap64 (a0 - (wrap64 (t105 * (ji13))))))) then (some (wrap64 (t105 + 1))) else (some t105)) else (some t105)) else (if a2 = 4 then (if a1 > 0 then (if (wrap64 (a0 - (wrap64 (t105 * (ji13))))) > (wrap64 ((ji13) - (wrap64 (a0 - (wrap64 (t105 * (ji13))))))) then (some (wrap64 (t105 + 1))) else (if (wrap64 (a0 - (wrap64 (t105 * (ji13))))) = (wrap64 ((ji13) - (wrap64 (a0 - (wrap64 (t105 * (ji13))))))) then (if (Int.tmod t105 2) = 0 then (some t105) else (some (wrap64 (t105 + 1)))) else (some t105))) else (some t105)) else (some t105))))) = some r := by first | (rw [hji13] at H; exact H) | (simp only [hji13] at H ⊢; exact H)
          have hji13_ : (IntKind.i64.wrap (1 * 2 ^ min (ji11).toNat 64)) = ji13 := hji13
          have hji13z : (ji11) ≤ 64 → (IntKind.i64.wrap (1 * 2 ^ (ji11).toNat)) = ji13 := shl_small hji13
          have hji13u : (IntKind.i64.wrap (2 ^ min (ji11).toNat 64)) = ji13 := by have h_ := hji13_; rw [Int.one_mul] at h_; exact h_
          have hji13v : (ji11) ≤ 64 → (IntKind.i64.wrap (2 ^ (ji11).toNat)) = ji13 := fun hle_ => by have h_ := hji13z hle_; rw [Int.one_mul] at h_; exact h_
          have hji13y : (wrap64 (1 * 2 ^ min (ji11).toNat 64)) = ji13 := (i64_w _).symm.trans hji13_
          have hji13x : (ji11) ≤ 64 → (wrap64 (1 * 2 ^ (ji11).toNat)) = ji13 := fun h_ => (i64_w _).symm.trans (hji13z h_)
          replace H := Option.bind_eq_some_iff.mp H
          obtain ⟨t105, A140, H⟩ := H
          replace H : (if a2 = 2 then (if t105 < 0 then (if (wrap64 (a0 - (wrap64 (t105 * (ji13))))) > 0 then (some (wrap64 (t105 + 1))) else (some t105)) else (some t105)) else (if a2 = 3 then (if a1 > 0 then (if (wrap64 (a0 - (wrap64 (t105 * (ji13))))) ≥ (wrap64 ((ji13) - (wrap64 (a0 - (wrap64 (t105 * (ji13))))))) then (some (wrap64 (t105 + 1))) else (some t105)) else (some t105)) else (if a2 = 4 then (if a1 > 0 then (if (wrap64 (a0 - (wrap64 (t105 * (ji13))))) > (wrap64 ((ji13) - (wrap64 (a0 - (wrap64 (t105 * (ji13))))))) then (some (wrap64 (t105 + 1))) else (if (wrap64 (a0 - (wrap64 (t105 * (ji13))))) = (wrap64 ((ji13) - (wrap64 (a0 - (wrap64 (t105 * (ji13))))))) then (if (Int.tmod t105 2) = 0 then (some t105) else (some (wrap64 (t105 + 1)))) else (some t105))) else (some t105)) else (some t105)))) = some r := H
          have A14 := Aside0.mk A140
          clear A140
          by_cases c15 : a2 = 2
          · rw [if_pos c15] at H
            have c15b0 : (a2 == 2) = true := beq_iff_eq.mpr c15
            have c15b1 : (a2 != 2) = false := bne_eq_false_iff_eq.mpr c15
            clear c15
            by_cases c16 : t105 < 0
            · rw [if_pos c16] at H
              have c16b0 : decide (t105 < 0) = true := decide_eq_true c16
              clear c16
              by_cases c17 : (wrap64 (a0 - (wrap64 (t105 * (ji13))))) > 0
              · rw [if_pos c17] at H
                have c17b0 : decide (0 < (wrap64 (a0 - (wrap64 (t105 * (ji13)))))) = true := decide_eq_true c17
                clear c17
                obtain rfl := Option.some.inj H
                go_wp2_with (first | ((with_reducible refine gate_callee (f := 53) rfl ?_); refine goesL_ (some 28) rfl rfl Try.func53 (by kernel_rfl) rfl #[.int .i64 a0, .int .i64 ji13] rfl (by (try simp only [List.map_toArray, List.map_cons, List.map_nil]); first | done | (simp only [hji13]; rfl) | rfl | (simp only [List.length_drop, List.length_take]; rfl)) ?_; (with_reducible refine (spec_l5Floor.calls a0 ji13 t105 _ A14.out).mono ?_); rintro e w' ⟨rfl, ⟨nd, rfl⟩⟩; refine ⟨_, rfl, ?_⟩))
                go_ret
                exact ⟨by first | rfl | (simp; done) | (simp only [← hji11, ← hji13] <;> (first | rfl | simp)) | (simp [*]; done), by repeat (first | exact Drawn0.refl _ | apply Drawn0.step)⟩
              · rw [if_neg c17] at H
                have c17b0 : decide (0 < (wrap64 (a0 - (wrap64 (t105 * (ji13)))))) = false := decide_eq_false c17
                clear c17
                obtain rfl := Option.some.inj H
                go_wp2_with (first | ((with_reducible refine gate_callee (f := 53) rfl ?_); refine goesL_ (some 28) rfl rfl Try.func53 (by kernel_rfl) rfl #[.int .i64 a0, .int .i64 ji13] rfl (by (try simp only [List.map_toArray, List.map_cons, List.map_nil]); first | done | (simp only [hji13]; rfl) | rfl | (simp only [List.length_drop, List.length_take]; rfl)) ?_; (with_reducible refine (spec_l5Floor.calls a0 ji13 t105 _ A14.out).mono ?_); rintro e w' ⟨rfl, ⟨nd, rfl⟩⟩; refine ⟨_, rfl, ?_⟩))
                go_ret
                exact ⟨by first | rfl | (simp; done) | (simp only [← hji11, ← hji13] <;> (first | rfl | simp)) | (simp [*]; done), by repeat (first | exact Drawn0.refl _ | apply Drawn0.step)⟩
            · rw [if_neg c16] at H
              have c16b0 : decide (t105 < 0) = false := decide_eq_false c16
              clear c16
              obtain rfl := Option.some.inj H
              go_wp2_with (first | ((with_reducible refine gate_callee (f := 53) rfl ?_); refine goesL_ (some 28) rfl rfl Try.func53 (by kernel_rfl) rfl #[.int .i64 a0, .int .i64 ji13] rfl (by (try simp only [List.map_toArray, List.map_cons, List.map_nil]); first | done | (simp only [hji13]; rfl) | rfl | (simp only [List.length_drop, List.length_take]; rfl)) ?_; (with_reducible refine (spec_l5Floor.calls a0 ji13 t105 _ A14.out).mono ?_); rintro e w' ⟨rfl, ⟨nd, rfl⟩⟩; refine ⟨_, rfl, ?_⟩))
              go_ret
              exact ⟨by first | rfl | (simp; done) | (simp only [← hji11, ← hji13] <;> (first | rfl | simp)) | (simp [*]; done), by repeat (first | exact Drawn0.refl _ | apply Drawn0.step)⟩
          · rw [if_neg c15] at H
            have c15b0 : (a2 == 2) = false := beq_eq_false_iff_ne.mpr c15
            have c15b1 : (a2 != 2) = true := bne_iff_ne.mpr c15
            by_cases c18 : a2 = 3
            · rw [if_pos c18] at H
              have c18b0 : (a2 == 3) = true := beq_iff_eq.mpr c18
              have c18b1 : (a2 != 3) = false := bne_eq_false_iff_eq.mpr c18
              clear c18
              by_cases c19 : a1 > 0
              · rw [if_pos c19] at H
                have c19b0 : decide (0 < a1) = true := decide_eq_true c19
                clear c19
                by_cases c20 : (wrap64 (a0 - (wrap64 (t105 * (ji13))))) ≥ (wrap64 ((ji13) - (wrap64 (a0 - (wrap64 (t105 * (ji13)))))))
                · rw [if_pos c20] at H
                  have c20b0 : decide ((wrap64 ((ji13) - (wrap64 (a0 - (wrap64 (t105 * (ji13))))))) ≤ (wrap64 (a0 - (wrap64 (t105 * (ji13)))))) = true := decide_eq_true c20
                  clear c20
                  obtain rfl := Option.some.inj H
                  go_wp2_with (first | ((with_reducible refine gate_callee (f := 53) rfl ?_); refine goesL_ (some 28) rfl rfl Try.func53 (by kernel_rfl) rfl #[.int .i64 a0, .int .i64 ji13] rfl (by (try simp only [List.map_toArray, List.map_cons, List.map_nil]); first | done | (simp only [hji13]; rfl) | rfl | (simp only [List.length_drop, List.length_take]; rfl)) ?_; (with_reducible refine (spec_l5Floor.calls a0 ji13 t105 _ A14.out).mono ?_); rintro e w' ⟨rfl, ⟨nd, rfl⟩⟩; refine ⟨_, rfl, ?_⟩))
                  go_ret
                  exact ⟨by first | rfl | (simp; done) | (simp only [← hji11, ← hji13] <;> (first | rfl | simp)) | (simp [*]; done), by repeat (first | exact Drawn0.refl _ | apply Drawn0.step)⟩
                · rw [if_neg c20] at H
                  have c20b0 : decide ((wrap64 ((ji13) - (wrap64 (a0 - (wrap64 (t105 * (ji13))))))) ≤ (wrap64 (a0 - (wrap64 (t105 * (ji13)))))) = false := decide_eq_false c20
                  clear c20
                  obtain rfl := Option.some.inj H
                  go_wp2_with (first | ((with_reducible refine gate_callee (f := 53) rfl ?_); refine goesL_ (some 28) rfl rfl Try.func53 (by kernel_rfl) rfl #[.int .i64 a0, .int .i64 ji13] rfl (by (try simp only [List.map_toArray, List.map_cons, List.map_nil]); first | done | (simp only [hji13]; rfl) | rfl | (simp only [List.length_drop, List.length_take]; rfl)) ?_; (with_reducible refine (spec_l5Floor.calls a0 ji13 t105 _ A14.out).mono ?_); rintro e w' ⟨rfl, ⟨nd, rfl⟩⟩; refine ⟨_, rfl, ?_⟩))
                  go_ret
                  exact ⟨by first | rfl | (simp; done) | (simp only [← hji11, ← hji13] <;> (first | rfl | simp)) | (simp [*]; done), by repeat (first | exact Drawn0.refl _ | apply Drawn0.step)⟩
              · rw [if_neg c19] at H
                have c19b0 : decide (0 < a1) = false := decide_eq_false c19
                clear c19
                obtain rfl := Option.some.inj H
                go_wp2_with (first | ((with_reducible refine gate_callee (f := 53) rfl ?_); refine goesL_ (some 28) rfl rfl Try.func53 (by kernel_rfl) rfl #[.int .i64 a0, .int .i64 ji13] rfl (by (try simp only [List.map_toArray, List.map_cons, List.map_nil]); first | done | (simp only [hji13]; rfl) | rfl | (simp only [List.length_drop, List.length_take]; rfl)) ?_; (with_reducible refine (spec_l5Floor.calls a0 ji13 t105 _ A14.out).mono ?_); rintro e w' ⟨rfl, ⟨nd, rfl⟩⟩; refine ⟨_, rfl, ?_⟩))
                go_ret
                exact ⟨by first | rfl | (simp; done) | (simp only [← hji11, ← hji13] <;> (first | rfl | simp)) | (simp [*]; done), by repeat (first | exact Drawn0.refl _ | apply Drawn0.step)⟩
            · rw [if_neg c18] at H
              have c18b0 : (a2 == 3) = false := beq_eq_false_iff_ne.mpr c18
              have c18b1 : (a2 != 3) = true := bne_iff_ne.mpr c18
              by_cases c21 : a2 = 4
              · rw [if_pos c21] at H
                have c21b0 : (a2 == 4) = true := beq_iff_eq.mpr c21
                have c21b1 : (a2 != 4) = false := bne_eq_false_iff_eq.mpr c21
                clear c21
                by_cases c22 : a1 > 0
                · rw [if_pos c22] at H
                  have c22b0 : decide (0 < a1) = true := decide_eq_true c22
                  clear c22
                  by_cases c23 : (wrap64 (a0 - (wrap64 (t105 * (ji13))))) > (wrap64 ((ji13) - (wrap64 (a0 - (wrap64 (t105 * (ji13)))))))
                  · rw [if_pos c23] at H
                    have c23b0 : decide ((wrap64 ((ji13) - (wrap64 (a0 - (wrap64 (t105 * (ji13))))))) < (wrap64 (a0 - (wrap64 (t105 * (ji13)))))) = true := decide_eq_true c23
                    clear c23
                    obtain rfl := Option.some.inj H
                    go_wp2_with (first | ((with_reducible refine gate_callee (f := 53) rfl ?_); refine goesL_ (some 28) rfl rfl Try.func53 (by kernel_rfl) rfl #[.int .i64 a0, .int .i64 ji13] rfl (by (try simp only [List.map_toArray, List.map_cons, List.map_nil]); first | done | (simp only [hji13]; rfl) | rfl | (simp only [List.length_drop, List.length_take]; rfl)) ?_; (with_reducible refine (spec_l5Floor.calls a0 ji13 t105 _ A14.out).mono ?_); rintro e w' ⟨rfl, ⟨nd, rfl⟩⟩; refine ⟨_, rfl, ?_⟩))
                    go_ret
                    exact ⟨by first | rfl | (simp; done) | (simp only [← hji11, ← hji13] <;> (first | rfl | simp)) | (simp [*]; done), by repeat (first | exact Drawn0.refl _ | apply Drawn0.step)⟩
                  · rw [if_neg c23] at H
                    have c23b0 : decide ((wrap64 ((ji13) - (wrap64 (a0 - (wrap64 (t105 * (ji13))))))) < (wrap64 (a0 - (wrap64 (t105 * (ji13)))))) = false := decide_eq_false c23
                    clear c23
                    by_cases c24 : (wrap64 (a0 - (wrap64 (t105 * (ji13))))) = (wrap64 ((ji13) - (wrap64 (a0 - (wrap64 (t105 * (ji13)))))))
                    · rw [if_pos c24] at H
                      have c24b0 : ((wrap64 (a0 - (wrap64 (t105 * (ji13))))) == (wrap64 ((ji13) - (wrap64 (a0 - (wrap64 (t105 * (ji13)))))))) = true := beq_iff_eq.mpr c24
                      have c24b1 : ((wrap64 (a0 - (wrap64 (t105 * (ji13))))) != (wrap64 ((ji13) - (wrap64 (a0 - (wrap64 (t105 * (ji13)))))))) = false := bne_eq_false_iff_eq.mpr c24
                      clear c24
                      by_cases c25 : (Int.tmod t105 2) = 0
                      · rw [if_pos c25] at H
                        have c25b0 : ((Int.tmod t105 2) == 0) = true := beq_iff_eq.mpr c25
                        have c25b1 : ((Int.tmod t105 2) != 0) = false := bne_eq_false_iff_eq.mpr c25
                        clear c25
                        obtain rfl := Option.some.inj H
                        go_wp2_with (first | ((with_reducible refine gate_callee (f := 53) rfl ?_); refine goesL_ (some 28) rfl rfl Try.func53 (by kernel_rfl) rfl #[.int .i64 a0, .int .i64 ji13] rfl (by (try simp only [List.map_toArray, List.map_cons, List.map_nil]); first | done | (simp only [hji13]; rfl) | rfl | (simp only [List.length_drop, List.length_take]; rfl)) ?_; (with_reducible refine (spec_l5Floor.calls a0 ji13 t105 _ A14.out).mono ?_); rintro e w' ⟨rfl, ⟨nd, rfl⟩⟩; refine ⟨_, rfl, ?_⟩))
                        go_ret
                        exact ⟨by first | rfl | (simp; done) | (simp only [← hji11, ← hji13] <;> (first | rfl | simp)) | (simp [*]; done), by repeat (first | exact Drawn0.refl _ | apply Drawn0.step)⟩
                      · rw [if_neg c25] at H
                        have c25b0 : ((Int.tmod t105 2) == 0) = false := beq_eq_false_iff_ne.mpr c25
                        have c25b1 : ((Int.tmod t105 2) != 0) = true := bne_iff_ne.mpr c25
                        obtain rfl := Option.some.inj H
                        go_wp2_with (first | ((with_reducible refine gate_callee (f := 53) rfl ?_); refine goesL_ (some 28) rfl rfl Try.func53 (by kernel_rfl) rfl #[.int .i64 a0, .int .i64 ji13] rfl (by (try simp only [List.map_toArray, List.map_cons, List.map_nil]); first | done | (simp only [hji13]; rfl) | rfl | (simp only [List.length_drop, List.length_take]; rfl)) ?_; (with_reducible refine (spec_l5Floor.calls a0 ji13 t105 _ A14.out).mono ?_); rintro e w' ⟨rfl, ⟨nd, rfl⟩⟩; refine ⟨_, rfl, ?_⟩))
                        go_ret
                        exact ⟨by first | rfl | (simp; done) | (simp only [← hji11, ← hji13] <;> (first | rfl | simp)) | (simp [*]; done), by repeat (first | exact Drawn0.refl _ | apply Drawn0.step)⟩
                    · rw [if_neg c24] at H
                      have c24b0 : ((wrap64 (a0 - (wrap64 (t105 * (ji13))))) == (wrap64 ((ji13) - (wrap64 (a0 - (wrap64 (t105 * (ji13)))))))) = false := beq_eq_false_iff_ne.mpr c24
                      have c24b1 : ((wrap64 (a0 - (wrap64 (t105 * (ji13))))) != (wrap64 ((ji13) - (wrap64 (a0 - (wrap64 (t105 * (ji13)))))))) = true := bne_iff_ne.mpr c24
                      obtain rfl := Option.some.inj H
                      go_wp2_with (first | ((with_reducible refine gate_callee (f := 53) rfl ?_); refine goesL_ (some 28) rfl rfl Try.func53 (by kernel_rfl) rfl #[.int .i64 a0, .int .i64 ji13] rfl (by (try simp only [List.map_toArray, List.map_cons, List.map_nil]); first | done | (simp only [hji13]; rfl) | rfl | (simp only [List.length_drop, List.length_take]; rfl)) ?_; (with_reducible refine (spec_l5Floor.calls a0 ji13 t105 _ A14.out).mono ?_); rintro e w' ⟨rfl, ⟨nd, rfl⟩⟩; refine ⟨_, rfl, ?_⟩))
                      go_ret
                      exact ⟨by first | rfl | (simp; done) | (simp only [← hji11, ← hji13] <;> (first | rfl | simp)) | (simp [*]; done), by repeat (first | exact Drawn0.refl _ | apply Drawn0.step)⟩
                · rw [if_neg c22] at H
                  have c22b0 : decide (0 < a1) = false := decide_eq_false c22
                  clear c22
                  obtain rfl := Option.some.inj H
                  go_wp2_with (first | ((with_reducible refine gate_callee (f := 53) rfl ?_); refine goesL_ (some 28) rfl rfl Try.func53 (by kernel_rfl) rfl #[.int .i64 a0, .int .i64 ji13] rfl (by (try simp only [List.map_toArray, List.map_cons, List.map_nil]); first | done | (simp only [hji13]; rfl) | rfl | (simp only [List.length_drop, List.length_take]; rfl)) ?_; (with_reducible refine (spec_l5Floor.calls a0 ji13 t105 _ A14.out).mono ?_); rintro e w' ⟨rfl, ⟨nd, rfl⟩⟩; refine ⟨_, rfl, ?_⟩))
                  go_ret
                  exact ⟨by first | rfl | (simp; done) | (simp only [← hji11, ← hji13] <;> (first | rfl | simp)) | (simp [*]; done), by repeat (first | exact Drawn0.refl _ | apply Drawn0.step)⟩
              · rw [if_neg c21] at H
                have c21b0 : (a2 == 4) = false := beq_eq_false_iff_ne.mpr c21
                have c21b1 : (a2 != 4) = true := bne_iff_ne.mpr c21
                obtain rfl := Option.some.inj H
                go_wp2_with (first | ((with_reducible refine gate_callee (f := 53) rfl ?_); refine goesL_ (some 28) rfl rfl Try.func53 (by kernel_rfl) rfl #[.int .i64 a0, .int .i64 ji13] rfl (by (try simp only [List.map_toArray, List.map_cons, List.map_nil]); first | done | (simp only [hji13]; rfl) | rfl | (simp only [List.length_drop, List.length_take]; rfl)) ?_; (with_reducible refine (spec_l5Floor.calls a0 ji13 t105 _ A14.out).mono ?_); rintro e w' ⟨rfl, ⟨nd, rfl⟩⟩; refine ⟨_, rfl, ?_⟩))
                go_ret
                exact ⟨by first | rfl | (simp; done) | (simp only [← hji11, ← hji13] <;> (first | rfl | simp)) | (simp [*]; done), by repeat (first | exact Drawn0.refl _ | apply Drawn0.step)⟩
        · rw [if_neg c12] at H
          exact absurd H (by simp)

/-! ### impl_big18: function 54 -/
def impl_big18.f (a0 : Int) : Option (Bool) := if a0 ≥ (-4000000000000000000) then (some (decide (a0 ≤ 4000000000000000000))) else (some false)
set_option maxHeartbeats 8000000 in
set_option maxRecDepth 100000 in
theorem impl_big18.calls (a0 : Int) (r : Bool) (w : World) (h : impl_big18.f a0 = some r) :
    Calls Try.prog 54 #[.int .i64 a0] w fun e w' => e = .returned (.bool r) ∧ Drawn0 w w' := by
  have H : (if a0 ≥ (-4000000000000000000) then (some (decide (a0 ≤ 4000000000000000000))) else (some false)) = some r := h
  clear h
  by_cases c2 : a0 ≥ (-4000000000000000000)
  · rw [if_pos c2] at H
    have c2b0 : decide ((-4000000000000000000) ≤ a0) = true := decide_eq_true c2
    clear c2
    obtain rfl := Option.some.inj H
    go_enter Try.func54, Try.ntmps54
    go_wp2
    go_ret
    exact ⟨by first | rfl | (simp; done) | (simp [*]; done), by repeat (first | exact Drawn0.refl _ | apply Drawn0.step)⟩
  · rw [if_neg c2] at H
    have c2b0 : decide ((-4000000000000000000) ≤ a0) = false := decide_eq_false c2
    clear c2
    obtain rfl := Option.some.inj H
    go_enter Try.func54, Try.ntmps54
    go_wp2
    go_ret
    exact ⟨by first | rfl | (simp; done) | (simp [*]; done), by repeat (first | exact Drawn0.refl _ | apply Drawn0.step)⟩

/-! ### impl_isCut: function 57 -/
def impl_isCut.f (a0 : Int) : Option (Bool) := if a0 ≥ 1 then (some (decide (a0 ≤ 4))) else (some false)
set_option maxHeartbeats 8000000 in
set_option maxRecDepth 100000 in
theorem impl_isCut.calls (a0 : Int) (r : Bool) (w : World) (h : impl_isCut.f a0 = some r) :
    Calls Try.prog 57 #[.int .i64 a0] w fun e w' => e = .returned (.bool r) ∧ Drawn0 w w' := by
  have H : (if a0 ≥ 1 then (some (decide (a0 ≤ 4))) else (some false)) = some r := h
  clear h
  by_cases c2 : a0 ≥ 1
  · rw [if_pos c2] at H
    have c2b0 : decide (1 ≤ a0) = true := decide_eq_true c2
    clear c2
    obtain rfl := Option.some.inj H
    go_enter Try.func57, Try.ntmps57
    go_wp2
    go_ret
    exact ⟨by first | rfl | (simp; done) | (simp [*]; done), by repeat (first | exact Drawn0.refl _ | apply Drawn0.step)⟩
  · rw [if_neg c2] at H
    have c2b0 : decide (1 ≤ a0) = false := decide_eq_false c2
    clear c2
    obtain rfl := Option.some.inj H
    go_enter Try.func57, Try.ntmps57
    go_wp2
    go_ret
    exact ⟨by first | rfl | (simp; done) | (simp [*]; done), by repeat (first | exact Drawn0.refl _ | apply Drawn0.step)⟩

/-! ### impl_Shift: function 28 -/
def impl_Shift.j0 : Nat → Int → Int → Int → Bool → Option (Int)
  | 0, _, _, _, _ => none
  | k + 1, x0, x1, x2, x26 => if x26 = true then (some 0) else (if 0 ≤ x1 then (if x1 = 0 then (some x0) else (if 0 ≤ (wrap64 (x1 - 1)) then (if x2 = 2 then (if x0 < 0 then (if (wrap64 (x0 - (shl .i64 (shr .i64 x0 x1) x1))) > 0 then (some (wrap64 ((shr .i64 x0 x1) + 1))) else (some (shr .i64 x0 x1))) else (some (shr .i64 x0 x1))) else (if x2 = 3 then (if (wrap64 (x0 - (shl .i64 (shr .i64 x0 x1) x1))) ≥ (shl .i64 1 (wrap64 (x1 - 1))) then (some (wrap64 ((shr .i64 x0 x1) + 1))) else (some (shr .i64 x0 x1))) else (if x2 = 4 then (if (wrap64 (x0 - (shl .i64 (shr .i64 x0 x1) x1))) > (shl .i64 1 (wrap64 (x1 - 1))) then (some (wrap64 ((shr .i64 x0 x1) + 1))) else (if (wrap64 (x0 - (shl .i64 (shr .i64 x0 x1) x1))) = (shl .i64 1 (wrap64 (x1 - 1))) then (if (Go.bits .and .i64 (shr .i64 x0 x1) 1) = 1 then (some (wrap64 ((shr .i64 x0 x1) + 1))) else (some (shr .i64 x0 x1))) else (some (shr .i64 x0 x1)))) else (some (shr .i64 x0 x1))))) else (none))) else (none))
def impl_Shift.f (k : Nat) (a0 : Int) (a1 : Int) (a2 : Int) : Option (Int) := (impl_big18.f a0).bind fun t106 => (if t106 = true then (if a1 < 0 then (impl_Shift.j0 k a0 a1 a2 true) else (if a1 > 60 then (impl_Shift.j0 k a0 a1 a2 true) else ((impl_isCut.f a2).bind fun t107 => (impl_Shift.j0 k a0 a1 a2 (!t107))))) else (impl_Shift.j0 k a0 a1 a2 true))
theorem impl_Shift.mono_l : ∀ k, (∀ y0 y1 y2 y3, LeO (impl_Shift.j0 k y0 y1 y2 y3) (impl_Shift.j0 (k + 1) y0 y1 y2 y3))
  | 0 => fun _ _ _ _ r h => by simp [impl_Shift.j0] at h
  | k + 1 => by
    have ih0 := impl_Shift.mono_l k
    · intro y0 y1 y2 y3
      unfold impl_Shift.j0
      repeat' first
      | (with_reducible exact ih0 _ _ _ _)
      | (with_reducible exact LeO.refl _)
      | (with_reducible exact LeO.none _)
      | (with_reducible refine LeO.ite ?_ ?_)
      | (with_reducible refine LeO.bind ?_ (fun _ => ?_))
      | exact ih0 _ _ _ _
      | exact LeO.none _
      | refine LeO.ite ?_ ?_
      | refine LeO.bind ?_ (fun _ => ?_)
theorem impl_Shift.mono : ∀ a0 a1 a2 k, LeO (impl_Shift.f k a0 a1 a2) (impl_Shift.f (k + 1) a0 a1 a2) := by
  intro a0 a1 a2 k
  have ih0 := impl_Shift.mono_l k
  unfold impl_Shift.f
  repeat' first
      | (with_reducible exact ih0 _ _ _ _)
      | (with_reducible exact LeO.refl _)
      | (with_reducible exact LeO.none _)
      | (with_reducible refine LeO.ite ?_ ?_)
      | (with_reducible refine LeO.bind ?_ (fun _ => ?_))
      | exact ih0 _ _ _ _
      | exact LeO.none _
      | refine LeO.ite ?_ ?_
      | refine LeO.bind ?_ (fun _ => ?_)
set_option maxHeartbeats 8000000 in
set_option maxRecDepth 100000 in
theorem impl_Shift.calls (k : Nat) (a0 : Int) (a1 : Int) (a2 : Int) (r : Int) (w : World) (h : impl_Shift.f k a0 a1 a2 = some r) :
    Calls Try.prog 28 #[.int .i64 a0, .int .i64 a1, .int .i64 a2] w fun e w' => e = .returned (.int .i64 r) ∧ Drawn0 w w' := by
  have H : ((impl_big18.f a0).bind fun t106 => (if t106 = true then (if a1 < 0 then (impl_Shift.j0 k a0 a1 a2 true) else (if a1 > 60 then (impl_Shift.j0 k a0 a1 a2 true) else ((impl_isCut.f a2).bind fun t107 => (impl_Shift.j0 k a0 a1 a2 (!t107))))) else (impl_Shift.j0 k a0 a1 a2 true))) = some r := h
  clear h
  have HC4 := Aside0.mk H
  clear H
  go_enter Try.func28, Try.ntmps28
  go_upto_region 1 with (fail)
  go_cut [26] (fun v26 wc => ∃ (kq : Nat) (x26_3 : Bool), v26 = .bool x26_3 ∧ Aside0 (impl_Shift.j0 kq a0 a1 a2 x26_3 = some r) ∧ Aside0 (kq ≤ k) ∧ Drawn0 w wc)
  case first =>
    have H := HC4.out
    clear HC4
    replace H := Option.bind_eq_some_iff.mp H
    obtain ⟨t106, A50, H⟩ := H
    replace H : (if t106 = true then (if a1 < 0 then (impl_Shift.j0 k a0 a1 a2 true) else (if a1 > 60 then (impl_Shift.j0 k a0 a1 a2 true) else ((impl_isCut.f a2).bind fun t107 => (impl_Shift.j0 k a0 a1 a2 (!t107))))) else (impl_Shift.j0 k a0 a1 a2 true)) = some r := H
    have A5 := Aside0.mk A50
    clear A50
    by_cases c6 : t106 = true
    · subst c6
      have H1 : (if a1 < 0 then (impl_Shift.j0 k a0 a1 a2 true) else (if a1 > 60 then (impl_Shift.j0 k a0 a1 a2 true) else ((impl_isCut.f a2).bind fun t107 => (impl_Shift.j0 k a0 a1 a2 (!t107))))) = some r := by rw [if_pos rfl] at H; exact H
      clear H
      have H := H1
      clear H1
      by_cases c7 : a1 < 0
      · rw [if_pos c7] at H
        have c7b0 : decide (a1 < 0) = true := decide_eq_true c7
        clear c7
        (first | rw [c7b0] | (simp only [i64_w, i32_w]; rw [c7b0]) | skip)
        have H' := Aside0.mk H
        clear H
        go_wp2_with (first | ((with_reducible refine gate_callee (f := 54) rfl ?_); refine goesL_ (some 12) rfl rfl Try.func54 (by kernel_rfl) rfl #[.int .i64 a0] rfl (by (try simp only [List.map_toArray, List.map_cons, List.map_nil]); first | done | rfl | (simp only [List.length_drop, List.length_take]; rfl)) ?_; (with_reducible refine (impl_big18.calls a0 true _ A5.out).mono ?_); rintro e w' ⟨rfl, ⟨nd, rfl⟩⟩; refine ⟨_, rfl, ?_⟩))
        go_meet
        case rel => exact ⟨_, (true), (by first | rfl | (simp; done) | (simp [*]; done)), H', ⟨by first | omega | exact Nat.le_refl _⟩, by repeat (first | exact Drawn0.refl _ | apply Drawn0.step)⟩
      · rw [if_neg c7] at H
        have c7b0 : decide (a1 < 0) = false := decide_eq_false c7
        clear c7
        (first | rw [c7b0] | (simp only [i64_w, i32_w]; rw [c7b0]) | skip)
        by_cases c8 : a1 > 60
        · rw [if_pos c8] at H
          have c8b0 : decide (60 < a1) = true := decide_eq_true c8
          clear c8
          have H' := Aside0.mk H
          clear H
          go_wp2_with (first | ((with_reducible refine gate_callee (f := 54) rfl ?_); refine goesL_ (some 12) rfl rfl Try.func54 (by kernel_rfl) rfl #[.int .i64 a0] rfl (by (try simp only [List.map_toArray, List.map_cons, List.map_nil]); first | done | rfl | (simp only [List.length_drop, List.length_take]; rfl)) ?_; (with_reducible refine (impl_big18.calls a0 true _ A5.out).mono ?_); rintro e w' ⟨rfl, ⟨nd, rfl⟩⟩; refine ⟨_, rfl, ?_⟩))
          go_meet
          case rel => exact ⟨_, (true), (by first | rfl | (simp; done) | (simp [*]; done)), H', ⟨by first | omega | exact Nat.le_refl _⟩, by repeat (first | exact Drawn0.refl _ | apply Drawn0.step)⟩
        · rw [if_neg c8] at H
          have c8b0 : decide (60 < a1) = false := decide_eq_false c8
          clear c8
          replace H := Option.bind_eq_some_iff.mp H
          obtain ⟨t107, A90, H⟩ := H
          replace H : (impl_Shift.j0 k a0 a1 a2 (!t107)) = some r := H
          have A9 := Aside0.mk A90
          clear A90
          have H' := Aside0.mk H
          clear H
          go_wp2_with (first | ((with_reducible refine gate_callee (f := 54) rfl ?_); refine goesL_ (some 12) rfl rfl Try.func54 (by kernel_rfl) rfl #[.int .i64 a0] rfl (by (try simp only [List.map_toArray, List.map_cons, List.map_nil]); first | done | rfl | (simp only [List.length_drop, List.length_take]; rfl)) ?_; (with_reducible refine (impl_big18.calls a0 true _ A5.out).mono ?_); rintro e w' ⟨rfl, ⟨nd, rfl⟩⟩; refine ⟨_, rfl, ?_⟩) | (go_at_call 57; (with_reducible refine (impl_isCut.calls a2 t107 _ A9.out).mono ?_); rintro e w' ⟨rfl, ⟨nd, rfl⟩⟩))
          go_meet
          case rel => exact ⟨_, (!t107), (by first | rfl | (simp; done) | (simp [*]; done)), H', ⟨by first | omega | exact Nat.le_refl _⟩, by repeat (first | exact Drawn0.refl _ | apply Drawn0.step)⟩
    · replace c6 := Bool.eq_false_iff.mpr c6
      subst c6
      have H1 : (impl_Shift.j0 k a0 a1 a2 true) = some r := by rw [if_neg (show ¬ (false = true) by decide)] at H; exact H
      clear H
      have H := H1
      clear H1
      have H' := Aside0.mk H
      clear H
      go_wp2_with (first | ((with_reducible refine gate_callee (f := 54) rfl ?_); refine goesL_ (some 12) rfl rfl Try.func54 (by kernel_rfl) rfl #[.int .i64 a0] rfl (by (try simp only [List.map_toArray, List.map_cons, List.map_nil]); first | done | rfl | (simp only [List.length_drop, List.length_take]; rfl)) ?_; (with_reducible refine (impl_big18.calls a0 false _ A5.out).mono ?_); rintro e w' ⟨rfl, ⟨nd, rfl⟩⟩; refine ⟨_, rfl, ?_⟩))
      go_meet
      case rel => exact ⟨_, (true), (by first | rfl | (simp; done) | (simp [*]; done)), H', ⟨by first | omega | exact Nat.le_refl _⟩, by repeat (first | exact Drawn0.refl _ | apply Drawn0.step)⟩
  case rest =>
    clear HC4
    try clear c2
    try clear p2
    try clear c5
    try clear c6
    try clear c7
    try clear c7b0
    try clear c8
    try clear c8b0
    obtain ⟨kq, x26_3, rfl, HA, HJ3, ⟨mc3, rfl⟩⟩ := hcut
    cases kq with
    | zero => exact absurd HA.out (by simp [impl_Shift.j0])
    | succ kj3 =>
      have H := HA.out
      clear HA
      simp only [impl_Shift.j0] at H
      by_cases c10 : x26_3 = true
      · subst c10
        have H1 : (some 0) = some r := by rw [if_pos rfl] at H; exact H
        clear H
        have H := H1
        clear H1
        obtain rfl := Option.some.inj H
        go_wp2
        go_ret
        exact ⟨by first | rfl | (simp; done) | (simp [*]; done), by repeat (first | exact Drawn0.refl _ | apply Drawn0.step)⟩
      · replace c10 := Bool.eq_false_iff.mpr c10
        subst c10
        have H1 : (if 0 ≤ a1 then (if a1 = 0 then (some a0) else (if 0 ≤ (wrap64 (a1 - 1)) then (if a2 = 2 then (if a0 < 0 then (if (wrap64 (a0 - (shl .i64 (shr .i64 a0 a1) a1))) > 0 then (some (wrap64 ((shr .i64 a0 a1) + 1))) else (some (shr .i64 a0 a1))) else (some (shr .i64 a0 a1))) else (if a2 = 3 then (if (wrap64 (a0 - (shl .i64 (shr .i64 a0 a1) a1))) ≥ (shl .i64 1 (wrap64 (a1 - 1))) then (some (wrap64 ((shr .i64 a0 a1) + 1))) else (some (shr .i64 a0 a1))) else (if a2 = 4 then (if (wrap64 (a0 - (shl .i64 (shr .i64 a0 a1) a1))) > (shl .i64 1 (wrap64 (a1 - 1))) then (some (wrap64 ((shr .i64 a0 a1) + 1))) else (if (wrap64 (a0 - (shl .i64 (shr .i64 a0 a1) a1))) = (shl .i64 1 (wrap64 (a1 - 1))) then (if (Go.bits .and .i64 (shr .i64 a0 a1) 1) = 1 then (some (wrap64 ((shr .i64 a0 a1) + 1))) else (some (shr .i64 a0 a1))) else (some (shr .i64 a0 a1)))) else (some (shr .i64 a0 a1))))) else (none))) else (none)) = some r := by rw [if_neg (show ¬ (false = true) by decide)] at H; exact H
        clear H
        have H := H1
        clear H1
        by_cases c11 : 0 ≤ a1
        · rw [if_pos c11] at H
          have c11b0 := eq_true c11
          have c11b1 : decide (0 ≤ a1) = true := decide_eq_true c11
          clear c11
          obtain ⟨ji12, hji12⟩ : ∃ j_ : Int, (shr .i64 a0 a1) = j_ := ⟨_, rfl⟩
          replace H : (if a1 = 0 then (some a0) else (if 0 ≤ (wrap64 (a1 - 1)) then (if a2 = 2 then (if a0 < 0 then (if (wrap64 (a0 - (shl .i64 (ji12) a1))) > 0 then (some (wrap64 ((ji12) + 1))) else (some ji12)) else (some ji12)) else (if a2 = 3 then (if (wrap64 (a0 - (shl .i64 (ji12) a1))) ≥ (shl .i64 1 (wrap64 (a1 - 1))) then (some (wrap64 ((ji12) + 1))) else (some ji12)) else (if a2 = 4 then (if (wrap64 (a0 - (shl .i64 (ji12) a1))) > (shl .i64 1 (wrap64 (a1 - 1))) then (some (wrap64 ((ji12) + 1))) else (if (wrap64 (a0 - (shl .i64 (ji12) a1))) = (shl .i64 1 (wrap64 (a1 - 1))) then (if (Go.bits .and .i64 (ji12) 1) = 1 then (some (wrap64 ((ji12) + 1))) else (some ji12)) else (some ji12))) else (some ji12)))) else (none))) = some r := by first | (rw [hji12] at H; exact H) | (simp only [hji12] at H ⊢; exact H)
          have hji12_ : (a0 / 2 ^ min a1.toNat 64) = ji12 := hji12
          have hji12z : a1 ≤ 64 → (a0 / 2 ^ a1.toNat) = ji12 := shr_small hji12
          have c13b0 := eq_true (of_decide_eq_true (by first | (with_reducible assumption) | assumption) : 0 ≤ a1)
          obtain ⟨ji14, hji14⟩ : ∃ j_ : Int, (shl .i64 (ji12) a1) = j_ := ⟨_, rfl⟩
          replace H : (if a1 = 0 then (some a0) else (if 0 ≤ (wrap64 (a1 - 1)) then (if a2 = 2 then (if a0 < 0 then (if (wrap64 (a0 - (ji14))) > 0 then (some (wrap64 ((ji12) + 1))) else (some ji12)) else (some ji12)) else (if a2 = 3 then (if (wrap64 (a0 - (ji14))) ≥ (shl .i64 1 (wrap64 (a1 - 1))) then (some (wrap64 ((ji12) + 1))) else (some ji12)) else (if a2 = 4 then (if (wrap64 (a0 - (ji14))) > (shl .i64 1 (wrap64 (a1 - 1))) then (some (wrap64 ((ji12) + 1))) else (if (wrap64 (a0 - (ji14))) = (shl .i64 1 (wrap64 (a1 - 1))) then (if (Go.bits .and .i64 (ji12) 1) = 1 then (some (wrap64 ((ji12) + 1))) else (some ji12)) else (some ji12))) else (some ji12)))) else (none))) = some r := by first | (rw [hji14] at H; exact H) | (simp only [hji14] at H ⊢; exact H)
          have hji14_ : (IntKind.i64.wrap ((ji12) * 2 ^ min a1.toNat 64)) = ji14 := hji14
          have hji14z : a1 ≤ 64 → (IntKind.i64.wrap ((ji12) * 2 ^ a1.toNat)) = ji14 := shl_small hji14
          have hji14y : (wrap64 ((ji12) * 2 ^ min a1.toNat 64)) = ji14 := (i64_w _).symm.trans hji14_
          have hji14x : a1 ≤ 64 → (wrap64 ((ji12) * 2 ^ a1.toNat)) = ji14 := fun h_ => (i64_w _).symm.trans (hji14z h_)
          by_cases c15 : a1 = 0
          · rw [if_pos c15] at H
            have c15b0 : (a1 == 0) = true := beq_iff_eq.mpr c15
            have c15b1 : (a1 != 0) = false := bne_eq_false_iff_eq.mpr c15
            clear c15
            obtain rfl := Option.some.inj H
            go_wp2
            go_ret
            exact ⟨by first | rfl | (simp; done) | (simp only [← hji12, ← hji14] <;> (first | rfl | simp)) | (simp [*]; done), by repeat (first | exact Drawn0.refl _ | apply Drawn0.step)⟩
          · rw [if_neg c15] at H
            have c15b0 : (a1 == 0) = false := beq_eq_false_iff_ne.mpr c15
            have c15b1 : (a1 != 0) = true := bne_iff_ne.mpr c15
            obtain ⟨ji16, hji16⟩ : ∃ j_ : Int, (wrap64 (a1 - 1)) = j_ := ⟨_, rfl⟩
            replace H : (if 0 ≤ (ji16) then (if a2 = 2 then (if a0 < 0 then (if (wrap64 (a0 - (ji14))) > 0 then (some (wrap64 ((ji12) + 1))) else (some ji12)) else (some ji12)) else (if a2 = 3 then (if (wrap64 (a0 - (ji14))) ≥ (shl .i64 1 (ji16)) then (some (wrap64 ((ji12) + 1))) else (some ji12)) else (if a2 = 4 then (if (wrap64 (a0 - (ji14))) > (shl .i64 1 (ji16)) then (some (wrap64 ((ji12) + 1))) else (if (wrap64 (a0 - (ji14))) = (shl .i64 1 (ji16)) then (if (Go.bits .and .i64 (ji12) 1) = 1 then (some (wrap64 ((ji12) + 1))) else (some ji12)) else (some ji12))) else (some ji12)))) else (none)) = some r := by first | (rw [hji16] at H; exact H) | (simp only [hji16] at H ⊢; exact H)
            have hji16w : (IntKind.i64.wrap (a1 - 1)) = ji16 := (i64_w _).trans hji16
            by_cases c17 : 0 ≤ (ji16)
            · rw [if_pos c17] at H
              have c17b0 := eq_true c17
              have c17b1 : decide (0 ≤ (ji16)) = true := decide_eq_true c17
              clear c17
              obtain ⟨ji18, hji18⟩ : ∃ j_ : Int, (shl .i64 1 (ji16)) = j_ := ⟨_, rfl⟩
              replace H : (if a2 = 2 then (if a0 < 0 then (if (wrap64 (a0 - (ji14))) > 0 then (some (wrap64 ((ji12) + 1))) else (some ji12)) else (some ji12)) else (if a2 = 3 then (if (wrap64 (a0 - (ji14))) ≥ (ji18) then (some (wrap64 ((ji12) + 1))) else (some ji12)) else (if a2 = 4 then (if (wrap64 (a0 - (ji14))) > (ji18) then (some (wrap64 ((ji12) + 1))) else (if (wrap64 (a0 - (ji14))) = (ji18) then (if (Go.bits .and .i64 (ji12) 1) = 1 then (some (wrap64 ((ji12) + 1))) else (some ji12)) else (some ji12))) else (some ji12)))) = some r := by first | (rw [hji18] at H; exact H) | (simp only [hji18] at H ⊢; exact H)
              have hji18_ : (IntKind.i64.wrap (1 * 2 ^ min (ji16).toNat 64)) = ji18 := hji18
              have hji18z : (ji16) ≤ 64 → (IntKind.i64.wrap (1 * 2 ^ (ji16).toNat)) = ji18 := shl_small hji18
              have hji18u : (IntKind.i64.wrap (2 ^ min (ji16).toNat 64)) = ji18 := by have h_ := hji18_; rw [Int.one_mul] at h_; exact h_
              have hji18v : (ji16) ≤ 64 → (IntKind.i64.wrap (2 ^ (ji16).toNat)) = ji18 := fun hle_ => by have h_ := hji18z hle_; rw [Int.one_mul] at h_; exact h_
              have hji18y : (wrap64 (1 * 2 ^ min (ji16).toNat 64)) = ji18 := (i64_w _).symm.trans hji18_
              have hji18x : (ji16) ≤ 64 → (wrap64 (1 * 2 ^ (ji16).toNat)) = ji18 := fun h_ => (i64_w _).symm.trans (hji18z h_)
              by_cases c19 : a2 = 2
              · rw [if_pos c19] at H
                have c19b0 : (a2 == 2) = true := beq_iff_eq.mpr c19
                have c19b1 : (a2 != 2) = false := bne_eq_false_iff_eq.mpr c19
                clear c19
                by_cases c20 : a0 < 0
                · rw [if_pos c20] at H
                  have c20b0 : decide (a0 < 0) = true := decide_eq_true c20
                  clear c20
                  by_cases c21 : (wrap64 (a0 - (ji14))) > 0
                  · rw [if_pos c21] at H
                    have c21b0 : decide (0 < (wrap64 (a0 - (ji14)))) = true := decide_eq_true c21
                    clear c21
                    obtain rfl := Option.some.inj H
                    go_wp2
                    go_ret
                    exact ⟨by first | rfl | (simp; done) | (simp only [← hji12, ← hji14, ← hji16, ← hji18] <;> (first | rfl | simp)) | (simp [*]; done), by repeat (first | exact Drawn0.refl _ | apply Drawn0.step)⟩
                  · rw [if_neg c21] at H
                    have c21b0 : decide (0 < (wrap64 (a0 - (ji14)))) = false := decide_eq_false c21
                    clear c21
                    obtain rfl := Option.some.inj H
                    go_wp2
                    go_ret
                    exact ⟨by first | rfl | (simp; done) | (simp only [← hji12, ← hji14, ← hji16, ← hji18] <;> (first | rfl | simp)) | (simp [*]; done), by repeat (first | exact Drawn0.refl _ | apply Drawn0.step)⟩
                · rw [if_neg c20] at H
                  have c20b0 : decide (a0 < 0) = false := decide_eq_false c20
                  clear c20
                  obtain rfl := Option.some.inj H
                  go_wp2
                  go_ret
                  exact ⟨by first | rfl | (simp; done) | (simp only [← hji12, ← hji14, ← hji16, ← hji18] <;> (first | rfl | simp)) | (simp [*]; done), by repeat (first | exact Drawn0.refl _ | apply Drawn0.step)⟩
              · rw [if_neg c19] at H
                have c19b0 : (a2 == 2) = false := beq_eq_false_iff_ne.mpr c19
                have c19b1 : (a2 != 2) = true := bne_iff_ne.mpr c19
                by_cases c22 : a2 = 3
                · rw [if_pos c22] at H
                  have c22b0 : (a2 == 3) = true := beq_iff_eq.mpr c22
                  have c22b1 : (a2 != 3) = false := bne_eq_false_iff_eq.mpr c22
                  clear c22
                  by_cases c23 : (wrap64 (a0 - (ji14))) ≥ (ji18)
                  · rw [if_pos c23] at H
                    have c23b0 : decide ((ji18) ≤ (wrap64 (a0 - (ji14)))) = true := decide_eq_true c23
                    clear c23
                    obtain rfl := Option.some.inj H
                    go_wp2
                    go_ret
                    exact ⟨by first | rfl | (simp; done) | (simp only [← hji12, ← hji14, ← hji16, ← hji18] <;> (first | rfl | simp)) | (simp [*]; done), by repeat (first | exact Drawn0.refl _ | apply Drawn0.step)⟩
                  · rw [if_neg c23] at H
                    have c23b0 : decide ((ji18) ≤ (wrap64 (a0 - (ji14)))) = false := decide_eq_false c23
                    clear c23
                    obtain rfl := Option.some.inj H
                    go_wp2
                    go_ret
                    exact ⟨by first | rfl | (simp; done) | (simp only [← hji12, ← hji14, ← hji16, ← hji18] <;> (first | rfl | simp)) | (simp [*]; done), by repeat (first | exact Drawn0.refl _ | apply Drawn0.step)⟩
                · rw [if_neg c22] at H
                  have c22b0 : (a2 == 3) = false := beq_eq_false_iff_ne.mpr c22
                  have c22b1 : (a2 != 3) = true := bne_iff_ne.mpr c22
                  by_cases c24 : a2 = 4
                  · rw [if_pos c24] at H
                    have c24b0 : (a2 == 4) = true := beq_iff_eq.mpr c24
                    have c24b1 : (a2 != 4) = false := bne_eq_false_iff_eq.mpr c24
                    clear c24
                    by_cases c25 : (wrap64 (a0 - (ji14))) > (ji18)
                    · rw [if_pos c25] at H
                      have c25b0 : decide ((ji18) < (wrap64 (a0 - (ji14)))) = true := decide_eq_true c25
                      clear c25
                      obtain rfl := Option.some.inj H
                      go_wp2
                      go_ret
                      exact ⟨by first | rfl | (simp; done) | (simp only [← hji12, ← hji14, ← hji16, ← hji18] <;> (first | rfl | simp)) | (simp [*]; done), by repeat (first | exact Drawn0.refl _ | apply Drawn0.step)⟩
                    · rw [if_neg c25] at H
                      have c25b0 : decide ((ji18) < (wrap64 (a0 - (ji14)))) = false := decide_eq_false c25
                      clear c25
                      by_cases c26 : (wrap64 (a0 - (ji14))) = (ji18)
                      · rw [if_pos c26] at H
                        have c26b0 : ((wrap64 (a0 - (ji14))) == (ji18)) = true := beq_iff_eq.mpr c26
                        have c26b1 : ((wrap64 (a0 - (ji14))) != (ji18)) = false := bne_eq_false_iff_eq.mpr c26
                        clear c26
                        by_cases c27 : (Go.bits .and .i64 (ji12) 1) = 1
                        · rw [if_pos c27] at H
                          have c27b0 : ((Go.bits .and .i64 (ji12) 1) == 1) = true := beq_iff_eq.mpr c27
                          have c27b1 : ((Go.bits .and .i64 (ji12) 1) != 1) = false := bne_eq_false_iff_eq.mpr c27
                          clear c27
                          obtain rfl := Option.some.inj H
                          go_wp2
                          go_ret
                          exact ⟨by first | rfl | (simp; done) | (simp only [← hji12, ← hji14, ← hji16, ← hji18] <;> (first | rfl | simp)) | (simp [*]; done), by repeat (first | exact Drawn0.refl _ | apply Drawn0.step)⟩
                        · rw [if_neg c27] at H
                          have c27b0 : ((Go.bits .and .i64 (ji12) 1) == 1) = false := beq_eq_false_iff_ne.mpr c27
                          have c27b1 : ((Go.bits .and .i64 (ji12) 1) != 1) = true := bne_iff_ne.mpr c27
                          obtain rfl := Option.some.inj H
                          go_wp2
                          go_ret
                          exact ⟨by first | rfl | (simp; done) | (simp only [← hji12, ← hji14, ← hji16, ← hji18] <;> (first | rfl | simp)) | (simp [*]; done), by repeat (first | exact Drawn0.refl _ | apply Drawn0.step)⟩
                      · rw [if_neg c26] at H
                        have c26b0 : ((wrap64 (a0 - (ji14))) == (ji18)) = false := beq_eq_false_iff_ne.mpr c26
                        have c26b1 : ((wrap64 (a0 - (ji14))) != (ji18)) = true := bne_iff_ne.mpr c26
                        obtain rfl := Option.some.inj H
                        go_wp2
                        go_ret
                        exact ⟨by first | rfl | (simp; done) | (simp only [← hji12, ← hji14, ← hji16, ← hji18] <;> (first | rfl | simp)) | (simp [*]; done), by repeat (first | exact Drawn0.refl _ | apply Drawn0.step)⟩
                  · rw [if_neg c24] at H
                    have c24b0 : (a2 == 4) = false := beq_eq_false_iff_ne.mpr c24
                    have c24b1 : (a2 != 4) = true := bne_iff_ne.mpr c24
                    obtain rfl := Option.some.inj H
                    go_wp2
                    go_ret
                    exact ⟨by first | rfl | (simp; done) | (simp only [← hji12, ← hji14, ← hji16, ← hji18] <;> (first | rfl | simp)) | (simp [*]; done), by repeat (first | exact Drawn0.refl _ | apply Drawn0.step)⟩
            · rw [if_neg c17] at H
              exact absurd H (by simp)
        · rw [if_neg c11] at H
          exact absurd H (by simp)

/-! ### laws_FnExactShift: function 8 -/
def laws_FnExactShift.f (k : Nat) (a0 : Int) (a1 : Int) (a2 : Int) : Option (Bool) := (spec_Shift.f k a0 a1 a2).bind fun t108 => ((impl_Shift.f k a0 a1 a2).bind fun t109 => (if t109 = t108 then (some true) else (some false)))
theorem laws_FnExactShift.mono : ∀ a0 a1 a2 k, LeO (laws_FnExactShift.f k a0 a1 a2) (laws_FnExactShift.f (k + 1) a0 a1 a2) := by
  intro a0 a1 a2 k
  unfold laws_FnExactShift.f
  repeat' first
      | (with_reducible exact impl_Shift.mono _ _ _ _)
      | (with_reducible exact spec_Shift.mono _ _ _ _)
      | (with_reducible exact LeO.refl _)
      | (with_reducible exact LeO.none _)
      | (with_reducible refine LeO.ite ?_ ?_)
      | (with_reducible refine LeO.bind ?_ (fun _ => ?_))
      | exact impl_Shift.mono _ _ _ _
      | exact spec_Shift.mono _ _ _ _
      | exact LeO.none _
      | refine LeO.ite ?_ ?_
      | refine LeO.bind ?_ (fun _ => ?_)
set_option maxHeartbeats 8000000 in
set_option maxRecDepth 100000 in
theorem laws_FnExactShift.calls (k : Nat) (a0 : Int) (a1 : Int) (a2 : Int) (r : Bool) (w : World) (h : laws_FnExactShift.f k a0 a1 a2 = some r) :
    Calls Try.prog 8 #[.int .i64 a0, .int .i64 a1, .int .i64 a2] w fun e w' => e = .returned (.bool r) ∧ Drawn0 w w' := by
  have H : ((spec_Shift.f k a0 a1 a2).bind fun t108 => ((impl_Shift.f k a0 a1 a2).bind fun t109 => (if t109 = t108 then (some true) else (some false)))) = some r := h
  clear h
  replace H := Option.bind_eq_some_iff.mp H
  obtain ⟨t108, A40, H⟩ := H
  replace H : ((impl_Shift.f k a0 a1 a2).bind fun t109 => (if t109 = t108 then (some true) else (some false))) = some r := H
  have A4 := Aside0.mk A40
  clear A40
  replace H := Option.bind_eq_some_iff.mp H
  obtain ⟨t109, A50, H⟩ := H
  replace H : (if t109 = t108 then (some true) else (some false)) = some r := H
  have A5 := Aside0.mk A50
  clear A50
  by_cases c6 : t109 = t108
  · rw [if_pos c6] at H
    have c6b0 : (t109 == t108) = true := beq_iff_eq.mpr c6
    have c6b1 : (t109 != t108) = false := bne_eq_false_iff_eq.mpr c6
    clear c6
    obtain rfl := Option.some.inj H
    go_enter Try.func8, Try.ntmps8
    go_wp2_with (first | ((with_reducible refine gate_callee (f := 27) rfl ?_); refine goesL_ (some 12) rfl rfl Try.func27 (by kernel_rfl) rfl #[.int .i64 a0, .int .i64 a1, .int .i64 a2] rfl (by (try simp only [List.map_toArray, List.map_cons, List.map_nil]); first | done | rfl | (simp only [List.length_drop, List.length_take]; rfl)) ?_; (with_reducible refine (spec_Shift.calls k a0 a1 a2 t108 _ A4.out).mono ?_); rintro e w' ⟨rfl, ⟨nd, rfl⟩⟩; refine ⟨_, rfl, ?_⟩) | ((with_reducible refine gate_callee (f := 28) rfl ?_); refine goesL_ (some 16) rfl rfl Try.func28 (by kernel_rfl) rfl #[.int .i64 a0, .int .i64 a1, .int .i64 a2] rfl (by (try simp only [List.map_toArray, List.map_cons, List.map_nil]); first | done | rfl | (simp only [List.length_drop, List.length_take]; rfl)) ?_; (with_reducible refine (impl_Shift.calls k a0 a1 a2 t109 _ A5.out).mono ?_); rintro e w' ⟨rfl, ⟨nd, rfl⟩⟩; refine ⟨_, rfl, ?_⟩))
    go_ret
    exact ⟨by first | rfl | (simp; done) | (simp [*]; done), by repeat (first | exact Drawn0.refl _ | apply Drawn0.step)⟩
  · rw [if_neg c6] at H
    have c6b0 : (t109 == t108) = false := beq_eq_false_iff_ne.mpr c6
    have c6b1 : (t109 != t108) = true := bne_iff_ne.mpr c6
    obtain rfl := Option.some.inj H
    go_enter Try.func8, Try.ntmps8
    go_wp2_with (first | ((with_reducible refine gate_callee (f := 27) rfl ?_); refine goesL_ (some 12) rfl rfl Try.func27 (by kernel_rfl) rfl #[.int .i64 a0, .int .i64 a1, .int .i64 a2] rfl (by (try simp only [List.map_toArray, List.map_cons, List.map_nil]); first | done | rfl | (simp only [List.length_drop, List.length_take]; rfl)) ?_; (with_reducible refine (spec_Shift.calls k a0 a1 a2 t108 _ A4.out).mono ?_); rintro e w' ⟨rfl, ⟨nd, rfl⟩⟩; refine ⟨_, rfl, ?_⟩) | ((with_reducible refine gate_callee (f := 28) rfl ?_); refine goesL_ (some 16) rfl rfl Try.func28 (by kernel_rfl) rfl #[.int .i64 a0, .int .i64 a1, .int .i64 a2] rfl (by (try simp only [List.map_toArray, List.map_cons, List.map_nil]); first | done | rfl | (simp only [List.length_drop, List.length_take]; rfl)) ?_; (with_reducible refine (impl_Shift.calls k a0 a1 a2 t109 _ A5.out).mono ?_); rintro e w' ⟨rfl, ⟨nd, rfl⟩⟩; refine ⟨_, rfl, ?_⟩))
    go_ret
    exact ⟨by first | rfl | (simp; done) | (simp [*]; done), by repeat (first | exact Drawn0.refl _ | apply Drawn0.step)⟩

/-- THE ONE PURE STATEMENT of laws_FnExactShift: yours. -/
def laws_FnExactShift.Pure : Prop := ∀ (a0 : Int) (a1 : Int) (a2 : Int), (Lit.int .i64 a0).wf = true → (Lit.int .i64 a1).wf = true → (Lit.int .i64 a2).wf = true → ∃ k, laws_FnExactShift.f k a0 a1 a2 = some true
theorem laws_FnExactShift.walk (P : laws_FnExactShift.Pure) (a0 : Int) (a1 : Int) (a2 : Int) (w : World) (w0 : (Lit.int .i64 a0).wf = true) (w1 : (Lit.int .i64 a1).wf = true) (w2 : (Lit.int .i64 a2).wf = true) :
    Calls Try.prog 8 #[.int .i64 a0, .int .i64 a1, .int .i64 a2] w fun e w' => e = .returned (.bool true) ∧ Below w.heap.size w w' := by
  obtain ⟨k, h⟩ := P a0 a1 a2 w0 w1 w2
  refine (laws_FnExactShift.calls k a0 a1 a2 true w h).mono ?_
  rintro e w' ⟨rfl, hd⟩
  exact ⟨rfl, hd.below⟩

end Go.Proofs.Ytbjnggnlflofbaa.PFnExactShift
