/-
  Contracts of PowPair, of the program and of the reference.
-/
import Derived.Test.YthoajaibaedjeaaA
import Derived.Test.YthoajaibaedjeaaBe
import Derived.Test.YthoajaibaedjeaaPs
import Derived.Deep.RegionHeld3
import Derived.Deep.DeepCutAuto
import Derived.Deep.QuietTactic
import Derived.BigQuiet
namespace Go.Proofs.Ythoajaibaedjeaa
set_option linter.unusedSimpArgs false
set_option linter.unusedVariables false
open Go.RowKit Go.Fl

/-- The power's loop. -/
def pwf : Nat → Nat → Nat × Nat → Nat × Nat → Nat × Nat
  | 0, _, r, _ => r
  | f + 1, n, r, s => if n = 0 then r else pwf f (n / 2) (if n % 2 = 1 then mulP r s else r) (if n / 2 = 0 then s else mulP s s)

def powP (a : Nat × Nat) (n : Int) : Nat × Nat := if 0 ≤ n ∧ n ≤ 1000 then pwf n.toNat n.toNat (4607182418800017408, 0) a else (0, 0)
theorem powP_in {a : Nat × Nat} {n : Nat} (h : n ≤ 1000) : powP a n = pwf n n (4607182418800017408, 0) a := by
  unfold powP; rw [if_pos ⟨by omega, by omega⟩, Int.toNat_natCast]
theorem powP_out {a : Nat × Nat} {n : Int} (h : ¬ (0 ≤ n ∧ n ≤ 1000)) : powP a n = (0, 0) := if_neg h

theorem In_any (x a b : Int) (w : World) : Calls Try.prog 42 #[.int .i64 x, .int .i64 a, .int .i64 b] w fun e w' => e = .returned (.bool (decide (a ≤ x ∧ x ≤ b))) ∧ w' = w := by
  by_cases h1 : a ≤ x
  · by_cases h2 : x ≤ b
    · have d1 : decide (a ≤ x) = true := decide_eq_true h1
      have d2 : decide (x ≤ b) = true := decide_eq_true h2
      have HD := Lib.hid (show decide (a ≤ x ∧ x ≤ b) = true from decide_eq_true ⟨h1, h2⟩)
      clear h1 h2
      go_enter Try.func42, Try.ntmps42
      go_wp2
      go_ret
      exact ⟨ret_bool HD.out.symm, rfl⟩
    · have d1 : decide (a ≤ x) = true := decide_eq_true h1
      have d2 : decide (x ≤ b) = false := decide_eq_false h2
      have HD := Lib.hid (show decide (a ≤ x ∧ x ≤ b) = false from decide_eq_false (fun h => h2 h.2))
      clear h1 h2
      go_enter Try.func42, Try.ntmps42
      go_wp2
      go_ret
      exact ⟨ret_bool HD.out.symm, rfl⟩
  · have d1 : decide (a ≤ x) = false := decide_eq_false h1
    have HD := Lib.hid (show decide (a ≤ x ∧ x ≤ b) = false from decide_eq_false (fun h => h1 h.1))
    clear h1
    go_enter Try.func42, Try.ntmps42
    go_wp2
    go_ret
    exact ⟨ret_bool HD.out.symm, rfl⟩

/-- The loop's memory: the product so far, the square, the result's block. -/
def Pk (w : World) (g0 g5 g6 : Nat) (r s : Nat × Nat) (W : World) : Prop :=
  (Blk W g5 25 #[fl r.1, fl r.2] ∧ Blk W g6 25 #[fl s.1, fl s.2] ∧ Blk W g0 25 #[fl 0, fl 0]) ∧ Below w.heap.size w W ∧ (w.heap.size ≤ g0 ∧ w.heap.size ≤ g5 ∧ w.heap.size ≤ g6) ∧ g5 ≠ g6 ∧ g0 ≠ g5 ∧ g0 ≠ g6

section
variable {w W W1 : World} {g0 g5 g6 : Nat} {r s : Nat × Nat}
theorem Pk.call (h : Pk w g0 g5 g6 r s W) (hb : Below W.heap.size W W1) : Pk w g0 g5 g6 r s W1 :=
  ⟨⟨h.1.1.below hb h.1.1.lt, h.1.2.1.below hb h.1.2.1.lt, h.1.2.2.below hb h.1.2.2.lt⟩, h.2.1.trans (hb.mono h.2.1.size), h.2.2⟩
theorem Pk.setR (h : Pk w g0 g5 g6 r s W) (a b : Nat) : Pk w g0 g5 g6 (a, b) s ((W.setCell ⟨g5, 0, none⟩ (fl a)).setCell ⟨g5, 1, none⟩ (fl b)) :=
  ⟨⟨(h.1.1.set_ 0 _).set_ 1 _, ((h.1.2.1.off h.2.2.2.1.symm 0 _).off h.2.2.2.1.symm 1 _), ((h.1.2.2.off h.2.2.2.2.1 0 _).off h.2.2.2.2.1 1 _)⟩, (h.2.1.setCell h.2.2.1.2.1 _).setCell h.2.2.1.2.1 _, h.2.2⟩
theorem Pk.setS (h : Pk w g0 g5 g6 r s W) (a b : Nat) : Pk w g0 g5 g6 r (a, b) ((W.setCell ⟨g6, 0, none⟩ (fl a)).setCell ⟨g6, 1, none⟩ (fl b)) :=
  ⟨⟨((h.1.1.off h.2.2.2.1 0 _).off h.2.2.2.1 1 _), (h.1.2.1.set_ 0 _).set_ 1 _, ((h.1.2.2.off h.2.2.2.2.2 0 _).off h.2.2.2.2.2 1 _)⟩, (h.2.1.setCell h.2.2.1.2.2 _).setCell h.2.2.1.2.2 _, h.2.2⟩
theorem Pk.facts (h : Pk w g0 g5 g6 r s W) : W.cell? ⟨g5, 0, none⟩ = some (fl r.1) ∧ W.cell? ⟨g5, 1, none⟩ = some (fl r.2) ∧ W.cell? ⟨g6, 0, none⟩ = some (fl s.1) ∧ W.cell? ⟨g6, 1, none⟩ = some (fl s.2) ∧ W.cell? ⟨g0, 0, none⟩ = some (fl 0) ∧ W.cell? ⟨g0, 1, none⟩ = some (fl 0) ∧
    W.frozen? ⟨g5, 0, none⟩ = false ∧ W.frozen? ⟨g5, 1, none⟩ = false ∧ W.frozen? ⟨g6, 0, none⟩ = false ∧ W.frozen? ⟨g6, 1, none⟩ = false ∧ W.frozen? ⟨g0, 0, none⟩ = false ∧ W.frozen? ⟨g0, 1, none⟩ = false :=
  ⟨h.1.1.cell 0, h.1.1.cell 1, h.1.2.1.cell 0, h.1.2.1.cell 1, h.1.2.2.cell 0, h.1.2.2.cell 1, h.1.1.frozen 0, h.1.1.frozen 1, h.1.2.1.frozen 0, h.1.2.1.frozen 1, h.1.2.2.frozen 0, h.1.2.2.frozen 1⟩
end

theorem Pk.startA (w : World) (c r s : Nat × Nat) : Pk w (w.heap.size + 1) (w.heap.size + 1 + 1) (w.heap.size + 1 + 1 + 1) r s ((((w.alloc (.cells #[fl c.1, fl c.2] 25)).alloc (.cells #[fl 0, fl 0] 25)).alloc (.cells #[fl r.1, fl r.2] 25)).alloc (.cells #[fl s.1, fl s.2] 25)) :=
  ⟨⟨by simpa using (Blk.new (w.alloc _ |>.alloc _) 25 _).alloc _, by simpa using Blk.new (w.alloc _ |>.alloc _ |>.alloc _) 25 _, by simpa using ((Blk.new (w.alloc _) 25 _).alloc _).alloc _⟩,
    (((((Below.refl _ _).alloc (Nat.le_refl _) _).alloc (by simp) _).alloc (by simp; omega) _).alloc (by simp; omega) _), ⟨by omega, by omega, by omega⟩, by omega, by omega, by omega⟩
theorem Pk.startB (w : World) (c r s : Nat × Nat) : Pk w (w.heap.size + 1) (w.heap.size + 1 + 1 + 1) (w.heap.size + 1 + 1) r s ((((w.alloc (.cells #[fl c.1, fl c.2] 25)).alloc (.cells #[fl 0, fl 0] 25)).alloc (.cells #[fl s.1, fl s.2] 25)).alloc (.cells #[fl r.1, fl r.2] 25)) :=
  ⟨⟨by simpa using Blk.new (w.alloc _ |>.alloc _ |>.alloc _) 25 _, by simpa using (Blk.new (w.alloc _ |>.alloc _) 25 _).alloc _, by simpa using ((Blk.new (w.alloc _) 25 _).alloc _).alloc _⟩,
    (((((Below.refl _ _).alloc (Nat.le_refl _) _).alloc (by simp) _).alloc (by simp; omega) _).alloc (by simp; omega) _), ⟨by omega, by omega, by omega⟩, by omega, by omega, by omega⟩
theorem Pk.drew {w W : World} {g0 g5 g6 : Nat} {r s : Nat × Nat} (h : Pk w g0 g5 g6 r s W) : Pk w g0 g5 g6 r s W.drew := ⟨h.1, h.2.1.drew, h.2.2⟩

/-- What the loop still comes to. -/
def Pv (P : Nat × Nat) (m : Nat) (r s : Nat × Nat) : Prop := (r.1 < 2 ^ 64 ∧ r.2 < 2 ^ 64) ∧ ∃ R S f, peq r R ∧ peq s S ∧ m ≤ f ∧ pwf f m R S = P
theorem Pv.done {P r s : Nat × Nat} (h : Pv P 0 r s) : peq r P := by
  obtain ⟨_, R, S, f, h1, _, _, rfl⟩ := h
  cases f <;> exact h1
theorem Pv.odd {P r s r' : Nat × Nat} {m : Nat} (h : Pv P m r s) (h0 : m = 1) (hr : r'.1 < 2 ^ 64 ∧ r'.2 < 2 ^ 64) (hp : peq r' (mulP r s)) : Pv P 0 r' s := by
  obtain ⟨_, R, S, f, h1, h2, h3, rfl⟩ := h
  subst h0
  refine ⟨hr, mulP R S, S, 0, ?_, h2, Nat.le_refl _, ?_⟩
  · rw [← mulP_of h1 h2]; exact hp
  · obtain ⟨f, rfl⟩ : ∃ f', f = f' + 1 := ⟨f - 1, by omega⟩
    cases f <;> rfl
theorem Pv.even {P r s s' : Nat × Nat} {m : Nat} (h : Pv P m r s) (h0 : m % 2 = 0) (h4 : m / 2 ≠ 0) (hp : peq s' (mulP s s)) : Pv P (m / 2) r s' := by
  obtain ⟨hr, R, S, f, h1, h2, h3, rfl⟩ := h
  obtain ⟨f, rfl⟩ : ∃ f', f = f' + 1 := ⟨f - 1, by omega⟩
  refine ⟨hr, R, mulP S S, f, h1, ?_, by omega, ?_⟩
  · rw [← mulP_of h2 h2]; exact hp
  · rw [pwf, if_neg (by omega), if_neg (by omega), if_neg h4]
theorem Pv.both {P r s r' s' : Nat × Nat} {m : Nat} (h : Pv P m r s) (h0 : m % 2 = 1) (h4 : m / 2 ≠ 0) (hr : r'.1 < 2 ^ 64 ∧ r'.2 < 2 ^ 64) (hp : peq r' (mulP r s)) (hq : peq s' (mulP s s)) : Pv P (m / 2) r' s' := by
  obtain ⟨_, R, S, f, h1, h2, h3, rfl⟩ := h
  obtain ⟨f, rfl⟩ : ∃ f', f = f' + 1 := ⟨f - 1, by omega⟩
  refine ⟨hr, mulP R S, mulP S S, f, ?_, ?_, by omega, ?_⟩
  · rw [← mulP_of h1 h2]; exact hp
  · rw [← mulP_of h2 h2]; exact hq
  · rw [pwf, if_neg (by omega), if_pos h0, if_neg h4]

theorem wrap_in {n : Int} (h1 : -9223372036854775808 ≤ n) (h2 : n ≤ 9223372036854775807) : wrap64 n = n := by
  exact IntWalk.wrap64_in n ⟨h1, h2⟩

set_option maxHeartbeats 1600000 in
theorem sPowPair_any (a b : Nat) (n : Int) (w : World) :
    Calls Try.prog 11 #[pr a b, .int .i64 n] w (RetP (powP (a, b) n) w.heap.size w) := by
  have HI := Lib.hid (fun W : World => In_any n 0 1000 W)
  by_cases hn : 0 ≤ n ∧ n ≤ 1000
  · have d : decide (0 ≤ n ∧ n ≤ 1000) = true := decide_eq_true hn
    rw [d] at HI
    obtain ⟨n0, rfl⟩ := Int.eq_ofNat_of_zero_le hn.1
    replace hn : n0 ≤ 1000 := by omega
    clear d
    have HK0 := Lib.hid (show Pk w (w.heap.size + 1) (w.heap.size + 1 + 1) (w.heap.size + 1 + 1 + 1) (4607182418800017408, 0) (a, b) ((((w.alloc (.cells #[fl a, fl b] 25)).alloc (.cells #[fl 0, fl 0] 25)).alloc (.cells #[fl 4607182418800017408, fl 0] 25)).alloc (.cells #[fl a, fl b] 25)) from Pk.startA w (a, b) (4607182418800017408, 0) (a, b))
    have HV0 := Lib.hid (show Pv (powP (a, b) n0) n0 (4607182418800017408, 0) (a, b) from ⟨⟨by decide, by decide⟩, _, _, n0, peq.refl _, peq.refl _, Nat.le_refl _, (powP_in hn).symm⟩)
    go_enter Try.func11, Try.ntmps11
    go_wp2_with (go_at_call 42; ((with_reducible refine (HI.out _).mono ?_); rintro e w1 ⟨rfl, rfl⟩))
    go_loopw [1] (fun n wr => ∃ (m : Nat) (r s : Nat × Nat), n = .int .i64 (m : Int) ∧ m ≤ 1000 ∧ Hid (Pk w (w.heap.size + 1) (w.heap.size + 1 + 1) (w.heap.size + 1 + 1 + 1) r s wr) ∧ Hid (Pv (powP (a, b) n0) m r s)) (fun n _ => (intOf n).toNat)
    case atStart => exact ⟨n0, _, _, rfl, hn, HK0.out, HV0.out⟩
    case round =>
      rename_i wr
      clear HK0 HV0
      obtain ⟨m, r, s, rfl, hm, HK, HV⟩ := hrel
      obtain ⟨c50, c51, c60, c61, c00, c01, f50, f51, f60, f61, f00, f01⟩ := HK.out.facts
      have hne := HK.out.2.2.2.1
      have hne1 := HK.out.2.2.2.2.1
      have hne2 := HK.out.2.2.2.2.2
      obtain ⟨r0, r1⟩ := r
      obtain ⟨s0, s1⟩ := s
      by_cases hm0 : m = 0
      · subst hm0
        go_wp2
        refine bodyPost_ret (v := pr r0 r1) (by simp [results, Try.results11, go_sem, *]) rfl ⟨_, _, rfl, HV.out.done, HV.out.1.1, HV.out.1.2, ?_⟩
        exact (HK.out.2.1.setCell HK.out.2.2.1.1 _).setCell HK.out.2.2.1.1 _
      have d0 : decide (0 < (m : Int)) = true := decide_eq_true (by omega)
      have hk1 := Lib.hid (show (m : Int) / 2 = ((m / 2 : Nat) : Int) by omega)
      by_cases hp : m % 2 = 1
      · have d1 : ((m : Int).tmod 2 == 1) = true := by rw [Int.tmod_eq_emod_of_nonneg (by omega), beq_iff_eq]; omega
        have d1' : ((m : Int) % 2 == 1) = true := by rw [beq_iff_eq]; omega
        by_cases hq : m / 2 = 0
        · have d2 : decide (0 < (m : Int) / 2) = false := decide_eq_false (by omega)
          go_wp2_with (go_at_call 19; (with_reducible refine (sMulPair_any _ _ _ _ _).mono ?_); rintro e w1 ⟨r, i, rfl, hpe, hr, hi, hbn⟩; (first | (have HK1 := Lib.hid (HK.out.call hbn); have HP1 := Lib.hid (And.intro hpe (And.intro hr hi))) | (have HK2 := Lib.hid ((HK1.out.setR _ _).call hbn); have HP2 := Lib.hid (And.intro hpe (And.intro hr hi)))); clear hpe hr hi hbn; (first | (obtain ⟨q50, q51, q60, q61, q00, q01, y50, y51, y60, y61, y00, y01⟩ := HK2.out.facts) | (obtain ⟨p50, p51, p60, p61, p00, p01, x50, x51, x60, x61, x00, x01⟩ := HK1.out.facts)))
          go_roundw
          case rel => exact ⟨0, _, _, by rw [hk1.out, hq], by omega, HK1.out.setR _ _, HV.out.odd (by omega) HP1.out.2 HP1.out.1⟩
          case measure => rw [hk1.out]; simp only [intOf, Int.toNat_natCast]; omega
        · have d2 : decide (0 < (m : Int) / 2) = true := decide_eq_true (by omega)
          go_wp2_with (go_at_call 19; (with_reducible refine (sMulPair_any _ _ _ _ _).mono ?_); rintro e w1 ⟨r, i, rfl, hpe, hr, hi, hbn⟩; (first | (have HK1 := Lib.hid (HK.out.call hbn); have HP1 := Lib.hid (And.intro hpe (And.intro hr hi))) | (have HK2 := Lib.hid ((HK1.out.setR _ _).call hbn); have HP2 := Lib.hid (And.intro hpe (And.intro hr hi)))); clear hpe hr hi hbn; (first | (obtain ⟨q50, q51, q60, q61, q00, q01, y50, y51, y60, y61, y00, y01⟩ := HK2.out.facts) | (obtain ⟨p50, p51, p60, p61, p00, p01, x50, x51, x60, x61, x00, x01⟩ := HK1.out.facts)))
          go_roundw
          case rel => exact ⟨m / 2, _, _, by rw [hk1.out], by omega, HK2.out.setS _ _, HV.out.both hp hq HP1.out.2 HP1.out.1 HP2.out.1⟩
          case measure => rw [hk1.out]; simp only [intOf, Int.toNat_natCast]; omega
      · have d1 : ((m : Int).tmod 2 == 1) = false := by rw [Int.tmod_eq_emod_of_nonneg (by omega), beq_eq_false_iff_ne]; omega
        have d1' : ((m : Int) % 2 == 1) = false := by rw [beq_eq_false_iff_ne]; omega
        have hq : m / 2 ≠ 0 := by omega
        have d2 : decide (0 < (m : Int) / 2) = true := decide_eq_true (by omega)
        go_wp2_with (go_at_call 19; (with_reducible refine (sMulPair_any _ _ _ _ _).mono ?_); rintro e w1 ⟨r, i, rfl, hpe, hr, hi, hbn⟩; (first | (have HK1 := Lib.hid (HK.out.call hbn); have HP1 := Lib.hid (And.intro hpe (And.intro hr hi))) | (have HK2 := Lib.hid ((HK1.out.setR _ _).call hbn); have HP2 := Lib.hid (And.intro hpe (And.intro hr hi)))); clear hpe hr hi hbn; (first | (obtain ⟨q50, q51, q60, q61, q00, q01, y50, y51, y60, y61, y00, y01⟩ := HK2.out.facts) | (obtain ⟨p50, p51, p60, p61, p00, p01, x50, x51, x60, x61, x00, x01⟩ := HK1.out.facts)))
        go_roundw
        case rel => exact ⟨m / 2, _, _, by rw [hk1.out], by omega, HK1.out.setS _ _, HV.out.even (by omega) hq HP1.out.1⟩
        case measure => rw [hk1.out]; simp only [intOf, Int.toNat_natCast]; omega

  · have d : decide (0 ≤ n ∧ n ≤ 1000) = false := decide_eq_false hn
    rw [d] at HI
    have HV := Lib.hid (powP_out (a := (a, b)) hn)
    clear hn d
    go_enter Try.func11, Try.ntmps11
    go_wp2_with (go_at_call 42; ((with_reducible refine (HI.out _).mono ?_); rintro e w1 ⟨rfl, rfl⟩))
    refine bodyPost_ret (v := pr 0 0) (by simp [results, Try.results11, go_sem]) rfl ⟨_, _, rfl, by rw [HV.out]; exact peq.refl _, by decide, by decide, ?_⟩
    exact ((Below.refl _ _).alloc (Nat.le_refl _) _).alloc (by simp) _

set_option maxHeartbeats 1600000 in
theorem iPowPair_any (a b : Nat) (n : Int) (w : World) :
    Calls Try.prog 13 #[pr a b, .int .i64 n] w (RetP (powP (a, b) n) w.heap.size w) := by
  by_cases h1 : n < 0
  · have d1 : decide (n < 0) = true := decide_eq_true h1
    have HV := Lib.hid (powP_out (a := (a, b)) (n := n) (by omega))
    clear h1
    go_enter Try.func13, Try.ntmps13
    go_wp2
    refine bodyPost_ret (v := pr 0 0) (by simp [results, Try.results13, go_sem]) rfl ⟨_, _, rfl, by rw [HV.out]; exact peq.refl _, by decide, by decide, ?_⟩
    exact ((Below.refl _ _).alloc (Nat.le_refl _) _).alloc (by simp) _
  by_cases h2 : 1000 < n
  · have d1 : decide (n < 0) = false := decide_eq_false h1
    have d2 : decide (1000 < n) = true := decide_eq_true h2
    have HV := Lib.hid (powP_out (a := (a, b)) (n := n) (by omega))
    clear h1 h2
    go_enter Try.func13, Try.ntmps13
    go_wp2
    refine bodyPost_ret (v := pr 0 0) (by simp [results, Try.results13, go_sem]) rfl ⟨_, _, rfl, by rw [HV.out]; exact peq.refl _, by decide, by decide, ?_⟩
    exact ((Below.refl _ _).alloc (Nat.le_refl _) _).alloc (by simp) _
  obtain ⟨n0, rfl⟩ := Int.eq_ofNat_of_zero_le (show 0 ≤ n by omega)
  have hn : n0 ≤ 1000 := by omega
  have d1 : decide ((n0 : Int) < 0) = false := decide_eq_false h1
  have d2 : decide (1000 < (n0 : Int)) = false := decide_eq_false h2
  clear h1 h2
  have HV0 := Lib.hid (show Pv (powP (a, b) n0) n0 (4607182418800017408, 0) (a, b) from ⟨⟨by decide, by decide⟩, _, _, n0, peq.refl _, peq.refl _, Nat.le_refl _, (powP_in hn).symm⟩)
  go_enter Try.func13, Try.ntmps13
  go_upto_region 3 with fail
  go_cut [5, 6] (fun s5 s6 wx => ∃ g5 g6, s5 = .pointer (some ⟨g5, 0, none⟩) ∧ s6 = .pointer (some ⟨g6, 0, none⟩) ∧ Pk w (w.heap.size + 1) g5 g6 (4607182418800017408, 0) (a, b) wx)
  case first =>
    go_region
    all_goals (go_wp2_with fail; go_meet)
    all_goals refine ⟨_, _, rfl, rfl, ?_⟩
    all_goals first | exact (Pk.startA w (a, b) (4607182418800017408, 0) (a, b)).drew | exact (Pk.startB w (a, b) (4607182418800017408, 0) (a, b)).drew
  case rest =>
    obtain ⟨g5, g6, rfl, rfl, hk0⟩ := hcut
    have HK0 := Lib.hid hk0
    clear hk0
    go_wp2_with fail
    go_loopw [1] (fun n wr => ∃ (m : Nat) (r s : Nat × Nat), n = .int .i64 (m : Int) ∧ m ≤ 1000 ∧ Hid (Pk w (w.heap.size + 1) g5 g6 r s wr) ∧ Hid (Pv (powP (a, b) n0) m r s)) (fun n _ => (intOf n).toNat)
    case atStart => exact ⟨n0, _, _, rfl, hn, HK0.out, HV0.out⟩
    case round =>
      rename_i wr
      clear HK0 HV0
      obtain ⟨m, r, s, rfl, hm, HK, HV⟩ := hrel
      obtain ⟨c50, c51, c60, c61, c00, c01, f50, f51, f60, f61, f00, f01⟩ := HK.out.facts
      have hne := HK.out.2.2.2.1
      have hne1 := HK.out.2.2.2.2.1
      have hne2 := HK.out.2.2.2.2.2
      obtain ⟨r0, r1⟩ := r
      obtain ⟨s0, s1⟩ := s
      by_cases hm0 : m = 0
      · subst hm0
        go_wp2
        refine bodyPost_ret (v := pr r0 r1) (by simp [results, Try.results13, go_sem, *]) rfl ⟨_, _, rfl, HV.out.done, HV.out.1.1, HV.out.1.2, ?_⟩
        exact (HK.out.2.1.setCell HK.out.2.2.1.1 _).setCell HK.out.2.2.1.1 _
      have d0 : decide (0 < (m : Int)) = true := decide_eq_true (by omega)
      have hk1 := Lib.hid (show (m : Int) / 2 = ((m / 2 : Nat) : Int) by omega)
      by_cases hp : m % 2 = 1
      · have d1 : ((m : Int).tmod 2 == 1) = true := by rw [Int.tmod_eq_emod_of_nonneg (by omega), beq_iff_eq]; omega
        have d1' : ((m : Int) % 2 == 1) = true := by rw [beq_iff_eq]; omega
        by_cases hq : m / 2 = 0
        · have d2 : decide (0 < (m : Int) / 2) = false := decide_eq_false (by omega)
          go_wp2_with (go_at_call 17; (with_reducible refine (iMulPair_any _ _ _ _ _).mono ?_); rintro e w1 ⟨r, i, rfl, hpe, hr, hi, hbn⟩; (first | (have HK1 := Lib.hid (HK.out.call hbn); have HP1 := Lib.hid (And.intro hpe (And.intro hr hi))) | (have HK2 := Lib.hid ((HK1.out.setR _ _).call hbn); have HP2 := Lib.hid (And.intro hpe (And.intro hr hi)))); clear hpe hr hi hbn; (first | (obtain ⟨q50, q51, q60, q61, q00, q01, y50, y51, y60, y61, y00, y01⟩ := HK2.out.facts) | (obtain ⟨p50, p51, p60, p61, p00, p01, x50, x51, x60, x61, x00, x01⟩ := HK1.out.facts)))
          go_roundw
          case rel => exact ⟨0, _, _, by rw [hk1.out, hq], by omega, HK1.out.setR _ _, HV.out.odd (by omega) HP1.out.2 HP1.out.1⟩
          case measure => rw [hk1.out]; simp only [intOf, Int.toNat_natCast]; omega
        · have d2 : decide (0 < (m : Int) / 2) = true := decide_eq_true (by omega)
          go_wp2_with (go_at_call 17; (with_reducible refine (iMulPair_any _ _ _ _ _).mono ?_); rintro e w1 ⟨r, i, rfl, hpe, hr, hi, hbn⟩; (first | (have HK1 := Lib.hid (HK.out.call hbn); have HP1 := Lib.hid (And.intro hpe (And.intro hr hi))) | (have HK2 := Lib.hid ((HK1.out.setR _ _).call hbn); have HP2 := Lib.hid (And.intro hpe (And.intro hr hi)))); clear hpe hr hi hbn; (first | (obtain ⟨q50, q51, q60, q61, q00, q01, y50, y51, y60, y61, y00, y01⟩ := HK2.out.facts) | (obtain ⟨p50, p51, p60, p61, p00, p01, x50, x51, x60, x61, x00, x01⟩ := HK1.out.facts)))
          go_roundw
          case rel => exact ⟨m / 2, _, _, by rw [hk1.out], by omega, HK2.out.setS _ _, HV.out.both hp hq HP1.out.2 HP1.out.1 HP2.out.1⟩
          case measure => rw [hk1.out]; simp only [intOf, Int.toNat_natCast]; omega
      · have d1 : ((m : Int).tmod 2 == 1) = false := by rw [Int.tmod_eq_emod_of_nonneg (by omega), beq_eq_false_iff_ne]; omega
        have d1' : ((m : Int) % 2 == 1) = false := by rw [beq_eq_false_iff_ne]; omega
        have hq : m / 2 ≠ 0 := by omega
        have d2 : decide (0 < (m : Int) / 2) = true := decide_eq_true (by omega)
        go_wp2_with (go_at_call 17; (with_reducible refine (iMulPair_any _ _ _ _ _).mono ?_); rintro e w1 ⟨r, i, rfl, hpe, hr, hi, hbn⟩; (first | (have HK1 := Lib.hid (HK.out.call hbn); have HP1 := Lib.hid (And.intro hpe (And.intro hr hi))) | (have HK2 := Lib.hid ((HK1.out.setR _ _).call hbn); have HP2 := Lib.hid (And.intro hpe (And.intro hr hi)))); clear hpe hr hi hbn; (first | (obtain ⟨q50, q51, q60, q61, q00, q01, y50, y51, y60, y61, y00, y01⟩ := HK2.out.facts) | (obtain ⟨p50, p51, p60, p61, p00, p01, x50, x51, x60, x61, x00, x01⟩ := HK1.out.facts)))
        go_roundw
        case rel => exact ⟨m / 2, _, _, by rw [hk1.out], by omega, HK1.out.setS _ _, HV.out.even (by omega) hq HP1.out.1⟩
        case measure => rw [hk1.out]; simp only [intOf, Int.toNat_natCast]; omega


end Go.Proofs.Ythoajaibaedjeaa
