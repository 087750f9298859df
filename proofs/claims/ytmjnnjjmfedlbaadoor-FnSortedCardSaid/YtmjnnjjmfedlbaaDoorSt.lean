/-
  Sorting: two stretches change places.
-/
import Derived.Test.YtmjnnjjmfedlbaaDoorSs
namespace Go.Proofs.YtmjnnjjmfedlbaaDoor
set_option linter.unusedSimpArgs false
set_option linter.unusedVariables false
open Go.RowKit
open Go.Fl (fl isNan feq)

set_option maxRecDepth 8000 in
set_option maxHeartbeats 6400000 in
theorem iRot {w0 W : World} {g n cap a m b : Nat} {f : Nat → Nat} (hs : Ss w0 g n f W) (ham : a < m) (hmb : m < b) (hb : b ≤ n) (hn : n ≤ 200) :
    Calls Tryd.prog 100 #[.slice (some ⟨g, 0, none⟩) n cap, .int .i64 (a : Int), .int .i64 (m : Int), .int .i64 (b : Int), cmpF] W fun e w' => e = .returned (.tuple #[]) ∧ Ss w0 g n (fun t => f (rot a m b t)) w' := by
  have HS := Lib.hid hs
  clear hs
  obtain ⟨i0, hi0⟩ : ∃ i0, i0 = m - a := ⟨_, rfl⟩
  obtain ⟨j0, hj0⟩ : ∃ j0, j0 = b - m := ⟨_, rfl⟩
  have HD := Lib.hid (And.intro hi0 hj0)
  clear hi0 hj0
  go_enter Tryd.func100, Tryd.ntmps100
  go_wp2
  go_loopw [10, 11] (fun x y wr => ∃ (i j : Nat) (f1 : Nat → Nat), 0 < i ∧ 0 < j ∧ i ≤ m - a ∧ j ≤ b - m ∧ x = .int .i64 (i : Int) ∧ y = .int .i64 (j : Int) ∧ Hid (Ss w0 g n f1 wr ∧ ∀ t, f1 (rot (m - i) m (m + j) t) = f (rot a m b t))) (fun x y _ => (intOf x).toNat + (intOf y).toNat)
  case atStart =>
    have h1 := HD.out.1
    have h2 := HD.out.2
    exact ⟨i0, j0, f, by omega, by omega, by omega, by omega, congrArg (Value.int .i64) (by omega), congrArg (Value.int .i64) (by omega), HS.out, fun t => by rw [h1, h2, show m - (m - a) = a by omega, show m + (b - m) = b by omega]⟩
  case round =>
    rename_i wr
    clear HS
    obtain ⟨i, j, f1, hi, hj, hi2, hj2, rfl, rfl, HS⟩ := hrel
    obtain ⟨p, hp⟩ : ∃ p, p = m - i := ⟨_, rfl⟩
    by_cases heq : i = j
    · subst heq
      have d1 : ((i : Int) != (i : Int)) = false := by rw [bne_eq_false_iff_eq]
      have HC := Lib.hid (iSwr (cap := cap) (a := p) (b := m) (k := i) HS.out.1 (by omega) (by omega) hn)
      rw [show ((p : Nat) : Int) = (m : Int) - (i : Int) by omega] at HC
      have HF := Lib.hid (show (fun t => f1 (sr p m i t)) = fun t => f (rot a m b t) by funext t; show f1 (sr p m i t) = f (rot a m b t); rw [hp, rot_eq (by omega)]; exact HS.out.2 t)
      rw [HF.out] at HC
      clear hp HF
      go_wp2_with (go_at_call 101; (with_reducible refine HC.out.mono ?_); rintro e w1 ⟨rfl, hs⟩; have HS1 := Lib.hid hs; clear hs)
      refine bodyPost_end (results_none rfl _ _ _) rfl ⟨rfl, HS1.out⟩
    · have d1 : ((i : Int) != (j : Int)) = true := by rw [bne_iff_ne]; omega
      by_cases hgt : j < i
      · have d2 : decide ((j : Int) < (i : Int)) = true := decide_eq_true (by omega)
        have HC := Lib.hid (iSwr (cap := cap) (a := p) (b := m) (k := j) HS.out.1 (by omega) (by omega) hn)
        rw [show ((p : Nat) : Int) = (m : Int) - (i : Int) by omega] at HC
        obtain ⟨i', hi'⟩ : ∃ i', i' = i - j := ⟨_, rfl⟩
        have HF := Lib.hid (show ∀ t, (fun t => f1 (sr p m j t)) (rot (m - i') m (m + j) t) = f (rot a m b t) by intro t; show f1 (sr p m j (rot (m - i') m (m + j) t)) = f (rot a m b t); rw [hp, hi', rot_gt hgt (by omega)]; exact HS.out.2 t)
        have HXI := Lib.hid (show (i : Int) - (j : Int) = (i' : Int) by omega)
        have HX := Lib.hid (show 0 < i' ∧ i' ≤ m - a ∧ i' + j < i + j by omega)
        clear hp hi'
        go_wp2_with (go_at_call 101; (with_reducible refine HC.out.mono ?_); rintro e w1 ⟨rfl, hs⟩; have HS1 := Lib.hid hs; clear hs)
        go_roundw
        case rel => exact ⟨i', j, _, HX.out.1, hj, HX.out.2.1, hj2, congrArg (Value.int .i64) HXI.out, rfl, HS1.out, HF.out⟩
        case measure => have h := HX.out.2.2; have h2 := HXI.out; simp only [intOf, Int.toNat_natCast]; omega
      · have d2 : decide ((j : Int) < (i : Int)) = false := decide_eq_false (by omega)
        obtain ⟨q, hq⟩ : ∃ q, q = m + j - i := ⟨_, rfl⟩
        obtain ⟨mj, hmj⟩ : ∃ mj, mj = m + j := ⟨_, rfl⟩
        have HC := Lib.hid (iSwr (cap := cap) (a := p) (b := q) (k := i) HS.out.1 (by omega) (by omega) hn)
        rw [show ((p : Nat) : Int) = (m : Int) - (i : Int) by omega, show ((q : Nat) : Int) = (m : Int) + (j : Int) - (i : Int) by omega] at HC
        obtain ⟨j', hj'⟩ : ∃ j', j' = j - i := ⟨_, rfl⟩
        have HF := Lib.hid (show ∀ t, (fun t => f1 (sr p q i t)) (rot (m - i) m (m + j') t) = f (rot a m b t) by intro t; show f1 (sr p q i (rot (m - i) m (m + j') t)) = f (rot a m b t); rw [hp, hq, hj', rot_lt (by omega) (by omega)]; exact HS.out.2 t)
        have HXI := Lib.hid (show (j : Int) - (i : Int) = (j' : Int) by omega)
        have HX := Lib.hid (show 0 < j' ∧ j' ≤ b - m ∧ i + j' < i + j by omega)
        clear hp hq hmj hj'
        go_wp2_with (go_at_call 101; (with_reducible refine HC.out.mono ?_); rintro e w1 ⟨rfl, hs⟩; have HS1 := Lib.hid hs; clear hs)
        go_roundw
        case rel => exact ⟨i, j', _, hi, HX.out.1, hi2, HX.out.2.1, rfl, congrArg (Value.int .i64) HXI.out, HS1.out, HF.out⟩
        case measure => have h := HX.out.2.2; have h2 := HXI.out; simp only [intOf, Int.toNat_natCast]; omega
end Go.Proofs.YtmjnnjjmfedlbaaDoor
