/-
  The walk of Near.
-/
import Derived.Test.YthoajaibaedjeaaNr
import Derived.Test.YthoajaibaedjeaaMb
import Derived.Test.YthoajaibaedjeaaSame
namespace Go.Proofs.Ythoajaibaedjeaa
set_option linter.unusedSimpArgs false
set_option linter.unusedVariables false
open Go.RowKit
open Go.Fl

def nearV (x : Nat) : Nat := if isNan x then qnan else rte x
theorem write_lt (d : Ieee.Datum) : Ieee.double.write d < 2 ^ 64 := by
  have hinf : Ieee.double.infRung = 2047 * 2 ^ 52 := rfl
  have hb : Ieee.double.binade = 2 ^ 52 := rfl
  cases d with
  | number s m p =>
    show Ieee.double.nearest s m p < 2 ^ 64
    unfold Ieee.Format.nearest
    dsimp only
    split
    · rw [word_neg]; split <;> decide
    · rw [word_neg, hinf]; split <;> omega
  | infinity s => show Ieee.double.word s _ < _; rw [word_neg, hinf]; split <;> omega
  | nan s t => show Ieee.double.word s (_ + t % _) < _; rw [word_neg, hinf, hb]; have := Nat.mod_lt t (show 0 < 2 ^ 52 by decide); split <;> omega

theorem quiet_nan (s : Bool) (t : Nat) : isNan (Ieee.double.write (.nan s (Ieee.double.quiet t))) = true := by
  have hinf : Ieee.double.infRung = 2047 * 2 ^ 52 := rfl
  have hb : Ieee.double.binade = 2 ^ 52 := rfl
  have hq : Ieee.double.quiet t = t ||| 2 ^ 51 := rfl
  rw [isNan_rung]
  apply decide_eq_true
  show 2047 * 2 ^ 52 < Ieee.double.word s (Ieee.double.infRung + Ieee.double.quiet t % Ieee.double.binade) % 2 ^ 63
  rw [hinf, hb, hq, word_neg]
  have hlt := Nat.mod_lt (t ||| 2 ^ 51) (show 0 < 2 ^ 52 by decide)
  have hne : (t ||| 2 ^ 51) % 2 ^ 52 ≠ 0 := by
    intro e
    have h1 : ((t ||| 2 ^ 51) % 2 ^ 52).testBit 51 = true := by
      rw [Nat.testBit_mod_two_pow, Nat.testBit_or, Nat.testBit_two_pow_self]; simp
    rw [e] at h1
    simp at h1
  generalize (t ||| 2 ^ 51) % 2 ^ 52 = u at *
  split <;> omega

theorem run_rte (x : Nat) (hx : x < 2 ^ 64) (W : World) : ∃ y k, feq y (nearV x) ∧ y < 2 ^ 64 ∧ (callFunc 53 #[fl x]).run Try.prog W = .ok (.value (fl y)) (W.drewN k) := by
  have h := run_callFunc_extern (e := Extern.MathFloor.toIntegral "math.RoundToEven" .even) Try.func53 (by kernel_rfl) (by kernel_rfl) (by kernel_rfl) (by kernel_rfl) #[fl x] W
  rw [h]
  clear h
  have hd : FloatKind.f64.decode x = Ieee.double.read x := rfl
  have num : ∀ d, Ieee.double.read x = d → d.isNaN = false → feq (rte x) (nearV x) := by
    intro d e hn
    have : isNan x = false := by unfold isNan; rw [e]; exact hn
    unfold nearV; rw [this]; exact feq.refl _
  cases hr : Ieee.double.read x with
  | number s m p =>
    refine ⟨rte x, 0, num _ hr rfl, write_lt _, ?_⟩
    change ((Sem.run Try.prog (Extern.MathFloor.toIntegral.match_1 (fun _ => Sem Value) (Ieee.double.read x) _ _) W).andThen _) = _
    rw [hr]
    unfold rte
    rw [hr]; rfl
  | infinity s =>
    refine ⟨rte x, 0, num _ hr rfl, write_lt _, ?_⟩
    change ((Sem.run Try.prog (Extern.MathFloor.toIntegral.match_1 (fun _ => Sem Value) (Ieee.double.read x) _ _) W).andThen _) = _
    rw [hr]
    unfold rte
    rw [hr]; rfl
  | nan s t =>
    have hn : isNan x = true := by unfold isNan; rw [hr]; rfl
    have hv : ∀ y, isNan y = true → feq y (nearV x) := by
      intro y hy
      unfold nearV; rw [hn]; exact .inr ⟨hy, isNan_qnan⟩
    by_cases hq : FloatKind.f64.format.quiet t = t
    · refine ⟨x, 0, hv x hn, hx, ?_⟩
      change ((Sem.run Try.prog (Extern.MathFloor.toIntegral.match_1 (fun _ => Sem Value) (Ieee.double.read x) _ _) W).andThen _) = _
      rw [hr]
      dsimp only
      rw [if_pos hq]; rfl
    · have hrun : ∀ (P : Program), (choose (.extern "math.Floor,Ceil,Trunc,RoundToEven.signallingNaN kept" 2)).run P W = .ok ((Question.extern "math.Floor,Ceil,Trunc,RoundToEven.signallingNaN kept" 2).cut (W.tape W.drawn (.extern "math.Floor,Ceil,Trunc,RoundToEven.signallingNaN kept" 2))) W.drew := by
        intro P; rw [run_choose_drew]; rfl
      generalize hkk : (Question.extern "math.Floor,Ceil,Trunc,RoundToEven.signallingNaN kept" 2).cut (W.tape W.drawn (.extern "math.Floor,Ceil,Trunc,RoundToEven.signallingNaN kept" 2)) = kk at hrun
      by_cases hk : (kk == 1) = true
      · refine ⟨x, 1, hv x hn, hx, ?_⟩
        change ((Sem.run Try.prog (Extern.MathFloor.toIntegral.match_1 (fun _ => Sem Value) (Ieee.double.read x) _ _) W).andThen _) = _
        rw [hr]
        dsimp only
        rw [if_neg hq, Sem.run_bind, hrun]
        simp only [Result.andThen, hk, if_true]
        rfl
      · refine ⟨Ieee.double.write (.nan s (Ieee.double.quiet t)), 1, hv _ (quiet_nan s t), write_lt _, ?_⟩
        change ((Sem.run Try.prog (Extern.MathFloor.toIntegral.match_1 (fun _ => Sem Value) (Ieee.double.read x) _ _) W).andThen _) = _
        rw [hr]
        dsimp only
        rw [if_neg hq, Sem.run_bind, hrun]
        simp only [Result.andThen, hk]
        rfl

theorem iNear_any (x : Nat) (hx : x < 2 ^ 64) (w : World) :
    Calls Try.prog 28 #[fl x] w fun e w' => ∃ r, e = .returned (fl r) ∧ feq r (nearV x) ∧ Below w.heap.size w w' := by
  obtain ⟨y, k, hy, hlt, hd⟩ := run_rte x hx w
  have hb := run_bits y
  have HF := Lib.hid (fun W => iFromBits_any y W hlt)
  have HY := Lib.hid hy
  clear hy hlt hx
  go_enter Try.func28, Try.ntmps28
  go_wp2_with (go_at_call 51; (with_reducible refine (HF.out _).mono ?_); rintro e w1 ⟨rfl, rfl⟩)
  go_ret
  exact ⟨_, rfl, (cn_feq y).trans HY.out, below_drewN (Below.refl _ _) _⟩

theorem sNear_any (x : Nat) (hx : x < 2 ^ 64) (w : World) :
    Calls Try.prog 27 #[fl x] w fun e w' => ∃ r, e = .returned (fl r) ∧ feq r (nearV x) ∧ Below w.heap.size w w' := by
  rcases near_parts x hx with hn | ⟨hn, hk⟩
  · have HV := Lib.hid (show feq x (nearV x) from by unfold nearV; rw [hn]; exact .inr ⟨hn, isNan_qnan⟩)
    have o1 : FloatKind.f64.format.order x x = none := ford_nan_left hn x
    clear hn hx
    go_enter Try.func27, Try.ntmps27
    go_wp2
    all_goals (go_ret; exact ⟨_, rfl, HV.out, by go_grown⟩)
  have HV := Lib.hid (show nearV x = rte x from by unfold nearV; rw [hn]; rfl)
  clear hn hx
  rcases hk with ⟨o1, hr, hk⟩ | ⟨o1, o2, o3, o4, y, hy1, hy2⟩ | ⟨o1, o2, o3, o4, y, z, hy1, hy2, hz⟩
  · have HR := Lib.hid hr
    clear hr
    rcases hk with o2 | ⟨o2, o3⟩ | ⟨o2, o3⟩ | ⟨o2, o3, o4⟩ | ⟨o2, o3, o4⟩
    all_goals (
      go_enter Try.func27, Try.ntmps27
      go_wp2
      all_goals (go_ret; exact ⟨_, rfl, by rw [HV.out, HR.out]; exact feq.refl _, by go_grown⟩))
  · have e1 : ∀ W, fres .add x 4841369599423283200 W = y := fres_some hy1
    have d1 := fdr_some hy1
    have e2 : ∀ W, fres .sub y 4841369599423283200 W = rte x := fres_some hy2
    have d2 := fdr_some hy2
    clear hy1 hy2
    go_enter Try.func27, Try.ntmps27
    go_wp2
    all_goals (go_ret; exact ⟨_, rfl, by rw [HV.out]; (try simp only [e1, e2]); exact feq.refl _, by first | exact Below.refl _ _ | exact below_drewN (Below.refl _ _) _ | exact below_drewN (below_drewN (Below.refl _ _) _) _⟩)
  · have e1 : ∀ W, fres .sub 4841369599423283200 x W = y := fres_some hy1
    have d1 := fdr_some hy1
    have e2 : ∀ W, fres .sub y 4841369599423283200 W = z := fres_some hy2
    have d2 := fdr_some hy2
    have HZ := Lib.hid hz
    clear hy1 hy2 hz
    go_enter Try.func27, Try.ntmps27
    go_wp2
    all_goals (go_ret; exact ⟨_, rfl, by rw [HV.out]; (try simp only [e1, e2]); rw [HZ.out]; exact feq.refl _, by first | exact Below.refl _ _ | exact below_drewN (Below.refl _ _) _ | exact below_drewN (below_drewN (Below.refl _ _) _) _⟩)

theorem walk_FnExactNear (x : Nat) (w : World) (hx : x < 2 ^ 64) :
    Calls Try.prog 6 #[fl x] w fun e w' => e = .returned (.bool true) ∧ Below w.heap.size w w' := by
  have HS := Lib.hid (sNear_any x hx)
  have HI := Lib.hid (iNear_any x hx)
  clear hx
  go_enter Try.func6, Try.ntmps6
  go_wp2_with (first
    | (go_at_call 27; (with_reducible refine (HS.out _).mono ?_); rintro e w1 ⟨r, rfl, hr, hb⟩; have HR := Lib.hid hr; have HB1 := Lib.hid hb; clear hr hb)
    | (go_at_call 28; (with_reducible refine (HI.out _).mono ?_); rintro e w2 ⟨q, rfl, hr, hb⟩; have HQ := Lib.hid (hr.trans HR.out.symm); replace HB1 := Lib.hid (chain HB1.out hb); clear hr hb)
    | (go_at_call 29; refine (sameFloat_any _ _ HQ.out _).mono ?_; rintro e w3 ⟨rfl, hb⟩; replace HB1 := Lib.hid (chain HB1.out hb); clear hb))
  go_ret
  exact ⟨rfl, HB1.out⟩
end Go.Proofs.Ythoajaibaedjeaa
