/-
  Walks of the laws Power2, Bar, TwoSum and Equal.
-/
import Derived.Test.YtlhiaajacfganaaBe
import Derived.Test.YtlhiaajacfganaaA
import Derived.Deep.RegionHeld3
namespace Go.Proofs.Ytlhiaajacfganaa
set_option linter.unusedSimpArgs false
set_option linter.unusedVariables false
open Go.RowKit Go.Fl

theorem walk_FnExactPower2 (a b : Nat) (w : World) (ha : a < 2 ^ 64) (hb : b < 2 ^ 64) :
    Calls Try.prog 5 #[pr a b] w fun e w' => e = .returned (.bool true) ∧ Below w.heap.size w w' := by
  clear ha hb
  go_enter Try.func5, Try.ntmps5
  go_wp2_with fail
  refine (toPair_any _ _ _).mono ?_
  rintro e w1 ⟨rfl, hb1⟩
  obtain ⟨hc1, hf1⟩ := bcell hb1
  have hm1 := blt hb1
  go_wp2_with fail
  refine (sPower2_any _ _ _).mono ?_
  rintro e w2 ⟨r, rfl, hr, -, hb2⟩
  have HR := Lib.hid hr
  clear hr
  obtain ⟨hc2, hf2⟩ := bcell hb2
  have hm2 := blt hb2
  go_wp2_with fail
  refine (toPair_any _ _ _).mono ?_
  rintro e w3 ⟨rfl, hb3⟩
  go_wp2_with fail
  refine (iPower2_any _ _ _).mono ?_
  rintro e w4 ⟨r', rfl, hr', -, hb4⟩
  have HR' := Lib.hid hr'
  clear hr'
  go_wp2_with fail
  refine (sameFloat_any _ _ (HR'.out.trans HR.out.symm) _).mono ?_
  rintro e w5 ⟨rfl, hb5⟩
  go_wp2_with fail
  go_ret
  exact ⟨rfl, (((Below.refl _ _).alloc (Nat.le_refl _) _).trans ((chain (chain (chain (chain hb1 hb2) hb3) hb4) hb5).mono (by simp)))⟩

theorem walk_FnExactBar (a b : Nat) (w : World) (ha : a < 2 ^ 64) (hb : b < 2 ^ 64) :
    Calls Try.prog 8 #[pr a b] w fun e w' => e = .returned (.bool true) ∧ Below w.heap.size w w' := by
  have HA := Lib.hid ha
  have HB := Lib.hid hb
  clear ha hb
  go_enter Try.func8, Try.ntmps8
  go_wp2_with fail
  refine (toPair_any _ _ _).mono ?_
  rintro e w1 ⟨rfl, hb1⟩
  have x1 : BoxAt a b w.heap.size w1 := BoxAt.below ⟨by simp, by simp [go_sem], by simp [go_sem]⟩ hb1
  have y1 : Below w.heap.size w w1 := ((Below.refl _ _).alloc (Nat.le_refl _) _).trans (hb1.mono (by simp))
  obtain ⟨k1, k2, k3⟩ := x1
  have Y1 := Lib.hid y1
  clear hb1 y1
  go_wp2_with fail
  refine (sBar_any _ _ _ HA.out HB.out).mono ?_
  rintro e w2 ⟨r, i, rfl, hr, -, -, hb2⟩
  have x2 : BoxAt a b w.heap.size w2 := BoxAt.below ⟨k1, k2, k3⟩ hb2
  have HR := Lib.hid hr
  have Y2 := Lib.hid (Y1.out.trans (hb2.mono Y1.out.size))
  clear hb2 hr k1 k2 k3 Y1
  obtain ⟨k1, k2, k3⟩ := x2
  have kk : w.heap.size < w2.heap.size + 1 := by omega
  go_wp2_with fail
  refine (toPair_any _ _ _).mono ?_
  rintro e w3 ⟨rfl, hb3⟩
  have x3 : BoxAt r i w2.heap.size w3 := BoxAt.below ⟨by simp, by simp [go_sem], by simp [go_sem]⟩ hb3
  have Y3 := Lib.hid ((Y2.out.alloc Y2.out.size _).trans (hb3.mono (by simp; omega)))
  clear hb3 k1 k2 k3 Y2 kk
  obtain ⟨k1, k2, k3⟩ := x3
  go_wp2_with fail
  refine (iBar_any _ _ _ HA.out HB.out).mono ?_
  rintro e w4 ⟨r', i', rfl, hr', -, -, hb4⟩
  have x4 : BoxAt r i w2.heap.size w4 := BoxAt.below ⟨k1, k2, k3⟩ hb4
  have HR' := Lib.hid hr'
  have Y4 := Lib.hid (Y3.out.trans (hb4.mono Y3.out.size))
  clear hb4 hr' k1 k2 k3 Y3
  obtain ⟨k1, k2, k3⟩ := x4
  go_wp2_with fail
  refine (eqPair_any _ _ _ _ (HR'.out.trans HR.out.symm) _).mono ?_
  rintro e w5 ⟨rfl, hb5⟩
  go_wp2_with fail
  go_ret
  exact ⟨rfl, (Y4.out.alloc Y4.out.size _).trans (hb5.mono (by simp; have := Y4.out.size; omega))⟩

/-- What TwoSum comes to. -/
def twoP (a b : Nat) : Nat × Nat :=
  (cop .add a b, cop .add (cop .sub a (cop .sub (cop .add a b) (cop .sub (cop .add a b) a))) (cop .sub b (cop .sub (cop .add a b) a)))

def RetT (v : Nat × Nat) (B : Nat) (w : World) (e : Ending) (w' : World) : Prop := ∃ r i, e = .returned (.tuple #[fl r, fl i]) ∧ peq (r, i) v ∧ Below B w w'

theorem sTwoSum_any (a b : Nat) (w : World) :
    Calls Try.prog 21 #[fl a, fl b] w (RetT (twoP a b) w.heap.size w) := by
  go_enter Try.func21, Try.ntmps21
  go_wp2
  go_ret2
  refine ⟨_, _, rfl, ⟨?_, ?_⟩, ?_⟩
  · repeat' (first | exact feq.refl _ | apply fres_cop)
  · repeat' (first | exact feq.refl _ | apply fres_cop)
  · repeat' (first | (with_reducible exact Below.refl _ _) | (with_reducible refine below_drewN ?_ _))

theorem iTwoSum_any (a b : Nat) (w : World) :
    Calls Try.prog 22 #[fl a, fl b] w (RetT (twoP a b) w.heap.size w) := by
  go_enter Try.func22, Try.ntmps22
  go_wp2
  go_ret2
  refine ⟨_, _, rfl, ⟨?_, ?_⟩, ?_⟩
  · repeat' (first | exact feq.refl _ | apply fres_cop)
  · repeat' (first | exact feq.refl _ | apply fres_cop)
  · repeat' (first | (with_reducible exact Below.refl _ _) | (with_reducible refine below_drewN ?_ _))

theorem walk_FnExactTwoSum (a b : Nat) (w : World) (ha : a < 2 ^ 64) (hb : b < 2 ^ 64) :
    Calls Try.prog 6 #[fl a, fl b] w fun e w' => e = .returned (.bool true) ∧ Below w.heap.size w w' := by
  clear ha hb
  go_enter Try.func6, Try.ntmps6
  go_wp2_with fail
  refine (sTwoSum_any _ _ _).mono ?_
  rintro e w1 ⟨r, i, rfl, hr, hb1⟩
  have HR := Lib.hid hr
  clear hr
  go_wp2_with fail
  refine (iTwoSum_any _ _ _).mono ?_
  rintro e w2 ⟨r', i', rfl, hr', hb2⟩
  have HR' := Lib.hid hr'
  clear hr'
  go_wp2_with fail
  refine (sameFloat_any _ _ (HR'.out.trans HR.out.symm).1 _).mono ?_
  rintro e w3 ⟨rfl, hb3⟩
  go_wp2_with fail
  refine (sameFloat_any _ _ (HR'.out.trans HR.out.symm).2 _).mono ?_
  rintro e w4 ⟨rfl, hb4⟩
  go_wp2_with fail
  go_ret
  exact ⟨rfl, chain (chain (chain hb1 hb2) hb3) hb4⟩

set_option maxHeartbeats 800000 in
theorem walk_FnExactEqual (a b c d : Nat) (w : World) (ha : a < 2 ^ 64) (hb : b < 2 ^ 64) (hc : c < 2 ^ 64) (hd : d < 2 ^ 64) :
    Calls Try.prog 4 #[pr a b, pr c d] w fun e w' => e = .returned (.bool true) ∧ Below w.heap.size w w' := by
  clear ha hb hc hd
  go_enter Try.func4, Try.ntmps4
  go_wp2_with fail
  go_region_held3 (fun wx => (∀ z y, z < ((w.alloc (.cells #[fl a, fl b] 25)).alloc (.cells #[fl c, fl d] 25)).heap.size → wx.cell? ⟨z, y, none⟩ = ((w.alloc (.cells #[fl a, fl b] 25)).alloc (.cells #[fl c, fl d] 25)).cell? ⟨z, y, none⟩) ∧ Below ((w.alloc (.cells #[fl a, fl b] 25)).alloc (.cells #[fl c, fl d] 25)).heap.size ((w.alloc (.cells #[fl a, fl b] 25)).alloc (.cells #[fl c, fl d] 25)) wx)
    (first
      | exact keeps0 _
      | (refine keepsD ?_; assumption)
      | (refine keepsB hbn ?_; assumption))
    (first
      | (go_at_call 16; refine (toPair_any _ _ _).mono ?_; rintro e w1 ⟨rfl, hbn⟩)
      | (go_at_call 15; refine (sEqual_any _ _ _ _ _).mono ?_; rintro e w1 ⟨rfl, hbn⟩))
  go_wp2_with fail
  go_region_held3 (fun wx => (∀ z y, z < ((w.alloc (.cells #[fl a, fl b] 25)).alloc (.cells #[fl c, fl d] 25)).heap.size → wx.cell? ⟨z, y, none⟩ = ((w.alloc (.cells #[fl a, fl b] 25)).alloc (.cells #[fl c, fl d] 25)).cell? ⟨z, y, none⟩) ∧ Below ((w.alloc (.cells #[fl a, fl b] 25)).alloc (.cells #[fl c, fl d] 25)).heap.size ((w.alloc (.cells #[fl a, fl b] 25)).alloc (.cells #[fl c, fl d] 25)) wx)
    (first
      | exact keeps0 _
      | (refine keepsD ?_; assumption)
      | (refine keepsB hbn ?_; assumption))
    (first
      | (go_at_call 16; refine (toPair_any _ _ _).mono ?_; rintro e w1 ⟨rfl, hbn⟩)
      | (go_at_call 17; refine (iEqual_any _ _ _ _ _).mono ?_; rintro e w1 ⟨rfl, hbn⟩))
  go_wp2_with fail
  go_ret
  exact ⟨rfl, (boxes_of (t := 25) (by assumption)).2.2⟩

end Go.Proofs.Ytlhiaajacfganaa
