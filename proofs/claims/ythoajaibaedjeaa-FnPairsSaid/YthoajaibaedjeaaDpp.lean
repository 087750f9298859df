/-
  Contracts of the drawing of two pairs; pairs told to be the same.
-/
import Derived.Test.YthoajaibaedjeaaDbi
import Derived.Test.YthoajaibaedjeaaFb
import Derived.Test.YthoajaibaedjeaaTd
import Derived.Test.YthoajaibaedjeaaBe
namespace Go.Proofs.Ythoajaibaedjeaa
set_option linter.unusedSimpArgs false
set_option linter.unusedVariables false
open Go.RowKit Go.Dr
open Go.Fl (fl pr fres fres_lt feq peq)

theorem nearest_lt (s : Bool) (m : Nat) (p : Int) : Ieee.double.nearest s m p < 2 ^ 64 := by
  unfold Ieee.Format.nearest
  dsimp only
  split
  · rw [Fl.word_neg]; split <;> decide
  · rw [Fl.word_neg]
    have hinf : Ieee.double.infRung = 2047 * 2 ^ 52 := rfl
    rw [hinf]
    split <;> omega
theorem floatOfInt_lt (n : Int) : floatOfInt .f64 n < 2 ^ 64 := nearest_lt _ _ _

set_option maxRecDepth 8000 in
set_option maxHeartbeats 1600000 in
theorem sL3Draw {w0 wi W : World} {g : Nat} {xs : List Int} (h : St w0 wi W g xs) :
    Calls Try.prog 61 #[.pointer (some ⟨g, 0, none⟩)] W fun e w' => ∃ r, e = .returned (fl r) ∧ r < 2 ^ 64 ∧ St w0 wi w' g xs := by
  have HS := Lib.hid h
  clear h
  go_enter Try.func61, Try.ntmps61
  go_wp2_with (first
    | (go_at_call 47; (first | (with_reducible refine (sBelow HS.out _).mono ?_) | (with_reducible refine (sBelow (HS.out.drewN _) _).mono ?_)); rintro e w1 ⟨v, rfl, hv, hs⟩; replace HS := Lib.hid hs; have HV := Lib.hid hv; clear hs hv)
    | (go_at_call 67; (with_reducible refine (sDrawBits_3 HS.out).mono ?_); rintro e w1 ⟨v, rfl, hv, hs⟩; replace HS := Lib.hid hs; obtain ⟨b, rfl⟩ := Int.eq_ofNat_of_zero_le hv.1; have HB := Lib.hid (show b < 2 ^ 64 by have := hv.2; omega); clear hs hv)
    | (go_at_call 66; (with_reducible refine (sFromBits_any _ _ HB.out).mono ?_); rintro e w1 ⟨r, rfl, -, hlt, hbn⟩; have HL := Lib.hid hlt; replace HS := Lib.hid (HS.out.below hbn); clear hlt hbn))
  all_goals try (go_ret; exact ⟨_, rfl, by first | exact HL.out | exact fres_lt _ _ _ _ | exact floatOfInt_lt _, by first | exact HS.out | exact HS.out.drewN _⟩)
  obtain ⟨k, hk⟩ := Int.eq_ofNat_of_zero_le HV.out.1
  have HK := Lib.hid (show k ≤ 60 by have := HV.out.2 (by omega); omega)
  clear HV
  subst hk
  go_loopw [3, 4] (fun x i wr => ∃ (r j : Nat), x = fl r ∧ i = .int .i64 (j : Int) ∧ r < 2 ^ 64 ∧ j ≤ 60 ∧ Hid (St w0 wi wr g xs)) (fun _ i _ => (intOf i).toNat)
  case atStart => exact ⟨_, k, rfl, rfl, fres_lt _ _ _ _, HK.out, HS.out⟩
  case round =>
    clear HS
    obtain ⟨r, j, rfl, rfl, hr, hj, HS⟩ := hrel
    have HR := Lib.hid hr
    clear hr
    cases j with
    | zero =>
      go_wp2
      go_ret
      exact ⟨_, rfl, HR.out, HS.out⟩
    | succ j =>
      have hp : decide (0 < ((j + 1 : Nat) : Int)) = true := decide_eq_true (by omega)
      have hk1 := Lib.hid (show wrap64 (j : Int) = (j : Int) from wrap_id (by omega) (by omega))
      have HJ := Lib.hid hj
      go_wp2
      go_roundw
      case rel => exact ⟨_, j, rfl, by first | rfl | rw [hk1.out], fres_lt _ _ _ _, by have := HJ.out; omega, HS.out.drewN _⟩
      case measure => first | (rw [hk1.out]; simp only [intOf, Int.toNat_natCast]; omega) | (simp [intOf]; omega) | simp [intOf]

theorem Blk.offD {W : World} {t : TypeId} {g g' : Nat} {cs : Array Value} (h : Blk W g t cs) (hn : g ≠ g') (i : Nat) (u : Value) : Blk (W.setCell ⟨g', i, none⟩ u) g t cs := by
  unfold Blk at h ⊢
  simp [World.setCell, Array.getElem?_modify, h, Ne.symm hn]
theorem St.setOff {w0 wi W : World} {g b i : Nat} {xs : List Int} (h : St w0 wi W g xs) (hn : b ≠ g) (hb : wi.heap.size ≤ b) (hw : w0.heap.size ≤ b) (u : Value) : St w0 wi (W.setCell ⟨b, i, none⟩ u) g xs := by
  obtain ⟨⟨A, c, j, x, hk, r⟩, hbl, hp⟩ := h
  refine ⟨⟨A, c, j, x, Blk.offD hk hn.symm i u, r⟩, hbl.setCell (p := ⟨b, i, none⟩) hw u, ⟨by have := hp.1; simpa [World.setCell] using this, fun k hk2 hne => ?_⟩⟩
  rw [Below.heap_setCell W ⟨b, i, none⟩ u k (by show k ≠ b; omega)]
  exact hp.2 k hk2 hne

theorem sL4Draw {w0 wi W : World} {g : Nat} {xs : List Int} (h : St w0 wi W g xs) :
    Calls Try.prog 56 #[.pointer (some ⟨g, 0, none⟩)] W fun e w' => ∃ a b, e = .returned (pr a b) ∧ (a < 2 ^ 64 ∧ b < 2 ^ 64) ∧ St w0 wi w' g xs := by
  have HS := Lib.hid h
  have HB0 := Lib.hid (Blk.new W 25 #[fl 0, fl 0])
  have HNE := Lib.hid (show W.heap.size ≠ g ∧ wi.heap.size ≤ W.heap.size ∧ w0.heap.size ≤ W.heap.size from ⟨Nat.ne_of_gt h.1.lt, h.2.2.1, h.2.1.size⟩)
  clear h
  go_enter Try.func56, Try.ntmps56
  go_wp2_with (first
    | (go_at_call 48; (with_reducible refine (sOnce (HS.out.alloc _).turn _).mono ?_); rintro e w1 ⟨q, rfl, hs⟩; replace HB0 := Lib.hid (hs.2.2.blk HB0.out HNE.out.1); replace HS := Lib.hid ((HS.out.alloc _).back hs); clear hs)
    | (go_at_call 61; (with_reducible refine (sL3Draw HS.out.turn).mono ?_); rintro e w1 ⟨r, rfl, hlt, hs⟩; replace HB0 := Lib.hid (hs.2.2.blk HB0.out HNE.out.1); replace HS := Lib.hid (HS.out.back hs); (first | (have HL2 := Lib.hid (And.intro HL1.out hlt)) | (have HL1 := Lib.hid hlt)); have y0 := HB0.out.cell 0; have y1 := HB0.out.cell 1; have f0 := HB0.out.frozen 0; have f1 := HB0.out.frozen 1; clear hs hlt)
    | (go_at_call 47; (first | ((with_reducible refine (sBelow HS.out.turn _).mono ?_); rintro e w1 ⟨v, rfl, hv, hs⟩; replace HB0 := Lib.hid (hs.2.2.blk HB0.out HNE.out.1); replace HS := Lib.hid (HS.out.back hs)) | ((with_reducible refine (sBelow (HS.out.drewN _).turn _).mono ?_); rintro e w1 ⟨v, rfl, hv, hs⟩; replace HB0 := Lib.hid (hs.2.2.blk (HB0.out.drewN _) HNE.out.1); replace HS := Lib.hid ((HS.out.drewN _).back hs))); have y0 := HB0.out.cell 0; have y1 := HB0.out.cell 1; have f0 := HB0.out.frozen 0; have f1 := HB0.out.frozen 1; clear hs hv))
  · refine bodyPost_ret (v := pr _ _) (by simp [results, Try.results56, go_sem, *]) rfl ⟨_, _, rfl, HL2.out, ?_⟩
    exact (HS.out.setOff HNE.out.1 HNE.out.2.1 HNE.out.2.2 _).setOff HNE.out.1 HNE.out.2.1 HNE.out.2.2 _
  · refine bodyPost_ret (v := pr _ _) (by simp [results, Try.results56, go_sem, *]; exact ⟨rfl, rfl⟩) rfl ⟨_, _, rfl, ⟨fres_lt _ _ _ _, fres_lt _ _ _ _⟩, ?_⟩
    exact ((HS.out.drewN _).setOff HNE.out.1 HNE.out.2.1 HNE.out.2.2 _).setOff HNE.out.1 HNE.out.2.1 HNE.out.2.2 _
end Go.Proofs.Ythoajaibaedjeaa
