/-
  The walk of the law FnBitsBack: whatever is drawn, it returns true.
-/
import Derived.Test.YtmjnnjjmfedlbaaDbi
import Derived.Test.YtmjnnjjmfedlbaaTd
namespace Go.Proofs.Ytmjnnjjmfedlbaa
set_option linter.unusedSimpArgs false
set_option linter.unusedVariables false
open Go.RowKit Go.Dr
open Go.Fl (fl isNan ford)

theorem hfield (k : Int) (n : Bool) (x m : Int) (W : World) : (Instr.field 33 (num k n x m) 0).run Try.prog W = .ok (.int .i64 k) W := by
  first | rfl | (simp [go_sem]; done) | kernel_rfl

theorem cn_lt {b : Nat} (h : b < 2 ^ 64) : cn b < 2 ^ 64 := by
  unfold cn
  split
  · decide
  · exact h

theorem sSame_any (a b : Nat) (ha : a < 2 ^ 64) (hb : b < 2 ^ 64) (h : cn a = cn b) (w : World) :
    Calls Try.prog 15 #[fl a, fl b] w fun e w' => e = .returned (.bool true) ∧ Below w.heap.size w w' := by
  have H1 := Lib.hid (fun W => sToBits_any a W ha)
  have H2 := Lib.hid (fun W => sToBits_any b W hb)
  rw [h] at H1
  clear h ha hb
  go_enter Try.func15, Try.ntmps15
  go_wp2_with (go_at_call 9; (first | (with_reducible refine (H1.out _).mono ?_) | (with_reducible refine (H2.out _).mono ?_)); rintro e w1 ⟨rfl, hbn⟩; (first | (replace HW := Lib.hid (HW.out.trans (hbn.mono HW.out.size))) | (have HW := Lib.hid hbn)); clear hbn)
  go_ret
  exact ⟨by simp, HW.out⟩

theorem sPack_nan (w : World) : Calls Try.prog 14 #[.int .i64 3, .int .i64 1, .agg #[.int .i64 3, .bool false, .int .i64 0, .int .u64 0]] w fun en w' => en = .returned (.tuple #[.int .u64 9221120237041090560, .int .i64 0]) ∧ Below w.heap.size w w' := by
  have HM := Lib.hid (show ∀ W, Calls Try.prog 27 #[.int .i64 1] W fun e w' => e = .returned (.bool true) ∧ w' = W by
    intro W
    go_enter Try.func27, Try.ntmps27
    go_wp2_with (go_at_call 28; (with_reducible refine (In_true 1 1 5 (by decide) _).mono ?_); rintro e w1 ⟨rfl, rfl⟩)
    go_ret
    exact ⟨rfl, rfl⟩)
  go_enter Try.func14, Try.ntmps14
  go_wp2_with (first
    | (go_at_call 25; (with_reducible refine (sForm_3 _).mono ?_); rintro e w1 ⟨rfl, rfl⟩)
    | (go_at_call 27; (with_reducible refine (HM.out _).mono ?_); rintro e w1 ⟨rfl, rfl⟩)
    | (go_at_call 28; (with_reducible refine (In_true 3 0 3 (by decide) _).mono ?_); rintro e w1 ⟨rfl, rfl⟩)
    | (go_at_call 19; (with_reducible refine (sPlain_3 _).mono ?_); rintro e w1 ⟨rfl, rfl⟩))
  go_ret2
  exact ⟨rfl, (Below.refl _ _).alloc (Nat.le_refl _) _⟩

theorem sUnpack_nan (b : Nat) (w : World) (h : b < 2 ^ 64) (hn : isNan b = true) : Calls Try.prog 13 #[.int .i64 3, .int .u64 (b : Int)] w fun e w' => e = .returned (num 3 false 0 0) ∧ Below w.heap.size w w' :=
  (sUnpack_3 b w h).mono fun e w' ⟨v, he, hu, hb⟩ => by
    rw [Fl.isNan_rung, decide_eq_true_iff] at hn
    rcases hu with ⟨h1, _⟩ | ⟨_, rfl⟩ | ⟨h1, _⟩ | ⟨_, h1, _⟩
    · omega
    · exact ⟨he, hb⟩
    · omega
    · omega

theorem sUnpack_num (b : Nat) (w : World) (h : b < 2 ^ 64) (hn : isNan b = false) : Calls Try.prog 13 #[.int .i64 3, .int .u64 (b : Int)] w fun e w' => ∃ k n x m, e = .returned (num k n x m) ∧ (k == 3) = false ∧ Below w.heap.size w w' :=
  (sUnpack_3 b w h).mono fun e w' ⟨v, he, hu, hb⟩ => by
    rw [Fl.isNan_rung, decide_eq_false_iff_not] at hn
    rcases hu with ⟨h1, rfl⟩ | ⟨h1, _⟩ | ⟨h1, rfl⟩ | ⟨_, h1, x, m, rfl, _⟩
    · exact ⟨_, _, _, _, he, by decide, hb⟩
    · omega
    · exact ⟨_, _, _, _, he, by decide, hb⟩
    · exact ⟨_, _, _, _, he, by decide, hb⟩

set_option maxRecDepth 8000 in
set_option maxHeartbeats 1600000 in
theorem walk_FnBitsBack (A : Option Addr) (n c : Nat) (xs : List Int) (w : World) (h : IRow .u8 w A n c xs ∧ ∀ n ∈ xs, (Lit.int .u8 n).wf = true) :
    Calls Try.prog 5 #[.slice A n c] w fun e w' => e = .returned (.bool true) ∧ Below w.heap.size w w' := by
  have HH := Lib.hid h.1
  clear h
  have HG := Lib.hid (big_any A n c)
  by_cases hn : (n : Int) > 1048576
  · have d : decide ((n : Int) > 1048576) = true := decide_eq_true hn
    rw [d] at HG
    clear hn
    go_enter Try.func5, Try.ntmps5
    go_wp2_with ((go_at_call 11; (with_reducible refine (HG.out _).mono ?_); rintro e w1 ⟨rfl, hbn⟩; have HB1 := Lib.hid hbn; clear hbn))
    go_ret
    exact ⟨rfl, HB1.out⟩
  have d : decide ((n : Int) > 1048576) = false := decide_eq_false hn
  rw [d] at HG
  have HN := Lib.hid (show n ≤ 1048576 by omega)
  clear hn
  go_enter Try.func5, Try.ntmps5
  go_wp2_with (first
    | (go_at_call 11; (with_reducible refine (HG.out _).mono ?_); rintro e w1 ⟨rfl, hbn⟩; have HB1 := Lib.hid hbn; clear hbn)
    | (go_at_call 12; (with_reducible refine (sDrawFB _ _ _ _ _ (HH.out.below HB1.out) HN.out).mono ?_); rintro e w2 ⟨b, rfl, hb, hbn⟩; have HB := Lib.hid hb; replace HB1 := Lib.hid (HB1.out.trans (hbn.mono HB1.out.size)); clear hbn hb; have HF0 := Lib.hid (fun W => iFromBits_any b W HB.out); cases hnan : isNan b)
    | (go_at_call 7; (first | ((with_reducible refine (HF0.out _).mono ?_); rintro e w3 ⟨rfl, rfl⟩; (first | rw [cn_num hnan] | rw [cn_nan hnan])) | ((with_reducible refine (iFromBits_any _ _ (by decide)).mono ?_); rintro e w3 ⟨rfl, rfl⟩))))
  · have ho : FloatKind.f64.format.order b b = some .eq := Fl.ford_self hnan
    have HU := Lib.hid (fun W => sUnpack_num b W HB.out hnan)
    have HT := Lib.hid (iToBits_any b)
    have HF := Lib.hid (fun W => iFromBits_any b W HB.out)
    rw [cn_num hnan] at HT HF
    have HS := Lib.hid (fun W => sSame_any b b HB.out HB.out rfl W)
    clear hnan HF0
    go_wp2_with (first
      | (go_at_call 13; (with_reducible refine (HU.out _).mono ?_); rintro e w4 ⟨k, n4, x4, m4, rfl, hk4, hbn⟩; have hfl := hfield k n4 x4 m4; replace HB1 := Lib.hid (HB1.out.trans (hbn.mono HB1.out.size)); clear hbn)
      | (go_at_call 10; (with_reducible refine (HT.out _).mono ?_); rintro e w4 ⟨rfl, rfl⟩)
      | (go_at_call 7; (with_reducible refine (HF.out _).mono ?_); rintro e w4 ⟨rfl, rfl⟩)
      | (go_at_call 15; (with_reducible refine (HS.out _).mono ?_); rintro e w4 ⟨rfl, hbn⟩; replace HB1 := Lib.hid (HB1.out.trans (hbn.mono HB1.out.size)); clear hbn))
    all_goals go_ret
    all_goals (refine ⟨?_, HB1.out⟩; simp_all [bne])
  · have hp : isNan 9221120237041090560 = true := Fl.isNan_qnan
    have ho : FloatKind.f64.format.order 9221120237041090560 9221120237041090560 = none := Fl.ford_nan_left hp _
    have HU := Lib.hid (fun W => sUnpack_nan b W HB.out hnan)
    have HT := Lib.hid (show ∀ W, Calls Try.prog 10 #[fl 9221120237041090560] W fun e w' => e = .returned (.int .u64 9221120237041090560) ∧ w' = W by
      intro W
      have h2 := iToBits_any 9221120237041090560 W
      rw [cn_nan hp] at h2
      exact h2)
    have HF := Lib.hid (show ∀ W, Calls Try.prog 7 #[.int .u64 9221120237041090560] W fun e w' => e = .returned (fl 9221120237041090560) ∧ w' = W by
      intro W
      have h2 := iFromBits_any 9221120237041090560 W (by decide)
      rw [cn_nan hp] at h2
      exact h2)
    have HS := Lib.hid (fun W => sSame_any 9221120237041090560 9221120237041090560 (by decide) (by decide) rfl W)
    clear hnan HF0 hp
    go_wp2_with (first
      | (go_at_call 13; (with_reducible refine (HU.out _).mono ?_); rintro e w4 ⟨rfl, hbn⟩; have hfl := hfield 3 false 0 0; replace HB1 := Lib.hid (HB1.out.trans (hbn.mono HB1.out.size)); clear hbn)
      | (go_at_call 14; (with_reducible refine (sPack_nan _).mono ?_); rintro e w4 ⟨rfl, hbn⟩; replace HB1 := Lib.hid (HB1.out.trans (hbn.mono HB1.out.size)); clear hbn)
      | (go_at_call 10; (with_reducible refine (HT.out _).mono ?_); rintro e w4 ⟨rfl, rfl⟩)
      | (go_at_call 7; (with_reducible refine (HF.out _).mono ?_); rintro e w4 ⟨rfl, rfl⟩)
      | (go_at_call 15; (with_reducible refine (HS.out _).mono ?_); rintro e w4 ⟨rfl, hbn⟩; replace HB1 := Lib.hid (HB1.out.trans (hbn.mono HB1.out.size)); clear hbn))
    all_goals go_ret
    all_goals exact ⟨rfl, HB1.out⟩
end Go.Proofs.Ytmjnnjjmfedlbaa
