/-
  The drawing of a list of floats.
-/
import Derived.Test.YtmjnnjjmfedlbaaDoorSz
import Derived.Test.YtmjnnjjmfedlbaaDoorDbi
import Derived.Test.YtmjnnjjmfedlbaaDoorFb
import Derived.Test.YtmjnnjjmfedlbaaDoorTd
namespace Go.Proofs.YtmjnnjjmfedlbaaDoor
set_option linter.unusedSimpArgs false
set_option linter.unusedVariables false
open Go.RowKit Go.Dr
open Go.Fl (fl fres fres_lt feq)

theorem nearest_lt (s : Bool) (m : Nat) (p : Int) : Ieee.double.nearest s m p < 2 ^ 64 := by
  unfold Ieee.Format.nearest
  dsimp only
  split
  · rw [Fl.word_neg]; split <;> decide
  · rw [Fl.word_neg]
    have hinf : Ieee.double.infRung = 2047 * 2 ^ 52 := rfl
    rw [hinf]
    split <;> omega
theorem floatOfInt_lt (n : Int) : floatOfInt .f64 n < 2 ^ 64 := nearest_lt _ _ _


set_option maxRecDepth 8000 in
set_option maxHeartbeats 1600000 in
theorem sL3Draw {w0 wi W : World} {g : Nat} {xs : List Int} (h : St w0 wi W g xs) :
    Calls Tryd.prog 73 #[.pointer (some ⟨g, 0, none⟩)] W fun e w' => ∃ r, e = .returned (fl r) ∧ r < 2 ^ 64 ∧ St w0 wi w' g xs := by
  have HS := Lib.hid h
  clear h
  go_enter Tryd.func73, Tryd.ntmps73
  go_wp2_with (first
    | (go_at_call 70; (first | (with_reducible refine (sBelow HS.out _).mono ?_) | (with_reducible refine (sBelow (HS.out.drewN _) _).mono ?_)); rintro e w1 ⟨v, rfl, hv, hs⟩; replace HS := Lib.hid hs; have HV := Lib.hid hv; clear hs hv)
    | (go_at_call 77; (with_reducible refine (sDrawBits_3 HS.out).mono ?_); rintro e w1 ⟨v, rfl, hv, hs⟩; replace HS := Lib.hid hs; obtain ⟨b, rfl⟩ := Int.eq_ofNat_of_zero_le hv.1; have HB := Lib.hid (show b < 2 ^ 64 by have := hv.2; omega); clear hs hv)
    | (go_at_call 86; (with_reducible refine (sFromBits_any _ _ HB.out).mono ?_); rintro e w1 ⟨r, rfl, -, hlt, hbn⟩; have HL := Lib.hid hlt; replace HS := Lib.hid (HS.out.below hbn); clear hlt hbn))
  all_goals try (go_ret; exact ⟨_, rfl, by first | exact HL.out | exact fres_lt _ _ _ _ | exact floatOfInt_lt _, by first | exact HS.out | exact HS.out.drewN _⟩)
  obtain ⟨k, hk⟩ := Int.eq_ofNat_of_zero_le HV.out.1
  have HK := Lib.hid (show k ≤ 60 by have := HV.out.2 (by omega); omega)
  clear HV
  subst hk
  go_loopw [3, 4] (fun x i wr => ∃ (r j : Nat), x = fl r ∧ i = .int .i64 (j : Int) ∧ r < 2 ^ 64 ∧ j ≤ 60 ∧ Hid (St w0 wi wr g xs)) (fun _ i _ => (intOf i).toNat)
  case atStart => exact ⟨_, k, rfl, rfl, fres_lt _ _ _ _, HK.out, HS.out⟩
  case round =>
    clear HS
    obtain ⟨r, j, rfl, rfl, hr, hj, HS⟩ := hrel
    have HR := Lib.hid hr
    clear hr
    cases j with
    | zero =>
      go_wp2
      go_ret
      exact ⟨_, rfl, HR.out, HS.out⟩
    | succ j =>
      have hp : decide (0 < ((j + 1 : Nat) : Int)) = true := decide_eq_true (by omega)
      have hk1 := Lib.hid (show wrap64 (j : Int) = (j : Int) from wrap_id (by omega) (by omega))
      have HJ := Lib.hid hj
      go_wp2
      go_roundw
      case rel => exact ⟨_, j, rfl, by first | rfl | rw [hk1.out], fres_lt _ _ _ _, by have := HJ.out; omega, HS.out.drewN _⟩
      case measure => first | (rw [hk1.out]; simp only [intOf, Int.toNat_natCast]; omega) | (simp [intOf]; omega) | simp [intOf]


theorem same_any (a b : Nat) (ha : a < 2 ^ 64) (hb : b < 2 ^ 64) (h : feq a b) (w : World) :
    Calls Tryd.prog 31 #[fl a, fl b] w fun e w' => e = .returned (.bool true) ∧ Below w.heap.size w w' := by
  have H1 := Lib.hid (fun W => sToBits_any a W ha)
  have H2 := Lib.hid (fun W => sToBits_any b W hb)
  rw [cn_of h] at H1
  clear h ha hb
  go_enter Tryd.func31, Tryd.ntmps31
  go_wp2_with (go_at_call 51; (first | (with_reducible refine (H1.out _).mono ?_) | (with_reducible refine (H2.out _).mono ?_)); rintro e w1 ⟨rfl, hbn⟩; (first | (replace HW := Lib.hid (HW.out.trans (hbn.mono HW.out.size))) | (have HW := Lib.hid hbn)); clear hbn)
  go_ret
  exact ⟨by simp, HW.out⟩


section
variable {W W1 : World} {base : Nat} {v : Value} {ps : List Nat}
theorem OwnF.kp {g : Nat} (h : OwnF W base v ps) (hk : Kp W W1 g) (hn : v.ownBlock ≠ some g) : OwnF W1 base v ps := by
  refine ⟨h.1, ?_⟩
  rcases h.2 with hn | ⟨b, cap, cur, rfl, hb, hg, rest⟩
  · exact .inl hn
  · exact .inr ⟨b, cap, cur, rfl, hb, hk.blk hg (by intro e; subst e; exact hn rfl), rest⟩
theorem OwnF.ne_cu {w0 : World} {g : Nat} {xs : List Int} (h : OwnF W base v ps) (hc : Cu w0 W g xs) : v.ownBlock ≠ some g := by
  intro e
  rcases h.2 with ⟨rfl, _⟩ | ⟨b, cap, cur, rfl, hb, hg, _⟩
  · cases e
  · injection e with e
    subst e
    obtain ⟨A, c, i, x, hk, _⟩ := hc
    have := hg.symm.trans hk
    simp at this
theorem OwnF.st {w0 wi : World} {g : Nat} {xs : List Int} (h : OwnF W base v ps) (hs : St w0 wi W g xs) (hs1 : St w0 W W1 g xs) : OwnF W1 base v ps := h.kp hs1.2.2 (h.ne_cu hs.1)
end
theorem St.grownF {w0 wi W W1 : World} {g : Nat} {xs : List Int} {row : Option Nat} (h : St w0 wi W g xs) (hg : W.grownBy W1 row) (hn : row ≠ some g) (hr : ∀ k, row = some k → wi.heap.size ≤ k) (hw : w0.heap.size ≤ wi.heap.size) : St w0 wi W1 g xs := by
  obtain ⟨⟨A, c, i, x, hk, r⟩, hb, hp⟩ := h
  have hB := hb.size
  refine ⟨⟨A, c, i, x, (hg.block g hk.lt (fun e => hn e.symm)).trans hk, r⟩, hb.grown hg hB (fun k e => Nat.le_trans hw (hr k e)), ⟨Nat.le_trans hp.1 hg.size, fun i hi hne => ?_⟩⟩
  rw [hg.block i (Nat.lt_of_lt_of_le hi hp.1) (fun e => by have := hr i e.symm; omega)]
  exact hp.2 i hi hne
theorem appF_st {w0 wi w w' : World} {g : Nat} {xs : List Int} {base : Nat} {v : Value} {l : List Nat} {o : Obj} (hs : St w0 wi w g xs) (ho : OwnF w base v l) (hb : wi.heap.size ≤ base) (hw : w0.heap.size ≤ wi.heap.size) (hg : (w.alloc o).grownBy w' v.ownBlock) : St w0 wi w' g xs :=
  (hs.alloc o).grownF hg (ho.ne_cu hs.1) (fun k hk => Nat.le_trans hb (World.ownsRow.lt ho k hk).1) hw
theorem app_lt {ys : List Nat} {r : Nat} (h : ∀ y ∈ ys, y < 2 ^ 64) (hr : r < 2 ^ 64) : ∀ y ∈ ys ++ [r], y < 2 ^ 64 := fun y hy => by
  rcases List.mem_append.1 hy with hy | hy
  · exact h y hy
  · rw [List.mem_singleton.1 hy]; exact hr

set_option maxRecDepth 8000 in
set_option maxHeartbeats 3200000 in
theorem sDrawList {w0 W : World} {g : Nat} {xs : List Int} (h : St w0 W W g xs) (A : Option Addr) (n c : Nat) (hn : n ≤ 1048576) :
    Calls Tryd.prog 58 #[.pointer (some ⟨g, 0, none⟩), .slice A n c] W fun e w' => ∃ gy cap ys, e = .returned (.slice (some ⟨gy, 0, none⟩) ys.length cap) ∧ ys.length ≤ 201 ∧ (∀ y ∈ ys, y < 2 ^ 64) ∧ OwnF w' W.heap.size (.slice (some ⟨gy, 0, none⟩) ys.length cap) ys ∧ St w0 W w' g xs := by
  have HS := Lib.hid (h.alloc (.cells #[] 41))
  have HO := Lib.hid (show OwnF (W.alloc (.cells #[] 41)) W.heap.size (.slice (some ⟨W.heap.size, 0, none⟩) 0 0) [] from World.ownsRow_made W #[] 0 (Nat.le_refl _) (Nat.zero_le _) rfl)
  have HSZ := Lib.hid h.2.1.size
  have HN := Lib.hid hn
  clear h hn
  go_enter Tryd.func58, Tryd.ntmps58
  go_upto_region 4 with (first
    | (go_at_call 71; (with_reducible refine (l1Size_any A n c _ _ HN.out).mono ?_); rintro e w1 ⟨z, rfl, hz1, hz2, hb⟩; replace HO := Lib.hid (HO.out.below hb); replace HS := Lib.hid (HS.out.below hb); have HZ := Lib.hid (show 2 ≤ z ∧ z ≤ 30 from ⟨hz2 (by decide), hz1⟩); have hwz : wrap64 (z + 1) = z + 1 := wrap_id (by omega) (by omega); clear hz1 hz2 hb)
    | (go_at_call 70; (with_reducible refine (sBelow HS.out.turn _).mono ?_); rintro e w1 ⟨v, rfl, hv, hs⟩; replace HO := Lib.hid (HO.out.st HS.out hs); replace HS := Lib.hid (HS.out.back hs); obtain ⟨k, rfl⟩ := Int.eq_ofNat_of_zero_le hv.1; have HV := Lib.hid (show k ≤ 30 by have := HZ.out; have := hv.2 (by omega); omega); clear hs hv)
    | (go_at_call 72; (with_reducible refine (sOnce HS.out.turn _).mono ?_); rintro e w1 ⟨q, rfl, hs⟩; replace HO := Lib.hid (HO.out.st HS.out hs); replace HS := Lib.hid (HS.out.back hs); clear hs))
  · go_wp2_with (go_at_call 70; (with_reducible refine (sBelow HS.out.turn _).mono ?_); rintro e w1 ⟨v, rfl, hv, hs⟩; replace HO := Lib.hid (HO.out.st HS.out hs); replace HS := Lib.hid (HS.out.back hs); obtain ⟨k2, rfl⟩ := Int.eq_ofNat_of_zero_le hv.1; have HV2 := Lib.hid (show k2 ≤ 1 by have := hv.2 (by omega); omega); have hw200 : wrap64 (200 + (k2 : Int)) = ((200 + k2 : Nat) : Int) := (by have := HV2.out; rw [IntWalk.wrap64_in _ ⟨by omega, by omega⟩]; omega); clear hs hv)
    obtain ⟨K, hK2⟩ : ∃ K, K = 200 + k2 := ⟨_, rfl⟩
    have hK : K ≤ 201 := by have := HV2.out; omega
    try simp only [hw200, ← hK2]
    clear hw200 hK2
    have HK := Lib.hid (show K ≤ 201 by first | exact hK)
    clear hK
    go_loopw [5, 7] (fun v i wr => ∃ (j gy cap : Nat) (ys : List Nat), ys.length = j ∧ j ≤ K ∧ i = .int .i64 (j : Int) ∧ v = .slice (some ⟨gy, 0, none⟩) j cap ∧ Hid (∀ y ∈ ys, y < 2 ^ 64) ∧ Hid (OwnF wr W.heap.size (.slice (some ⟨gy, 0, none⟩) j cap) ys) ∧ Hid (St w0 W wr g xs)) (fun _ i _ => K - (intOf i).toNat)
    case atStart => exact ⟨0, _, 0, [], rfl, Nat.zero_le _, rfl, rfl, (fun y hy => by cases hy), HO.out, HS.out⟩
    case round =>
      rename_i wr hKK
      clear HS HO
      obtain ⟨j, gy, cap, ys, hyl, hj, rfl, rfl, HY, HO, HS⟩ := hrel
      by_cases hlt : j < K
      · have d1 : decide ((j : Int) < (K : Int)) = true := decide_eq_true (by omega)
        have hw1 : wrap64 ((j : Int) + 1) = ((j + 1 : Nat) : Int) := by have := HK.out; rw [IntWalk.wrap64_in _ ⟨by omega, by omega⟩]; omega
        have HL := Lib.hid (show ys.length ≤ 1048576 by have := HK.out; omega)
        have HJ := Lib.hid hyl
        clear hyl
        go_wp2_with (first
          | (go_at_call 73; (with_reducible refine (sL3Draw HS.out.turn).mono ?_); rintro e w1 ⟨r, rfl, hr, hs⟩; replace HO := Lib.hid (HO.out.st HS.out hs); replace HS := Lib.hid (HS.out.back hs); have HRL := Lib.hid hr; clear hs hr)
          | (at_builtin; refine appF rfl (.tmp 24) (.tmp 27) rfl W.heap.size (.slice (some ⟨gy, 0, none⟩) j cap) ys _ rfl HO.out (by intro e; cases e) rfl HL.out HS.out.2.2.1 ?_; intro g2 cap2 w2 hown hgrow; replace HS := Lib.hid (appF_st HS.out HO.out (Nat.le_refl _) HSZ.out hgrow); replace HO := Lib.hid hown; clear hown hgrow))
        go_roundw
        case rel => exact ⟨j + 1, _, _, ys ++ [_], by rw [List.length_append, HJ.out]; rfl, hlt, by first | rfl | go_num, by rw [HJ.out], app_lt HY.out HRL.out, by have h := HO.out; rwa [HJ.out] at h, HS.out⟩
        case measure => first | exact meas_step hlt | (rw [hw1]; exact meas_step hlt) | exact meas_step2 hlt
      · obtain rfl : j = K := by omega
        have d1 : decide ((j : Int) < (j : Int)) = false := decide_eq_false (by omega)
        have HJ := Lib.hid hyl
        clear hyl
        go_wp2
        go_ret
        exact ⟨gy, cap, ys, by rw [HJ.out]; rfl, by rw [HJ.out]; exact HK.out, HY.out, by rw [HJ.out]; exact HO.out, HS.out⟩
  · obtain rfl : q = false := by assumption
    have hK := HV.out
    obtain ⟨K, hK2⟩ : ∃ K, K = k := ⟨_, rfl⟩
    have hK : K ≤ 201 := by have := HV.out; omega
    try simp only [← hK2]
    clear hK2
    have HK := Lib.hid (show K ≤ 201 by first | exact hK)
    clear hK
    go_loopw [5, 7] (fun v i wr => ∃ (j gy cap : Nat) (ys : List Nat), ys.length = j ∧ j ≤ K ∧ i = .int .i64 (j : Int) ∧ v = .slice (some ⟨gy, 0, none⟩) j cap ∧ Hid (∀ y ∈ ys, y < 2 ^ 64) ∧ Hid (OwnF wr W.heap.size (.slice (some ⟨gy, 0, none⟩) j cap) ys) ∧ Hid (St w0 W wr g xs)) (fun _ i _ => K - (intOf i).toNat)
    case atStart => exact ⟨0, _, 0, [], rfl, Nat.zero_le _, rfl, rfl, (fun y hy => by cases hy), HO.out, HS.out⟩
    case round =>
      rename_i wr hKK
      clear HS HO
      obtain ⟨j, gy, cap, ys, hyl, hj, rfl, rfl, HY, HO, HS⟩ := hrel
      by_cases hlt : j < K
      · have d1 : decide ((j : Int) < (K : Int)) = true := decide_eq_true (by omega)
        have hw1 : wrap64 ((j : Int) + 1) = ((j + 1 : Nat) : Int) := by have := HK.out; rw [IntWalk.wrap64_in _ ⟨by omega, by omega⟩]; omega
        have HL := Lib.hid (show ys.length ≤ 1048576 by have := HK.out; omega)
        have HJ := Lib.hid hyl
        clear hyl
        go_wp2_with (first
          | (go_at_call 73; (with_reducible refine (sL3Draw HS.out.turn).mono ?_); rintro e w1 ⟨r, rfl, hr, hs⟩; replace HO := Lib.hid (HO.out.st HS.out hs); replace HS := Lib.hid (HS.out.back hs); have HRL := Lib.hid hr; clear hs hr)
          | (at_builtin; refine appF rfl (.tmp 24) (.tmp 27) rfl W.heap.size (.slice (some ⟨gy, 0, none⟩) j cap) ys _ rfl HO.out (by intro e; cases e) rfl HL.out HS.out.2.2.1 ?_; intro g2 cap2 w2 hown hgrow; replace HS := Lib.hid (appF_st HS.out HO.out (Nat.le_refl _) HSZ.out hgrow); replace HO := Lib.hid hown; clear hown hgrow))
        go_roundw
        case rel => exact ⟨j + 1, _, _, ys ++ [_], by rw [List.length_append, HJ.out]; rfl, hlt, by first | rfl | go_num, by rw [HJ.out], app_lt HY.out HRL.out, by have h := HO.out; rwa [HJ.out] at h, HS.out⟩
        case measure => first | exact meas_step hlt | (rw [hw1]; exact meas_step hlt) | exact meas_step2 hlt
      · obtain rfl : j = K := by omega
        have d1 : decide ((j : Int) < (j : Int)) = false := decide_eq_false (by omega)
        have HJ := Lib.hid hyl
        clear hyl
        go_wp2
        go_ret
        exact ⟨gy, cap, ys, by rw [HJ.out]; rfl, by rw [HJ.out]; exact HK.out, HY.out, by rw [HJ.out]; exact HO.out, HS.out⟩
end Go.Proofs.YtmjnnjjmfedlbaaDoor
