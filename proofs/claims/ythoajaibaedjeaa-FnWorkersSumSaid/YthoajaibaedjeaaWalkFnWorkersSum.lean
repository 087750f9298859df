/-
  The walk of the law FnWorkersSum: whatever is drawn, it returns true.
-/
import Derived.Test.YthoajaibaedjeaaDwp
import Derived.Test.YthoajaibaedjeaaSi
namespace Go.Proofs.Ythoajaibaedjeaa
set_option linter.unusedSimpArgs false
set_option linter.unusedVariables false
open Go.RowKit Go.Dr
open Go.Fl (PRow flat fl pr wi wi_def ford RetP peq sumP isNan_wi)

/-- Of pairs of small whole numbers: what any number of workers sums to. -/
theorem iSum_whole (A : Option Addr) (n c : Nat) (zs : List (Int × Int)) (k : Int) (w : World) (h : PRow w A n c (zs.map wz)) (hz : ∀ z ∈ zs, Lim 1000 z) (hl : zs.length ≤ 128) (hk : 1 ≤ k ∧ k ≤ 16) :
    Calls Try.prog 36 #[.slice A n c, .int .i64 k] w fun e w' => e = .returned (pr (wz (allZ zs zs.length)).1 (wz (allZ zs zs.length)).2) ∧ Below w.heap.size w w' :=
  (iSumPairs_any A n c _ k w h).mono fun e w' ⟨r, i, he, hp, _, _, hb⟩ => by
    obtain ⟨k0, rfl⟩ := Int.eq_ofNat_of_zero_le (show 0 ≤ k by omega)
    rw [sums_all hz hl k0 (by omega)] at hp
    have hq := Ok2.wz (M := 1000 * (zs.length : Int)) (by omega) (allZ_lim hz zs.length) hp
    rw [← hq]
    exact ⟨he, hb⟩

theorem iEqual_true (a b c d : Nat) (h : (ford a c == some .eq && ford b d == some .eq) = true) (w : World) :
    Calls Try.prog 22 #[pr a b, pr c d] w fun e w' => e = .returned (.bool true) ∧ Below w.heap.size w w' :=
  (iEqual_any a b c d w).mono fun e w' ⟨he, hb⟩ => ⟨by rw [he, h], hb⟩

theorem iAdd_whole (zs : List (Int × Int)) (i : Nat) (y0 y1 : Nat) (hy : ((zs.map wz).getD i (0, 0)) = (y0, y1)) (hz : ∀ z ∈ zs, Lim 1000 z) (hl : zs.length ≤ 128) (hi : i < zs.length) (w : World) :
    Calls Try.prog 20 #[pr (wz (allZ zs i)).1 (wz (allZ zs i)).2, pr y0 y1] w fun e w' => e = .returned (pr (wz (allZ zs (i + 1))).1 (wz (allZ zs (i + 1))).2) ∧ Below w.heap.size w w' :=
  (iAddPair_any _ _ _ _ w).mono fun e w' ⟨r, j, he, hp, _, _, hb⟩ => by
    have hs := all_step hz hi hl
    rw [hy] at hs
    rw [show ((wz (allZ zs i)).1, (wz (allZ zs i)).2) = wz (allZ zs i) from rfl, hs] at hp
    have hq := Ok2.wz (M := 1000 * ((i + 1 : Nat) : Int)) (by omega) (allZ_lim hz (i + 1)) hp
    rw [← hq]
    exact ⟨he, hb⟩

/-- What the loops know of the memory. -/
def Wk (wb : World) (g x0 x1 : Nat) (W : World) : Prop := Below wb.heap.size wb W ∧ Fl.Blk W g 25 #[fl x0, fl x1]
theorem Wk.below {wb : World} {g x0 x1 : Nat} {W W1 : World} (h : Wk wb g x0 x1 W) (hb : Below W.heap.size W W1) : Wk wb g x0 x1 W1 := ⟨h.1.trans (hb.mono h.1.size), h.2.below hb h.2.lt⟩
theorem Wk.drew {wb : World} {g x0 x1 : Nat} {W : World} (h : Wk wb g x0 x1 W) : Wk wb g x0 x1 W.drew := h.below (Below.refl _ _).drew
theorem Wk.off {wb : World} {g g6 x0 x1 : Nat} {W : World} (h : Wk wb g x0 x1 W) (hn : g ≠ g6) (h6 : wb.heap.size ≤ g6) (a b : Value) : Wk wb g x0 x1 ((W.setCell ⟨g6, 0, none⟩ a).setCell ⟨g6, 1, none⟩ b) :=
  ⟨(h.1.setCell (p := ⟨g6, 0, none⟩) h6 _).setCell (p := ⟨g6, 1, none⟩) h6 _, (h.2.off hn 0 _).off hn 1 _⟩
theorem Wk.set {wb : World} {g x0 x1 : Nat} {W : World} (h : Wk wb g x0 x1 W) (h6 : wb.heap.size ≤ g) (a b : Nat) : Wk wb g a b ((W.setCell ⟨g, 0, none⟩ (fl a)).setCell ⟨g, 1, none⟩ (fl b)) :=
  ⟨(h.1.setCell (p := ⟨g, 0, none⟩) h6 _).setCell (p := ⟨g, 1, none⟩) h6 _, (h.2.set_ 0 _).set_ 1 _⟩
theorem Wk.facts {wb : World} {g x0 x1 : Nat} {W : World} (h : Wk wb g x0 x1 W) : W.cell? ⟨g, 0, none⟩ = some (fl x0) ∧ W.cell? ⟨g, 1, none⟩ = some (fl x1) ∧ W.frozen? ⟨g, 0, none⟩ = false ∧ W.frozen? ⟨g, 1, none⟩ = false :=
  ⟨h.2.cell 0, h.2.cell 1, h.2.frozen 0, h.2.frozen 1⟩

theorem iSum_two (W : World) : Calls Try.prog 36 #[.slice (some ⟨W.heap.size, 0, none⟩) 1 1, .int .i64 3] (W.alloc (.cells #[fl 4611686018427387904, fl 0] 25)) fun e w' =>
    e = .returned (pr 4611686018427387904 0) ∧ Below (W.alloc (.cells #[fl 4611686018427387904, fl 0] 25)).heap.size (W.alloc (.cells #[fl 4611686018427387904, fl 0] 25)) w' := by
  have h2 : wi 2 = 4611686018427387904 := by decide
  have h0 : wi 0 = 0 := Fl.wi_zero
  have hb : Fl.PBlk (W.alloc (.cells #[fl 4611686018427387904, fl 0] 25)) W.heap.size 25 ([(2, 0)].map wz) := by
    show Fl.Blk _ _ _ #[fl (wi 2), fl (wi 0)]
    rw [h2, h0]
    exact Fl.Blk.new W _ _
  have key := iSum_whole _ _ _ [(2, 0)] 3 _ (hb.row (by decide)) (by intro z hz; obtain rfl := List.mem_singleton.1 hz; unfold Lim; decide) (by decide) (by decide)
  refine key.mono fun e w' ⟨he, hbb⟩ => ⟨?_, hbb⟩
  rw [he]
  have e1 : (wz (allZ [(2, 0)] [((2 : Int), (0 : Int))].length)).1 = wi 2 := rfl
  have e2 : (wz (allZ [(2, 0)] [((2 : Int), (0 : Int))].length)).2 = wi 0 := rfl
  rw [e1, e2, h2, h0]

set_option maxRecDepth 8000 in
set_option maxHeartbeats 1600000 in
theorem walk_FnWorkersSum (A : Option Addr) (n c : Nat) (xs : List Int) (w : World) (h : IRow .u8 w A n c xs ∧ ∀ n ∈ xs, (Lit.int .u8 n).wf = true) :
    Calls Try.prog 10 #[.slice A n c] w fun e w' => e = .returned (.bool true) ∧ Below w.heap.size w w' := by
  have HH := Lib.hid h.1
  clear h
  have HG := Lib.hid (big_any A n c)
  by_cases hn : (n : Int) > 1048576
  · have d : decide ((n : Int) > 1048576) = true := decide_eq_true hn
    rw [d] at HG
    clear hn
    go_enter Try.func10, Try.ntmps10
    go_wp2_with ((go_at_call 15; (with_reducible refine (HG.out _).mono ?_); rintro e w1 ⟨rfl, hbn⟩; have HB1 := Lib.hid hbn; clear hbn))
    go_ret
    exact ⟨rfl, HB1.out⟩
  have d : decide ((n : Int) > 1048576) = false := decide_eq_false hn
  rw [d] at HG
  have HN := Lib.hid (show n ≤ 1048576 by omega)
  clear hn
  go_enter Try.func10, Try.ntmps10
  go_wp2_with (first
    | (go_at_call 15; (with_reducible refine (HG.out _).mono ?_); rintro e w1 ⟨rfl, hbn⟩; have HB1 := Lib.hid hbn; clear hbn)
    | (go_at_call 41; (with_reducible refine (sDrawWhole _ _ _ _ _ (HH.out.below HB1.out) HN.out).mono ?_); rintro e w2 ⟨v, zs, rfl, hzl, hzz, ho, hbn⟩; have HL := Lib.hid hzl; have HZ := Lib.hid hzz; obtain ⟨A2, c2, rfl⟩ := ho.form; have HR := Lib.hid (show PRow w2 A2 zs.length c2 (zs.map wz) from (by have := ho.row.1; rwa [List.length_map] at this)); replace HB1 := Lib.hid (HB1.out.trans (hbn.mono HB1.out.size)); clear hbn ho hzl hzz)
    | (go_at_call 36; (with_reducible refine (iSum_whole _ _ _ zs 1 _ HR.out HZ.out (by have := HL.out; omega) (by omega)).mono ?_); rintro e w3 ⟨rfl, hbn⟩; replace HR := Lib.hid (HR.out.below hbn); replace HB1 := Lib.hid (HB1.out.trans (hbn.mono HB1.out.size)); clear hbn))
  have HE := Lib.hid (ford_wz (M := 1000 * (zs.length : Int)) (by have := HL.out; omega) (allZ_lim HZ.out zs.length))
  have HK0 := Lib.hid (show Wk w3 w3.heap.size (wz (allZ zs zs.length)).1 (wz (allZ zs zs.length)).2 (w3.alloc (.cells #[fl (wz (allZ zs zs.length)).1, fl (wz (allZ zs zs.length)).2] 25)) from
    ⟨(Below.refl _ _).alloc (Nat.le_refl _) _, Fl.Blk.new _ _ _⟩)
  have HTW := Lib.hid iSum_two
  have HET := Lib.hid (show (ford 4611686018427387904 4611686018427387904 == some .eq && ford 0 0 == some .eq) = true by decide)
  go_loopw [5] (fun i wr => ∃ k : Nat, 2 ≤ k ∧ k ≤ 17 ∧ i = .int .i64 (k : Int) ∧ Hid (Wk w3 w3.heap.size (wz (allZ zs zs.length)).1 (wz (allZ zs zs.length)).2 wr)) (fun i _ => 17 - (intOf i).toNat)
  case atStart => exact ⟨2, by omega, by omega, rfl, HK0.out⟩
  case round =>
    clear HK0
    obtain ⟨k, hk2, hk, rfl, HK⟩ := hrel
    obtain ⟨c0, c1, c2', c3⟩ := HK.out.facts
    by_cases h16 : k ≤ 16
    · have dk : decide ((k : Int) ≤ 16) = true := decide_eq_true (by omega)
      have H16 := Lib.hid (And.intro hk2 h16)
      have hk1 := Lib.hid (show wrap64 ((k : Int) + 1) = ((k + 1 : Nat) : Int) by rw [wrap_id (by omega) (by omega)]; omega)
      have HRa := Lib.hid (HR.out.below HK.out.1)
      have HRb := Lib.hid (HR.out.below HK.out.drew.1)
      clear hk2 hk
      go_wp2_with fail
      go_region_with (first
        | (go_at_call 36; (first | (with_reducible refine (iSum_whole _ _ _ zs _ wr HRa.out HZ.out (by have := HL.out; omega) (by have := H16.out; omega)).mono ?_) | (with_reducible refine (iSum_whole _ _ _ zs _ wr.drew HRb.out HZ.out (by have := HL.out; omega) (by have := H16.out; omega)).mono ?_)); rintro e w4 ⟨rfl, hbn⟩; (first | (have HK4 := Lib.hid (HK.out.below hbn)) | (have HK4 := Lib.hid (HK.out.drew.below hbn))); clear hbn; obtain ⟨p0, p1, p2, p3⟩ := HK4.out.facts)
        | (go_at_call 22; (with_reducible refine (iEqual_true _ _ _ _ HE.out _).mono ?_); rintro e w5 ⟨rfl, hbn⟩; have HK5 := Lib.hid (HK4.out.below hbn); clear hbn))
      all_goals go_wp2
      all_goals go_roundw
      all_goals first
        | exact ⟨k + 1, by have := H16.out; omega, by have := H16.out; omega, rfl, HK5.out⟩
        | (have := H16.out; simp only [intOf]; omega)
    · have dk : decide ((k : Int) ≤ 16) = false := decide_eq_false (by omega)
      clear hk2 hk
      have HK6 := Lib.hid (show Wk w3 wr.heap.size 0 0 (wr.alloc (.cells #[fl 0, fl 0] 25)) from ⟨HK.out.1.alloc HK.out.1.size _, Fl.Blk.new _ _ _⟩)
      have HK7 := Lib.hid (HK.out.below ((Below.refl _ _).alloc (Nat.le_refl _) (.cells #[fl 0, fl 0] 25)))
      obtain ⟨g6, hg6⟩ : ∃ g6, g6 = wr.heap.size := ⟨_, rfl⟩
      have HG6 := Lib.hid hg6
      have HN6 := Lib.hid (show w3.heap.size ≠ g6 ∧ w3.heap.size ≤ g6 by rw [hg6]; exact ⟨Nat.ne_of_lt HK.out.2.lt, HK.out.1.size⟩)
      rw [← hg6] at HK6
      clear hg6 c0 c1 c2' c3
      obtain ⟨wo, hwo⟩ : ∃ wo, wo = wr := ⟨_, rfl⟩
      subst hwo
      go_wp2_with fail
      go_loopw [7] (fun i wr => ∃ j : Nat, j ≤ zs.length ∧ i = .int .i64 (j : Int) ∧ Hid (Wk w3 w3.heap.size (wz (allZ zs zs.length)).1 (wz (allZ zs zs.length)).2 wr) ∧ Hid (Wk w3 g6 (wz (allZ zs j)).1 (wz (allZ zs j)).2 wr)) (fun i _ => zs.length - (intOf i).toNat)
      case atStart => exact ⟨0, Nat.zero_le _, rfl, HK7.out, by
        have e1 : (wz (allZ zs 0)).1 = 0 := Fl.wi_zero
        have e2 : (wz (allZ zs 0)).2 = 0 := Fl.wi_zero
        rw [e1, e2]; exact HK6.out⟩
      case round =>
        clear HK HK6 HK7
        obtain ⟨j, hj, rfl, HK, HK6⟩ := hrel
        have hg6 := HG6.out
        subst hg6
        obtain ⟨c0, c1, c2', c3⟩ := HK.out.facts
        obtain ⟨e0, e1, e2, e3⟩ := HK6.out.facts
        by_cases hjn : j < zs.length
        · have HRc := Lib.hid (HR.out.below HK.out.1)
          obtain ⟨b, off, rfl, hb, hc⟩ := HRc.out.2.2.2 (by omega)
          have HB := Lib.hid (HR.out.2.2.2 (by omega))
          have hd0 : wr.cell? ⟨b, off + j * 2, none⟩ = some (fl ((zs.map wz).getD j (0, 0)).1) := (hc j hjn).1
          have hd1 : wr.cell? ⟨b, off + j * 2 + 1, none⟩ = some (fl ((zs.map wz).getD j (0, 0)).2) := (hc j hjn).2
          obtain ⟨y, hy⟩ : ∃ y, (zs.map wz).getD j (0, 0) = y := ⟨_, rfl⟩
          rw [hy] at hd0 hd1
          obtain ⟨y0, y1⟩ := y
          have HY := Lib.hid hy
          clear hy hc
          have hq1 : (0 : Int) ≤ (j : Int) := by omega
          have hqn : (j : Int) < (zs.length : Int) := by omega
          have HJ := Lib.hid hjn
          have hkj := Lib.hid (show wrap64 ((j : Int) + 1) = ((j + 1 : Nat) : Int) by have := HL.out; rw [wrap_id (by omega) (by omega)]; omega)
          have HA := Lib.hid (fun W : World => iAdd_whole zs j y0 y1 HY.out HZ.out (by have := HL.out; omega) hjn W)
          go_wp2_with fail
          go_region_with (first
            | (go_at_call 20; (with_reducible refine (HA.out _).mono ?_); rintro e w4 ⟨rfl, hbn⟩; (first | (have HK4 := Lib.hid (HK.out.below hbn); have HK5 := Lib.hid (HK6.out.below hbn)) | (have HK4 := Lib.hid (HK.out.drew.below hbn); have HK5 := Lib.hid (HK6.out.drew.below hbn))); clear hbn; obtain ⟨p0, p1, p2, p3⟩ := HK5.out.facts))
          all_goals go_wp2
          all_goals go_roundw
          all_goals first
            | (rw [hkj.out]; have := HJ.out; simp only [intOf, Int.toNat_natCast]; omega)
            | exact ⟨j + 1, HJ.out, by rw [hkj.out], HK4.out.off HN6.out.1 HN6.out.2 _ _, HK5.out.set HN6.out.2 _ _⟩
        · obtain rfl : j = zs.length := by omega
          have hlt : w3.heap.size < wr.heap.size := HK.out.2.lt
          go_wp2_with (first
            | (go_at_call 36; (with_reducible refine (HTW.out _).mono ?_); rintro e w5 ⟨rfl, hbn⟩; have HW5 := Lib.hid ((HW4.out.alloc HW4.out.size _).trans (hbn.mono (by simp; have := HW4.out.size; omega))); clear hbn)
            | (go_at_call 22; (first | ((with_reducible refine (iEqual_true _ _ _ _ HE.out _).mono ?_); rintro e w5 ⟨rfl, hbn⟩; have HW4 := Lib.hid (HK.out.1.trans (hbn.mono HK.out.1.size)); clear hbn) | ((with_reducible refine (iEqual_true _ _ _ _ HET.out _).mono ?_); rintro e w5 ⟨rfl, hbn⟩; have HW6 := Lib.hid (HW5.out.trans (hbn.mono HW5.out.size)); clear hbn))))
          go_ret
          exact ⟨rfl, HB1.out.trans (HW6.out.mono HB1.out.size)⟩
end Go.Proofs.Ythoajaibaedjeaa
