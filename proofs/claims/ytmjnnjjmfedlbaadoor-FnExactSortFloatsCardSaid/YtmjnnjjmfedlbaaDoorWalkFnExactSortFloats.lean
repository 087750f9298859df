/-
  The walk of FnExactSortFloats.
-/
import Derived.Test.YtmjnnjjmfedlbaaDoorMf
namespace Go.Proofs.YtmjnnjjmfedlbaaDoor
set_option linter.unusedSimpArgs false
set_option linter.unusedVariables false
open Go.RowKit
open Go.Fl (fl isNan feq FRow)
open Go.Dr (Kp)

/-- The words of block g, not frozen. -/
def Hl (g n : Nat) (f : Nat → Nat) (W : World) : Prop := (∀ i, i < n → W.cell? ⟨g, i, none⟩ = some (fl (f i))) ∧ (∀ i, W.frozen? ⟨g, i, none⟩ = false) ∧ g < W.heap.size
section
variable {w W W1 : World} {g n c k : Nat} {f : Nat → Nat}
theorem Hl.below (h : Hl g n f W) (hb : Below W.heap.size W W1) : Hl g n f W1 :=
  ⟨fun i hi => (hb.cell (p := ⟨g, i, none⟩) h.2.2).trans (h.1 i hi), fun i => (World.frozen?_of_block (a := ⟨g, i, none⟩) (hb.block g h.2.2)).trans (h.2.1 i), Nat.lt_of_lt_of_le h.2.2 hb.size⟩
theorem Hl.kp (h : Hl g n f W) (hk : Kp W W1 k) (hne : g ≠ k) : Hl g n f W1 :=
  ⟨fun i hi => (hk.cell (p := ⟨g, i, none⟩) h.2.2 hne).trans (h.1 i hi), fun i => (World.frozen?_of_block (a := ⟨g, i, none⟩) (hk.2 g h.2.2 hne)).trans (h.2.1 i), Nat.lt_of_lt_of_le h.2.2 hk.1⟩
theorem Hl.frow (h : Hl g n f W) (hc : n ≤ c) (hm : c ≤ maxLen) : FRow W (some ⟨g, 0, none⟩) n c (lst n f) := by
  refine ⟨lst_length n f, hc, hm, fun _ => ⟨g, 0, rfl, h.2.2, fun i hi => ?_⟩⟩
  rw [Nat.zero_add, h.1 i hi]
  show _ = some (fl ((lst n f).getD i 0))
  rw [lst_at f hi]
theorem Ss.hl (h : Ss w g n f W) : Hl g n f W := ⟨h.1, h.2.1, h.2.2.1⟩
theorem _root_.Go.Proofs.YtmjnnjjmfedlbaaDoor.FBlk.hl {xs : List Nat} (h : FBlk W g xs) : Hl g xs.length (fun i => xs.getD i 0) W := by
  have hb : Fl.Blk W g 41 (xs.map fl).toArray := h
  refine ⟨fun i hi => ?_, fun i => hb.frozen i, hb.lt⟩
  rw [hb.cell i]
  simp [List.getD_eq_getElem?_getD, List.getElem?_eq_getElem hi, hi]
theorem Mk.held (h : Mk w g n f n W) (hc : n ≤ c) (hm : c ≤ maxLen) : Fl.Row W (some ⟨g, 0, none⟩) n c fun i => fl (floatOfInt .f64 (1 + (i : Int))) := h.row hc hm
end

set_option maxRecDepth 8000 in
set_option maxHeartbeats 6400000 in
theorem sfl_small (A : Option Addr) (c : Nat) (xs : List Nat) (w : World) (h : FRow w A xs.length c xs) (hx : ∀ x ∈ xs, x < 2 ^ 64) (hl : Lk w) (hn : xs.length ≤ 200) :
    Calls Tryd.prog 8 #[.slice A xs.length c] w fun e w' => e = .returned (.bool true) ∧ Below w.heap.size w w' := by
  have HR := Lib.hid h
  have HX := Lib.hid hx
  have HL := Lib.hid hl
  have HN := Lib.hid (show xs.length ≤ 1048576 by omega)
  have HN2 := Lib.hid hn
  have d : decide (1048576 < (xs.length : Int)) = false := decide_eq_false (by omega)
  have d' : decide ((xs.length : Int) > 1048576) = false := decide_eq_false (by omega)
  clear h hn hx hl
  go_enter Tryd.func8, Tryd.ntmps8
  go_upto_region 4 with (first
    | (go_at_call 24; (with_reducible refine (toFloat64S_any _ _ _ _ _ HR.out HN.out).mono ?_); rintro e w1 ⟨g1, rfl, hg1, hp1, hb1⟩; have H1 := Lib.hid (And.intro hg1 (And.intro hp1 hb1)); clear hg1 hp1 hb1)
    | (go_at_call 23; (with_reducible refine (sSortF _ _ _ _ (FBlk.row H1.out.2.1 HN.out) HX.out HN2.out).mono ?_); rintro e w2 ⟨gs, cs, fs, rfl, hc1, hc2, hs, hp, hso⟩; have HCS := Lib.hid (And.intro hc1 hc2); have H2 := Lib.hid (And.intro hs (And.intro hp hso)); clear hc1 hc2 hs hp hso))
  have HB2 := Lib.hid (show Below w.heap.size w w2 from Fl.chain H1.out.2.2 H2.out.1.2.2.2.2.1)
  have HS2 := Lib.hid (show Hl gs xs.length fs w2 ∧ w.heap.size ≤ gs from ⟨H2.out.1.hl, Nat.le_trans H1.out.2.2.size H2.out.1.2.2.2.1⟩)
  go_upto_region 5 with (go_at_call 24; (with_reducible refine (toFloat64S_any _ _ _ _ _ (HR.out.below HB2.out) HN.out).mono ?_); rintro e w3 ⟨gx, rfl, hgx, hpx, hbx⟩; have H3 := Lib.hid (And.intro hgx (And.intro hpx hbx)); clear hgx hpx hbx)
  have HB3 := Lib.hid (show Below w.heap.size w w3 from Fl.chain HB2.out H3.out.2.2)
  go_upto_region 6 with (go_at_call 25; (with_reducible refine (iSortF _ _ _ _ (FBlk.row H3.out.2.1 HN.out) HX.out HN2.out (HL.out.below HB3.out)).mono ?_); rintro e w4 ⟨gi, ci, fi, rfl, hc1, hc2, hs, hp, hso⟩; have HCI := Lib.hid (And.intro hc1 hc2); have H4 := Lib.hid (And.intro hs (And.intro hp hso)); clear hc1 hc2 hs hp hso)
  have HB34 := Lib.hid (show Below w3.heap.size w3 w4 from H4.out.1.2.2.2.2.1)
  have HB4 := Lib.hid (show Below w.heap.size w w4 from Fl.chain HB3.out HB34.out)
  have HPS := Lib.hid (show PermOn 0 xs.length (fun i => xs.getD i 0) fs ∧ SortOn 0 xs.length fs from H2.out.2)
  have HP := Lib.hid (show leq (lst xs.length fi) (lst xs.length fs) from lst_leq H4.out.2.1 HPS.out.1 H4.out.2.2 HPS.out.2)
  have HS4 := Lib.hid (show Hl gs xs.length fs w4 from (HS2.out.1.below H3.out.2.2).below HB34.out)
  have HX4 := Lib.hid (show Hl gx xs.length (fun i => xs.getD i 0) w4 ∧ FRow w4 (some ⟨gx, 0, none⟩) xs.length xs.length xs from ⟨(FBlk.hl H3.out.2.1).below HB34.out, (FBlk.row H3.out.2.1 HN.out).below HB34.out⟩)
  have HI4 := Lib.hid (show Hl gi xs.length fi w4 from H4.out.1.hl)
  have HZ := Lib.hid (show gs < gx ∧ gx < gi ∧ gi < w4.heap.size ∧ w.heap.size ≤ gs from ⟨by have h1 : gs < w2.heap.size := HS2.out.1.2.2; have h2 : w2.heap.size ≤ gx := H3.out.1; omega, by have h1 : gx < w3.heap.size := (FBlk.hl H3.out.2.1).2.2; have h2 : w3.heap.size ≤ gi := H4.out.1.2.2.2.1; omega, HI4.out.2.2, HS2.out.2⟩)
  clear H1 H2 H3 H4 HS2 HB2 HB3 HB34
  go_upto_region 8 with (go_at_call 26; (with_reducible refine (eqFloat64S_any _ _ _ _ _ _ _ _ _ (HI4.out.frow HCI.out.1 HCI.out.2) (HS4.out.frow HCS.out.1 HCS.out.2) HP.out HN.out).mono ?_); rintro e w5 ⟨rfl, hb⟩; have H5 := Lib.hid hb; clear hb)
  have HB5 := Lib.hid (show Below w.heap.size w w5 from Fl.chain HB4.out H5.out)
  go_upto_region 11 with (first
    | (go_at_call 24; (with_reducible refine (toFloat64S_any _ _ _ _ _ (HR.out.below HB5.out) HN.out).mono ?_); rintro e w6 ⟨g6, rfl, hg6, hp6, hb6⟩; have H6 := Lib.hid (And.intro hg6 (And.intro hp6 hb6)); clear hg6 hp6 hb6)
    | (go_at_call 26; (with_reducible refine (eqFloat64S_any _ _ _ _ _ _ _ _ _ ((HX4.out.2.below H5.out).below H6.out.2.2) (FBlk.row H6.out.2.1 HN.out) (leq.refl _) HN.out).mono ?_); rintro e w7 ⟨rfl, hb⟩; have H7 := Lib.hid hb; clear hb))
  have HB47 := Lib.hid (show Below w4.heap.size w4 w7 from Fl.chain (Fl.chain H5.out H6.out.2.2) H7.out)
  have HB7 := Lib.hid (show Below w.heap.size w w7 from Fl.chain HB4.out HB47.out)
  have HI7 := Lib.hid (HI4.out.below HB47.out)
  have HS7 := Lib.hid (HS4.out.below HB47.out)
  have HX7 := Lib.hid (HX4.out.1.below HB47.out)
  have HM1 := Lib.hid (markF gx xs.length xs.length _ w7 HX7.out.1 HX7.out.2.1 HX7.out.2.2 HN.out)
  have HZW := Lib.hid (show w.heap.size ≤ gx ∧ gs ≠ gx ∧ gi ≠ gx ∧ gs ≠ gi ∧ w.heap.size ≤ gi by have := HZ.out; omega)
  clear H5 H6 H7 HB5 HB4 HX4 HI4 HS4 HB47 HZ
  go_upto_region 12 with (go_at_call 27; (with_reducible refine HM1.out.mono ?_); rintro e w8 ⟨rfl, hm⟩; have H8 := Lib.hid hm; clear hm)
  have HB8 := Lib.hid (show Below w.heap.size w w8 from HB7.out.trans (H8.out.2.2.2.1.mono HZW.out.1))
  have HI8 := Lib.hid (HI7.out.kp H8.out.2.2.1 HZW.out.2.2.1)
  have HS8 := Lib.hid (HS7.out.kp H8.out.2.2.1 HZW.out.2.1)
  have q1 : decide (1 + (xs.length : Int) < 0) = false := decide_eq_false (by omega)
  have q2 : ¬ (1 + (xs.length : Int) < 0) := by omega
  clear HM1 H8 HB7 HI7 HS7 HX7
  go_upto_region 15 with (go_at_call 26; (with_reducible refine (eqFloat64S_any _ _ _ _ _ _ _ _ _ (HI8.out.frow HCI.out.1 HCI.out.2) (HS8.out.frow HCS.out.1 HCS.out.2) HP.out HN.out).mono ?_); rintro e w9 ⟨rfl, hb⟩; have H9 := Lib.hid hb; clear hb)
  have HI9 := Lib.hid (HI8.out.below H9.out)
  have HS9 := Lib.hid (HS8.out.below H9.out)
  have HB9 := Lib.hid (show Below w.heap.size w w9 from Fl.chain HB8.out H9.out)
  have HM2 := Lib.hid (markF gi xs.length ci _ w9 HI9.out.1 HI9.out.2.1 HI9.out.2.2 HN.out)
  clear HI8 HB8 HS8 H9
  go_upto_region 16 with (go_at_call 27; (with_reducible refine HM2.out.mono ?_); rintro e w10 ⟨rfl, hm⟩; have H10 := Lib.hid hm; clear hm)
  have HB10 := Lib.hid (show Below w.heap.size w w10 from HB9.out.trans (H10.out.2.2.2.1.mono HZW.out.2.2.2.2))
  have HS10 := Lib.hid (HS9.out.kp H10.out.2.2.1 HZW.out.2.2.2.1)
  have HG10 := Lib.hid (H10.out.held HCI.out.1 HCI.out.2)
  clear HM2 HI9 HB9 HS9 H10
  go_upto_region 22 with (go_at_call 28; (with_reducible refine (heldF _ _ _ _ HG10.out HN.out).mono ?_); rintro e w11 ⟨rfl, hw⟩; rw [hw]; clear hw)
  go_upto_region 23 with (first
    | (go_at_call 24; (with_reducible refine (toFloat64S_any _ _ _ _ _ (HR.out.below HB10.out) HN.out).mono ?_); rintro e w12 ⟨g12, rfl, hg12, hp12, hb12⟩; have H12 := Lib.hid (And.intro hg12 (And.intro hp12 hb12)); clear hg12 hp12 hb12)
    | (go_at_call 25; (with_reducible refine (iSortF _ _ _ _ (FBlk.row H12.out.2.1 HN.out) HX.out HN2.out ((HL.out.below HB10.out).below H12.out.2.2)).mono ?_); rintro e w13 ⟨gh, ch, fh, rfl, hc1, hc2, hs, hp, hso⟩; have HCH := Lib.hid (And.intro hc1 hc2); have H13 := Lib.hid (And.intro hs (And.intro hp hso)); clear hc1 hc2 hs hp hso))
  have HB13 := Lib.hid (show Below w10.heap.size w10 w13 from Fl.chain H12.out.2.2 H13.out.1.2.2.2.2.1)
  have HPZ := Lib.hid (show leq (lst xs.length fh) (lst xs.length fs) from lst_leq H13.out.2.1 HPS.out.1 H13.out.2.2 HPS.out.2)
  go_upto_region 25 with (go_at_call 26; (with_reducible refine (eqFloat64S_any _ _ _ _ _ _ _ _ _ (H13.out.1.hl.frow HCH.out.1 HCH.out.2) ((HS10.out.below HB13.out).frow HCS.out.1 HCS.out.2) HPZ.out HN.out).mono ?_); rintro e w14 ⟨rfl, hb⟩; have H14 := Lib.hid hb; clear hb)
  have HB14 := Lib.hid (show Below w10.heap.size w10 w14 from Fl.chain HB13.out H14.out)
  go_wp2_with (go_at_call 28; (with_reducible refine (heldF _ _ _ _ (HG10.out.below HB14.out) HN.out).mono ?_); rintro e w15 ⟨rfl, hw⟩; rw [hw]; clear hw)
  go_ret
  exact ⟨rfl, Fl.chain HB10.out HB14.out⟩

set_option maxRecDepth 8000 in
set_option maxHeartbeats 6400000 in
theorem sfl_mid (A : Option Addr) (c : Nat) (xs : List Nat) (w : World) (h : FRow w A xs.length c xs) (hn : 200 < xs.length) (hm : xs.length ≤ 1048576) :
    Calls Tryd.prog 8 #[.slice A xs.length c] w fun e w' => e = .returned (.bool true) ∧ Below w.heap.size w w' := by
  have HR := Lib.hid h
  have HN := Lib.hid hm
  have HN2 := Lib.hid hn
  have d : decide (1048576 < (xs.length : Int)) = false := decide_eq_false (by omega)
  have d' : decide ((xs.length : Int) > 1048576) = false := decide_eq_false (by omega)
  clear h hn hm
  have HE := Lib.hid (show ∀ (W : World) (g : Nat), FRow W (some ⟨g, 0, none⟩) 0 0 [] from fun W g => ⟨rfl, Nat.le_refl _, Nat.zero_le _, fun h => absurd h (by omega)⟩)
  have HE0 := Lib.hid (show ∀ W : World, FRow W none 0 0 [] from fun W => ⟨rfl, Nat.le_refl _, Nat.zero_le _, fun h => absurd h (by omega)⟩)
  go_enter Tryd.func8, Tryd.ntmps8
  go_upto_region 4 with (first
    | (go_at_call 24; (with_reducible refine (toFloat64S_any _ _ _ _ _ HR.out HN.out).mono ?_); rintro e w1 ⟨g1, rfl, hg1, hp1, hb1⟩; have H1 := Lib.hid (And.intro hg1 (And.intro hp1 hb1)); clear hg1 hp1 hb1)
    | (go_at_call 23; (with_reducible refine (sSortF_big _ _ _ _ HN2.out).mono ?_); rintro e w2 ⟨gs, rfl, hb⟩; have H2 := Lib.hid hb; clear hb))
  have HB2 := Lib.hid (show Below w.heap.size w w2 from Fl.chain H1.out.2.2 H2.out)
  clear H1 H2
  go_upto_region 5 with (go_at_call 24; (with_reducible refine (toFloat64S_any _ _ _ _ _ (HR.out.below HB2.out) HN.out).mono ?_); rintro e w3 ⟨gx, rfl, hgx, hpx, hbx⟩; have H3 := Lib.hid (And.intro hgx (And.intro hpx hbx)); clear hgx hpx hbx)
  have HB3 := Lib.hid (show Below w.heap.size w w3 from Fl.chain HB2.out H3.out.2.2)
  go_upto_region 6 with (go_at_call 25; (with_reducible refine (iSortF_big _ _ _ _ HN2.out).mono ?_); rintro e w4 ⟨rfl, hw⟩; rw [hw]; clear hw)
  go_upto_region 8 with (go_at_call 26; (with_reducible refine (eqFloat64S_any _ _ _ _ _ _ _ _ _ (HE0.out _) (HE.out _ _) (leq.refl _) (by decide)).mono ?_); rintro e w5 ⟨rfl, hb⟩; have H5 := Lib.hid hb; clear hb)
  have HB5 := Lib.hid (show Below w.heap.size w w5 from Fl.chain HB3.out H5.out)
  go_upto_region 11 with (first
    | (go_at_call 24; (with_reducible refine (toFloat64S_any _ _ _ _ _ (HR.out.below HB5.out) HN.out).mono ?_); rintro e w6 ⟨g6, rfl, hg6, hp6, hb6⟩; have H6 := Lib.hid (And.intro hg6 (And.intro hp6 hb6)); clear hg6 hp6 hb6)
    | (go_at_call 26; (with_reducible refine (eqFloat64S_any _ _ _ _ _ _ _ _ _ (((FBlk.row H3.out.2.1 HN.out).below H5.out).below H6.out.2.2) (FBlk.row H6.out.2.1 HN.out) (leq.refl _) HN.out).mono ?_); rintro e w7 ⟨rfl, hb⟩; have H7 := Lib.hid hb; clear hb))
  have HB37 := Lib.hid (show Below w3.heap.size w3 w7 from Fl.chain (Fl.chain H5.out H6.out.2.2) H7.out)
  have HX7 := Lib.hid ((FBlk.hl H3.out.2.1).below HB37.out)
  have HM1 := Lib.hid (markF gx xs.length xs.length _ w7 HX7.out.1 HX7.out.2.1 HX7.out.2.2 HN.out)
  have HGX := Lib.hid (show w.heap.size ≤ gx from Nat.le_trans HB2.out.size H3.out.1)
  go_upto_region 12 with (go_at_call 27; (with_reducible refine HM1.out.mono ?_); rintro e w8 ⟨rfl, hm⟩; have H8 := Lib.hid hm; clear hm)
  have HB8 := Lib.hid (show Below w.heap.size w w8 from (Fl.chain HB3.out HB37.out).trans (H8.out.2.2.2.1.mono HGX.out))
  have q1 : decide (1 + (xs.length : Int) < 0) = false := decide_eq_false (by omega)
  have q2 : ¬ (1 + (xs.length : Int) < 0) := by omega
  clear HM1 H8 HB37 HB5 H3 HB3 HB2 H5 H6 H7 HX7
  go_upto_region 15 with (go_at_call 26; (with_reducible refine (eqFloat64S_any _ _ _ _ _ _ _ _ _ (HE0.out _) (HE.out _ _) (leq.refl _) (by decide)).mono ?_); rintro e w9 ⟨rfl, hb⟩; have H9 := Lib.hid hb; clear hb)
  have HB9 := Lib.hid (show Below w.heap.size w w9 from Fl.chain HB8.out H9.out)
  go_upto_region 22 with (first
    | (go_at_call 27; (with_reducible refine (markF_nil _).mono ?_); rintro e w10 ⟨rfl, hw⟩; rw [hw]; clear hw)
    | (go_at_call 28; (with_reducible refine (heldF_nil _).mono ?_); rintro e w10 ⟨rfl, hw⟩; rw [hw]; clear hw))
  go_upto_region 23 with (first
    | (go_at_call 24; (with_reducible refine (toFloat64S_any _ _ _ _ _ (HR.out.below HB9.out) HN.out).mono ?_); rintro e w12 ⟨g12, rfl, hg12, hp12, hb12⟩; have H12 := Lib.hid hb12; clear hg12 hp12 hb12)
    | (go_at_call 25; (with_reducible refine (iSortF_big _ _ _ _ HN2.out).mono ?_); rintro e w13 ⟨rfl, hw⟩; rw [hw]; clear hw))
  have HB12 := Lib.hid (show Below w.heap.size w w12 from Fl.chain HB9.out H12.out)
  go_wp2_with (first
    | (go_at_call 26; (with_reducible refine (eqFloat64S_any _ _ _ _ _ _ _ _ _ (HE0.out _) (HE.out _ _) (leq.refl _) (by decide)).mono ?_); rintro e w14 ⟨rfl, hb⟩; have HB14 := Lib.hid (show Below w.heap.size w w14 from Fl.chain HB12.out hb); clear hb)
    | (go_at_call 28; (with_reducible refine (heldF_nil _).mono ?_); rintro e w10 ⟨rfl, hw⟩; rw [hw]; clear hw))
  go_ret
  exact ⟨rfl, HB14.out⟩

theorem walk_FnExactSortFloats (A : Option Addr) (n c : Nat) (xs : List Nat) (w : World) (h : FRow w A n c xs ∧ ∀ x ∈ xs, x < 2 ^ 64) (hl : Lk w) :
    Calls Tryd.prog 8 #[.slice A n c] w fun e w' => e = .returned (.bool true) ∧ Below w.heap.size w w' := by
  obtain ⟨h, hx⟩ := h
  obtain rfl : n = xs.length := h.1.symm
  by_cases h1 : xs.length ≤ 200
  · exact sfl_small A c xs w h hx hl h1
  · by_cases h2 : xs.length ≤ 1048576
    · exact sfl_mid A c xs w h (by omega) h2
    · have d : decide (1048576 < (xs.length : Int)) = true := decide_eq_true (by omega)
      have d' : decide ((xs.length : Int) > 1048576) = true := decide_eq_true (by omega)
      clear h hx hl h1 h2
      go_enter Tryd.func8, Tryd.ntmps8
      go_wp2
      go_ret
      exact ⟨rfl, Below.refl _ _⟩
end Go.Proofs.YtmjnnjjmfedlbaaDoor
