/-
  The walk of FnExactRootsTo.
-/
import Derived.Test.YthoajaibaedjeaaRti
import Derived.Test.YthoajaibaedjeaaMh
namespace Go.Proofs.Ythoajaibaedjeaa
set_option linter.unusedSimpArgs false
set_option linter.unusedVariables false
open Go.RowKit
open Go.Fl (PRow PBlk flat fl pr peq mulP difP sumP flat_at flat_length)
open Go.Dr (Blk Kp)

theorem PRow_kp {w W : World} {A : Option Addr} {n c g : Nat} {ps : List (Nat × Nat)} (h : PRow w A n c ps) (hk : Kp w W g) (hne : ∀ a, A = some a → a.block ≠ g) : PRow W A n c ps := by
  refine ⟨h.1, h.2.1, h.2.2.1, fun hn => ?_⟩
  obtain ⟨b, off, rfl, hlt, hc⟩ := h.2.2.2 hn
  have hb := hne _ rfl
  exact ⟨b, off, rfl, Nat.lt_of_lt_of_le hlt hk.1, fun i hi => ⟨(hk.cell (p := ⟨b, off + i * 2, none⟩) hlt hb).trans (hc i hi).1, (hk.cell (p := ⟨b, off + i * 2 + 1, none⟩) hlt hb).trans (hc i hi).2⟩⟩
theorem OwnP_frozen {W : World} {b g n c : Nat} {ps : List (Nat × Nat)} (h : OwnP W b (.slice (some ⟨g, 0, none⟩) n c) ps) : ∀ i, W.frozen? ⟨g, i, none⟩ = false := by
  rcases h.2 with ⟨h1, _⟩ | ⟨g', cap, cur, hv, hb, hg, _⟩
  · cases h1
  · injection hv with h1 h2 h3
    injection h1 with h1
    injection h1 with h1
    subst h1
    exact fun i => Blk.frozen (t := 25) hg i
theorem mark_nil (w : World) : Calls Try.prog 39 #[.slice none 0 0, .int .i64 1] w fun e w' => e = .returned (.int .i64 1) ∧ w' = w := by
  go_enter Try.func39, Try.ntmps39
  go_wp2
  go_loop [1, 5] (fun k i => k = .int .i64 1 ∧ i = .int .i64 0) (fun _ i => 0)
  case atStart => exact ⟨rfl, rfl⟩
  case round =>
    obtain ⟨rfl, rfl⟩ := hrel
    go_wp2
    go_ret
    exact ⟨rfl, rfl⟩
theorem marks_all {ps : List (Nat × Nat)} {n : Nat} (h : ps.length = n) : marks 1 n ++ ps.drop n = marks 1 n := by
  rw [List.drop_eq_nil_of_le (by omega), List.append_nil]

set_option maxRecDepth 8000 in
set_option maxHeartbeats 6400000 in
theorem walk_small (A : Option Addr) (c : Nat) (ps : List (Nat × Nat)) (w : World) (h : PRow w A ps.length c ps) (hn : ps.length ≤ 127) :
    Calls Try.prog 9 #[.slice A ps.length c] w fun e w' => e = .returned (.bool true) ∧ Below w.heap.size w w' := by
  have HR := Lib.hid h
  have HN := Lib.hid (show ps.length ≤ 1048576 by omega)
  have HN2 := Lib.hid hn
  have d1 : decide (1048576 - (ps.length : Int) < 0) = false := decide_eq_false (by omega)
  clear h hn
  obtain ⟨n, hnn⟩ : ∃ n, n = ps.length := ⟨_, rfl⟩
  go_enter Try.func9, Try.ntmps9
  go_upto_region 6 with (first
    | (go_at_call 30; (with_reducible refine (sz_any _ _ _ _ HN.out).mono ?_); rintro e w1 ⟨rfl, hw⟩; rw [hw]; clear hw)
    | (go_at_call 32; (with_reducible refine (toPairS_any _ _ _ _ _ HR.out HN.out).mono ?_); rintro e w1 ⟨g1, rfl, hg1, hp1, hb1⟩; have H1 := Lib.hid (And.intro hg1 (And.intro hp1 hb1)); clear hg1 hp1 hb1)
    | (go_at_call 37; (with_reducible refine (sRoots _ _ _ _ _ (PBlk.row H1.out.2.1 HN.out) HN2.out).mono ?_); rintro e w2 ⟨gs, cs, xs, rfl, ho, hpl, hb⟩; have H2 := Lib.hid (And.intro ho (And.intro hpl hb)); clear ho hpl hb))
  have HB2 := Lib.hid (show Below w.heap.size w w2 from Fl.chain H1.out.2.2 H2.out.2.2)
  have HS2 := Lib.hid (show PRow w2 (some ⟨gs, 0, none⟩) (ps.length + 1) cs xs ∧ w.heap.size ≤ gs ∧ gs < w2.heap.size from ⟨H2.out.1.row.1, Nat.le_trans H1.out.2.2.size H2.out.1.block.1, H2.out.1.block.2.1⟩)
  go_upto_region 7 with (go_at_call 32; (with_reducible refine (toPairS_any _ _ _ _ _ (HR.out.below HB2.out) HN.out).mono ?_); rintro e w3 ⟨gx, rfl, hgx, hpx, hbx⟩; have H3 := Lib.hid (And.intro hgx (And.intro hpx hbx)); clear hgx hpx hbx)
  have HB3 := Lib.hid (show Below w.heap.size w w3 from Fl.chain HB2.out H3.out.2.2)
  go_upto_region 8 with (go_at_call 38; (with_reducible refine (iRoots _ _ _ _ _ (PBlk.row H3.out.2.1 HN.out) HN2.out).mono ?_); rintro e w4 ⟨gi, ci, ys, rfl, ho, hpl, hb⟩; have H4 := Lib.hid (And.intro ho (And.intro hpl hb)); clear ho hpl hb)
  have HB4 := Lib.hid (show Below w.heap.size w w4 from Fl.chain HB3.out H4.out.2.2)
  have HP2 := Lib.hid H2.out.2.1
  have HP := Lib.hid (show pleq ys xs from H4.out.2.1.trans H2.out.2.1.symm)
  have HS4 := Lib.hid (show PRow w4 (some ⟨gs, 0, none⟩) (ps.length + 1) cs xs from (HS2.out.1.below H3.out.2.2).below H4.out.2.2)
  have HX4 := Lib.hid (show PRow w4 (some ⟨gx, 0, none⟩) ps.length ps.length ps ∧ (∀ i, w4.frozen? ⟨gx, i, none⟩ = false) from ⟨(PBlk.row H3.out.2.1 HN.out).below H4.out.2.2, fun i => Fl.Blk.frozen (Fl.Blk.below H3.out.2.1 H4.out.2.2 (Fl.Blk.lt H3.out.2.1)) i⟩)
  have HZ := Lib.hid (show gs < gx ∧ gx < gi ∧ gi < w4.heap.size ∧ w.heap.size ≤ gs from ⟨by have := HS2.out.2.2; have := H3.out.1; omega, by have := Fl.Blk.lt H3.out.2.1; have := H4.out.1.block.1; omega, H4.out.1.block.2.1, HS2.out.2.1⟩)
  have HI4 := Lib.hid (H4.out.1.weaken HB3.out.size)
  have HNL := Lib.hid (show ps.length + 1 ≤ 1048576 by have := HN2.out; omega)
  clear H1 H2 H3 H4 HS2 HB2 HB3
  go_upto_region 10 with (go_at_call 34; (with_reducible refine (eqPairS_any _ _ _ _ _ _ _ _ _ HI4.out.row.1 HS4.out HP.out HNL.out).mono ?_); rintro e w5 ⟨rfl, hb⟩; have H5 := Lib.hid hb; clear hb)
  have HB5 := Lib.hid (show Below w.heap.size w w5 from Fl.chain HB4.out H5.out)
  go_upto_region 13 with (first
    | (go_at_call 32; (with_reducible refine (toPairS_any _ _ _ _ _ (HR.out.below HB5.out) HN.out).mono ?_); rintro e w6 ⟨g6, rfl, hg6, hp6, hb6⟩; have H6 := Lib.hid (And.intro hg6 (And.intro hp6 hb6)); clear hg6 hp6 hb6)
    | (go_at_call 34; (with_reducible refine (eqPairS_any _ _ _ _ _ _ _ _ _ ((HX4.out.1.below H5.out).below H6.out.2.2) (PBlk.row H6.out.2.1 HN.out) (pleq.refl _) HN.out).mono ?_); rintro e w7 ⟨rfl, hb⟩; have H7 := Lib.hid hb; clear hb))
  have HB47 := Lib.hid (show Below w4.heap.size w4 w7 from Fl.chain (Fl.chain H5.out H6.out.2.2) H7.out)
  have HB7 := Lib.hid (show Below w.heap.size w w7 from Fl.chain HB4.out HB47.out)
  have HI7 := Lib.hid (show OwnP w7 w.heap.size (.slice (some ⟨gi, 0, none⟩) (ps.length + 1) ci) ys from HI4.out.below HB47.out (Nat.le_refl _))
  clear H5 H6 H7 HB5 HB4
  have hfx : ∀ i, w7.frozen? ⟨gx, i, none⟩ = false := fun i => by
    have hlt : gx < w4.heap.size := by have := HZ.out; omega
    rw [World.frozen?_of_block (HB47.out.block gx hlt)]
    exact HX4.out.2 i
  have HM1 := Lib.hid (mark_any gx 0 ps.length ps.length ps w7 (HX4.out.1.below HB47.out) hfx HN.out)
  go_upto_region 14 with (go_at_call 39; (with_reducible refine HM1.out.mono ?_); rintro e w8 ⟨rfl, hm⟩; have H8 := Lib.hid hm; clear hm)
  have HB8 := Lib.hid (show Below w.heap.size w w8 from HB7.out.trans (H8.out.2.2.2.mono (by have := HZ.out; omega)))
  have HI8 := Lib.hid (show OwnP w8 w.heap.size (.slice (some ⟨gi, 0, none⟩) (ps.length + 1) ci) ys from HI7.out.kp H8.out.2.2.1 (by intro e; have e : some gi = some gx := e; injection e with e; have := HZ.out; omega))
  have HS8 := Lib.hid (show PRow w8 (some ⟨gs, 0, none⟩) (ps.length + 1) cs xs from PRow_kp (HS4.out.below HB47.out) H8.out.2.2.1 (by rintro a ⟨⟩; show gs ≠ gx; have := HZ.out; omega))
  have hz8 : gs < w8.heap.size ∧ gi < w8.heap.size := by have := HZ.out; have := HB47.out.size; have := H8.out.2.2.1.1; omega
  have HZ8 := Lib.hid hz8
  have q1 : decide (1 + 2 * (ps.length : Int) < 0) = false := decide_eq_false (by omega)
  clear hz8 hfx HM1 H8 HX4 HI4 HS4 HB47 HB7 HI7
  go_upto_region 17 with (go_at_call 34; (with_reducible refine (eqPairS_any _ _ _ _ _ _ _ _ _ HI8.out.row.1 HS8.out HP.out HNL.out).mono ?_); rintro e w9 ⟨rfl, hb⟩; have H9 := Lib.hid hb; clear hb)
  have HI9 := Lib.hid (HI8.out.below H9.out (Nat.le_refl _))
  have HB9 := Lib.hid (show Below w.heap.size w w9 from Fl.chain HB8.out H9.out)
  have HS9 := Lib.hid (HS8.out.below H9.out)
  have hyl : ys.length = ps.length + 1 := HI9.out.block.2.2.symm
  have HM2 := Lib.hid (mark_any gi 0 (ps.length + 1) ci ys w9 HI9.out.row.1 (OwnP_frozen HI9.out) HNL.out)
  clear HI8 HB8 HS8
  go_upto_region 18 with (go_at_call 39; (with_reducible refine HM2.out.mono ?_); rintro e w10 ⟨rfl, hm⟩; have H10 := Lib.hid hm; clear hm)
  have HB10 := Lib.hid (show Below w.heap.size w w10 from HB9.out.trans (H10.out.2.2.2.mono (by have := HZ.out; omega)))
  have HS10 := Lib.hid (show PRow w10 (some ⟨gs, 0, none⟩) (ps.length + 1) cs xs from PRow_kp HS9.out H10.out.2.2.1 (by rintro a ⟨⟩; show gs ≠ gi; have := HZ.out; omega))
  have HG10 := Lib.hid (show PRow w10 (some ⟨gi, 0, none⟩) (ps.length + 1) ci (marks 1 (ps.length + 1)) from by have h := H10.out.1; rwa [marks_all hyl] at h)
  have hgi10 : gi < w10.heap.size := by have := HZ8.out; have := H9.out.size; have := H10.out.2.2.1.1; omega
  have HGI := Lib.hid hgi10
  clear HM2 H9 HI9 HB9 HS9 H10 hgi10 hyl
  go_upto_region 24 with (go_at_call 40; (with_reducible refine (held_any _ _ _ _ HG10.out HNL.out).mono ?_); rintro e w11 ⟨rfl, hw⟩; rw [hw]; clear hw)
  go_upto_region 25 with (first
    | (go_at_call 32; (with_reducible refine (toPairS_any _ _ _ _ _ (HR.out.below HB10.out) HN.out).mono ?_); rintro e w12 ⟨g12, rfl, hg12, hp12, hb12⟩; have H12 := Lib.hid (And.intro hg12 (And.intro hp12 hb12)); clear hg12 hp12 hb12)
    | (go_at_call 38; (with_reducible refine (iRoots _ _ _ _ _ (PBlk.row H12.out.2.1 HN.out) HN2.out).mono ?_); rintro e w13 ⟨gh, ch, zs, rfl, ho, hpl, hb⟩; have H13 := Lib.hid (And.intro ho (And.intro hpl hb)); clear ho hpl hb))
  have HB13 := Lib.hid (show Below w10.heap.size w10 w13 from Fl.chain H12.out.2.2 H13.out.2.2)
  have HPZ := Lib.hid (show pleq zs xs from H13.out.2.1.trans HP2.out.symm)
  go_upto_region 28 with (go_at_call 34; (with_reducible refine (eqPairS_any _ _ _ _ _ _ _ _ _ H13.out.1.row.1 (HS10.out.below HB13.out) HPZ.out HNL.out).mono ?_); rintro e w14 ⟨rfl, hb⟩; have H14 := Lib.hid hb; clear hb)
  have HB14 := Lib.hid (show Below w10.heap.size w10 w14 from Fl.chain HB13.out H14.out)
  go_wp2_with (go_at_call 40; (with_reducible refine (held_any _ _ _ _ (HG10.out.below HB14.out) HNL.out).mono ?_); rintro e w15 ⟨rfl, hw⟩; rw [hw]; clear hw)
  go_ret
  exact ⟨rfl, Fl.chain HB10.out HB14.out⟩

set_option maxRecDepth 8000 in
set_option maxHeartbeats 6400000 in
theorem walk_mid (A : Option Addr) (c : Nat) (ps : List (Nat × Nat)) (w : World) (h : PRow w A ps.length c ps) (hn : 127 < ps.length) (hm : ps.length ≤ 1048576) :
    Calls Try.prog 9 #[.slice A ps.length c] w fun e w' => e = .returned (.bool true) ∧ Below w.heap.size w w' := by
  have HR := Lib.hid h
  have HN := Lib.hid hm
  have HN2 := Lib.hid hn
  have d1 : decide (1048576 - (ps.length : Int) < 0) = false := decide_eq_false (by omega)
  have hc : ps.length ≤ c := h.2.1
  clear h hn hm
  have e0 : ∀ W : World, PRow W none 0 0 [] := fun W => ⟨rfl, Nat.le_refl _, Nat.zero_le _, fun h => absurd h (by omega)⟩
  have HE := Lib.hid (show ∀ (W : World) (g : Nat), PRow W (some ⟨g, 0, none⟩) 0 0 [] from fun W g => ⟨rfl, Nat.le_refl _, Nat.zero_le _, fun h => absurd h (by omega)⟩)
  have HE0 := Lib.hid e0
  clear e0
  go_enter Try.func9, Try.ntmps9
  go_upto_region 6 with (first
    | (go_at_call 30; (with_reducible refine (sz_any _ _ _ _ HN.out).mono ?_); rintro e w1 ⟨rfl, hw⟩; rw [hw]; clear hw)
    | (go_at_call 32; (with_reducible refine (toPairS_any _ _ _ _ _ HR.out HN.out).mono ?_); rintro e w1 ⟨g1, rfl, hg1, hp1, hb1⟩; have H1 := Lib.hid (And.intro hg1 (And.intro hp1 hb1)); clear hg1 hp1 hb1)
    | (go_at_call 37; (with_reducible refine (sRoots_big _ _ _ _ HN2.out).mono ?_); rintro e w2 ⟨gs, rfl, hb⟩; have H2 := Lib.hid hb; clear hb))
  have HB2 := Lib.hid (show Below w.heap.size w w2 from Fl.chain H1.out.2.2 H2.out)
  clear H1 H2
  go_upto_region 7 with (go_at_call 32; (with_reducible refine (toPairS_any _ _ _ _ _ (HR.out.below HB2.out) HN.out).mono ?_); rintro e w3 ⟨gx, rfl, hgx, hpx, hbx⟩; have H3 := Lib.hid (And.intro hgx (And.intro hpx hbx)); clear hgx hpx hbx)
  have HB3 := Lib.hid (show Below w.heap.size w w3 from Fl.chain HB2.out H3.out.2.2)
  go_upto_region 8 with (go_at_call 38; (with_reducible refine (iRoots_big _ _ _ _ HN2.out).mono ?_); rintro e w4 ⟨rfl, hw⟩; rw [hw]; clear hw)
  go_upto_region 10 with (go_at_call 34; (with_reducible refine (eqPairS_any _ _ _ _ _ _ _ _ _ (HE0.out _) (HE.out _ _) (pleq.refl _) (by decide)).mono ?_); rintro e w5 ⟨rfl, hb⟩; have H5 := Lib.hid hb; clear hb)
  have HB5 := Lib.hid (show Below w.heap.size w w5 from Fl.chain HB3.out H5.out)
  go_upto_region 13 with (first
    | (go_at_call 32; (with_reducible refine (toPairS_any _ _ _ _ _ (HR.out.below HB5.out) HN.out).mono ?_); rintro e w6 ⟨g6, rfl, hg6, hp6, hb6⟩; have H6 := Lib.hid (And.intro hg6 (And.intro hp6 hb6)); clear hg6 hp6 hb6)
    | (go_at_call 34; (with_reducible refine (eqPairS_any _ _ _ _ _ _ _ _ _ (((PBlk.row H3.out.2.1 HN.out).below H5.out).below H6.out.2.2) (PBlk.row H6.out.2.1 HN.out) (pleq.refl _) HN.out).mono ?_); rintro e w7 ⟨rfl, hb⟩; have H7 := Lib.hid hb; clear hb))
  have HB37 := Lib.hid (show Below w3.heap.size w3 w7 from Fl.chain (Fl.chain H5.out H6.out.2.2) H7.out)
  have hlx := Fl.Blk.lt H3.out.2.1
  have hfx : ∀ i, w7.frozen? ⟨gx, i, none⟩ = false := fun i => Fl.Blk.frozen (Fl.Blk.below H3.out.2.1 HB37.out hlx) i
  have HM1 := Lib.hid (mark_any gx 0 ps.length ps.length ps w7 ((PBlk.row H3.out.2.1 HN.out).below HB37.out) hfx HN.out)
  have HGX := Lib.hid (show w.heap.size ≤ gx from Nat.le_trans HB2.out.size H3.out.1)
  clear hlx hfx
  go_upto_region 14 with (go_at_call 39; (with_reducible refine HM1.out.mono ?_); rintro e w8 ⟨rfl, hm⟩; have H8 := Lib.hid hm; clear hm)
  have HB8 := Lib.hid (show Below w.heap.size w w8 from (Fl.chain HB3.out HB37.out).trans (H8.out.2.2.2.mono HGX.out))
  have q1 : decide (1 + 2 * (ps.length : Int) < 0) = false := decide_eq_false (by omega)
  clear HM1 H8 HB37 HB5 H3 HB3 HB2 H5 H6 H7
  go_upto_region 17 with (go_at_call 34; (with_reducible refine (eqPairS_any _ _ _ _ _ _ _ _ _ (HE0.out _) (HE.out _ _) (pleq.refl _) (by decide)).mono ?_); rintro e w9 ⟨rfl, hb⟩; have H9 := Lib.hid hb; clear hb)
  have HB9 := Lib.hid (show Below w.heap.size w w9 from Fl.chain HB8.out H9.out)
  have HH := Lib.hid (fun (W : World) => held_any none 0 0 W (HE0.out W) (by decide))
  go_upto_region 24 with (first
    | (go_at_call 39; (with_reducible refine (mark_nil _).mono ?_); rintro e w10 ⟨rfl, hw⟩; rw [hw]; clear hw)
    | (go_at_call 40; (with_reducible refine (HH.out _).mono ?_); rintro e w10 ⟨rfl, hw⟩; rw [hw]; clear hw))
  go_upto_region 25 with (first
    | (go_at_call 32; (with_reducible refine (toPairS_any _ _ _ _ _ (HR.out.below HB9.out) HN.out).mono ?_); rintro e w12 ⟨g12, rfl, hg12, hp12, hb12⟩; have H12 := Lib.hid hb12; clear hg12 hp12 hb12)
    | (go_at_call 38; (with_reducible refine (iRoots_big _ _ _ _ HN2.out).mono ?_); rintro e w13 ⟨rfl, hw⟩; rw [hw]; clear hw))
  have HB12 := Lib.hid (show Below w.heap.size w w12 from Fl.chain HB9.out H12.out)
  go_wp2_with (first
    | (go_at_call 34; (with_reducible refine (eqPairS_any _ _ _ _ _ _ _ _ _ (HE0.out _) (HE.out _ _) (pleq.refl _) (by decide)).mono ?_); rintro e w14 ⟨rfl, hb⟩; have HB14 := Lib.hid (show Below w.heap.size w w14 from Fl.chain HB12.out hb); clear hb)
    | (go_at_call 40; (with_reducible refine (HH.out _).mono ?_); rintro e w10 ⟨rfl, hw⟩; rw [hw]; clear hw))
  go_ret
  exact ⟨rfl, HB14.out⟩

theorem walk_FnExactRootsTo (A : Option Addr) (n c : Nat) (ps : List (Nat × Nat)) (w : World) (h : PRow w A n c ps ∧ ∀ p ∈ ps, p.1 < 2 ^ 64 ∧ p.2 < 2 ^ 64) :
    Calls Try.prog 9 #[.slice A n c] w fun e w' => e = .returned (.bool true) ∧ Below w.heap.size w w' := by
  obtain ⟨h, -⟩ := h
  obtain rfl : n = ps.length := h.1.symm
  by_cases h1 : ps.length ≤ 127
  · exact walk_small A c ps w h h1
  · by_cases h2 : ps.length ≤ 1048576
    · exact walk_mid A c ps w h (by omega) h2
    · have hz := Lib.hid (sz_big A ps.length c w (by omega) (Nat.le_trans h.2.1 h.2.2.1))
      clear h h1 h2
      go_enter Try.func9, Try.ntmps9
      go_wp2_with (go_at_call 30; (with_reducible refine hz.out.mono ?_); rintro e w1 ⟨rfl, rfl⟩)
      go_ret
      exact ⟨rfl, Below.refl _ _⟩
end Go.Proofs.Ythoajaibaedjeaa
