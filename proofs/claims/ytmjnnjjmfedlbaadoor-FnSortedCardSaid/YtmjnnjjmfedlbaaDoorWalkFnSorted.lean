/-
  The walk of FnSorted.
-/
import Derived.Test.YtmjnnjjmfedlbaaDoorSe
import Derived.Test.YtmjnnjjmfedlbaaDoorGs
namespace Go.Proofs.YtmjnnjjmfedlbaaDoor
set_option linter.unusedSimpArgs false
set_option linter.unusedVariables false
open Go.RowKit Go.Dr
open Go.Fl (fl isNan feq FRow)

theorem ord_not {a b : Nat} (h : kw a ≤ kw b) : ordV 3 (cn a) (cn b) ≠ 1 := by
  rw [ord_key]
  have h : keyB (cn a) ≤ keyB (cn b) := h
  split
  · decide
  · split
    · decide
    · omega

theorem same_true (a b : Nat) (ha : a < 2 ^ 64) (hb : b < 2 ^ 64) (h : cn a = cn b) (w : World) :
    Calls Tryd.prog 31 #[fl a, fl b] w fun e w' => e = .returned (.bool true) ∧ Below w.heap.size w w' := by
  have := same_dec a b ha hb w
  rwa [decide_eq_true h] at this
theorem same_false (a b : Nat) (ha : a < 2 ^ 64) (hb : b < 2 ^ 64) (h : ¬ cn a = cn b) (w : World) :
    Calls Tryd.prog 31 #[fl a, fl b] w fun e w' => e = .returned (.bool false) ∧ Below w.heap.size w w' := by
  have := same_dec a b ha hb w
  rwa [decide_eq_false h] at this
theorem nan_of {r v : Nat} (hv : v = 9221120237041090560) (h : feq r v) : isNan r = true := by
  rw [hv] at h
  rcases h with h | h
  · rw [h]; exact Fl.isNan_qnan
  · exact h.1
theorem So.least {w W : World} {gz gi gu i cz : Nat} {zs : List Nat} {f : Nat → Nat} {u : Nat → Bool} (h : So w zs.length gz gi gu (fun i => zs.getD i 0) f i u W) (hc : zs.length ≤ cz ∧ cz ≤ maxLen) (hx : ∀ x ∈ zs, x < 2 ^ 64) (hl : Lk w) : Calls Tryd.prog 32 #[.slice (some ⟨gz, 0, none⟩) zs.length cz] W (RetB (bestV zs (-1)) W) :=
  iTopLe _ _ _ _ _ (h.1.frow hc.1 hc.2) hx (hl.below h.2.2.2.2)
theorem So.greatest {w W : World} {gz gi gu i cz : Nat} {zs : List Nat} {f : Nat → Nat} {u : Nat → Bool} (h : So w zs.length gz gi gu (fun i => zs.getD i 0) f i u W) (hc : zs.length ≤ cz ∧ cz ≤ maxLen) (hx : ∀ x ∈ zs, x < 2 ^ 64) (hl : Lk w) : Calls Tryd.prog 33 #[.slice (some ⟨gz, 0, none⟩) zs.length cz] W (RetB (bestV zs 1) W) :=
  iTopGr _ _ _ _ _ (h.1.frow hc.1 hc.2) hx (hl.below h.2.2.2.2)
theorem num_of {r v : Nat} (hn : isNan v = false) (h : feq r v) : r = v := by
  rcases h with h | h
  · exact h
  · rw [hn] at h; cases h.2
/-- The search for word i: not found yet among the first j, or found and marked. -/
def Inn (w : World) (N gz gi gu : Nat) (z f : Nat → Nat) (i : Nat) (u : Nat → Bool) (p : Bool) (j : Nat) (W : World) : Prop :=
  (p = false → So w N gz gi gu z f i u W ∧ ∀ t, t < j → ¬ (u t = false ∧ cn (z t) = f i)) ∧ (p = true → ∃ u', So w N gz gi gu z f (i + 1) u' W)

set_option maxRecDepth 8000 in
set_option maxHeartbeats 12800000 in
theorem walk_FnSorted (A : Option Addr) (n c : Nat) (xs : List Int) (w : World) (h : IRow .u8 w A n c xs ∧ ∀ n ∈ xs, (Lit.int .u8 n).wf = true) (hl : Lk w) :
    Calls Tryd.prog 9 #[.slice A n c] w fun e w' => e = .returned (.bool true) ∧ Below w.heap.size w w' := by
  have HH := Lib.hid h.1
  clear h
  have HL := Lib.hid hl
  have HL0 := Lib.hid hl
  clear hl
  have HG := Lib.hid (big_any A n c)
  by_cases hn : (n : Int) > 1048576
  · have d : decide ((n : Int) > 1048576) = true := decide_eq_true hn
    rw [d] at HG
    clear hn
    go_enter Tryd.func9, Tryd.ntmps9
    go_wp2_with ((go_at_call 21; (with_reducible refine (HG.out _).mono ?_); rintro e w1 ⟨rfl, hbn⟩; have HB1 := Lib.hid hbn; clear hbn))
    go_ret
    exact ⟨rfl, HB1.out⟩
  have d : decide ((n : Int) > 1048576) = false := decide_eq_false hn
  rw [d] at HG
  have HNN := Lib.hid (show n ≤ 1048576 by omega)
  clear hn
  go_enter Tryd.func9, Tryd.ntmps9
  go_upto_region 4 with (first
    | (go_at_call 21; (with_reducible refine (HG.out _).mono ?_); rintro e w1 ⟨rfl, hbn⟩; have HB1 := Lib.hid hbn; clear hbn)
    | (go_at_call 29; (with_reducible refine (sDrawSF _ _ _ _ _ (HH.out.below HB1.out) HNN.out).mono ?_); rintro e w2 ⟨gz, cz, zs, rfl, hlen, hlt, ho, hbn⟩; have HZ0 := Lib.hid (And.intro ho (And.intro hlt hlen)); have HB := Lib.hid (Fl.chain HB1.out hbn); have HWZ := Lib.hid hbn.size; clear hlen hlt ho hbn))
  have HK := Lib.hid (HL.out.below HB.out)
  have HX := Lib.hid HZ0.out.2.1
  have HWG := Lib.hid (show w.heap.size ≤ gz ∧ gz < w2.heap.size from by
    obtain ⟨g', cap', hv, a1, a2, -⟩ := HZ0.out.1.form (by intro e; cases e)
    injection hv with k1
    injection k1 with k1
    injection k1 with k1
    subst k1
    exact ⟨Nat.le_trans HB1.out.size a1, a2⟩)
  have HMZ := Lib.hid (show Hm gz zs.length (fun i => zs.getD i 0) w2 from by
    obtain ⟨g', cap', hv, a1, a2, a3, a4, a5⟩ := HZ0.out.1.form (by intro e; cases e)
    injection hv with k1
    injection k1 with k1
    injection k1 with k1
    subst k1
    exact ⟨a3, a4, a2⟩)
  have HRZ := Lib.hid (show FRow w2 (some ⟨gz, 0, none⟩) zs.length cz zs from HZ0.out.1.frow)
  have HNZ := Lib.hid HZ0.out.2.2
  clear HB1 HG d HH HNN HL HZ0
  by_cases hN : 200 < zs.length
  · have d1 : decide (200 < (zs.length : Int)) = true := decide_eq_true (by omega)
    have d2 : (200 : Int) < (zs.length : Int) := by omega
    have HN := Lib.hid hN
    clear hN
    go_wp2_with (first
      | (go_at_call 25; (first | ((with_reducible refine (iSortF_big _ _ _ _ HN.out).mono ?_); rintro e w3 ⟨rfl, hw⟩; rw [hw]; clear hw) | ((with_reducible refine (sort21 _ HK.out).mono ?_); rintro e w4 ⟨g4, c4, rfl, hb⟩; have HB4 := Lib.hid (Fl.chain HB.out hb); clear hb))))
    go_ret
    exact ⟨rfl, HB4.out⟩
  have d1 : decide (200 < (zs.length : Int)) = false := decide_eq_false (by omega)
  have HN := Lib.hid (show zs.length ≤ 200 by omega)
  have hmk := make_bools zs.length (by omega)
  clear hN
  go_upto_region 11 with (go_at_call 25; (with_reducible refine (iSortF _ _ _ _ HRZ.out HX.out HN.out HK.out).mono ?_); rintro e w3 ⟨gi, ci, fi, rfl, hc1, hc2, hs, hp, hso⟩; have HCI := Lib.hid (And.intro hc1 hc2); have HP := Lib.hid (And.intro hp hso); have HS3 := Lib.hid hs; clear hc1 hc2 hs hp hso)
  clear hmk
  have HB23 := Lib.hid (show Below w2.heap.size w2 w3 from HS3.out.2.2.2.2.1)
  have hA : Below w3.heap.size w3 (w3.alloc (.cells (madeCells #[.bool false] zs.length) 4)) := (Below.refl _ _).alloc (Nat.le_refl _) _
  have HSO := Lib.hid (show So w zs.length gz gi w3.heap.size (fun i => zs.getD i 0) fi 0 (fun _ => false) (w3.alloc (.cells (madeCells #[.bool false] zs.length) 4)) from ⟨(HMZ.out.below HB23.out).below hA, (show Hm gi zs.length fi w3 from ⟨HS3.out.1, HS3.out.2.1, HS3.out.2.2.1⟩).below hA, Um.made w3 zs.length, Used.start HP.out.1, Fl.chain (Fl.chain HB.out HB23.out) hA⟩)
  have HNE := Lib.hid (show gz ≠ w3.heap.size ∧ gi ≠ w3.heap.size ∧ w.heap.size ≤ w3.heap.size from ⟨by have := HWG.out.2; have := HB23.out.size; omega, by have := HS3.out.2.2.1; omega, (Fl.chain HB.out HB23.out).size⟩)
  have HCZ := Lib.hid (show zs.length ≤ cz ∧ cz ≤ maxLen from ⟨HRZ.out.2.1, HRZ.out.2.2.1⟩)
  have HFI := Lib.hid (show ∀ i, fi i < 2 ^ 64 from HS3.out.2.2.2.2.2)
  generalize hgu : w3.heap.size = gu at *
  generalize hW4 : (w3.alloc (.cells (madeCells #[.bool false] zs.length) 4)) = W4 at *
  clear hgu hW4 hA HB23 HS3 HRZ HWG HMZ HWZ HB HK
  go_wp2
  go_loopw [5, 7] (fun x5 x7 wr => ∃ (i : Nat) (q : Bool) (u : Nat → Bool), i ≤ zs.length ∧ x7 = .int .i64 (i : Int) ∧ x5 = .bool q ∧ Hid (q = nanB fi i) ∧ Hid (So w zs.length gz gi gu (fun i => zs.getD i 0) fi i u wr)) (fun _ x7 _ => zs.length - (intOf x7).toNat)
  case atStart => exact ⟨0, false, _, Nat.zero_le _, rfl, rfl, rfl, HSO.out⟩
  case round =>
    rename_i wr hKK
    clear HSO
    obtain ⟨i, q, u, hi, rfl, rfl, HQ, HSO⟩ := hrel
    by_cases hlt : i < zs.length
    · have d3 : decide ((i : Int) < (zs.length : Int)) = true := decide_eq_true (by omega)
      have i1 : (0 : Int) ≤ (i : Int) := by omega
      have i2 : (i : Int) < (zs.length : Int) := by omega
      have HI := Lib.hid (show i < zs.length from hlt)
      have hw1 : wrap64 ((i : Int) + 1) = ((i + 1 : Nat) : Int) := by have := HN.out; rw [IntWalk.wrap64_in _ ⟨by omega, by omega⟩]; omega
      have HCF := Lib.hid (show cn (fi i) = fi i from by obtain ⟨s, t, _, _, _, h4⟩ := HP.out.1; rw [h4]; exact cn_of (cn_feq _))
      have hci := HSO.out.2.1.1 i hlt
      go_upto_region 14 with fail
      go_cut [5] from 36 to 101 (fun s wx => ∃ q' : Bool, s = .bool q' ∧ Hid (q' = nanB fi (i + 1)) ∧ Hid (So w zs.length gz gi gu (fun i => zs.getD i 0) fi i u wx))
      case first =>
        cases hq : q
        · cases hp : isNan (fi i)
          · have ho : FloatKind.f64.format.order (fi i) (fi i) = some .eq := Fl.ford_self hp
            have HQ2 := Lib.hid (show false = nanB fi (i + 1) by unfold nanB; rw [← HQ.out, hp, hq]; rfl)
            clear hp
            go_wp2_with fail
            go_quiet (fail)
            obtain ⟨W5, hW5⟩ : ∃ W5, W5 = wr.drewN nq := ⟨_, rfl⟩
            have HF := Lib.hid (show So w zs.length gz gi gu (fun i => zs.getD i 0) fi i u W5 from by rw [hW5]; exact HSO.out.below (Fl.below_drewN (Below.refl _ _) nq))
            rw [← hW5]
            clear hW5
            go_wp2_with fail
            go_meet
            exact ⟨_, rfl, HQ2.out, HF.out⟩
          · have ho : FloatKind.f64.format.order (fi i) (fi i) = none := Fl.ford_nan_left hp _
            have HQ2 := Lib.hid (show true = nanB fi (i + 1) by unfold nanB; rw [← HQ.out, hp, hq]; rfl)
            clear hp
            go_wp2_with fail
            go_quiet (fail)
            obtain ⟨W5, hW5⟩ : ∃ W5, W5 = wr.drewN nq := ⟨_, rfl⟩
            have HF := Lib.hid (show So w zs.length gz gi gu (fun i => zs.getD i 0) fi i u W5 from by rw [hW5]; exact HSO.out.below (Fl.below_drewN (Below.refl _ _) nq))
            rw [← hW5]
            clear hW5
            go_wp2_with fail
            go_meet
            exact ⟨_, rfl, HQ2.out, HF.out⟩
        · have HQ2 := Lib.hid (show true = nanB fi (i + 1) by unfold nanB; rw [← HQ.out, hq]; rfl)
          go_wp2_with fail
          go_quiet (fail)
          obtain ⟨W5, hW5⟩ : ∃ W5, W5 = wr.drewN nq := ⟨_, rfl⟩
          have HF := Lib.hid (show So w zs.length gz gi gu (fun i => zs.getD i 0) fi i u W5 from by rw [hW5]; exact HSO.out.below (Fl.below_drewN (Below.refl _ _) nq))
          rw [← hW5]
          clear hW5
          go_wp2_with fail
          go_meet
          exact ⟨_, rfl, HQ2.out, HF.out⟩
      case rest =>
        obtain ⟨q', rfl, HQ2, HSO2⟩ := hcut
        clear HQ HSO hci
        go_upto_region 15 with fail
        go_cut [70] from 36 to 101 (fun s wx => s = .bool false ∧ Hid (So w zs.length gz gi gu (fun i => zs.getD i 0) fi i u wx))
        case first =>
          by_cases h0 : i = 0
          · have g1 : decide ((0 : Int) < (i : Int)) = false := decide_eq_false (by omega)
            have g2 : decide (0 < i) = false := decide_eq_false (by omega)
            have g3 : ¬ (0 < i) := by omega
            clear h0
            go_wp2_with fail
            go_quiet (fail)
            obtain ⟨W5, hW5⟩ : ∃ W5, W5 = wc.drewN nq := ⟨_, rfl⟩
            have HF := Lib.hid (show So w zs.length gz gi gu (fun i => zs.getD i 0) fi i u W5 from by rw [hW5]; exact HSO2.out.below (Fl.below_drewN (Below.refl _ _) nq))
            rw [← hW5]
            clear hW5
            go_wp2_with fail
            go_meet
            exact ⟨rfl, HF.out⟩
          · have g1 : decide ((0 : Int) < (i : Int)) = true := decide_eq_true (by omega)
            have g2 : decide (0 < i) = true := decide_eq_true (by omega)
            have g3 : 0 < i := by omega
            have g4 : (0 : Int) < (i : Int) := by omega
            obtain ⟨m, hm⟩ : ∃ m, i = m + 1 := ⟨i - 1, by omega⟩
            have hc1 := HSO2.out.2.1.1 i hlt
            have hc2 := HSO2.out.2.1.1 m (by omega)
            have hg := HSO2.out.2.1.2.2
            have i3 : (0 : Int) ≤ (m : Int) := by omega
            have i4 : (m : Int) < (zs.length : Int) := by omega
            have i6 : m < zs.length := by omega
            have hw2 : wrap64 ((i : Int) - 1) = (m : Int) := by have := HN.out; rw [IntWalk.wrap64_in _ ⟨by omega, by omega⟩]; omega
            have hw3 : IntKind.i64.wrap ((i : Int) - 1) = (m : Int) := by have := HN.out; rw [IntKind.wrap_i64]; omega
            have hno : ordV 3 (cn (fi m)) (cn (fi i)) ≠ 1 := ord_not (HP.out.2 m i (Nat.zero_le _) (by omega) hlt)
            have HORD := Lib.hid (fun (W : World) (hl : Lk W) => iOrder (f := 3) (by decide) (cn_lt64 (HFI.out m)) (cn_lt64 (HFI.out i)) W hl)
            have HTB := Lib.hid (fun (b : Nat) (W : World) => (iToBits_any b W).mono (R' := fun e w' => e = .returned (.int .u64 ((cn b : Nat) : Int)) ∧ Below W.heap.size W w') (fun e w' h => ⟨h.1, h.2 ▸ Below.refl _ _⟩))
            have HLW := Lib.hid (HL0.out.below HSO2.out.2.2.2.2)
            generalize ordV 3 (cn (fi m)) (cn (fi i)) = o at hno HORD
            have o1 : (o == 1) = false := beq_eq_false_iff_ne.2 hno
            have o2 : decide (o = 1) = false := decide_eq_false hno
            clear hm h0
            go_wp2_with fail
            go_region_held3 (fun wx => (∀ z y, z < wc.heap.size → wx.cell? ⟨z, y, none⟩ = wc.cell? ⟨z, y, none⟩) ∧ Below wc.heap.size wc wx)
              (first
                | exact Fl.keeps0 _
                | (refine Fl.keepsB hbn ?_; assumption)
                | (refine Fl.keepsD ?_; assumption))
              (first
                | (go_at_call 30; (with_reducible refine (HTB.out _ _).mono ?_); rintro e w1 ⟨rfl, hbn⟩)
                | (go_at_call 13; (with_reducible refine (HORD.out _ (HLW.out.below (Fl.stays_of (by assumption)))).mono ?_); rintro e w1 ⟨rfl, hbn⟩))
            have HBR := Lib.hid (Fl.stays_of (by assumption : (∀ z y, z < wc.heap.size → World.cell? _ ⟨z, y, none⟩ = wc.cell? ⟨z, y, none⟩) ∧ Below wc.heap.size wc _))
            have HF := Lib.hid (HSO2.out.below HBR.out)
            clear hbn hc1 hc2
            go_wp2_with fail
            go_meet
            exact ⟨by simp [o1, o2], HF.out⟩
        case rest =>
          obtain ⟨rfl, HSO3⟩ := hcut
          clear HSO2
          go_wp2
          go_loopw [8, 9] (fun x8 x9 wr => ∃ (j : Nat) (p : Bool), j ≤ zs.length ∧ x9 = .int .i64 (j : Int) ∧ x8 = .bool p ∧ Hid (Inn w zs.length gz gi gu (fun i => zs.getD i 0) fi i u p j wr)) (fun _ x9 _ => zs.length - (intOf x9).toNat)
          case atStart => exact ⟨0, false, Nat.zero_le _, rfl, rfl, fun _ => ⟨HSO3.out, fun t ht => by omega⟩, fun h => by cases h⟩
          case round =>
            rename_i wr hKK2
            clear HSO3
            obtain ⟨j, p, hj, rfl, rfl, HIN⟩ := hrel
            by_cases hjl : j < zs.length
            · have d4 : decide ((j : Int) < (zs.length : Int)) = true := decide_eq_true (by omega)
              have hw4 : wrap64 ((j : Int) + 1) = ((j + 1 : Nat) : Int) := by have := HN.out; rw [IntWalk.wrap64_in _ ⟨by omega, by omega⟩]; omega
              have j1 : (0 : Int) ≤ (j : Int) := by omega
              have j2 : (j : Int) < (zs.length : Int) := by omega
              cases hp : p
              · have hcu := (HIN.out.1 hp).1.2.2.1.1 j hjl
                have hcz : wr.cell? ⟨gz, j, none⟩ = some (fl (zs.getD j 0)) := (HIN.out.1 hp).1.1.1 j hjl
                obtain ⟨zj, hzj⟩ : ∃ zj, zj = zs.getD j 0 := ⟨_, rfl⟩
                rw [← hzj] at hcz
                have HZJ := Lib.hid hzj
                have HZL := Lib.hid (show zj < 2 ^ 64 from hzj ▸ lt_at HX.out j)
                clear hzj
                have hcf := (HIN.out.1 hp).1.2.1.1 i hlt
                have hfu := (HIN.out.1 hp).1.2.2.1.2.1 j
                have hg1 := (HIN.out.1 hp).1.1.2.2
                have hg2 := (HIN.out.1 hp).1.2.1.2.2
                have hg3 := (HIN.out.1 hp).1.2.2.1.2.2
                cases hu : u j
                · rw [hu] at hcu
                  by_cases he : cn zj = fi i
                  · have HSM := Lib.hid (fun (W : World) => same_true zj (fi i) HZL.out (HFI.out i) (he.trans HCF.out.symm) W)
                    have HE := Lib.hid he
                    have HU := Lib.hid hu
                    clear he hu
                    go_wp2_with fail
                    go_region_held3 (fun wx => (∀ z y, z < wr.heap.size → wx.cell? ⟨z, y, none⟩ = wr.cell? ⟨z, y, none⟩) ∧ Below wr.heap.size wr wx)
                      (first
                        | exact Fl.keeps0 _
                        | (refine Fl.keepsB hbn ?_; assumption)
                        | (refine Fl.keepsD ?_; assumption))
                      (first
                        | (go_at_call 31; (with_reducible refine (HSM.out _).mono ?_); rintro e w1 ⟨rfl, hbn⟩))
                    have HBR := Lib.hid (Fl.stays_of (by assumption : (∀ z y, z < wr.heap.size → World.cell? _ ⟨z, y, none⟩ = wr.cell? ⟨z, y, none⟩) ∧ Below wr.heap.size wr _))
                    have HS1 := Lib.hid ((HIN.out.1 hp).1.below HBR.out)
                    have hfu1 := HS1.out.2.2.1.2.1 j
                    have hcu1 := HS1.out.2.2.1.1 j hjl
                    rw [HU.out] at hcu1
                    have HF := Lib.hid (HS1.out.step HNE.out.1 HNE.out.2.1 HNE.out.2.2 hlt hjl HU.out (by show cn (zs.getD j 0) = fi i; rw [← HZJ.out]; exact HE.out))
                    clear hbn hcz hcf
                    go_wp2
                    go_roundw
                    case rel => exact ⟨j + 1, true, hjl, by first | rfl | go_num, rfl, ⟨fun h => (by cases h), fun _ => ⟨_, HF.out⟩⟩⟩
                    case measure => first | exact meas_step hjl | (rw [hw4]; exact meas_step hjl) | exact meas_step2 hjl
                  · have HSM := Lib.hid (fun (W : World) => same_false zj (fi i) HZL.out (HFI.out i) (fun h => he (h.trans HCF.out)) W)
                    have HE := Lib.hid he
                    have HU := Lib.hid hu
                    clear he hu
                    go_wp2_with fail
                    go_region_held3 (fun wx => (∀ z y, z < wr.heap.size → wx.cell? ⟨z, y, none⟩ = wr.cell? ⟨z, y, none⟩) ∧ Below wr.heap.size wr wx)
                      (first
                        | exact Fl.keeps0 _
                        | (refine Fl.keepsB hbn ?_; assumption)
                        | (refine Fl.keepsD ?_; assumption))
                      (first
                        | (go_at_call 31; (with_reducible refine (HSM.out _).mono ?_); rintro e w1 ⟨rfl, hbn⟩))
                    have HBR := Lib.hid (Fl.stays_of (by assumption : (∀ z y, z < wr.heap.size → World.cell? _ ⟨z, y, none⟩ = wr.cell? ⟨z, y, none⟩) ∧ Below wr.heap.size wr _))
                    have HS1 := Lib.hid ((HIN.out.1 hp).1.below HBR.out)
                    have HF := Lib.hid (show Inn w zs.length gz gi gu (fun i => zs.getD i 0) fi i u false (j + 1) _ from ⟨fun _ => ⟨HS1.out, fun t ht hh => by
                      by_cases e : t = j
                      · rw [e] at hh; exact HE.out (by rw [HZJ.out]; exact hh.2)
                      · exact (HIN.out.1 hp).2 t (by omega) hh⟩, fun h => by cases h⟩)
                    clear hbn hcu hcz hcf
                    go_wp2
                    go_roundw
                    case rel => exact ⟨j + 1, false, hjl, by first | rfl | go_num, rfl, HF.out⟩
                    case measure => first | exact meas_step hjl | (rw [hw4]; exact meas_step hjl) | exact meas_step2 hjl
                · rw [hu] at hcu
                  have HU := Lib.hid hu
                  clear hu
                  go_wp2_with fail
                  go_quiet (fail)
                  obtain ⟨W5, hW5⟩ : ∃ W5, W5 = wr.drewN nq := ⟨_, rfl⟩
                  have HF := Lib.hid (show Inn w zs.length gz gi gu (fun i => zs.getD i 0) fi i u false (j + 1) W5 from ⟨fun _ => ⟨by rw [hW5]; exact (HIN.out.1 hp).1.below (Fl.below_drewN (Below.refl _ _) nq), fun t ht hh => by
                      by_cases e : t = j
                      · rw [e, HU.out] at hh; cases hh.1
                      · exact (HIN.out.1 hp).2 t (by omega) hh⟩, fun h => by cases h⟩)
                  rw [← hW5]
                  clear hW5 hcu hcz hcf
                  go_wp2
                  go_roundw
                  case rel => exact ⟨j + 1, false, hjl, by first | rfl | go_num, rfl, HF.out⟩
                  case measure => first | exact meas_step hjl | (rw [hw4]; exact meas_step hjl) | exact meas_step2 hjl
              · obtain ⟨u', hu'⟩ := HIN.out.2 hp
                have HF := Lib.hid hu'
                clear hu'
                go_wp2
                go_roundw
                case rel => exact ⟨i + 1, q', u', HI.out, by first | rfl | go_num, rfl, HQ2.out, HF.out⟩
                case measure => first | exact meas_step hlt | (rw [hw1]; exact meas_step hlt) | exact meas_step2 hlt
            · have d4 : decide ((j : Int) < (zs.length : Int)) = false := decide_eq_false (by omega)
              cases hp : p
              · obtain ⟨k, k1, k2, k3⟩ := (HIN.out.1 hp).1.2.2.2.1.next hlt
                exact absurd ⟨k2, k3⟩ ((HIN.out.1 hp).2 k (by omega))
              · obtain ⟨u', hu'⟩ := HIN.out.2 hp
                have HF := Lib.hid hu'
                clear hu'
                go_wp2
                go_roundw
                case rel => exact ⟨i + 1, q', u', HI.out, by first | rfl | go_num, rfl, HQ2.out, HF.out⟩
                case measure => first | exact meas_step hlt | (rw [hw1]; exact meas_step hlt) | exact meas_step2 hlt
    · obtain rfl : i = zs.length := by omega
      have d3 : decide ((zs.length : Int) < (zs.length : Int)) = false := decide_eq_false (by omega)
      have HLW := Lib.hid (HL0.out.below HSO.out.2.2.2.2)
      have HBW := Lib.hid HSO.out.2.2.2.2
      clear hi hlt
      by_cases h0 : zs.length = 0
      · have e1 : ((zs.length : Int) == 0) = true := by rw [h0]; rfl
        have e2 : decide ((zs.length : Int) = 0) = true := decide_eq_true (by omega)
        have e3 : (zs.length : Int) = 0 := by omega
        clear h0
        go_wp2_with (go_at_call 25; (with_reducible refine (sort21 _ HLW.out).mono ?_); rintro e w4 ⟨g4, c4, rfl, hb⟩; have HB4 := Lib.hid (Fl.chain HBW.out hb); clear hb)
        go_ret
        exact ⟨rfl, HB4.out⟩
      · have e1 : ((zs.length : Int) == 0) = false := beq_eq_false_iff_ne.2 (by omega)
        have e2 : decide ((zs.length : Int) = 0) = false := decide_eq_false (by omega)
        have e3 : ¬ ((zs.length : Int) = 0) := by omega
        have HN0 := Lib.hid h0
        cases hq : q
        · have hnn : nanB fi zs.length = false := HQ.out.symm.trans hq
          have hb1 := best_least HP.out.1 HP.out.2 HN0.out HN.out hnn
          have hb2 := best_greatest HP.out.1 HP.out.2 HN0.out HN.out hnn
          have hm1 : isNan (bestV zs (-1)) = false := by rw [← isNan_cn, hb1.1, isNan_cn]; exact nanB_false hnn 0 (by omega)
          have hm2 : isNan (bestV zs 1) = false := by rw [← isNan_cn, hb2.1, isNan_cn]; exact nanB_false hnn _ (by omega)
          have hv1 : bestV zs (-1) < 2 ^ 64 := by obtain ⟨t, e⟩ := hb1.2; rw [e]; exact lt_at HX.out t
          have hv2 : bestV zs 1 < 2 ^ 64 := by obtain ⟨t, e⟩ := hb2.2; rw [e]; exact lt_at HX.out t
          have HLE := Lib.hid (fun (W : World) (h : Below wr.heap.size wr W) => (So.least (HSO.out.below h) HCZ.out HX.out HL0.out).mono (R' := fun e w' => e = .returned (fl (bestV zs (-1))) ∧ Below W.heap.size W w') (fun e w' ⟨r, h1, h2, h3⟩ => ⟨by rw [h1, num_of hm1 h2], h3⟩))
          have HGE := Lib.hid (fun (W : World) (h : Below wr.heap.size wr W) => (So.greatest (HSO.out.below h) HCZ.out HX.out HL0.out).mono (R' := fun e w' => e = .returned (fl (bestV zs 1)) ∧ Below W.heap.size W w') (fun e w' ⟨r, h1, h2, h3⟩ => ⟨by rw [h1, num_of hm2 h2], h3⟩))
          obtain ⟨m, hm⟩ : ∃ m, zs.length = m + 1 := ⟨zs.length - 1, by omega⟩
          have HS1 := Lib.hid (fun (W : World) => same_true (bestV zs (-1)) (fi 0) hv1 (HFI.out 0) hb1.1 W)
          have HS2 := Lib.hid (fun (W : World) => same_true (bestV zs 1) (fi m) hv2 (HFI.out m) (hb2.1.trans (by rw [hm]; rfl)) W)
          generalize bestV zs (-1) = v1 at HLE HS1
          generalize bestV zs 1 = v2 at HGE HS2
          have hc1 := HSO.out.2.1.1 0 (by omega)
          have hc2 := HSO.out.2.1.1 m (by omega)
          have hg := HSO.out.2.1.2.2
          have hw2 : wrap64 ((zs.length : Int) - 1) = (m : Int) := by have := HN.out; rw [IntWalk.wrap64_in _ ⟨by omega, by omega⟩]; omega
          have hw3 : IntKind.i64.wrap ((zs.length : Int) - 1) = (m : Int) := by have := HN.out; rw [IntKind.wrap_i64]; omega
          have i1 : (0 : Int) < (zs.length : Int) := by omega
          have i2 : 0 < zs.length := by omega
          have i3 : (0 : Int) ≤ (m : Int) := by omega
          have i4 : (m : Int) < (zs.length : Int) := by omega
          have i6 : m < zs.length := by omega
          clear hb1 hb2 hm1 hm2 hv1 hv2 hnn hm h0 hq
          go_upto_region 28 with fail
          go_region_held3 (fun wx => (∀ z y, z < wr.heap.size → wx.cell? ⟨z, y, none⟩ = wr.cell? ⟨z, y, none⟩) ∧ Below wr.heap.size wr wx)
            (first
              | exact Fl.keeps0 _
              | (refine Fl.keepsB hbn ?_; assumption)
              | (refine Fl.keepsD ?_; assumption))
            (first
              | (go_at_call 32; (with_reducible refine (HLE.out _ (Fl.stays_of (by assumption))).mono ?_); rintro e w1 ⟨rfl, hbn⟩)
              | (go_at_call 33; (with_reducible refine (HGE.out _ (Fl.stays_of (by assumption))).mono ?_); rintro e w1 ⟨rfl, hbn⟩)
              | (go_at_call 31; (first | (with_reducible refine (HS1.out _).mono ?_) | (with_reducible refine (HS2.out _).mono ?_)); rintro e w1 ⟨rfl, hbn⟩))
          have HBR := Lib.hid (Fl.stays_of (by assumption : (∀ z y, z < wr.heap.size → World.cell? _ ⟨z, y, none⟩ = wr.cell? ⟨z, y, none⟩) ∧ Below wr.heap.size wr _))
          have HBF := Lib.hid (Fl.chain HBW.out HBR.out)
          clear hbn
          go_wp2
          go_ret
          exact ⟨rfl, HBF.out⟩
        · have HV := Lib.hid (show bestV zs (-1) = 9221120237041090560 from best_nan HP.out.1 HN0.out HN.out (HQ.out.symm.trans hq))
          have HCU := Lib.hid HSO.out
          clear h0 hq
          go_wp2_with (first
            | (go_at_call 25; (with_reducible refine (sort21 _ HLW.out).mono ?_); rintro e w4 ⟨g4, c4, rfl, hb⟩; replace HCU := Lib.hid (HCU.out.below hb); clear hb)
            | (go_at_call 32; (with_reducible refine (So.least HCU.out HCZ.out HX.out HL0.out).mono ?_); rintro e w5 ⟨r, rfl, hr, hb⟩; replace HCU := Lib.hid (HCU.out.below hb); (first | (have ho : FloatKind.f64.format.order _ r = none := Fl.ford_nan_left HR1.out _) | (have HR1 := Lib.hid (show isNan r = true from nan_of HV.out hr))); clear hb hr))
          go_ret
          exact ⟨rfl, HCU.out.2.2.2.2⟩
end Go.Proofs.YtmjnnjjmfedlbaaDoor
