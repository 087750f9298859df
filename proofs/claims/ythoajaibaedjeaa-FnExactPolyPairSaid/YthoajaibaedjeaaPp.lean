/-
  Contracts of PolyPair, of the program and of the reference.
-/
import Derived.Test.YthoajaibaedjeaaA
import Derived.Test.YthoajaibaedjeaaPt
namespace Go.Proofs.Ythoajaibaedjeaa
set_option linter.unusedSimpArgs false
set_option linter.unusedVariables false
open Go.RowKit Go.Fl

/-- The value once the last j + 1 elements are taken in. -/
def foldQ (ps : List (Nat × Nat)) (x : Nat × Nat) : Nat → Nat × Nat
  | 0 => ps.getD (ps.length - 1) (0, 0)
  | j + 1 => sumP (mulP (foldQ ps x j) x) (ps.getD (ps.length - 2 - j) (0, 0))
def polyP (ps : List (Nat × Nat)) (x : Nat × Nat) : Nat × Nat := if ps.length ≤ 128 ∧ 0 < ps.length then foldQ ps x (ps.length - 1) else (0, 0)

/-- The loop's memory: the sum so far, what came in, the result's block. -/
def Pp (w : World) (s x : Nat × Nat) (W : World) : Prop :=
  (Blk W (w.heap.size + 1 + 1) 25 #[fl s.1, fl s.2] ∧ Blk W w.heap.size 25 #[fl x.1, fl x.2] ∧ Blk W (w.heap.size + 1) 25 #[fl 0, fl 0]) ∧ Below w.heap.size w W

section
variable {w W W1 : World} {s x : Nat × Nat}
theorem Pp.call (h : Pp w s x W) (hb : Below W.heap.size W W1) : Pp w s x W1 :=
  ⟨⟨h.1.1.below hb h.1.1.lt, h.1.2.1.below hb h.1.2.1.lt, h.1.2.2.below hb h.1.2.2.lt⟩, h.2.trans (hb.mono h.2.size)⟩
theorem Pp.drew (h : Pp w s x W) : Pp w s x W.drew := ⟨h.1, h.2.drew⟩
theorem Pp.set (h : Pp w s x W) (a b : Nat) : Pp w (a, b) x ((W.setCell ⟨w.heap.size + 1 + 1, 0, none⟩ (fl a)).setCell ⟨w.heap.size + 1 + 1, 1, none⟩ (fl b)) :=
  ⟨⟨(h.1.1.set_ 0 _).set_ 1 _, ((h.1.2.1.off (by omega) 0 _).off (by omega) 1 _), ((h.1.2.2.off (by omega) 0 _).off (by omega) 1 _)⟩, (h.2.setCell (p := ⟨w.heap.size + 1 + 1, 0, none⟩) (by show w.heap.size ≤ w.heap.size + 1 + 1; omega) _).setCell (p := ⟨w.heap.size + 1 + 1, 1, none⟩) (by show w.heap.size ≤ w.heap.size + 1 + 1; omega) _⟩
theorem Pp.facts (h : Pp w s x W) : W.cell? ⟨w.heap.size + 1 + 1, 0, none⟩ = some (fl s.1) ∧ W.cell? ⟨w.heap.size + 1 + 1, 1, none⟩ = some (fl s.2) ∧ W.cell? ⟨w.heap.size, 0, none⟩ = some (fl x.1) ∧ W.cell? ⟨w.heap.size, 1, none⟩ = some (fl x.2) ∧ W.cell? ⟨w.heap.size + 1, 0, none⟩ = some (fl 0) ∧ W.cell? ⟨w.heap.size + 1, 1, none⟩ = some (fl 0) ∧
    W.frozen? ⟨w.heap.size + 1 + 1, 0, none⟩ = false ∧ W.frozen? ⟨w.heap.size + 1 + 1, 1, none⟩ = false ∧ W.frozen? ⟨w.heap.size + 1, 0, none⟩ = false ∧ W.frozen? ⟨w.heap.size + 1, 1, none⟩ = false :=
  ⟨h.1.1.cell 0, h.1.1.cell 1, h.1.2.1.cell 0, h.1.2.1.cell 1, h.1.2.2.cell 0, h.1.2.2.cell 1, h.1.1.frozen 0, h.1.1.frozen 1, h.1.2.2.frozen 0, h.1.2.2.frozen 1⟩
/-- What the region keeps: all but the sum's own block. -/
def Sk (wr : World) (g : Nat) (wx : World) : Prop := (∀ z y, z < wr.heap.size → z ≠ g → wx.cell? ⟨z, y, none⟩ = wr.cell? ⟨z, y, none⟩) ∧ wr.heap.size ≤ wx.heap.size
theorem kS0 (wr : World) (g : Nat) : (∀ z y, z < wr.heap.size → z ≠ g → wr.drew.cell? ⟨z, y, none⟩ = wr.cell? ⟨z, y, none⟩) ∧ wr.heap.size ≤ wr.drew.heap.size := ⟨fun _ _ _ _ => rfl, Nat.le_refl _⟩
theorem kSB {wr W w1 : World} {g : Nat} (hb : Below W.heap.size W w1) (h : (∀ z y, z < wr.heap.size → z ≠ g → W.cell? ⟨z, y, none⟩ = wr.cell? ⟨z, y, none⟩) ∧ wr.heap.size ≤ W.heap.size) : (∀ z y, z < wr.heap.size → z ≠ g → w1.cell? ⟨z, y, none⟩ = wr.cell? ⟨z, y, none⟩) ∧ wr.heap.size ≤ w1.heap.size :=
  ⟨fun z y hz hg => by rw [hb.cell (p := ⟨z, y, none⟩) (Nat.lt_of_lt_of_le hz h.2)]; exact h.1 z y hz hg, Nat.le_trans h.2 hb.size⟩
theorem kSS {wr W : World} {g j : Nat} {v : Value} (h : (∀ z y, z < wr.heap.size → z ≠ g → W.cell? ⟨z, y, none⟩ = wr.cell? ⟨z, y, none⟩) ∧ wr.heap.size ≤ W.heap.size) : (∀ z y, z < wr.heap.size → z ≠ g → (W.setCell ⟨g, j, none⟩ v).cell? ⟨z, y, none⟩ = wr.cell? ⟨z, y, none⟩) ∧ wr.heap.size ≤ (W.setCell ⟨g, j, none⟩ v).heap.size :=
  ⟨fun z y hz hg => by rw [World.cell?_setCell_other _ _ _ _ (by intro e; injection e with e1; exact hg e1.symm)]; exact h.1 z y hz hg, by simpa using h.2⟩
theorem Pp.start (w : World) (s x : Nat × Nat) : Pp w s x (((w.alloc (.cells #[fl x.1, fl x.2] 25)).alloc (.cells #[fl 0, fl 0] 25)).alloc (.cells #[fl s.1, fl s.2] 25)) :=
  ⟨⟨by simpa using Blk.new (w.alloc _ |>.alloc _) 25 _, by simpa using ((Blk.new w 25 _).alloc _).alloc _, by simpa using (Blk.new (w.alloc _) 25 _).alloc _⟩,
    ((((Below.refl _ _).alloc (Nat.le_refl _) _).alloc (by simp) _).alloc (by simp; omega) _)⟩
end

set_option maxRecDepth 8000 in
set_option maxHeartbeats 1600000 in
theorem sPolyPair_any (A : Option Addr) (n c : Nat) (ps : List (Nat × Nat)) (x : Nat × Nat) (w : World) (h : PRow w A n c ps) (hn : n ≤ 1048576) (hbd : ∀ p ∈ ps, p.1 < 2 ^ 64 ∧ p.2 < 2 ^ 64) :
    Calls Try.prog 31 #[.slice A n c, pr x.1 x.2] w (RetP (polyP ps x) w.heap.size w) := by
  have HX := Lib.hid h.1
  have HR := Lib.hid h
  clear h
  by_cases h0 : n = 0
  · subst h0
    have HZ := Lib.hid (show polyP ps x = (0, 0) by unfold polyP; rw [if_neg (by rw [HX.out]; omega)])
    clear hbd hn
    go_enter Try.func31, Try.ntmps31
    go_wp2
    refine bodyPost_ret (v := pr 0 0) (by simp [results, Try.results31, go_sem]) rfl ⟨_, _, rfl, by rw [HZ.out]; exact peq.refl _, by decide, by decide, ?_⟩
    exact ((Below.refl _ _).alloc (Nat.le_refl _) _).alloc (by simp) _
  have hb0 : ((n : Int) == 0) = false := by simp; omega
  by_cases h2 : n ≤ 128
  · have d2 : decide (128 < (n : Int)) = false := decide_eq_false (by omega)
    obtain ⟨b, off, rfl, hb, hc⟩ := HR.out.2.2.2 (by omega)
    have h1 : (1 : Int) ≤ (n : Int) := by omega
    have hcell0 : w.cell? ⟨b, off + (n - 1) * 2, none⟩ = some (fl (ps.getD (n - 1) (0, 0)).1) := (hc (n - 1) (by omega)).1
    have hcell1 : w.cell? ⟨b, off + (n - 1) * 2 + 1, none⟩ = some (fl (ps.getD (n - 1) (0, 0)).2) := (hc (n - 1) (by omega)).2
    have HC := Lib.hid hc
    have hbne : b ≠ w.heap.size ∧ b ≠ w.heap.size + 1 := by omega
    have HB := Lib.hid (hbd (ps.getD (n - 1) (0, 0)) (by rw [List.getD_eq_getElem?_getD, List.getElem?_eq_getElem (by rw [HX.out]; omega)]; exact List.getElem_mem _))
    have HL := Lib.hid (show ps.getD (n - 1) (0, 0) = foldQ ps x 0 by rw [foldQ, HX.out])
    generalize ps.getD (n - 1) (0, 0) = last at hcell0 hcell1 HB HL
    obtain ⟨l0, l1⟩ := last
    clear hc hbd
    have HK0 := Lib.hid (Pp.start w (l0, l1) x)
    go_enter Try.func31, Try.ntmps31
    go_wp2
    clear hcell0 hcell1
    go_loopw [6] (fun i wr => ∃ (q : Nat) (i0 : Int) (s : Nat × Nat), i0 = (q : Int) - 1 ∧ q ≤ n - 1 ∧ i = .int .i64 i0 ∧ Hid (Pp w s x wr) ∧ Hid (peq s (foldQ ps x (n - 1 - q)) ∧ s.1 < 2 ^ 64 ∧ s.2 < 2 ^ 64)) (fun i _ => (intOf i + 1).toNat)
    case atStart => exact ⟨n - 1, (n : Int) - 2, _, by omega, Nat.le_refl _, by go_num, HK0.out, by rw [Nat.sub_self, ← HL.out]; exact peq.refl _, HB.out.1, HB.out.2⟩
    case round =>
      rename_i wr
      clear HK0
      obtain ⟨q, i0, s, hi0, hq, rfl, HK, HV⟩ := hrel
      obtain ⟨s0, s1⟩ := s
      obtain ⟨c50, c51, c30, c31, c40, c41, f50, f51, f40, f41⟩ := HK.out.facts
      cases q with
      | succ q =>
        have HE0 := Lib.hid (show ∀ W : World, Below w.heap.size w W → W.cell? ⟨b, off + q * 2, none⟩ = some (fl (ps.getD q (0, 0)).1) from fun W hW => by rw [hW.cell (p := ⟨b, off + q * 2, none⟩) hb]; exact (HC.out q (by omega)).1)
        have HE1 := Lib.hid (show ∀ W : World, Below w.heap.size w W → W.cell? ⟨b, off + q * 2 + 1, none⟩ = some (fl (ps.getD q (0, 0)).2) from fun W hW => by rw [hW.cell (p := ⟨b, off + q * 2 + 1, none⟩) hb]; exact (HC.out q (by omega)).2)
        have HG := Lib.hid (show foldQ ps x (n - 1 - q) = sumP (mulP (foldQ ps x (n - 1 - (q + 1))) x) (ps.getD q (0, 0)) by rw [show n - 1 - q = (n - 1 - (q + 1)) + 1 from by omega, foldQ, HX.out, show n - 2 - (n - 1 - (q + 1)) = q from by omega])
        generalize ps.getD q (0, 0) = y at HE0 HE1 HG
        obtain ⟨y0, y1⟩ := y
        have hd0 := HE0.out _ HK.out.2
        have hd1 := HE1.out _ HK.out.2
        obtain rfl : i0 = (q : Int) := by omega
        have hq1 : (0 : Int) ≤ (q : Int) := by omega
        have hqn : (q : Int) < (n : Int) := by omega
        have hqn' : (q : Int) ≤ (n : Int) := by omega
        have HQ := Lib.hid (show q ≤ n - 1 by omega)
        clear hi0 hq
        go_wp2_with fail
        have hbr : b < wr.heap.size := Nat.lt_of_lt_of_le hb HK.out.2.size
        have hg3 : w.heap.size < wr.heap.size := HK.out.1.2.1.lt
        have hb5 : b ≠ w.heap.size + 1 + 1 := by omega
        have h35 : w.heap.size ≠ w.heap.size + 1 + 1 := by omega
        go_region_with (first
            | (go_at_call 19; (with_reducible refine (sMulPair_any _ _ _ _ _).mono ?_); rintro e w1 ⟨r, i, rfl, hpe, -, -, hbn⟩; have HP1 := Lib.hid hpe; (first | (have HK1 := Lib.hid (HK.out.call hbn)) | (have HK1 := Lib.hid (HK.out.drew.call hbn))); clear hpe; obtain ⟨p50, p51, p30, p31, p40, p41, q50, q51, q40, q41⟩ := HK1.out.facts; have hce0 := HE0.out _ HK1.out.2; have hce1 := HE1.out _ HK1.out.2)
            | (go_at_call 54; (with_reducible refine (sAddPair_any _ _ _ _ _).mono ?_); rintro e w2 ⟨r2, i2, rfl, hpe, hr, hi, hbn⟩; have HP2 := Lib.hid (And.intro hpe (And.intro hr hi)); have HK2 := Lib.hid (HK1.out.call hbn); clear hpe hr hi; obtain ⟨y50, y51, y30, y31, y40, y41, z50, z51, z40, z41⟩ := HK2.out.facts))
        all_goals go_wp2
        all_goals go_roundw
        all_goals first
          | exact ⟨q, _, _, rfl, HQ.out, rfl, HK2.out.set _ _, by rw [HG.out]; exact HP2.out.1.trans (by rw [sumP_of HP1.out (peq.refl (y0, y1)), mulP_of HV.out.1 (peq.refl (x.1, x.2))]; exact peq.refl _), HP2.out.2⟩
          | (simp [intOf]; done)
      | zero =>
        obtain rfl : i0 = -1 := by omega
        clear hi0
        go_wp2
        refine bodyPost_ret (v := pr s0 s1) (by simp [results, Try.results31, go_sem, *]) rfl ⟨_, _, rfl, by rw [show polyP ps x = foldQ ps x (n - 1) from by unfold polyP; rw [if_pos (by rw [HX.out]; omega), HX.out]]; exact HV.out.1, HV.out.2.1, HV.out.2.2, ?_⟩
        exact (HK.out.2.setCell (p := ⟨w.heap.size + 1, 0, none⟩) (by show w.heap.size ≤ w.heap.size + 1; omega) _).setCell (p := ⟨w.heap.size + 1, 1, none⟩) (by show w.heap.size ≤ w.heap.size + 1; omega) _
  · have d2 : decide (128 < (n : Int)) = true := decide_eq_true (by omega)
    have HZ := Lib.hid (show polyP ps x = (0, 0) by unfold polyP; rw [if_neg (by rw [HX.out]; omega)])
    clear hbd
    go_enter Try.func31, Try.ntmps31
    go_wp2
    refine bodyPost_ret (v := pr 0 0) (by simp [results, Try.results31, go_sem]) rfl ⟨_, _, rfl, by rw [HZ.out]; exact peq.refl _, by decide, by decide, ?_⟩
    exact ((Below.refl _ _).alloc (Nat.le_refl _) _).alloc (by simp) _

set_option maxRecDepth 8000 in
set_option maxHeartbeats 1600000 in
theorem iPolyPair_any (A : Option Addr) (n c : Nat) (ps : List (Nat × Nat)) (x : Nat × Nat) (w : World) (h : PRow w A n c ps) (hn : n ≤ 1048576) (hbd : ∀ p ∈ ps, p.1 < 2 ^ 64 ∧ p.2 < 2 ^ 64) :
    Calls Try.prog 33 #[.slice A n c, pr x.1 x.2] w (RetP (polyP ps x) w.heap.size w) := by
  have HX := Lib.hid h.1
  have HR := Lib.hid h
  clear h
  by_cases h0 : n = 0
  · subst h0
    have HZ := Lib.hid (show polyP ps x = (0, 0) by unfold polyP; rw [if_neg (by rw [HX.out]; omega)])
    clear hbd hn
    go_enter Try.func33, Try.ntmps33
    go_wp2
    refine bodyPost_ret (v := pr 0 0) (by simp [results, Try.results33, go_sem]) rfl ⟨_, _, rfl, by rw [HZ.out]; exact peq.refl _, by decide, by decide, ?_⟩
    exact ((Below.refl _ _).alloc (Nat.le_refl _) _).alloc (by simp) _
  have hb0 : ((n : Int) == 0) = false := by simp; omega
  by_cases h2 : n ≤ 128
  · have d2 : decide (128 < (n : Int)) = false := decide_eq_false (by omega)
    obtain ⟨b, off, rfl, hb, hc⟩ := HR.out.2.2.2 (by omega)
    have h1 : (1 : Int) ≤ (n : Int) := by omega
    have hcell0 : w.cell? ⟨b, off + (n - 1) * 2, none⟩ = some (fl (ps.getD (n - 1) (0, 0)).1) := (hc (n - 1) (by omega)).1
    have hcell1 : w.cell? ⟨b, off + (n - 1) * 2 + 1, none⟩ = some (fl (ps.getD (n - 1) (0, 0)).2) := (hc (n - 1) (by omega)).2
    have HC := Lib.hid hc
    have hbne : b ≠ w.heap.size ∧ b ≠ w.heap.size + 1 := by omega
    have HB := Lib.hid (hbd (ps.getD (n - 1) (0, 0)) (by rw [List.getD_eq_getElem?_getD, List.getElem?_eq_getElem (by rw [HX.out]; omega)]; exact List.getElem_mem _))
    have HL := Lib.hid (show ps.getD (n - 1) (0, 0) = foldQ ps x 0 by rw [foldQ, HX.out])
    generalize ps.getD (n - 1) (0, 0) = last at hcell0 hcell1 HB HL
    obtain ⟨l0, l1⟩ := last
    clear hc hbd
    have HK0 := Lib.hid (Pp.start w (l0, l1) x)
    go_enter Try.func33, Try.ntmps33
    go_wp2
    clear hcell0 hcell1
    go_loopw [6] (fun i wr => ∃ (q : Nat) (i0 : Int) (s : Nat × Nat), i0 = (q : Int) - 1 ∧ q ≤ n - 1 ∧ i = .int .i64 i0 ∧ Hid (Pp w s x wr) ∧ Hid (peq s (foldQ ps x (n - 1 - q)) ∧ s.1 < 2 ^ 64 ∧ s.2 < 2 ^ 64)) (fun i _ => (intOf i + 1).toNat)
    case atStart => exact ⟨n - 1, (n : Int) - 2, _, by omega, Nat.le_refl _, by go_num, HK0.out, by rw [Nat.sub_self, ← HL.out]; exact peq.refl _, HB.out.1, HB.out.2⟩
    case round =>
      rename_i wr
      clear HK0
      obtain ⟨q, i0, s, hi0, hq, rfl, HK, HV⟩ := hrel
      obtain ⟨s0, s1⟩ := s
      obtain ⟨c50, c51, c30, c31, c40, c41, f50, f51, f40, f41⟩ := HK.out.facts
      cases q with
      | succ q =>
        have HE0 := Lib.hid (show ∀ W : World, Below w.heap.size w W → W.cell? ⟨b, off + q * 2, none⟩ = some (fl (ps.getD q (0, 0)).1) from fun W hW => by rw [hW.cell (p := ⟨b, off + q * 2, none⟩) hb]; exact (HC.out q (by omega)).1)
        have HE1 := Lib.hid (show ∀ W : World, Below w.heap.size w W → W.cell? ⟨b, off + q * 2 + 1, none⟩ = some (fl (ps.getD q (0, 0)).2) from fun W hW => by rw [hW.cell (p := ⟨b, off + q * 2 + 1, none⟩) hb]; exact (HC.out q (by omega)).2)
        have HG := Lib.hid (show foldQ ps x (n - 1 - q) = sumP (mulP (foldQ ps x (n - 1 - (q + 1))) x) (ps.getD q (0, 0)) by rw [show n - 1 - q = (n - 1 - (q + 1)) + 1 from by omega, foldQ, HX.out, show n - 2 - (n - 1 - (q + 1)) = q from by omega])
        generalize ps.getD q (0, 0) = y at HE0 HE1 HG
        obtain ⟨y0, y1⟩ := y
        have hd0 := HE0.out _ HK.out.2
        have hd1 := HE1.out _ HK.out.2
        obtain rfl : i0 = (q : Int) := by omega
        have hq1 : (0 : Int) ≤ (q : Int) := by omega
        have hqn : (q : Int) < (n : Int) := by omega
        have hqn' : (q : Int) ≤ (n : Int) := by omega
        have HQ := Lib.hid (show q ≤ n - 1 by omega)
        clear hi0 hq
        go_wp2_with fail
        have hbr : b < wr.heap.size := Nat.lt_of_lt_of_le hb HK.out.2.size
        have hg3 : w.heap.size < wr.heap.size := HK.out.1.2.1.lt
        have hb5 : b ≠ w.heap.size + 1 + 1 := by omega
        have h35 : w.heap.size ≠ w.heap.size + 1 + 1 := by omega
        go_region_with (first
            | (go_at_call 17; (with_reducible refine (iMulPair_any _ _ _ _ _).mono ?_); rintro e w1 ⟨r, i, rfl, hpe, -, -, hbn⟩; have HP1 := Lib.hid hpe; (first | (have HK1 := Lib.hid (HK.out.call hbn)) | (have HK1 := Lib.hid (HK.out.drew.call hbn))); clear hpe; obtain ⟨p50, p51, p30, p31, p40, p41, q50, q51, q40, q41⟩ := HK1.out.facts; have hce0 := HE0.out _ HK1.out.2; have hce1 := HE1.out _ HK1.out.2)
            | (go_at_call 20; (with_reducible refine (iAddPair_any _ _ _ _ _).mono ?_); rintro e w2 ⟨r2, i2, rfl, hpe, hr, hi, hbn⟩; have HP2 := Lib.hid (And.intro hpe (And.intro hr hi)); have HK2 := Lib.hid (HK1.out.call hbn); clear hpe hr hi; obtain ⟨y50, y51, y30, y31, y40, y41, z50, z51, z40, z41⟩ := HK2.out.facts))
        all_goals go_wp2
        all_goals go_roundw
        all_goals first
          | exact ⟨q, _, _, rfl, HQ.out, rfl, HK2.out.set _ _, by rw [HG.out]; exact HP2.out.1.trans (by rw [sumP_of HP1.out (peq.refl (y0, y1)), mulP_of HV.out.1 (peq.refl (x.1, x.2))]; exact peq.refl _), HP2.out.2⟩
          | (simp [intOf]; done)
      | zero =>
        obtain rfl : i0 = -1 := by omega
        clear hi0
        go_wp2
        refine bodyPost_ret (v := pr s0 s1) (by simp [results, Try.results33, go_sem, *]) rfl ⟨_, _, rfl, by rw [show polyP ps x = foldQ ps x (n - 1) from by unfold polyP; rw [if_pos (by rw [HX.out]; omega), HX.out]]; exact HV.out.1, HV.out.2.1, HV.out.2.2, ?_⟩
        exact (HK.out.2.setCell (p := ⟨w.heap.size + 1, 0, none⟩) (by show w.heap.size ≤ w.heap.size + 1; omega) _).setCell (p := ⟨w.heap.size + 1, 1, none⟩) (by show w.heap.size ≤ w.heap.size + 1; omega) _
  · have d2 : decide (128 < (n : Int)) = true := decide_eq_true (by omega)
    have HZ := Lib.hid (show polyP ps x = (0, 0) by unfold polyP; rw [if_neg (by rw [HX.out]; omega)])
    clear hbd
    go_enter Try.func33, Try.ntmps33
    go_wp2
    refine bodyPost_ret (v := pr 0 0) (by simp [results, Try.results33, go_sem]) rfl ⟨_, _, rfl, by rw [HZ.out]; exact peq.refl _, by decide, by decide, ?_⟩
    exact ((Below.refl _ _).alloc (Nat.le_refl _) _).alloc (by simp) _

end Go.Proofs.Ythoajaibaedjeaa
