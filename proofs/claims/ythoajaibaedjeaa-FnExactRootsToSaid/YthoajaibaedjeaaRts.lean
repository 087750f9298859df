/-
  RootsTo of the reference.
-/
import Derived.Test.YthoajaibaedjeaaRt
import Derived.Deep.DeepCutAuto
namespace Go.Proofs.Ythoajaibaedjeaa
set_option linter.unusedSimpArgs false
set_option linter.unusedVariables false
open Go.RowKit
open Go.Fl (PRow flat fl pr peq mulP difP sumP flat_at flat_length)
open Go.Dr (Blk Kp)

theorem _root_.Go.Fl.PRow.at2 {w : World} {b n c i : Nat} {ps : List (Nat × Nat)} (h : PRow w (some ⟨b, 0, none⟩) n c ps) (hi : i < n) : b < w.heap.size ∧ w.cell? ⟨b, i * 2, none⟩ = some (fl (ps.getD i (0, 0)).1) ∧ w.cell? ⟨b, i * 2 + 1, none⟩ = some (fl (ps.getD i (0, 0)).2) := by
  obtain ⟨b1, off1, e, hb, hc⟩ := h.2.2.2 (by omega)
  cases e
  have := hc i hi
  rw [Nat.zero_add] at this
  exact ⟨hb, this⟩

theorem OwnP.one (W : World) (base : Nat) (hb : base ≤ W.heap.size) (a b : Nat) : OwnP (W.alloc (.cells #[fl a, fl b] 25)) base (.slice (some ⟨W.heap.size, 0, none⟩) 1 1) [(a, b)] :=
  ⟨rfl, .inr ⟨W.heap.size, 1, #[fl a, fl b], rfl, hb, Blk.new W _ _, Nat.le_refl _, by decide, rfl, rfl⟩⟩

section
variable {W0 W w1 : World} {g : Nat}
theorem keepsK0 (W0 : World) (g : Nat) : (∀ z y, z < W0.heap.size → z ≠ g → W0.drew.cell? ⟨z, y, none⟩ = W0.cell? ⟨z, y, none⟩) ∧ Kp W0 W0.drew g := ⟨fun _ _ _ _ => rfl, Kp.refl _ _⟩
theorem keepsKD (h : (∀ z y, z < W0.heap.size → z ≠ g → W.cell? ⟨z, y, none⟩ = W0.cell? ⟨z, y, none⟩) ∧ Kp W0 W g) : (∀ z y, z < W0.heap.size → z ≠ g → W.drew.cell? ⟨z, y, none⟩ = W0.cell? ⟨z, y, none⟩) ∧ Kp W0 W.drew g := h
theorem keepsKB (hb : Below W.heap.size W w1) (h : (∀ z y, z < W0.heap.size → z ≠ g → W.cell? ⟨z, y, none⟩ = W0.cell? ⟨z, y, none⟩) ∧ Kp W0 W g) : (∀ z y, z < W0.heap.size → z ≠ g → w1.cell? ⟨z, y, none⟩ = W0.cell? ⟨z, y, none⟩) ∧ Kp W0 w1 g :=
  Kp.keepC (Go.Dr.Kp.below h.2 hb (Nat.le_refl _))
theorem keepsKA (o : Obj) (h : (∀ z y, z < W0.heap.size → z ≠ g → W.cell? ⟨z, y, none⟩ = W0.cell? ⟨z, y, none⟩) ∧ Kp W0 W g) : (∀ z y, z < W0.heap.size → z ≠ g → (W.alloc o).cell? ⟨z, y, none⟩ = W0.cell? ⟨z, y, none⟩) ∧ Kp W0 (W.alloc o) g :=
  keepsKB ((Below.refl _ _).alloc (Nat.le_refl _) o) h
theorem keepsKG {row : Option Nat} (hg : W.grownBy w1 row) (hr : row = some g) (h : (∀ z y, z < W0.heap.size → z ≠ g → W.cell? ⟨z, y, none⟩ = W0.cell? ⟨z, y, none⟩) ∧ Kp W0 W g) : (∀ z y, z < W0.heap.size → z ≠ g → w1.cell? ⟨z, y, none⟩ = W0.cell? ⟨z, y, none⟩) ∧ Kp W0 w1 g :=
  Kp.keepC (Go.Dr.Kp.trans h.2 (grown_kp hg hr))
end

/-- What RootsTo comes to: a list of the call's own. -/
def RootsIs (ps : List (Nat × Nat)) (n : Nat) (w : World) (e : Ending) (w' : World) : Prop :=
  ∃ g cap xs, e = .returned (.slice (some ⟨g, 0, none⟩) (n + 1) cap) ∧ OwnP w' w.heap.size (.slice (some ⟨g, 0, none⟩) (n + 1) cap) xs ∧ pleq xs (rootsK ps n) ∧ Below w.heap.size w w'

set_option maxRecDepth 8000 in
set_option maxHeartbeats 6400000 in
theorem sRoots (A : Option Addr) (n c : Nat) (ps : List (Nat × Nat)) (w : World) (h : PRow w A n c ps) (hn : n ≤ 127) :
    Calls Try.prog 37 #[.slice A n c] w (RootsIs ps n w) := by
  have HR := Lib.hid h
  have d : decide ((n : Int) > 127) = false := decide_eq_false (by omega)
  have d2 : decide (127 < (n : Int)) = false := decide_eq_false (by omega)
  clear h
  have HO := Lib.hid (OwnP.one w w.heap.size (Nat.le_refl _) one 0)
  have HB := Lib.hid ((Below.refl w.heap.size w).alloc (Nat.le_refl _) (.cells #[fl one, fl 0] 25))
  go_enter Try.func37, Try.ntmps37
  go_wp2
  go_loopw [3, 4] (fun o i wr => ∃ (k g cap : Nat) (xs : List (Nat × Nat)), k ≤ n ∧ i = .int .i64 (k : Int) ∧ o = .slice (some ⟨g, 0, none⟩) (k + 1) cap ∧ Hid (OwnP wr w.heap.size (.slice (some ⟨g, 0, none⟩) (k + 1) cap) xs ∧ pleq xs (rootsK ps k) ∧ Below w.heap.size w wr)) (fun _ i _ => n - (intOf i).toNat)
  case atStart => exact ⟨0, _, 1, [(one, 0)], Nat.zero_le _, rfl, rfl, HO.out, pleq.refl _, HB.out⟩
  case round =>
    rename_i wr
    obtain ⟨wo, hwo⟩ : ∃ wo, wo = wr := ⟨_, rfl⟩
    subst hwo
    clear HO HB
    obtain ⟨i, go, co, xs, hi, rfl, rfl, HO⟩ := hrel
    by_cases hlt : i < n
    · obtain ⟨b, off, rfl, hb, hc⟩ := HR.out.2.2.2 (by omega)
      have hc := hc i hlt
      generalize hp : ps.getD i (0, 0) = p at hc
      obtain ⟨p0, p1⟩ := p
      have HP0 := Lib.hid (show wo.cell? ⟨b, off + i * 2, none⟩ = some (fl p0) ∧ wo.cell? ⟨b, off + i * 2 + 1, none⟩ = some (fl p1) ∧ b < wo.heap.size from ⟨(HO.out.2.2.cell (p := ⟨b, off + i * 2, none⟩) hb).trans hc.1, (HO.out.2.2.cell (p := ⟨b, off + i * 2 + 1, none⟩) hb).trans hc.2, Nat.lt_of_lt_of_le hb HO.out.2.2.size⟩)
      have HX := Lib.hid HO.out.1.row.1
      have hxl : xs.length = i + 1 := by rw [HO.out.2.1.1, roots_length]
      have d3 : decide ((i : Int) < (n : Int)) = true := decide_eq_true (by omega)
      have HE := Lib.hid (OwnP.empty wo wo.heap.size (Nat.le_refl _))
      have HBE := Lib.hid ((Below.refl wo.heap.size wo).alloc (Nat.le_refl _) (.cells #[] 25))
      clear hc hb d d2
      go_wp2
      go_loopw [5, 6] (fun o k wr => ∃ (j g cap : Nat) (ys : List (Nat × Nat)), j ≤ i + 1 ∧ k = .int .i64 (j : Int) ∧ o = .slice (some ⟨g, 0, none⟩) j cap ∧ Hid (OwnP wr wo.heap.size (.slice (some ⟨g, 0, none⟩) j cap) ys ∧ pleq ys (rowT (p0, p1) xs j) ∧ Below wo.heap.size wo wr)) (fun _ k _ => i + 1 - (intOf k).toNat)
      case atStart => exact ⟨0, _, 0, [], Nat.zero_le _, rfl, rfl, HE.out, pleq.refl _, HBE.out⟩
      case round =>
        rename_i wr
        clear HE HBE
        obtain ⟨j, g5, c5, ys, hj, rfl, rfl, HY⟩ := hrel
        by_cases hlt2 : j < i + 1
        · have hxj := (HX.out.below (HY.out.2.2)).2.2.2 (by omega)
          obtain ⟨b1, off1, he1, hb1, hc1⟩ := hxj
          cases he1
          have hcj := hc1 j (by omega)
          have d4 : decide ((j : Int) < ((i + 1 : Nat) : Int)) = true := decide_eq_true (by omega)
          by_cases h0 : j = 0
          · subst h0
            generalize hx : xs.getD 0 (0, 0) = x at hcj
            obtain ⟨x0, x1⟩ := x
            go_upto_region 14 with fail
            obtain ⟨l0, l1, hl⟩ : ∃ l0 l1, prevP xs 0 = (l0, l1) ∧ l0 = 0 ∧ l1 = 0 := ⟨0, 0, rfl, rfl, rfl⟩
            obtain ⟨hl, hl0, hl1⟩ := hl
            obtain ⟨W0, hW0⟩ : ∃ W0, W0 = wr.alloc (.cells #[fl 0, fl 0] 25) := ⟨_, rfl⟩
            have hz0 : W0.heap.size = wr.heap.size + 1 := by rw [hW0]; simp
            have hB0 := (Blk.new wr 25 #[fl 0, fl 0])
            rw [← hW0] at hB0
            have HO5 := Lib.hid (show OwnP W0 wo.heap.size (.slice (some ⟨g5, 0, none⟩) 0 c5) ys by rw [hW0]; exact HY.out.1.alloc _)
            have HBW := Lib.hid (show Below wo.heap.size wo W0 by rw [hW0]; exact HY.out.2.2.alloc HY.out.2.2.size _)
            have hbl : b < W0.heap.size := Nat.lt_of_lt_of_le HP0.out.2.2 HBW.out.size
            have k0 : W0.cell? ⟨wr.heap.size, 0, none⟩ = some (fl 0) := hB0.cell 0
            have k1 : W0.cell? ⟨wr.heap.size, 1, none⟩ = some (fl 0) := hB0.cell 1
            have k2 : W0.cell? ⟨b, off + i * 2, none⟩ = some (fl p0) := (HBW.out.cell (p := ⟨b, off + i * 2, none⟩) HP0.out.2.2).trans HP0.out.1
            have k3 : W0.cell? ⟨b, off + i * 2 + 1, none⟩ = some (fl p1) := (HBW.out.cell (p := ⟨b, off + i * 2 + 1, none⟩) HP0.out.2.2).trans HP0.out.2.1
            have hgo := HO.out.1.block
            have hg5 := HY.out.1.block
            have hXW := (HX.out.below HBW.out).at2 (show 0 < i + 1 by omega)
            rw [hx] at hXW
            have k4 := hXW.2.1
            have k5 := hXW.2.2
            have l1 : wr.heap.size < W0.heap.size := by omega
            have l3 : go < W0.heap.size := by omega
            have n1 : wr.heap.size ≠ g5 := by omega
            have n2 : b ≠ g5 := by have := HP0.out.2.2; omega
            have n3 : go ≠ g5 := by omega
            have HY2 := Lib.hid hg5
            clear hB0 hXW hgo hg5 hcj hc1 hc hz0
            rw [← hW0]
            clear hW0
            generalize hgb : wr.heap.size = gb at *
            go_region_held3 (fun wx => (∀ z y, z < W0.heap.size → z ≠ g5 → wx.cell? ⟨z, y, none⟩ = W0.cell? ⟨z, y, none⟩) ∧ Kp W0 wx g5)
              (first
                | exact keepsK0 _ _
                | (refine keepsKB hbn ?_; assumption)
                | (refine keepsKA _ ?_; assumption)
                | (refine keepsKG hgrow rfl ?_; assumption)
                | (refine keepsKD ?_; assumption))
              (first
                | (go_at_call 19; (refine (sMulPair_any _ _ _ _ _).mono ?_); rintro e w1 ⟨u0, u1, rfl, hpe, -, -, hbn⟩; have HM := Lib.hid hpe; (first | (replace HO5 := Lib.hid (OwnP.below (W := W0.drew) HO5.out hbn (Nat.le_refl _))) | (replace HO5 := Lib.hid (HO5.out.below hbn (Nat.le_refl _)))); (first | (replace HBW := Lib.hid (HBW.out.drew.trans (hbn.mono HBW.out.size))) | (replace HBW := Lib.hid (HBW.out.trans (hbn.mono HBW.out.size)))))
                | (go_at_call 55; (refine (sSubPair_any _ _ _ _ _).mono ?_); rintro e w2 ⟨v0, v1, rfl, hpe, -, -, hbn⟩; have HS := Lib.hid hpe; (replace HO5 := Lib.hid (HO5.out.below hbn (Nat.le_refl _))); (replace HBW := Lib.hid (HBW.out.trans (hbn.mono HBW.out.size))))
                | (refine stepP rfl (.tmp 35) (.tmp 47) rfl wo.heap.size (.slice (some ⟨g5, 0, none⟩) 0 c5) ys _ _ _ (by simp [Act.eval, Act.put]) HO5.out (by simp [Act.eval, Act.put]) rfl (by have := HY2.out.2.2; omega) HBW.out.size ?_; intro g6 c6 w3 hown hgrow hat hlt6))
            (have hjl : ys.length = 0 := HY2.out.2.2.symm)
            (have HF := Lib.hid (show OwnP w3 wo.heap.size (.slice (some ⟨g6, 0, none⟩) (0 + 1) c6) (ys ++ [(v0, v1)]) ∧ pleq (ys ++ [(v0, v1)]) (rowT (p0, p1) xs (0 + 1)) ∧ Below wo.heap.size wo w3 from ⟨by have h := hown; rwa [hjl] at h, by rw [rowT_succ]; refine pleq.app HY.out.2.1 ?_; refine HS.out.trans ?_; rw [Fl.difP_of (peq.refl _) HM.out, hl, hx, hl0, hl1]; exact peq.refl _, (HBW.out.alloc HBW.out.size _).grown hgrow (by rw [World.size_alloc]; have := HBW.out.size; omega) (fun k e => by injection e with e; rw [← e]; exact HY2.out.1)⟩))
            rw [hjl]
            go_wp2
            go_roundw
            case rel => exact ⟨0 + 1, g6, c6, ys ++ [(v0, v1)], by omega, by first | rfl | go_num, rfl, HF.out⟩
            case measure => simp [intOf] <;> omega
          · obtain ⟨m, rfl⟩ : ∃ m, j = m + 1 := ⟨j - 1, by omega⟩
            have hm := (HX.out.below HY.out.2.2).at2 (show m < i + 1 by omega)
            generalize hx : xs.getD (m + 1) (0, 0) = x at hcj
            obtain ⟨x0, x1⟩ := x
            obtain ⟨l0, l1, hl⟩ : ∃ l0 l1, xs.getD m (0, 0) = (l0, l1) := ⟨_, _, rfl⟩
            rw [hl] at hm
            obtain ⟨hm0, hm1, hm2⟩ := hm
            have hl : prevP xs (m + 1) = (l0, l1) := hl
            have hl0 : l0 = l0 := rfl
            have hl1 : l1 = l1 := rfl
            have hw1 : wrap64 (((m + 1 : Nat) : Int) - 1) = (m : Int) := by rw [IntWalk.wrap64_in _ ⟨by omega, by omega⟩]; omega
            have d5 : decide ((0 : Int) < ((m + 1 : Nat) : Int)) = true := decide_eq_true (by omega)
            have hw2 : wrap64 (((m + 1 : Nat) : Int) + 1) = ((m + 1 + 1 : Nat) : Int) := by rw [IntWalk.wrap64_in _ ⟨by omega, by omega⟩]; omega
            have q1 : (0 : Int) ≤ (m : Int) := by omega
            have q2 : (m : Int) < (i : Int) + 1 := by omega
            have q5 : m < i := by omega
            have q3 : (0 : Int) ≤ ((m + 1 : Nat) : Int) := by omega
            have q4 : ((m + 1 : Nat) : Int) < (i : Int) + 1 := by omega
            go_upto_region 14 with fail
            clear d5 hw1 q1 q2 q5
            generalize hj2 : m + 1 = j2 at *
            have hj3 : j2 < i + 1 := hlt2
            obtain ⟨W0, hW0⟩ : ∃ W0, W0 = wr.alloc (.cells #[fl l0, fl l1] 25) := ⟨_, rfl⟩
            have hz0 : W0.heap.size = wr.heap.size + 1 := by rw [hW0]; simp
            have hB0 := (Blk.new wr 25 #[fl l0, fl l1])
            rw [← hW0] at hB0
            have HO5 := Lib.hid (show OwnP W0 wo.heap.size (.slice (some ⟨g5, 0, none⟩) j2 c5) ys by rw [hW0]; exact HY.out.1.alloc _)
            have HBW := Lib.hid (show Below wo.heap.size wo W0 by rw [hW0]; exact HY.out.2.2.alloc HY.out.2.2.size _)
            have hbl : b < W0.heap.size := Nat.lt_of_lt_of_le HP0.out.2.2 HBW.out.size
            have k0 : W0.cell? ⟨wr.heap.size, 0, none⟩ = some (fl l0) := hB0.cell 0
            have k1 : W0.cell? ⟨wr.heap.size, 1, none⟩ = some (fl l1) := hB0.cell 1
            have k2 : W0.cell? ⟨b, off + i * 2, none⟩ = some (fl p0) := (HBW.out.cell (p := ⟨b, off + i * 2, none⟩) HP0.out.2.2).trans HP0.out.1
            have k3 : W0.cell? ⟨b, off + i * 2 + 1, none⟩ = some (fl p1) := (HBW.out.cell (p := ⟨b, off + i * 2 + 1, none⟩) HP0.out.2.2).trans HP0.out.2.1
            have hgo := HO.out.1.block
            have hg5 := HY.out.1.block
            have hXW := (HX.out.below HBW.out).at2 (show j2 < i + 1 by omega)
            rw [hx] at hXW
            have k4 := hXW.2.1
            have k5 := hXW.2.2
            have l1 : wr.heap.size < W0.heap.size := by omega
            have l3 : go < W0.heap.size := by omega
            have n1 : wr.heap.size ≠ g5 := by omega
            have n2 : b ≠ g5 := by have := HP0.out.2.2; omega
            have n3 : go ≠ g5 := by omega
            have HY2 := Lib.hid hg5
            clear hB0 hXW hgo hg5 hcj hc1 hc hz0
            rw [← hW0]
            clear hW0
            generalize hgb : wr.heap.size = gb at *
            go_region_held3 (fun wx => (∀ z y, z < W0.heap.size → z ≠ g5 → wx.cell? ⟨z, y, none⟩ = W0.cell? ⟨z, y, none⟩) ∧ Kp W0 wx g5)
              (first
                | exact keepsK0 _ _
                | (refine keepsKB hbn ?_; assumption)
                | (refine keepsKA _ ?_; assumption)
                | (refine keepsKG hgrow rfl ?_; assumption)
                | (refine keepsKD ?_; assumption))
              (first
                | (go_at_call 19; (refine (sMulPair_any _ _ _ _ _).mono ?_); rintro e w1 ⟨u0, u1, rfl, hpe, -, -, hbn⟩; have HM := Lib.hid hpe; (first | (replace HO5 := Lib.hid (OwnP.below (W := W0.drew) HO5.out hbn (Nat.le_refl _))) | (replace HO5 := Lib.hid (HO5.out.below hbn (Nat.le_refl _)))); (first | (replace HBW := Lib.hid (HBW.out.drew.trans (hbn.mono HBW.out.size))) | (replace HBW := Lib.hid (HBW.out.trans (hbn.mono HBW.out.size)))))
                | (go_at_call 55; (refine (sSubPair_any _ _ _ _ _).mono ?_); rintro e w2 ⟨v0, v1, rfl, hpe, -, -, hbn⟩; have HS := Lib.hid hpe; (replace HO5 := Lib.hid (HO5.out.below hbn (Nat.le_refl _))); (replace HBW := Lib.hid (HBW.out.trans (hbn.mono HBW.out.size))))
                | (refine stepP rfl (.tmp 35) (.tmp 47) rfl wo.heap.size (.slice (some ⟨g5, 0, none⟩) j2 c5) ys _ _ _ (by simp [Act.eval, Act.put]) HO5.out (by simp [Act.eval, Act.put]) rfl (by have := HY2.out.2.2; omega) HBW.out.size ?_; intro g6 c6 w3 hown hgrow hat hlt6))
            (have hjl : ys.length = j2 := HY2.out.2.2.symm)
            (have HF := Lib.hid (show OwnP w3 wo.heap.size (.slice (some ⟨g6, 0, none⟩) (j2 + 1) c6) (ys ++ [(v0, v1)]) ∧ pleq (ys ++ [(v0, v1)]) (rowT (p0, p1) xs (j2 + 1)) ∧ Below wo.heap.size wo w3 from ⟨by have h := hown; rwa [hjl] at h, by rw [rowT_succ]; refine pleq.app HY.out.2.1 ?_; refine HS.out.trans ?_; rw [Fl.difP_of (peq.refl _) HM.out, hl, hx]; exact peq.refl _, (HBW.out.alloc HBW.out.size _).grown hgrow (by rw [World.size_alloc]; have := HBW.out.size; omega) (fun k e => by injection e with e; rw [← e]; exact HY2.out.1)⟩))
            rw [hjl]
            go_wp2
            go_roundw
            case rel => exact ⟨j2 + 1, g6, c6, ys ++ [(v0, v1)], by omega, by first | rfl | go_num, rfl, HF.out⟩
            case measure => simp [intOf] <;> omega
        · obtain rfl : j = i + 1 := by omega
          have d4 : decide (((i + 1 : Nat) : Int) < ((i + 1 : Nat) : Int)) = false := decide_eq_false (by omega)
          have hyl : ys.length = i + 1 := HY.out.1.block.2.2.symm
          have HG5 := Lib.hid HY.out.1.block
          have hw3 : wrap64 ((i : Int) + 1) = ((i + 1 : Nat) : Int) := by rw [IntWalk.wrap64_in _ ⟨by omega, by omega⟩]; omega
          go_wp2_with (at_builtin; refine appL rfl (.tmp 49) (.tmp 51) rfl wo.heap.size _ _ _ _ rfl HY.out.1 rfl (by omega) HY.out.2.2.size ?_; intro g6 c6 w3 hown hgrow hat hlt6)
          have HF := Lib.hid (show OwnP w3 w.heap.size (.slice (some ⟨g6, 0, none⟩) (i + 1 + 1) c6) (ys ++ [(one, 0)]) ∧ pleq (ys ++ [(one, 0)]) (rootsK ps (i + 1)) ∧ Below w.heap.size w w3 from by
            have hws := HO.out.2.2.size
            refine ⟨?_, ?_, ?_⟩
            · have h := hown.weaken hws
              rwa [hyl] at h
            · rw [rootsK, hp, ← nextP_of HO.out.2.1]
              unfold nextP
              rw [hxl]
              exact pleq.app HY.out.2.1 (peq.refl _)
            · have h1 : Below w.heap.size w wr := HO.out.2.2.trans (HY.out.2.2.mono hws)
              exact (h1.alloc h1.size _).grown hgrow (by rw [World.size_alloc]; have := h1.size; omega) (fun k e => by injection e with e; rw [← e]; exact Nat.le_trans hws HG5.out.1))
          clear hown hgrow hat HY
          go_roundw
          case rel => exact ⟨i + 1, g6, c6, _, by omega, by first | rfl | go_num, rfl, HF.out⟩
          case measure => simp [intOf]; omega
    · obtain rfl : i = n := by omega
      have d3 : decide ((i : Int) < (i : Int)) = false := decide_eq_false (by omega)
      go_wp2
      go_ret
      exact ⟨_, _, _, rfl, HO.out⟩

/-- Above 127 elements: an empty list. -/
theorem sRoots_big (A : Option Addr) (n c : Nat) (w : World) (hn : 127 < n) :
    Calls Try.prog 37 #[.slice A n c] w fun e w' => ∃ g, e = .returned (.slice (some ⟨g, 0, none⟩) 0 0) ∧ Below w.heap.size w w' := by
  have d : decide ((n : Int) > 127) = true := decide_eq_true (by omega)
  have d2 : decide (127 < (n : Int)) = true := decide_eq_true (by omega)
  clear hn
  go_enter Try.func37, Try.ntmps37
  go_wp2
  go_ret
  exact ⟨_, rfl, (Below.refl _ _).alloc (Nat.le_refl _) _⟩
end Go.Proofs.Ythoajaibaedjeaa
