/-
  RootsTo of the program.
-/
import Derived.Test.YthoajaibaedjeaaRts
namespace Go.Proofs.Ythoajaibaedjeaa
set_option linter.unusedSimpArgs false
set_option linter.unusedVariables false
open Go.RowKit
open Go.Fl (PRow flat fl pr peq mulP difP sumP flat_at flat_length)
open Go.Dr (Blk Kp)

theorem make_pairs (m : Nat) (hm : m ≤ 200) (W : World) : (Instr.makeSlice 47 (.int .i64 0) (.int .i64 (m : Int))).run Try.prog W = .ok (.slice (some ⟨W.heap.size, 0, none⟩) 0 m) (W.alloc (.cells (madeCells #[.float .f64 0, .float .f64 0] (m * 2)) 25)) := by
  obtain ⟨i0, hi, hz0, hz1, hz2⟩ := info_parts pairInfo
  have := run_make (P := Try.prog) W 47 25 i0 _ Try.underlying47 hi hz0 .i64 .i64 0 m (by omega) (by omega) (by rw [hz2]; omega) (by omega)
  rw [hz1] at this
  simpa [Value.cells] using this
theorem OwnP.made (W : World) (base m : Nat) (hm : m ≤ 200) (hb : base ≤ W.heap.size) : OwnP (W.alloc (.cells (madeCells #[.float .f64 0, .float .f64 0] (m * 2)) 25)) base (.slice (some ⟨W.heap.size, 0, none⟩) 0 m) [] :=
  World.ownsRow_made W _ m hb (by unfold maxLen; omega) (by rw [size_madeCells])

/-- The inner loop's memory: the row so far, the element before, what came in. -/
def Inner (W1 : World) (N : Nat) (p : Nat × Nat) (xs : List (Nat × Nat)) (j g cap : Nat) (ys : List (Nat × Nat)) (wr : World) : Prop :=
  OwnP wr (N + 1) (.slice (some ⟨g, 0, none⟩) j cap) ys ∧ pleq ys (rowT p xs j) ∧ Below (N + 1) W1 wr ∧ Blk wr (N + 1 + 1) 25 #[fl (prevP xs j).1, fl (prevP xs j).2] ∧ g ≠ N + 1 + 1

set_option maxRecDepth 8000 in
set_option maxHeartbeats 6400000 in
theorem iRoots (A : Option Addr) (n c : Nat) (ps : List (Nat × Nat)) (w : World) (h : PRow w A n c ps) (hn : n ≤ 127) :
    Calls Try.prog 38 #[.slice A n c] w (RootsIs ps n w) := by
  have HR := Lib.hid h
  have d : decide ((n : Int) > 127) = false := decide_eq_false (by omega)
  have d2 : decide (127 < (n : Int)) = false := decide_eq_false (by omega)
  clear h
  have HO := Lib.hid (OwnP.one w w.heap.size (Nat.le_refl _) one 0)
  have HB := Lib.hid ((Below.refl w.heap.size w).alloc (Nat.le_refl _) (.cells #[fl one, fl 0] 25))
  go_enter Try.func38, Try.ntmps38
  go_wp2
  go_loopw [3, 17] (fun o i wr => ∃ (k g cap : Nat) (xs : List (Nat × Nat)), k ≤ n ∧ i = .int .i64 (k : Int) ∧ o = .slice (some ⟨g, 0, none⟩) (k + 1) cap ∧ Hid (OwnP wr w.heap.size (.slice (some ⟨g, 0, none⟩) (k + 1) cap) xs ∧ pleq xs (rootsK ps k) ∧ Below w.heap.size w wr)) (fun _ i _ => n - (intOf i).toNat)
  case atStart => exact ⟨0, _, 1, [(one, 0)], Nat.zero_le _, rfl, rfl, HO.out, pleq.refl _, HB.out⟩
  case round =>
    rename_i wr
    obtain ⟨wo, hwo⟩ : ∃ wo, wo = wr := ⟨_, rfl⟩
    subst hwo
    clear HO HB
    obtain ⟨i, go, co, xs, hi, rfl, rfl, HO⟩ := hrel
    by_cases hlt : i < n
    · obtain ⟨b, off, rfl, hb, hc⟩ := HR.out.2.2.2 (by omega)
      have hc := hc i hlt
      generalize hp : ps.getD i (0, 0) = p at hc
      obtain ⟨p0, p1⟩ := p
      have k0 : wo.cell? ⟨b, off + i * 2, none⟩ = some (fl p0) := (HO.out.2.2.cell (p := ⟨b, off + i * 2, none⟩) hb).trans hc.1
      have k1 : wo.cell? ⟨b, off + i * 2 + 1, none⟩ = some (fl p1) := (HO.out.2.2.cell (p := ⟨b, off + i * 2 + 1, none⟩) hb).trans hc.2
      have HX := Lib.hid HO.out.1.row.1
      have hxl : xs.length = i + 1 := by rw [HO.out.2.1.1, roots_length]
      have d3 : decide ((i : Int) < (n : Int)) = true := decide_eq_true (by omega)
      have hw1 : wrap64 ((i : Int) + 1) = ((i + 1 : Nat) : Int) := by rw [IntWalk.wrap64_in _ ⟨by omega, by omega⟩]; omega
      have hw2 : wrap64 (((i + 1 : Nat) : Int) + 1) = ((i + 2 : Nat) : Int) := by rw [IntWalk.wrap64_in _ ⟨by omega, by omega⟩]; omega
      have hw4 : wrap64 ((i : Int) + 1 + 1) = (i : Int) + 1 + 1 := IntWalk.wrap64_in _ ⟨by omega, by omega⟩
      have hmk : ∀ W : World, (Instr.makeSlice 47 (.int .i64 0) (.int .i64 ((i : Int) + 1 + 1))).run Try.prog W = .ok (.slice (some ⟨W.heap.size, 0, none⟩) 0 (i + 2)) (W.alloc (.cells (madeCells #[.float .f64 0, .float .f64 0] ((i + 2) * 2)) 25)) := fun W => make_pairs (i + 2) (by omega) W
      clear hc hb d d2
      have HXN := Lib.hid (show go < wo.heap.size ∧ ∃ W1, W1 = wo.alloc (.cells #[fl p0, fl p1] 25) ∧ PRow W1 (some ⟨go, 0, none⟩) (i + 1) co xs ∧ Blk W1 wo.heap.size 25 #[fl p0, fl p1] ∧ W1.heap.size = wo.heap.size + 1 ∧ Below w.heap.size w W1 from ⟨HO.out.1.block.2.1, _, rfl, HX.out.below ((Below.refl _ _).alloc (Nat.le_refl _) _), Blk.new _ _ _, by simp, HO.out.2.2.alloc HO.out.2.2.size _⟩)
      obtain ⟨hgo, W1, hW1, hX1, hb1, hz1, hB1⟩ := HXN.out
      have HI0 := Lib.hid (show Inner W1 wo.heap.size (p0, p1) xs 0 (wo.heap.size + 1) (i + 2) [] ((W1.alloc (.cells (madeCells #[.float .f64 0, .float .f64 0] ((i + 2) * 2)) 25)).alloc (.cells #[.float .f64 0, .float .f64 0] 25)) from by
        refine ⟨?_, pleq.refl _, ?_, ?_, by omega⟩
        · have h := (OwnP.made W1 (wo.heap.size + 1) (i + 2) (by omega) (by omega)).alloc (.cells #[.float .f64 0, .float .f64 0] 25)
          rwa [hz1] at h
        · rw [← hz1]
          exact ((Below.refl _ _).alloc (Nat.le_refl _) _).alloc (by simp) _
        · have h := Blk.new (W1.alloc (.cells (madeCells #[.float .f64 0, .float .f64 0] ((i + 2) * 2)) 25)) 25 #[fl 0, fl 0]
          rw [World.size_alloc, hz1] at h
          exact h)
      have HX1 := Lib.hid (And.intro hX1 (And.intro hb1 (And.intro hz1 hB1)))
      clear HXN hX1 hb1 hB1
      go_wp2
      rw [← hW1]
      clear hW1 hz1 k0 k1 hmk hw4
      generalize hN : wo.heap.size = N at *
      go_loopw [6, 28] (fun o k wr => ∃ (j g cap : Nat) (ys : List (Nat × Nat)), j ≤ i + 1 ∧ k = .int .i64 (j : Int) ∧ o = .slice (some ⟨g, 0, none⟩) j cap ∧ Hid (Inner W1 N (p0, p1) xs j g cap ys wr)) (fun _ k _ => i + 1 - (intOf k).toNat)
      case atStart => exact ⟨0, _, _, [], Nat.zero_le _, rfl, rfl, HI0.out⟩
      case round =>
        rename_i wr
        clear HI0
        obtain ⟨j, g5, c5, ys, hj, rfl, rfl, HY⟩ := hrel
        have hBX : Below W1.heap.size W1 wr := by rw [HX1.out.2.2.1]; exact HY.out.2.2.1
        have HG := Lib.hid HY.out.1.block
        by_cases hlt2 : j < i + 1
        · have hxj := (HX1.out.1.below hBX).at2 hlt2
          generalize hx : xs.getD j (0, 0) = x at hxj
          obtain ⟨x0, x1⟩ := x
          obtain ⟨-, hx0, hx1⟩ := hxj
          have d4 : decide ((j : Int) < (i : Int) + 1) = true := decide_eq_true (by omega)
          have q1 : j < i + 1 := hlt2
          have hw5 : wrap64 ((j : Int) + 1) = ((j + 1 : Nat) : Int) := by rw [IntWalk.wrap64_in _ ⟨by omega, by omega⟩]; omega
          obtain ⟨l0, l1, hl⟩ : ∃ l0 l1, prevP xs j = (l0, l1) := ⟨_, _, rfl⟩
          have hlow : Blk wr (N + 1 + 1) 25 #[fl l0, fl l1] := by have h := HY.out.2.2.2.1; rwa [hl] at h
          have HL := Lib.hid hlow
          have hbx : Blk wr N 25 #[fl p0, fl p1] := HX1.out.2.1.below hBX (by rw [HX1.out.2.2.1]; omega)
          have HBXX := Lib.hid hbx
          go_upto_region 12 with fail
          obtain ⟨W0, hW0⟩ : ∃ W0, W0 = wr.alloc (.cells #[fl x0, fl x1] 25) := ⟨_, rfl⟩
          have hz0 : W0.heap.size = wr.heap.size + 1 := by rw [hW0]; simp
          have hB0 := (Blk.new wr 25 #[fl x0, fl x1])
          rw [← hW0] at hB0
          have HL0 := Lib.hid (show Blk W0 (N + 1 + 1) 25 #[fl l0, fl l1] by rw [hW0]; exact HL.out.alloc _)
          have HP0 := Lib.hid (show Blk W0 N 25 #[fl p0, fl p1] by rw [hW0]; exact HBXX.out.alloc _)
          have HX0 := Lib.hid hB0
          have HO5 := Lib.hid (show OwnP W0 (N + 1) (.slice (some ⟨g5, 0, none⟩) j c5) ys by rw [hW0]; exact HY.out.1.alloc _)
          have hns : N + 1 ≤ wr.heap.size := by have h := HY.out.2.2.1.size; rw [HX1.out.2.2.1] at h; exact h
          have HBW := Lib.hid (show Below (N + 1) W1 W0 by rw [hW0]; exact HY.out.2.2.1.alloc hns _)
          have k0 : W0.cell? ⟨N + 1 + 1, 0, none⟩ = some (fl l0) := HL0.out.cell 0
          have k1 : W0.cell? ⟨N + 1 + 1, 1, none⟩ = some (fl l1) := HL0.out.cell 1
          have k2 : W0.cell? ⟨N, 0, none⟩ = some (fl p0) := HP0.out.cell 0
          have k3 : W0.cell? ⟨N, 1, none⟩ = some (fl p1) := HP0.out.cell 1
          have k4 : W0.cell? ⟨wr.heap.size, 0, none⟩ = some (fl x0) := hB0.cell 0
          have k5 : W0.cell? ⟨wr.heap.size, 1, none⟩ = some (fl x1) := hB0.cell 1
          have hg5 := HG.out
          have l1 : N + 1 + 1 < W0.heap.size := HL0.out.lt
          have l2 : N < W0.heap.size := HP0.out.lt
          have l3 : wr.heap.size < W0.heap.size := HX0.out.lt
          have n1 : N + 1 + 1 ≠ g5 := fun e => HY.out.2.2.2.2 e.symm
          have n2 : N ≠ g5 := by omega
          have n3 : wr.heap.size ≠ g5 := by omega
          clear hB0 hg5 hz0 hlow hbx hx0 hx1 hBX
          rw [← hW0]
          clear hW0
          have HSZ := Lib.hid hns
          clear hns
          generalize hgb : wr.heap.size = gb at *
          go_region_held3 (fun wx => (∀ z y, z < W0.heap.size → z ≠ g5 → wx.cell? ⟨z, y, none⟩ = W0.cell? ⟨z, y, none⟩) ∧ Kp W0 wx g5)
            (first
              | exact keepsK0 _ _
              | (refine keepsKB hbn ?_; assumption)
              | (refine keepsKA _ ?_; assumption)
              | (refine keepsKG hgrow rfl ?_; assumption)
              | (refine keepsKD ?_; assumption))
            (first
              | (go_at_call 17; (refine (iMulPair_any _ _ _ _ _).mono ?_); rintro e w1 ⟨u0, u1, rfl, hpe, -, -, hbn⟩; have HM := Lib.hid hpe; (first | (replace HO5 := Lib.hid (OwnP.below (W := W0.drew) HO5.out hbn (Nat.le_refl _))) | (replace HO5 := Lib.hid (HO5.out.below hbn (Nat.le_refl _)))); (have HSW := Lib.hid (show N + 1 ≤ W0.heap.size by have := HL0.out.lt; omega)); (have HZ1 := Lib.hid hbn.size); (first | (replace HBW := Lib.hid (HBW.out.drew.trans (hbn.mono HSW.out))) | (replace HBW := Lib.hid (HBW.out.trans (hbn.mono HSW.out)))))
              | (go_at_call 23; (refine (iSubPair_any _ _ _ _ _).mono ?_); rintro e w2 ⟨v0, v1, rfl, hpe, -, -, hbn⟩; have HS := Lib.hid hpe; (replace HO5 := Lib.hid (HO5.out.below hbn (Nat.le_refl _))); (have HZ2 := Lib.hid hbn.size); (replace HBW := Lib.hid (HBW.out.trans (hbn.mono (Nat.le_trans HSW.out HZ1.out)))))
              | (refine stepP rfl (.tmp 32) (.tmp 38) rfl (N + 1) (.slice (some ⟨g5, 0, none⟩) j c5) ys _ _ _ (by simp [Act.eval, Act.put]) HO5.out (by simp [Act.eval, Act.put]) rfl (by have := HG.out.2.2; omega) (Nat.le_trans HSW.out (Nat.le_trans HZ1.out HZ2.out)) ?_; intro g6 c6 w3 hown hgrow hat hlt6))
          have HK3 := Lib.hid (by assumption : (∀ z y, z < W0.heap.size → z ≠ g5 → w3.cell? ⟨z, y, none⟩ = W0.cell? ⟨z, y, none⟩) ∧ Kp W0 w3 g5)
          have HX3 := Lib.hid (HK3.out.2.blk HX0.out n3)
          have HL3 := Lib.hid (HK3.out.2.blk HL0.out n1)
          have hjl : ys.length = j := HG.out.2.2.symm
          have HB3 := Lib.hid (show Below (N + 1) W1 w3 from (HBW.out.alloc (Nat.le_trans HSW.out (Nat.le_trans HZ1.out HZ2.out)) _).grown hgrow (by rw [World.size_alloc]; have := Nat.le_trans HSW.out (Nat.le_trans HZ1.out HZ2.out); omega) (fun k e => by injection e with e; rw [← e]; exact HG.out.1))
          have hg6 : g6 ≠ N + 1 + 1 := by
            rcases hat with h | h
            · injection h with h; rw [← h]; exact HY.out.2.2.2.2
            · have h1 := HL0.out.lt
              have h2 := HZ1.out
              have h3 := HZ2.out
              have h4 : W0.drew.heap.size = W0.heap.size := rfl
              omega
          have HF := Lib.hid (show Inner W1 N (p0, p1) xs (j + 1) g6 c6 (ys ++ [(v0, v1)]) ((w3.setCell ⟨N + 1 + 1, 0, none⟩ (fl x0)).setCell ⟨N + 1 + 1, 1, none⟩ (fl x1)) from by
            refine ⟨?_, ?_, ?_, ?_, hg6⟩
            · have h := hown
              rw [hjl] at h
              exact h.kp (((Kp.refl w3 (N + 1 + 1)).set_ 0 _).set_ 1 _) (by intro e; injection e with e; exact hg6 e)
            · rw [rowT_succ]
              refine pleq.app HY.out.2.1 ?_
              refine HS.out.trans ?_
              rw [Fl.difP_of (peq.refl _) HM.out, hl, hx]
              exact peq.refl _
            · exact (HB3.out.setCell (p := ⟨N + 1 + 1, 0, none⟩) (by show N + 1 ≤ N + 1 + 1; omega) _).setCell (p := ⟨N + 1 + 1, 1, none⟩) (by show N + 1 ≤ N + 1 + 1; omega) _
            · have h := (HL3.out.set_ 0 (fl x0)).set_ 1 (fl x1)
              have e : prevP xs (j + 1) = (x0, x1) := hx
              rw [e]
              exact h)
          have e0 := HX3.out.cell 0
          have e1 := HX3.out.cell 1
          have e2 := HL3.out.cell 0
          have e3 := HL3.out.cell 1
          have f0 := HL3.out.frozen 0
          have f1 := HL3.out.frozen 1
          rw [hjl]
          clear hown hgrow hat e0 e1 e2 e3
          go_wp2
          go_roundw
          case rel => exact ⟨j + 1, g6, c6, ys ++ [(v0, v1)], by omega, by first | rfl | go_num, rfl, HF.out⟩
          case measure => simp [intOf]; omega
        · obtain rfl : j = i + 1 := by omega
          have d4 : decide (((i + 1 : Nat) : Int) < (i : Int) + 1) = false := decide_eq_false (by omega)
          have hyl : ys.length = i + 1 := HG.out.2.2.symm
          have hns : N + 1 ≤ wr.heap.size := by have h := HY.out.2.2.1.size; rw [HX1.out.2.2.1] at h; exact h
          have HNS := Lib.hid hns
          go_wp2_with (at_builtin; refine appL rfl (.tmp 42) (.tmp 44) rfl (N + 1) _ _ _ _ rfl HY.out.1 rfl (by omega) HNS.out ?_; intro g6 c6 w3 hown hgrow hat hlt6)
          have HF := Lib.hid (show OwnP w3 w.heap.size (.slice (some ⟨g6, 0, none⟩) (i + 1 + 1) c6) (ys ++ [(one, 0)]) ∧ pleq (ys ++ [(one, 0)]) (rootsK ps (i + 1)) ∧ Below w.heap.size w w3 from by
            have hws : w.heap.size ≤ N + 1 := by have := HX1.out.2.2.2.size; rw [HX1.out.2.2.1] at this; exact this
            refine ⟨?_, ?_, ?_⟩
            · have h := hown.weaken hws
              rwa [hyl] at h
            · rw [rootsK, hp, ← nextP_of HO.out.2.1]
              unfold nextP
              rw [hxl]
              exact pleq.app HY.out.2.1 (peq.refl _)
            · have h1 : Below w.heap.size w wr := HX1.out.2.2.2.trans (HY.out.2.2.1.mono hws)
              exact (h1.alloc h1.size _).grown hgrow (by rw [World.size_alloc]; have := h1.size; omega) (fun k e => by injection e with e; rw [← e]; exact Nat.le_trans hws HG.out.1))
          clear hown hgrow hat HY
          go_roundw
          case rel => exact ⟨i + 1, g6, c6, _, by omega, by first | rfl | go_num, rfl, HF.out⟩
          case measure => simp [intOf]; omega
    · obtain rfl : i = n := by omega
      have d3 : decide ((i : Int) < (i : Int)) = false := decide_eq_false (by omega)
      go_wp2
      go_ret
      exact ⟨_, _, _, rfl, HO.out⟩

/-- Above 127 elements: nil. -/
theorem iRoots_big (A : Option Addr) (n c : Nat) (w : World) (hn : 127 < n) :
    Calls Try.prog 38 #[.slice A n c] w fun e w' => e = .returned (.slice none 0 0) ∧ w' = w := by
  have d : decide ((n : Int) > 127) = true := decide_eq_true (by omega)
  have d2 : decide (127 < (n : Int)) = true := decide_eq_true (by omega)
  clear hn
  go_enter Try.func38, Try.ntmps38
  go_wp2
  go_ret
  exact ⟨rfl, rfl⟩
end Go.Proofs.Ythoajaibaedjeaa
