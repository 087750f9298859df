/-
  The contract of the program's SumPairs.
-/
import Derived.Test.YthoajaibaedjeaaSp
import Derived.Test.YthoajaibaedjeaaPt
namespace Go.Proofs.Ythoajaibaedjeaa
set_option linter.unusedSimpArgs false
set_option linter.unusedVariables false
open Go.RowKit Go.Fl

/-- The cells cs hold the pairs pp 0, .., pp (k - 1). -/
def Parts (cs : Array Value) (k : Nat) (pp : Nat → Nat × Nat) : Prop := cs.size = k * 2 ∧ ∀ r, r < k → cs[r * 2]? = some (fl (pp r).1) ∧ cs[r * 2 + 1]? = some (fl (pp r).2)
theorem Parts.made (k : Nat) : Parts (madeCells #[.float .f64 0, .float .f64 0] (k * 2)) k (fun _ => (0, 0)) := by
  refine ⟨size_madeCells _ _, fun r hr => ?_⟩
  have h0 : r * 2 < (madeCells #[Value.float .f64 0, Value.float .f64 0] (k * 2)).size := by rw [size_madeCells]; omega
  have h1 : r * 2 + 1 < (madeCells #[Value.float .f64 0, Value.float .f64 0] (k * 2)).size := by rw [size_madeCells]; omega
  rw [Array.getElem?_eq_getElem h0, Array.getElem?_eq_getElem h1]
  have e0 : r * 2 % 2 = 0 := by omega
  have e1 : (r * 2 + 1) % 2 = 1 := by omega
  simp [madeCells, e0, e1]
theorem Parts.step {cs : Array Value} {k : Nat} {pp : Nat → Nat × Nat} (h : Parts cs k pp) (r : Nat) (hr : r < k) (v : Nat × Nat) : Parts ((cs.setIfInBounds (r * 2) (fl v.1)).setIfInBounds (r * 2 + 1) (fl v.2)) k (fun j => if j = r then v else pp j) := by
  have hs := h.1
  refine ⟨by rw [Array.size_setIfInBounds, Array.size_setIfInBounds]; exact h.1, fun j hj => ?_⟩
  by_cases e : j = r
  · subst e
    simp only [if_pos]
    refine ⟨?_, ?_⟩
    · rw [Array.getElem?_setIfInBounds_ne (by omega), Array.getElem?_setIfInBounds_self_of_lt (by omega)]
    · rw [Array.getElem?_setIfInBounds_self_of_lt (by rw [Array.size_setIfInBounds]; omega)]
  · have := h.2 j hj
    show _ = some (fl (if j = r then v else pp j).1) ∧ _ = some (fl (if j = r then v else pp j).2)
    rw [if_neg e]
    refine ⟨?_, ?_⟩
    · rw [Array.getElem?_setIfInBounds_ne (by omega), Array.getElem?_setIfInBounds_ne (by omega)]; exact this.1
    · rw [Array.getElem?_setIfInBounds_ne (by omega), Array.getElem?_setIfInBounds_ne (by omega)]; exact this.2

/-- The memory of the loops: the parts, the result's block. -/
def Sq (w : World) (cs : Array Value) (W : World) : Prop := (Blk W (w.heap.size + 1) 25 cs ∧ Blk W w.heap.size 25 #[fl 0, fl 0]) ∧ Below w.heap.size w W
def Sr (w : World) (g : Nat) (s : Nat × Nat) (cs : Array Value) (W : World) : Prop := Sq w cs W ∧ Blk W g 25 #[fl s.1, fl s.2] ∧ w.heap.size + 1 < g
section
variable {w W W1 : World} {cs : Array Value} {g : Nat} {s : Nat × Nat}
theorem Sq.call (h : Sq w cs W) (hb : Below W.heap.size W W1) : Sq w cs W1 := ⟨⟨h.1.1.below hb h.1.1.lt, h.1.2.below hb h.1.2.lt⟩, h.2.trans (hb.mono h.2.size)⟩
theorem Sq.drew (h : Sq w cs W) : Sq w cs W.drew := ⟨h.1, h.2.drew⟩
theorem Sq.alloc (h : Sq w cs W) (o : Obj) : Sq w cs (W.alloc o) := ⟨⟨h.1.1.alloc o, h.1.2.alloc o⟩, h.2.alloc h.2.size o⟩
theorem Sq.lt (h : Sq w cs W) : w.heap.size + 1 < W.heap.size := h.1.1.lt
theorem Sq.set (h : Sq w cs W) (i j : Nat) (u v : Value) : Sq w ((cs.setIfInBounds i u).setIfInBounds j v) ((W.setCell ⟨w.heap.size + 1, i, none⟩ u).setCell ⟨w.heap.size + 1, j, none⟩ v) :=
  ⟨⟨(h.1.1.set_ i _).set_ j _, ((h.1.2.off (by omega) i _).off (by omega) j _)⟩, (h.2.setCell (p := ⟨w.heap.size + 1, i, none⟩) (by show w.heap.size ≤ w.heap.size + 1; omega) _).setCell (p := ⟨w.heap.size + 1, j, none⟩) (by show w.heap.size ≤ w.heap.size + 1; omega) _⟩
theorem Sq.start (w : World) (cs : Array Value) : Sq w cs ((w.alloc (.cells #[fl 0, fl 0] 25)).alloc (.cells cs 25)) :=
  ⟨⟨by simpa using Blk.new (w.alloc _) 25 _, by simpa using (Blk.new w 25 _).alloc _⟩, (((Below.refl _ _).alloc (Nat.le_refl _) _).alloc (by simp) _)⟩
theorem Sq.facts (h : Sq w cs W) : W.cell? ⟨w.heap.size, 0, none⟩ = some (fl 0) ∧ W.cell? ⟨w.heap.size, 1, none⟩ = some (fl 0) ∧ W.frozen? ⟨w.heap.size, 0, none⟩ = false ∧ W.frozen? ⟨w.heap.size, 1, none⟩ = false :=
  ⟨h.1.2.cell 0, h.1.2.cell 1, h.1.2.frozen 0, h.1.2.frozen 1⟩
theorem Sq.at_ {k : Nat} {pp : Nat → Nat × Nat} (h : Sq w cs W) (hp : Parts cs k pp) (r : Nat) (hr : r < k) : W.cell? ⟨w.heap.size + 1, r * 2, none⟩ = some (fl (pp r).1) ∧ W.cell? ⟨w.heap.size + 1, r * 2 + 1, none⟩ = some (fl (pp r).2) ∧ W.frozen? ⟨w.heap.size + 1, r * 2, none⟩ = false ∧ W.frozen? ⟨w.heap.size + 1, r * 2 + 1, none⟩ = false :=
  ⟨by rw [h.1.1.cell]; exact (hp.2 r hr).1, by rw [h.1.1.cell]; exact (hp.2 r hr).2, h.1.1.frozen _, h.1.1.frozen _⟩
theorem Sr.start (h : Sq w cs W) (s : Nat × Nat) : Sr w W.heap.size s cs (W.alloc (.cells #[fl s.1, fl s.2] 25)) := ⟨h.alloc _, Blk.new _ _ _, h.lt⟩
theorem Sr.call (h : Sr w g s cs W) (hb : Below W.heap.size W W1) : Sr w g s cs W1 := ⟨h.1.call hb, h.2.1.below hb h.2.1.lt, h.2.2⟩
theorem Sr.alloc (h : Sr w g s cs W) (o : Obj) : Sr w g s cs (W.alloc o) := ⟨h.1.alloc o, h.2.1.alloc o, h.2.2⟩
theorem Sr.set (h : Sr w g s cs W) (a b : Nat) : Sr w g (a, b) cs ((W.setCell ⟨g, 0, none⟩ (fl a)).setCell ⟨g, 1, none⟩ (fl b)) :=
  ⟨⟨⟨((h.1.1.1.off (by have := h.2.2; omega) 0 _).off (by have := h.2.2; omega) 1 _), ((h.1.1.2.off (by have := h.2.2; omega) 0 _).off (by have := h.2.2; omega) 1 _)⟩, (h.1.2.setCell (p := ⟨g, 0, none⟩) (by have := h.2.2; show w.heap.size ≤ g; omega) _).setCell (p := ⟨g, 1, none⟩) (by have := h.2.2; show w.heap.size ≤ g; omega) _⟩, (h.2.1.set_ 0 _).set_ 1 _, h.2.2⟩
theorem Sr.facts (h : Sr w g s cs W) : W.cell? ⟨g, 0, none⟩ = some (fl s.1) ∧ W.cell? ⟨g, 1, none⟩ = some (fl s.2) ∧ W.frozen? ⟨g, 0, none⟩ = false ∧ W.frozen? ⟨g, 1, none⟩ = false := ⟨h.2.1.cell 0, h.2.1.cell 1, h.2.1.frozen 0, h.2.1.frozen 1⟩
end

set_option maxRecDepth 8000 in
set_option maxHeartbeats 1600000 in
theorem iSumPairs_any (A : Option Addr) (n c : Nat) (ps : List (Nat × Nat)) (k : Int) (w : World) (h : PRow w A n c ps) :
    Calls Try.prog 36 #[.slice A n c, .int .i64 k] w (RetP (sumsP ps k) w.heap.size w) := by
  have HX := Lib.hid h.1
  have HR := Lib.hid h
  clear h
  by_cases hk1 : k < 1
  · have d1 : decide (k < 1) = true := decide_eq_true hk1
    have HS := Lib.hid (sumsP_out (ps := ps) (k := k) (by omega))
    clear hk1
    go_enter Try.func36, Try.ntmps36
    go_wp2
    refine bodyPost_ret (v := pr 0 0) (by simp [results, Try.results36, go_sem]) rfl ⟨_, _, rfl, by rw [HS.out]; exact peq.refl _, by decide, by decide, ?_⟩
    exact (Below.refl _ _).alloc (Nat.le_refl _) _
  by_cases hk2 : 16 < k
  · have d1 : decide (k < 1) = false := decide_eq_false hk1
    have d2 : decide (16 < k) = true := decide_eq_true hk2
    have HS := Lib.hid (sumsP_out (ps := ps) (k := k) (by omega))
    clear hk1 hk2
    go_enter Try.func36, Try.ntmps36
    go_wp2
    refine bodyPost_ret (v := pr 0 0) (by simp [results, Try.results36, go_sem]) rfl ⟨_, _, rfl, by rw [HS.out]; exact peq.refl _, by decide, by decide, ?_⟩
    exact (Below.refl _ _).alloc (Nat.le_refl _) _
  by_cases h2 : 128 < n
  · have d1 : decide (k < 1) = false := decide_eq_false hk1
    have d2 : decide (16 < k) = false := decide_eq_false hk2
    have d3 : decide (128 < (n : Int)) = true := decide_eq_true (by omega)
    have HS := Lib.hid (sumsP_out (ps := ps) (k := k) (by rw [HX.out]; omega))
    clear hk1 hk2
    go_enter Try.func36, Try.ntmps36
    go_wp2
    refine bodyPost_ret (v := pr 0 0) (by simp [results, Try.results36, go_sem]) rfl ⟨_, _, rfl, by rw [HS.out]; exact peq.refl _, by decide, by decide, ?_⟩
    exact (Below.refl _ _).alloc (Nat.le_refl _) _
  obtain ⟨k0, rfl⟩ := Int.eq_ofNat_of_zero_le (show 0 ≤ k by omega)
  have d1 : decide ((k0 : Int) < 1) = false := decide_eq_false hk1
  have d2 : decide (16 < (k0 : Int)) = false := decide_eq_false hk2
  have d3 : decide (128 < (n : Int)) = false := decide_eq_false (by omega)
  have hk0 : 1 ≤ k0 ∧ k0 ≤ 16 := by omega
  have HK0 := Lib.hid hk0
  have HN := Lib.hid (show n ≤ 128 by omega)
  have HS := Lib.hid (sumsP_in (ps := ps) HK0.out (by rw [HX.out]; exact HN.out))
  obtain ⟨i0, hi, hz0, hz1, hz2⟩ := info_parts pairInfo
  have hmk : ∀ W, (Instr.makeSlice 47 (.int .i64 (k0 : Int)) (.int .i64 (k0 : Int))).run Try.prog W = .ok (.slice (some ⟨W.heap.size, 0, none⟩) k0 k0) (W.alloc (.cells (madeCells #[.float .f64 0, .float .f64 0] (k0 * 2)) 25)) := by
    intro W
    have := run_make (P := Try.prog) W 47 25 i0 _ Try.underlying47 hi hz0 .i64 .i64 k0 k0 (by omega) (by omega) (by rw [hz2]; omega) (by omega)
    rw [hz1] at this
    simpa [Value.cells] using this
  have HQ0 := Lib.hid (Sq.start w (madeCells #[.float .f64 0, .float .f64 0] (k0 * 2)))
  have HP0 := Lib.hid (Parts.made k0)
  clear hi hz0 hz1 hz2 hk1 hk2 h2 hk0
  go_enter Try.func36, Try.ntmps36
  go_wp2
  clear hmk
  go_loopw [27] (fun i wr => ∃ (j : Nat) (cs : Array Value) (pp : Nat → Nat × Nat), i = .int .i64 (j : Int) ∧ j ≤ n ∧ Hid (Sq w cs wr) ∧ Hid (Parts cs k0 pp) ∧ Hid (∀ r, r < k0 → Ok2 (pp r) (col ps k0 r j))) (fun i _ => n - (intOf i).toNat)
  case atStart => exact ⟨0, _, _, rfl, Nat.zero_le _, HQ0.out, HP0.out, fun r _ => ⟨peq.refl _, by decide, by decide⟩⟩
  case round =>
    clear HQ0 HP0
    obtain ⟨j, cs, pp, rfl, hj, HQ, HP, HV⟩ := hrel
    obtain ⟨c0, c1, c2, c3⟩ := HQ.out.facts
    by_cases hjn : j < n
    · obtain ⟨b, off, rfl, hb, hc⟩ := HR.out.2.2.2 (by omega)
      have hd0 : wr.cell? ⟨b, off + j * 2, none⟩ = some (fl (ps.getD j (0, 0)).1) := by rw [HQ.out.2.cell (p := ⟨b, off + j * 2, none⟩) hb]; exact (hc j hjn).1
      have hd1 : wr.cell? ⟨b, off + j * 2 + 1, none⟩ = some (fl (ps.getD j (0, 0)).2) := by rw [HQ.out.2.cell (p := ⟨b, off + j * 2 + 1, none⟩) hb]; exact (hc j hjn).2
      obtain ⟨r0, hr0⟩ : ∃ r0, r0 = j % k0 := ⟨_, rfl⟩
      have HG := Lib.hid (show ∀ r, r < k0 → col ps k0 r (j + 1) = if r = r0 then sumP (col ps k0 r0 j) (ps.getD j (0, 0)) else col ps k0 r j by
        intro r hr
        split
        · rename_i e; subst e; exact col_hit (by rw [HX.out]; exact hjn) hr0.symm
        · rename_i e; exact col_miss (by rw [← hr0]; exact fun e' => e e'.symm))
      have HM := Lib.hid (show r0 < k0 by rw [hr0]; exact Nat.mod_lt _ (by have := HK0.out; omega))
      have hmod : (j : Int).tmod (k0 : Int) = (r0 : Int) := by rw [Int.tmod_eq_emod_of_nonneg (by omega), hr0]; exact (Int.natCast_emod _ _).symm
      have hz : ((k0 : Int) == 0) = false := by have := HK0.out; simp; omega
      have hz2 : (k0 : Int) ≠ 0 := by have := HK0.out; omega
      clear hr0
      have HY := Lib.hid (HQ.out.at_ HP.out r0 HM.out)
      obtain ⟨e0, e1, e2, e3⟩ := HY.out
      generalize ps.getD j (0, 0) = y at hd0 hd1 HG
      obtain ⟨y0, y1⟩ := y
      have HVr := Lib.hid (HV.out r0 HM.out)
      generalize hpr : pp r0 = p at e0 e1 HVr
      obtain ⟨p0, p1⟩ := p
      have HPR := Lib.hid hpr
      clear hpr
      have hr1 : (0 : Int) ≤ (r0 : Int) := by omega
      have hr2 : (r0 : Int) < (k0 : Int) := by have := HM.out; omega
      have hbr : b < wr.heap.size := Nat.lt_of_lt_of_le hb HQ.out.2.size
      have hlt1 : w.heap.size + 1 < wr.heap.size := HQ.out.lt
      have hne1 : w.heap.size + 1 ≠ wr.heap.size := by omega
      have HJ := Lib.hid hjn
      have hq1 : (0 : Int) ≤ (j : Int) := by omega
      have hqn : (j : Int) < (n : Int) := by omega
      have hkn := Lib.hid (show wrap64 ((j : Int) + 1) = ((j + 1 : Nat) : Int) by have := HN.out; rw [IntWalk.wrap64_in _ ⟨by omega, by omega⟩]; omega)
      have HQ1 := Lib.hid (HQ.out.alloc (.cells #[fl y0, fl y1] 25))
      clear hc hj HY
      go_wp2_with fail
      go_region_with (first
        | (go_at_call 20; (with_reducible refine (iAddPair_any _ _ _ _ _).mono ?_); rintro e w2 ⟨r2, i2, rfl, hpe, hr, hi, hbn⟩; have HA2 := Lib.hid (And.intro hpe (And.intro hr hi)); (first | (have HQ2 := Lib.hid (HQ1.out.call hbn)) | (have HQ2 := Lib.hid (HQ1.out.drew.call hbn))); clear hpe hr hi; obtain ⟨f0, f1, f2, f3⟩ := HQ2.out.at_ HP.out r0 HM.out))
      all_goals go_wp2
      all_goals go_roundw
      all_goals first
        | exact ⟨j + 1, _, _, by rw [hkn.out], HJ.out, HQ2.out.set _ _ _ _, HP.out.step r0 HM.out (r2, i2), (by
            intro r hr
            rw [HG.out r hr]
            by_cases e : r = r0
            · rw [if_pos e, if_pos e]
              exact ⟨HA2.out.1.trans (by rw [sumP_of HVr.out.1 (peq.refl (y0, y1))]; exact peq.refl _), HA2.out.2⟩
            · rw [if_neg e, if_neg e]
              exact HV.out r hr)⟩
        | (rw [hkn.out]; have := HJ.out; simp only [intOf, Int.toNat_natCast]; omega)
    · obtain rfl : j = n := by omega
      have HV2 := Lib.hid (show ∀ r, r < k0 → Ok2 (pp r) (col ps k0 r ps.length) by rw [HX.out]; exact HV.out)
      have HR0 := Lib.hid (Sr.start HQ.out (0, 0))
      obtain ⟨g, hg⟩ : ∃ g, g = wr.heap.size := ⟨_, rfl⟩
      have HGG := Lib.hid hg
      rw [← hg] at HR0
      clear hg HQ HV c0 c1 c2 c3 hj
      obtain ⟨wo, hwo⟩ : ∃ wo, wo = wr := ⟨_, rfl⟩
      subst hwo
      go_wp2_with fail
      go_loopw [48] (fun i wr => ∃ (t : Nat) (s : Nat × Nat), i = .int .i64 (t : Int) ∧ t ≤ k0 ∧ Hid (Sr w g s cs wr) ∧ Hid (Ok2 s (tot ps k0 t))) (fun i _ => k0 - (intOf i).toNat)
      case atStart => exact ⟨0, _, rfl, Nat.zero_le _, HR0.out, peq.refl _, by decide, by decide⟩
      case round =>
        clear HR0
        obtain ⟨t, s, rfl, ht, HT, HU⟩ := hrel
        have hgg := HGG.out
        subst hgg
        obtain ⟨s0, s1⟩ := s
        obtain ⟨a0, a1, a2, a3⟩ := HT.out.facts
        by_cases htk : t < k0
        · obtain ⟨e0, e1, e2, e3⟩ := HT.out.1.at_ HP.out t htk
          have HVr := Lib.hid (HV2.out t htk)
          generalize pp t = p at e0 e1 HVr
          obtain ⟨p0, p1⟩ := p
          have ht1 : (0 : Int) ≤ (t : Int) := by omega
          have ht2 : (t : Int) < (k0 : Int) := by omega
          have hgw : wo.heap.size < wr.heap.size := HT.out.2.1.lt
          have hgn : wo.heap.size ≠ wr.heap.size := by omega
          have hgm : w.heap.size + 1 < wr.heap.size := HT.out.1.lt
          have hgo : w.heap.size + 1 ≠ wr.heap.size := by omega
          have HT1 := Lib.hid (HT.out.alloc (.cells #[fl p0, fl p1] 25))
          have HTK := Lib.hid htk
          have hkn := Lib.hid (show wrap64 ((t : Int) + 1) = ((t + 1 : Nat) : Int) by have := HK0.out; rw [IntWalk.wrap64_in _ ⟨by omega, by omega⟩]; omega)
          clear ht
          go_wp2_with (go_at_call 20; (with_reducible refine (iAddPair_any _ _ _ _ _).mono ?_); rintro e w2 ⟨r2, i2, rfl, hpe, hr, hi, hbn⟩; have HA2 := Lib.hid (And.intro hpe (And.intro hr hi)); have HT2 := Lib.hid (HT1.out.call hbn); clear hpe hr hi; obtain ⟨f0, f1, f2, f3⟩ := HT2.out.facts)
          go_roundw
          case rel => exact ⟨t + 1, _, by rw [hkn.out], HTK.out, HT2.out.set _ _, HA2.out.1.trans (by rw [sumP_of HU.out.1 HVr.out.1]; exact peq.refl _), HA2.out.2⟩
          case measure => rw [hkn.out]; have := HTK.out; simp only [intOf, Int.toNat_natCast]; omega
        · obtain rfl : t = k0 := by omega
          obtain ⟨c0, c1, c2, c3⟩ := HT.out.1.facts
          go_wp2
          refine bodyPost_ret (v := pr s0 s1) (by simp [results, Try.results36, go_sem, *]) rfl ⟨_, _, rfl, by rw [HS.out]; exact HU.out.1, HU.out.2.1, HU.out.2.2, ?_⟩
          exact (HT.out.1.2.setCell (p := ⟨w.heap.size, 0, none⟩) (Nat.le_refl _) _).setCell (p := ⟨w.heap.size, 1, none⟩) (Nat.le_refl _) _
end Go.Proofs.Ythoajaibaedjeaa
