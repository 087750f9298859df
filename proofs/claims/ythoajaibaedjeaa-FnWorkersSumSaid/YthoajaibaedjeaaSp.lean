/-
  Contracts of SumPairs, of the program and of the reference.
-/
import Derived.Test.YthoajaibaedjeaaPw
import Derived.Test.YthoajaibaedjeaaPs
import Derived.Deep.RegionWith
namespace Go.Proofs.Ythoajaibaedjeaa
set_option linter.unusedSimpArgs false
set_option linter.unusedVariables false
open Go.RowKit Go.Fl

/-- The sum of those of the first i pairs whose number leaves r by k. -/
def col (ps : List (Nat × Nat)) (k r : Nat) : Nat → Nat × Nat
  | 0 => (0, 0)
  | i + 1 => if i < ps.length ∧ i % k = r then sumP (col ps k r i) (ps.getD i (0, 0)) else col ps k r i
/-- The first t of these sums, summed. -/
def tot (ps : List (Nat × Nat)) (k : Nat) : Nat → Nat × Nat
  | 0 => (0, 0)
  | t + 1 => sumP (tot ps k t) (col ps k t ps.length)
def sumsP (ps : List (Nat × Nat)) (k : Int) : Nat × Nat := if (1 ≤ k ∧ k ≤ 16) ∧ ps.length ≤ 128 then tot ps k.toNat k.toNat else (0, 0)
theorem sumsP_in {ps : List (Nat × Nat)} {k : Nat} (h : 1 ≤ k ∧ k ≤ 16) (h2 : ps.length ≤ 128) : sumsP ps k = tot ps k k := by
  unfold sumsP; rw [if_pos ⟨⟨by omega, by omega⟩, h2⟩, Int.toNat_natCast]
theorem sumsP_out {ps : List (Nat × Nat)} {k : Int} (h : ¬ ((1 ≤ k ∧ k ≤ 16) ∧ ps.length ≤ 128)) : sumsP ps k = (0, 0) := if_neg h

theorem col_hit {ps : List (Nat × Nat)} {k r i : Nat} (h : i < ps.length) (h2 : i % k = r) : col ps k r (i + 1) = sumP (col ps k r i) (ps.getD i (0, 0)) := by rw [col, if_pos ⟨h, h2⟩]
theorem col_miss {ps : List (Nat × Nat)} {k r i : Nat} (h2 : i % k ≠ r) : col ps k r (i + 1) = col ps k r i := by rw [col, if_neg (fun h => h2 h.2)]
theorem col_skip {ps : List (Nat × Nat)} {k r i : Nat} (h : i % k = r) : ∀ d, d < k → col ps k r (i + 1 + d) = col ps k r (i + 1)
  | 0, _ => rfl
  | d + 1, hd => by
    rw [show i + 1 + (d + 1) = (i + 1 + d) + 1 from rfl, col_miss, col_skip h d (by omega)]
    intro e
    have := Nat.sub_mod_eq_zero_of_mod_eq (e.trans h.symm)
    rw [show i + 1 + d - i = d + 1 from by omega, Nat.mod_eq_of_lt hd] at this
    omega
theorem col_step {ps : List (Nat × Nat)} {k r i : Nat} (hk : 0 < k) (h : i < ps.length) (h2 : i % k = r) : col ps k r (i + k) = sumP (col ps k r i) (ps.getD i (0, 0)) := by
  rw [← col_hit h h2, ← col_skip h2 (k - 1) (by omega)]
  congr 1; omega
theorem col_low {ps : List (Nat × Nat)} {k r : Nat} (hr : r < k) : ∀ i, i ≤ r → col ps k r i = (0, 0)
  | 0, _ => rfl
  | i + 1, h => by rw [col_miss (by rw [Nat.mod_eq_of_lt (by omega)]; omega), col_low hr i (by omega)]
theorem col_over {ps : List (Nat × Nat)} {k r : Nat} : ∀ i, ps.length ≤ i → col ps k r i = col ps k r ps.length
  | 0, h => by congr 1; omega
  | i + 1, h => by
    by_cases e : ps.length = i + 1
    · rw [e]
    · rw [col, if_neg (fun h' => by omega), col_over i (by omega)]

/-- The outer loop's memory. -/
def So (w : World) (s : Nat × Nat) (W : World) : Prop :=
  (Blk W (w.heap.size + 1) 25 #[fl s.1, fl s.2] ∧ Blk W w.heap.size 25 #[fl 0, fl 0]) ∧ Below w.heap.size w W
/-- The inner loop's memory. -/
def Si (w : World) (g : Nat) (s p : Nat × Nat) (W : World) : Prop := So w s W ∧ Blk W g 25 #[fl p.1, fl p.2] ∧ w.heap.size + 1 < g
/-- A pair of words. -/
def Ok2 (s : Nat × Nat) (v : Nat × Nat) : Prop := peq s v ∧ s.1 < 2 ^ 64 ∧ s.2 < 2 ^ 64

section
variable {w W W1 : World} {s p : Nat × Nat} {g : Nat}
theorem So.call (h : So w s W) (hb : Below W.heap.size W W1) : So w s W1 := ⟨⟨h.1.1.below hb h.1.1.lt, h.1.2.below hb h.1.2.lt⟩, h.2.trans (hb.mono h.2.size)⟩
theorem So.drew (h : So w s W) : So w s W.drew := ⟨h.1, h.2.drew⟩
theorem So.alloc (h : So w s W) (o : Obj) : So w s (W.alloc o) := ⟨⟨h.1.1.alloc o, h.1.2.alloc o⟩, h.2.alloc h.2.size o⟩
theorem So.lt (h : So w s W) : w.heap.size + 1 < W.heap.size := h.1.1.lt
theorem So.set (h : So w s W) (a b : Nat) : So w (a, b) ((W.setCell ⟨w.heap.size + 1, 0, none⟩ (fl a)).setCell ⟨w.heap.size + 1, 1, none⟩ (fl b)) :=
  ⟨⟨(h.1.1.set_ 0 _).set_ 1 _, ((h.1.2.off (by omega) 0 _).off (by omega) 1 _)⟩, (h.2.setCell (p := ⟨w.heap.size + 1, 0, none⟩) (by show w.heap.size ≤ w.heap.size + 1; omega) _).setCell (p := ⟨w.heap.size + 1, 1, none⟩) (by show w.heap.size ≤ w.heap.size + 1; omega) _⟩
theorem So.start (w : World) (s : Nat × Nat) : So w s ((w.alloc (.cells #[fl 0, fl 0] 25)).alloc (.cells #[fl s.1, fl s.2] 25)) :=
  ⟨⟨by simpa using Blk.new (w.alloc _) 25 _, by simpa using (Blk.new w 25 _).alloc _⟩, (((Below.refl _ _).alloc (Nat.le_refl _) _).alloc (by simp) _)⟩
theorem So.facts (h : So w s W) : W.cell? ⟨w.heap.size + 1, 0, none⟩ = some (fl s.1) ∧ W.cell? ⟨w.heap.size + 1, 1, none⟩ = some (fl s.2) ∧ W.cell? ⟨w.heap.size, 0, none⟩ = some (fl 0) ∧ W.cell? ⟨w.heap.size, 1, none⟩ = some (fl 0) ∧
    W.frozen? ⟨w.heap.size + 1, 0, none⟩ = false ∧ W.frozen? ⟨w.heap.size + 1, 1, none⟩ = false ∧ W.frozen? ⟨w.heap.size, 0, none⟩ = false ∧ W.frozen? ⟨w.heap.size, 1, none⟩ = false :=
  ⟨h.1.1.cell 0, h.1.1.cell 1, h.1.2.cell 0, h.1.2.cell 1, h.1.1.frozen 0, h.1.1.frozen 1, h.1.2.frozen 0, h.1.2.frozen 1⟩
theorem Si.start (h : So w s W) (p : Nat × Nat) : Si w W.heap.size s p (W.alloc (.cells #[fl p.1, fl p.2] 25)) := ⟨h.alloc _, Blk.new _ _ _, h.lt⟩
theorem Si.call (h : Si w g s p W) (hb : Below W.heap.size W W1) : Si w g s p W1 := ⟨h.1.call hb, h.2.1.below hb h.2.1.lt, h.2.2⟩
theorem Si.drew (h : Si w g s p W) : Si w g s p W.drew := ⟨h.1.drew, h.2⟩
theorem Si.set (h : Si w g s p W) (a b : Nat) : Si w g s (a, b) ((W.setCell ⟨g, 0, none⟩ (fl a)).setCell ⟨g, 1, none⟩ (fl b)) :=
  ⟨⟨⟨((h.1.1.1.off (by have := h.2.2; omega) 0 _).off (by have := h.2.2; omega) 1 _), ((h.1.1.2.off (by have := h.2.2; omega) 0 _).off (by have := h.2.2; omega) 1 _)⟩, (h.1.2.setCell (p := ⟨g, 0, none⟩) (by have := h.2.2; show w.heap.size ≤ g; omega) _).setCell (p := ⟨g, 1, none⟩) (by have := h.2.2; show w.heap.size ≤ g; omega) _⟩, (h.2.1.set_ 0 _).set_ 1 _, h.2.2⟩
theorem Si.facts (h : Si w g s p W) : W.cell? ⟨g, 0, none⟩ = some (fl p.1) ∧ W.cell? ⟨g, 1, none⟩ = some (fl p.2) ∧ W.frozen? ⟨g, 0, none⟩ = false ∧ W.frozen? ⟨g, 1, none⟩ = false := ⟨h.2.1.cell 0, h.2.1.cell 1, h.2.1.frozen 0, h.2.1.frozen 1⟩
end

set_option maxRecDepth 8000 in
set_option maxHeartbeats 1600000 in
theorem sSumPairs_any (A : Option Addr) (n c : Nat) (ps : List (Nat × Nat)) (k : Int) (w : World) (h : PRow w A n c ps) :
    Calls Try.prog 35 #[.slice A n c, .int .i64 k] w (RetP (sumsP ps k) w.heap.size w) := by
  have HX := Lib.hid h.1
  have HR := Lib.hid h
  clear h
  have HI := Lib.hid (fun W : World => In_any k 1 16 W)
  by_cases hk : 1 ≤ k ∧ k ≤ 16
  · have d : decide (1 ≤ k ∧ k ≤ 16) = true := decide_eq_true hk
    rw [d] at HI
    clear d
    by_cases h2 : n ≤ 128
    · have d2 : decide (128 < (n : Int)) = false := decide_eq_false (by omega)
      obtain ⟨k0, rfl⟩ := Int.eq_ofNat_of_zero_le (show 0 ≤ k by omega)
      have HK0 := Lib.hid (show 1 ≤ k0 ∧ k0 ≤ 16 by omega)
      have HS := Lib.hid (sumsP_in (ps := ps) HK0.out (by rw [HX.out]; exact h2))
      have HO0 := Lib.hid (So.start w (0, 0))
      clear hk
      go_enter Try.func35, Try.ntmps35
      go_wp2_with (go_at_call 42; ((with_reducible refine (HI.out _).mono ?_); rintro e w1 ⟨rfl, rfl⟩))
      go_loopw [6, 7, 8] (fun t _ _ wr => ∃ (q : Nat) (s : Nat × Nat), t = .int .i64 (q : Int) ∧ q ≤ k0 ∧ Hid (So w s wr) ∧ Hid (Ok2 s (tot ps k0 q))) (fun t _ _ _ => k0 - (intOf t).toNat)
      case atStart => exact ⟨0, _, rfl, Nat.zero_le _, HO0.out, peq.refl _, by decide, by decide⟩
      case round =>
        clear HO0
        obtain ⟨q, s, rfl, hq, HO, HV⟩ := hrel
        obtain ⟨wo, hwo⟩ : ∃ wo, wo = wr := ⟨_, rfl⟩
        subst hwo
        obtain ⟨s0, s1⟩ := s
        obtain ⟨c0, c1, c2, c3, c4, c5, c6, c7⟩ := HO.out.facts
        by_cases hlt : q < k0
        · have dq : decide ((q : Int) < (k0 : Int)) = true := decide_eq_true (by omega)
          have HI0 := Lib.hid (Si.start HO.out (0, 0))
          have HQ := Lib.hid (And.intro hlt hq)
          clear hq
          obtain ⟨g, hg⟩ : ∃ g, g = wo.heap.size := ⟨_, rfl⟩
          have HGG := Lib.hid hg
          rw [← hg] at HI0
          clear hg
          go_wp2_with fail
          go_loopw [8] (fun i wz => ∃ (j : Nat) (p : Nat × Nat), i = .int .i64 (j : Int) ∧ j ≤ n + 16 ∧ j % k0 = q ∧ Hid (Si w g (s0, s1) p wz) ∧ Hid (Ok2 p (col ps k0 q j))) (fun i _ => n + 16 - (intOf i).toNat)
          case atStart => exact ⟨q, _, rfl, by have := HQ.out; have := HK0.out; omega, Nat.mod_eq_of_lt HQ.out.1, HI0.out, by rw [col_low HQ.out.1 q (Nat.le_refl _)]; exact peq.refl _, by decide, by decide⟩
          case round =>
            clear HI0
            obtain ⟨j, p, rfl, hj, hjm, HP, HU⟩ := hrel
            have hgg := HGG.out
            subst hgg
            obtain ⟨p0, p1⟩ := p
            have HM := Lib.hid hjm
            clear hjm
            obtain ⟨b0, b1, b2, b3⟩ := HP.out.facts
            obtain ⟨a0, a1, a2, a3, a4, a5, a6, a7⟩ := HP.out.1.facts
            by_cases hjn : j < n
            · obtain ⟨b, off, rfl, hb, hc⟩ := HR.out.2.2.2 (by omega)
              have hd0 : wr.cell? ⟨b, off + j * 2, none⟩ = some (fl (ps.getD j (0, 0)).1) := by rw [HP.out.1.2.cell (p := ⟨b, off + j * 2, none⟩) hb]; exact (hc j hjn).1
              have hd1 : wr.cell? ⟨b, off + j * 2 + 1, none⟩ = some (fl (ps.getD j (0, 0)).2) := by rw [HP.out.1.2.cell (p := ⟨b, off + j * 2 + 1, none⟩) hb]; exact (hc j hjn).2
              have HG := Lib.hid (show col ps k0 q (j + k0) = sumP (col ps k0 q j) (ps.getD j (0, 0)) from col_step HK0.out.1 (by rw [HX.out]; exact hjn) HM.out)
              generalize ps.getD j (0, 0) = y at hd0 hd1 HG
              obtain ⟨y0, y1⟩ := y
              have hq1 : (0 : Int) ≤ (j : Int) := by omega
              have hqn : (j : Int) < (n : Int) := by omega
              have hbr : b < wr.heap.size := Nat.lt_of_lt_of_le hb HP.out.1.2.size
              have hb5 : b ≠ wo.heap.size := by have := HO.out.lt; omega
              have HJ := Lib.hid hjn
              have hk1 := Lib.hid (show wrap64 ((j : Int) + (k0 : Int)) = ((j + k0 : Nat) : Int) by have := HK0.out; rw [IntWalk.wrap64_in _ ⟨by omega, by omega⟩]; omega)
              clear hc hj
              go_wp2_with fail
              go_region_with (first
                  | (go_at_call 54; (with_reducible refine (sAddPair_any _ _ _ _ _).mono ?_); rintro e w2 ⟨r2, i2, rfl, hpe, hr, hi, hbn⟩; have HP2 := Lib.hid (And.intro hpe (And.intro hr hi)); (first | (have HK2 := Lib.hid (HP.out.call hbn)) | (have HK2 := Lib.hid (HP.out.drew.call hbn))); clear hpe hr hi; obtain ⟨y50, y51, y52, y53⟩ := HK2.out.facts))
              all_goals go_wp2
              all_goals go_roundw
              all_goals first
                | exact ⟨j + k0, _, by rw [hk1.out], by have := HJ.out; have := HK0.out; omega, by rw [Nat.add_mod_right]; exact HM.out, HK2.out.set _ _, by rw [HG.out]; exact HP2.out.1.trans (by rw [sumP_of HU.out.1 (peq.refl (y0, y1))]; exact peq.refl _), HP2.out.2.1, HP2.out.2.2⟩
                | (rw [hk1.out]; have := HJ.out; have := HK0.out; simp only [intOf, Int.toNat_natCast]; omega)
            · have dj : decide ((j : Int) < (n : Int)) = false := decide_eq_false (by omega)
              have HU2 := Lib.hid (show Ok2 (p0, p1) (col ps k0 q ps.length) by rw [← col_over j (by rw [HX.out]; omega)]; exact HU.out)
              clear hj
              have hqk := Lib.hid (show wrap64 ((q : Int) + 1) = ((q + 1 : Nat) : Int) by have := HQ.out; have := HK0.out; rw [IntWalk.wrap64_in _ ⟨by omega, by omega⟩]; omega)
              go_wp2_with (go_at_call 54; (with_reducible refine (sAddPair_any _ _ _ _ _).mono ?_); rintro e w2 ⟨r2, i2, rfl, hpe, hr, hi, hbn⟩; have HP2 := Lib.hid (And.intro hpe (And.intro hr hi)); have HK2 := Lib.hid (HP.out.1.call hbn); clear hpe hr hi; obtain ⟨y50, y51, y52, y53, y54, y55, y56, y57⟩ := HK2.out.facts)
              go_roundw
              case rel => exact ⟨q + 1, _, by rw [hqk.out], HQ.out.1, HK2.out.set _ _, HP2.out.1.trans (by rw [sumP_of HV.out.1 HU2.out.1]; exact peq.refl _), HP2.out.2.1, HP2.out.2.2⟩
              case measure => rw [hqk.out]; have := HQ.out; simp only [intOf, Int.toNat_natCast]; omega
        · obtain rfl : q = k0 := by omega
          go_wp2
          refine bodyPost_ret (v := pr s0 s1) (by simp [results, Try.results35, go_sem, *]) rfl ⟨_, _, rfl, by rw [HS.out]; exact HV.out.1, HV.out.2.1, HV.out.2.2, ?_⟩
          exact (HO.out.2.setCell (p := ⟨w.heap.size, 0, none⟩) (Nat.le_refl _) _).setCell (p := ⟨w.heap.size, 1, none⟩) (Nat.le_refl _) _
    · have d2 : decide (128 < (n : Int)) = true := decide_eq_true (by omega)
      have HS := Lib.hid (sumsP_out (ps := ps) (k := k) (fun h => h2 (by rw [← HX.out]; exact h.2)))
      clear hk
      go_enter Try.func35, Try.ntmps35
      go_wp2_with (go_at_call 42; ((with_reducible refine (HI.out _).mono ?_); rintro e w1 ⟨rfl, rfl⟩))
      refine bodyPost_ret (v := pr 0 0) (by simp [results, Try.results35, go_sem]) rfl ⟨_, _, rfl, by rw [HS.out]; exact peq.refl _, by decide, by decide, ?_⟩
      exact ((((Below.refl _ _).alloc (Nat.le_refl _) _).alloc (by simp) _))
  · have d : decide (1 ≤ k ∧ k ≤ 16) = false := decide_eq_false hk
    rw [d] at HI
    have HS := Lib.hid (sumsP_out (ps := ps) (k := k) (fun h => hk h.1))
    clear hk d
    go_enter Try.func35, Try.ntmps35
    go_wp2_with (go_at_call 42; ((with_reducible refine (HI.out _).mono ?_); rintro e w1 ⟨rfl, rfl⟩))
    refine bodyPost_ret (v := pr 0 0) (by simp [results, Try.results35, go_sem]) rfl ⟨_, _, rfl, by rw [HS.out]; exact peq.refl _, by decide, by decide, ?_⟩
    exact ((((Below.refl _ _).alloc (Nat.le_refl _) _).alloc (by simp) _))

end Go.Proofs.Ythoajaibaedjeaa
