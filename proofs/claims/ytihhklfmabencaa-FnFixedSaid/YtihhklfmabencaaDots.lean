/-
  Contracts of DotFix of the reference.
-/
import Derived.Test.YtihhklfmabencaaDot
namespace Go.Proofs.Ytihhklfmabencaa
set_option linter.unusedSimpArgs false
set_option linter.unusedVariables false
open Go.RowKit Go.Dr

def fixP (frac bits cut : Int) : Prop := ((((1 ≤ bits ∧ bits ≤ 24) ∧ 0 ≤ frac) ∧ frac ≤ 24) ∧ 1 ≤ cut) ∧ cut ≤ 4
instance (frac bits cut : Int) : Decidable (fixP frac bits cut) := by unfold fixP; infer_instance
theorem okB_of {a b frac bits cut : Int} (h1 : fixP frac bits cut) (h2 : clp a bits = a) (h3 : clp b bits = b) : okB a b frac bits cut = true := decide_eq_true (show okM a b frac bits cut from ⟨⟨h1, h2⟩, h3⟩)
theorem okB_at {a b frac bits cut : Int} (h : okB a b frac bits cut = true) : (fixP frac bits cut ∧ clp a bits = a) ∧ clp b bits = b := of_decide_eq_true h
theorem clp0 (b : Int) : clp 0 b = 0 := by
  unfold clp
  split
  · have hp : (0 : Int) < 2 ^ (b - 1).toNat := Int.pow_pos (by decide)
    rw [if_neg (by omega), if_neg (by omega)]
  · rfl
theorem shf0 (b c : Int) : shf 0 b c = 0 := by
  unfold shf
  have hp : (0 : Int) < 2 ^ b.toNat := Int.pow_pos (by decide)
  split
  · rw [if_neg (by unfold upC; rw [Int.zero_emod, Int.zero_ediv]; omega), Int.zero_ediv]
  · rfl
theorem dotM_nofix {a b : List Int} {frac bits cut : Int} {each : Bool} (h : ¬ fixP frac bits cut) : dotM a b frac bits cut each = 0 := by
  by_cases hk : okD a b frac bits cut
  · have h0 : a.length = 0 := by
      rcases Nat.eq_zero_or_pos a.length with h0 | h0
      · exact h0
      · exact absurd (okB_at (hk.2.2 0 h0)).1.1 h
    cases each with
    | true => rw [dotM_t hk, h0]; rfl
    | false => rw [dotM_f hk, h0, show dS a b 0 = 0 from rfl, shf0, clp0]
  · exact dotM_no hk

theorem sWord_any (a bits : Int) (w : World) : Calls Try.prog 46 #[.int .i64 a, .int .i64 bits] w fun e w' => e = .returned (.bool (clp a bits == a)) ∧ Below w.heap.size w w' := by
  go_enter Try.func46, Try.ntmps46
  go_wp2_with (go_at_call 47; (with_reducible refine (sClip_any _ _ _).mono ?_); rintro e w1 ⟨rfl, hbn⟩; have HB := Lib.hid hbn; clear hbn)
  go_ret
  exact ⟨by first | rfl | (apply ret_bm; simp [eq_comm]), HB.out⟩

theorem sFix_any (frac bits cut : Int) (w : World) : Calls Try.prog 45 #[.int .i64 frac, .int .i64 bits, .int .i64 cut] w fun e w' => e = .returned (.bool (decide (fixP frac bits cut))) ∧ Below w.heap.size w w' := by
  by_cases c0 : ¬ (1 ≤ bits)
  · have HZ := Lib.hid (show decide (fixP frac bits cut) = false from decide_eq_false (fun h => c0 h.1.1.1.1.1))
    have d0 : decide (1 ≤ bits) = false := decide_eq_false c0
    clear c0
    go_enter Try.func45, Try.ntmps45
    go_wp2_with go_in
    go_ret
    exact ⟨ret_bm HZ.out.symm, Below.refl _ _⟩
  replace c0 := Classical.not_not.1 c0
  by_cases c1 : ¬ (bits ≤ 24)
  · have HZ := Lib.hid (show decide (fixP frac bits cut) = false from decide_eq_false (fun h => c1 h.1.1.1.1.2))
    have d0 : decide (1 ≤ bits) = true := decide_eq_true c0
    have d1 : decide (bits ≤ 24) = false := decide_eq_false c1
    clear c0 c1
    go_enter Try.func45, Try.ntmps45
    go_wp2_with go_in
    go_ret
    exact ⟨ret_bm HZ.out.symm, Below.refl _ _⟩
  replace c1 := Classical.not_not.1 c1
  by_cases c2 : ¬ (0 ≤ frac)
  · have HZ := Lib.hid (show decide (fixP frac bits cut) = false from decide_eq_false (fun h => c2 h.1.1.1.2))
    have d0 : decide (1 ≤ bits) = true := decide_eq_true c0
    have d1 : decide (bits ≤ 24) = true := decide_eq_true c1
    have d2 : decide (0 ≤ frac) = false := decide_eq_false c2
    clear c0 c1 c2
    go_enter Try.func45, Try.ntmps45
    go_wp2_with go_in
    go_ret
    exact ⟨ret_bm HZ.out.symm, Below.refl _ _⟩
  replace c2 := Classical.not_not.1 c2
  by_cases c3 : ¬ (frac ≤ 24)
  · have HZ := Lib.hid (show decide (fixP frac bits cut) = false from decide_eq_false (fun h => c3 h.1.1.2))
    have d0 : decide (1 ≤ bits) = true := decide_eq_true c0
    have d1 : decide (bits ≤ 24) = true := decide_eq_true c1
    have d2 : decide (0 ≤ frac) = true := decide_eq_true c2
    have d3 : decide (frac ≤ 24) = false := decide_eq_false c3
    clear c0 c1 c2 c3
    go_enter Try.func45, Try.ntmps45
    go_wp2_with go_in
    go_ret
    exact ⟨ret_bm HZ.out.symm, Below.refl _ _⟩
  replace c3 := Classical.not_not.1 c3
  by_cases c4 : ¬ (1 ≤ cut)
  · have HZ := Lib.hid (show decide (fixP frac bits cut) = false from decide_eq_false (fun h => c4 h.1.2))
    have d0 : decide (1 ≤ bits) = true := decide_eq_true c0
    have d1 : decide (bits ≤ 24) = true := decide_eq_true c1
    have d2 : decide (0 ≤ frac) = true := decide_eq_true c2
    have d3 : decide (frac ≤ 24) = true := decide_eq_true c3
    have d4 : decide (1 ≤ cut) = false := decide_eq_false c4
    clear c0 c1 c2 c3 c4
    go_enter Try.func45, Try.ntmps45
    go_wp2_with go_in
    go_ret
    exact ⟨ret_bm HZ.out.symm, Below.refl _ _⟩
  replace c4 := Classical.not_not.1 c4
  by_cases c5 : ¬ (cut ≤ 4)
  · have HZ := Lib.hid (show decide (fixP frac bits cut) = false from decide_eq_false (fun h => c5 h.2))
    have d0 : decide (1 ≤ bits) = true := decide_eq_true c0
    have d1 : decide (bits ≤ 24) = true := decide_eq_true c1
    have d2 : decide (0 ≤ frac) = true := decide_eq_true c2
    have d3 : decide (frac ≤ 24) = true := decide_eq_true c3
    have d4 : decide (1 ≤ cut) = true := decide_eq_true c4
    have d5 : decide (cut ≤ 4) = false := decide_eq_false c5
    clear c0 c1 c2 c3 c4 c5
    go_enter Try.func45, Try.ntmps45
    go_wp2_with go_in
    go_ret
    exact ⟨ret_bm HZ.out.symm, Below.refl _ _⟩
  replace c5 := Classical.not_not.1 c5
  have HZ := Lib.hid (show decide (fixP frac bits cut) = true from decide_eq_true ⟨⟨⟨⟨⟨c0, c1⟩, c2⟩, c3⟩, c4⟩, c5⟩)
  have d0 : decide (1 ≤ bits) = true := decide_eq_true c0
  have d1 : decide (bits ≤ 24) = true := decide_eq_true c1
  have d2 : decide (0 ≤ frac) = true := decide_eq_true c2
  have d3 : decide (frac ≤ 24) = true := decide_eq_true c3
  have d4 : decide (1 ≤ cut) = true := decide_eq_true c4
  have d5 : decide (cut ≤ 4) = true := decide_eq_true c5
  clear c0 c1 c2 c3 c4 c5
  go_enter Try.func45, Try.ntmps45
  go_wp2_with go_in
  go_ret
  exact ⟨ret_bm HZ.out.symm, Below.refl _ _⟩

set_option maxHeartbeats 1600000 in
theorem sDotFix_e (A B : Option Addr) (n c n' c' : Nat) (a b : List Int) (frac bits cut : Int) (w : World) (ha : IRow .i64 w A n c a) (hb : IRow .i64 w B n' c' b) (hn : n ≤ 1048576) :
    Calls Try.prog 23 #[.slice A n c, .slice B n' c', .int .i64 frac, .int .i64 bits, .int .i64 cut, .bool true] w fun e w' => e = .returned (.int .i64 (dotM a b frac bits cut true)) ∧ Below w.heap.size w w' := by
  have hx := ha.1
  have hx' := hb.1
  subst hx hx'
  have HR := Lib.hid ha
  have HR' := Lib.hid hb
  have HN := Lib.hid hn
  have HF := Lib.hid (sFix_any frac bits cut)
  clear ha hb hn
  by_cases l0 : ¬ fixP frac bits cut
  · have HZ := Lib.hid (dotM_nofix (a := a) (b := b) (each := true) l0)
    rw [decide_eq_false l0] at HF
    clear l0
    go_enter Try.func23, Try.ntmps23
    go_wp2_with (go_at_call 45; (with_reducible refine (HF.out _).mono ?_); rintro e w1 ⟨rfl, hbn⟩; have HB0 := Lib.hid hbn; clear hbn)
    go_ret
    exact ⟨ret_i64 HZ.out.symm, HB0.out⟩
  replace l0 := Classical.not_not.1 l0
  rw [decide_eq_true l0] at HF
  have HP := Lib.hid l0
  clear l0
  by_cases l1 : ¬ a.length = b.length
  · have HZ := Lib.hid (dotM_no (each := true) (fun h : okD a b frac bits cut => l1 h.1))
    have d1 : ((a.length : Int) == (b.length : Int)) = false := by simp; omega
    have d3 : ¬ ((a.length : Int) = (b.length : Int)) := by omega
    clear l1
    go_enter Try.func23, Try.ntmps23
    go_wp2_with (go_at_call 45; (with_reducible refine (HF.out _).mono ?_); rintro e w1 ⟨rfl, hbn⟩; have HB0 := Lib.hid hbn; clear hbn)
    go_ret
    exact ⟨ret_i64 HZ.out.symm, HB0.out⟩
  replace l1 := Classical.not_not.1 l1
  by_cases l2 : ¬ a.length ≤ 512
  · have HZ := Lib.hid (dotM_no (each := true) (fun h : okD a b frac bits cut => l2 h.2.1))
    have d2 : decide (512 < (a.length : Int)) = true := decide_eq_true (by omega)
    clear l2
    rw [← l1]
    clear l1
    go_enter Try.func23, Try.ntmps23
    go_wp2_with (go_at_call 45; (with_reducible refine (HF.out _).mono ?_); rintro e w1 ⟨rfl, hbn⟩; have HB0 := Lib.hid hbn; clear hbn)
    go_ret
    exact ⟨ret_i64 HZ.out.symm, HB0.out⟩
  replace l2 := Classical.not_not.1 l2
  have d2 : decide (512 < (a.length : Int)) = false := decide_eq_false (by omega)
  have HL1 := Lib.hid l1
  have HL2 := Lib.hid l2
  rw [← l1] at HR' ⊢
  clear l1 l2
  go_enter Try.func23, Try.ntmps23
  go_wp2_with (go_at_call 45; (with_reducible refine (HF.out _).mono ?_); rintro e w1 ⟨rfl, hbn⟩; have HB0 := Lib.hid hbn; clear hbn)
  go_loopw [14] (fun i wr => ∃ (k : Nat) (wz : World), wz = wr ∧ k ≤ a.length ∧ i = .int .i64 ((k : Nat) : Int) ∧ Hid (allW a b frac bits cut k) ∧ Hid (Below w.heap.size w wz)) (fun i _ => a.length - (intOf i).toNat)
  case atStart => exact ⟨0, _, rfl, Nat.zero_le _, rfl, fun j hj => absurd hj (by omega), HB0.out⟩
  case round =>
    clear HB0
    obtain ⟨k, wr, rfl, hk, rfl, HA, HK⟩ := hrel
    by_cases hlt : k < a.length
    · obtain ⟨g, off, rfl, hg, hc⟩ := HR.out.2.2.2 (by omega)
      obtain ⟨g', off', rfl, hg', hc'⟩ := HR'.out.2.2.2 (by omega)
      have HCW' := Lib.hid (hc' k hlt)
      have hcell : wr.cell? ⟨g, off + k, none⟩ = some (.int .i64 (a.getD k 0)) := by rw [HK.out.cell (p := ⟨g, off + k, none⟩) hg]; exact hc k hlt
      have hcell' : wr.cell? ⟨g', off' + k, none⟩ = some (.int .i64 (b.getD k 0)) := by rw [HK.out.cell (p := ⟨g', off' + k, none⟩) hg']; exact hc' k hlt
      clear hc hc'
      have hk1 := spellD k a.length hlt HN.out
      have HC1 := Lib.hid (sWord_any (a.getD k 0) bits)
      have HC2 := Lib.hid (sWord_any (b.getD k 0) bits)
      cases hq : (clp (a.getD k 0) bits == a.getD k 0) with
      | false =>
        have HZ := Lib.hid (dotM_no (each := true) (fun h : okD a b frac bits cut => by have := (okB_at (h.2.2 k hlt)).1.2; rw [beq_iff_eq.2 this] at hq; cases hq))
        rw [hq] at HC1
        generalize a.getD k 0 = x at hcell HC1
        generalize b.getD k 0 = y at hcell' HC2 HCW'
        clear hq
        go_wp2_with (go_at_call 46; (with_reducible refine (HC1.out _).mono ?_); rintro e w1 ⟨rfl, hbn⟩; replace HK := Lib.hid (HK.out.trans (hbn.mono HK.out.size)); clear hbn; have hcell2 := (HK.out.cell (p := ⟨g', off' + k, none⟩) hg').trans HCW'.out)
        go_ret
        exact ⟨ret_i64 HZ.out.symm, HK.out⟩
      | true =>
        have HX1 := Lib.hid (beq_iff_eq.1 hq)
        rw [hq] at HC1
        clear hq
        cases hq : (clp (b.getD k 0) bits == b.getD k 0) with
        | false =>
          have HZ := Lib.hid (dotM_no (each := true) (fun h : okD a b frac bits cut => by have := (okB_at (h.2.2 k hlt)).2; rw [beq_iff_eq.2 this] at hq; cases hq))
          rw [hq] at HC2
          generalize a.getD k 0 = x at hcell HC1
          generalize b.getD k 0 = y at hcell' HC2 HCW'
          clear hq
          go_wp2_with (first | (go_at_call 46; (with_reducible refine (HC1.out _).mono ?_); rintro e w1 ⟨rfl, hbn⟩; replace HK := Lib.hid (HK.out.trans (hbn.mono HK.out.size)); clear hbn; have hcell2 := (HK.out.cell (p := ⟨g', off' + k, none⟩) hg').trans HCW'.out) | (go_at_call 46; (with_reducible refine (HC2.out _).mono ?_); rintro e w1 ⟨rfl, hbn⟩; replace HK := Lib.hid (HK.out.trans (hbn.mono HK.out.size)); clear hbn))
          go_ret
          exact ⟨ret_i64 HZ.out.symm, HK.out⟩
        | true =>
          have HX2 := Lib.hid (okB_of HP.out HX1.out (beq_iff_eq.1 hq))
          rw [hq] at HC2
          clear hq HX1
          generalize hxx : a.getD k 0 = x at hcell HC1
          generalize hyy : b.getD k 0 = y at hcell' HC2 HCW'
          have HXX := Lib.hid hxx
          have HYY := Lib.hid hyy
          clear hxx hyy
          go_wp2_with (first | (go_at_call 46; (with_reducible refine (HC1.out _).mono ?_); rintro e w1 ⟨rfl, hbn⟩; replace HK := Lib.hid (HK.out.trans (hbn.mono HK.out.size)); clear hbn; have hcell2 := (HK.out.cell (p := ⟨g', off' + k, none⟩) hg').trans HCW'.out) | (go_at_call 46; (with_reducible refine (HC2.out _).mono ?_); rintro e w1 ⟨rfl, hbn⟩; replace HK := Lib.hid (HK.out.trans (hbn.mono HK.out.size)); clear hbn))
          go_roundw
          case rel => exact ⟨k + 1, _, rfl, by omega, by rw [hk1], (fun j hj => by
            by_cases e : j = k
            · subst e; exact HX2.out
            · exact HA.out j (by omega)), HK.out⟩
          case measure => rw [hk1]; simp only [intOf, Int.toNat_natCast]; omega
    · have hkn : k = a.length := by omega
      subst hkn
      have HK0 := HK
      have HO := Lib.hid (show okD a b frac bits cut from ⟨HL1.out, HL2.out, HA.out⟩)
      go_wp2
      clear HK
      go_loopw [13, 15] (fun s i wq => ∃ (k : Nat) (wz : World), wz = wq ∧ k ≤ a.length ∧ s = .int .i64 (dE a b frac bits cut k) ∧ i = .int .i64 ((k : Nat) : Int) ∧ Hid (Below w.heap.size w wz)) (fun _ i _ => a.length - (intOf i).toNat)
      case atStart => exact ⟨0, _, rfl, Nat.zero_le _, rfl, rfl, HK0.out⟩
      case round =>
        clear HK0
        obtain ⟨k, wq, rfl, hk, rfl, rfl, HK⟩ := hrel
        by_cases hlt : k < a.length
        · obtain ⟨g, off, rfl, hg, hc⟩ := HR.out.2.2.2 (by omega)
          obtain ⟨g', off', rfl, hg', hc'⟩ := HR'.out.2.2.2 (by omega)
          have hcell : wq.cell? ⟨g, off + k, none⟩ = some (.int .i64 (a.getD k 0)) := by rw [HK.out.cell (p := ⟨g, off + k, none⟩) hg]; exact hc k hlt
          have hcell' : wq.cell? ⟨g', off' + k, none⟩ = some (.int .i64 (b.getD k 0)) := by rw [HK.out.cell (p := ⟨g', off' + k, none⟩) hg']; exact hc' k hlt
          clear hc hc'
          have hk1 := spellD k a.length hlt HN.out
          have hbw : g < wq.heap.size := Nat.lt_of_lt_of_le hg HK.out.size
          have hbw' : g' < wq.heap.size := Nat.lt_of_lt_of_le hg' HK.out.size
          obtain ⟨S, g1, g1w, g2⟩ := dE_step a b frac bits cut k
          have HM := Lib.hid (sMulFix_any (a.getD k 0) (b.getD k 0) frac bits cut)
          have HC := Lib.hid (sClip_any S bits)
          rw [g2] at HC
          generalize mulM (a.getD k 0) (b.getD k 0) frac bits cut = M at g1 g1w HM
          generalize a.getD k 0 = x at hcell HM
          generalize b.getD k 0 = y at hcell' HM
          generalize hq : dE a b frac bits cut (k + 1) = q at HC
          generalize dE a b frac bits cut k = p at g1 g1w
          have HX := Lib.hid hq
          clear hq g2
          go_wp2_with fail
          go_region_with (first
            | (go_at_call 48; (with_reducible refine (HM.out _).mono ?_); rintro e w1 ⟨rfl, hbn⟩; (first | (replace HK := Lib.hid (HK.out.trans (hbn.mono HK.out.size))) | (replace HK := Lib.hid (HK.out.drew.trans (hbn.mono HK.out.size)))); clear hbn)
            | (go_at_call 47; (with_reducible refine (HC.out _).mono ?_); rintro e w1 ⟨rfl, hbn⟩; (first | (replace HK := Lib.hid (HK.out.trans (hbn.mono HK.out.size))) | (replace HK := Lib.hid (HK.out.drew.trans (hbn.mono HK.out.size)))); clear hbn))
          all_goals go_wp2
          all_goals go_roundw
          all_goals first
            | exact ⟨k + 1, _, rfl, by omega, by rw [HX.out], by rw [hk1], by first | exact HK.out | exact below_drewN HK.out _⟩
            | exact ⟨k + 1, _, rfl, by omega, by rw [HX.out], by rw [hk1], HK.out⟩
            | (rw [hk1]; simp only [intOf, Int.toNat_natCast]; omega)
        · have hkn : k = a.length := by omega
          subst hkn
          have HZ := Lib.hid (dotM_t HO.out)
          go_wp2
          go_ret
          exact ⟨ret_i64 HZ.out.symm, HK.out⟩

set_option maxHeartbeats 1600000 in
theorem sDotFix_o (A B : Option Addr) (n c n' c' : Nat) (a b : List Int) (frac bits cut : Int) (w : World) (ha : IRow .i64 w A n c a) (hb : IRow .i64 w B n' c' b) (hn : n ≤ 1048576) :
    Calls Try.prog 23 #[.slice A n c, .slice B n' c', .int .i64 frac, .int .i64 bits, .int .i64 cut, .bool false] w fun e w' => e = .returned (.int .i64 (dotM a b frac bits cut false)) ∧ Below w.heap.size w w' := by
  have hx := ha.1
  have hx' := hb.1
  subst hx hx'
  have HR := Lib.hid ha
  have HR' := Lib.hid hb
  have HN := Lib.hid hn
  have HF := Lib.hid (sFix_any frac bits cut)
  clear ha hb hn
  by_cases l0 : ¬ fixP frac bits cut
  · have HZ := Lib.hid (dotM_nofix (a := a) (b := b) (each := false) l0)
    rw [decide_eq_false l0] at HF
    clear l0
    go_enter Try.func23, Try.ntmps23
    go_wp2_with (go_at_call 45; (with_reducible refine (HF.out _).mono ?_); rintro e w1 ⟨rfl, hbn⟩; have HB0 := Lib.hid hbn; clear hbn)
    go_ret
    exact ⟨ret_i64 HZ.out.symm, HB0.out⟩
  replace l0 := Classical.not_not.1 l0
  rw [decide_eq_true l0] at HF
  have HP := Lib.hid l0
  clear l0
  by_cases l1 : ¬ a.length = b.length
  · have HZ := Lib.hid (dotM_no (each := false) (fun h : okD a b frac bits cut => l1 h.1))
    have d1 : ((a.length : Int) == (b.length : Int)) = false := by simp; omega
    have d3 : ¬ ((a.length : Int) = (b.length : Int)) := by omega
    clear l1
    go_enter Try.func23, Try.ntmps23
    go_wp2_with (go_at_call 45; (with_reducible refine (HF.out _).mono ?_); rintro e w1 ⟨rfl, hbn⟩; have HB0 := Lib.hid hbn; clear hbn)
    go_ret
    exact ⟨ret_i64 HZ.out.symm, HB0.out⟩
  replace l1 := Classical.not_not.1 l1
  by_cases l2 : ¬ a.length ≤ 512
  · have HZ := Lib.hid (dotM_no (each := false) (fun h : okD a b frac bits cut => l2 h.2.1))
    have d2 : decide (512 < (a.length : Int)) = true := decide_eq_true (by omega)
    clear l2
    rw [← l1]
    clear l1
    go_enter Try.func23, Try.ntmps23
    go_wp2_with (go_at_call 45; (with_reducible refine (HF.out _).mono ?_); rintro e w1 ⟨rfl, hbn⟩; have HB0 := Lib.hid hbn; clear hbn)
    go_ret
    exact ⟨ret_i64 HZ.out.symm, HB0.out⟩
  replace l2 := Classical.not_not.1 l2
  have d2 : decide (512 < (a.length : Int)) = false := decide_eq_false (by omega)
  have HL1 := Lib.hid l1
  have HL2 := Lib.hid l2
  rw [← l1] at HR' ⊢
  clear l1 l2
  go_enter Try.func23, Try.ntmps23
  go_wp2_with (go_at_call 45; (with_reducible refine (HF.out _).mono ?_); rintro e w1 ⟨rfl, hbn⟩; have HB0 := Lib.hid hbn; clear hbn)
  go_loopw [14] (fun i wr => ∃ (k : Nat) (wz : World), wz = wr ∧ k ≤ a.length ∧ i = .int .i64 ((k : Nat) : Int) ∧ Hid (allW a b frac bits cut k) ∧ Hid (Below w.heap.size w wz)) (fun i _ => a.length - (intOf i).toNat)
  case atStart => exact ⟨0, _, rfl, Nat.zero_le _, rfl, fun j hj => absurd hj (by omega), HB0.out⟩
  case round =>
    clear HB0
    obtain ⟨k, wr, rfl, hk, rfl, HA, HK⟩ := hrel
    by_cases hlt : k < a.length
    · obtain ⟨g, off, rfl, hg, hc⟩ := HR.out.2.2.2 (by omega)
      obtain ⟨g', off', rfl, hg', hc'⟩ := HR'.out.2.2.2 (by omega)
      have HCW' := Lib.hid (hc' k hlt)
      have hcell : wr.cell? ⟨g, off + k, none⟩ = some (.int .i64 (a.getD k 0)) := by rw [HK.out.cell (p := ⟨g, off + k, none⟩) hg]; exact hc k hlt
      have hcell' : wr.cell? ⟨g', off' + k, none⟩ = some (.int .i64 (b.getD k 0)) := by rw [HK.out.cell (p := ⟨g', off' + k, none⟩) hg']; exact hc' k hlt
      clear hc hc'
      have hk1 := spellD k a.length hlt HN.out
      have HC1 := Lib.hid (sWord_any (a.getD k 0) bits)
      have HC2 := Lib.hid (sWord_any (b.getD k 0) bits)
      cases hq : (clp (a.getD k 0) bits == a.getD k 0) with
      | false =>
        have HZ := Lib.hid (dotM_no (each := false) (fun h : okD a b frac bits cut => by have := (okB_at (h.2.2 k hlt)).1.2; rw [beq_iff_eq.2 this] at hq; cases hq))
        rw [hq] at HC1
        generalize a.getD k 0 = x at hcell HC1
        generalize b.getD k 0 = y at hcell' HC2 HCW'
        clear hq
        go_wp2_with (go_at_call 46; (with_reducible refine (HC1.out _).mono ?_); rintro e w1 ⟨rfl, hbn⟩; replace HK := Lib.hid (HK.out.trans (hbn.mono HK.out.size)); clear hbn; have hcell2 := (HK.out.cell (p := ⟨g', off' + k, none⟩) hg').trans HCW'.out)
        go_ret
        exact ⟨ret_i64 HZ.out.symm, HK.out⟩
      | true =>
        have HX1 := Lib.hid (beq_iff_eq.1 hq)
        rw [hq] at HC1
        clear hq
        cases hq : (clp (b.getD k 0) bits == b.getD k 0) with
        | false =>
          have HZ := Lib.hid (dotM_no (each := false) (fun h : okD a b frac bits cut => by have := (okB_at (h.2.2 k hlt)).2; rw [beq_iff_eq.2 this] at hq; cases hq))
          rw [hq] at HC2
          generalize a.getD k 0 = x at hcell HC1
          generalize b.getD k 0 = y at hcell' HC2 HCW'
          clear hq
          go_wp2_with (first | (go_at_call 46; (with_reducible refine (HC1.out _).mono ?_); rintro e w1 ⟨rfl, hbn⟩; replace HK := Lib.hid (HK.out.trans (hbn.mono HK.out.size)); clear hbn; have hcell2 := (HK.out.cell (p := ⟨g', off' + k, none⟩) hg').trans HCW'.out) | (go_at_call 46; (with_reducible refine (HC2.out _).mono ?_); rintro e w1 ⟨rfl, hbn⟩; replace HK := Lib.hid (HK.out.trans (hbn.mono HK.out.size)); clear hbn))
          go_ret
          exact ⟨ret_i64 HZ.out.symm, HK.out⟩
        | true =>
          have HX2 := Lib.hid (okB_of HP.out HX1.out (beq_iff_eq.1 hq))
          rw [hq] at HC2
          clear hq HX1
          generalize hxx : a.getD k 0 = x at hcell HC1
          generalize hyy : b.getD k 0 = y at hcell' HC2 HCW'
          have HXX := Lib.hid hxx
          have HYY := Lib.hid hyy
          clear hxx hyy
          go_wp2_with (first | (go_at_call 46; (with_reducible refine (HC1.out _).mono ?_); rintro e w1 ⟨rfl, hbn⟩; replace HK := Lib.hid (HK.out.trans (hbn.mono HK.out.size)); clear hbn; have hcell2 := (HK.out.cell (p := ⟨g', off' + k, none⟩) hg').trans HCW'.out) | (go_at_call 46; (with_reducible refine (HC2.out _).mono ?_); rintro e w1 ⟨rfl, hbn⟩; replace HK := Lib.hid (HK.out.trans (hbn.mono HK.out.size)); clear hbn))
          go_roundw
          case rel => exact ⟨k + 1, _, rfl, by omega, by rw [hk1], (fun j hj => by
            by_cases e : j = k
            · subst e; exact HX2.out
            · exact HA.out j (by omega)), HK.out⟩
          case measure => rw [hk1]; simp only [intOf, Int.toNat_natCast]; omega
    · have hkn : k = a.length := by omega
      subst hkn
      have HK0 := HK
      have HO := Lib.hid (show okD a b frac bits cut from ⟨HL1.out, HL2.out, HA.out⟩)
      go_wp2
      clear HK
      go_loopw [13, 15] (fun s i wq => ∃ (k : Nat) (wz : World), wz = wq ∧ k ≤ a.length ∧ s = .int .i64 (dS a b k) ∧ i = .int .i64 ((k : Nat) : Int) ∧ Hid (Below w.heap.size w wz)) (fun _ i _ => a.length - (intOf i).toNat)
      case atStart => exact ⟨0, _, rfl, Nat.zero_le _, rfl, rfl, HK0.out⟩
      case round =>
        clear HK0
        obtain ⟨k, wq, rfl, hk, rfl, rfl, HK⟩ := hrel
        by_cases hlt : k < a.length
        · obtain ⟨g, off, rfl, hg, hc⟩ := HR.out.2.2.2 (by omega)
          obtain ⟨g', off', rfl, hg', hc'⟩ := HR'.out.2.2.2 (by omega)
          have hcell : wq.cell? ⟨g, off + k, none⟩ = some (.int .i64 (a.getD k 0)) := by rw [HK.out.cell (p := ⟨g, off + k, none⟩) hg]; exact hc k hlt
          have hcell' : wq.cell? ⟨g', off' + k, none⟩ = some (.int .i64 (b.getD k 0)) := by rw [HK.out.cell (p := ⟨g', off' + k, none⟩) hg']; exact hc' k hlt
          clear hc hc'
          have hk1 := spellD k a.length hlt HN.out
          have hbw : g < wq.heap.size := Nat.lt_of_lt_of_le hg HK.out.size
          have hbw' : g' < wq.heap.size := Nat.lt_of_lt_of_le hg' HK.out.size
          obtain ⟨P, g1, g2⟩ := dS_step (a := a) (b := b) (k := k) (fun j hj => HO.out.2.2 j (by omega)) (by have := HL2.out; omega)
          generalize a.getD k 0 = x at hcell g1
          generalize b.getD k 0 = y at hcell' g1
          generalize hq : dS a b (k + 1) = q at g2
          generalize dS a b k = p at g2
          have HX := Lib.hid hq
          clear hq
          go_wp2
          go_quiet (fail)
          go_wp2
          go_roundw
          case rel => exact ⟨k + 1, _, rfl, by omega, by rw [HX.out]; first | done | rw [g2], by rw [hk1], below_drewN HK.out _⟩
          case measure => rw [hk1]; simp only [intOf, Int.toNat_natCast]; omega
        · have hkn : k = a.length := by omega
          subst hkn
          have HZ := Lib.hid (dotM_f HO.out)
          have HM := Lib.hid (sShift_any (dS a b a.length) frac cut)
          have HC := Lib.hid (sClip_any (shf (dS a b a.length) frac cut) bits)
          go_wp2_with (first | (go_at_call 41; (with_reducible refine (HM.out _).mono ?_); rintro e w1 ⟨rfl, hbn⟩; replace HK := Lib.hid (HK.out.trans (hbn.mono HK.out.size)); clear hbn) | (go_at_call 47; (with_reducible refine (HC.out _).mono ?_); rintro e w1 ⟨rfl, hbn⟩; replace HK := Lib.hid (HK.out.trans (hbn.mono HK.out.size)); clear hbn))
          go_ret
          exact ⟨ret_i64 HZ.out.symm, HK.out⟩

end Go.Proofs.Ytihhklfmabencaa
