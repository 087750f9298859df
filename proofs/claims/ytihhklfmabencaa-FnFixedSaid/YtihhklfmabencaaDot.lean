/-
  Contracts of DotFix, of the program and of the reference.
-/
import Derived.Test.YtihhklfmabencaaMulFixH
namespace Go.Proofs.Ytihhklfmabencaa
set_option linter.unusedSimpArgs false
set_option linter.unusedVariables false
open Go.RowKit Go.Dr

theorem keeps0 (W0 : World) : (∀ b o, b < W0.heap.size → W0.drew.cell? ⟨b, o, none⟩ = W0.cell? ⟨b, o, none⟩) ∧ Below W0.heap.size W0 W0.drew := ⟨fun _ _ _ => rfl, (Below.refl _ _).drew⟩
theorem keepsB {W0 W w1 : World} (hb : Below W.heap.size W w1) (h : (∀ b o, b < W0.heap.size → W.cell? ⟨b, o, none⟩ = W0.cell? ⟨b, o, none⟩) ∧ Below W0.heap.size W0 W) :
    (∀ b o, b < W0.heap.size → w1.cell? ⟨b, o, none⟩ = W0.cell? ⟨b, o, none⟩) ∧ Below W0.heap.size W0 w1 :=
  have h2 := h.2.trans (hb.mono h.2.size)
  ⟨fun b o hl => h2.cell (p := ⟨b, o, none⟩) hl, h2⟩
theorem stays_of {W0 wx : World} (h : (∀ z y, z < W0.heap.size → wx.cell? ⟨z, y, none⟩ = W0.cell? ⟨z, y, none⟩) ∧ Below W0.heap.size W0 wx) : Below W0.heap.size W0 wx := h.2
theorem spellD (k n : Nat) (h : k < n) (hn : n ≤ 1048576) : wrap64 ((k : Int) + 1) = ((k + 1 : Nat) : Int) := by rw [wrap_id (by omega) (by omega)]; omega

/-- All products may be taken. -/
def allW (a b : List Int) (frac bits cut : Int) (k : Nat) : Prop := ∀ j, j < k → okB (a.getD j 0) (b.getD j 0) frac bits cut = true
/-- The sum clipped each time; the sum clipped once. -/
def dE (a b : List Int) (frac bits cut : Int) : Nat → Int | 0 => 0 | k + 1 => clp (dE a b frac bits cut k + mulM (a.getD k 0) (b.getD k 0) frac bits cut) bits
def dS (a b : List Int) : Nat → Int | 0 => 0 | k + 1 => dS a b k + a.getD k 0 * b.getD k 0
def okD (a b : List Int) (frac bits cut : Int) : Prop := a.length = b.length ∧ a.length ≤ 512 ∧ allW a b frac bits cut a.length
open Classical in
noncomputable def dotM (a b : List Int) (frac bits cut : Int) (each : Bool) : Int := if okD a b frac bits cut then (match each with | true => dE a b frac bits cut a.length | false => clp (shf (dS a b a.length) frac cut) bits) else 0
theorem dotM_no {a b : List Int} {frac bits cut : Int} {each : Bool} (h : ¬ okD a b frac bits cut) : dotM a b frac bits cut each = 0 := by unfold dotM; exact if_neg h
theorem dotM_t {a b : List Int} {frac bits cut : Int} (h : okD a b frac bits cut) : dotM a b frac bits cut true = dE a b frac bits cut a.length := by unfold dotM; exact if_pos h
theorem dotM_f {a b : List Int} {frac bits cut : Int} (h : okD a b frac bits cut) : dotM a b frac bits cut false = clp (shf (dS a b a.length) frac cut) bits := by unfold dotM; exact if_pos h

theorem clp_le (x bits : Int) : -8388608 ≤ clp x bits ∧ clp x bits ≤ 8388608 := by
  unfold clp
  split
  · rename_i h
    have hp : (0 : Int) < 2 ^ (bits - 1).toNat := Int.pow_pos (by decide)
    have hq : (2 : Int) ^ (bits - 1).toNat ≤ 8388608 := by
      have : (2 : Int) ^ (bits - 1).toNat ≤ 2 ^ 23 := by exact_mod_cast Nat.pow_le_pow_right (show 0 < 2 by decide) (show (bits - 1).toNat ≤ 23 by omega)
      simpa using this
    generalize (2 : Int) ^ (bits - 1).toNat = D at *
    split
    · omega
    · split <;> omega
  · omega
theorem dE_le (a b : List Int) (frac bits cut : Int) (k : Nat) : -8388608 ≤ dE a b frac bits cut k ∧ dE a b frac bits cut k ≤ 8388608 := by
  cases k with
  | zero => exact (show -8388608 ≤ (0 : Int) ∧ (0 : Int) ≤ 8388608 from ⟨by decide, by decide⟩)
  | succ k => exact clp_le _ _
theorem mulM_le (a b frac bits cut : Int) : -8388608 ≤ mulM a b frac bits cut ∧ mulM a b frac bits cut ≤ 8388608 := by
  unfold mulM
  split
  · exact clp_le _ _
  · omega
theorem word_le {a b frac bits cut : Int} (h : okB a b frac bits cut = true) : (-8388608 ≤ a ∧ a ≤ 8388608) ∧ (-8388608 ≤ b ∧ b ≤ 8388608) := by
  have h := of_decide_eq_true h
  unfold okM at h
  have h1 := clp_le a bits
  have h2 := clp_le b bits
  rw [h.1.2] at h1
  rw [h.2] at h2
  exact ⟨h1, h2⟩
theorem prod_le {x y : Int} (hx : -8388608 ≤ x ∧ x ≤ 8388608) (hy : -8388608 ≤ y ∧ y ≤ 8388608) : -70368744177664 ≤ x * y ∧ x * y ≤ 70368744177664 := by
  have h1 : 0 ≤ (8388608 - x) * (8388608 + y) := Int.mul_nonneg (by omega) (by omega)
  have h2 : 0 ≤ (8388608 + x) * (8388608 - y) := Int.mul_nonneg (by omega) (by omega)
  have h3 : 0 ≤ (8388608 - x) * (8388608 - y) := Int.mul_nonneg (by omega) (by omega)
  have h4 : 0 ≤ (8388608 + x) * (8388608 + y) := Int.mul_nonneg (by omega) (by omega)
  simp only [Int.sub_mul, Int.add_mul, Int.mul_add, Int.mul_sub] at h1 h2 h3 h4
  generalize x * y = p at *
  omega
theorem dS_le {a b : List Int} {frac bits cut : Int} : ∀ k, allW a b frac bits cut k → -(70368744177664 * (k : Int)) ≤ dS a b k ∧ dS a b k ≤ 70368744177664 * (k : Int)
  | 0, _ => by simp [dS]
  | k + 1, h => by
    have ih := dS_le k (fun j hj => h j (by omega))
    have hw := word_le (h k (by omega))
    have hp := prod_le hw.1 hw.2
    simp only [dS]
    generalize a.getD k 0 * b.getD k 0 = p at *
    omega
theorem dE_step (a b : List Int) (frac bits cut : Int) (k : Nat) : ∃ S, wrap64 (dE a b frac bits cut k + mulM (a.getD k 0) (b.getD k 0) frac bits cut) = S ∧ IntKind.i64.wrap (dE a b frac bits cut k + mulM (a.getD k 0) (b.getD k 0) frac bits cut) = S ∧ clp S bits = dE a b frac bits cut (k + 1) := by
  have h1 := dE_le a b frac bits cut k
  have h2 := mulM_le (a.getD k 0) (b.getD k 0) frac bits cut
  exact ⟨_, wrap_id (by omega) (by omega), IntWalk.i64_in _ ⟨by omega, by omega⟩, rfl⟩
theorem dS_step {a b : List Int} {frac bits cut : Int} {k : Nat} (h : allW a b frac bits cut (k + 1)) (hk : k < 512) : ∃ P, wrap64 (a.getD k 0 * b.getD k 0) = P ∧ wrap64 (dS a b k + P) = dS a b (k + 1) := by
  have ih := dS_le k (fun j hj => h j (by omega))
  have hw := word_le (h k (by omega))
  have hp := prod_le hw.1 hw.2
  refine ⟨_, wrap_id (by omega) (by omega), ?_⟩
  simp only [dS]
  generalize a.getD k 0 * b.getD k 0 = p at *
  exact wrap_id (by omega) (by omega)

set_option maxHeartbeats 1600000 in
theorem iDotFix_e (A B : Option Addr) (n c n' c' : Nat) (a b : List Int) (frac bits cut : Int) (w : World) (ha : IRow .i64 w A n c a) (hb : IRow .i64 w B n' c' b) (hn : n ≤ 1048576) :
    Calls Try.prog 22 #[.slice A n c, .slice B n' c', .int .i64 frac, .int .i64 bits, .int .i64 cut, .bool true] w fun e w' => e = .returned (.int .i64 (dotM a b frac bits cut true)) ∧ Below w.heap.size w w' := by
  have hx := ha.1
  have hx' := hb.1
  subst hx hx'
  have HR := Lib.hid ha
  have HR' := Lib.hid hb
  have HN := Lib.hid hn
  clear ha hb hn
  by_cases l1 : ¬ a.length = b.length
  · have HZ := Lib.hid (dotM_no (each := true) (fun h : okD a b frac bits cut => l1 h.1))
    have d1 : ((a.length : Int) == (b.length : Int)) = false := by simp; omega
    have d3 : ¬ ((a.length : Int) = (b.length : Int)) := by omega
    clear l1
    go_enter Try.func22, Try.ntmps22
    go_wp2
    go_ret
    exact ⟨ret_i64 HZ.out.symm, Below.refl _ _⟩
  replace l1 := Classical.not_not.1 l1
  by_cases l2 : ¬ a.length ≤ 512
  · have HZ := Lib.hid (dotM_no (each := true) (fun h : okD a b frac bits cut => l2 h.2.1))
    have d2 : decide (512 < (a.length : Int)) = true := decide_eq_true (by omega)
    clear l2
    rw [← l1]
    clear l1
    go_enter Try.func22, Try.ntmps22
    go_wp2
    go_ret
    exact ⟨ret_i64 HZ.out.symm, Below.refl _ _⟩
  replace l2 := Classical.not_not.1 l2
  have d2 : decide (512 < (a.length : Int)) = false := decide_eq_false (by omega)
  have HL1 := Lib.hid l1
  have HL2 := Lib.hid l2
  rw [← l1] at HR' ⊢
  clear l1 l2
  go_enter Try.func22, Try.ntmps22
  go_wp2
  go_loopw [13, 28] (fun x i wr => ∃ k, k ≤ a.length ∧ i = .int .i64 ((k : Nat) : Int) ∧ Hid (allW a b frac bits cut k) ∧ Hid (Below w.heap.size w wr)) (fun _ i _ => a.length - (intOf i).toNat)
  case atStart => exact ⟨0, Nat.zero_le _, rfl, fun j hj => absurd hj (by omega), Below.refl _ _⟩
  case round =>
    rename_i wr
    obtain ⟨k, hk, rfl, HA, HK⟩ := hrel
    by_cases hlt : k < a.length
    · obtain ⟨g, off, rfl, hg, hc⟩ := HR.out.2.2.2 (by omega)
      obtain ⟨g', off', rfl, hg', hc'⟩ := HR'.out.2.2.2 (by omega)
      have hcell : wr.cell? ⟨g, off + k, none⟩ = some (.int .i64 (a.getD k 0)) := by rw [HK.out.cell (p := ⟨g, off + k, none⟩) hg]; exact hc k hlt
      have hcell' : wr.cell? ⟨g', off' + k, none⟩ = some (.int .i64 (b.getD k 0)) := by rw [HK.out.cell (p := ⟨g', off' + k, none⟩) hg']; exact hc' k hlt
      clear hc hc'
      have hk1 := spellD k a.length hlt HN.out
      have HC := Lib.hid (mulOk_any (a.getD k 0) (b.getD k 0) frac bits cut)
      have hbw : g < wr.heap.size := Nat.lt_of_lt_of_le hg HK.out.size
      have hbw' : g' < wr.heap.size := Nat.lt_of_lt_of_le hg' HK.out.size
      cases hq : okB (a.getD k 0) (b.getD k 0) frac bits cut with
      | false =>
        have HZ := Lib.hid (dotM_no (each := true) (fun h : okD a b frac bits cut => by have := h.2.2 k hlt; rw [hq] at this; cases this))
        rw [hq] at HC
        generalize a.getD k 0 = x at hcell HC
        generalize b.getD k 0 = y at hcell' HC
        clear hq
        go_wp2_with fail
        go_region_held3 (fun wx => (∀ z y, z < wr.heap.size → wx.cell? ⟨z, y, none⟩ = wr.cell? ⟨z, y, none⟩) ∧ Below wr.heap.size wr wx)
          (first
            | exact keeps0 _
            | (refine keepsB hbn ?_; assumption))
          (first
            | (go_at_call 44; refine (HC.out _).mono ?_; rintro e w1 ⟨rfl, hbn⟩))
        have HB := Lib.hid (stays_of (by assumption : (∀ z y, z < wr.heap.size → World.cell? _ ⟨z, y, none⟩ = wr.cell? ⟨z, y, none⟩) ∧ Below wr.heap.size wr _))
        go_wp2
        go_ret
        exact ⟨ret_i64 HZ.out.symm, HK.out.trans (HB.out.mono HK.out.size)⟩
      | true =>
        have HX := Lib.hid hq
        rw [hq] at HC
        generalize hxx : a.getD k 0 = x at hcell HC
        generalize hyy : b.getD k 0 = y at hcell' HC
        have HXX := Lib.hid hxx
        have HYY := Lib.hid hyy
        clear hq hxx hyy
        go_wp2_with fail
        go_region_held3 (fun wx => (∀ z y, z < wr.heap.size → wx.cell? ⟨z, y, none⟩ = wr.cell? ⟨z, y, none⟩) ∧ Below wr.heap.size wr wx)
          (first
            | exact keeps0 _
            | (refine keepsB hbn ?_; assumption))
          (first
            | (go_at_call 44; refine (HC.out _).mono ?_; rintro e w1 ⟨rfl, hbn⟩))
        have HB := Lib.hid (stays_of (by assumption : (∀ z y, z < wr.heap.size → World.cell? _ ⟨z, y, none⟩ = wr.cell? ⟨z, y, none⟩) ∧ Below wr.heap.size wr _))
        go_wp2
        go_roundw
        case rel => exact ⟨k + 1, by omega, by rw [hk1], (fun j hj => by
          by_cases e : j = k
          · subst e; exact HX.out
          · exact HA.out j (by omega)), HK.out.trans (HB.out.mono HK.out.size)⟩
        case measure => rw [hk1]; simp only [intOf, Int.toNat_natCast]; omega
    · have hkn : k = a.length := by omega
      subst hkn
      have HK0 := HK
      have HO := Lib.hid (show okD a b frac bits cut from ⟨HL1.out, HL2.out, HA.out⟩)
      go_wp2
      clear HK
      go_loopw [14, 15, 47] (fun s x i wq => ∃ (k : Nat) (wz : World), wz = wq ∧ k ≤ a.length ∧ s = .int .i64 (dE a b frac bits cut k) ∧ i = .int .i64 ((k : Nat) : Int) ∧ Hid (Below w.heap.size w wz)) (fun _ _ i _ => a.length - (intOf i).toNat)
      case atStart => exact ⟨0, _, rfl, Nat.zero_le _, rfl, rfl, HK0.out⟩
      case round =>
        clear HK0
        obtain ⟨k, wq, rfl, hk, rfl, rfl, HK⟩ := hrel
        by_cases hlt : k < a.length
        · obtain ⟨g, off, rfl, hg, hc⟩ := HR.out.2.2.2 (by omega)
          obtain ⟨g', off', rfl, hg', hc'⟩ := HR'.out.2.2.2 (by omega)
          have hcell : wq.cell? ⟨g, off + k, none⟩ = some (.int .i64 (a.getD k 0)) := by rw [HK.out.cell (p := ⟨g, off + k, none⟩) hg]; exact hc k hlt
          have hcell' : wq.cell? ⟨g', off' + k, none⟩ = some (.int .i64 (b.getD k 0)) := by rw [HK.out.cell (p := ⟨g', off' + k, none⟩) hg']; exact hc' k hlt
          clear hc hc'
          have hk1 := spellD k a.length hlt HN.out
          have hbw : g < wq.heap.size := Nat.lt_of_lt_of_le hg HK.out.size
          have hbw' : g' < wq.heap.size := Nat.lt_of_lt_of_le hg' HK.out.size
          obtain ⟨S, g1, g1w, g2⟩ := dE_step a b frac bits cut k
          have HM := Lib.hid (iMulFix_any (a.getD k 0) (b.getD k 0) frac bits cut)
          have HC := Lib.hid (iClip_any S bits)
          rw [g2] at HC
          generalize mulM (a.getD k 0) (b.getD k 0) frac bits cut = M at g1 g1w HM
          generalize a.getD k 0 = x at hcell HM
          generalize b.getD k 0 = y at hcell' HM
          generalize hq : dE a b frac bits cut (k + 1) = q at HC
          generalize dE a b frac bits cut k = p at g1 g1w
          have HX := Lib.hid hq
          clear hq g2
          go_wp2_with fail
          go_region_with (first
            | (go_at_call 25; (with_reducible refine (HM.out _).mono ?_); rintro e w1 ⟨rfl, hbn⟩; (first | (replace HK := Lib.hid (HK.out.trans (hbn.mono HK.out.size))) | (replace HK := Lib.hid (HK.out.drew.trans (hbn.mono HK.out.size)))); clear hbn)
            | (go_at_call 24; (with_reducible refine (HC.out _).mono ?_); rintro e w1 ⟨rfl, hbn⟩; (first | (replace HK := Lib.hid (HK.out.trans (hbn.mono HK.out.size))) | (replace HK := Lib.hid (HK.out.drew.trans (hbn.mono HK.out.size)))); clear hbn))
          all_goals go_wp2
          all_goals go_roundw
          all_goals first
            | exact ⟨k + 1, _, rfl, by omega, by rw [HX.out], by rw [hk1], by first | exact HK.out | exact below_drewN HK.out _⟩
            | exact ⟨k + 1, _, rfl, by omega, by rw [HX.out], by rw [hk1], HK.out⟩
            | (rw [hk1]; simp only [intOf, Int.toNat_natCast]; omega)
        · have hkn : k = a.length := by omega
          subst hkn
          have HZ := Lib.hid (dotM_t HO.out)
          go_wp2
          go_ret
          exact ⟨ret_i64 HZ.out.symm, HK.out⟩

set_option maxHeartbeats 1600000 in
theorem iDotFix_o (A B : Option Addr) (n c n' c' : Nat) (a b : List Int) (frac bits cut : Int) (w : World) (ha : IRow .i64 w A n c a) (hb : IRow .i64 w B n' c' b) (hn : n ≤ 1048576) :
    Calls Try.prog 22 #[.slice A n c, .slice B n' c', .int .i64 frac, .int .i64 bits, .int .i64 cut, .bool false] w fun e w' => e = .returned (.int .i64 (dotM a b frac bits cut false)) ∧ Below w.heap.size w w' := by
  have hx := ha.1
  have hx' := hb.1
  subst hx hx'
  have HR := Lib.hid ha
  have HR' := Lib.hid hb
  have HN := Lib.hid hn
  clear ha hb hn
  by_cases l1 : ¬ a.length = b.length
  · have HZ := Lib.hid (dotM_no (each := false) (fun h : okD a b frac bits cut => l1 h.1))
    have d1 : ((a.length : Int) == (b.length : Int)) = false := by simp; omega
    have d3 : ¬ ((a.length : Int) = (b.length : Int)) := by omega
    clear l1
    go_enter Try.func22, Try.ntmps22
    go_wp2
    go_ret
    exact ⟨ret_i64 HZ.out.symm, Below.refl _ _⟩
  replace l1 := Classical.not_not.1 l1
  by_cases l2 : ¬ a.length ≤ 512
  · have HZ := Lib.hid (dotM_no (each := false) (fun h : okD a b frac bits cut => l2 h.2.1))
    have d2 : decide (512 < (a.length : Int)) = true := decide_eq_true (by omega)
    clear l2
    rw [← l1]
    clear l1
    go_enter Try.func22, Try.ntmps22
    go_wp2
    go_ret
    exact ⟨ret_i64 HZ.out.symm, Below.refl _ _⟩
  replace l2 := Classical.not_not.1 l2
  have d2 : decide (512 < (a.length : Int)) = false := decide_eq_false (by omega)
  have HL1 := Lib.hid l1
  have HL2 := Lib.hid l2
  rw [← l1] at HR' ⊢
  clear l1 l2
  go_enter Try.func22, Try.ntmps22
  go_wp2
  go_loopw [13, 28] (fun x i wr => ∃ k, k ≤ a.length ∧ i = .int .i64 ((k : Nat) : Int) ∧ Hid (allW a b frac bits cut k) ∧ Hid (Below w.heap.size w wr)) (fun _ i _ => a.length - (intOf i).toNat)
  case atStart => exact ⟨0, Nat.zero_le _, rfl, fun j hj => absurd hj (by omega), Below.refl _ _⟩
  case round =>
    rename_i wr
    obtain ⟨k, hk, rfl, HA, HK⟩ := hrel
    by_cases hlt : k < a.length
    · obtain ⟨g, off, rfl, hg, hc⟩ := HR.out.2.2.2 (by omega)
      obtain ⟨g', off', rfl, hg', hc'⟩ := HR'.out.2.2.2 (by omega)
      have hcell : wr.cell? ⟨g, off + k, none⟩ = some (.int .i64 (a.getD k 0)) := by rw [HK.out.cell (p := ⟨g, off + k, none⟩) hg]; exact hc k hlt
      have hcell' : wr.cell? ⟨g', off' + k, none⟩ = some (.int .i64 (b.getD k 0)) := by rw [HK.out.cell (p := ⟨g', off' + k, none⟩) hg']; exact hc' k hlt
      clear hc hc'
      have hk1 := spellD k a.length hlt HN.out
      have HC := Lib.hid (mulOk_any (a.getD k 0) (b.getD k 0) frac bits cut)
      have hbw : g < wr.heap.size := Nat.lt_of_lt_of_le hg HK.out.size
      have hbw' : g' < wr.heap.size := Nat.lt_of_lt_of_le hg' HK.out.size
      cases hq : okB (a.getD k 0) (b.getD k 0) frac bits cut with
      | false =>
        have HZ := Lib.hid (dotM_no (each := false) (fun h : okD a b frac bits cut => by have := h.2.2 k hlt; rw [hq] at this; cases this))
        rw [hq] at HC
        generalize a.getD k 0 = x at hcell HC
        generalize b.getD k 0 = y at hcell' HC
        clear hq
        go_wp2_with fail
        go_region_held3 (fun wx => (∀ z y, z < wr.heap.size → wx.cell? ⟨z, y, none⟩ = wr.cell? ⟨z, y, none⟩) ∧ Below wr.heap.size wr wx)
          (first
            | exact keeps0 _
            | (refine keepsB hbn ?_; assumption))
          (first
            | (go_at_call 44; refine (HC.out _).mono ?_; rintro e w1 ⟨rfl, hbn⟩))
        have HB := Lib.hid (stays_of (by assumption : (∀ z y, z < wr.heap.size → World.cell? _ ⟨z, y, none⟩ = wr.cell? ⟨z, y, none⟩) ∧ Below wr.heap.size wr _))
        go_wp2
        go_ret
        exact ⟨ret_i64 HZ.out.symm, HK.out.trans (HB.out.mono HK.out.size)⟩
      | true =>
        have HX := Lib.hid hq
        rw [hq] at HC
        generalize hxx : a.getD k 0 = x at hcell HC
        generalize hyy : b.getD k 0 = y at hcell' HC
        have HXX := Lib.hid hxx
        have HYY := Lib.hid hyy
        clear hq hxx hyy
        go_wp2_with fail
        go_region_held3 (fun wx => (∀ z y, z < wr.heap.size → wx.cell? ⟨z, y, none⟩ = wr.cell? ⟨z, y, none⟩) ∧ Below wr.heap.size wr wx)
          (first
            | exact keeps0 _
            | (refine keepsB hbn ?_; assumption))
          (first
            | (go_at_call 44; refine (HC.out _).mono ?_; rintro e w1 ⟨rfl, hbn⟩))
        have HB := Lib.hid (stays_of (by assumption : (∀ z y, z < wr.heap.size → World.cell? _ ⟨z, y, none⟩ = wr.cell? ⟨z, y, none⟩) ∧ Below wr.heap.size wr _))
        go_wp2
        go_roundw
        case rel => exact ⟨k + 1, by omega, by rw [hk1], (fun j hj => by
          by_cases e : j = k
          · subst e; exact HX.out
          · exact HA.out j (by omega)), HK.out.trans (HB.out.mono HK.out.size)⟩
        case measure => rw [hk1]; simp only [intOf, Int.toNat_natCast]; omega
    · have hkn : k = a.length := by omega
      subst hkn
      have HK0 := HK
      have HO := Lib.hid (show okD a b frac bits cut from ⟨HL1.out, HL2.out, HA.out⟩)
      go_wp2
      clear HK
      go_loopw [14, 15, 47] (fun s x i wq => ∃ (k : Nat) (wz : World), wz = wq ∧ k ≤ a.length ∧ s = .int .i64 (dS a b k) ∧ i = .int .i64 ((k : Nat) : Int) ∧ Hid (Below w.heap.size w wz)) (fun _ _ i _ => a.length - (intOf i).toNat)
      case atStart => exact ⟨0, _, rfl, Nat.zero_le _, rfl, rfl, HK0.out⟩
      case round =>
        clear HK0
        obtain ⟨k, wq, rfl, hk, rfl, rfl, HK⟩ := hrel
        by_cases hlt : k < a.length
        · obtain ⟨g, off, rfl, hg, hc⟩ := HR.out.2.2.2 (by omega)
          obtain ⟨g', off', rfl, hg', hc'⟩ := HR'.out.2.2.2 (by omega)
          have hcell : wq.cell? ⟨g, off + k, none⟩ = some (.int .i64 (a.getD k 0)) := by rw [HK.out.cell (p := ⟨g, off + k, none⟩) hg]; exact hc k hlt
          have hcell' : wq.cell? ⟨g', off' + k, none⟩ = some (.int .i64 (b.getD k 0)) := by rw [HK.out.cell (p := ⟨g', off' + k, none⟩) hg']; exact hc' k hlt
          clear hc hc'
          have hk1 := spellD k a.length hlt HN.out
          have hbw : g < wq.heap.size := Nat.lt_of_lt_of_le hg HK.out.size
          have hbw' : g' < wq.heap.size := Nat.lt_of_lt_of_le hg' HK.out.size
          obtain ⟨P, g1, g2⟩ := dS_step (a := a) (b := b) (k := k) (fun j hj => HO.out.2.2 j (by omega)) (by have := HL2.out; omega)
          generalize a.getD k 0 = x at hcell g1
          generalize b.getD k 0 = y at hcell' g1
          generalize hq : dS a b (k + 1) = q at g2
          generalize dS a b k = p at g2
          have HX := Lib.hid hq
          clear hq
          go_wp2
          go_quiet (fail)
          go_wp2
          go_roundw
          case rel => exact ⟨k + 1, _, rfl, by omega, by rw [HX.out]; first | done | rw [g2], by rw [hk1], below_drewN HK.out _⟩
          case measure => rw [hk1]; simp only [intOf, Int.toNat_natCast]; omega
        · have hkn : k = a.length := by omega
          subst hkn
          have HZ := Lib.hid (dotM_f HO.out)
          have HM := Lib.hid (iShift_any (dS a b a.length) frac cut)
          have HC := Lib.hid (iClip_any (shf (dS a b a.length) frac cut) bits)
          go_wp2_with (first | (go_at_call 40; (with_reducible refine (HM.out _).mono ?_); rintro e w1 ⟨rfl, hbn⟩; replace HK := Lib.hid (HK.out.trans (hbn.mono HK.out.size)); clear hbn) | (go_at_call 24; (with_reducible refine (HC.out _).mono ?_); rintro e w1 ⟨rfl, hbn⟩; replace HK := Lib.hid (HK.out.trans (hbn.mono HK.out.size)); clear hbn))
          go_ret
          exact ⟨ret_i64 HZ.out.symm, HK.out⟩

end Go.Proofs.Ytihhklfmabencaa
