/-
  The walk of the law FnFixed: whatever is drawn, it returns true.
-/
import Derived.Test.YtihhklfmabencaaDd
import Derived.Test.YtihhklfmabencaaDots
namespace Go.Proofs.Ytihhklfmabencaa
set_option linter.unusedSimpArgs false
set_option linter.unusedVariables false
open Go.RowKit Go.Dr

theorem clp_clp (x b : Int) : clp (clp x b) b = clp x b := by
  unfold clp
  split
  · rename_i h
    have hp : (0 : Int) < 2 ^ (b - 1).toNat := Int.pow_pos (by decide)
    generalize (2 : Int) ^ (b - 1).toNat = D at *
    (repeat' split) <;> omega
  · rfl
theorem clp_mul (a b frac bits cut : Int) : clp (mulM a b frac bits cut) bits = mulM a b frac bits cut := by
  unfold mulM
  split
  · exact clp_clp _ _
  · exact clp0 _
theorem clp_dot (a b : List Int) (frac bits cut : Int) (e : Bool) : clp (dotM a b frac bits cut e) bits = dotM a b frac bits cut e := by
  by_cases h : okD a b frac bits cut
  · cases e with
    | true =>
      rw [dotM_t h]
      cases a.length with
      | zero => exact clp0 _
      | succ k => exact clp_clp _ _
    | false => rw [dotM_f h]; exact clp_clp _ _
  · rw [dotM_no h]; exact clp0 _
theorem dot_one {a b : List Int} (ha : a.length = 1) (hb : b.length = 1) (frac bits cut : Int) (e : Bool) : dotM a b frac bits cut e = mulM (a.getD 0 0) (b.getD 0 0) frac bits cut := by
  by_cases h : okB (a.getD 0 0) (b.getD 0 0) frac bits cut = true
  · have hd : okD a b frac bits cut := ⟨by omega, by omega, fun j hj => by
      have e0 : j = 0 := (by omega)
      subst e0
      exact h⟩
    cases e with
    | true =>
      rw [dotM_t hd, ha]
      show clp (0 + mulM _ _ _ _ _) bits = _
      rw [Int.zero_add]; exact clp_mul _ _ _ _ _
    | false =>
      have hw := word_le h
      have hp := prod_le hw.1 hw.2
      rw [dotM_f hd, ha, mulM_yes h]
      show clp (shf (0 + _ * _) frac cut) bits = _
      rw [Int.zero_add, wrap_id (by omega) (by omega)]
  · have hn : ¬ okD a b frac bits cut := fun g => h (g.2.2 0 (by omega))
    rw [dotM_no hn, mulM_no (by simpa using h)]

set_option maxHeartbeats 3200000 in
theorem walk_FnFixed (A : Option Addr) (n c : Nat) (xs : List Int) (w : World) (h : IRow .u8 w A n c xs ∧ ∀ n ∈ xs, (Lit.int .u8 n).wf = true) :
    Calls Try.prog 6 #[.slice A n c] w fun e w' => e = .returned (.bool true) ∧ Below w.heap.size w w' := by
  have HH := Lib.hid h.1
  clear h
  have HG := Lib.hid (big_any A n c)
  by_cases hn : (n : Int) > 1048576
  · have d : decide ((n : Int) > 1048576) = true := decide_eq_true hn
    rw [d] at HG
    clear hn
    go_enter Try.func6, Try.ntmps6
    go_wp2_with (go_at_call 7; (with_reducible refine (HG.out _).mono ?_); rintro e w1 ⟨rfl, hbn⟩; have HW := Lib.hid hbn; clear hbn)
    go_ret
    exact ⟨rfl, HW.out⟩
  · have d : decide ((n : Int) > 1048576) = false := decide_eq_false hn
    rw [d] at HG
    have HN := Lib.hid (show n ≤ 1048576 by omega)
    have q1 : mulM 100 100 4 8 1 = 127 := by decide +kernel
    have q2 : clp (-200) 8 = -128 := by decide +kernel
    clear hn
    go_enter Try.func6, Try.ntmps6
    go_wp2_with (first
      | (go_at_call 7; (with_reducible refine (HG.out _).mono ?_); rintro e w1 ⟨rfl, hbn⟩; have HW := Lib.hid hbn; clear hbn)
      | (go_at_call 21; (with_reducible refine (sDrawDot _ _ _ _ _ (HH.out.below HW.out) HN.out).mono ?_); rintro e w1 ⟨A1, n1, c1, la, A2, n2, c2, lb, f, b, cut, q, rfl, ha, hbb, hn1, hn2, hb⟩; have HA := Lib.hid ha; have HB := Lib.hid hbb; replace HW := Lib.hid (HW.out.trans (hb.mono HW.out.size)); have HX := Lib.hid (show n1 ≤ 1048576 by omega); have k1 := clp_dot la lb f b cut true; have k2 := clp_dot la lb f b cut false; have HE := Lib.hid (fun (h1 : la.length = 1) (h2 : lb.length = 1) (e : Bool) => dot_one h1 h2 f b cut e); clear ha hbb hn1 hn2 hb; (by_cases e1 : n1 = 1) <;> (by_cases e2 : n2 = 1) <;> (first | (subst e1; subst e2) | (subst e1; have t2 : ((n2 : Int) == 1) = false := (by simp; omega); clear e2) | (have t1 : ((n1 : Int) == 1) = false := (by simp; omega); clear e1 e2)))
      | (go_at_call 22; (with_reducible refine (iDotFix_o _ _ _ _ _ _ _ _ _ _ _ _ HA.out HB.out HX.out).mono ?_); rintro e w1 ⟨rfl, hb⟩; (try replace HA := Lib.hid (HA.out.below hb)); (try replace HB := Lib.hid (HB.out.below hb)); replace HW := Lib.hid (HW.out.trans (hb.mono HW.out.size)); clear hb)
      | (go_at_call 22; (with_reducible refine (iDotFix_e _ _ _ _ _ _ _ _ _ _ _ _ HA.out HB.out HX.out).mono ?_); rintro e w1 ⟨rfl, hb⟩; (try replace HA := Lib.hid (HA.out.below hb)); (try replace HB := Lib.hid (HB.out.below hb)); replace HW := Lib.hid (HW.out.trans (hb.mono HW.out.size)); clear hb)
      | (go_at_call 23; (with_reducible refine (sDotFix_o _ _ _ _ _ _ _ _ _ _ _ _ HA.out HB.out HX.out).mono ?_); rintro e w1 ⟨rfl, hb⟩; (try replace HA := Lib.hid (HA.out.below hb)); (try replace HB := Lib.hid (HB.out.below hb)); replace HW := Lib.hid (HW.out.trans (hb.mono HW.out.size)); clear hb)
      | (go_at_call 23; (with_reducible refine (sDotFix_e _ _ _ _ _ _ _ _ _ _ _ _ HA.out HB.out HX.out).mono ?_); rintro e w1 ⟨rfl, hb⟩; (try replace HA := Lib.hid (HA.out.below hb)); (try replace HB := Lib.hid (HB.out.below hb)); replace HW := Lib.hid (HW.out.trans (hb.mono HW.out.size)); clear hb)
      | (go_at_call 24; (with_reducible refine (iClip_any _ _ _).mono ?_); rintro e w1 ⟨rfl, hb⟩; (try replace HA := Lib.hid (HA.out.below hb)); (try replace HB := Lib.hid (HB.out.below hb)); replace HW := Lib.hid (HW.out.trans (hb.mono HW.out.size)); clear hb)
      | (go_at_call 25; (with_reducible refine (iMulFix_any _ _ _ _ _ _).mono ?_); rintro e w1 ⟨rfl, hb⟩; (first | (replace HW := Lib.hid (HW.out.trans (hb.mono HW.out.size))) | (replace HW := Lib.hid (HW.out.drew.trans (hb.mono HW.out.size)))); clear hb))
    all_goals first
      | (go_ret; exact ⟨rfl, HW.out⟩)
      | (obtain ⟨g, off, rfl, hg, hc⟩ := HA.out.2.2.2 (by omega)
         obtain ⟨g', off', rfl, hg', hc'⟩ := HB.out.2.2.2 (by omega)
         have hcell := hc 0 (by omega)
         have hcell' := hc' 0 (by omega)
         rw [Nat.add_zero] at hcell hcell'
         clear hc hc'
         have x1 := HE.out HA.out.1 HB.out.1 true
         have x2 := HE.out HA.out.1 HB.out.1 false
         go_region_with ((go_at_call 25; (with_reducible refine (iMulFix_any _ _ _ _ _ _).mono ?_); rintro e w1 ⟨rfl, hb⟩; (first | (replace HW := Lib.hid (HW.out.trans (hb.mono HW.out.size))) | (replace HW := Lib.hid (HW.out.drew.trans (hb.mono HW.out.size)))); clear hb))
         all_goals go_wp2_with (first | (go_at_call 24; (with_reducible refine (iClip_any _ _ _).mono ?_); rintro e w1 ⟨rfl, hb⟩; (try replace HA := Lib.hid (HA.out.below hb)); (try replace HB := Lib.hid (HB.out.below hb)); replace HW := Lib.hid (HW.out.trans (hb.mono HW.out.size)); clear hb) | (go_at_call 25; (with_reducible refine (iMulFix_any _ _ _ _ _ _).mono ?_); rintro e w1 ⟨rfl, hb⟩; (first | (replace HW := Lib.hid (HW.out.trans (hb.mono HW.out.size))) | (replace HW := Lib.hid (HW.out.drew.trans (hb.mono HW.out.size)))); clear hb))
         all_goals go_ret
         all_goals exact ⟨rfl, by first | exact HW.out | exact below_drewN HW.out _⟩)
end Go.Proofs.Ytihhklfmabencaa
