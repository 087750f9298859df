/-
  The walk of the law PolyPair: for every list of pairs and every pair it returns true.
-/
import Derived.Test.YthoajaibaedjeaaPp
namespace Go.Proofs.Ythoajaibaedjeaa
set_option linter.unusedSimpArgs false
set_option linter.unusedVariables false
open Go.RowKit Go.Fl

theorem prow_of {w : World} {g n : Nat} {ps : List (Nat × Nat)} (h : ps.length = n) (hn : n ≤ 1048576) (hf : PB w g ps) : PRow w (some ⟨g, 0, none⟩) n n ps := by
  subst h; exact PBlk.row hf hn

set_option maxHeartbeats 1600000 in
theorem walk_FnExactPolyPair (A : Option Addr) (n c : Nat) (ps : List (Nat × Nat)) (a b : Nat) (w : World) (h : PRow w A n c ps ∧ ∀ p ∈ ps, p.1 < 2 ^ 64 ∧ p.2 < 2 ^ 64) (ha : a < 2 ^ 64) (hb : b < 2 ^ 64) :
    Calls Try.prog 7 #[.slice A n c, pr a b] w fun e w' => e = .returned (.bool true) ∧ Below w.heap.size w w' := by
  clear ha hb
  by_cases hn : n ≤ 1048576
  · have HN := Lib.hid hn
    have HX := Lib.hid h.1.1
    have HBD := Lib.hid h.2
    have HR := Lib.hid h.1
    have hd : decide (1048576 - (n : Int) < 0) = false := decide_eq_false (by omega)
    clear h hn
    go_enter Try.func7, Try.ntmps7
    go_upto_region 5 with ((go_at_call 30; (with_reducible refine (sz_any _ _ _ _ HN.out).mono ?_); rintro e w1 ⟨rfl, rfl⟩))
    have HW := Lib.hid (show Below w.heap.size w (w.alloc (.cells #[fl a, fl b] 24)) from (Below.refl _ _).alloc (Nat.le_refl _) _)
    have HBX := Lib.hid (show BoxAt a b w.heap.size (w.alloc (.cells #[fl a, fl b] 24)) from ⟨by simp, by simp [go_sem], by simp [go_sem]⟩)
    go_cut [6] (fun s wx => PairAt (polyP ps (a, b)) s wx ∧ Below (w.alloc (.cells #[fl a, fl b] 24)).heap.size (w.alloc (.cells #[fl a, fl b] 24)) wx)
    case first =>
      go_region_held3 (fun wx => (∀ z y, z < (w.alloc (.cells #[fl a, fl b] 24)).heap.size → wx.cell? ⟨z, y, none⟩ = (w.alloc (.cells #[fl a, fl b] 24)).cell? ⟨z, y, none⟩) ∧ Below (w.alloc (.cells #[fl a, fl b] 24)).heap.size (w.alloc (.cells #[fl a, fl b] 24)) wx)
        (first
          | exact keeps0 _
          | exact keepsA0 _ _
          | (refine keepsA _ ?_; assumption)
          | (refine keepsB hbn ?_; assumption)
          | (refine keepsAB (o := .cells #[.float .f64 0, .float .f64 0] 25) ?_ ?_ <;> first | omega | (simp; done) | (simp; omega) | assumption)
          | (refine keepsS ?_ (keepsS ?_ ?_) <;> first | omega | (simp; done) | (simp; omega) | assumption))
        (first
          | (go_at_call 12; refine (toPair_any _ _ _).mono ?_; rintro e w1 ⟨rfl, hbn⟩; (first | (replace hb1 := chain hb1 hbn; clear hc1 hf1 hm1) | (have hb1 := hbn)); (try (replace R1 := Lib.hid (show PRow w1 _ n n ps from by first | exact R1.out.below hbn | exact (R1.out.below ((Below.refl _ _).alloc (Nat.le_refl _) _)).below hbn))); obtain ⟨hc1, hf1⟩ := bcell hb1; have hm1 := blt hb1; have hz1 := hbn.size; (try simp only [World.size_alloc, World.size_drew, World.size_setCell] at hz1))
          | (go_at_call 32; refine (toPairS_any A n c ps _ (HR.out.below ?_) HN.out).mono ?_; (first | exact HW.out.drew | (exact HW.out.trans (hb1.mono (by simp))) | exact (HW.out.alloc (by simp) _).drew | exact HW.out.drew.alloc (by simp) _ | exact (HW.out.trans (hb1.mono (by simp))).alloc (HW.out.trans (hb1.mono (by simp))).size _); rintro e w1 ⟨g1, rfl, hg1, hpb, hbn⟩; rw [HX.out]; have R1 := Lib.hid (prow_of HX.out HN.out hpb); clear hpb; (first | (replace hb1 := chain hb1 hbn; clear hc1 hf1 hm1) | (have hb1 := hbn)); obtain ⟨hc1, hf1⟩ := bcell hb1; have hm1 := blt hb1; have hz1 := hbn.size; (try simp only [World.size_alloc, World.size_drew, World.size_setCell] at hz1))
          | (go_at_call 31; refine (sPolyPair_any _ _ _ ps (a, b) _ ?_ HN.out HBD.out).mono ?_; (first | exact R1.out | exact R1.out.below ((Below.refl _ _).alloc (Nat.le_refl _) _)); rintro e w1 ⟨r, i, rfl, hpe, -, -, hbn⟩; have HPE := Lib.hid hpe; clear hpe; (first | (replace hb1 := chain hb1 hbn; clear hc1 hf1 hm1) | (have hb1 := hbn)); obtain ⟨hc1, hf1⟩ := bcell hb1; have hm1 := blt hb1; have hz1 := hbn.size; (try simp only [World.size_alloc, World.size_drew, World.size_setCell] at hz1)))
      all_goals (go_wp2_with fail; go_meet)
      all_goals (refine ⟨⟨_, _, _, rfl, ?_, ?_, ?_, HPE.out⟩, stays_of (by assumption)⟩)
      all_goals first | (simp [*, go_sem]; done) | (simp; omega)
    case rest =>
      obtain ⟨hp6, hwx⟩ := hcut
      have HW6 := Lib.hid hwx
      have Y6 := Lib.hid (HW.out.trans (hwx.mono (by simp)))
      have X6 := Lib.hid (HBX.out.below hwx)
      obtain ⟨g6, r, i, rfl, hg6, h0, h1, hp⟩ := hp6
      have HP := Lib.hid hp
      have K6 := Lib.hid (And.intro hg6 (And.intro h0 h1))
      clear hp hwx h0 h1 hg6
      go_wp2_with fail
      refine (toPairS_any A n c ps _ (HR.out.below Y6.out) HN.out).mono ?_
      rintro e w7 ⟨g7, rfl, hg7, hpb, hb7⟩
      rw [HX.out]
      have R7 := Lib.hid (prow_of HX.out HN.out hpb)
      have Y7 := Lib.hid (Y6.out.trans (hb7.mono Y6.out.size))
      have X7 := Lib.hid (X6.out.below hb7)
      have K7 := Lib.hid (show g6 < w7.heap.size ∧ w7.cell? ⟨g6, 0, none⟩ = some (fl r) ∧ w7.cell? ⟨g6, 1, none⟩ = some (fl i) from ⟨Nat.lt_of_lt_of_le K6.out.1 hb7.size, by rw [(bcell hb7).1 _ _ K6.out.1]; exact K6.out.2.1, by rw [(bcell hb7).1 _ _ K6.out.1]; exact K6.out.2.2⟩)
      obtain ⟨x0, x1, x2⟩ := X7.out
      clear hpb hb7
      go_wp2_with fail
      refine (toPair_any _ _ _).mono ?_
      rintro e w8 ⟨rfl, hb8⟩
      have R8 := Lib.hid (R7.out.below hb8)
      have Y8 := Lib.hid (Y7.out.trans (hb8.mono Y7.out.size))
      have K8 := Lib.hid (show g6 < w8.heap.size ∧ w8.cell? ⟨g6, 0, none⟩ = some (fl r) ∧ w8.cell? ⟨g6, 1, none⟩ = some (fl i) from ⟨Nat.lt_of_lt_of_le K7.out.1 hb8.size, by rw [(bcell hb8).1 _ _ K7.out.1]; exact K7.out.2.1, by rw [(bcell hb8).1 _ _ K7.out.1]; exact K7.out.2.2⟩)
      clear hb8 x0 x1 x2
      go_wp2_with fail
      refine (iPolyPair_any _ _ _ ps (a, b) _ R8.out HN.out HBD.out).mono ?_
      rintro e w9 ⟨r', i', rfl, hp', -, -, hb9⟩
      have HQ := Lib.hid (hp'.trans HP.out.symm)
      have R9 := Lib.hid (R8.out.below hb9)
      have Y9 := Lib.hid (Y8.out.trans (hb9.mono Y8.out.size))
      have k0 : w9.cell? ⟨g6, 0, none⟩ = some (fl r) := by rw [(bcell hb9).1 _ _ K8.out.1]; exact K8.out.2.1
      have k1 : w9.cell? ⟨g6, 1, none⟩ = some (fl i) := by rw [(bcell hb9).1 _ _ K8.out.1]; exact K8.out.2.2
      have hl9 : g6 < w9.heap.size := Nat.lt_of_lt_of_le K8.out.1 hb9.size
      have hn9 : g6 ≠ w9.heap.size := by omega
      clear hp' hb9
      go_wp2_with fail
      refine (eqPair_any _ _ _ _ HQ.out _).mono ?_
      rintro e wa ⟨rfl, hba⟩
      have Ra := Lib.hid ((R9.out.below ((Below.refl _ _).alloc (Nat.le_refl _) _)).below hba)
      have Ya := Lib.hid ((Y9.out.alloc Y9.out.size _).trans (hba.mono (by simp; have := Y9.out.size; omega)))
      clear hba k0 k1
      go_wp2_with fail
      refine (toPairS_any A n c ps _ (HR.out.below Ya.out) HN.out).mono ?_
      rintro e wb ⟨gb, rfl, hgb, hpb, hbb⟩
      rw [HX.out]
      have Rb := Lib.hid (prow_of HX.out HN.out hpb)
      have Rc := Lib.hid (Ra.out.below hbb)
      have Yb := Lib.hid (Ya.out.trans (hbb.mono Ya.out.size))
      clear hpb hbb
      go_wp2_with fail
      refine (eqPairS_any _ _ _ _ _ _ ps ps _ Rc.out Rb.out (pleq.refl _) HN.out).mono ?_
      rintro e wd ⟨rfl, hbd⟩
      have Yd := Lib.hid (Yb.out.trans (hbd.mono Yb.out.size))
      clear hbd
      go_wp2_with fail
      go_ret
      exact ⟨rfl, Yd.out⟩
  · have HN := Lib.hid (show 1048576 < n by omega)
    have HM := Lib.hid (show n ≤ maxLen from Nat.le_trans h.1.2.1 h.1.2.2.1)
    clear h hn
    go_enter Try.func7, Try.ntmps7
    go_wp2_with ((go_at_call 30; (with_reducible refine (sz_big _ _ _ _ HN.out HM.out).mono ?_); rintro e w1 ⟨rfl, rfl⟩))
    go_ret
    exact ⟨rfl, (Below.refl _ _).alloc (Nat.le_refl _) _⟩
end Go.Proofs.Ythoajaibaedjeaa
