/-
  The walk of one law on pairs.
-/
import Derived.Test.YtlhiaajacfganaaBe
import Derived.Test.YtlhiaajacfganaaD
namespace Go.Proofs.Ytlhiaajacfganaa
set_option linter.unusedSimpArgs false
set_option linter.unusedVariables false
open Go.RowKit Go.Fl


set_option maxHeartbeats 1600000 in
theorem walk_FnExactDivPair (a b c d : Nat) (w : World) (ha : a < 2 ^ 64) (hb : b < 2 ^ 64) (hc : c < 2 ^ 64) (hd : d < 2 ^ 64) :
    Calls Try.prog 12 #[pr a b, pr c d] w fun e w' => e = .returned (.bool true) ∧ Below w.heap.size w w' := by
  have HA := Lib.hid ha
  have HB := Lib.hid hb
  have HC := Lib.hid hc
  have HD := Lib.hid hd
  clear ha hb hc hd
  go_enter Try.func12, Try.ntmps12
  go_upto_region 1 with fail
  go_cut [5] (fun s wx => PairAt (quoP (a, b) (c, d)) s wx ∧ BoxAt a b w.heap.size wx ∧ BoxAt c d (w.heap.size + 1) wx ∧ Below w.heap.size w wx)
  case first =>
    go_region_held3 (fun wx => (∀ z y, z < ((w.alloc (.cells #[fl a, fl b] 25)).alloc (.cells #[fl c, fl d] 25)).heap.size → wx.cell? ⟨z, y, none⟩ = ((w.alloc (.cells #[fl a, fl b] 25)).alloc (.cells #[fl c, fl d] 25)).cell? ⟨z, y, none⟩) ∧ Below ((w.alloc (.cells #[fl a, fl b] 25)).alloc (.cells #[fl c, fl d] 25)).heap.size ((w.alloc (.cells #[fl a, fl b] 25)).alloc (.cells #[fl c, fl d] 25)) wx)
      (first
        | exact keeps0 _
        | exact keepsA0 _ _
        | (refine keepsA _ ?_; assumption)
        | (refine keepsB hbn ?_; assumption)
        | (refine keepsAB (o := .cells #[.float .f64 0, .float .f64 0] 27) ?_ ?_ <;> first | omega | (simp; done) | (simp; omega) | assumption)
        | (refine keepsS ?_ (keepsS ?_ ?_) <;> first | omega | (simp; done) | (simp; omega) | assumption))
      (first
        | (go_at_call 16; refine (toPair_any _ _ _).mono ?_; rintro e w1 ⟨rfl, hbn⟩; (first | (replace hb1 := chain hb1 hbn; clear hc1 hf1 hm1) | (have hb1 := hbn)); obtain ⟨hc1, hf1⟩ := bcell hb1; have hm1 := blt hb1; have hz1 := hbn.size; (try simp only [World.size_alloc, World.size_drew, World.size_setCell] at hz1))
        | (go_at_call 34; refine (sDivPair_any _ _ _ _ _ HC.out HD.out).mono ?_; rintro e w1 ⟨r, i, rfl, hpe, -, -, hbn⟩; have HPE := Lib.hid hpe; clear hpe; (first | (replace hb1 := chain hb1 hbn; clear hc1 hf1 hm1) | (have hb1 := hbn)); obtain ⟨hc1, hf1⟩ := bcell hb1; have hm1 := blt hb1; have hz1 := hbn.size; (try simp only [World.size_alloc, World.size_drew, World.size_setCell] at hz1)))
    all_goals (go_wp2_with fail; go_meet)
    all_goals (refine ⟨⟨_, _, _, rfl, ?_, ?_, ?_, HPE.out⟩, boxes_of (t := 25) (by assumption)⟩)
    all_goals first | (simp [*, go_sem]; done) | (simp; omega)
  case rest =>
    obtain ⟨hp5, hba, hbc, hw⟩ := hcut
    have hba' := hba
    have hbc' := hbc
    obtain ⟨k1, k2, k3⟩ := hba
    obtain ⟨k4, k5, k6⟩ := hbc
    go_upto_region 2 with fail
    go_cut [6] (fun s wx => PairAt (quoP (a, b) (c, d)) s wx ∧ Below wc.heap.size wc wx)
    case first =>

      go_region_held3 (fun wx => (∀ z y, z < (wc).heap.size → wx.cell? ⟨z, y, none⟩ = (wc).cell? ⟨z, y, none⟩) ∧ Below (wc).heap.size (wc) wx)
        (first
          | exact keeps0 _
          | exact keepsA0 _ _
          | (refine keepsA _ ?_; assumption)
          | (refine keepsB hbn ?_; assumption)
          | (refine keepsAB (o := .cells #[.float .f64 0, .float .f64 0] 27) ?_ ?_ <;> first | omega | (simp; done) | (simp; omega) | assumption)
          | (refine keepsS ?_ (keepsS ?_ ?_) <;> first | omega | (simp; done) | (simp; omega) | assumption))
        (first
          | (go_at_call 16; refine (toPair_any _ _ _).mono ?_; rintro e w1 ⟨rfl, hbn⟩; (first | (replace hb1 := chain hb1 hbn; clear hc1 hf1 hm1) | (have hb1 := hbn)); obtain ⟨hc1, hf1⟩ := bcell hb1; have hm1 := blt hb1; have hz1 := hbn.size; (try simp only [World.size_alloc, World.size_drew, World.size_setCell] at hz1))
          | (go_at_call 35; refine (iDivPair_any _ _ _ _ _ HC.out HD.out).mono ?_; rintro e w1 ⟨r, i, rfl, hpe, -, -, hbn⟩; have HPE := Lib.hid hpe; clear hpe; (first | (replace hb1 := chain hb1 hbn; clear hc1 hf1 hm1) | (have hb1 := hbn)); obtain ⟨hc1, hf1⟩ := bcell hb1; have hm1 := blt hb1; have hz1 := hbn.size; (try simp only [World.size_alloc, World.size_drew, World.size_setCell] at hz1)))
      all_goals (go_wp2_with fail; go_meet)
      all_goals (refine ⟨⟨_, _, _, rfl, ?_, ?_, ?_, HPE.out⟩, stays_of (by assumption)⟩)
      all_goals first | (simp [*, go_sem]; done) | (simp; omega)
    case rest =>
      rename_i wd
      obtain ⟨hp6, hw6⟩ := hcut
      have hp5' := hp5.below hw6
      obtain ⟨g, r, i, rfl, hg, h0, h1, hp⟩ := hp5'
      obtain ⟨g', r', i', rfl, hg', h0', h1', hp'⟩ := hp6
      have HQ := Lib.hid (hp'.trans hp.symm)
      have HB6 := Lib.hid hw6
      have HBw := Lib.hid hw
      clear hp hp' hw6 hw hp5 hba' hbc' k1 k2 k3 k4 k5 k6
      go_wp2_with fail
      refine (eqPair_any _ _ _ _ HQ.out _).mono ?_
      rintro e w3 ⟨rfl, hb3⟩
      go_wp2_with fail
      go_ret
      exact ⟨rfl, (HBw.out.trans (HB6.out.mono HBw.out.size)).trans (hb3.mono (Nat.le_trans HBw.out.size HB6.out.size))⟩

end Go.Proofs.Ytlhiaajacfganaa