/-
  Contracts of the quotient of two pairs and of the exact sum, of the program and of the reference.
-/
import Derived.Test.YtlhiaajacfganaaBe
namespace Go.Proofs.Ytlhiaajacfganaa
set_option linter.unusedSimpArgs false
set_option linter.unusedVariables false
open Go.RowKit Go.Fl

set_option maxHeartbeats 1600000 in
theorem sDivPair_any (a b c d : Nat) (w : World) (hc : c < 2 ^ 64) (hd : d < 2 ^ 64) :
    Calls Try.prog 34 #[pr a b, pr c d] w (RetP (quoP (a, b) (c, d)) w.heap.size w) := by
  have HC := Lib.hid hc
  have HD := Lib.hid hd
  clear hc hd
  go_enter Try.func34, Try.ntmps34
  go_wp2_with fail
  refine (sPower2_any _ _ _).mono ?_
  rintro e w0 ⟨p, rfl, hp, -, hb0⟩
  have HP := Lib.hid hp
  clear hp
  have hbox : BoxAt a b w.heap.size w0 ∧ BoxAt c d (w.heap.size + 1) w0 ∧ BoxAt 0 0 (w.heap.size + 1 + 1) w0 ∧ Below w.heap.size w w0 ∧ (∀ j, w0.frozen? ⟨w.heap.size + 1 + 1, j, none⟩ = false) := by
    refine ⟨BoxAt.below ⟨by simp; omega, by simp [go_sem], by simp [go_sem]⟩ hb0, BoxAt.below ⟨by simp, by simp [go_sem], by simp [go_sem]⟩ hb0, BoxAt.below ⟨by simp, by simp [go_sem], by simp [go_sem]⟩ hb0,
      ((((Below.refl _ _).alloc (Nat.le_refl _) _).alloc (by simp) _).alloc (by simp; omega) _).trans (hb0.mono (by simp; omega)), fun j => ?_⟩
    rw [hb0.frozen (p := ⟨w.heap.size + 1 + 1, j, none⟩) (by simp)]
    simp [go_sem]
  obtain ⟨⟨k1, k2, k3⟩, ⟨k4, k5, k6⟩, ⟨k7, k8, k9⟩, hw, hfz⟩ := hbox
  have HW := Lib.hid hw
  clear hw hb0
  go_upto_region 2 with fail
  go_cut [6] (fun s wx => PairAt (mulP (a, b) (barP (c, d))) s wx ∧ Below w0.heap.size w0 wx)
  case first =>
    go_region_held3 (fun wx => (∀ z y, z < w0.heap.size → wx.cell? ⟨z, y, none⟩ = w0.cell? ⟨z, y, none⟩) ∧ Below w0.heap.size w0 wx)
      (first
        | exact keeps0 _
        | exact keepsA0 _ _
        | (refine keepsA _ ?_; assumption)
        | (refine keepsB hbn ?_; assumption)
        | (refine keepsAB (o := .cells #[.float .f64 0, .float .f64 0] 27) ?_ ?_ <;> first | omega | (simp; done) | (simp; omega) | assumption)
        | (refine keepsS ?_ (keepsS ?_ ?_) <;> first | omega | (simp; done) | (simp; omega) | assumption))
      (first
        | (go_at_call 25; refine (sBar_any _ _ _ HC.out HD.out).mono ?_; rintro e w1 ⟨r0, i0, rfl, hpe0, -, -, hbn⟩; have HPE0 := Lib.hid hpe0; clear hpe0; (first | (replace hb1 := chain hb1 hbn; clear hc1 hf1 hm1) | (have hb1 := hbn)); obtain ⟨hc1, hf1⟩ := bcell hb1; have hm1 := blt hb1; have hz1 := hbn.size; (try simp only [World.size_alloc, World.size_drew, World.size_setCell] at hz1))
        | (go_at_call 32; refine (sMulPair_any _ _ _ _ _).mono ?_; rintro e w1 ⟨r, i, rfl, hpe, -, -, hbn⟩; have HPE := Lib.hid hpe; clear hpe; (first | (replace hb1 := chain hb1 hbn; clear hc1 hf1 hm1) | (have hb1 := hbn)); obtain ⟨hc1, hf1⟩ := bcell hb1; have hm1 := blt hb1; have hz1 := hbn.size; (try simp only [World.size_alloc, World.size_drew, World.size_setCell] at hz1)))
    all_goals (go_wp2_with fail; go_meet)
    all_goals (refine ⟨⟨_, _, _, rfl, ?_, ?_, ?_, HPE.out.trans (by rw [mulP_of (peq.refl _) HPE0.out]; exact peq.refl _)⟩, stays_of (by assumption)⟩)
    all_goals first | (simp [*, go_sem]; done) | (simp; omega)
  case rest =>

    obtain ⟨⟨g, r, i, rfl, hg, h0, h1, hp⟩, hwd⟩ := hcut
    obtain ⟨hc1, hf1⟩ := bcell hwd
    have hm1 := hwd.size
    have HQ := Lib.hid hp
    have HWD := Lib.hid hwd
    clear hp hwd
    go_wp2
    refine bodyPost_ret (v := .agg #[.float .f64 _, .float .f64 _]) (by simp [results, Try.results34, go_sem, hc1, k7, k8, k9]; exact ⟨rfl, rfl⟩) rfl ⟨_, _, rfl, ⟨?_, ?_⟩, fres_lt _ _ _ _, fres_lt _ _ _ _, ?_⟩
    · exact fres_cop _ _ HQ.out.1 HP.out
    · exact fres_cop _ _ HQ.out.2 HP.out
    · have hbase : Below w.heap.size w wc := HW.out.trans (HWD.out.mono HW.out.size)
      repeat' (first | (with_reducible exact Below.refl _ _) | (with_reducible assumption) | (with_reducible refine below_drewN ?_ _) | (with_reducible refine Below.drew ?_) | (with_reducible refine Below.alloc ?_ ?_ _) | (with_reducible refine Below.setCell ?_ ?_ _) | (simp; done) | (simp; omega))

set_option maxHeartbeats 1600000 in
theorem iDivPair_any (a b c d : Nat) (w : World) (hc : c < 2 ^ 64) (hd : d < 2 ^ 64) :
    Calls Try.prog 35 #[pr a b, pr c d] w (RetP (quoP (a, b) (c, d)) w.heap.size w) := by
  have HC := Lib.hid hc
  have HD := Lib.hid hd
  clear hc hd
  go_enter Try.func35, Try.ntmps35
  go_wp2_with fail
  refine (iPower2_any _ _ _).mono ?_
  rintro e w0 ⟨p, rfl, hp, -, hb0⟩
  have HP := Lib.hid hp
  clear hp
  have hbox : BoxAt a b w.heap.size w0 ∧ BoxAt c d (w.heap.size + 1) w0 ∧ BoxAt 0 0 (w.heap.size + 1 + 1) w0 ∧ Below w.heap.size w w0 ∧ (∀ j, w0.frozen? ⟨w.heap.size + 1 + 1, j, none⟩ = false) := by
    refine ⟨BoxAt.below ⟨by simp; omega, by simp [go_sem], by simp [go_sem]⟩ hb0, BoxAt.below ⟨by simp, by simp [go_sem], by simp [go_sem]⟩ hb0, BoxAt.below ⟨by simp, by simp [go_sem], by simp [go_sem]⟩ hb0,
      ((((Below.refl _ _).alloc (Nat.le_refl _) _).alloc (by simp) _).alloc (by simp; omega) _).trans (hb0.mono (by simp; omega)), fun j => ?_⟩
    rw [hb0.frozen (p := ⟨w.heap.size + 1 + 1, j, none⟩) (by simp)]
    simp [go_sem]
  obtain ⟨⟨k1, k2, k3⟩, ⟨k4, k5, k6⟩, ⟨k7, k8, k9⟩, hw, hfz⟩ := hbox
  have HW := Lib.hid hw
  clear hw hb0
  go_upto_region 2 with fail
  go_cut [6] (fun s wx => PairAt (mulP (a, b) (barP (c, d))) s wx ∧ Below w0.heap.size w0 wx)
  case first =>
    go_region_held3 (fun wx => (∀ z y, z < w0.heap.size → wx.cell? ⟨z, y, none⟩ = w0.cell? ⟨z, y, none⟩) ∧ Below w0.heap.size w0 wx)
      (first
        | exact keeps0 _
        | exact keepsA0 _ _
        | (refine keepsA _ ?_; assumption)
        | (refine keepsB hbn ?_; assumption)
        | (refine keepsAB (o := .cells #[.float .f64 0, .float .f64 0] 27) ?_ ?_ <;> first | omega | (simp; done) | (simp; omega) | assumption)
        | (refine keepsS ?_ (keepsS ?_ ?_) <;> first | omega | (simp; done) | (simp; omega) | assumption))
      (first
        | (go_at_call 26; refine (iBar_any _ _ _ HC.out HD.out).mono ?_; rintro e w1 ⟨r0, i0, rfl, hpe0, -, -, hbn⟩; have HPE0 := Lib.hid hpe0; clear hpe0; (first | (replace hb1 := chain hb1 hbn; clear hc1 hf1 hm1) | (have hb1 := hbn)); obtain ⟨hc1, hf1⟩ := bcell hb1; have hm1 := blt hb1; have hz1 := hbn.size; (try simp only [World.size_alloc, World.size_drew, World.size_setCell] at hz1))
        | (go_at_call 33; refine (iMulPair_any _ _ _ _ _).mono ?_; rintro e w1 ⟨r, i, rfl, hpe, -, -, hbn⟩; have HPE := Lib.hid hpe; clear hpe; (first | (replace hb1 := chain hb1 hbn; clear hc1 hf1 hm1) | (have hb1 := hbn)); obtain ⟨hc1, hf1⟩ := bcell hb1; have hm1 := blt hb1; have hz1 := hbn.size; (try simp only [World.size_alloc, World.size_drew, World.size_setCell] at hz1)))
    all_goals (go_wp2_with fail; go_meet)
    all_goals (refine ⟨⟨_, _, _, rfl, ?_, ?_, ?_, HPE.out.trans (by rw [mulP_of (peq.refl _) HPE0.out]; exact peq.refl _)⟩, stays_of (by assumption)⟩)
    all_goals first | (simp [*, go_sem]; done) | (simp; omega)
  case rest =>

    obtain ⟨⟨g, r, i, rfl, hg, h0, h1, hp⟩, hwd⟩ := hcut
    obtain ⟨hc1, hf1⟩ := bcell hwd
    have hm1 := hwd.size
    have HQ := Lib.hid hp
    have HWD := Lib.hid hwd
    clear hp hwd
    go_wp2
    refine bodyPost_ret (v := .agg #[.float .f64 _, .float .f64 _]) (by simp [results, Try.results35, go_sem, hc1, k7, k8, k9]; exact ⟨rfl, rfl⟩) rfl ⟨_, _, rfl, ⟨?_, ?_⟩, fres_lt _ _ _ _, fres_lt _ _ _ _, ?_⟩
    · exact fres_cop _ _ HQ.out.1 HP.out
    · exact fres_cop _ _ HQ.out.2 HP.out
    · have hbase : Below w.heap.size w wc := HW.out.trans (HWD.out.mono HW.out.size)
      repeat' (first | (with_reducible exact Below.refl _ _) | (with_reducible assumption) | (with_reducible refine below_drewN ?_ _) | (with_reducible refine Below.drew ?_) | (with_reducible refine Below.alloc ?_ ?_ _) | (with_reducible refine Below.setCell ?_ ?_ _) | (simp; done) | (simp; omega))

end Go.Proofs.Ytlhiaajacfganaa
