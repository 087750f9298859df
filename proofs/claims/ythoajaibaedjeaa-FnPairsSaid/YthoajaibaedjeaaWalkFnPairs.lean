/-
  The walk of FnPairs.
-/
import Derived.Test.YthoajaibaedjeaaDpq
import Derived.Test.YthoajaibaedjeaaPlp
namespace Go.Proofs.Ythoajaibaedjeaa
set_option linter.unusedSimpArgs false
set_option linter.unusedVariables false
open Go.RowKit Go.Dr
open Go.Fl (fl pr fres fdr fres_lt feq peq bcell blt mulP sumP barP difP isNan ford chain keeps0 keepsA keepsA0 keepsB keepsAB keepsS keepsD stays_of)

/-- A slot that points to the pair v. -/
def At (v : Nat × Nat) (s : Value) (w : World) : Prop := ∃ g, s = .pointer (some ⟨g, 0, none⟩) ∧ Fl.BoxAt v.1 v.2 g w
theorem step (W : World) (o : Obj) : Below W.heap.size W (W.alloc o) := (Below.refl _ _).alloc (Nat.le_refl _) o
theorem box_new (a b : Nat) (W : World) (t : TypeId) {g : Nat} (hg : g = W.heap.size) : Fl.BoxAt a b g (W.alloc (.cells #[fl a, fl b] t)) := by
  subst hg
  exact ⟨(Blk.new W t _).lt, (Blk.new W t _).cell 0, (Blk.new W t _).cell 1⟩
theorem sub_zero {a u v x : Nat} (h : peq (u, v) (difP (a, x) (a, x))) (h0 : floatBits .sub .f64 a a = some 0) (h1 : floatBits .sub .f64 x x = some 0) : u = 0 ∧ v = 0 := by
  have e0 : Fl.cop .sub a a = 0 := by unfold Fl.cop; rw [h0]
  have e1 : Fl.cop .sub x x = 0 := by unfold Fl.cop; rw [h1]
  have k0 : feq u (Fl.cop .sub a a) := h.1
  have k1 : feq v (Fl.cop .sub x x) := h.2
  rw [e0] at k0
  rw [e1] at k1
  exact ⟨Fl.feq_num k0 (by decide), Fl.feq_num k1 (by decide)⟩
theorem i_sq {u v : Nat} (h : peq (u, v) (mulP (0, 4607182418800017408) (0, 4607182418800017408))) : u = 13830554455654793216 ∧ v = 0 := by
  rw [Fl.i_square] at h
  exact ⟨Fl.feq_num h.1 (by decide), Fl.feq_num h.2 (by decide)⟩
def Lt2 (v : Nat × Nat) : Prop := v.1 < 2 ^ 64 ∧ v.2 < 2 ^ 64
/-- Two pairs drawn and their product. -/
def Sp3 (w : World) (s3 s4 s5 : Value) (wx : World) : Prop :=
  ∃ a b p, Lt2 a ∧ Lt2 b ∧ Lt2 p ∧ peq p (mulP a b) ∧ At a s3 wx ∧ At b s4 wx ∧ At p s5 wx ∧ Below w.heap.size w wx
/-- What a word less itself gives: 0, or a NaN. -/
theorem sub_self (a : Nat) : (floatBits .sub .f64 a a = some 0 ∧ fdr .sub a a = 0 ∧ ∀ W, fres .sub a a W = 0) ∨ (∀ W, FloatKind.f64.format.order (fres .sub a a W) 0 = none) := by
  rcases Fl.sub_self_cases a with h | h
  · exact .inl ⟨h, Fl.fdr_some h, fun W => Fl.fres_some h W⟩
  · refine .inr fun W => Fl.ford_nan_left ?_ _
    have := Fl.fres_spec .sub a a W
    rw [h] at this
    exact this

set_option maxRecDepth 8000 in
set_option maxHeartbeats 1600000 in
theorem walk_FnPairs (A : Option Addr) (n c : Nat) (xs : List Int) (w : World) (h : IRow .u8 w A n c xs ∧ ∀ n ∈ xs, (Lit.int .u8 n).wf = true) :
    Calls Try.prog 4 #[.slice A n c] w fun e w' => e = .returned (.bool true) ∧ Below w.heap.size w w' := by
  have HH := Lib.hid h.1
  clear h
  have HG := Lib.hid (big_any A n c)
  by_cases hn : (n : Int) > 1048576
  · have d : decide ((n : Int) > 1048576) = true := decide_eq_true hn
    rw [d] at HG
    clear hn
    go_enter Try.func4, Try.ntmps4
    go_wp2_with ((go_at_call 15; (with_reducible refine (HG.out _).mono ?_); rintro e w1 ⟨rfl, hbn⟩; have HB1 := Lib.hid hbn; clear hbn))
    go_ret
    exact ⟨rfl, HB1.out⟩
  have d : decide ((n : Int) > 1048576) = false := decide_eq_false hn
  rw [d] at HG
  have HN := Lib.hid (show n ≤ 1048576 by omega)
  clear hn
  go_enter Try.func4, Try.ntmps4
  go_upto_region 4 with (first
    | (go_at_call 15; (with_reducible refine (HG.out _).mono ?_); rintro e w1 ⟨rfl, hbn⟩; have HB1 := Lib.hid hbn; clear hbn)
    | (go_at_call 16; (with_reducible refine (sDrawMul _ _ _ _ _ (HH.out.below HB1.out) HN.out).mono ?_); rintro e w2 ⟨a0, a1, b0, b1, rfl, ha, hb, hbn⟩; have HA := Lib.hid ha; have HB := Lib.hid hb; replace HB1 := Lib.hid (HB1.out.trans (hbn.mono HB1.out.size)); clear hbn ha hb))
  clear HG d HH HN
  go_cut [3, 4, 5] (fun s3 s4 s5 wx => Sp3 w s3 s4 s5 wx)
  case first =>
    go_wp2_with (go_at_call 17; (with_reducible refine (iMulPair_any _ _ _ _ _).mono ?_); rintro e w3 ⟨p0, p1, rfl, hpe, hp0, hp1, hbn⟩; have HP := Lib.hid (show Lt2 (p0, p1) ∧ peq (p0, p1) (mulP (_, _) (_, _)) from ⟨⟨hp0, hp1⟩, hpe⟩); have HB3 := Lib.hid hbn; obtain ⟨hc1, hf1⟩ := bcell hbn; have hz1 := hbn.size; clear hbn hpe hp0 hp1)
    go_meet
    exact ⟨(a0, a1), (b0, b1), (p0, p1), HA.out, HB.out, HP.out.1, HP.out.2, ⟨_, rfl, (((box_new a0 a1 _ _ rfl).below (step _ _)).below HB3.out).below (step _ _)⟩,
      ⟨_, rfl, ((box_new b0 b1 _ _ (by simp)).below HB3.out).below (step _ _)⟩, ⟨_, rfl, box_new p0 p1 _ _ rfl⟩, chain (chain (chain (chain HB1.out (step _ _)) (step _ _)) HB3.out) (step _ _)⟩
  case rest =>
    obtain ⟨⟨a0, a1⟩, ⟨b0, b1⟩, ⟨p0, p1⟩, ha, hb, hp, hpe, hA, hB, hP, hw⟩ := hcut
    have HA := Lib.hid ha
    have HB := Lib.hid hb
    have HP := Lib.hid hp
    have HPE := Lib.hid hpe
    have HW := Lib.hid hw
    obtain ⟨g3, rfl, hA⟩ := hA
    obtain ⟨g4, rfl, hB⟩ := hB
    obtain ⟨g5, rfl, hP⟩ := hP
    have HAA := Lib.hid (show Fl.BoxAt a0 a1 g3 wc from hA)
    have HBB := Lib.hid (show Fl.BoxAt b0 b1 g4 wc from hB)
    have HPP := Lib.hid (show Fl.BoxAt p0 p1 g5 wc from hP)
    clear hA hB hP
    obtain ⟨l3, c30, c31⟩ := HAA.out
    obtain ⟨l4, c40, c41⟩ := HBB.out
    obtain ⟨l5, c50, c51⟩ := HPP.out
    clear ha hb hp hpe hw
    go_wp2_with fail
    go_region_held3 (fun wx => (∀ z y, z < wc.heap.size → wx.cell? ⟨z, y, none⟩ = wc.cell? ⟨z, y, none⟩) ∧ Below wc.heap.size wc wx)
      (first
        | exact keeps0 _
        | (refine keepsB hbn ?_; assumption))
      (first
        | (go_at_call 19; refine (sMulPair_any _ _ _ _ _).mono ?_; rintro e w1 ⟨r, i, rfl, hpe, hr, hi, hbn⟩; have HE := Lib.hid (show peq (p0, p1) (r, i) ∧ Lt2 (r, i) from ⟨HPE.out.trans hpe.symm, hr, hi⟩); clear hpe hr hi; (first | (replace hb1 := chain hb1 hbn; clear hc1 hf1 hm1) | (have hb1 := hbn)); obtain ⟨hc1, hf1⟩ := bcell hb1; have hm1 := blt hb1; have hz1 := hbn.size; (try simp only [World.size_alloc, World.size_drew, World.size_setCell] at hz1))
        | (go_at_call 17; refine (iMulPair_any _ _ _ _ _).mono ?_; rintro e w1 ⟨r, i, rfl, hpe, hr, hi, hbn⟩; replace HE := Lib.hid (show peq (p0, p1) (r, i) ∧ Lt2 (r, i) from ⟨HPE.out.trans (Fl.mulP_comm (a0, a1) (b0, b1) ▸ hpe.symm), hr, hi⟩); clear hpe hr hi; (first | (replace hb1 := chain hb1 hbn; clear hc1 hf1 hm1) | (have hb1 := hbn)); obtain ⟨hc1, hf1⟩ := bcell hb1; have hm1 := blt hb1; have hz1 := hbn.size; (try simp only [World.size_alloc, World.size_drew, World.size_setCell] at hz1))
        | (go_at_call 20; refine (iAddPair_any _ _ _ _ _).mono ?_; rintro e w1 ⟨u, v, rfl, hpe, hr, hi, hbn⟩; (first | (have HS2 := Lib.hid (And.intro (HS1.out.1.trans (Fl.sumP_comm (b0, b1) (a0, a1) ▸ hpe.symm)) (show Lt2 (u, v) from ⟨hr, hi⟩))) | (have HS1 := Lib.hid (show peq (u, v) (sumP (a0, a1) (b0, b1)) ∧ Lt2 (u, v) from ⟨hpe, hr, hi⟩))); clear hpe hr hi; (first | (replace hb1 := chain hb1 hbn; clear hc1 hf1 hm1) | (have hb1 := hbn)); obtain ⟨hc1, hf1⟩ := bcell hb1; have hm1 := blt hb1; have hz1 := hbn.size; (try simp only [World.size_alloc, World.size_drew, World.size_setCell] at hz1))
        | (go_at_call 18; (first | refine (samePair_any _ _ _ _ HS1.out.2 HS2.out.2 HS2.out.1 _).mono ?_ | refine (samePair_any _ _ _ _ HP.out HE.out.2 HE.out.1 _).mono ?_); rintro e w1 ⟨rfl, hbn⟩; (first | (replace hb1 := chain hb1 hbn; clear hc1 hf1 hm1) | (have hb1 := hbn)); obtain ⟨hc1, hf1⟩ := bcell hb1; have hm1 := blt hb1; have hz1 := hbn.size; (try simp only [World.size_alloc, World.size_drew, World.size_setCell] at hz1)))
    have HX := Lib.hid (stays_of (by assumption : (∀ z y, z < wc.heap.size → World.cell? _ ⟨z, y, none⟩ = wc.cell? ⟨z, y, none⟩) ∧ Below wc.heap.size wc _))
    have HAX := Lib.hid (HAA.out.below HX.out)
    have HBX := Lib.hid (HBB.out.below HX.out)
    have HPX := Lib.hid (HPP.out.below HX.out)
    have HWX := Lib.hid (chain HW.out HX.out)
    obtain ⟨k3, d30, d31⟩ := HAX.out
    obtain ⟨k4, d40, d41⟩ := HBX.out
    obtain ⟨k5, d50, d51⟩ := HPX.out
    clear HAA HBB HPP HW HX c30 c31 c40 c41 c50 c51 l3 l4 l5 HE HS1 HS2 hb1 hc1 hf1 hm1
    go_upto_region 7 with fail
    go_cut [6] (fun s6 wx => ∃ q0 q1 g, s6 = .pointer (some ⟨g, 0, none⟩) ∧ peq (q0, q1) (barP (p0, p1)) ∧ Fl.BoxAt q0 q1 g wx ∧ Fl.BoxAt a0 a1 g3 wx ∧ Fl.BoxAt b0 b1 g4 wx ∧ Below w.heap.size w wx)
    case first =>
      go_wp2_with (go_at_call 21; (refine (iBar_any p0 p1 _ HP.out.1 HP.out.2).mono ?_); rintro e w1 ⟨q0, q1, rfl, hq, -, -, hbn⟩; have HQ := Lib.hid hq; have HBN := Lib.hid hbn; obtain ⟨hc1, hf1⟩ := bcell hbn; have hz1 := hbn.size; clear hbn hq)
      go_meet
      exact ⟨q0, q1, _, rfl, HQ.out, box_new _ _ _ _ rfl, (HAX.out.below HBN.out).below (step _ _), (HBX.out.below HBN.out).below (step _ _), chain (chain HWX.out HBN.out) (step _ _)⟩
    case rest =>
      clear HAX HBX HPX HWX k3 d30 d31 k4 d40 d41 k5 d50 d51
      obtain ⟨q0, q1, g6, rfl, hq, hbq, hba, hbb, hw⟩ := hcut
      have HQ := Lib.hid hq
      have HBQ := Lib.hid hbq
      have HBA := Lib.hid hba
      have HW := Lib.hid hw
      obtain ⟨k6, d60, d61⟩ := hbq
      obtain ⟨k3, d30, d31⟩ := hba
      obtain ⟨k4, d40, d41⟩ := hbb
      clear hq hw
      go_upto_region 8 with fail
      go_cut [7] (fun s7 wx => ∃ r0 r1 g, s7 = .pointer (some ⟨g, 0, none⟩) ∧ peq (r0, r1) (mulP (barP (a0, a1)) (barP (b0, b1))) ∧ Fl.BoxAt r0 r1 g wx ∧ Below wc.heap.size wc wx)
      case first =>
        go_region_held3 (fun wx => (∀ z y, z < wc.heap.size → wx.cell? ⟨z, y, none⟩ = wc.cell? ⟨z, y, none⟩) ∧ Below wc.heap.size wc wx)
          (first
            | exact keeps0 _
            | exact keepsA0 _ _
            | (refine keepsA _ ?_; assumption)
            | (refine keepsB hbn ?_; assumption)
            | (refine keepsAB (o := .cells #[.float .f64 0, .float .f64 0] 25) ?_ ?_ <;> first | omega | (simp; done) | (simp; omega) | assumption)
            | (refine keepsS ?_ (keepsS ?_ ?_) <;> first | omega | (simp; done) | (simp; omega) | assumption))
          (first
            | (go_at_call 21; have HZ := HR1.out; refine (iBar_any b0 b1 _ HB.out.1 HB.out.2).mono ?_; rintro e w1 ⟨x, y, rfl, hpe, -, -, hbn⟩; have HR2 := Lib.hid hpe; clear hpe HZ; (first | (replace hb1 := chain hb1 hbn; clear hc1 hf1 hm1) | (have hb1 := hbn)); obtain ⟨hc1, hf1⟩ := bcell hb1; have hm1 := blt hb1; have hz1 := hbn.size; (try simp only [World.size_alloc, World.size_drew, World.size_setCell] at hz1))
            | (go_at_call 21; refine (iBar_any a0 a1 _ HA.out.1 HA.out.2).mono ?_; rintro e w1 ⟨u, v, rfl, hpe, -, -, hbn⟩; have HR1 := Lib.hid hpe; clear hpe; (first | (replace hb1 := chain hb1 hbn; clear hc1 hf1 hm1) | (have hb1 := hbn)); obtain ⟨hc1, hf1⟩ := bcell hb1; have hm1 := blt hb1; have hz1 := hbn.size; (try simp only [World.size_alloc, World.size_drew, World.size_setCell] at hz1))
            | (go_at_call 17; refine (iMulPair_any _ _ _ _ _).mono ?_; rintro e w1 ⟨r, i, rfl, hpe, -, -, hbn⟩; have HR := Lib.hid (Fl.mulP_of HR1.out HR2.out ▸ hpe); clear hpe; (first | (replace hb1 := chain hb1 hbn; clear hc1 hf1 hm1) | (have hb1 := hbn)); obtain ⟨hc1, hf1⟩ := bcell hb1; have hm1 := blt hb1; have hz1 := hbn.size; (try simp only [World.size_alloc, World.size_drew, World.size_setCell] at hz1)))
        all_goals (go_wp2_with fail; go_meet)
        all_goals (refine ⟨_, _, _, rfl, HR.out, ⟨?_, ?_, ?_⟩, stays_of (by assumption)⟩)
        all_goals first | (simp [*, go_sem]; done) | (simp; omega)
      case rest =>
        obtain ⟨r0, r1, g7, rfl, hr, hbr, hbf⟩ := hcut
        have HWF := Lib.hid (chain HW.out hbf)
        replace HBA := Lib.hid (HBA.out.below hbf)
        obtain ⟨m6, f60, f61⟩ := HBQ.out.below hbf
        obtain ⟨m3, f30, f31⟩ := HBA.out
        obtain ⟨m7, f70, f71⟩ := hbr
        have h9 : (FloatKind.f64.format.order q0 q0 = none) ∨ (FloatKind.f64.format.order q0 q0 = some .eq ∧ FloatKind.f64.format.order q1 q1 = none) ∨ (FloatKind.f64.format.order q0 q0 = some .eq ∧ FloatKind.f64.format.order q1 q1 = some .eq ∧ Hid ((ford q0 r0 == some .eq && ford q1 r1 == some .eq) = true)) := by
          cases n0 : isNan q0 with
          | true => exact .inl (Fl.ford_nan_left n0 _)
          | false =>
            cases n1 : isNan q1 with
            | true => exact .inr (.inl ⟨Fl.ford_self n0, Fl.ford_nan_left n1 _⟩)
            | false => exact .inr (.inr ⟨Fl.ford_self n0, Fl.ford_self n1, Lib.hid (Fl.bar_mul (a := (a0, a1)) (b := (b0, b1)) HPE.out HQ.out hr n0 n1)⟩)
        clear hr hbf HBQ HW k6 d60 d61 k3 d30 d31 k4 d40 d41 HPE HQ HP HA HB
        rcases h9 with o0 | ⟨o0, o1⟩ | ⟨o0, o1, HQb⟩
        all_goals (
          go_upto_region 11 with (go_at_call 22; (refine (iEqual_any _ _ _ _ _).mono ?_); rintro e w1 ⟨rfl, hbn⟩; rw [HQb.out]; replace HBA := Lib.hid (HBA.out.below hbn); replace HWF := Lib.hid (chain HWF.out hbn); obtain ⟨m3, f30, f31⟩ := HBA.out; clear hbn)
          go_cut [8] (fun s8 wx => ∃ u v g, s8 = .pointer (some ⟨g, 0, none⟩) ∧ peq (u, v) (difP (a0, a1) (a0, a1)) ∧ Fl.BoxAt u v g wx ∧ Fl.BoxAt a0 a1 g3 wx ∧ Below w.heap.size w wx)
          case first =>
            go_wp2_with (go_at_call 23; (refine (iSubPair_any _ _ _ _ _).mono ?_); rintro e w1 ⟨u, v, rfl, hpe, -, -, hbn⟩; have HS := Lib.hid hpe; replace HBA := Lib.hid (HBA.out.below hbn); replace HWF := Lib.hid (chain HWF.out hbn); clear hpe hbn)
            go_meet
            exact ⟨_, _, _, rfl, HS.out, box_new _ _ _ _ rfl, HBA.out.below (step _ _), chain HWF.out (step _ _)⟩
          case rest =>
            clear HWF HBA m6 m7 m3 f60 f61 f30 f31 f70 f71 o0
            obtain ⟨u, v, g8, rfl, hpe, hb8, hb3, hw8⟩ := hcut
            have HWF := Lib.hid hw8
            have HS := Lib.hid hpe
            obtain ⟨m8, f80, f81⟩ := hb8
            obtain ⟨m3, f30, f31⟩ := hb3
            clear hw8 hpe
            have HZb := Lib.hid (show (ford 0 0 == some .eq && ford 0 0 == some .eq) = true by decide)
            have HMb := Lib.hid (show (ford 13830554455654793216 13830554455654793216 == some .eq && ford 0 0 == some .eq) = true by decide)
            have o00 : FloatKind.f64.format.order 0 0 = some .eq := by decide
            rcases sub_self a0 with ⟨s0, t0, u0⟩ | u0
            · rcases sub_self a1 with ⟨s1, t1, u1⟩ | u1
              · obtain ⟨rfl, rfl⟩ := sub_zero HS.out s0 s1
                clear s0 s1
                go_wp2_with (first
                | (go_at_call 17; (refine (iMulPair_any _ _ _ _ _).mono ?_); rintro e w1 ⟨u, v, rfl, hpe, -, -, hbn⟩; obtain ⟨rfl, rfl⟩ := i_sq hpe; clear hpe; (first | (replace HWF := Lib.hid (chain HWF.out hbn)) | (replace HWF := Lib.hid (chain (Fl.below_drewN HWF.out _) hbn)) | (replace HWF := Lib.hid (chain (Fl.below_drewN (Fl.below_drewN HWF.out _) _) hbn))); clear hbn)
                | (go_at_call 22; (refine (iEqual_any _ _ _ _ _).mono ?_); rintro e w1 ⟨rfl, hbn⟩; (first | rw [HZb.out] | rw [HMb.out]); (first | (replace HWF := Lib.hid (chain HWF.out hbn)) | (replace HWF := Lib.hid (chain (Fl.below_drewN HWF.out _) hbn)) | (replace HWF := Lib.hid (chain (Fl.below_drewN (Fl.below_drewN HWF.out _) _) hbn))); clear hbn))
                all_goals (go_ret; exact ⟨rfl, HWF.out⟩)
              · clear s0
                go_wp2_with (first
                | (go_at_call 17; (refine (iMulPair_any _ _ _ _ _).mono ?_); rintro e w1 ⟨u, v, rfl, hpe, -, -, hbn⟩; obtain ⟨rfl, rfl⟩ := i_sq hpe; clear hpe; (first | (replace HWF := Lib.hid (chain HWF.out hbn)) | (replace HWF := Lib.hid (chain (Fl.below_drewN HWF.out _) hbn)) | (replace HWF := Lib.hid (chain (Fl.below_drewN (Fl.below_drewN HWF.out _) _) hbn))); clear hbn)
                | (go_at_call 22; (refine (iEqual_any _ _ _ _ _).mono ?_); rintro e w1 ⟨rfl, hbn⟩; (first | rw [HZb.out] | rw [HMb.out]); (first | (replace HWF := Lib.hid (chain HWF.out hbn)) | (replace HWF := Lib.hid (chain (Fl.below_drewN HWF.out _) hbn)) | (replace HWF := Lib.hid (chain (Fl.below_drewN (Fl.below_drewN HWF.out _) _) hbn))); clear hbn))
                all_goals (go_ret; exact ⟨rfl, HWF.out⟩)
            · go_wp2_with (first
                | (go_at_call 17; (refine (iMulPair_any _ _ _ _ _).mono ?_); rintro e w1 ⟨u, v, rfl, hpe, -, -, hbn⟩; obtain ⟨rfl, rfl⟩ := i_sq hpe; clear hpe; (first | (replace HWF := Lib.hid (chain HWF.out hbn)) | (replace HWF := Lib.hid (chain (Fl.below_drewN HWF.out _) hbn)) | (replace HWF := Lib.hid (chain (Fl.below_drewN (Fl.below_drewN HWF.out _) _) hbn))); clear hbn)
                | (go_at_call 22; (refine (iEqual_any _ _ _ _ _).mono ?_); rintro e w1 ⟨rfl, hbn⟩; (first | rw [HZb.out] | rw [HMb.out]); (first | (replace HWF := Lib.hid (chain HWF.out hbn)) | (replace HWF := Lib.hid (chain (Fl.below_drewN HWF.out _) hbn)) | (replace HWF := Lib.hid (chain (Fl.below_drewN (Fl.below_drewN HWF.out _) _) hbn))); clear hbn))
              all_goals (go_ret; exact ⟨rfl, HWF.out⟩))
end Go.Proofs.Ythoajaibaedjeaa
