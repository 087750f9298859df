/-
  The walk of FnOrdered.
-/
import Derived.Test.YtmjnnjjmfedlbaaDoorDy
import Derived.Test.YtmjnnjjmfedlbaaDoorOo
import Derived.Test.YtmjnnjjmfedlbaaDoorFop
namespace Go.Proofs.YtmjnnjjmfedlbaaDoor
set_option linter.unusedSimpArgs false
set_option linter.unusedVariables false
open Go.RowKit Go.Dr

set_option maxRecDepth 8000 in
set_option maxHeartbeats 6400000 in
theorem walk_FnOrdered (A : Option Addr) (n c : Nat) (xs : List Int) (w : World) (h : IRow .u8 w A n c xs ∧ ∀ n ∈ xs, (Lit.int .u8 n).wf = true) (hl : Lk w) :
    Calls Tryd.prog 7 #[.slice A n c] w fun e w' => e = .returned (.bool true) ∧ Below w.heap.size w w' := by
  have HH := Lib.hid h.1
  clear h
  have HL := Lib.hid hl
  clear hl
  have HG := Lib.hid (big_any A n c)
  by_cases hn : (n : Int) > 1048576
  · have d : decide ((n : Int) > 1048576) = true := decide_eq_true hn
    rw [d] at HG
    clear hn
    go_enter Tryd.func7, Tryd.ntmps7
    go_wp2_with ((go_at_call 21; (with_reducible refine (HG.out _).mono ?_); rintro e w1 ⟨rfl, hbn⟩; have HB1 := Lib.hid hbn; clear hbn))
    go_ret
    exact ⟨rfl, HB1.out⟩
  have d : decide ((n : Int) > 1048576) = false := decide_eq_false hn
  rw [d] at HG
  have HNN := Lib.hid (show n ≤ 1048576 by omega)
  clear hn
  go_enter Tryd.func7, Tryd.ntmps7
  go_upto_region 4 with (first
    | (go_at_call 21; (with_reducible refine (HG.out _).mono ?_); rintro e w1 ⟨rfl, hbn⟩; have HB1 := Lib.hid hbn; clear hbn)
    | (go_at_call 22; (with_reducible refine (sDrawOrder _ _ _ _ _ (HH.out.below HB1.out) HNN.out).mono ?_); rintro e w2 ⟨f, a, b, rfl, hf, ha, hb, hbn⟩; have HF := Lib.hid hf; have HA := Lib.hid ha; have HBB := Lib.hid hb; have HB := Lib.hid (Fl.chain HB1.out hbn); clear hbn ha hb hf))
  have HK := Lib.hid (HL.out.below HB.out)
  clear HB1 HG d HH HNN HL
  have hwf : (Lit.int .i64 f).wf = true := by
    rcases HF.out with rfl | rfl | rfl | rfl | rfl <;> decide
  obtain ⟨nx, hnx, hnl⟩ := next_nat f HA.out
  have HX := Lib.hid (fun (W : World) (hl : Lk W) => iOrder hwf HA.out HBB.out W hl)
  have HY := Lib.hid (fun (W : World) (hl : Lk W) => iOrder hwf HBB.out HA.out W hl)
  have HS := Lib.hid (fun (W : World) => sOrder (f := f) HA.out HBB.out W)
  have HC := Lib.hid (fun (W : World) (hl : Lk W) => iCompare hwf HA.out HBB.out W hl)
  have HN := Lib.hid (fun (W : World) (hl : Lk W) => iNext hwf HA.out W hl)
  rw [hnx] at HN
  have HC1 := Lib.hid (fun (W : World) (hl : Lk W) => iCompare hwf HA.out hnl W hl)
  have HC2 := Lib.hid (fun (W : World) (hl : Lk W) => iCompare hwf HBB.out hnl W hl)
  have HN0 := Lib.hid (show ∀ (W : World) (hl : Lk W), Calls Tryd.prog 15 #[.int .i64 1, .int .u64 0] W fun e w' => e = .returned (.int .u64 1) ∧ Below W.heap.size W w' from fun W hl => half_next ▸ iNext (f := 1) (a := 0) (by decide) (by decide) W hl)
  have HC0 := Lib.hid (show ∀ (W : World) (hl : Lk W), Calls Tryd.prog 20 #[.int .i64 1, .int .u64 1, .int .u64 2] W fun e w' => e = .returned (.int .i64 (-1)) ∧ Below W.heap.size W w' from fun W hl => half_comp ▸ iCompare (f := 1) (a := 1) (b := 2) (by decide) (by decide) (by decide) W hl)
  have hxy := ord_turn f a b
  have hc := cmp_ord f a b
  have hbt : cmpV f a b = -1 → (cmpV f a nx == -1) = true → (cmpV f b nx == -1) = false := by
    intro h1 h2
    rw [beq_eq_false_iff_ne]
    intro h3
    exact no_between HA.out HBB.out hnx h1 (by simpa using h2) h3
  clear hwf hnx hnl
  generalize ordV f a b = x at HX HS hxy hc
  generalize ordV f b a = y at HY hxy
  generalize cmpV f a b = c at HC hc hbt
  generalize cmpV f a nx = c1 at HC1 hbt
  generalize cmpV f b nx = c2 at HC2 hbt
  clear HA HBB HF
  have HBT := Lib.hid hbt
  clear hbt
  rcases hxy with ⟨rfl, rfl⟩ | ⟨rfl, rfl⟩ | ⟨rfl, rfl⟩ | ⟨rfl, rfl⟩
  all_goals rcases hc with rfl | rfl | rfl
  all_goals first
    | (cases t1 : (c1 == -1)
       · go_wp2_with (first | (go_at_call 13; (first | (with_reducible refine (HX.out _ HK.out).mono ?_) | (with_reducible refine (HY.out _ HK.out).mono ?_)); rintro e w1 ⟨rfl, hbn⟩; (have HB0 := HB.out); (replace HB := Lib.hid (Fl.chain HB.out hbn)); (replace HK := Lib.hid (HK.out.below hbn)); clear hbn HB0) | (go_at_call 12; (with_reducible refine (HS.out _).mono ?_); rintro e w1 ⟨rfl, rfl⟩) | (go_at_call 20; (first | (with_reducible refine (HC.out _ HK.out).mono ?_) | (with_reducible refine (HC1.out _ HK.out).mono ?_) | (with_reducible refine (HC2.out _ HK.out).mono ?_) | (with_reducible refine (HC0.out _ HK.out).mono ?_)); rintro e w1 ⟨rfl, hbn⟩; (have HB0 := HB.out); (replace HB := Lib.hid (Fl.chain HB.out hbn)); (replace HK := Lib.hid (HK.out.below hbn)); clear hbn HB0) | (go_at_call 15; (first | (with_reducible refine (HN.out _ HK.out).mono ?_) | (with_reducible refine (HN0.out _ HK.out).mono ?_)); rintro e w1 ⟨rfl, hbn⟩; (have HB0 := HB.out); (replace HB := Lib.hid (Fl.chain HB.out hbn)); (replace HK := Lib.hid (HK.out.below hbn)); clear hbn HB0))
         go_ret
         exact ⟨rfl, HB.out⟩
       · have t2 := HBT.out rfl t1
         go_wp2_with (first | (go_at_call 13; (first | (with_reducible refine (HX.out _ HK.out).mono ?_) | (with_reducible refine (HY.out _ HK.out).mono ?_)); rintro e w1 ⟨rfl, hbn⟩; (have HB0 := HB.out); (replace HB := Lib.hid (Fl.chain HB.out hbn)); (replace HK := Lib.hid (HK.out.below hbn)); clear hbn HB0) | (go_at_call 12; (with_reducible refine (HS.out _).mono ?_); rintro e w1 ⟨rfl, rfl⟩) | (go_at_call 20; (first | (with_reducible refine (HC.out _ HK.out).mono ?_) | (with_reducible refine (HC1.out _ HK.out).mono ?_) | (with_reducible refine (HC2.out _ HK.out).mono ?_) | (with_reducible refine (HC0.out _ HK.out).mono ?_)); rintro e w1 ⟨rfl, hbn⟩; (have HB0 := HB.out); (replace HB := Lib.hid (Fl.chain HB.out hbn)); (replace HK := Lib.hid (HK.out.below hbn)); clear hbn HB0) | (go_at_call 15; (first | (with_reducible refine (HN.out _ HK.out).mono ?_) | (with_reducible refine (HN0.out _ HK.out).mono ?_)); rintro e w1 ⟨rfl, hbn⟩; (have HB0 := HB.out); (replace HB := Lib.hid (Fl.chain HB.out hbn)); (replace HK := Lib.hid (HK.out.below hbn)); clear hbn HB0))
         go_ret
         exact ⟨rfl, HB.out⟩)
    | (go_wp2_with (first | (go_at_call 13; (first | (with_reducible refine (HX.out _ HK.out).mono ?_) | (with_reducible refine (HY.out _ HK.out).mono ?_)); rintro e w1 ⟨rfl, hbn⟩; (have HB0 := HB.out); (replace HB := Lib.hid (Fl.chain HB.out hbn)); (replace HK := Lib.hid (HK.out.below hbn)); clear hbn HB0) | (go_at_call 12; (with_reducible refine (HS.out _).mono ?_); rintro e w1 ⟨rfl, rfl⟩) | (go_at_call 20; (first | (with_reducible refine (HC.out _ HK.out).mono ?_) | (with_reducible refine (HC1.out _ HK.out).mono ?_) | (with_reducible refine (HC2.out _ HK.out).mono ?_) | (with_reducible refine (HC0.out _ HK.out).mono ?_)); rintro e w1 ⟨rfl, hbn⟩; (have HB0 := HB.out); (replace HB := Lib.hid (Fl.chain HB.out hbn)); (replace HK := Lib.hid (HK.out.below hbn)); clear hbn HB0) | (go_at_call 15; (first | (with_reducible refine (HN.out _ HK.out).mono ?_) | (with_reducible refine (HN0.out _ HK.out).mono ?_)); rintro e w1 ⟨rfl, hbn⟩; (have HB0 := HB.out); (replace HB := Lib.hid (Fl.chain HB.out hbn)); (replace HK := Lib.hid (HK.out.below hbn)); clear hbn HB0))
       all_goals go_ret
       all_goals exact ⟨rfl, HB.out⟩)
end Go.Proofs.YtmjnnjjmfedlbaaDoor
