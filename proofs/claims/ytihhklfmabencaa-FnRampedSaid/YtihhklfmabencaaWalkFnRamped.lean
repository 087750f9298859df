/-
  The walk of the law FnRamped: whatever is drawn, it returns true.
-/
import Derived.Test.YtihhklfmabencaaRx
import Derived.Test.YtihhklfmabencaaDsg
namespace Go.Proofs.Ytihhklfmabencaa
set_option linter.unusedSimpArgs false
set_option linter.unusedVariables false
open Go.RowKit Go.Dr

theorem pick_le {b : Bool} {l t : List Int} {n : Nat} (hl : l.length = n) (hn : n ≤ 1048576) (ht : t.length = l.length) : (pickL b t).length ≤ 1048576 := by
  cases b
  · exact Nat.zero_le _
  · show t.length ≤ _; omega
theorem ramp_len (l : List Int) : (ramp l).length = l.length := tab_len _ _
theorem steps_len (l : List Int) : (steps l).length = l.length := tab_len _ _
theorem pick_le2 {b : Bool} {l : List Int} {n : Nat} (hl : l.length = n) (hn : n ≤ 1048576) : (pickL b l).length ≤ 1048576 := pick_le hl hn rfl
theorem iRamp_b {l : List Int} {b : Bool} (hb : rampB l = b) (A : Option Addr) (n c : Nat) (w : World) (h : IRow .i64 w A n c l) (hn : n ≤ 1048576) :
    Calls Try.prog 12 #[.slice A n c] w fun e w' => ∃ v, e = .returned (.tuple #[v, .bool b]) ∧ Own w' w.heap.size v (pickL b (ramp l)) ∧ Below w.heap.size w w' := by
  subst hb; exact iRamp_any A n c l w h hn
theorem sRamp_b {l : List Int} {b : Bool} (hb : rampB l = b) (A : Option Addr) (n c : Nat) (w : World) (h : IRow .i64 w A n c l) (hn : n ≤ 1048576) :
    Calls Try.prog 13 #[.slice A n c] w fun e w' => ∃ v, e = .returned (.tuple #[v, .bool b]) ∧ Below w.heap.size w w' := by
  subst hb; exact sRamp_any A n c l w h hn
theorem iSteps_b {l : List Int} {b : Bool} (hb : stepB l = b) (A : Option Addr) (n c : Nat) (w : World) (h : IRow .i64 w A n c l) (hn : n ≤ 1048576) :
    Calls Try.prog 14 #[.slice A n c] w fun e w' => ∃ v, e = .returned (.tuple #[v, .bool b]) ∧ Own w' w.heap.size v (pickL b (steps l)) ∧ Below w.heap.size w w' := by
  subst hb; exact iSteps_any A n c l w h hn
theorem sSteps_b {l : List Int} {b : Bool} (hb : stepB l = b) (A : Option Addr) (n c : Nat) (w : World) (h : IRow .i64 w A n c l) (hn : n ≤ 1048576) :
    Calls Try.prog 16 #[.slice A n c] w fun e w' => ∃ v, e = .returned (.tuple #[v, .bool b]) ∧ Below w.heap.size w w' := by
  subst hb; exact sSteps_any A n c l w h hn

set_option maxHeartbeats 3200000 in
theorem walk_FnRamped (A : Option Addr) (n c : Nat) (xs : List Int) (w : World) (h : IRow .u8 w A n c xs ∧ ∀ n ∈ xs, (Lit.int .u8 n).wf = true) :
    Calls Try.prog 4 #[.slice A n c] w fun e w' => e = .returned (.bool true) ∧ Below w.heap.size w w' := by
  have HH := Lib.hid h.1
  clear h
  have HG := Lib.hid (big_any A n c)
  by_cases hn : (n : Int) > 1048576
  · have d : decide ((n : Int) > 1048576) = true := decide_eq_true hn
    rw [d] at HG
    clear hn
    go_enter Try.func4, Try.ntmps4
    go_wp2_with (go_at_call 7; (with_reducible refine (HG.out _).mono ?_); rintro e w1 ⟨rfl, hbn⟩; have HB := Lib.hid hbn; clear hbn)
    go_ret
    exact ⟨rfl, HB.out⟩
  · have d : decide ((n : Int) > 1048576) = false := decide_eq_false hn
    rw [d] at HG
    have HN := Lib.hid (show n ≤ 1048576 by omega)
    clear hn
    go_enter Try.func4, Try.ntmps4
    go_wp2_with (first
      | (go_at_call 7; (with_reducible refine (HG.out _).mono ?_); rintro e w1 ⟨rfl, hbn⟩; have HB := Lib.hid hbn; clear hbn)
      | (go_at_call 11; (with_reducible refine (sDrawRamp _ _ _ _ _ (HH.out.below HB.out) HN.out).mono ?_); rintro e w1 ⟨A', n', c', l, rfl, hl, hr, hb⟩; have HL := Lib.hid hr; replace HB := Lib.hid (HB.out.trans (hb.mono HB.out.size)); have HM := Lib.hid (show n' ≤ 1048576 by omega); have HX := Lib.hid hr.1; clear hl hr hb; cases hb1 : rampB l <;> cases hb2 : stepB l <;> have E1 := Lib.hid hb1 <;> have E2 := Lib.hid hb2 <;> clear hb1 hb2)
      | (go_at_call 12; (with_reducible refine (iRamp_b E1.out A' n' c' _ HL.out HM.out).mono ?_); rintro e w1 ⟨v, rfl, ho, hb⟩; (try replace HL := Lib.hid (HL.out.below hb)); (try replace H1 := Lib.hid (H1.out.below hb)); (try replace H2 := Lib.hid (H2.out.below hb)); (try replace H3 := Lib.hid (H3.out.below hb)); (try replace H4 := Lib.hid (H4.out.below hb)); replace HB := Lib.hid (HB.out.trans (hb.mono HB.out.size)); obtain ⟨AH1, cH1, rfl⟩ := ho.form; have H1 := Lib.hid ho.row.1; clear ho hb)
      | (go_at_call 13; (with_reducible refine (sRamp_b E1.out A' n' c' _ HL.out HM.out).mono ?_); rintro e w1 ⟨v, rfl, hb⟩; (try replace HL := Lib.hid (HL.out.below hb)); (try replace H1 := Lib.hid (H1.out.below hb)); (try replace H2 := Lib.hid (H2.out.below hb)); (try replace H3 := Lib.hid (H3.out.below hb)); (try replace H4 := Lib.hid (H4.out.below hb)); replace HB := Lib.hid (HB.out.trans (hb.mono HB.out.size)); clear hb)
      | (go_at_call 14; (with_reducible refine (iSteps_r E1.out _ _ _ _ H1.out (pick_le HX.out HM.out (ramp_len _))).mono ?_); rintro e w1 ⟨v, rfl, ho, hb⟩; (try replace HL := Lib.hid (HL.out.below hb)); (try replace H1 := Lib.hid (H1.out.below hb)); (try replace H2 := Lib.hid (H2.out.below hb)); (try replace H3 := Lib.hid (H3.out.below hb)); (try replace H4 := Lib.hid (H4.out.below hb)); replace HB := Lib.hid (HB.out.trans (hb.mono HB.out.size)); obtain ⟨AH2, cH2, rfl⟩ := ho.form; have H2 := Lib.hid ho.row.1; clear ho hb)
      | (go_at_call 14; (with_reducible refine (iSteps_b E2.out A' n' c' _ HL.out HM.out).mono ?_); rintro e w1 ⟨v, rfl, ho, hb⟩; (try replace HL := Lib.hid (HL.out.below hb)); (try replace H1 := Lib.hid (H1.out.below hb)); (try replace H2 := Lib.hid (H2.out.below hb)); (try replace H3 := Lib.hid (H3.out.below hb)); (try replace H4 := Lib.hid (H4.out.below hb)); replace HB := Lib.hid (HB.out.trans (hb.mono HB.out.size)); obtain ⟨AH3, cH3, rfl⟩ := ho.form; have H3 := Lib.hid ho.row.1; clear ho hb)
      | (go_at_call 16; (with_reducible refine (sSteps_b E2.out A' n' c' _ HL.out HM.out).mono ?_); rintro e w1 ⟨v, rfl, hb⟩; (try replace HL := Lib.hid (HL.out.below hb)); (try replace H1 := Lib.hid (H1.out.below hb)); (try replace H2 := Lib.hid (H2.out.below hb)); (try replace H3 := Lib.hid (H3.out.below hb)); (try replace H4 := Lib.hid (H4.out.below hb)); replace HB := Lib.hid (HB.out.trans (hb.mono HB.out.size)); clear hb)
      | (go_at_call 12; (with_reducible refine (iRamp_s E2.out _ _ _ _ H3.out (pick_le HX.out HM.out (steps_len _))).mono ?_); rintro e w1 ⟨v, rfl, ho, hb⟩; (try replace HL := Lib.hid (HL.out.below hb)); (try replace H1 := Lib.hid (H1.out.below hb)); (try replace H2 := Lib.hid (H2.out.below hb)); (try replace H3 := Lib.hid (H3.out.below hb)); (try replace H4 := Lib.hid (H4.out.below hb)); replace HB := Lib.hid (HB.out.trans (hb.mono HB.out.size)); obtain ⟨AH4, cH4, rfl⟩ := ho.form; have H4 := Lib.hid ho.row.1; clear ho hb)
      | (go_at_call 14; (with_reducible refine (iSteps_3 _ _ _ (by simp only [List.map])).mono ?_); rintro e w1 ⟨v, rfl, hb⟩; (try replace HL := Lib.hid (HL.out.below hb)); (try replace H1 := Lib.hid (H1.out.below hb)); (try replace H2 := Lib.hid (H2.out.below hb)); (try replace H3 := Lib.hid (H3.out.below hb)); (try replace H4 := Lib.hid (H4.out.below hb)); replace HB := Lib.hid (HB.out.trans (hb.mono HB.out.size)); clear hb)
      | (go_at_call 15; (with_reducible refine (sameInts_any _ A' _ n' _ c' l _ H2.out HL.out (pick_le2 HX.out HM.out)).mono ?_); rintro e w1 ⟨rfl, hb⟩; (try replace HL := Lib.hid (HL.out.below hb)); (try replace H1 := Lib.hid (H1.out.below hb)); (try replace H2 := Lib.hid (H2.out.below hb)); (try replace H3 := Lib.hid (H3.out.below hb)); (try replace H4 := Lib.hid (H4.out.below hb)); replace HB := Lib.hid (HB.out.trans (hb.mono HB.out.size)); clear hb)
      | (go_at_call 15; (with_reducible refine (sameInts_any _ A' _ n' _ c' l _ H4.out HL.out (pick_le2 HX.out HM.out)).mono ?_); rintro e w1 ⟨rfl, hb⟩; (try replace HL := Lib.hid (HL.out.below hb)); (try replace H1 := Lib.hid (H1.out.below hb)); (try replace H2 := Lib.hid (H2.out.below hb)); (try replace H3 := Lib.hid (H3.out.below hb)); (try replace H4 := Lib.hid (H4.out.below hb)); replace HB := Lib.hid (HB.out.trans (hb.mono HB.out.size)); clear hb))
    all_goals go_ret
    all_goals exact ⟨rfl, HB.out⟩
end Go.Proofs.Ytihhklfmabencaa
