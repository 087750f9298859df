/-
  The walk of the law SumPairs: for every list of pairs and every number of workers it returns true.
-/
import Derived.Test.YthoajaibaedjeaaSi
namespace Go.Proofs.Ythoajaibaedjeaa
set_option linter.unusedSimpArgs false
set_option linter.unusedVariables false
open Go.RowKit Go.Fl

theorem prow_ofS {w : World} {g n : Nat} {ps : List (Nat × Nat)} (h : ps.length = n) (hn : n ≤ 1048576) (hf : PB w g ps) : PRow w (some ⟨g, 0, none⟩) n n ps := by
  subst h; exact PBlk.row hf hn

set_option maxHeartbeats 1600000 in
theorem walk_FnExactSumPairs (A : Option Addr) (n c : Nat) (ps : List (Nat × Nat)) (k : Int) (w : World) (h : PRow w A n c ps ∧ ∀ p ∈ ps, p.1 < 2 ^ 64 ∧ p.2 < 2 ^ 64) (hk : (Lit.int .i64 k).wf = true) :
    Calls Try.prog 8 #[.slice A n c, .int .i64 k] w fun e w' => e = .returned (.bool true) ∧ Below w.heap.size w w' := by
  clear hk
  by_cases hn : n ≤ 1048576
  · have HN := Lib.hid hn
    have HX := Lib.hid h.1.1
    have HR := Lib.hid h.1
    have hd : decide (1048576 - (n : Int) < 0) = false := decide_eq_false (by omega)
    clear h hn
    go_enter Try.func8, Try.ntmps8
    go_upto_region 5 with ((go_at_call 30; (with_reducible refine (sz_any _ _ _ _ HN.out).mono ?_); rintro e w1 ⟨rfl, rfl⟩))
    go_wp2_with fail
    refine (toPairS_any A n c ps _ HR.out HN.out).mono ?_
    rintro e w1 ⟨g1, rfl, hg1, hpb, hb1⟩
    rw [HX.out]
    have R1 := Lib.hid (prow_ofS HX.out HN.out hpb)
    have Y1 := Lib.hid hb1
    clear hpb hb1
    go_wp2_with fail
    refine (sSumPairs_any _ _ _ ps k _ R1.out).mono ?_
    rintro e w2 ⟨r, i, rfl, hp, -, -, hb2⟩
    have HP := Lib.hid hp
    have Y2 := Lib.hid (Y1.out.trans (hb2.mono Y1.out.size))
    clear hp hb2
    go_wp2_with fail
    refine (toPairS_any A n c ps _ (HR.out.below (Y2.out.alloc Y2.out.size _)) HN.out).mono ?_
    rintro e w7 ⟨g7, rfl, hg7, hpb, hb7⟩
    rw [HX.out]
    have R7 := Lib.hid (prow_ofS HX.out HN.out hpb)
    have Y7 := Lib.hid ((Y2.out.alloc Y2.out.size _).trans (hb7.mono (by simp; have := Y2.out.size; omega)))
    have C7 := Lib.hid (show Blk w7 w2.heap.size 25 #[fl r, fl i] from (Blk.new w2 _ _).below hb7 (by simp))
    clear hpb hb7
    go_wp2_with fail
    refine (iSumPairs_any _ _ _ ps k _ R7.out).mono ?_
    rintro e w9 ⟨r', i', rfl, hp', -, -, hb9⟩
    have HQ := Lib.hid (hp'.trans HP.out.symm)
    have R9 := Lib.hid (R7.out.below hb9)
    have Y9 := Lib.hid (Y7.out.trans (hb9.mono Y7.out.size))
    have C9 := Lib.hid (C7.out.below hb9 C7.out.lt)
    have k0 : w9.cell? ⟨w2.heap.size, 0, none⟩ = some (fl r) := C9.out.cell 0
    have k1 : w9.cell? ⟨w2.heap.size, 1, none⟩ = some (fl i) := C9.out.cell 1
    have hl9 : w2.heap.size < w9.heap.size := C9.out.lt
    have hn9 : w2.heap.size ≠ w9.heap.size := by omega
    clear hp' hb9
    go_wp2_with fail
    refine (eqPair_any _ _ _ _ HQ.out _).mono ?_
    rintro e wa ⟨rfl, hba⟩
    have Ra := Lib.hid ((R9.out.below ((Below.refl _ _).alloc (Nat.le_refl _) _)).below hba)
    have Ya := Lib.hid ((Y9.out.alloc Y9.out.size _).trans (hba.mono (by simp; have := Y9.out.size; omega)))
    clear hba k0 k1
    go_wp2_with fail
    refine (toPairS_any A n c ps _ (HR.out.below Ya.out) HN.out).mono ?_
    rintro e wb ⟨gb, rfl, hgb, hpb, hbb⟩
    rw [HX.out]
    have Rb := Lib.hid (prow_ofS HX.out HN.out hpb)
    have Rc := Lib.hid (Ra.out.below hbb)
    have Yb := Lib.hid (Ya.out.trans (hbb.mono Ya.out.size))
    clear hpb hbb
    go_wp2_with fail
    refine (eqPairS_any _ _ _ _ _ _ ps ps _ Rc.out Rb.out (pleq.refl _) HN.out).mono ?_
    rintro e wd ⟨rfl, hbd⟩
    have Yd := Lib.hid (Yb.out.trans (hbd.mono Yb.out.size))
    clear hbd
    go_wp2_with fail
    go_ret
    exact ⟨rfl, Yd.out⟩
  · have HN := Lib.hid (show 1048576 < n by omega)
    have HM := Lib.hid (show n ≤ maxLen from Nat.le_trans h.1.2.1 h.1.2.2.1)
    clear h hn
    go_enter Try.func8, Try.ntmps8
    go_wp2_with ((go_at_call 30; (with_reducible refine (sz_big _ _ _ _ HN.out HM.out).mono ?_); rintro e w1 ⟨rfl, rfl⟩))
    go_ret
    exact ⟨rfl, Below.refl _ _⟩
end Go.Proofs.Ythoajaibaedjeaa
