/-
  The walk of the law PowPair: for every pair and every number it returns true.
-/
import Derived.Test.YthoajaibaedjeaaPw
namespace Go.Proofs.Ythoajaibaedjeaa
set_option linter.unusedSimpArgs false
set_option linter.unusedVariables false
open Go.RowKit Go.Fl

set_option maxHeartbeats 1600000 in
theorem walk_FnExactPowPair (a b : Nat) (n : Int) (w : World) (ha : a < 2 ^ 64) (hb : b < 2 ^ 64) (hn : (Lit.int .i64 n).wf = true) :
    Calls Try.prog 3 #[pr a b, .int .i64 n] w fun e w' => e = .returned (.bool true) ∧ Below w.heap.size w w' := by
  clear ha hb hn
  go_enter Try.func3, Try.ntmps3
  go_wp2_with fail
  refine (toPair_any _ _ _).mono ?_
  rintro e w1 ⟨rfl, hb1⟩
  have B1 := Lib.hid (show Blk w1 w.heap.size 24 #[fl a, fl b] from (Blk.new w _ _).below hb1 (by simp))
  have Y1 := Lib.hid (show Below w.heap.size w w1 from ((Below.refl _ _).alloc (Nat.le_refl _) _).trans (hb1.mono (by simp)))
  clear hb1
  go_wp2_with fail
  refine (sPowPair_any _ _ _ _).mono ?_
  rintro e w2 ⟨r, i, rfl, hp, -, -, hb2⟩
  have HP := Lib.hid hp
  have B2 := Lib.hid (B1.out.below hb2 B1.out.lt)
  have Y2 := Lib.hid (Y1.out.trans (hb2.mono Y1.out.size))
  have c0 : w2.cell? ⟨w.heap.size, 0, none⟩ = some (fl a) := B2.out.cell 0
  have c1 : w2.cell? ⟨w.heap.size, 1, none⟩ = some (fl b) := B2.out.cell 1
  have hl : w.heap.size < w2.heap.size := B2.out.lt
  have hne : w.heap.size ≠ w2.heap.size := by omega
  clear hp hb2
  go_wp2_with fail
  refine (toPair_any _ _ _).mono ?_
  rintro e w3 ⟨rfl, hb3⟩
  have C3 := Lib.hid (show Blk w3 w2.heap.size 25 #[fl r, fl i] from (Blk.new w2 _ _).below hb3 (by simp))
  have Y3 := Lib.hid (show Below w.heap.size w w3 from (Y2.out.alloc Y2.out.size _).trans (hb3.mono (by simp; omega)))
  clear hb3 c0 c1
  go_wp2_with fail
  refine (iPowPair_any _ _ _ _).mono ?_
  rintro e w4 ⟨r', i', rfl, hp', -, -, hb4⟩
  have HQ := Lib.hid (hp'.trans HP.out.symm)
  have C4 := Lib.hid (C3.out.below hb4 C3.out.lt)
  have Y4 := Lib.hid (Y3.out.trans (hb4.mono Y3.out.size))
  have c0 : w4.cell? ⟨w2.heap.size, 0, none⟩ = some (fl r) := C4.out.cell 0
  have c1 : w4.cell? ⟨w2.heap.size, 1, none⟩ = some (fl i) := C4.out.cell 1
  have hl4 : w2.heap.size < w4.heap.size := C4.out.lt
  have hne4 : w2.heap.size ≠ w4.heap.size := by omega
  clear hp' hb4
  go_wp2_with fail
  refine (eqPair_any _ _ _ _ HQ.out _).mono ?_
  rintro e w5 ⟨rfl, hb5⟩
  have Y5 := Lib.hid ((Y4.out.alloc Y4.out.size _).trans (hb5.mono (by simp; have := Y4.out.size; omega)))
  clear hb5
  go_wp2_with fail
  go_ret
  exact ⟨rfl, Y5.out⟩
end Go.Proofs.Ythoajaibaedjeaa
