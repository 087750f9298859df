/-
  Walks of the laws on pairs: Equal, AddPair, SubPair, MulPair, DivPair; Power2, Bar, TwoSum.
-/
import Derived.Test.YthoajaibaedjeaaA
import Derived.Deep.RegionHeld3
import Derived.Deep.DeepCutAuto
namespace Go.Proofs.Ythoajaibaedjeaa
set_option linter.unusedSimpArgs false
set_option linter.unusedVariables false
open Go.RowKit Go.Fl

theorem eqPair_any (a b c d : Nat) (h : peq (a, b) (c, d)) (w : World) :
    Calls Try.prog 14 #[pr a b, pr c d] w fun e w' => e = .returned (.bool true) ∧ Below w.heap.size w w' := by
  have H1 := Lib.hid h.1
  have H2 := Lib.hid h.2
  clear h
  go_enter Try.func14, Try.ntmps14
  go_wp2_with fail
  refine (sameFloat_any _ _ H1.out _).mono ?_
  rintro e w1 ⟨rfl, hb1⟩
  obtain ⟨hc1, hf1⟩ := bcell hb1; have hm1 := blt hb1; have hz1 := hb1.size; (try simp only [World.size_alloc, World.size_drew, World.size_setCell] at hz1)
  have hz := hb1.size
  simp only [World.size_alloc] at hz
  go_wp2_with fail
  refine (sameFloat_any _ _ H2.out _).mono ?_
  rintro e w2 ⟨rfl, hb2⟩
  go_wp2_with fail
  go_ret
  refine ⟨rfl, ?_⟩
  refine ((((Below.refl _ _).alloc (Nat.le_refl _) _).alloc (by simp) _).trans (hb1.mono (by simp; omega))).trans (hb2.mono (by omega))


end Go.Proofs.Ythoajaibaedjeaa