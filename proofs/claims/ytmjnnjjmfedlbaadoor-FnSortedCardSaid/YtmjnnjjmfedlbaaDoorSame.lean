/-
  The contract of sameFloat: equal words, or two NaNs, are told to be the same.
-/
import Derived.Test.YtmjnnjjmfedlbaaDoorChecked
import Derived.Test.YtmjnnjjmfedlbaaDoorFl
import Derived.Below
import Derived.Outline
import Derived.Handy
import Derived.Lib.Hide
namespace Go.Proofs.YtmjnnjjmfedlbaaDoor
set_option linter.unusedSimpArgs false
open Go.RowKit Go.Fl

theorem sameFloat_any (a b : Nat) (h : feq a b) (w : World) :
    Calls Tryd.prog 35 #[fl a, fl b] w fun e w' => e = .returned (.bool true) ∧ Below w.heap.size w w' := by
  have key : (isNan a = true ∧ isNan b = true) ∨ (a = b ∧ isNan a = false) := by
    rcases h with rfl | h
    · cases hn : isNan a with
      | true => exact .inl ⟨rfl, rfl⟩
      | false => exact .inr ⟨rfl, rfl⟩
    · exact .inl h
  clear h
  rcases key with ⟨ha, hb⟩ | ⟨rfl, ha⟩
  · have h1 : FloatKind.f64.format.order a a = none := ford_nan_left ha a
    have h2 : FloatKind.f64.format.order b b = none := ford_nan_left hb b
    clear ha hb
    go_enter Tryd.func35, Tryd.ntmps35
    go_wp2
    all_goals (go_ret; exact ⟨ret_bool (by simp_all [ford]), by go_grown⟩)
  · have h1 : FloatKind.f64.format.order a a = some .eq := ford_self ha
    clear ha
    by_cases h0 : FloatKind.f64.format.order a 0 = some .eq
    · obtain ⟨r, hr⟩ := quo_zero h0
      have hq : ∀ W, fres .quo 4607182418800017408 a W = r := fres_some hr
      have hd : fdr .quo 4607182418800017408 a = 0 := fdr_some hr
      clear hr
      go_enter Tryd.func35, Tryd.ntmps35
      go_wp2
      all_goals (go_ret; exact ⟨ret_bool (by simp_all [ford]), below_drewN (Below.refl _ _) _⟩)
    · have h0' : (FloatKind.f64.format.order a 0 == some .eq) = false := by simpa using h0
      go_enter Tryd.func35, Tryd.ntmps35
      go_wp2
      all_goals (go_ret; exact ⟨ret_bool (by simp_all [ford]), by go_grown⟩)


end Go.Proofs.YtmjnnjjmfedlbaaDoor
