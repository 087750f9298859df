/-
  Contracts of the small functions on pairs.
-/
import Derived.Test.YthoajaibaedjeaaChecked
import Derived.Test.YthoajaibaedjeaaFl
import Derived.Below
import Derived.Laws.ResultCell
import Derived.Deep.RegionWith
import Derived.Outline
import Derived.Handy
import Derived.Lib.Hide
namespace Go.Proofs.Ythoajaibaedjeaa
set_option linter.unusedSimpArgs false
open Go.RowKit Go.Fl

theorem toPair_any (a b : Nat) (w : World) :
    Calls Try.prog 12 #[pr a b] w fun e w' => e = .returned (pr a b) ∧ Below w.heap.size w w' := by
  go_enter Try.func12, Try.ntmps12
  go_wp2
  exact bodyPost_ret (v := pr a b) (by simp [results, Try.results12, go_sem]) rfl ⟨rfl, by go_grown⟩

theorem iEqual_any (a b c d : Nat) (w : World) :
    Calls Try.prog 22 #[pr a b, pr c d] w fun e w' => e = .returned (.bool (ford a c == some .eq && ford b d == some .eq)) ∧ Below w.heap.size w w' := by
  go_enter Try.func22, Try.ntmps22
  go_wp2
  all_goals (go_ret; exact ⟨ret_bool (by simp_all [ford]), by go_grown⟩)

theorem sameFloat_any (a b : Nat) (h : feq a b) (w : World) :
    Calls Try.prog 29 #[fl a, fl b] w fun e w' => e = .returned (.bool true) ∧ Below w.heap.size w w' := by
  have key : (isNan a = true ∧ isNan b = true) ∨ (a = b ∧ isNan a = false) := by
    rcases h with rfl | h
    · cases hn : isNan a with
      | true => exact .inl ⟨rfl, rfl⟩
      | false => exact .inr ⟨rfl, rfl⟩
    · exact .inl h
  clear h
  rcases key with ⟨ha, hb⟩ | ⟨rfl, ha⟩
  · have h1 : FloatKind.f64.format.order a a = none := ford_nan_left ha a
    have h2 : FloatKind.f64.format.order b b = none := ford_nan_left hb b
    clear ha hb
    go_enter Try.func29, Try.ntmps29
    go_wp2
    all_goals (go_ret; exact ⟨ret_bool (by simp_all [ford]), by go_grown⟩)
  · have h1 : FloatKind.f64.format.order a a = some .eq := ford_self ha
    clear ha
    by_cases h0 : FloatKind.f64.format.order a 0 = some .eq
    · obtain ⟨r, hr⟩ := quo_zero h0
      have hq : ∀ W, fres .quo 4607182418800017408 a W = r := fres_some hr
      have hd : fdr .quo 4607182418800017408 a = 0 := fdr_some hr
      clear hr
      go_enter Try.func29, Try.ntmps29
      go_wp2
      all_goals (go_ret; exact ⟨ret_bool (by simp_all [ford]), below_drewN (Below.refl _ _) _⟩)
    · have h0' : (FloatKind.f64.format.order a 0 == some .eq) = false := by simpa using h0
      go_enter Try.func29, Try.ntmps29
      go_wp2
      all_goals (go_ret; exact ⟨ret_bool (by simp_all [ford]), by go_grown⟩)


theorem sAddPair_any (a b c d : Nat) (w : World) :
    Calls Try.prog 54 #[pr a b, pr c d] w (RetP (sumP (a, b) (c, d)) w.heap.size w) := by
  go_enter Try.func54, Try.ntmps54
  go_wp2
  refine bodyPost_ret (v := .agg #[.float .f64 _, .float .f64 _]) (by simp [results, Try.results54, go_sem]; exact ⟨rfl, rfl⟩) rfl ⟨_, _, rfl, ⟨?_, ?_⟩, fres_lt _ _ _ _, fres_lt _ _ _ _, ?_⟩
  · repeat' (first | exact feq.refl _ | apply fres_cop)
  · repeat' (first | exact feq.refl _ | apply fres_cop)
  · repeat' (first | (with_reducible exact Below.refl _ _) | (with_reducible assumption) | (with_reducible refine below_drewN ?_ _) | (with_reducible refine Below.drew ?_) | (with_reducible refine Below.alloc ?_ ?_ _) | (with_reducible refine Below.setCell ?_ ?_ _) | (simp; done) | (simp; omega))

theorem sSubPair_any (a b c d : Nat) (w : World) :
    Calls Try.prog 55 #[pr a b, pr c d] w (RetP (difP (a, b) (c, d)) w.heap.size w) := by
  go_enter Try.func55, Try.ntmps55
  go_wp2
  refine bodyPost_ret (v := .agg #[.float .f64 _, .float .f64 _]) (by simp [results, Try.results55, go_sem]; exact ⟨rfl, rfl⟩) rfl ⟨_, _, rfl, ⟨?_, ?_⟩, fres_lt _ _ _ _, fres_lt _ _ _ _, ?_⟩
  · repeat' (first | exact feq.refl _ | apply fres_cop)
  · repeat' (first | exact feq.refl _ | apply fres_cop)
  · repeat' (first | (with_reducible exact Below.refl _ _) | (with_reducible assumption) | (with_reducible refine below_drewN ?_ _) | (with_reducible refine Below.drew ?_) | (with_reducible refine Below.alloc ?_ ?_ _) | (with_reducible refine Below.setCell ?_ ?_ _) | (simp; done) | (simp; omega))

theorem sMulPair_any (a b c d : Nat) (w : World) :
    Calls Try.prog 19 #[pr a b, pr c d] w (RetP (mulP (a, b) (c, d)) w.heap.size w) := by
  go_enter Try.func19, Try.ntmps19
  go_wp2
  refine bodyPost_ret (v := .agg #[.float .f64 _, .float .f64 _]) (by simp [results, Try.results19, go_sem]; exact ⟨rfl, rfl⟩) rfl ⟨_, _, rfl, ⟨?_, ?_⟩, fres_lt _ _ _ _, fres_lt _ _ _ _, ?_⟩
  · repeat' (first | exact feq.refl _ | apply fres_cop)
  · repeat' (first | exact feq.refl _ | apply fres_cop)
  · repeat' (first | (with_reducible exact Below.refl _ _) | (with_reducible assumption) | (with_reducible refine below_drewN ?_ _) | (with_reducible refine Below.drew ?_) | (with_reducible refine Below.alloc ?_ ?_ _) | (with_reducible refine Below.setCell ?_ ?_ _) | (simp; done) | (simp; omega))

theorem iAddPair_any (a b c d : Nat) (w : World) :
    Calls Try.prog 20 #[pr a b, pr c d] w (RetP (sumP (a, b) (c, d)) w.heap.size w) := by
  go_enter Try.func20, Try.ntmps20
  go_wp2
  refine bodyPost_ret (v := .agg #[.float .f64 _, .float .f64 _]) (by simp [results, Try.results20, go_sem]; exact ⟨rfl, rfl⟩) rfl ⟨_, _, rfl, ⟨?_, ?_⟩, fres_lt _ _ _ _, fres_lt _ _ _ _, ?_⟩
  · repeat' (first | exact feq.refl _ | apply fres_cop)
  · repeat' (first | exact feq.refl _ | apply fres_cop)
  · repeat' (first | (with_reducible exact Below.refl _ _) | (with_reducible assumption) | (with_reducible refine below_drewN ?_ _) | (with_reducible refine Below.drew ?_) | (with_reducible refine Below.alloc ?_ ?_ _) | (with_reducible refine Below.setCell ?_ ?_ _) | (simp; done) | (simp; omega))

theorem iSubPair_any (a b c d : Nat) (w : World) :
    Calls Try.prog 23 #[pr a b, pr c d] w (RetP (difP (a, b) (c, d)) w.heap.size w) := by
  go_enter Try.func23, Try.ntmps23
  go_wp2
  refine bodyPost_ret (v := .agg #[.float .f64 _, .float .f64 _]) (by simp [results, Try.results23, go_sem]; exact ⟨rfl, rfl⟩) rfl ⟨_, _, rfl, ⟨?_, ?_⟩, fres_lt _ _ _ _, fres_lt _ _ _ _, ?_⟩
  · repeat' (first | exact feq.refl _ | apply fres_cop)
  · repeat' (first | exact feq.refl _ | apply fres_cop)
  · repeat' (first | (with_reducible exact Below.refl _ _) | (with_reducible assumption) | (with_reducible refine below_drewN ?_ _) | (with_reducible refine Below.drew ?_) | (with_reducible refine Below.alloc ?_ ?_ _) | (with_reducible refine Below.setCell ?_ ?_ _) | (simp; done) | (simp; omega))

theorem iMulPair_any (a b c d : Nat) (w : World) :
    Calls Try.prog 17 #[pr a b, pr c d] w (RetP (mulP (a, b) (c, d)) w.heap.size w) := by
  go_enter Try.func17, Try.ntmps17
  go_wp2
  refine bodyPost_ret (v := .agg #[.float .f64 _, .float .f64 _]) (by simp [results, Try.results17, go_sem]; exact ⟨rfl, rfl⟩) rfl ⟨_, _, rfl, ⟨?_, ?_⟩, fres_lt _ _ _ _, fres_lt _ _ _ _, ?_⟩
  · repeat' (first | exact feq.refl _ | apply fres_cop)
  · repeat' (first | exact feq.refl _ | apply fres_cop)
  · repeat' (first | (with_reducible exact Below.refl _ _) | (with_reducible assumption) | (with_reducible refine below_drewN ?_ _) | (with_reducible refine Below.drew ?_) | (with_reducible refine Below.alloc ?_ ?_ _) | (with_reducible refine Below.setCell ?_ ?_ _) | (simp; done) | (simp; omega))

theorem iBar_any (a b : Nat) (w : World) (ha : a < 2 ^ 64) (hb : b < 2 ^ 64) :
    Calls Try.prog 21 #[pr a b] w (RetP (barP (a, b)) w.heap.size w) := by
  have hn := negFloat_lt b hb
  have H := Lib.hid hn
  have H2 := Lib.hid ha
  clear hn ha hb
  go_enter Try.func21, Try.ntmps21
  go_wp2
  refine bodyPost_ret (v := pr a (Op.negFloat .f64 b)) (by simp [results, Try.results21, go_sem]) rfl ⟨_, _, rfl, peq.refl _, H2.out, H.out, ?_⟩
  · repeat' (first | (with_reducible exact Below.refl _ _) | (with_reducible assumption) | (with_reducible refine below_drewN ?_ _) | (with_reducible refine Below.drew ?_) | (with_reducible refine Below.alloc ?_ ?_ _) | (with_reducible refine Below.setCell ?_ ?_ _) | (simp; done) | (simp; omega))
