/-
  The words of a float and back: the model's own entries; FromBits and ToBits of the program.
-/
import Derived.Test.YtmjnnjjmfedlbaaDoorChecked
import Derived.Test.YtmjnnjjmfedlbaaDoorFl
import Derived.Laws.Externs
import Derived.Outline
import Derived.Handy
import Derived.Lib.Hide
import Derived.KernelRfl
namespace Go.Proofs.YtmjnnjjmfedlbaaDoor
set_option linter.unusedSimpArgs false
set_option linter.unusedVariables false
open Go.RowKit Go.Fl

/-- The word itself, of a NaN the plain one. -/
def cn (b : Nat) : Nat := if isNan b then 9221120237041090560 else b
theorem cn_feq (b : Nat) : feq (cn b) b := by
  unfold cn
  cases hn : isNan b with
  | true => exact .inr ⟨isNan_qnan, hn⟩
  | false => exact .inl rfl
theorem cn_nan {b : Nat} (h : isNan b = true) : cn b = 9221120237041090560 := by unfold cn; rw [h]; rfl
theorem cn_num {b : Nat} (h : isNan b = false) : cn b = b := by unfold cn; rw [h]; rfl
theorem cn_of {a b : Nat} (h : feq a b) : cn a = cn b := by
  rcases h with rfl | ⟨h1, h2⟩
  · rfl
  · rw [cn_nan h1, cn_nan h2]

theorem run_from (b : Nat) (w : World) : (callFunc 68 #[.int .u64 (b : Int)]).run Tryd.prog w = .ok (.value (fl b)) w :=
  (run_callFunc_extern (e := Extern.MathFloatBits.float64frombits) Tryd.func68 (by kernel_rfl) (by kernel_rfl) (by kernel_rfl) (by kernel_rfl) _ w).trans (by
    show (Sem.run Tryd.prog (pure (Value.float .f64 (b : Int).toNat)) w).andThen _ = _
    rw [Int.toNat_natCast]; rfl)

theorem run_bits (b : Nat) (w : World) : (callFunc 55 #[fl b]).run Tryd.prog w = .ok (.value (.int .u64 (b : Int))) w :=
  (run_callFunc_extern (e := Extern.MathFloatBits.float64bits) Tryd.func55 (by kernel_rfl) (by kernel_rfl) (by kernel_rfl) (by kernel_rfl) _ w).trans rfl

theorem iFromBits_any (b : Nat) (w : World) (h : b < 2 ^ 64) :
    Calls Tryd.prog 54 #[.int .u64 (b : Int)] w fun e w' => e = .returned (fl (cn b)) ∧ w' = w := by
  have hd := run_from b
  have hq : ∀ W, (callFunc 68 #[.int .u64 9221120237041090560]).run Tryd.prog W = .ok (.value (fl 9221120237041090560)) W := run_from 9221120237041090560
  clear h
  cases hn : isNan b with
  | true =>
    have HC := Lib.hid (cn_nan hn)
    have ho : FloatKind.f64.format.order b b = none := ford_nan_left hn b
    clear hn
    go_enter Tryd.func54, Tryd.ntmps54
    go_wp2
    all_goals (go_ret; exact ⟨by rw [HC.out]; simp_all [ford], rfl⟩)
  | false =>
    have HC := Lib.hid (cn_num hn)
    have ho : FloatKind.f64.format.order b b = some .eq := ford_self hn
    clear hn
    go_enter Tryd.func54, Tryd.ntmps54
    go_wp2
    all_goals (go_ret; exact ⟨by rw [HC.out]; simp_all [ford], rfl⟩)

theorem iToBits_any (b : Nat) (w : World) :
    Calls Tryd.prog 30 #[fl b] w fun e w' => e = .returned (.int .u64 ((cn b : Nat) : Int)) ∧ w' = w := by
  have hd := run_bits b
  cases hn : isNan b with
  | true =>
    have HC := Lib.hid (cn_nan hn)
    have ho : FloatKind.f64.format.order b b = none := ford_nan_left hn b
    clear hn
    go_enter Tryd.func30, Tryd.ntmps30
    go_wp2
    all_goals (go_ret; exact ⟨by rw [HC.out]; simp_all [ford], rfl⟩)
  | false =>
    have HC := Lib.hid (cn_num hn)
    have ho : FloatKind.f64.format.order b b = some .eq := ford_self hn
    clear hn
    go_enter Tryd.func30, Tryd.ntmps30
    go_wp2
    all_goals (go_ret; exact ⟨by rw [HC.out]; simp_all [ford], rfl⟩)
end Go.Proofs.YtmjnnjjmfedlbaaDoor
