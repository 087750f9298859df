/-
  The contract of Clip, of the program and of the reference, and the walk of its law.
-/
import Derived.Test.YtihhklfmabencaaChecked
import Derived.WalkKit
import Derived.WalkLawsBesides
import Derived.Below
import Derived.Outline
import Derived.Handy
import Derived.Deep.QuietTactic
import Derived.BigQuiet
import Derived.Lib.Hide
namespace Go.Proofs.Ytihhklfmabencaa
set_option linter.unusedSimpArgs false
set_option linter.unusedVariables false
open Go.RowKit

/-- What Clip comes to. -/
def clp (x b : Int) : Int := if 1 ≤ b ∧ b ≤ 24 then (if x > 2 ^ (b - 1).toNat - 1 then 2 ^ (b - 1).toNat - 1 else if x < -2 ^ (b - 1).toNat then -2 ^ (b - 1).toNat else x) else 0

theorem clp_at (x b T : Int) (h1 : 1 ≤ b) (h2 : b ≤ 24) (hT : (2 : Int) ^ (b - 1).toNat = T) (h0 : 1 ≤ T) : clp x b = (if T - 1 < (if x < -T then -T else x) then T - 1 else (if x < -T then -T else x)) := by
  unfold clp
  rw [if_pos ⟨h1, h2⟩, hT]
  (repeat' split) <;> omega

def near (x lo hi : Int) : Int := if hi < (if x < lo then lo else x) then hi else (if x < lo then lo else x)

theorem ret_i64c {a b : Int} (h : a = b) : Ending.returned (.int .i64 a) = .returned (.int .i64 b) := by rw [h]

theorem nearer_any (x lo hi : Int) (w : World) : Calls Try.prog 50 #[.int .i64 x, .int .i64 lo, .int .i64 hi] w fun e w' => e = .returned (.int .i64 (near x lo hi)) ∧ w' = w := by
  go_enter Try.func50, Try.ntmps50
  go_wp2
  all_goals (go_ret; refine ⟨ret_i64c ?_, rfl⟩; unfold near; (repeat' split) <;> omega)


theorem iClip_1 (x : Int) (w : World) : Calls Try.prog 24 #[.int .i64 x, .int .i64 1] w fun e w' => e = .returned (.int .i64 (clp x 1)) ∧ Below w.heap.size w w' := by
  have HC := Lib.hid (clp_at x 1 1 (by decide) (by decide) (by decide) (by decide))
  go_enter Try.func24, Try.ntmps24
  go_wp2
  go_quiet ((go_at_call 50; exact Calls.quiet_of_same (nearer_any _ _ _ _)))
  go_wp2
  go_ret
  exact ⟨ret_i64c HC.out.symm, ⟨rfl, rfl, rfl, Nat.le_refl _, fun _ _ => rfl⟩⟩

theorem sClip_1 (x : Int) (w : World) : Calls Try.prog 47 #[.int .i64 x, .int .i64 1] w fun e w' => e = .returned (.int .i64 (clp x 1)) ∧ Below w.heap.size w w' := by
  have HC := Lib.hid (clp_at x 1 1 (by decide) (by decide) (by decide) (by decide))
  go_enter Try.func47, Try.ntmps47
  go_wp2
  all_goals (go_ret; refine ⟨ret_i64c ?_, Below.refl _ _⟩; rw [HC.out]; (repeat' split) <;> omega)

theorem iClip_2 (x : Int) (w : World) : Calls Try.prog 24 #[.int .i64 x, .int .i64 2] w fun e w' => e = .returned (.int .i64 (clp x 2)) ∧ Below w.heap.size w w' := by
  have HC := Lib.hid (clp_at x 2 2 (by decide) (by decide) (by decide) (by decide))
  go_enter Try.func24, Try.ntmps24
  go_wp2
  go_quiet ((go_at_call 50; exact Calls.quiet_of_same (nearer_any _ _ _ _)))
  go_wp2
  go_ret
  exact ⟨ret_i64c HC.out.symm, ⟨rfl, rfl, rfl, Nat.le_refl _, fun _ _ => rfl⟩⟩

theorem sClip_2 (x : Int) (w : World) : Calls Try.prog 47 #[.int .i64 x, .int .i64 2] w fun e w' => e = .returned (.int .i64 (clp x 2)) ∧ Below w.heap.size w w' := by
  have HC := Lib.hid (clp_at x 2 2 (by decide) (by decide) (by decide) (by decide))
  go_enter Try.func47, Try.ntmps47
  go_wp2
  all_goals (go_ret; refine ⟨ret_i64c ?_, Below.refl _ _⟩; rw [HC.out]; (repeat' split) <;> omega)

theorem iClip_3 (x : Int) (w : World) : Calls Try.prog 24 #[.int .i64 x, .int .i64 3] w fun e w' => e = .returned (.int .i64 (clp x 3)) ∧ Below w.heap.size w w' := by
  have HC := Lib.hid (clp_at x 3 4 (by decide) (by decide) (by decide) (by decide))
  go_enter Try.func24, Try.ntmps24
  go_wp2
  go_quiet ((go_at_call 50; exact Calls.quiet_of_same (nearer_any _ _ _ _)))
  go_wp2
  go_ret
  exact ⟨ret_i64c HC.out.symm, ⟨rfl, rfl, rfl, Nat.le_refl _, fun _ _ => rfl⟩⟩

theorem sClip_3 (x : Int) (w : World) : Calls Try.prog 47 #[.int .i64 x, .int .i64 3] w fun e w' => e = .returned (.int .i64 (clp x 3)) ∧ Below w.heap.size w w' := by
  have HC := Lib.hid (clp_at x 3 4 (by decide) (by decide) (by decide) (by decide))
  go_enter Try.func47, Try.ntmps47
  go_wp2
  all_goals (go_ret; refine ⟨ret_i64c ?_, Below.refl _ _⟩; rw [HC.out]; (repeat' split) <;> omega)

theorem iClip_4 (x : Int) (w : World) : Calls Try.prog 24 #[.int .i64 x, .int .i64 4] w fun e w' => e = .returned (.int .i64 (clp x 4)) ∧ Below w.heap.size w w' := by
  have HC := Lib.hid (clp_at x 4 8 (by decide) (by decide) (by decide) (by decide))
  go_enter Try.func24, Try.ntmps24
  go_wp2
  go_quiet ((go_at_call 50; exact Calls.quiet_of_same (nearer_any _ _ _ _)))
  go_wp2
  go_ret
  exact ⟨ret_i64c HC.out.symm, ⟨rfl, rfl, rfl, Nat.le_refl _, fun _ _ => rfl⟩⟩

theorem sClip_4 (x : Int) (w : World) : Calls Try.prog 47 #[.int .i64 x, .int .i64 4] w fun e w' => e = .returned (.int .i64 (clp x 4)) ∧ Below w.heap.size w w' := by
  have HC := Lib.hid (clp_at x 4 8 (by decide) (by decide) (by decide) (by decide))
  go_enter Try.func47, Try.ntmps47
  go_wp2
  all_goals (go_ret; refine ⟨ret_i64c ?_, Below.refl _ _⟩; rw [HC.out]; (repeat' split) <;> omega)

theorem iClip_5 (x : Int) (w : World) : Calls Try.prog 24 #[.int .i64 x, .int .i64 5] w fun e w' => e = .returned (.int .i64 (clp x 5)) ∧ Below w.heap.size w w' := by
  have HC := Lib.hid (clp_at x 5 16 (by decide) (by decide) (by decide) (by decide))
  go_enter Try.func24, Try.ntmps24
  go_wp2
  go_quiet ((go_at_call 50; exact Calls.quiet_of_same (nearer_any _ _ _ _)))
  go_wp2
  go_ret
  exact ⟨ret_i64c HC.out.symm, ⟨rfl, rfl, rfl, Nat.le_refl _, fun _ _ => rfl⟩⟩

theorem sClip_5 (x : Int) (w : World) : Calls Try.prog 47 #[.int .i64 x, .int .i64 5] w fun e w' => e = .returned (.int .i64 (clp x 5)) ∧ Below w.heap.size w w' := by
  have HC := Lib.hid (clp_at x 5 16 (by decide) (by decide) (by decide) (by decide))
  go_enter Try.func47, Try.ntmps47
  go_wp2
  all_goals (go_ret; refine ⟨ret_i64c ?_, Below.refl _ _⟩; rw [HC.out]; (repeat' split) <;> omega)

theorem iClip_6 (x : Int) (w : World) : Calls Try.prog 24 #[.int .i64 x, .int .i64 6] w fun e w' => e = .returned (.int .i64 (clp x 6)) ∧ Below w.heap.size w w' := by
  have HC := Lib.hid (clp_at x 6 32 (by decide) (by decide) (by decide) (by decide))
  go_enter Try.func24, Try.ntmps24
  go_wp2
  go_quiet ((go_at_call 50; exact Calls.quiet_of_same (nearer_any _ _ _ _)))
  go_wp2
  go_ret
  exact ⟨ret_i64c HC.out.symm, ⟨rfl, rfl, rfl, Nat.le_refl _, fun _ _ => rfl⟩⟩

theorem sClip_6 (x : Int) (w : World) : Calls Try.prog 47 #[.int .i64 x, .int .i64 6] w fun e w' => e = .returned (.int .i64 (clp x 6)) ∧ Below w.heap.size w w' := by
  have HC := Lib.hid (clp_at x 6 32 (by decide) (by decide) (by decide) (by decide))
  go_enter Try.func47, Try.ntmps47
  go_wp2
  all_goals (go_ret; refine ⟨ret_i64c ?_, Below.refl _ _⟩; rw [HC.out]; (repeat' split) <;> omega)

theorem iClip_7 (x : Int) (w : World) : Calls Try.prog 24 #[.int .i64 x, .int .i64 7] w fun e w' => e = .returned (.int .i64 (clp x 7)) ∧ Below w.heap.size w w' := by
  have HC := Lib.hid (clp_at x 7 64 (by decide) (by decide) (by decide) (by decide))
  go_enter Try.func24, Try.ntmps24
  go_wp2
  go_quiet ((go_at_call 50; exact Calls.quiet_of_same (nearer_any _ _ _ _)))
  go_wp2
  go_ret
  exact ⟨ret_i64c HC.out.symm, ⟨rfl, rfl, rfl, Nat.le_refl _, fun _ _ => rfl⟩⟩

theorem sClip_7 (x : Int) (w : World) : Calls Try.prog 47 #[.int .i64 x, .int .i64 7] w fun e w' => e = .returned (.int .i64 (clp x 7)) ∧ Below w.heap.size w w' := by
  have HC := Lib.hid (clp_at x 7 64 (by decide) (by decide) (by decide) (by decide))
  go_enter Try.func47, Try.ntmps47
  go_wp2
  all_goals (go_ret; refine ⟨ret_i64c ?_, Below.refl _ _⟩; rw [HC.out]; (repeat' split) <;> omega)

theorem iClip_8 (x : Int) (w : World) : Calls Try.prog 24 #[.int .i64 x, .int .i64 8] w fun e w' => e = .returned (.int .i64 (clp x 8)) ∧ Below w.heap.size w w' := by
  have HC := Lib.hid (clp_at x 8 128 (by decide) (by decide) (by decide) (by decide))
  go_enter Try.func24, Try.ntmps24
  go_wp2
  go_quiet ((go_at_call 50; exact Calls.quiet_of_same (nearer_any _ _ _ _)))
  go_wp2
  go_ret
  exact ⟨ret_i64c HC.out.symm, ⟨rfl, rfl, rfl, Nat.le_refl _, fun _ _ => rfl⟩⟩

theorem sClip_8 (x : Int) (w : World) : Calls Try.prog 47 #[.int .i64 x, .int .i64 8] w fun e w' => e = .returned (.int .i64 (clp x 8)) ∧ Below w.heap.size w w' := by
  have HC := Lib.hid (clp_at x 8 128 (by decide) (by decide) (by decide) (by decide))
  go_enter Try.func47, Try.ntmps47
  go_wp2
  all_goals (go_ret; refine ⟨ret_i64c ?_, Below.refl _ _⟩; rw [HC.out]; (repeat' split) <;> omega)

theorem iClip_9 (x : Int) (w : World) : Calls Try.prog 24 #[.int .i64 x, .int .i64 9] w fun e w' => e = .returned (.int .i64 (clp x 9)) ∧ Below w.heap.size w w' := by
  have HC := Lib.hid (clp_at x 9 256 (by decide) (by decide) (by decide) (by decide))
  go_enter Try.func24, Try.ntmps24
  go_wp2
  go_quiet ((go_at_call 50; exact Calls.quiet_of_same (nearer_any _ _ _ _)))
  go_wp2
  go_ret
  exact ⟨ret_i64c HC.out.symm, ⟨rfl, rfl, rfl, Nat.le_refl _, fun _ _ => rfl⟩⟩

theorem sClip_9 (x : Int) (w : World) : Calls Try.prog 47 #[.int .i64 x, .int .i64 9] w fun e w' => e = .returned (.int .i64 (clp x 9)) ∧ Below w.heap.size w w' := by
  have HC := Lib.hid (clp_at x 9 256 (by decide) (by decide) (by decide) (by decide))
  go_enter Try.func47, Try.ntmps47
  go_wp2
  all_goals (go_ret; refine ⟨ret_i64c ?_, Below.refl _ _⟩; rw [HC.out]; (repeat' split) <;> omega)

theorem iClip_10 (x : Int) (w : World) : Calls Try.prog 24 #[.int .i64 x, .int .i64 10] w fun e w' => e = .returned (.int .i64 (clp x 10)) ∧ Below w.heap.size w w' := by
  have HC := Lib.hid (clp_at x 10 512 (by decide) (by decide) (by decide) (by decide))
  go_enter Try.func24, Try.ntmps24
  go_wp2
  go_quiet ((go_at_call 50; exact Calls.quiet_of_same (nearer_any _ _ _ _)))
  go_wp2
  go_ret
  exact ⟨ret_i64c HC.out.symm, ⟨rfl, rfl, rfl, Nat.le_refl _, fun _ _ => rfl⟩⟩

theorem sClip_10 (x : Int) (w : World) : Calls Try.prog 47 #[.int .i64 x, .int .i64 10] w fun e w' => e = .returned (.int .i64 (clp x 10)) ∧ Below w.heap.size w w' := by
  have HC := Lib.hid (clp_at x 10 512 (by decide) (by decide) (by decide) (by decide))
  go_enter Try.func47, Try.ntmps47
  go_wp2
  all_goals (go_ret; refine ⟨ret_i64c ?_, Below.refl _ _⟩; rw [HC.out]; (repeat' split) <;> omega)

theorem iClip_11 (x : Int) (w : World) : Calls Try.prog 24 #[.int .i64 x, .int .i64 11] w fun e w' => e = .returned (.int .i64 (clp x 11)) ∧ Below w.heap.size w w' := by
  have HC := Lib.hid (clp_at x 11 1024 (by decide) (by decide) (by decide) (by decide))
  go_enter Try.func24, Try.ntmps24
  go_wp2
  go_quiet ((go_at_call 50; exact Calls.quiet_of_same (nearer_any _ _ _ _)))
  go_wp2
  go_ret
  exact ⟨ret_i64c HC.out.symm, ⟨rfl, rfl, rfl, Nat.le_refl _, fun _ _ => rfl⟩⟩

theorem sClip_11 (x : Int) (w : World) : Calls Try.prog 47 #[.int .i64 x, .int .i64 11] w fun e w' => e = .returned (.int .i64 (clp x 11)) ∧ Below w.heap.size w w' := by
  have HC := Lib.hid (clp_at x 11 1024 (by decide) (by decide) (by decide) (by decide))
  go_enter Try.func47, Try.ntmps47
  go_wp2
  all_goals (go_ret; refine ⟨ret_i64c ?_, Below.refl _ _⟩; rw [HC.out]; (repeat' split) <;> omega)

theorem iClip_12 (x : Int) (w : World) : Calls Try.prog 24 #[.int .i64 x, .int .i64 12] w fun e w' => e = .returned (.int .i64 (clp x 12)) ∧ Below w.heap.size w w' := by
  have HC := Lib.hid (clp_at x 12 2048 (by decide) (by decide) (by decide) (by decide))
  go_enter Try.func24, Try.ntmps24
  go_wp2
  go_quiet ((go_at_call 50; exact Calls.quiet_of_same (nearer_any _ _ _ _)))
  go_wp2
  go_ret
  exact ⟨ret_i64c HC.out.symm, ⟨rfl, rfl, rfl, Nat.le_refl _, fun _ _ => rfl⟩⟩

theorem sClip_12 (x : Int) (w : World) : Calls Try.prog 47 #[.int .i64 x, .int .i64 12] w fun e w' => e = .returned (.int .i64 (clp x 12)) ∧ Below w.heap.size w w' := by
  have HC := Lib.hid (clp_at x 12 2048 (by decide) (by decide) (by decide) (by decide))
  go_enter Try.func47, Try.ntmps47
  go_wp2
  all_goals (go_ret; refine ⟨ret_i64c ?_, Below.refl _ _⟩; rw [HC.out]; (repeat' split) <;> omega)

theorem iClip_13 (x : Int) (w : World) : Calls Try.prog 24 #[.int .i64 x, .int .i64 13] w fun e w' => e = .returned (.int .i64 (clp x 13)) ∧ Below w.heap.size w w' := by
  have HC := Lib.hid (clp_at x 13 4096 (by decide) (by decide) (by decide) (by decide))
  go_enter Try.func24, Try.ntmps24
  go_wp2
  go_quiet ((go_at_call 50; exact Calls.quiet_of_same (nearer_any _ _ _ _)))
  go_wp2
  go_ret
  exact ⟨ret_i64c HC.out.symm, ⟨rfl, rfl, rfl, Nat.le_refl _, fun _ _ => rfl⟩⟩

theorem sClip_13 (x : Int) (w : World) : Calls Try.prog 47 #[.int .i64 x, .int .i64 13] w fun e w' => e = .returned (.int .i64 (clp x 13)) ∧ Below w.heap.size w w' := by
  have HC := Lib.hid (clp_at x 13 4096 (by decide) (by decide) (by decide) (by decide))
  go_enter Try.func47, Try.ntmps47
  go_wp2
  all_goals (go_ret; refine ⟨ret_i64c ?_, Below.refl _ _⟩; rw [HC.out]; (repeat' split) <;> omega)

theorem iClip_14 (x : Int) (w : World) : Calls Try.prog 24 #[.int .i64 x, .int .i64 14] w fun e w' => e = .returned (.int .i64 (clp x 14)) ∧ Below w.heap.size w w' := by
  have HC := Lib.hid (clp_at x 14 8192 (by decide) (by decide) (by decide) (by decide))
  go_enter Try.func24, Try.ntmps24
  go_wp2
  go_quiet ((go_at_call 50; exact Calls.quiet_of_same (nearer_any _ _ _ _)))
  go_wp2
  go_ret
  exact ⟨ret_i64c HC.out.symm, ⟨rfl, rfl, rfl, Nat.le_refl _, fun _ _ => rfl⟩⟩

theorem sClip_14 (x : Int) (w : World) : Calls Try.prog 47 #[.int .i64 x, .int .i64 14] w fun e w' => e = .returned (.int .i64 (clp x 14)) ∧ Below w.heap.size w w' := by
  have HC := Lib.hid (clp_at x 14 8192 (by decide) (by decide) (by decide) (by decide))
  go_enter Try.func47, Try.ntmps47
  go_wp2
  all_goals (go_ret; refine ⟨ret_i64c ?_, Below.refl _ _⟩; rw [HC.out]; (repeat' split) <;> omega)

theorem iClip_15 (x : Int) (w : World) : Calls Try.prog 24 #[.int .i64 x, .int .i64 15] w fun e w' => e = .returned (.int .i64 (clp x 15)) ∧ Below w.heap.size w w' := by
  have HC := Lib.hid (clp_at x 15 16384 (by decide) (by decide) (by decide) (by decide))
  go_enter Try.func24, Try.ntmps24
  go_wp2
  go_quiet ((go_at_call 50; exact Calls.quiet_of_same (nearer_any _ _ _ _)))
  go_wp2
  go_ret
  exact ⟨ret_i64c HC.out.symm, ⟨rfl, rfl, rfl, Nat.le_refl _, fun _ _ => rfl⟩⟩

theorem sClip_15 (x : Int) (w : World) : Calls Try.prog 47 #[.int .i64 x, .int .i64 15] w fun e w' => e = .returned (.int .i64 (clp x 15)) ∧ Below w.heap.size w w' := by
  have HC := Lib.hid (clp_at x 15 16384 (by decide) (by decide) (by decide) (by decide))
  go_enter Try.func47, Try.ntmps47
  go_wp2
  all_goals (go_ret; refine ⟨ret_i64c ?_, Below.refl _ _⟩; rw [HC.out]; (repeat' split) <;> omega)

theorem iClip_16 (x : Int) (w : World) : Calls Try.prog 24 #[.int .i64 x, .int .i64 16] w fun e w' => e = .returned (.int .i64 (clp x 16)) ∧ Below w.heap.size w w' := by
  have HC := Lib.hid (clp_at x 16 32768 (by decide) (by decide) (by decide) (by decide))
  go_enter Try.func24, Try.ntmps24
  go_wp2
  go_quiet ((go_at_call 50; exact Calls.quiet_of_same (nearer_any _ _ _ _)))
  go_wp2
  go_ret
  exact ⟨ret_i64c HC.out.symm, ⟨rfl, rfl, rfl, Nat.le_refl _, fun _ _ => rfl⟩⟩

theorem sClip_16 (x : Int) (w : World) : Calls Try.prog 47 #[.int .i64 x, .int .i64 16] w fun e w' => e = .returned (.int .i64 (clp x 16)) ∧ Below w.heap.size w w' := by
  have HC := Lib.hid (clp_at x 16 32768 (by decide) (by decide) (by decide) (by decide))
  go_enter Try.func47, Try.ntmps47
  go_wp2
  all_goals (go_ret; refine ⟨ret_i64c ?_, Below.refl _ _⟩; rw [HC.out]; (repeat' split) <;> omega)

theorem iClip_17 (x : Int) (w : World) : Calls Try.prog 24 #[.int .i64 x, .int .i64 17] w fun e w' => e = .returned (.int .i64 (clp x 17)) ∧ Below w.heap.size w w' := by
  have HC := Lib.hid (clp_at x 17 65536 (by decide) (by decide) (by decide) (by decide))
  go_enter Try.func24, Try.ntmps24
  go_wp2
  go_quiet ((go_at_call 50; exact Calls.quiet_of_same (nearer_any _ _ _ _)))
  go_wp2
  go_ret
  exact ⟨ret_i64c HC.out.symm, ⟨rfl, rfl, rfl, Nat.le_refl _, fun _ _ => rfl⟩⟩

theorem sClip_17 (x : Int) (w : World) : Calls Try.prog 47 #[.int .i64 x, .int .i64 17] w fun e w' => e = .returned (.int .i64 (clp x 17)) ∧ Below w.heap.size w w' := by
  have HC := Lib.hid (clp_at x 17 65536 (by decide) (by decide) (by decide) (by decide))
  go_enter Try.func47, Try.ntmps47
  go_wp2
  all_goals (go_ret; refine ⟨ret_i64c ?_, Below.refl _ _⟩; rw [HC.out]; (repeat' split) <;> omega)

theorem iClip_18 (x : Int) (w : World) : Calls Try.prog 24 #[.int .i64 x, .int .i64 18] w fun e w' => e = .returned (.int .i64 (clp x 18)) ∧ Below w.heap.size w w' := by
  have HC := Lib.hid (clp_at x 18 131072 (by decide) (by decide) (by decide) (by decide))
  go_enter Try.func24, Try.ntmps24
  go_wp2
  go_quiet ((go_at_call 50; exact Calls.quiet_of_same (nearer_any _ _ _ _)))
  go_wp2
  go_ret
  exact ⟨ret_i64c HC.out.symm, ⟨rfl, rfl, rfl, Nat.le_refl _, fun _ _ => rfl⟩⟩

theorem sClip_18 (x : Int) (w : World) : Calls Try.prog 47 #[.int .i64 x, .int .i64 18] w fun e w' => e = .returned (.int .i64 (clp x 18)) ∧ Below w.heap.size w w' := by
  have HC := Lib.hid (clp_at x 18 131072 (by decide) (by decide) (by decide) (by decide))
  go_enter Try.func47, Try.ntmps47
  go_wp2
  all_goals (go_ret; refine ⟨ret_i64c ?_, Below.refl _ _⟩; rw [HC.out]; (repeat' split) <;> omega)

theorem iClip_19 (x : Int) (w : World) : Calls Try.prog 24 #[.int .i64 x, .int .i64 19] w fun e w' => e = .returned (.int .i64 (clp x 19)) ∧ Below w.heap.size w w' := by
  have HC := Lib.hid (clp_at x 19 262144 (by decide) (by decide) (by decide) (by decide))
  go_enter Try.func24, Try.ntmps24
  go_wp2
  go_quiet ((go_at_call 50; exact Calls.quiet_of_same (nearer_any _ _ _ _)))
  go_wp2
  go_ret
  exact ⟨ret_i64c HC.out.symm, ⟨rfl, rfl, rfl, Nat.le_refl _, fun _ _ => rfl⟩⟩

theorem sClip_19 (x : Int) (w : World) : Calls Try.prog 47 #[.int .i64 x, .int .i64 19] w fun e w' => e = .returned (.int .i64 (clp x 19)) ∧ Below w.heap.size w w' := by
  have HC := Lib.hid (clp_at x 19 262144 (by decide) (by decide) (by decide) (by decide))
  go_enter Try.func47, Try.ntmps47
  go_wp2
  all_goals (go_ret; refine ⟨ret_i64c ?_, Below.refl _ _⟩; rw [HC.out]; (repeat' split) <;> omega)

theorem iClip_20 (x : Int) (w : World) : Calls Try.prog 24 #[.int .i64 x, .int .i64 20] w fun e w' => e = .returned (.int .i64 (clp x 20)) ∧ Below w.heap.size w w' := by
  have HC := Lib.hid (clp_at x 20 524288 (by decide) (by decide) (by decide) (by decide))
  go_enter Try.func24, Try.ntmps24
  go_wp2
  go_quiet ((go_at_call 50; exact Calls.quiet_of_same (nearer_any _ _ _ _)))
  go_wp2
  go_ret
  exact ⟨ret_i64c HC.out.symm, ⟨rfl, rfl, rfl, Nat.le_refl _, fun _ _ => rfl⟩⟩

theorem sClip_20 (x : Int) (w : World) : Calls Try.prog 47 #[.int .i64 x, .int .i64 20] w fun e w' => e = .returned (.int .i64 (clp x 20)) ∧ Below w.heap.size w w' := by
  have HC := Lib.hid (clp_at x 20 524288 (by decide) (by decide) (by decide) (by decide))
  go_enter Try.func47, Try.ntmps47
  go_wp2
  all_goals (go_ret; refine ⟨ret_i64c ?_, Below.refl _ _⟩; rw [HC.out]; (repeat' split) <;> omega)

theorem iClip_21 (x : Int) (w : World) : Calls Try.prog 24 #[.int .i64 x, .int .i64 21] w fun e w' => e = .returned (.int .i64 (clp x 21)) ∧ Below w.heap.size w w' := by
  have HC := Lib.hid (clp_at x 21 1048576 (by decide) (by decide) (by decide) (by decide))
  go_enter Try.func24, Try.ntmps24
  go_wp2
  go_quiet ((go_at_call 50; exact Calls.quiet_of_same (nearer_any _ _ _ _)))
  go_wp2
  go_ret
  exact ⟨ret_i64c HC.out.symm, ⟨rfl, rfl, rfl, Nat.le_refl _, fun _ _ => rfl⟩⟩

theorem sClip_21 (x : Int) (w : World) : Calls Try.prog 47 #[.int .i64 x, .int .i64 21] w fun e w' => e = .returned (.int .i64 (clp x 21)) ∧ Below w.heap.size w w' := by
  have HC := Lib.hid (clp_at x 21 1048576 (by decide) (by decide) (by decide) (by decide))
  go_enter Try.func47, Try.ntmps47
  go_wp2
  all_goals (go_ret; refine ⟨ret_i64c ?_, Below.refl _ _⟩; rw [HC.out]; (repeat' split) <;> omega)

theorem iClip_22 (x : Int) (w : World) : Calls Try.prog 24 #[.int .i64 x, .int .i64 22] w fun e w' => e = .returned (.int .i64 (clp x 22)) ∧ Below w.heap.size w w' := by
  have HC := Lib.hid (clp_at x 22 2097152 (by decide) (by decide) (by decide) (by decide))
  go_enter Try.func24, Try.ntmps24
  go_wp2
  go_quiet ((go_at_call 50; exact Calls.quiet_of_same (nearer_any _ _ _ _)))
  go_wp2
  go_ret
  exact ⟨ret_i64c HC.out.symm, ⟨rfl, rfl, rfl, Nat.le_refl _, fun _ _ => rfl⟩⟩

theorem sClip_22 (x : Int) (w : World) : Calls Try.prog 47 #[.int .i64 x, .int .i64 22] w fun e w' => e = .returned (.int .i64 (clp x 22)) ∧ Below w.heap.size w w' := by
  have HC := Lib.hid (clp_at x 22 2097152 (by decide) (by decide) (by decide) (by decide))
  go_enter Try.func47, Try.ntmps47
  go_wp2
  all_goals (go_ret; refine ⟨ret_i64c ?_, Below.refl _ _⟩; rw [HC.out]; (repeat' split) <;> omega)

theorem iClip_23 (x : Int) (w : World) : Calls Try.prog 24 #[.int .i64 x, .int .i64 23] w fun e w' => e = .returned (.int .i64 (clp x 23)) ∧ Below w.heap.size w w' := by
  have HC := Lib.hid (clp_at x 23 4194304 (by decide) (by decide) (by decide) (by decide))
  go_enter Try.func24, Try.ntmps24
  go_wp2
  go_quiet ((go_at_call 50; exact Calls.quiet_of_same (nearer_any _ _ _ _)))
  go_wp2
  go_ret
  exact ⟨ret_i64c HC.out.symm, ⟨rfl, rfl, rfl, Nat.le_refl _, fun _ _ => rfl⟩⟩

theorem sClip_23 (x : Int) (w : World) : Calls Try.prog 47 #[.int .i64 x, .int .i64 23] w fun e w' => e = .returned (.int .i64 (clp x 23)) ∧ Below w.heap.size w w' := by
  have HC := Lib.hid (clp_at x 23 4194304 (by decide) (by decide) (by decide) (by decide))
  go_enter Try.func47, Try.ntmps47
  go_wp2
  all_goals (go_ret; refine ⟨ret_i64c ?_, Below.refl _ _⟩; rw [HC.out]; (repeat' split) <;> omega)

theorem iClip_24 (x : Int) (w : World) : Calls Try.prog 24 #[.int .i64 x, .int .i64 24] w fun e w' => e = .returned (.int .i64 (clp x 24)) ∧ Below w.heap.size w w' := by
  have HC := Lib.hid (clp_at x 24 8388608 (by decide) (by decide) (by decide) (by decide))
  go_enter Try.func24, Try.ntmps24
  go_wp2
  go_quiet ((go_at_call 50; exact Calls.quiet_of_same (nearer_any _ _ _ _)))
  go_wp2
  go_ret
  exact ⟨ret_i64c HC.out.symm, ⟨rfl, rfl, rfl, Nat.le_refl _, fun _ _ => rfl⟩⟩

theorem sClip_24 (x : Int) (w : World) : Calls Try.prog 47 #[.int .i64 x, .int .i64 24] w fun e w' => e = .returned (.int .i64 (clp x 24)) ∧ Below w.heap.size w w' := by
  have HC := Lib.hid (clp_at x 24 8388608 (by decide) (by decide) (by decide) (by decide))
  go_enter Try.func47, Try.ntmps47
  go_wp2
  all_goals (go_ret; refine ⟨ret_i64c ?_, Below.refl _ _⟩; rw [HC.out]; (repeat' split) <;> omega)

theorem clp_out (x b : Int) (h : ¬ (1 ≤ b ∧ b ≤ 24)) : clp x b = 0 := by unfold clp; rw [if_neg h]

theorem iClip_any (x b : Int) (w : World) : Calls Try.prog 24 #[.int .i64 x, .int .i64 b] w fun e w' => e = .returned (.int .i64 (clp x b)) ∧ Below w.heap.size w w' := by
  by_cases h : 1 ≤ b ∧ b ≤ 24
  · have hb : b = 1 ∨ b = 2 ∨ b = 3 ∨ b = 4 ∨ b = 5 ∨ b = 6 ∨ b = 7 ∨ b = 8 ∨ b = 9 ∨ b = 10 ∨ b = 11 ∨ b = 12 ∨ b = 13 ∨ b = 14 ∨ b = 15 ∨ b = 16 ∨ b = 17 ∨ b = 18 ∨ b = 19 ∨ b = 20 ∨ b = 21 ∨ b = 22 ∨ b = 23 ∨ b = 24 := by omega
    rcases hb with rfl | rfl | rfl | rfl | rfl | rfl | rfl | rfl | rfl | rfl | rfl | rfl | rfl | rfl | rfl | rfl | rfl | rfl | rfl | rfl | rfl | rfl | rfl | rfl
    · exact iClip_1 x w
    · exact iClip_2 x w
    · exact iClip_3 x w
    · exact iClip_4 x w
    · exact iClip_5 x w
    · exact iClip_6 x w
    · exact iClip_7 x w
    · exact iClip_8 x w
    · exact iClip_9 x w
    · exact iClip_10 x w
    · exact iClip_11 x w
    · exact iClip_12 x w
    · exact iClip_13 x w
    · exact iClip_14 x w
    · exact iClip_15 x w
    · exact iClip_16 x w
    · exact iClip_17 x w
    · exact iClip_18 x w
    · exact iClip_19 x w
    · exact iClip_20 x w
    · exact iClip_21 x w
    · exact iClip_22 x w
    · exact iClip_23 x w
    · exact iClip_24 x w
  · have HC := Lib.hid (clp_out x b h)
    by_cases h1 : 1 ≤ b
    · have hd : decide (b ≤ 24) = false := decide_eq_false (by omega)
      clear h
      go_enter Try.func24, Try.ntmps24
      go_wp2
      go_ret
      exact ⟨ret_i64c HC.out.symm, Below.refl _ _⟩
    · have hd : decide (1 ≤ b) = false := decide_eq_false (by omega)
      clear h
      go_enter Try.func24, Try.ntmps24
      go_wp2
      go_ret
      exact ⟨ret_i64c HC.out.symm, Below.refl _ _⟩

theorem sClip_any (x b : Int) (w : World) : Calls Try.prog 47 #[.int .i64 x, .int .i64 b] w fun e w' => e = .returned (.int .i64 (clp x b)) ∧ Below w.heap.size w w' := by
  by_cases h : 1 ≤ b ∧ b ≤ 24
  · have hb : b = 1 ∨ b = 2 ∨ b = 3 ∨ b = 4 ∨ b = 5 ∨ b = 6 ∨ b = 7 ∨ b = 8 ∨ b = 9 ∨ b = 10 ∨ b = 11 ∨ b = 12 ∨ b = 13 ∨ b = 14 ∨ b = 15 ∨ b = 16 ∨ b = 17 ∨ b = 18 ∨ b = 19 ∨ b = 20 ∨ b = 21 ∨ b = 22 ∨ b = 23 ∨ b = 24 := by omega
    rcases hb with rfl | rfl | rfl | rfl | rfl | rfl | rfl | rfl | rfl | rfl | rfl | rfl | rfl | rfl | rfl | rfl | rfl | rfl | rfl | rfl | rfl | rfl | rfl | rfl
    · exact sClip_1 x w
    · exact sClip_2 x w
    · exact sClip_3 x w
    · exact sClip_4 x w
    · exact sClip_5 x w
    · exact sClip_6 x w
    · exact sClip_7 x w
    · exact sClip_8 x w
    · exact sClip_9 x w
    · exact sClip_10 x w
    · exact sClip_11 x w
    · exact sClip_12 x w
    · exact sClip_13 x w
    · exact sClip_14 x w
    · exact sClip_15 x w
    · exact sClip_16 x w
    · exact sClip_17 x w
    · exact sClip_18 x w
    · exact sClip_19 x w
    · exact sClip_20 x w
    · exact sClip_21 x w
    · exact sClip_22 x w
    · exact sClip_23 x w
    · exact sClip_24 x w
  · have HC := Lib.hid (clp_out x b h)
    by_cases h1 : 1 ≤ b
    · have hd : decide (b ≤ 24) = false := decide_eq_false (by omega)
      clear h
      go_enter Try.func47, Try.ntmps47
      go_wp2
      go_ret
      exact ⟨ret_i64c HC.out.symm, Below.refl _ _⟩
    · have hd : decide (1 ≤ b) = false := decide_eq_false (by omega)
      clear h
      go_enter Try.func47, Try.ntmps47
      go_wp2
      go_ret
      exact ⟨ret_i64c HC.out.symm, Below.refl _ _⟩
end Go.Proofs.Ytihhklfmabencaa
