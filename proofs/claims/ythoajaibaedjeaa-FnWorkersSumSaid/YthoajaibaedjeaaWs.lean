/-
  Plain laws: of pairs of small whole numbers every number of workers makes the same sum. No condition.
-/
import Derived.Test.YthoajaibaedjeaaWi
import Derived.Test.YthoajaibaedjeaaSp
namespace Go.Proofs.Ythoajaibaedjeaa
set_option linter.unusedSimpArgs false
set_option linter.unusedVariables false
open Go.RowKit Go.Fl

/-- The words of a pair of whole numbers. -/
def wz (z : Int × Int) : Nat × Nat := (wi z.1, wi z.2)
def addZ (x y : Int × Int) : Int × Int := (x.1 + y.1, x.2 + y.2)
/-- Both numbers lie within M. -/
def Lim (M : Int) (z : Int × Int) : Prop := -M ≤ z.1 ∧ z.1 ≤ M ∧ -M ≤ z.2 ∧ z.2 ≤ M

theorem wz_add {M : Int} {x y : Int × Int} (hM : M ≤ 1000000000) (hx : Lim M x) (hy : Lim M y) : sumP (wz x) (wz y) = wz (addZ x y) := by
  unfold sumP wz addZ
  rw [cop_wi (by have := hx; unfold Lim at this; omega) (by have := hy; unfold Lim at this; omega), cop_wi (by have := hx; unfold Lim at this; omega) (by have := hy; unfold Lim at this; omega)]

/-- The same sums of whole numbers. -/
def colZ (zs : List (Int × Int)) (k r : Nat) : Nat → Int × Int
  | 0 => (0, 0)
  | i + 1 => if i < zs.length ∧ i % k = r then addZ (colZ zs k r i) (zs.getD i (0, 0)) else colZ zs k r i
def totZ (zs : List (Int × Int)) (k i : Nat) : Nat → Int × Int
  | 0 => (0, 0)
  | t + 1 => addZ (totZ zs k i t) (colZ zs k t i)
def allZ (zs : List (Int × Int)) : Nat → Int × Int
  | 0 => (0, 0)
  | i + 1 => if i < zs.length then addZ (allZ zs i) (zs.getD i (0, 0)) else allZ zs i

theorem lim_add {M N : Int} {x y : Int × Int} (hx : Lim M x) (hy : Lim N y) : Lim (M + N) (addZ x y) := by
  unfold Lim addZ at *; dsimp only; omega
theorem lim_mono {M N : Int} {x : Int × Int} (h : M ≤ N) (hx : Lim M x) : Lim N x := by unfold Lim at *; omega

theorem getD_lim {zs : List (Int × Int)} (h : ∀ z ∈ zs, Lim 1000 z) (i : Nat) : Lim 1000 (zs.getD i (0, 0)) := by
  by_cases hi : i < zs.length
  · rw [List.getD_eq_getElem?_getD, List.getElem?_eq_getElem hi]; exact h _ (List.getElem_mem hi)
  · rw [List.getD_eq_getElem?_getD, List.getElem?_eq_none (by omega)]; unfold Lim; decide

theorem getD_map (zs : List (Int × Int)) (i : Nat) : (zs.map wz).getD i (0, 0) = wz (zs.getD i (0, 0)) := by
  by_cases hi : i < zs.length
  · simp [List.getD_eq_getElem?_getD, hi]
  · simp [List.getD_eq_getElem?_getD, hi, wz, wi_zero]

theorem colZ_lim {zs : List (Int × Int)} (h : ∀ z ∈ zs, Lim 1000 z) (k r : Nat) : ∀ i : Nat, Lim (1000 * (i : Int)) (colZ zs k r i)
  | 0 => by unfold colZ Lim; decide
  | i + 1 => by
    have ih := colZ_lim h k r i
    unfold colZ
    split
    · exact lim_mono (M := 1000 * (i : Int) + 1000) (by omega) (lim_add ih (getD_lim h i))
    · exact lim_mono (M := 1000 * (i : Int)) (by omega) ih

theorem col_eq {zs : List (Int × Int)} (h : ∀ z ∈ zs, Lim 1000 z) (k r : Nat) : ∀ i, i ≤ 128 → col (zs.map wz) k r i = wz (colZ zs k r i)
  | 0, _ => by unfold col colZ wz; rw [wi_zero]
  | i + 1, hi => by
    have ih := col_eq h k r i (by omega)
    unfold col colZ
    rw [List.length_map]
    split
    · rw [ih, getD_map]
      exact wz_add (M := 1000000) (by omega) (lim_mono (M := 1000 * (i : Int)) (by omega) (colZ_lim h k r i)) (lim_mono (M := 1000) (by omega) (getD_lim h i))
    · exact ih

theorem totZ_lim {zs : List (Int × Int)} (h : ∀ z ∈ zs, Lim 1000 z) (k i : Nat) : ∀ t : Nat, Lim (1000 * (i : Int) * (t : Int)) (totZ zs k i t)
  | 0 => by unfold totZ Lim; simp
  | t + 1 => by
    have ih := totZ_lim h k i t
    unfold totZ
    refine lim_mono ?_ (lim_add ih (colZ_lim h k t i))
    rw [Int.natCast_add, Int.mul_add]; omega

theorem tot_eq {zs : List (Int × Int)} (h : ∀ z ∈ zs, Lim 1000 z) (hl : zs.length ≤ 128) (k : Nat) : ∀ t, t ≤ 16 → tot (zs.map wz) k t = wz (totZ zs k zs.length t)
  | 0, _ => by unfold tot totZ wz; rw [wi_zero]
  | t + 1, ht => by
    have ih := tot_eq h hl k t (by omega)
    unfold tot totZ
    rw [List.length_map, ih, col_eq h k t _ hl]
    have h1 := totZ_lim h k zs.length t
    refine wz_add (M := 1000000000) (by omega) (lim_mono ?_ h1) (lim_mono (M := 1000 * (zs.length : Int)) (by omega) (colZ_lim h k t _))
    have : (1000 * (zs.length : Int)) * (t : Int) ≤ (1000 * 128) * 16 := Int.mul_le_mul (by omega) (by omega) (by omega) (by omega)
    omega

theorem addZ_assoc (x y z : Int × Int) : addZ (addZ x y) z = addZ x (addZ y z) := by unfold addZ; simp only [Int.add_assoc]
theorem addZ_swap (x y z : Int × Int) : addZ (addZ x y) z = addZ (addZ x z) y := by
  unfold addZ; dsimp only; rw [Int.add_right_comm, Int.add_right_comm x.2]

theorem totZ_step (zs : List (Int × Int)) (k i : Nat) (hi : i < zs.length) : ∀ t, totZ zs k (i + 1) t = if i % k < t then addZ (totZ zs k i t) (zs.getD i (0, 0)) else totZ zs k i t
  | 0 => by rw [if_neg (by omega)]; rfl
  | t + 1 => by
    rw [totZ, totZ_step zs k i hi t]
    by_cases h : i % k < t
    · rw [if_pos h, if_pos (by omega), colZ, if_neg (by omega), totZ, addZ_swap]
    · rw [if_neg h]
      by_cases h2 : i % k = t
      · rw [if_pos (by omega), colZ, if_pos ⟨hi, h2⟩, totZ, addZ_assoc]
      · rw [if_neg (by omega), colZ, if_neg (by omega), totZ]

theorem totZ_zero (zs : List (Int × Int)) (k : Nat) : ∀ t, totZ zs k 0 t = (0, 0)
  | 0 => rfl
  | t + 1 => by rw [totZ, totZ_zero]; rfl

/-- Every number of columns makes the same sum. -/
theorem totZ_all (zs : List (Int × Int)) (k : Nat) (hk : 0 < k) : ∀ i, i ≤ zs.length → totZ zs k i k = allZ zs i
  | 0, _ => totZ_zero _ _ _
  | i + 1, hi => by
    rw [totZ_step zs k i (by omega), if_pos (Nat.mod_lt _ hk), totZ_all zs k hk i (by omega), allZ, if_pos (by omega)]

theorem allZ_lim {zs : List (Int × Int)} (h : ∀ z ∈ zs, Lim 1000 z) : ∀ i : Nat, Lim (1000 * (i : Int)) (allZ zs i)
  | 0 => by unfold allZ Lim; decide
  | i + 1 => by
    have ih := allZ_lim h i
    unfold allZ
    split
    · exact lim_mono (M := 1000 * (i : Int) + 1000) (by omega) (lim_add ih (getD_lim h i))
    · exact lim_mono (M := 1000 * (i : Int)) (by omega) ih

theorem sums_all {zs : List (Int × Int)} (h : ∀ z ∈ zs, Lim 1000 z) (hl : zs.length ≤ 128) (k : Nat) (hk : 1 ≤ k ∧ k ≤ 16) : sumsP (zs.map wz) k = wz (allZ zs zs.length) := by
  rw [sumsP_in hk (by rw [List.length_map]; exact hl), tot_eq h hl k k hk.2, totZ_all zs k hk.1 _ (Nat.le_refl _)]

theorem all_step {zs : List (Int × Int)} (h : ∀ z ∈ zs, Lim 1000 z) {i : Nat} (hi : i < zs.length) (hl : zs.length ≤ 128) : sumP (wz (allZ zs i)) ((zs.map wz).getD i (0, 0)) = wz (allZ zs (i + 1)) := by
  rw [getD_map, allZ, if_pos hi]
  exact wz_add (M := 1000000) (by omega) (lim_mono (M := 1000 * (i : Int)) (by omega) (allZ_lim h i)) (lim_mono (M := 1000) (by omega) (getD_lim h i))

theorem Ok2.wz {r : Nat × Nat} {M : Int} {z : Int × Int} (hM : M ≤ 1000000000) (hz : Lim M z) (h : peq r (wz z)) : r = wz z := by
  obtain ⟨r0, r1⟩ := r
  have h1 := feq_wi (a := z.1) (by unfold Lim at hz; omega) h.1
  have h2 := feq_wi (a := z.2) (by unfold Lim at hz; omega) h.2
  dsimp only at h1 h2
  rw [h1, h2]; rfl

theorem ford_wz {M : Int} {z : Int × Int} (hM : M ≤ 1000000000) (hz : Lim M z) : (ford (wz z).1 (wz z).1 == some .eq && ford (wz z).2 (wz z).2 == some .eq) = true := by
  unfold Lim at hz
  rw [show (Go.Proofs.Ythoajaibaedjeaa.wz z).1 = wi z.1 from rfl, show (Go.Proofs.Ythoajaibaedjeaa.wz z).2 = wi z.2 from rfl, ford_self (isNan_wi (by omega)), ford_self (isNan_wi (by omega))]; rfl
end Go.Proofs.Ythoajaibaedjeaa
