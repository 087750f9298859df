/-
  Sorting: two stretches exchanged; a stretch turned round.
-/
import Derived.Test.YtmjnnjjmfedlbaaDoorSr
namespace Go.Proofs.YtmjnnjjmfedlbaaDoor
set_option linter.unusedSimpArgs false
set_option linter.unusedVariables false
open Go.RowKit
open Go.Fl (fl isNan feq)

/-- Where the element at i comes from when k elements at a and at b are exchanged. -/
def sr (a b k i : Nat) : Nat := if a ≤ i ∧ i < a + k then i - a + b else if b ≤ i ∧ i < b + k then i - b + a else i
theorem sr_sr {a b k : Nat} (h : a + k ≤ b) (i : Nat) : sr a b k (sr a b k i) = i := by
  unfold sr
  (repeat' split) <;> omega
theorem PermOn.sr {p q a b k : Nat} (f : Nat → Nat) (h : a + k ≤ b) (hp : p ≤ a) (hq : b + k ≤ q) : PermOn p q f (fun i => f (sr a b k i)) :=
  ⟨Proofs.YtmjnnjjmfedlbaaDoor.sr a b k, Proofs.YtmjnnjjmfedlbaaDoor.sr a b k, sr_sr h, sr_sr h, fun i hi => by unfold Proofs.YtmjnnjjmfedlbaaDoor.sr; rw [if_neg (by omega), if_neg (by omega)], fun _ => rfl⟩
theorem sr_step {f : Nat → Nat} {a b k : Nat} (h : a + k < b) : swp (fun i => f (sr a b k i)) (a + k) (b + k) = fun i => f (sr a b (k + 1) i) := by
  funext t
  unfold swp
  by_cases h1 : t = a + k
  · subst h1
    rw [if_pos rfl]
    show f (sr a b k (b + k)) = f (sr a b (k + 1) (a + k))
    congr 1
    unfold sr
    (repeat' split) <;> omega
  · rw [if_neg h1]
    by_cases h2 : t = b + k
    · subst h2
      rw [if_pos rfl]
      show f (sr a b k (a + k)) = f (sr a b (k + 1) (b + k))
      congr 1
      unfold sr
      (repeat' split) <;> omega
    · rw [if_neg h2]
      show f (sr a b k t) = f (sr a b (k + 1) t)
      congr 1
      unfold sr
      (repeat' split) <;> omega
theorem sr_zero (f : Nat → Nat) (a b : Nat) : (fun i => f (sr a b 0 i)) = f := by
  funext t
  show f (sr a b 0 t) = f t
  congr 1
  unfold sr
  (repeat' split) <;> omega

set_option maxRecDepth 8000 in
set_option maxHeartbeats 6400000 in
theorem iSwr {w0 W : World} {g n cap a b k : Nat} {f : Nat → Nat} (hs : Ss w0 g n f W) (hab : a + k ≤ b) (hb : b + k ≤ n) (hn : n ≤ 200) :
    Calls Tryd.prog 101 #[.slice (some ⟨g, 0, none⟩) n cap, .int .i64 (a : Int), .int .i64 (b : Int), .int .i64 (k : Int), cmpF] W fun e w' => e = .returned (.tuple #[]) ∧ Ss w0 g n (fun i => f (sr a b k i)) w' := by
  have HS := Lib.hid (show Ss w0 g n (fun i => f (sr a b 0 i)) W by rw [sr_zero]; exact hs)
  clear hs
  go_enter Tryd.func101, Tryd.ntmps101
  go_wp2
  go_loopw [10] (fun i wr => ∃ j : Nat, j ≤ k ∧ i = .int .i64 (j : Int) ∧ Hid (Ss w0 g n (fun i => f (sr a b j i)) wr)) (fun i _ => k - (intOf i).toNat)
  case atStart => exact ⟨0, Nat.zero_le _, rfl, HS.out⟩
  case round =>
    rename_i wr
    clear HS
    obtain ⟨j, hj, rfl, HS⟩ := hrel
    by_cases hlt : j < k
    · have d1 : decide ((j : Int) < (k : Int)) = true := decide_eq_true (by omega)
      have hw1 : wrap64 ((j : Int) + 1) = ((j + 1 : Nat) : Int) := by rw [IntWalk.wrap64_in _ ⟨by omega, by omega⟩]; omega
      obtain ⟨p, hp⟩ : ∃ p, p = a + j := ⟨_, rfl⟩
      obtain ⟨q, hq⟩ : ∃ q, q = b + j := ⟨_, rfl⟩
      have hw2 : wrap64 ((a : Int) + (j : Int)) = (p : Int) := by rw [IntWalk.wrap64_in _ ⟨by omega, by omega⟩]; omega
      have hw3 : wrap64 ((b : Int) + (j : Int)) = (q : Int) := by rw [IntWalk.wrap64_in _ ⟨by omega, by omega⟩]; omega
      have hw4 : IntKind.i64.wrap ((a : Int) + (j : Int)) = (p : Int) := by rw [IntKind.wrap_i64]; omega
      have hw5 : IntKind.i64.wrap ((b : Int) + (j : Int)) = (q : Int) := by rw [IntKind.wrap_i64]; omega
      have i1 : (0 : Int) ≤ (p : Int) := by omega
      have i2 : (p : Int) < (n : Int) := by omega
      have i3 : (0 : Int) ≤ (q : Int) := by omega
      have i4 : (q : Int) < (n : Int) := by omega
      have i5 : p < n := by omega
      have i6 : q < n := by omega
      have nm : p ≠ q := by omega
      have nm2 : q ≠ p := by omega
      have c1 := HS.out.1 p i5
      have c2 := HS.out.1 q i6
      have y1 := HS.out.2.1 p
      have y2 := HS.out.2.1 q
      have HT := Lib.hid (show swp (fun i => f (sr a b j i)) p q = fun i => f (sr a b (j + 1) i) by rw [hp, hq]; exact sr_step (by omega))
      have HS2 := Lib.hid (HS.out.swap p q).drew
      rw [HT.out] at HS2
      clear hp hq HT
      obtain ⟨v1, hv1⟩ : ∃ v1, v1 = f (sr a b j p) := ⟨_, rfl⟩
      obtain ⟨v2, hv2⟩ : ∃ v2, v2 = f (sr a b j q) := ⟨_, rfl⟩
      have c1 : wr.cell? ⟨g, p, none⟩ = some (fl v1) := by rw [hv1]; exact c1
      have c2 : wr.cell? ⟨g, q, none⟩ = some (fl v2) := by rw [hv2]; exact c2
      have HS3 := Lib.hid (show Ss w0 g n (fun i => f (sr a b (j + 1) i)) ((wr.setCell ⟨g, p, none⟩ (fl v2)).setCell ⟨g, q, none⟩ (fl v1)).drew by rw [hv1, hv2]; exact HS2.out)
      clear hv1 hv2 HS2
      rename_i hold1 hold2
      clear hold1 hold2
      go_wp2_with fail
      go_region
      go_wp2
      go_roundw
      case rel => exact ⟨j + 1, by omega, by first | rfl | go_num, HS3.out⟩
      case measure => first | exact meas_step hlt | (rw [hw1]; exact meas_step hlt) | exact meas_step2 hlt
    · obtain rfl : j = k := by omega
      have d1 : decide ((j : Int) < (j : Int)) = false := decide_eq_false (by omega)
      go_wp2
      refine bodyPost_end (results_none rfl _ _ _) rfl ⟨rfl, HS.out⟩

/-- Where the element at t comes from when the stretches from a to m and from m to b change places. -/
def rot (a m b t : Nat) : Nat := if t < a ∨ b ≤ t then t else if t < a + (b - m) then t - a + m else t - (b - m)
def rotI (a m b t : Nat) : Nat := if t < a ∨ b ≤ t then t else if t < m then t + (b - m) else t - (m - a)
theorem rot_rotI {a m b : Nat} (h : a ≤ m ∧ m ≤ b) (t : Nat) : rot a m b (rotI a m b t) = t := by
  unfold rot rotI
  (repeat' split) <;> omega
theorem rotI_rot {a m b : Nat} (h : a ≤ m ∧ m ≤ b) (t : Nat) : rotI a m b (rot a m b t) = t := by
  unfold rot rotI
  (repeat' split) <;> omega
theorem PermOn.rot {p q a m b : Nat} (f : Nat → Nat) (h : a ≤ m ∧ m ≤ b) (hp : p ≤ a) (hq : b ≤ q) : PermOn p q f (fun i => f (rot a m b i)) :=
  ⟨Proofs.YtmjnnjjmfedlbaaDoor.rot a m b, rotI a m b, rotI_rot h, rot_rotI h, fun i hi => by unfold Proofs.YtmjnnjjmfedlbaaDoor.rot; rw [if_pos (by omega)], fun _ => rfl⟩
theorem rot_gt {m i j t : Nat} (h : j < i) (hi : i ≤ m) : sr (m - i) m j (rot (m - (i - j)) m (m + j) t) = rot (m - i) m (m + j) t := by
  unfold rot sr
  (repeat' split) <;> omega
theorem rot_lt {m i j t : Nat} (h : i < j) (hi : i ≤ m) : sr (m - i) (m + j - i) i (rot (m - i) m (m + (j - i)) t) = rot (m - i) m (m + j) t := by
  unfold rot sr
  (repeat' split) <;> omega
theorem rot_eq {m i t : Nat} (hi : i ≤ m) : sr (m - i) m i t = rot (m - i) m (m + i) t := by
  unfold rot sr
  (repeat' split) <;> omega
end Go.Proofs.YtmjnnjjmfedlbaaDoor
