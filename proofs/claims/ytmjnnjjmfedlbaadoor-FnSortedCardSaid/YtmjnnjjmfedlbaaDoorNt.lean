/-
  Contracts of the reference's whole numbers of 32-bit limbs: trim, bits, low, shift right; of the rest only that they come back.
-/
import Derived.Test.YtmjnnjjmfedlbaaDoorDw
import Derived.Laws.AppendOwn
import Derived.OwnWalk
namespace Go.Proofs.YtmjnnjjmfedlbaaDoor
set_option linter.unusedSimpArgs false
set_option linter.unusedVariables false
open Go.RowKit Go.Dr

def lenOf : Value → Nat | .slice _ n _ => n | _ => 0
/-- Limbs. -/
def U32 (l : List Int) : Prop := ∀ x ∈ l, 0 ≤ x ∧ x ≤ 4294967295
theorem U32.at_ {l : List Int} (h : U32 l) (i : Nat) : 0 ≤ l.getD i 0 ∧ l.getD i 0 ≤ 4294967295 := by
  by_cases hi : i < l.length
  · exact h _ (getD_mem hi)
  · rw [List.getD_eq_getElem?_getD, List.getElem?_eq_none (by omega)]; exact ⟨by decide, by decide⟩
theorem U32.take {l : List Int} (h : U32 l) (k : Nat) : U32 (l.take k) := fun x hx => h x (List.mem_of_mem_take hx)
theorem U32.set {l : List Int} (h : U32 l) (k : Nat) (v : Int) (hv : 0 ≤ v ∧ v ≤ 4294967295) : U32 (l.set k v) := by
  intro x hx
  rcases List.mem_or_eq_of_mem_set hx with hx | rfl
  · exact h x hx
  · exact hv
theorem U32.app {l : List Int} (h : U32 l) (v : Int) (hv : 0 ≤ v ∧ v ≤ 4294967295) : U32 (l ++ [v]) := by
  intro x hx
  rcases List.mem_append.1 hx with hx | hx
  · exact h x hx
  · rw [List.mem_singleton.1 hx]; exact hv

theorem IRow.taken {w : World} {A : Option Addr} {n c : Nat} {l : List Int} (h : IRow .u32 w A n c l) {k : Nat} (hk : k ≤ n) : IRow .u32 w A k c (l.take k) := by
  refine ⟨by rw [List.length_take, h.1]; omega, Nat.le_trans hk h.2.1, h.2.2.1, fun hp => ?_⟩
  obtain ⟨b, off, rfl, hb, hc⟩ := h.2.2.2 (by omega)
  refine ⟨b, off, rfl, hb, fun i hi => ?_⟩
  rw [hc i (by omega)]
  simp [List.getD_eq_getElem?_getD, List.getElem?_take, hi]

/-- l1Trim: the zeros at the end are left out. -/
theorem sTrim (A : Option Addr) (n c : Nat) (l : List Int) (w : World) (h : IRow .u32 w A n c l) (hn : n ≤ 1048576) :
    Calls Tryd.prog 99 #[.slice A n c] w fun e w' => ∃ k, k ≤ n ∧ e = .returned (.slice A k c) ∧ w' = w ∧ (∀ j, k ≤ j → j < n → l.getD j 0 = 0) ∧ (k = 0 ∨ l.getD (k - 1) 0 ≠ 0) := by
  have HR := Lib.hid h
  clear h
  go_enter Tryd.func99, Tryd.ntmps99
  go_wp2
  go_loopw [0] (fun v wr => ∃ k, k ≤ n ∧ v = .slice A k c ∧ wr = w ∧ Hid (∀ j, k ≤ j → j < n → l.getD j 0 = 0)) (fun v _ => lenOf v)
  case atStart => exact ⟨n, Nat.le_refl _, rfl, rfl, fun j h1 h2 => absurd h1 (by omega)⟩
  case round =>
    obtain ⟨k, hk, rfl, rfl, HZ⟩ := hrel
    cases k with
    | zero =>
      go_wp2
      go_ret
      exact ⟨0, Nat.zero_le _, rfl, rfl, HZ.out, .inl rfl⟩
    | succ k =>
      obtain ⟨b, off, rfl, hb, hc⟩ := HR.out.2.2.2 (by omega)
      have hcell := hc k (by omega)
      obtain ⟨y, hy⟩ : ∃ y, l.getD k 0 = y := ⟨_, rfl⟩
      rw [hy] at hcell
      have HY := Lib.hid hy
      have HKN := Lib.hid hk
      have hkc : k + 1 ≤ c := Nat.le_trans hk HR.out.2.1
      have hkc2 : (k : Int) ≤ (c : Int) := by omega
      have hk0 : (0 : Int) ≤ (k : Int) := by omega
      have hlt : (k : Int) < ((k : Int) + 1) := by omega
      have hw1 : wrap64 ((k : Int) + 1 - 1) = (k : Int) := by rw [wrap_id (by omega) (by omega)]; omega
      clear hc hy
      by_cases h0 : y = 0
      · subst h0
        go_wp2
        go_roundw
        case rel => exact ⟨k, by have := HKN.out; omega, rfl, by first | rfl | trivial, fun j h1 h2 => by
          by_cases e : j = k
          · rw [e]; exact HY.out
          · exact HZ.out j (by omega) h2⟩
        case measure => simp [lenOf]
      · have hb0 : (y == 0) = false := beq_eq_false_iff_ne.2 h0
        go_wp2
        go_ret
        exact ⟨k + 1, HKN.out, rfl, rfl, HZ.out, .inr (by rw [show k + 1 - 1 = k from rfl, HY.out]; exact h0)⟩

def bl (x : Nat) : Nat := if x = 0 then 0 else x.log2 + 1
theorem bl_half {x : Nat} (h : 0 < x) : bl (x / 2) + 1 = bl x := by
  unfold bl
  rw [if_neg (show ¬ x = 0 by omega)]
  by_cases h2 : x / 2 = 0
  · have : x = 1 := by omega
    subst this
    rfl
  · rw [if_neg h2]
    have := Nat.log2_def x
    rw [if_pos (by omega)] at this
    omega
theorem bl_le {x k : Nat} (h : x < 2 ^ k) : bl x ≤ k := by
  unfold bl
  split
  · omega
  · rename_i h0
    have := (Nat.log2_lt h0).2 h
    omega
theorem bl_eq {x k : Nat} (h : x < 2 ^ (k + 1)) (h1 : 2 ^ k ≤ x) : bl x = k + 1 := by
  have h0 : x ≠ 0 := by have := Nat.two_pow_pos k; omega
  unfold bl
  rw [if_neg h0, (Nat.log2_eq_iff h0).2 ⟨h1, h⟩]

theorem sBits (A : Option Addr) (n c : Nat) (l : List Int) (w : World) (h : IRow .u32 w A n c l) (hu : U32 l) (hn : n ≤ 1000) :
    Calls Tryd.prog 90 #[.slice A n c] w fun e w' => e = .returned (.int .i64 (if n = 0 then 0 else ((32 * (n - 1) + bl (l.getD (n - 1) 0).toNat : Nat) : Int))) ∧ w' = w := by
  have HR := Lib.hid h
  clear h
  by_cases h0 : n = 0
  · subst h0
    go_enter Tryd.func90, Tryd.ntmps90
    go_wp2
    go_ret
    exact ⟨rfl, rfl⟩
  · rw [if_neg h0]
    obtain ⟨b, off, rfl, hb, hc⟩ := HR.out.2.2.2 (by omega)
    have hcell := hc (n - 1) (by omega)
    have HU := hu.at_ (n - 1)
    obtain ⟨y, hy⟩ := Int.eq_ofNat_of_zero_le HU.1
    rw [hy] at hcell HU ⊢
    rw [Int.toNat_natCast]
    have HY := Lib.hid HU
    obtain ⟨m, rfl⟩ : ∃ m, n = m + 1 := ⟨n - 1, by omega⟩
    have e1 : m + 1 - 1 = m := rfl
    rw [e1] at hcell ⊢
    have hn0 : (((m : Int) + 1) == 0) = false := by rw [beq_eq_false_iff_ne]; omega
    have hw1 : wrap64 (m : Int) = (m : Int) := wrap_id (by omega) (by omega)
    have hw2 : wrap64 (32 * (m : Int)) = ((32 * m : Nat) : Int) := by rw [wrap_id (by omega) (by omega)]; omega
    have hk0 : (0 : Int) ≤ (m : Int) := by omega
    have HM := Lib.hid (show m ≤ 1000 by omega)
    clear hc hy hu HU h0 hn
    go_enter Tryd.func90, Tryd.ntmps90
    go_wp2
    go_loopw [3, 4] (fun i v wr => ∃ (q x : Nat), i = .int .i64 (q : Int) ∧ v = .int .u32 (x : Int) ∧ x ≤ 4294967295 ∧ wr = w ∧ Hid (q + bl x = 32 * m + bl y)) (fun _ v _ => (intOf v).toNat)
    case atStart => exact ⟨32 * m, y, by rw [hw2], rfl, by have := HY.out; omega, rfl, rfl⟩
    case round =>
      obtain ⟨q, x, rfl, rfl, hx, rfl, HQ⟩ := hrel
      by_cases hx0 : x = 0
      · subst hx0
        go_wp2
        go_ret
        have hq := HQ.out
        rw [show bl 0 = 0 from rfl, Nat.add_zero] at hq
        exact ⟨by rw [hq]; rfl, rfl⟩
      · have dx : decide (0 < (x : Int)) = true := decide_eq_true (by omega)
        have HB := Lib.hid (bl_half (show 0 < x by omega))
        have HBQ := Lib.hid (show q ≤ 32 * m + bl y by have := HQ.out; omega)
        have HBY := Lib.hid (bl_le (show y < 2 ^ 32 by have := HY.out; omega))
        have hk1 := Lib.hid (show wrap64 ((q : Int) + 1) = ((q + 1 : Nat) : Int) by have := HBQ.out; have := HBY.out; have := HM.out; rw [wrap_id (by omega) (by omega)]; omega)
        have hx2 := Lib.hid (show (x : Int) / 2 = ((x / 2 : Nat) : Int) by omega)
        have HX0 := Lib.hid hx0
        have HX := Lib.hid hx
        go_wp2
        go_roundw
        case rel => exact ⟨q + 1, x / 2, by rw [hk1.out], by rw [hx2.out], by have := HX.out; omega, by first | rfl | trivial, by have h1 := HB.out; have h2 := HQ.out; show q + 1 + bl (x / 2) = _; omega⟩
        case measure => rw [hx2.out]; have := HX0.out; simp only [intOf, Int.toNat_natCast]; omega

/-- l1Low: the first two limbs. -/
theorem sLow (A : Option Addr) (n c : Nat) (l : List Int) (w : World) (h : IRow .u32 w A n c l) (hu : U32 l) (hn : n ≤ 1048576) :
    Calls Tryd.prog 98 #[.slice A n c] w fun e w' => e = .returned (.int .u64 (l.getD 0 0 + l.getD 1 0 * 4294967296)) ∧ w' = w := by
  have HR := Lib.hid h
  clear h
  obtain ⟨x, hx⟩ := Int.eq_ofNat_of_zero_le (hu.at_ 0).1
  obtain ⟨y, hy⟩ := Int.eq_ofNat_of_zero_le (hu.at_ 1).1
  have hx1 := (hu.at_ 0).2
  have hy1 := (hu.at_ 1).2
  rw [hx] at hx1 ⊢
  rw [hy] at hy1 ⊢
  have hlen := HR.out.1
  by_cases h0 : n = 0
  · subst h0
    have hx0 : x = 0 := by rw [List.getD_eq_getElem?_getD, List.getElem?_eq_none (by omega)] at hx; exact (Int.ofNat_inj.1 hx).symm
    have hy0 : y = 0 := by rw [List.getD_eq_getElem?_getD, List.getElem?_eq_none (by omega)] at hy; exact (Int.ofNat_inj.1 hy).symm
    subst hx0 hy0
    clear hx hy hu
    go_enter Tryd.func98, Tryd.ntmps98
    go_wp2
    go_ret
    exact ⟨rfl, rfl⟩
  obtain ⟨b, off, rfl, hb, hc⟩ := HR.out.2.2.2 (by omega)
  have hc0 : w.cell? ⟨b, off, none⟩ = some (.int .u32 (x : Int)) := by have := hc 0 (by omega); rw [hx] at this; exact this
  have hn0 : decide (0 < (n : Int)) = true := decide_eq_true (by omega)
  have hn00 : (0 : Int) < (n : Int) := by omega
  by_cases h1 : n = 1
  · subst h1
    have hy0 : y = 0 := by rw [List.getD_eq_getElem?_getD, List.getElem?_eq_none (by omega)] at hy; exact (Int.ofNat_inj.1 hy).symm
    subst hy0
    clear hx hy hu hc h0
    go_enter Tryd.func98, Tryd.ntmps98
    go_wp2
    go_ret
    exact ⟨by simp, rfl⟩
  · have hc1 : w.cell? ⟨b, off + 1, none⟩ = some (.int .u32 (y : Int)) := by have := hc 1 (by omega); rw [hy] at this; exact this
    have hn1 : decide (1 < (n : Int)) = true := decide_eq_true (by omega)
    have hn11 : (1 : Int) < (n : Int) := by omega
    clear hx hy hu hc h0 h1
    go_enter Tryd.func98, Tryd.ntmps98
    go_wp2
    go_ret
    exact ⟨by simp, rfl⟩

end Go.Proofs.YtmjnnjjmfedlbaaDoor
