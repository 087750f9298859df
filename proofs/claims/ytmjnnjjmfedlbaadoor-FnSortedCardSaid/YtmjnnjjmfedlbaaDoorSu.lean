/-
  Sorting: merging, where the left stretch is one element.
-/
import Derived.Test.YtmjnnjjmfedlbaaDoorSt
namespace Go.Proofs.YtmjnnjjmfedlbaaDoor
set_option linter.unusedSimpArgs false
set_option linter.unusedVariables false
open Go.RowKit
open Go.Fl (fl isNan feq)

/-- What a merge comes to. -/
def SymIs (w0 : World) (g n : Nat) (f : Nat → Nat) (a b : Nat) (e : Ending) (w' : World) : Prop := e = .returned (.tuple #[]) ∧ ∃ f', Ss w0 g n f' w' ∧ PermOn a b f f' ∧ SortOn a b f'
/-- The element at a moved up to k. -/
def mvr (f : Nat → Nat) (a k t : Nat) : Nat := if a ≤ t ∧ t < k then f (t + 1) else if t = k then f a else f t
theorem mvr_start (f : Nat → Nat) (a : Nat) : mvr f a a = f := by
  funext t
  unfold mvr
  rw [if_neg (by omega)]
  split
  · rename_i h; rw [h]
  · rfl
theorem mvr_step {f : Nat → Nat} {a k : Nat} (h : a ≤ k) : swp (mvr f a k) k (k + 1) = mvr f a (k + 1) := by
  funext t
  unfold swp
  by_cases h1 : t = k
  · subst h1
    rw [if_pos rfl]
    unfold mvr
    rw [if_neg (by omega), if_neg (by omega), if_pos (by omega)]
  · rw [if_neg h1]
    by_cases h2 : t = k + 1
    · subst h2
      rw [if_pos rfl]
      unfold mvr
      rw [if_neg (by omega), if_pos rfl, if_neg (by omega), if_pos rfl]
    · rw [if_neg h2]
      unfold mvr
      by_cases h3 : a ≤ t ∧ t < k
      · rw [if_pos h3, if_pos (by omega)]
      · rw [if_neg h3, if_neg h1, if_neg (by omega), if_neg h2]
theorem mvr_perm (f : Nat → Nat) (a b : Nat) : ∀ k, a ≤ k → k < b → PermOn a b f (mvr f a k) := by
  intro k hk
  obtain ⟨e, rfl⟩ := Nat.exists_eq_add_of_le hk
  clear hk
  induction e with
  | zero => intro _; rw [Nat.add_zero, mvr_start]; exact PermOn.refl _ _ _
  | succ e ih => intro hb; rw [← Nat.add_assoc, ← mvr_step (by omega)]; exact (ih (by omega)).trans (PermOn.swap _ ⟨by omega, by omega⟩ ⟨by omega, by omega⟩)
theorem mvr_sort {f : Nat → Nat} {a b k : Nat} (hk : a ≤ k) (hkb : k < b) (hs : SortOn (a + 1) b f) (h1 : ∀ t, a + 1 ≤ t → t < k + 1 → kw (f t) < kw (f a)) (h2 : ∀ t, k + 1 ≤ t → t < b → kw (f a) ≤ kw (f t)) : SortOn a b (mvr f a k) := by
  intro p q hp hpq hq
  unfold mvr
  by_cases p1 : a ≤ p ∧ p < k
  · rw [if_pos p1]
    by_cases q1 : a ≤ q ∧ q < k
    · rw [if_pos q1]; exact hs _ _ (by omega) (by omega) (by omega)
    · rw [if_neg q1]
      by_cases q2 : q = k
      · rw [if_pos q2]; have := h1 (p + 1) (by omega) (by omega); omega
      · rw [if_neg q2]; exact hs _ _ (by omega) (by omega) hq
  · rw [if_neg p1, if_neg (show ¬ (a ≤ q ∧ q < k) by omega)]
    by_cases p2 : p = k
    · rw [if_pos p2]
      by_cases q2 : q = k
      · rw [if_pos q2]; exact Int.le_refl _
      · rw [if_neg q2]; exact h2 q (by omega) hq
    · rw [if_neg p2, if_neg (show ¬ q = k by omega)]; exact hs _ _ (by omega) hpq hq

set_option maxRecDepth 8000 in
set_option maxHeartbeats 6400000 in
theorem iSymL {w0 W : World} {g n cap a b : Nat} {f : Nat → Nat} (hs : Ss w0 g n f W) (hl : Lk w0) (hab : a + 1 < b) (hb : b ≤ n) (hn : n ≤ 200) (hso : SortOn (a + 1) b f) :
    Calls Tryd.prog 84 #[.slice (some ⟨g, 0, none⟩) n cap, .int .i64 (a : Int), .int .i64 ((a : Int) + 1), .int .i64 (b : Int), cmpF] W (SymIs w0 g n f a b) := by
  have HS := Lib.hid hs
  have HL := Lib.hid hl
  have HSO := Lib.hid hso
  have d0 : (((a : Int) + 1 - (a : Int)) == 1) = true := by rw [beq_iff_eq]; omega
  clear hs hl hso
  go_enter Tryd.func84, Tryd.ntmps84
  go_wp2
  go_loopw [10, 11] (fun x y wr => ∃ (i j : Nat), a + 1 ≤ i ∧ i ≤ j ∧ j ≤ b ∧ x = .int .i64 (i : Int) ∧ y = .int .i64 (j : Int) ∧ Hid (Ss w0 g n f wr ∧ (∀ t, a + 1 ≤ t → t < i → kw (f t) < kw (f a)) ∧ (∀ t, j ≤ t → t < b → kw (f a) ≤ kw (f t)))) (fun x y _ => (intOf y).toNat - (intOf x).toNat)
  case atStart => exact ⟨a + 1, b, Nat.le_refl _, by omega, Nat.le_refl _, congrArg (Value.int .i64) (by omega), rfl, HS.out, fun t h1 h2 => by omega, fun t h1 h2 => by omega⟩
  case round =>
    rename_i wr
    clear HS
    obtain ⟨i, j, hi, hij, hj, rfl, rfl, HS⟩ := hrel
    by_cases hlt : i < j
    · have d1 : decide ((i : Int) < (j : Int)) = true := decide_eq_true (by omega)
      obtain ⟨h, hh⟩ : ∃ h, h = (i + j) / 2 := ⟨_, rfl⟩
      go_upto_region 5 with fail
      rw [show ((i : Int) + (j : Int)) / 2 = (h : Int) by omega]
      have hhb : i ≤ h ∧ h < j := by omega
      have hc1 := HS.out.1.1 h (by omega)
      have hc2 := HS.out.1.1 a (by omega)
      have hg := HS.out.1.2.2.1
      have i1 : (0 : Int) ≤ (h : Int) := by omega
      have i2 : (h : Int) < (n : Int) := by omega
      have i3 : (0 : Int) ≤ (a : Int) := by omega
      have i4 : (a : Int) < (n : Int) := by omega
      have i5 : h < n := by omega
      have i6 : a < n := by omega
      have HC := Lib.hid (iCmp (HS.out.1.2.2.2.2.2 h) (HS.out.1.2.2.2.2.2 a) wr.drew (HL.out.below HS.out.1.2.2.2.2.1.drew))
      have HH := Lib.hid hhb
      clear hh hhb
      go_region_held3 (fun wx => (∀ z y, z < wr.heap.size → wx.cell? ⟨z, y, none⟩ = wr.cell? ⟨z, y, none⟩) ∧ Below wr.heap.size wr wx)
        (first
          | exact Fl.keeps0 _
          | (refine Fl.keepsB hbn ?_; assumption)
          | (refine Fl.keepsD ?_; assumption))
        (first
          | (go_at_call 57; (refine (HC.out).mono ?_); rintro e w1 ⟨o, rfl, ho, hbn⟩; have HO := Lib.hid ho))
      have HBR := Lib.hid (Fl.stays_of (by assumption : (∀ z y, z < wr.heap.size → World.cell? _ ⟨z, y, none⟩ = wr.cell? ⟨z, y, none⟩) ∧ Below wr.heap.size wr _))
      have HS1 := Lib.hid (HS.out.1.call HBR.out)
      cases hkw : decide (kw (f h) < kw (f a))
      · have ho' : decide (o < 0) = false := HO.out.trans hkw
        have HF := Lib.hid (show Ss w0 g n f w1 ∧ (∀ t, a + 1 ≤ t → t < i → kw (f t) < kw (f a)) ∧ (∀ t, h ≤ t → t < b → kw (f a) ≤ kw (f t)) from ⟨HS1.out, HS.out.2.1, fun t h1 h2 => by have k1 := of_decide_eq_false hkw; have k2 := HSO.out h t (by have := HH.out.1; omega) h1 h2; omega⟩)
        clear hkw hbn hc1 hc2
        go_wp2
        go_roundw
        case rel => have h1 := HH.out; exact ⟨i, h, hi, h1.1, by omega, rfl, rfl, HF.out⟩
        case measure => have h1 := HH.out; simp only [intOf, Int.toNat_natCast]; omega
      · have ho' : decide (o < 0) = true := HO.out.trans hkw
        have HF := Lib.hid (show Ss w0 g n f w1 ∧ (∀ t, a + 1 ≤ t → t < h + 1 → kw (f t) < kw (f a)) ∧ (∀ t, j ≤ t → t < b → kw (f a) ≤ kw (f t)) from ⟨HS1.out, fun t h1 h2 => by have k1 := of_decide_eq_true hkw; have k2 := HSO.out t h h1 (by omega) (by have := HH.out.2; omega); omega, HS.out.2.2⟩)
        clear hkw hbn hc1 hc2
        go_wp2
        go_roundw
        case rel => have h1 := HH.out; exact ⟨h + 1, j, by omega, by omega, hj, congrArg (Value.int .i64) (by omega), rfl, HF.out⟩
        case measure => have h1 := HH.out; (first | (show (intOf (.int .i64 (j : Int))).toNat - (intOf (.int .i64 ((h : Int) + 1))).toNat < _) | skip); simp only [intOf, Int.toNat_natCast]; omega
    · obtain rfl : i = j := by omega
      have d1 : decide ((i : Int) < (i : Int)) = false := decide_eq_false (by omega)
      have HI := Lib.hid HS.out.2
      have HB0 := Lib.hid HS.out.1
      go_wp2
      go_loopw [13] (fun x wr => ∃ (k : Nat), a ≤ k ∧ k < i ∧ x = .int .i64 (k : Int) ∧ Hid (Ss w0 g n (mvr f a k) wr)) (fun x _ => i - (intOf x).toNat)
      case atStart => exact ⟨a, Nat.le_refl _, by omega, rfl, by rw [mvr_start]; exact HB0.out⟩
      case round =>
        rename_i wr
        clear HB0 HS
        obtain ⟨k, hk1, hk2, rfl, HS⟩ := hrel
        by_cases hlt3 : k + 1 < i
        · have d2 : decide ((k : Int) < (i : Int) - 1) = true := decide_eq_true (by omega)
          have hw1 : wrap64 ((k : Int) + 1) = ((k + 1 : Nat) : Int) := by rw [IntWalk.wrap64_in _ ⟨by omega, by omega⟩]; omega
          have hw4 : IntKind.i64.wrap ((k : Int) + 1) = ((k + 1 : Nat) : Int) := by rw [IntKind.wrap_i64]; omega
          have i1 : (0 : Int) ≤ (k : Int) := by omega
          have i2 : (k : Int) < (n : Int) := by omega
          have i3 : (0 : Int) ≤ ((k + 1 : Nat) : Int) := by omega
          have i4 : ((k + 1 : Nat) : Int) < (n : Int) := by omega
          have i5 : k < n := by omega
          have i6 : k + 1 < n := by omega
          have nm : k ≠ k + 1 := by omega
          have nm2 : k + 1 ≠ k := by omega
          obtain ⟨v1, hv1⟩ : ∃ v1, v1 = mvr f a k k := ⟨_, rfl⟩
          obtain ⟨v2, hv2⟩ : ∃ v2, v2 = mvr f a k (k + 1) := ⟨_, rfl⟩
          have c1 : wr.cell? ⟨g, k, none⟩ = some (fl v1) := by rw [hv1]; exact HS.out.1 k i5
          have c2 : wr.cell? ⟨g, k + 1, none⟩ = some (fl v2) := by rw [hv2]; exact HS.out.1 (k + 1) i6
          have y1 := HS.out.2.1 k
          have y2 := HS.out.2.1 (k + 1)
          have HS3 := Lib.hid (show Ss w0 g n (mvr f a (k + 1)) ((wr.setCell ⟨g, k, none⟩ (fl v2)).setCell ⟨g, k + 1, none⟩ (fl v1)).drew by rw [hv1, hv2, ← mvr_step hk1]; exact (HS.out.swap k (k + 1)).drew)
          clear hv1 hv2
          go_wp2
          go_region
          go_wp2
          go_roundw
          case rel => exact ⟨k + 1, by omega, by omega, by first | rfl | go_num, HS3.out⟩
          case measure => first | exact meas_step hk2 | (rw [hw1]; exact meas_step hk2) | exact meas_step2 hk2
        · have d2 : decide ((k : Int) < (i : Int) - 1) = false := decide_eq_false (by omega)
          have HF := Lib.hid (show ∃ f', Ss w0 g n f' wr ∧ PermOn a b f f' ∧ SortOn a b f' from ⟨_, HS.out, mvr_perm f a b k hk1 (by omega), mvr_sort hk1 (by omega) HSO.out (fun t h1 h2 => HI.out.1 t h1 (by omega)) (fun t h1 h2 => HI.out.2 t (by omega) h2)⟩)
          go_wp2
          refine bodyPost_ret (results_none rfl _ _ _) rfl ⟨rfl, HF.out⟩
end Go.Proofs.YtmjnnjjmfedlbaaDoor
