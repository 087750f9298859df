/-
  Sorting: merging, where the right stretch is one element.
-/
import Derived.Test.YtmjnnjjmfedlbaaDoorSu
namespace Go.Proofs.YtmjnnjjmfedlbaaDoor
set_option linter.unusedSimpArgs false
set_option linter.unusedVariables false
open Go.RowKit
open Go.Fl (fl isNan feq)

/-- The element at m moved down to k. -/
def mvl (f : Nat → Nat) (m k t : Nat) : Nat := if k < t ∧ t ≤ m then f (t - 1) else if t = k then f m else f t
theorem mvl_start (f : Nat → Nat) (m : Nat) : mvl f m m = f := by
  funext t
  unfold mvl
  rw [if_neg (by omega)]
  split
  · rename_i h; rw [h]
  · rfl
theorem mvl_step {f : Nat → Nat} {m k : Nat} (h : k < m) : swp (mvl f m (k + 1)) (k + 1) k = mvl f m k := by
  funext t
  unfold swp
  by_cases h1 : t = k + 1
  · subst h1
    rw [if_pos rfl]
    unfold mvl
    rw [if_neg (by omega), if_neg (by omega), if_pos (by omega), Nat.add_sub_cancel]
  · rw [if_neg h1]
    by_cases h2 : t = k
    · subst h2
      rw [if_pos rfl]
      unfold mvl
      rw [if_neg (by omega), if_pos rfl, if_neg (by omega), if_pos rfl]
    · rw [if_neg h2]
      unfold mvl
      by_cases h3 : k + 1 < t ∧ t ≤ m
      · rw [if_pos h3, if_pos (by omega)]
      · rw [if_neg h3, if_neg h1, if_neg (by omega), if_neg h2]
theorem mvl_perm (f : Nat → Nat) (a m : Nat) : ∀ e, a + e ≤ m → PermOn a (m + 1) f (mvl f m (m - e)) := by
  intro e
  induction e with
  | zero => intro _; rw [Nat.sub_zero, mvl_start]; exact PermOn.refl _ _ _
  | succ e ih =>
    intro hb
    rw [← mvl_step (f := f) (m := m) (k := m - (e + 1)) (by omega), show m - (e + 1) + 1 = m - e by omega]
    exact (ih (by omega)).trans (PermOn.swap _ ⟨by omega, by omega⟩ ⟨by omega, by omega⟩)
theorem mvl_sort {f : Nat → Nat} {a m k : Nat} (hk : a ≤ k) (hkm : k ≤ m) (hs : SortOn a m f) (h1 : ∀ t, a ≤ t → t < k → kw (f t) ≤ kw (f m)) (h2 : ∀ t, k ≤ t → t < m → kw (f m) < kw (f t)) : SortOn a (m + 1) (mvl f m k) := by
  intro p q hp hpq hq
  unfold mvl
  by_cases p1 : k < p ∧ p ≤ m
  · rw [if_pos p1, if_pos (show k < q ∧ q ≤ m by omega)]; exact hs _ _ (by omega) (by omega) (by omega)
  · rw [if_neg p1]
    by_cases p2 : p = k
    · rw [if_pos p2]
      by_cases q1 : k < q ∧ q ≤ m
      · rw [if_pos q1]; have := h2 (q - 1) (by omega) (by omega); omega
      · rw [if_neg q1, if_pos (show q = k by omega)]; exact Int.le_refl _
    · rw [if_neg p2]
      by_cases q1 : k < q ∧ q ≤ m
      · rw [if_pos q1]; exact hs _ _ hp (by omega) (by omega)
      · rw [if_neg q1]
        by_cases q2 : q = k
        · rw [if_pos q2]; exact h1 p hp (by omega)
        · rw [if_neg q2]; exact hs _ _ hp hpq (by omega)

set_option maxRecDepth 8000 in
set_option maxHeartbeats 6400000 in
theorem iSymR {w0 W : World} {g n cap a m : Nat} {f : Nat → Nat} (hs : Ss w0 g n f W) (hl : Lk w0) (ham : a + 1 < m) (hb : m + 1 ≤ n) (hn : n ≤ 200) (hso : SortOn a m f) :
    Calls Tryd.prog 84 #[.slice (some ⟨g, 0, none⟩) n cap, .int .i64 (a : Int), .int .i64 (m : Int), .int .i64 ((m : Int) + 1), cmpF] W (SymIs w0 g n f a (m + 1)) := by
  have HS := Lib.hid hs
  have HL := Lib.hid hl
  have HSO := Lib.hid hso
  have d0 : (((m : Int) - (a : Int)) == 1) = false := by rw [beq_eq_false_iff_ne]; omega
  have d00 : (((m : Int) + 1 - (m : Int)) == 1) = true := by rw [beq_iff_eq]; omega
  clear hs hl hso
  go_enter Tryd.func84, Tryd.ntmps84
  go_wp2
  go_loopw [14, 15] (fun x y wr => ∃ (i j : Nat), a ≤ i ∧ i ≤ j ∧ j ≤ m ∧ x = .int .i64 (i : Int) ∧ y = .int .i64 (j : Int) ∧ Hid (Ss w0 g n f wr ∧ (∀ t, a ≤ t → t < i → kw (f t) ≤ kw (f m)) ∧ (∀ t, j ≤ t → t < m → kw (f m) < kw (f t)))) (fun x y _ => (intOf y).toNat - (intOf x).toNat)
  case atStart => exact ⟨a, m, Nat.le_refl _, by omega, Nat.le_refl _, rfl, rfl, HS.out, fun t h1 h2 => by omega, fun t h1 h2 => by omega⟩
  case round =>
    rename_i wr
    clear HS
    obtain ⟨i, j, hi, hij, hj, rfl, rfl, HS⟩ := hrel
    by_cases hlt : i < j
    · have d1 : decide ((i : Int) < (j : Int)) = true := decide_eq_true (by omega)
      obtain ⟨h, hh⟩ : ∃ h, h = (i + j) / 2 := ⟨_, rfl⟩
      go_upto_region 17 with fail
      rw [show ((i : Int) + (j : Int)) / 2 = (h : Int) by omega]
      have hhb : i ≤ h ∧ h < j := by omega
      have hc1 := HS.out.1.1 h (by omega)
      have hc2 := HS.out.1.1 m (by omega)
      have hg := HS.out.1.2.2.1
      have i1 : (0 : Int) ≤ (h : Int) := by omega
      have i2 : (h : Int) < (n : Int) := by omega
      have i3 : (0 : Int) ≤ (m : Int) := by omega
      have i4 : (m : Int) < (n : Int) := by omega
      have i5 : h < n := by omega
      have i6 : m < n := by omega
      have HC := Lib.hid (iCmp (HS.out.1.2.2.2.2.2 m) (HS.out.1.2.2.2.2.2 h) wr.drew (HL.out.below HS.out.1.2.2.2.2.1.drew))
      have HH := Lib.hid hhb
      clear hh hhb
      go_region_held3 (fun wx => (∀ z y, z < wr.heap.size → wx.cell? ⟨z, y, none⟩ = wr.cell? ⟨z, y, none⟩) ∧ Below wr.heap.size wr wx)
        (first
          | exact Fl.keeps0 _
          | (refine Fl.keepsB hbn ?_; assumption)
          | (refine Fl.keepsD ?_; assumption))
        (first
          | (go_at_call 57; (refine (HC.out).mono ?_); rintro e w1 ⟨o, rfl, ho, hbn⟩; have HO := Lib.hid ho))
      have HBR := Lib.hid (Fl.stays_of (by assumption : (∀ z y, z < wr.heap.size → World.cell? _ ⟨z, y, none⟩ = wr.cell? ⟨z, y, none⟩) ∧ Below wr.heap.size wr _))
      have HS1 := Lib.hid (HS.out.1.call HBR.out)
      cases hkw : decide (kw (f m) < kw (f h))
      · have ho' : decide (o < 0) = false := HO.out.trans hkw
        have HF := Lib.hid (show Ss w0 g n f w1 ∧ (∀ t, a ≤ t → t < h + 1 → kw (f t) ≤ kw (f m)) ∧ (∀ t, j ≤ t → t < m → kw (f m) < kw (f t)) from ⟨HS1.out, fun t h1 h2 => by have k1 := of_decide_eq_false hkw; have k2 := HSO.out t h h1 (by omega) (by have := HH.out.2; omega); omega, HS.out.2.2⟩)
        clear hkw hbn hc1 hc2
        go_wp2
        go_roundw
        case rel => have h1 := HH.out; exact ⟨h + 1, j, by omega, by omega, hj, congrArg (Value.int .i64) (by omega), rfl, HF.out⟩
        case measure => have h1 := HH.out; simp only [intOf, Int.toNat_natCast]; omega
      · have ho' : decide (o < 0) = true := HO.out.trans hkw
        have HF := Lib.hid (show Ss w0 g n f w1 ∧ (∀ t, a ≤ t → t < i → kw (f t) ≤ kw (f m)) ∧ (∀ t, h ≤ t → t < m → kw (f m) < kw (f t)) from ⟨HS1.out, HS.out.2.1, fun t h1 h2 => by have k1 := of_decide_eq_true hkw; have k2 := HSO.out h t (by have := HH.out.1; omega) h1 h2; omega⟩)
        clear hkw hbn hc1 hc2
        go_wp2
        go_roundw
        case rel => have h1 := HH.out; exact ⟨i, h, hi, h1.1, by omega, rfl, rfl, HF.out⟩
        case measure => have h1 := HH.out; simp only [intOf, Int.toNat_natCast]; omega
    · obtain rfl : i = j := by omega
      have d1 : decide ((i : Int) < (i : Int)) = false := decide_eq_false (by omega)
      have HI := Lib.hid HS.out.2
      have HB0 := Lib.hid HS.out.1
      go_wp2
      go_loopw [17] (fun x wr => ∃ (k : Nat), i ≤ k ∧ k ≤ m ∧ x = .int .i64 (k : Int) ∧ Hid (Ss w0 g n (mvl f m k) wr)) (fun x _ => (intOf x).toNat)
      case atStart => exact ⟨m, by omega, Nat.le_refl _, rfl, by rw [mvl_start]; exact HB0.out⟩
      case round =>
        rename_i wr
        clear HB0 HS
        obtain ⟨k, hk1, hk2, rfl, HS⟩ := hrel
        by_cases hlt3 : i < k
        · have d2 : decide ((i : Int) < (k : Int)) = true := decide_eq_true (by omega)
          obtain ⟨q, hq⟩ : ∃ q, k = q + 1 := ⟨k - 1, by omega⟩
          have hw1 : wrap64 ((k : Int) - 1) = (q : Int) := by rw [IntWalk.wrap64_in _ ⟨by omega, by omega⟩]; omega
          have hw4 : IntKind.i64.wrap ((k : Int) - 1) = (q : Int) := by rw [IntKind.wrap_i64]; omega
          have i1 : (0 : Int) ≤ (k : Int) := by omega
          have i2 : (k : Int) < (n : Int) := by omega
          have i3 : (0 : Int) ≤ (q : Int) := by omega
          have i4 : (q : Int) < (n : Int) := by omega
          have i5 : k < n := by omega
          have i6 : q < n := by omega
          have nm : k ≠ q := by omega
          have nm2 : q ≠ k := by omega
          obtain ⟨v1, hv1⟩ : ∃ v1, v1 = mvl f m k k := ⟨_, rfl⟩
          obtain ⟨v2, hv2⟩ : ∃ v2, v2 = mvl f m k q := ⟨_, rfl⟩
          have c1 : wr.cell? ⟨g, k, none⟩ = some (fl v1) := by rw [hv1]; exact HS.out.1 k i5
          have c2 : wr.cell? ⟨g, q, none⟩ = some (fl v2) := by rw [hv2]; exact HS.out.1 q i6
          have y1 := HS.out.2.1 k
          have y2 := HS.out.2.1 q
          have HS3 := Lib.hid (show Ss w0 g n (mvl f m q) ((wr.setCell ⟨g, k, none⟩ (fl v2)).setCell ⟨g, q, none⟩ (fl v1)).drew by rw [hv1, hv2]; have h := (HS.out.swap k q).drew; rw [show swp (mvl f m k) k q = mvl f m q by rw [hq]; exact mvl_step (by omega)] at h; exact h)
          have HQ := Lib.hid (show i ≤ q ∧ q ≤ m ∧ q < k by omega)
          clear hv1 hv2 hq
          go_wp2
          go_region
          go_wp2
          go_roundw
          case rel => have h := HQ.out; exact ⟨q, h.1, h.2.1, by first | rfl | go_num, HS3.out⟩
          case measure => have h := HQ.out.2.2; clear hw1 hw4; simp only [intOf, Int.toNat_natCast]; omega
        · obtain rfl : k = i := by omega
          have d2 : decide ((k : Int) < (k : Int)) = false := decide_eq_false (by omega)
          have HF := Lib.hid (show ∃ f', Ss w0 g n f' wr ∧ PermOn a (m + 1) f f' ∧ SortOn a (m + 1) f' from ⟨_, HS.out, by have h := mvl_perm f a m (m - k) (by omega); rwa [show m - (m - k) = k by omega] at h, mvl_sort hi hj HSO.out HI.out.1 HI.out.2⟩)
          go_wp2
          refine bodyPost_ret (results_none rfl _ _ _) rfl ⟨rfl, HF.out⟩
end Go.Proofs.YtmjnnjjmfedlbaaDoor
