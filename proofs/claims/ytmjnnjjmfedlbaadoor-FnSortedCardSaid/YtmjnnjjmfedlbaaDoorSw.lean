/-
  Sorting: merging, whole.
-/
import Derived.Test.YtmjnnjjmfedlbaaDoorSv
namespace Go.Proofs.YtmjnnjjmfedlbaaDoor
set_option linter.unusedSimpArgs false
set_option linter.unusedVariables false
open Go.RowKit
open Go.Fl (fl isNan feq)

theorem rot_id {s m e : Nat} {f : Nat → Nat} (h : s = m ∨ e = m) : (fun t => f (rot s m e t)) = f := by
  funext t
  show f (rot s m e t) = f t
  congr 1
  unfold rot
  (repeat' split) <;> omega
theorem PermOn.sort_out {p q x y : Nat} {f g : Nat → Nat} (h : PermOn p q f g) (hs : SortOn x y f) (ho : y ≤ p ∨ q ≤ x) : SortOn x y g := by
  intro i j h1 h2 h3
  rw [h.out (show i < p ∨ q ≤ i by omega), h.out (show j < p ∨ q ≤ j by omega)]
  exact hs i j h1 h2 h3
theorem sym_cross {a m b mid s e : Nat} {f : Nat → Nat} (ham : a < m) (hmb : m < b) (hmid : mid = (a + b) / 2) (hs1 : a ≤ s) (hs2 : s ≤ m) (hs3 : s ≤ mid) (hs4 : mid + m ≤ s + b) (he : e = mid + m - s)
    (hI1 : s = a ∨ s + b = mid + m ∨ kw (f (s - 1)) ≤ kw (f (mid + m - s))) (hI2 : s = m ∨ s = mid ∨ kw (f (mid + m - 1 - s)) < kw (f s)) (hl : SortOn a m f) (hr : SortOn m b f) {F : Nat → Nat} (hF : ∀ t, F t = f (rot s m e t)) :
    SortOn a s F ∧ SortOn s mid F ∧ SortOn mid e F ∧ SortOn e b F ∧ ∀ x y, a ≤ x → x < mid → mid ≤ y → y < b → kw (F x) ≤ kw (F y) := by
  have r1 : ∀ t, t < s → rot s m e t = t := fun t h => by unfold rot; rw [if_pos (.inl h)]
  have r2 : ∀ t, s ≤ t → t < mid → rot s m e t = t - s + m := fun t h1 h2 => by unfold rot; rw [if_neg (by omega), if_pos (by omega)]
  have r3 : ∀ t, mid ≤ t → t < e → rot s m e t = t - (e - m) := fun t h1 h2 => by unfold rot; rw [if_neg (by omega), if_neg (by omega)]
  have r4 : ∀ t, e ≤ t → rot s m e t = t := fun t h => by unfold rot; rw [if_pos (.inr h)]
  refine ⟨?_, ?_, ?_, ?_, ?_⟩
  · intro i j h1 h2 h3
    rw [hF, hF, r1 i (by omega), r1 j h3]; exact hl i j h1 h2 (by omega)
  · intro i j h1 h2 h3
    rw [hF, hF, r2 i h1 (by omega), r2 j (by omega) h3]; exact hr _ _ (by omega) (by omega) (by omega)
  · intro i j h1 h2 h3
    rw [hF, hF, r3 i h1 (by omega), r3 j (by omega) h3]; exact hl _ _ (by omega) (by omega) (by omega)
  · intro i j h1 h2 h3
    rw [hF, hF, r4 i h1, r4 j (by omega)]; exact hr _ _ (by omega) h2 h3
  · intro x y x1 x2 y1 y2
    rw [hF, hF]
    by_cases hx : x < s
    · rw [r1 x hx]
      by_cases hy : y < e
      · rw [r3 y y1 hy]; exact hl _ _ x1 (by omega) (by omega)
      · rw [r4 y (by omega)]
        rcases hI1 with h | h | h
        · omega
        · omega
        · have k1 := hl x (s - 1) x1 (by omega) (by omega)
          have k2 := hr (mid + m - s) y (by omega) (by omega) y2
          omega
    · rw [r2 x (by omega) x2]
      by_cases hy : y < e
      · rw [r3 y y1 hy]
        rcases hI2 with h | h | h
        · omega
        · omega
        · have k1 := hr (x - s + m) (mid + m - 1 - s) (by omega) (by omega) (by omega)
          have k2 := hl s (y - (e - m)) hs1 (by omega) (by omega)
          omega
      · rw [r4 y (by omega)]; exact hr _ _ (by omega) (by omega) y2
theorem sym_done {a mid b : Nat} {f1 f2 f3 : Nat → Nat} (p : PermOn a mid f1 f2) (q : PermOn mid b f2 f3) (s2 : SortOn a mid f2) (s3 : SortOn mid b f3) (hx : ∀ x y, a ≤ x → x < mid → mid ≤ y → y < b → kw (f1 x) ≤ kw (f1 y)) : SortOn a b f3 := by
  intro i j h1 h2 h3
  by_cases hi : i < mid
  · by_cases hj : j < mid
    · rw [q.out (.inl hi), q.out (.inl hj)]; exact s2 i j h1 h2 hj
    · rw [q.out (.inl hi)]
      obtain ⟨x, hx1, hx2⟩ := p.src ⟨h1, hi⟩
      obtain ⟨y, hy1, hy2⟩ := q.src (i := j) ⟨by omega, h3⟩
      rw [hx2, hy2, p.out (.inr hy1.1)]
      exact hx x y hx1.1 hx1.2 hy1.1 hy1.2
  · exact s3 i j (by omega) h2 h3

set_option maxRecDepth 8000 in
set_option maxHeartbeats 12800000 in
theorem iSymG {w0 W : World} {g n cap a m b : Nat} {f : Nat → Nat} (hs : Ss w0 g n f W) (hl : Lk w0) (ham : a < m) (hmb : m < b) (hb : b ≤ n) (hn : n ≤ 200) (hsl : SortOn a m f) (hsr : SortOn m b f) (h1 : m ≠ a + 1) (h2 : b ≠ m + 1)
    (ih : ∀ (W : World) (f1 : Nat → Nat) (a1 m1 b1 : Nat), a1 < m1 → m1 < b1 → b1 ≤ n → b1 - a1 < b - a → Ss w0 g n f1 W → SortOn a1 m1 f1 → SortOn m1 b1 f1 → Calls Tryd.prog 84 #[.slice (some ⟨g, 0, none⟩) n cap, .int .i64 (a1 : Int), .int .i64 (m1 : Int), .int .i64 (b1 : Int), cmpF] W (SymIs w0 g n f1 a1 b1)) :
    Calls Tryd.prog 84 #[.slice (some ⟨g, 0, none⟩) n cap, .int .i64 (a : Int), .int .i64 (m : Int), .int .i64 (b : Int), cmpF] W (SymIs w0 g n f a b) := by
  have HS := Lib.hid hs
  have HL := Lib.hid hl
  have HSL := Lib.hid hsl
  have HSR := Lib.hid hsr
  have HIH := Lib.hid ih
  have d0 : (((m : Int) - (a : Int)) == 1) = false := by rw [beq_eq_false_iff_ne]; omega
  have d00 : (((b : Int) - (m : Int)) == 1) = false := by rw [beq_eq_false_iff_ne]; omega
  clear hs hl hsl hsr ih
  obtain ⟨mid, hmid⟩ : ∃ mid, mid = (a + b) / 2 := ⟨_, rfl⟩
  obtain ⟨p, hp⟩ : ∃ p, p = mid + m - 1 := ⟨_, rfl⟩
  have HM := Lib.hid (And.intro hmid hp)
  clear hmid hp
  go_enter Tryd.func84, Tryd.ntmps84
  go_upto_region 25 with fail
  rw [show ((a : Int) + (b : Int)) / 2 = (mid : Int) by have h := HM.out.1; omega]
  have hmb2 : a < mid ∧ mid < b := by have h := HM.out.1; omega
  by_cases hmm : mid < m
  · have d3 : decide ((mid : Int) < (m : Int)) = true := decide_eq_true (by omega)
    go_upto_region 33 with fail
    rw [show (mid : Int) + (m : Int) - (b : Int) = ((mid + m - b : Nat) : Int) by have h := HM.out.1; omega]
    rw [show (mid : Int) + (m : Int) - 1 = (p : Int) by have h := HM.out.2; omega]
    have hp : p + 1 = mid + m := by have h := HM.out.2; omega
    have HPP := Lib.hid hp
    clear hp
    go_loopw [20, 21] (fun x y wr => ∃ (s r : Nat), s ≤ r ∧ a ≤ s ∧ r ≤ m ∧ r ≤ mid ∧ mid + m ≤ s + b ∧ x = .int .i64 (s : Int) ∧ y = .int .i64 (r : Int) ∧ Hid (Ss w0 g n f wr ∧ (s = a ∨ s + b = mid + m ∨ kw (f (s - 1)) ≤ kw (f (mid + m - s))) ∧ (r = m ∨ r = mid ∨ kw (f (mid + m - 1 - r)) < kw (f r)))) (fun x y _ => (intOf y).toNat - (intOf x).toNat)
    case atStart => have hmid := HM.out.1; exact ⟨mid + m - b, mid, by omega, by omega, by omega, Nat.le_refl _, by omega, rfl, rfl, HS.out, .inr (.inl (by omega)), .inr (.inl rfl)⟩
    case round =>
      rename_i wr
      clear HS
      obtain ⟨s, r, hsr, hs1, hr1, hr2, hs4, rfl, rfl, HS⟩ := hrel
      by_cases hlt : s < r
      · have d1 : decide ((s : Int) < (r : Int)) = true := decide_eq_true (by omega)
        obtain ⟨c, hc⟩ : ∃ c, c = (s + r) / 2 := ⟨_, rfl⟩
        go_upto_region 35 with fail
        rw [show ((s : Int) + (r : Int)) / 2 = (c : Int) by omega]
        have hcb : s ≤ c ∧ c < r := by omega
        obtain ⟨q, hq⟩ : ∃ q, q = mid + m - 1 - c := ⟨_, rfl⟩
        have hc1 := HS.out.1.1 c (by omega)
        have hc2 := HS.out.1.1 q (by omega)
        have hg := HS.out.1.2.2.1
        have hw3 : IntKind.i64.wrap ((p : Int) - (c : Int)) = (q : Int) := by rw [IntKind.wrap_i64]; have h := HPP.out; omega
        have i1 : (0 : Int) ≤ (c : Int) := by omega
        have i2 : (c : Int) < (n : Int) := by omega
        have i3 : (0 : Int) ≤ (q : Int) := by omega
        have i4 : (q : Int) < (n : Int) := by omega
        have i5 : c < n := by omega
        have i6 : q < n := by omega
        have HC := Lib.hid (iCmp (HS.out.1.2.2.2.2.2 q) (HS.out.1.2.2.2.2.2 c) wr.drew (HL.out.below HS.out.1.2.2.2.2.1.drew))
        have HH := Lib.hid (And.intro hcb hq)
        clear hc hcb hq
        go_region_held3 (fun wx => (∀ z y, z < wr.heap.size → wx.cell? ⟨z, y, none⟩ = wr.cell? ⟨z, y, none⟩) ∧ Below wr.heap.size wr wx)
          (first
            | exact Fl.keeps0 _
            | (refine Fl.keepsB hbn ?_; assumption)
            | (refine Fl.keepsD ?_; assumption))
          (first
            | (go_at_call 57; (refine (HC.out).mono ?_); rintro e w1 ⟨o, rfl, ho, hbn⟩; have HO := Lib.hid ho))
        have HBR := Lib.hid (Fl.stays_of (by assumption : (∀ z y, z < wr.heap.size → World.cell? _ ⟨z, y, none⟩ = wr.cell? ⟨z, y, none⟩) ∧ Below wr.heap.size wr _))
        have HS1 := Lib.hid (HS.out.1.call HBR.out)
        cases hkw : decide (kw (f q) < kw (f c))
        · have ho' : decide (o < 0) = false := HO.out.trans hkw
          have HF := Lib.hid (show Ss w0 g n f w1 ∧ (c + 1 = a ∨ c + 1 + b = mid + m ∨ kw (f (c + 1 - 1)) ≤ kw (f (mid + m - (c + 1)))) ∧ (r = m ∨ r = mid ∨ kw (f (mid + m - 1 - r)) < kw (f r)) from ⟨HS1.out, .inr (.inr (by have k1 := of_decide_eq_false hkw; rw [Nat.add_sub_cancel, show mid + m - (c + 1) = q by have := HH.out.2; omega]; omega)), HS.out.2.2⟩)
          clear hkw hbn hc1 hc2
          go_wp2
          go_roundw
          case rel => have h1 := HH.out.1; exact ⟨c + 1, r, by omega, by omega, hr1, hr2, by omega, congrArg (Value.int .i64) (by omega), rfl, HF.out⟩
          case measure => have h1 := HH.out.1; clear hw3; simp only [intOf, Int.toNat_natCast]; omega
        · have ho' : decide (o < 0) = true := HO.out.trans hkw
          have HF := Lib.hid (show Ss w0 g n f w1 ∧ (s = a ∨ s + b = mid + m ∨ kw (f (s - 1)) ≤ kw (f (mid + m - s))) ∧ (c = m ∨ c = mid ∨ kw (f (mid + m - 1 - c)) < kw (f c)) from ⟨HS1.out, HS.out.2.1, .inr (.inr (by have k1 := of_decide_eq_true hkw; rw [← HH.out.2]; exact k1))⟩)
          clear hkw hbn hc1 hc2
          go_wp2
          go_roundw
          case rel => have h1 := HH.out.1; exact ⟨s, c, h1.1, hs1, by omega, by omega, hs4, rfl, rfl, HF.out⟩
          case measure => have h1 := HH.out.1; clear hw3; simp only [intOf, Int.toNat_natCast]; omega
      · obtain rfl : r = s := by omega
        have d1 : decide ((r : Int) < (r : Int)) = false := decide_eq_false (by omega)
        obtain ⟨e, he⟩ : ∃ e, e = mid + m - r := ⟨_, rfl⟩
        have HE := Lib.hid he
        clear he
        go_upto_region 39 with fail
        rw [show (mid : Int) + (m : Int) - (r : Int) = (e : Int) by have h := HE.out; omega]
        have he := HE.out
        have hmid := HM.out.1
        have hp := HPP.out
        have hI1 := HS.out.2.1
        have hI2 := HS.out.2.2
        replace HS := Lib.hid HS.out.1
        have hs2 := hr1
        have hs3 := hr2
        generalize r = s at *
        clear HE
        clear hsr hr1 hr2 d1 hlt
        by_cases c1 : s < m
        · by_cases c2 : m < e
          · by_cases c3 : a < s
            · by_cases c4 : e < b
              · skip
                have zx1 : s < m := by omega
                have yx1 : decide (s < m) = true := decide_eq_true (by omega)
                have x1 : decide ((s : Int) < (m : Int)) = true := decide_eq_true (by omega)
                have zx2 : m < e := by omega
                have yx2 : decide (m < e) = true := decide_eq_true (by omega)
                have x2 : decide ((m : Int) < (e : Int)) = true := decide_eq_true (by omega)
                have zx3 : a < s := by omega
                have yx3 : decide (a < s) = true := decide_eq_true (by omega)
                have x3 : decide ((a : Int) < (s : Int)) = true := decide_eq_true (by omega)
                have zx4 : s < mid := by omega
                have yx4 : decide (s < mid) = true := decide_eq_true (by omega)
                have x4 : decide ((s : Int) < (mid : Int)) = true := decide_eq_true (by omega)
                have zx5 : mid < e := by omega
                have yx5 : decide (mid < e) = true := decide_eq_true (by omega)
                have x5 : decide ((mid : Int) < (e : Int)) = true := decide_eq_true (by omega)
                have zx6 : e < b := by omega
                have yx6 : decide (e < b) = true := decide_eq_true (by omega)
                have x6 : decide ((e : Int) < (b : Int)) = true := decide_eq_true (by omega)
                obtain ⟨f1, hf1⟩ : ∃ f1 : Nat → Nat, f1 = fun t => f (rot s m e t) := ⟨_, rfl⟩
                have HR := Lib.hid (iRot (cap := cap) (a := s) (m := m) (b := e) HS.out (by omega) (by omega) (by omega) hn)
                rw [← hf1] at HR
                have HCR := Lib.hid (sym_cross ham hmb hmid hs1 hs2 hs3 hs4 he hI1 hI2 HSL.out HSR.out (F := f1) (fun t => by rw [hf1]))
                have HPR := Lib.hid (PermOn.rot (p := a) (q := b) f (show s ≤ m ∧ m ≤ e by omega) (by omega) (by omega))
                rw [← hf1] at HPR
                have HA := Lib.hid (fun (W' : World) (h : Ss w0 g n f1 W') => HIH.out W' f1 a s mid (by omega) (by omega) (by omega) (by omega) h HCR.out.1 HCR.out.2.1)
                have HBB := Lib.hid (fun (W' : World) (f2 : Nat → Nat) (h : Ss w0 g n f2 W') (hp : PermOn a mid f1 f2) => HIH.out W' f2 mid e b (by omega) (by omega) (by omega) (by omega) h (hp.sort_out HCR.out.2.2.1 (.inr (Nat.le_refl _))) (hp.sort_out HCR.out.2.2.2.1 (.inr (by omega))))
                have HNUM := Lib.hid (show a ≤ s ∧ s ≤ mid ∧ mid ≤ e ∧ e ≤ b ∧ a ≤ mid ∧ mid ≤ b by omega)
                clear hf1 hmid hp he hI1 hI2 hs1 hs2 hs3 hs4
                go_wp2_with (first | (go_at_call 100; (with_reducible refine HR.out.mono ?_); rintro e1 w1 ⟨rfl, hs⟩; have HS1 := Lib.hid hs; clear hs) | (go_at_call 84; (first | ((with_reducible refine (HA.out _ HS1.out).mono ?_); rintro e2 w2 ⟨rfl, f2, hs, hp, hso⟩; have HS2 := Lib.hid hs; have HP2 := Lib.hid (And.intro hp hso); clear hs hp hso) | ((with_reducible refine (HBB.out _ _ HS2.out HP2.out.1).mono ?_); rintro e3 w3 ⟨rfl, f3, hs, hp, hso⟩; have HS3 := Lib.hid hs; have HP3 := Lib.hid (And.intro hp hso); clear hs hp hso))))
                refine bodyPost_end (results_none rfl _ _ _) rfl ⟨rfl, f3, HS3.out, HPR.out.trans ((HP2.out.1.mono (Nat.le_refl _) HNUM.out.2.2.2.2.2).trans (HP3.out.1.mono HNUM.out.2.2.2.2.1 (Nat.le_refl _))), sym_done HP2.out.1 HP3.out.1 HP2.out.2 HP3.out.2 HCR.out.2.2.2.2⟩
              · skip
                have HEM := Lib.hid (show e = b by omega)
                have zx1 : s < m := by omega
                have yx1 : decide (s < m) = true := decide_eq_true (by omega)
                have x1 : decide ((s : Int) < (m : Int)) = true := decide_eq_true (by omega)
                have zx2 : m < e := by omega
                have yx2 : decide (m < e) = true := decide_eq_true (by omega)
                have x2 : decide ((m : Int) < (e : Int)) = true := decide_eq_true (by omega)
                have zx3 : a < s := by omega
                have yx3 : decide (a < s) = true := decide_eq_true (by omega)
                have x3 : decide ((a : Int) < (s : Int)) = true := decide_eq_true (by omega)
                have zx4 : s < mid := by omega
                have yx4 : decide (s < mid) = true := decide_eq_true (by omega)
                have x4 : decide ((s : Int) < (mid : Int)) = true := decide_eq_true (by omega)
                have zx5 : mid < e := by omega
                have yx5 : decide (mid < e) = true := decide_eq_true (by omega)
                have x5 : decide ((mid : Int) < (e : Int)) = true := decide_eq_true (by omega)
                have zx6 : ¬ (e < b) := by omega
                have yx6 : decide (e < b) = false := decide_eq_false (by omega)
                have x6 : decide ((e : Int) < (b : Int)) = false := decide_eq_false (by omega)
                obtain ⟨f1, hf1⟩ : ∃ f1 : Nat → Nat, f1 = fun t => f (rot s m e t) := ⟨_, rfl⟩
                have HR := Lib.hid (iRot (cap := cap) (a := s) (m := m) (b := e) HS.out (by omega) (by omega) (by omega) hn)
                rw [← hf1] at HR
                have HCR := Lib.hid (sym_cross ham hmb hmid hs1 hs2 hs3 hs4 he hI1 hI2 HSL.out HSR.out (F := f1) (fun t => by rw [hf1]))
                have HPR := Lib.hid (PermOn.rot (p := a) (q := b) f (show s ≤ m ∧ m ≤ e by omega) (by omega) (by omega))
                rw [← hf1] at HPR
                have HA := Lib.hid (fun (W' : World) (h : Ss w0 g n f1 W') => HIH.out W' f1 a s mid (by omega) (by omega) (by omega) (by omega) h HCR.out.1 HCR.out.2.1)
                have HNUM := Lib.hid (show a ≤ s ∧ s ≤ mid ∧ mid ≤ e ∧ e ≤ b ∧ a ≤ mid ∧ mid ≤ b by omega)
                clear hf1 hmid hp he hI1 hI2 hs1 hs2 hs3 hs4
                go_wp2_with (first | (go_at_call 100; (with_reducible refine HR.out.mono ?_); rintro e1 w1 ⟨rfl, hs⟩; have HS1 := Lib.hid hs; clear hs) | (go_at_call 84; (first | ((with_reducible refine (HA.out _ HS1.out).mono ?_); rintro e2 w2 ⟨rfl, f2, hs, hp, hso⟩; have HS2 := Lib.hid hs; have HP2 := Lib.hid (And.intro hp hso); clear hs hp hso))))
                refine bodyPost_end (results_none rfl _ _ _) rfl ⟨rfl, f2, HS2.out, HPR.out.trans (HP2.out.1.mono (Nat.le_refl _) HNUM.out.2.2.2.2.2), sym_done HP2.out.1 (PermOn.refl mid b _) HP2.out.2 (HP2.out.1.sort_out (by have h := HCR.out.2.2.1; rwa [show e = b from HEM.out] at h) (.inr (Nat.le_refl _))) HCR.out.2.2.2.2⟩
            · by_cases c4 : e < b
              · skip
                have zx1 : s < m := by omega
                have yx1 : decide (s < m) = true := decide_eq_true (by omega)
                have x1 : decide ((s : Int) < (m : Int)) = true := decide_eq_true (by omega)
                have zx2 : m < e := by omega
                have yx2 : decide (m < e) = true := decide_eq_true (by omega)
                have x2 : decide ((m : Int) < (e : Int)) = true := decide_eq_true (by omega)
                have zx3 : ¬ (a < s) := by omega
                have yx3 : decide (a < s) = false := decide_eq_false (by omega)
                have x3 : decide ((a : Int) < (s : Int)) = false := decide_eq_false (by omega)
                have zx5 : mid < e := by omega
                have yx5 : decide (mid < e) = true := decide_eq_true (by omega)
                have x5 : decide ((mid : Int) < (e : Int)) = true := decide_eq_true (by omega)
                have zx6 : e < b := by omega
                have yx6 : decide (e < b) = true := decide_eq_true (by omega)
                have x6 : decide ((e : Int) < (b : Int)) = true := decide_eq_true (by omega)
                obtain ⟨f1, hf1⟩ : ∃ f1 : Nat → Nat, f1 = fun t => f (rot s m e t) := ⟨_, rfl⟩
                have HR := Lib.hid (iRot (cap := cap) (a := s) (m := m) (b := e) HS.out (by omega) (by omega) (by omega) hn)
                rw [← hf1] at HR
                have HCR := Lib.hid (sym_cross ham hmb hmid hs1 hs2 hs3 hs4 he hI1 hI2 HSL.out HSR.out (F := f1) (fun t => by rw [hf1]))
                have HPR := Lib.hid (PermOn.rot (p := a) (q := b) f (show s ≤ m ∧ m ≤ e by omega) (by omega) (by omega))
                rw [← hf1] at HPR
                have HBB := Lib.hid (fun (W' : World) (f2 : Nat → Nat) (h : Ss w0 g n f2 W') (hp : PermOn a mid f1 f2) => HIH.out W' f2 mid e b (by omega) (by omega) (by omega) (by omega) h (hp.sort_out HCR.out.2.2.1 (.inr (Nat.le_refl _))) (hp.sort_out HCR.out.2.2.2.1 (.inr (by omega))))
                have HNUM := Lib.hid (show a ≤ s ∧ s ≤ mid ∧ mid ≤ e ∧ e ≤ b ∧ a ≤ mid ∧ mid ≤ b by omega)
                have HP2 := Lib.hid (show PermOn a mid f1 f1 ∧ SortOn a mid f1 from ⟨PermOn.refl _ _ _, by have h := HCR.out.2.1; rwa [show s = a by omega] at h⟩)
                clear hf1 hmid hp he hI1 hI2 hs1 hs2 hs3 hs4
                go_wp2_with (first | (go_at_call 100; (with_reducible refine HR.out.mono ?_); rintro e1 w1 ⟨rfl, hs⟩; have HS1 := Lib.hid hs; clear hs) | (go_at_call 84; (first | ((with_reducible refine (HBB.out _ _ HS1.out HP2.out.1).mono ?_); rintro e3 w3 ⟨rfl, f3, hs, hp, hso⟩; have HS3 := Lib.hid hs; have HP3 := Lib.hid (And.intro hp hso); clear hs hp hso))))
                refine bodyPost_end (results_none rfl _ _ _) rfl ⟨rfl, f3, HS3.out, HPR.out.trans ((HP2.out.1.mono (Nat.le_refl _) HNUM.out.2.2.2.2.2).trans (HP3.out.1.mono HNUM.out.2.2.2.2.1 (Nat.le_refl _))), sym_done HP2.out.1 HP3.out.1 HP2.out.2 HP3.out.2 HCR.out.2.2.2.2⟩
              · skip
                have HEM := Lib.hid (show e = b by omega)
                have zx1 : s < m := by omega
                have yx1 : decide (s < m) = true := decide_eq_true (by omega)
                have x1 : decide ((s : Int) < (m : Int)) = true := decide_eq_true (by omega)
                have zx2 : m < e := by omega
                have yx2 : decide (m < e) = true := decide_eq_true (by omega)
                have x2 : decide ((m : Int) < (e : Int)) = true := decide_eq_true (by omega)
                have zx3 : ¬ (a < s) := by omega
                have yx3 : decide (a < s) = false := decide_eq_false (by omega)
                have x3 : decide ((a : Int) < (s : Int)) = false := decide_eq_false (by omega)
                have zx5 : mid < e := by omega
                have yx5 : decide (mid < e) = true := decide_eq_true (by omega)
                have x5 : decide ((mid : Int) < (e : Int)) = true := decide_eq_true (by omega)
                have zx6 : ¬ (e < b) := by omega
                have yx6 : decide (e < b) = false := decide_eq_false (by omega)
                have x6 : decide ((e : Int) < (b : Int)) = false := decide_eq_false (by omega)
                obtain ⟨f1, hf1⟩ : ∃ f1 : Nat → Nat, f1 = fun t => f (rot s m e t) := ⟨_, rfl⟩
                have HR := Lib.hid (iRot (cap := cap) (a := s) (m := m) (b := e) HS.out (by omega) (by omega) (by omega) hn)
                rw [← hf1] at HR
                have HCR := Lib.hid (sym_cross ham hmb hmid hs1 hs2 hs3 hs4 he hI1 hI2 HSL.out HSR.out (F := f1) (fun t => by rw [hf1]))
                have HPR := Lib.hid (PermOn.rot (p := a) (q := b) f (show s ≤ m ∧ m ≤ e by omega) (by omega) (by omega))
                rw [← hf1] at HPR
                have HNUM := Lib.hid (show a ≤ s ∧ s ≤ mid ∧ mid ≤ e ∧ e ≤ b ∧ a ≤ mid ∧ mid ≤ b by omega)
                have HP2 := Lib.hid (show PermOn a mid f1 f1 ∧ SortOn a mid f1 from ⟨PermOn.refl _ _ _, by have h := HCR.out.2.1; rwa [show s = a by omega] at h⟩)
                clear hf1 hmid hp he hI1 hI2 hs1 hs2 hs3 hs4
                go_wp2_with (first | (go_at_call 100; (with_reducible refine HR.out.mono ?_); rintro e1 w1 ⟨rfl, hs⟩; have HS1 := Lib.hid hs; clear hs))
                refine bodyPost_end (results_none rfl _ _ _) rfl ⟨rfl, f1, HS1.out, HPR.out.trans (HP2.out.1.mono (Nat.le_refl _) HNUM.out.2.2.2.2.2), sym_done HP2.out.1 (PermOn.refl mid b _) HP2.out.2 (HP2.out.1.sort_out (by have h := HCR.out.2.2.1; rwa [show e = b from HEM.out] at h) (.inr (Nat.le_refl _))) HCR.out.2.2.2.2⟩
          · skip
            have zx1 : s < m := by omega
            have yx1 : decide (s < m) = true := decide_eq_true (by omega)
            have x1 : decide ((s : Int) < (m : Int)) = true := decide_eq_true (by omega)
            have zx2 : ¬ (m < e) := by omega
            have yx2 : decide (m < e) = false := decide_eq_false (by omega)
            have x2 : decide ((m : Int) < (e : Int)) = false := decide_eq_false (by omega)
            have zx3 : a < s := by omega
            have yx3 : decide (a < s) = true := decide_eq_true (by omega)
            have x3 : decide ((a : Int) < (s : Int)) = true := decide_eq_true (by omega)
            have zx4 : ¬ (s < mid) := by omega
            have yx4 : decide (s < mid) = false := decide_eq_false (by omega)
            have x4 : decide ((s : Int) < (mid : Int)) = false := decide_eq_false (by omega)
            have zx5 : mid < e := by omega
            have yx5 : decide (mid < e) = true := decide_eq_true (by omega)
            have x5 : decide ((mid : Int) < (e : Int)) = true := decide_eq_true (by omega)
            have zx6 : e < b := by omega
            have yx6 : decide (e < b) = true := decide_eq_true (by omega)
            have x6 : decide ((e : Int) < (b : Int)) = true := decide_eq_true (by omega)
            obtain ⟨f1, hf1⟩ : ∃ f1 : Nat → Nat, f1 = fun t => f (rot s m e t) := ⟨_, rfl⟩
            have HS1 := Lib.hid (show Ss w0 g n f1 wr by rw [hf1, rot_id (by omega)]; exact HS.out)
            have HCR := Lib.hid (sym_cross ham hmb hmid hs1 hs2 hs3 hs4 he hI1 hI2 HSL.out HSR.out (F := f1) (fun t => by rw [hf1]))
            have HPR := Lib.hid (PermOn.rot (p := a) (q := b) f (show s ≤ m ∧ m ≤ e by omega) (by omega) (by omega))
            rw [← hf1] at HPR
            have HBB := Lib.hid (fun (W' : World) (f2 : Nat → Nat) (h : Ss w0 g n f2 W') (hp : PermOn a mid f1 f2) => HIH.out W' f2 mid e b (by omega) (by omega) (by omega) (by omega) h (hp.sort_out HCR.out.2.2.1 (.inr (Nat.le_refl _))) (hp.sort_out HCR.out.2.2.2.1 (.inr (by omega))))
            have HNUM := Lib.hid (show a ≤ s ∧ s ≤ mid ∧ mid ≤ e ∧ e ≤ b ∧ a ≤ mid ∧ mid ≤ b by omega)
            have HP2 := Lib.hid (show PermOn a mid f1 f1 ∧ SortOn a mid f1 from ⟨PermOn.refl _ _ _, by have h := HCR.out.1; rwa [show s = mid by omega] at h⟩)
            clear hf1 hmid hp he hI1 hI2 hs1 hs2 hs3 hs4
            go_wp2_with (first | (go_at_call 84; (first | ((with_reducible refine (HBB.out _ _ HS1.out HP2.out.1).mono ?_); rintro e3 w3 ⟨rfl, f3, hs, hp, hso⟩; have HS3 := Lib.hid hs; have HP3 := Lib.hid (And.intro hp hso); clear hs hp hso))))
            refine bodyPost_end (results_none rfl _ _ _) rfl ⟨rfl, f3, HS3.out, HPR.out.trans ((HP2.out.1.mono (Nat.le_refl _) HNUM.out.2.2.2.2.2).trans (HP3.out.1.mono HNUM.out.2.2.2.2.1 (Nat.le_refl _))), sym_done HP2.out.1 HP3.out.1 HP2.out.2 HP3.out.2 HCR.out.2.2.2.2⟩
        · by_cases c2 : s < mid
          · skip
            have HEM := Lib.hid (show e = mid by omega)
            have zx1 : ¬ (s < m) := by omega
            have yx1 : decide (s < m) = false := decide_eq_false (by omega)
            have x1 : decide ((s : Int) < (m : Int)) = false := decide_eq_false (by omega)
            have zx3 : a < s := by omega
            have yx3 : decide (a < s) = true := decide_eq_true (by omega)
            have x3 : decide ((a : Int) < (s : Int)) = true := decide_eq_true (by omega)
            have zx4 : s < mid := by omega
            have yx4 : decide (s < mid) = true := decide_eq_true (by omega)
            have x4 : decide ((s : Int) < (mid : Int)) = true := decide_eq_true (by omega)
            have zx5 : ¬ (mid < e) := by omega
            have yx5 : decide (mid < e) = false := decide_eq_false (by omega)
            have x5 : decide ((mid : Int) < (e : Int)) = false := decide_eq_false (by omega)
            obtain ⟨f1, hf1⟩ : ∃ f1 : Nat → Nat, f1 = fun t => f (rot s m e t) := ⟨_, rfl⟩
            have HS1 := Lib.hid (show Ss w0 g n f1 wr by rw [hf1, rot_id (by omega)]; exact HS.out)
            have HCR := Lib.hid (sym_cross ham hmb hmid hs1 hs2 hs3 hs4 he hI1 hI2 HSL.out HSR.out (F := f1) (fun t => by rw [hf1]))
            have HPR := Lib.hid (PermOn.rot (p := a) (q := b) f (show s ≤ m ∧ m ≤ e by omega) (by omega) (by omega))
            rw [← hf1] at HPR
            have HA := Lib.hid (fun (W' : World) (h : Ss w0 g n f1 W') => HIH.out W' f1 a s mid (by omega) (by omega) (by omega) (by omega) h HCR.out.1 HCR.out.2.1)
            have HNUM := Lib.hid (show a ≤ s ∧ s ≤ mid ∧ mid ≤ e ∧ e ≤ b ∧ a ≤ mid ∧ mid ≤ b by omega)
            clear hf1 hmid hp he hI1 hI2 hs1 hs2 hs3 hs4
            go_wp2_with (first | (go_at_call 84; (first | ((with_reducible refine (HA.out _ HS1.out).mono ?_); rintro e2 w2 ⟨rfl, f2, hs, hp, hso⟩; have HS2 := Lib.hid hs; have HP2 := Lib.hid (And.intro hp hso); clear hs hp hso))))
            refine bodyPost_end (results_none rfl _ _ _) rfl ⟨rfl, f2, HS2.out, HPR.out.trans (HP2.out.1.mono (Nat.le_refl _) HNUM.out.2.2.2.2.2), sym_done HP2.out.1 (PermOn.refl mid b _) HP2.out.2 (HP2.out.1.sort_out (by have h := HCR.out.2.2.2.1; rwa [show e = mid from HEM.out] at h) (.inr (Nat.le_refl _))) HCR.out.2.2.2.2⟩
          · skip
            have HEM := Lib.hid (show e = mid by omega)
            have zx1 : ¬ (s < m) := by omega
            have yx1 : decide (s < m) = false := decide_eq_false (by omega)
            have x1 : decide ((s : Int) < (m : Int)) = false := decide_eq_false (by omega)
            have zx3 : a < s := by omega
            have yx3 : decide (a < s) = true := decide_eq_true (by omega)
            have x3 : decide ((a : Int) < (s : Int)) = true := decide_eq_true (by omega)
            have zx4 : ¬ (s < mid) := by omega
            have yx4 : decide (s < mid) = false := decide_eq_false (by omega)
            have x4 : decide ((s : Int) < (mid : Int)) = false := decide_eq_false (by omega)
            have zx5 : ¬ (mid < e) := by omega
            have yx5 : decide (mid < e) = false := decide_eq_false (by omega)
            have x5 : decide ((mid : Int) < (e : Int)) = false := decide_eq_false (by omega)
            obtain ⟨f1, hf1⟩ : ∃ f1 : Nat → Nat, f1 = fun t => f (rot s m e t) := ⟨_, rfl⟩
            have HS1 := Lib.hid (show Ss w0 g n f1 wr by rw [hf1, rot_id (by omega)]; exact HS.out)
            have HCR := Lib.hid (sym_cross ham hmb hmid hs1 hs2 hs3 hs4 he hI1 hI2 HSL.out HSR.out (F := f1) (fun t => by rw [hf1]))
            have HPR := Lib.hid (PermOn.rot (p := a) (q := b) f (show s ≤ m ∧ m ≤ e by omega) (by omega) (by omega))
            rw [← hf1] at HPR
            have HNUM := Lib.hid (show a ≤ s ∧ s ≤ mid ∧ mid ≤ e ∧ e ≤ b ∧ a ≤ mid ∧ mid ≤ b by omega)
            have HP2 := Lib.hid (show PermOn a mid f1 f1 ∧ SortOn a mid f1 from ⟨PermOn.refl _ _ _, by have h := HCR.out.1; rwa [show s = mid by omega] at h⟩)
            clear hf1 hmid hp he hI1 hI2 hs1 hs2 hs3 hs4
            go_wp2
            refine bodyPost_end (results_none rfl _ _ _) rfl ⟨rfl, f1, HS1.out, HPR.out.trans (HP2.out.1.mono (Nat.le_refl _) HNUM.out.2.2.2.2.2), sym_done HP2.out.1 (PermOn.refl mid b _) HP2.out.2 (HP2.out.1.sort_out (by have h := HCR.out.2.2.2.1; rwa [show e = mid from HEM.out] at h) (.inr (Nat.le_refl _))) HCR.out.2.2.2.2⟩
  · have d3 : decide ((mid : Int) < (m : Int)) = false := decide_eq_false (by omega)
    go_upto_region 33 with fail
    rw [show (mid : Int) + (m : Int) - 1 = (p : Int) by have h := HM.out.2; omega]
    have hp : p + 1 = mid + m := by have h := HM.out.2; omega
    have HPP := Lib.hid hp
    clear hp
    go_loopw [20, 21] (fun x y wr => ∃ (s r : Nat), s ≤ r ∧ a ≤ s ∧ r ≤ m ∧ r ≤ mid ∧ mid + m ≤ s + b ∧ x = .int .i64 (s : Int) ∧ y = .int .i64 (r : Int) ∧ Hid (Ss w0 g n f wr ∧ (s = a ∨ s + b = mid + m ∨ kw (f (s - 1)) ≤ kw (f (mid + m - s))) ∧ (r = m ∨ r = mid ∨ kw (f (mid + m - 1 - r)) < kw (f r)))) (fun x y _ => (intOf y).toNat - (intOf x).toNat)
    case atStart => have hmid := HM.out.1; exact ⟨a, m, by omega, Nat.le_refl _, Nat.le_refl _, by omega, by omega, rfl, rfl, HS.out, .inl rfl, .inl rfl⟩
    case round =>
      rename_i wr
      clear HS
      obtain ⟨s, r, hsr, hs1, hr1, hr2, hs4, rfl, rfl, HS⟩ := hrel
      by_cases hlt : s < r
      · have d1 : decide ((s : Int) < (r : Int)) = true := decide_eq_true (by omega)
        obtain ⟨c, hc⟩ : ∃ c, c = (s + r) / 2 := ⟨_, rfl⟩
        go_upto_region 35 with fail
        rw [show ((s : Int) + (r : Int)) / 2 = (c : Int) by omega]
        have hcb : s ≤ c ∧ c < r := by omega
        obtain ⟨q, hq⟩ : ∃ q, q = mid + m - 1 - c := ⟨_, rfl⟩
        have hc1 := HS.out.1.1 c (by omega)
        have hc2 := HS.out.1.1 q (by omega)
        have hg := HS.out.1.2.2.1
        have hw3 : IntKind.i64.wrap ((p : Int) - (c : Int)) = (q : Int) := by rw [IntKind.wrap_i64]; have h := HPP.out; omega
        have i1 : (0 : Int) ≤ (c : Int) := by omega
        have i2 : (c : Int) < (n : Int) := by omega
        have i3 : (0 : Int) ≤ (q : Int) := by omega
        have i4 : (q : Int) < (n : Int) := by omega
        have i5 : c < n := by omega
        have i6 : q < n := by omega
        have HC := Lib.hid (iCmp (HS.out.1.2.2.2.2.2 q) (HS.out.1.2.2.2.2.2 c) wr.drew (HL.out.below HS.out.1.2.2.2.2.1.drew))
        have HH := Lib.hid (And.intro hcb hq)
        clear hc hcb hq
        go_region_held3 (fun wx => (∀ z y, z < wr.heap.size → wx.cell? ⟨z, y, none⟩ = wr.cell? ⟨z, y, none⟩) ∧ Below wr.heap.size wr wx)
          (first
            | exact Fl.keeps0 _
            | (refine Fl.keepsB hbn ?_; assumption)
            | (refine Fl.keepsD ?_; assumption))
          (first
            | (go_at_call 57; (refine (HC.out).mono ?_); rintro e w1 ⟨o, rfl, ho, hbn⟩; have HO := Lib.hid ho))
        have HBR := Lib.hid (Fl.stays_of (by assumption : (∀ z y, z < wr.heap.size → World.cell? _ ⟨z, y, none⟩ = wr.cell? ⟨z, y, none⟩) ∧ Below wr.heap.size wr _))
        have HS1 := Lib.hid (HS.out.1.call HBR.out)
        cases hkw : decide (kw (f q) < kw (f c))
        · have ho' : decide (o < 0) = false := HO.out.trans hkw
          have HF := Lib.hid (show Ss w0 g n f w1 ∧ (c + 1 = a ∨ c + 1 + b = mid + m ∨ kw (f (c + 1 - 1)) ≤ kw (f (mid + m - (c + 1)))) ∧ (r = m ∨ r = mid ∨ kw (f (mid + m - 1 - r)) < kw (f r)) from ⟨HS1.out, .inr (.inr (by have k1 := of_decide_eq_false hkw; rw [Nat.add_sub_cancel, show mid + m - (c + 1) = q by have := HH.out.2; omega]; omega)), HS.out.2.2⟩)
          clear hkw hbn hc1 hc2
          go_wp2
          go_roundw
          case rel => have h1 := HH.out.1; exact ⟨c + 1, r, by omega, by omega, hr1, hr2, by omega, congrArg (Value.int .i64) (by omega), rfl, HF.out⟩
          case measure => have h1 := HH.out.1; clear hw3; simp only [intOf, Int.toNat_natCast]; omega
        · have ho' : decide (o < 0) = true := HO.out.trans hkw
          have HF := Lib.hid (show Ss w0 g n f w1 ∧ (s = a ∨ s + b = mid + m ∨ kw (f (s - 1)) ≤ kw (f (mid + m - s))) ∧ (c = m ∨ c = mid ∨ kw (f (mid + m - 1 - c)) < kw (f c)) from ⟨HS1.out, HS.out.2.1, .inr (.inr (by have k1 := of_decide_eq_true hkw; rw [← HH.out.2]; exact k1))⟩)
          clear hkw hbn hc1 hc2
          go_wp2
          go_roundw
          case rel => have h1 := HH.out.1; exact ⟨s, c, h1.1, hs1, by omega, by omega, hs4, rfl, rfl, HF.out⟩
          case measure => have h1 := HH.out.1; clear hw3; simp only [intOf, Int.toNat_natCast]; omega
      · obtain rfl : r = s := by omega
        have d1 : decide ((r : Int) < (r : Int)) = false := decide_eq_false (by omega)
        obtain ⟨e, he⟩ : ∃ e, e = mid + m - r := ⟨_, rfl⟩
        have HE := Lib.hid he
        clear he
        go_upto_region 39 with fail
        rw [show (mid : Int) + (m : Int) - (r : Int) = (e : Int) by have h := HE.out; omega]
        have he := HE.out
        have hmid := HM.out.1
        have hp := HPP.out
        have hI1 := HS.out.2.1
        have hI2 := HS.out.2.2
        replace HS := Lib.hid HS.out.1
        have hs2 := hr1
        have hs3 := hr2
        generalize r = s at *
        clear HE
        clear hsr hr1 hr2 d1 hlt
        by_cases c1 : s < m
        · by_cases c2 : m < e
          · by_cases c3 : a < s
            · by_cases c4 : e < b
              · skip
                have zx1 : s < m := by omega
                have yx1 : decide (s < m) = true := decide_eq_true (by omega)
                have x1 : decide ((s : Int) < (m : Int)) = true := decide_eq_true (by omega)
                have zx2 : m < e := by omega
                have yx2 : decide (m < e) = true := decide_eq_true (by omega)
                have x2 : decide ((m : Int) < (e : Int)) = true := decide_eq_true (by omega)
                have zx3 : a < s := by omega
                have yx3 : decide (a < s) = true := decide_eq_true (by omega)
                have x3 : decide ((a : Int) < (s : Int)) = true := decide_eq_true (by omega)
                have zx4 : s < mid := by omega
                have yx4 : decide (s < mid) = true := decide_eq_true (by omega)
                have x4 : decide ((s : Int) < (mid : Int)) = true := decide_eq_true (by omega)
                have zx5 : mid < e := by omega
                have yx5 : decide (mid < e) = true := decide_eq_true (by omega)
                have x5 : decide ((mid : Int) < (e : Int)) = true := decide_eq_true (by omega)
                have zx6 : e < b := by omega
                have yx6 : decide (e < b) = true := decide_eq_true (by omega)
                have x6 : decide ((e : Int) < (b : Int)) = true := decide_eq_true (by omega)
                obtain ⟨f1, hf1⟩ : ∃ f1 : Nat → Nat, f1 = fun t => f (rot s m e t) := ⟨_, rfl⟩
                have HR := Lib.hid (iRot (cap := cap) (a := s) (m := m) (b := e) HS.out (by omega) (by omega) (by omega) hn)
                rw [← hf1] at HR
                have HCR := Lib.hid (sym_cross ham hmb hmid hs1 hs2 hs3 hs4 he hI1 hI2 HSL.out HSR.out (F := f1) (fun t => by rw [hf1]))
                have HPR := Lib.hid (PermOn.rot (p := a) (q := b) f (show s ≤ m ∧ m ≤ e by omega) (by omega) (by omega))
                rw [← hf1] at HPR
                have HA := Lib.hid (fun (W' : World) (h : Ss w0 g n f1 W') => HIH.out W' f1 a s mid (by omega) (by omega) (by omega) (by omega) h HCR.out.1 HCR.out.2.1)
                have HBB := Lib.hid (fun (W' : World) (f2 : Nat → Nat) (h : Ss w0 g n f2 W') (hp : PermOn a mid f1 f2) => HIH.out W' f2 mid e b (by omega) (by omega) (by omega) (by omega) h (hp.sort_out HCR.out.2.2.1 (.inr (Nat.le_refl _))) (hp.sort_out HCR.out.2.2.2.1 (.inr (by omega))))
                have HNUM := Lib.hid (show a ≤ s ∧ s ≤ mid ∧ mid ≤ e ∧ e ≤ b ∧ a ≤ mid ∧ mid ≤ b by omega)
                clear hf1 hmid hp he hI1 hI2 hs1 hs2 hs3 hs4
                go_wp2_with (first | (go_at_call 100; (with_reducible refine HR.out.mono ?_); rintro e1 w1 ⟨rfl, hs⟩; have HS1 := Lib.hid hs; clear hs) | (go_at_call 84; (first | ((with_reducible refine (HA.out _ HS1.out).mono ?_); rintro e2 w2 ⟨rfl, f2, hs, hp, hso⟩; have HS2 := Lib.hid hs; have HP2 := Lib.hid (And.intro hp hso); clear hs hp hso) | ((with_reducible refine (HBB.out _ _ HS2.out HP2.out.1).mono ?_); rintro e3 w3 ⟨rfl, f3, hs, hp, hso⟩; have HS3 := Lib.hid hs; have HP3 := Lib.hid (And.intro hp hso); clear hs hp hso))))
                refine bodyPost_end (results_none rfl _ _ _) rfl ⟨rfl, f3, HS3.out, HPR.out.trans ((HP2.out.1.mono (Nat.le_refl _) HNUM.out.2.2.2.2.2).trans (HP3.out.1.mono HNUM.out.2.2.2.2.1 (Nat.le_refl _))), sym_done HP2.out.1 HP3.out.1 HP2.out.2 HP3.out.2 HCR.out.2.2.2.2⟩
              · skip
                have HEM := Lib.hid (show e = b by omega)
                have zx1 : s < m := by omega
                have yx1 : decide (s < m) = true := decide_eq_true (by omega)
                have x1 : decide ((s : Int) < (m : Int)) = true := decide_eq_true (by omega)
                have zx2 : m < e := by omega
                have yx2 : decide (m < e) = true := decide_eq_true (by omega)
                have x2 : decide ((m : Int) < (e : Int)) = true := decide_eq_true (by omega)
                have zx3 : a < s := by omega
                have yx3 : decide (a < s) = true := decide_eq_true (by omega)
                have x3 : decide ((a : Int) < (s : Int)) = true := decide_eq_true (by omega)
                have zx4 : s < mid := by omega
                have yx4 : decide (s < mid) = true := decide_eq_true (by omega)
                have x4 : decide ((s : Int) < (mid : Int)) = true := decide_eq_true (by omega)
                have zx5 : mid < e := by omega
                have yx5 : decide (mid < e) = true := decide_eq_true (by omega)
                have x5 : decide ((mid : Int) < (e : Int)) = true := decide_eq_true (by omega)
                have zx6 : ¬ (e < b) := by omega
                have yx6 : decide (e < b) = false := decide_eq_false (by omega)
                have x6 : decide ((e : Int) < (b : Int)) = false := decide_eq_false (by omega)
                obtain ⟨f1, hf1⟩ : ∃ f1 : Nat → Nat, f1 = fun t => f (rot s m e t) := ⟨_, rfl⟩
                have HR := Lib.hid (iRot (cap := cap) (a := s) (m := m) (b := e) HS.out (by omega) (by omega) (by omega) hn)
                rw [← hf1] at HR
                have HCR := Lib.hid (sym_cross ham hmb hmid hs1 hs2 hs3 hs4 he hI1 hI2 HSL.out HSR.out (F := f1) (fun t => by rw [hf1]))
                have HPR := Lib.hid (PermOn.rot (p := a) (q := b) f (show s ≤ m ∧ m ≤ e by omega) (by omega) (by omega))
                rw [← hf1] at HPR
                have HA := Lib.hid (fun (W' : World) (h : Ss w0 g n f1 W') => HIH.out W' f1 a s mid (by omega) (by omega) (by omega) (by omega) h HCR.out.1 HCR.out.2.1)
                have HNUM := Lib.hid (show a ≤ s ∧ s ≤ mid ∧ mid ≤ e ∧ e ≤ b ∧ a ≤ mid ∧ mid ≤ b by omega)
                clear hf1 hmid hp he hI1 hI2 hs1 hs2 hs3 hs4
                go_wp2_with (first | (go_at_call 100; (with_reducible refine HR.out.mono ?_); rintro e1 w1 ⟨rfl, hs⟩; have HS1 := Lib.hid hs; clear hs) | (go_at_call 84; (first | ((with_reducible refine (HA.out _ HS1.out).mono ?_); rintro e2 w2 ⟨rfl, f2, hs, hp, hso⟩; have HS2 := Lib.hid hs; have HP2 := Lib.hid (And.intro hp hso); clear hs hp hso))))
                refine bodyPost_end (results_none rfl _ _ _) rfl ⟨rfl, f2, HS2.out, HPR.out.trans (HP2.out.1.mono (Nat.le_refl _) HNUM.out.2.2.2.2.2), sym_done HP2.out.1 (PermOn.refl mid b _) HP2.out.2 (HP2.out.1.sort_out (by have h := HCR.out.2.2.1; rwa [show e = b from HEM.out] at h) (.inr (Nat.le_refl _))) HCR.out.2.2.2.2⟩
            · by_cases c4 : e < b
              · skip
                have zx1 : s < m := by omega
                have yx1 : decide (s < m) = true := decide_eq_true (by omega)
                have x1 : decide ((s : Int) < (m : Int)) = true := decide_eq_true (by omega)
                have zx2 : m < e := by omega
                have yx2 : decide (m < e) = true := decide_eq_true (by omega)
                have x2 : decide ((m : Int) < (e : Int)) = true := decide_eq_true (by omega)
                have zx3 : ¬ (a < s) := by omega
                have yx3 : decide (a < s) = false := decide_eq_false (by omega)
                have x3 : decide ((a : Int) < (s : Int)) = false := decide_eq_false (by omega)
                have zx5 : mid < e := by omega
                have yx5 : decide (mid < e) = true := decide_eq_true (by omega)
                have x5 : decide ((mid : Int) < (e : Int)) = true := decide_eq_true (by omega)
                have zx6 : e < b := by omega
                have yx6 : decide (e < b) = true := decide_eq_true (by omega)
                have x6 : decide ((e : Int) < (b : Int)) = true := decide_eq_true (by omega)
                obtain ⟨f1, hf1⟩ : ∃ f1 : Nat → Nat, f1 = fun t => f (rot s m e t) := ⟨_, rfl⟩
                have HR := Lib.hid (iRot (cap := cap) (a := s) (m := m) (b := e) HS.out (by omega) (by omega) (by omega) hn)
                rw [← hf1] at HR
                have HCR := Lib.hid (sym_cross ham hmb hmid hs1 hs2 hs3 hs4 he hI1 hI2 HSL.out HSR.out (F := f1) (fun t => by rw [hf1]))
                have HPR := Lib.hid (PermOn.rot (p := a) (q := b) f (show s ≤ m ∧ m ≤ e by omega) (by omega) (by omega))
                rw [← hf1] at HPR
                have HBB := Lib.hid (fun (W' : World) (f2 : Nat → Nat) (h : Ss w0 g n f2 W') (hp : PermOn a mid f1 f2) => HIH.out W' f2 mid e b (by omega) (by omega) (by omega) (by omega) h (hp.sort_out HCR.out.2.2.1 (.inr (Nat.le_refl _))) (hp.sort_out HCR.out.2.2.2.1 (.inr (by omega))))
                have HNUM := Lib.hid (show a ≤ s ∧ s ≤ mid ∧ mid ≤ e ∧ e ≤ b ∧ a ≤ mid ∧ mid ≤ b by omega)
                have HP2 := Lib.hid (show PermOn a mid f1 f1 ∧ SortOn a mid f1 from ⟨PermOn.refl _ _ _, by have h := HCR.out.2.1; rwa [show s = a by omega] at h⟩)
                clear hf1 hmid hp he hI1 hI2 hs1 hs2 hs3 hs4
                go_wp2_with (first | (go_at_call 100; (with_reducible refine HR.out.mono ?_); rintro e1 w1 ⟨rfl, hs⟩; have HS1 := Lib.hid hs; clear hs) | (go_at_call 84; (first | ((with_reducible refine (HBB.out _ _ HS1.out HP2.out.1).mono ?_); rintro e3 w3 ⟨rfl, f3, hs, hp, hso⟩; have HS3 := Lib.hid hs; have HP3 := Lib.hid (And.intro hp hso); clear hs hp hso))))
                refine bodyPost_end (results_none rfl _ _ _) rfl ⟨rfl, f3, HS3.out, HPR.out.trans ((HP2.out.1.mono (Nat.le_refl _) HNUM.out.2.2.2.2.2).trans (HP3.out.1.mono HNUM.out.2.2.2.2.1 (Nat.le_refl _))), sym_done HP2.out.1 HP3.out.1 HP2.out.2 HP3.out.2 HCR.out.2.2.2.2⟩
              · skip
                have HEM := Lib.hid (show e = b by omega)
                have zx1 : s < m := by omega
                have yx1 : decide (s < m) = true := decide_eq_true (by omega)
                have x1 : decide ((s : Int) < (m : Int)) = true := decide_eq_true (by omega)
                have zx2 : m < e := by omega
                have yx2 : decide (m < e) = true := decide_eq_true (by omega)
                have x2 : decide ((m : Int) < (e : Int)) = true := decide_eq_true (by omega)
                have zx3 : ¬ (a < s) := by omega
                have yx3 : decide (a < s) = false := decide_eq_false (by omega)
                have x3 : decide ((a : Int) < (s : Int)) = false := decide_eq_false (by omega)
                have zx5 : mid < e := by omega
                have yx5 : decide (mid < e) = true := decide_eq_true (by omega)
                have x5 : decide ((mid : Int) < (e : Int)) = true := decide_eq_true (by omega)
                have zx6 : ¬ (e < b) := by omega
                have yx6 : decide (e < b) = false := decide_eq_false (by omega)
                have x6 : decide ((e : Int) < (b : Int)) = false := decide_eq_false (by omega)
                obtain ⟨f1, hf1⟩ : ∃ f1 : Nat → Nat, f1 = fun t => f (rot s m e t) := ⟨_, rfl⟩
                have HR := Lib.hid (iRot (cap := cap) (a := s) (m := m) (b := e) HS.out (by omega) (by omega) (by omega) hn)
                rw [← hf1] at HR
                have HCR := Lib.hid (sym_cross ham hmb hmid hs1 hs2 hs3 hs4 he hI1 hI2 HSL.out HSR.out (F := f1) (fun t => by rw [hf1]))
                have HPR := Lib.hid (PermOn.rot (p := a) (q := b) f (show s ≤ m ∧ m ≤ e by omega) (by omega) (by omega))
                rw [← hf1] at HPR
                have HNUM := Lib.hid (show a ≤ s ∧ s ≤ mid ∧ mid ≤ e ∧ e ≤ b ∧ a ≤ mid ∧ mid ≤ b by omega)
                have HP2 := Lib.hid (show PermOn a mid f1 f1 ∧ SortOn a mid f1 from ⟨PermOn.refl _ _ _, by have h := HCR.out.2.1; rwa [show s = a by omega] at h⟩)
                clear hf1 hmid hp he hI1 hI2 hs1 hs2 hs3 hs4
                go_wp2_with (first | (go_at_call 100; (with_reducible refine HR.out.mono ?_); rintro e1 w1 ⟨rfl, hs⟩; have HS1 := Lib.hid hs; clear hs))
                refine bodyPost_end (results_none rfl _ _ _) rfl ⟨rfl, f1, HS1.out, HPR.out.trans (HP2.out.1.mono (Nat.le_refl _) HNUM.out.2.2.2.2.2), sym_done HP2.out.1 (PermOn.refl mid b _) HP2.out.2 (HP2.out.1.sort_out (by have h := HCR.out.2.2.1; rwa [show e = b from HEM.out] at h) (.inr (Nat.le_refl _))) HCR.out.2.2.2.2⟩
          · skip
            have zx1 : s < m := by omega
            have yx1 : decide (s < m) = true := decide_eq_true (by omega)
            have x1 : decide ((s : Int) < (m : Int)) = true := decide_eq_true (by omega)
            have zx2 : ¬ (m < e) := by omega
            have yx2 : decide (m < e) = false := decide_eq_false (by omega)
            have x2 : decide ((m : Int) < (e : Int)) = false := decide_eq_false (by omega)
            have zx3 : a < s := by omega
            have yx3 : decide (a < s) = true := decide_eq_true (by omega)
            have x3 : decide ((a : Int) < (s : Int)) = true := decide_eq_true (by omega)
            have zx4 : ¬ (s < mid) := by omega
            have yx4 : decide (s < mid) = false := decide_eq_false (by omega)
            have x4 : decide ((s : Int) < (mid : Int)) = false := decide_eq_false (by omega)
            have zx5 : mid < e := by omega
            have yx5 : decide (mid < e) = true := decide_eq_true (by omega)
            have x5 : decide ((mid : Int) < (e : Int)) = true := decide_eq_true (by omega)
            have zx6 : e < b := by omega
            have yx6 : decide (e < b) = true := decide_eq_true (by omega)
            have x6 : decide ((e : Int) < (b : Int)) = true := decide_eq_true (by omega)
            obtain ⟨f1, hf1⟩ : ∃ f1 : Nat → Nat, f1 = fun t => f (rot s m e t) := ⟨_, rfl⟩
            have HS1 := Lib.hid (show Ss w0 g n f1 wr by rw [hf1, rot_id (by omega)]; exact HS.out)
            have HCR := Lib.hid (sym_cross ham hmb hmid hs1 hs2 hs3 hs4 he hI1 hI2 HSL.out HSR.out (F := f1) (fun t => by rw [hf1]))
            have HPR := Lib.hid (PermOn.rot (p := a) (q := b) f (show s ≤ m ∧ m ≤ e by omega) (by omega) (by omega))
            rw [← hf1] at HPR
            have HBB := Lib.hid (fun (W' : World) (f2 : Nat → Nat) (h : Ss w0 g n f2 W') (hp : PermOn a mid f1 f2) => HIH.out W' f2 mid e b (by omega) (by omega) (by omega) (by omega) h (hp.sort_out HCR.out.2.2.1 (.inr (Nat.le_refl _))) (hp.sort_out HCR.out.2.2.2.1 (.inr (by omega))))
            have HNUM := Lib.hid (show a ≤ s ∧ s ≤ mid ∧ mid ≤ e ∧ e ≤ b ∧ a ≤ mid ∧ mid ≤ b by omega)
            have HP2 := Lib.hid (show PermOn a mid f1 f1 ∧ SortOn a mid f1 from ⟨PermOn.refl _ _ _, by have h := HCR.out.1; rwa [show s = mid by omega] at h⟩)
            clear hf1 hmid hp he hI1 hI2 hs1 hs2 hs3 hs4
            go_wp2_with (first | (go_at_call 84; (first | ((with_reducible refine (HBB.out _ _ HS1.out HP2.out.1).mono ?_); rintro e3 w3 ⟨rfl, f3, hs, hp, hso⟩; have HS3 := Lib.hid hs; have HP3 := Lib.hid (And.intro hp hso); clear hs hp hso))))
            refine bodyPost_end (results_none rfl _ _ _) rfl ⟨rfl, f3, HS3.out, HPR.out.trans ((HP2.out.1.mono (Nat.le_refl _) HNUM.out.2.2.2.2.2).trans (HP3.out.1.mono HNUM.out.2.2.2.2.1 (Nat.le_refl _))), sym_done HP2.out.1 HP3.out.1 HP2.out.2 HP3.out.2 HCR.out.2.2.2.2⟩
        · by_cases c2 : s < mid
          · skip
            have HEM := Lib.hid (show e = mid by omega)
            have zx1 : ¬ (s < m) := by omega
            have yx1 : decide (s < m) = false := decide_eq_false (by omega)
            have x1 : decide ((s : Int) < (m : Int)) = false := decide_eq_false (by omega)
            have zx3 : a < s := by omega
            have yx3 : decide (a < s) = true := decide_eq_true (by omega)
            have x3 : decide ((a : Int) < (s : Int)) = true := decide_eq_true (by omega)
            have zx4 : s < mid := by omega
            have yx4 : decide (s < mid) = true := decide_eq_true (by omega)
            have x4 : decide ((s : Int) < (mid : Int)) = true := decide_eq_true (by omega)
            have zx5 : ¬ (mid < e) := by omega
            have yx5 : decide (mid < e) = false := decide_eq_false (by omega)
            have x5 : decide ((mid : Int) < (e : Int)) = false := decide_eq_false (by omega)
            obtain ⟨f1, hf1⟩ : ∃ f1 : Nat → Nat, f1 = fun t => f (rot s m e t) := ⟨_, rfl⟩
            have HS1 := Lib.hid (show Ss w0 g n f1 wr by rw [hf1, rot_id (by omega)]; exact HS.out)
            have HCR := Lib.hid (sym_cross ham hmb hmid hs1 hs2 hs3 hs4 he hI1 hI2 HSL.out HSR.out (F := f1) (fun t => by rw [hf1]))
            have HPR := Lib.hid (PermOn.rot (p := a) (q := b) f (show s ≤ m ∧ m ≤ e by omega) (by omega) (by omega))
            rw [← hf1] at HPR
            have HA := Lib.hid (fun (W' : World) (h : Ss w0 g n f1 W') => HIH.out W' f1 a s mid (by omega) (by omega) (by omega) (by omega) h HCR.out.1 HCR.out.2.1)
            have HNUM := Lib.hid (show a ≤ s ∧ s ≤ mid ∧ mid ≤ e ∧ e ≤ b ∧ a ≤ mid ∧ mid ≤ b by omega)
            clear hf1 hmid hp he hI1 hI2 hs1 hs2 hs3 hs4
            go_wp2_with (first | (go_at_call 84; (first | ((with_reducible refine (HA.out _ HS1.out).mono ?_); rintro e2 w2 ⟨rfl, f2, hs, hp, hso⟩; have HS2 := Lib.hid hs; have HP2 := Lib.hid (And.intro hp hso); clear hs hp hso))))
            refine bodyPost_end (results_none rfl _ _ _) rfl ⟨rfl, f2, HS2.out, HPR.out.trans (HP2.out.1.mono (Nat.le_refl _) HNUM.out.2.2.2.2.2), sym_done HP2.out.1 (PermOn.refl mid b _) HP2.out.2 (HP2.out.1.sort_out (by have h := HCR.out.2.2.2.1; rwa [show e = mid from HEM.out] at h) (.inr (Nat.le_refl _))) HCR.out.2.2.2.2⟩
          · skip
            have HEM := Lib.hid (show e = mid by omega)
            have zx1 : ¬ (s < m) := by omega
            have yx1 : decide (s < m) = false := decide_eq_false (by omega)
            have x1 : decide ((s : Int) < (m : Int)) = false := decide_eq_false (by omega)
            have zx3 : a < s := by omega
            have yx3 : decide (a < s) = true := decide_eq_true (by omega)
            have x3 : decide ((a : Int) < (s : Int)) = true := decide_eq_true (by omega)
            have zx4 : ¬ (s < mid) := by omega
            have yx4 : decide (s < mid) = false := decide_eq_false (by omega)
            have x4 : decide ((s : Int) < (mid : Int)) = false := decide_eq_false (by omega)
            have zx5 : ¬ (mid < e) := by omega
            have yx5 : decide (mid < e) = false := decide_eq_false (by omega)
            have x5 : decide ((mid : Int) < (e : Int)) = false := decide_eq_false (by omega)
            obtain ⟨f1, hf1⟩ : ∃ f1 : Nat → Nat, f1 = fun t => f (rot s m e t) := ⟨_, rfl⟩
            have HS1 := Lib.hid (show Ss w0 g n f1 wr by rw [hf1, rot_id (by omega)]; exact HS.out)
            have HCR := Lib.hid (sym_cross ham hmb hmid hs1 hs2 hs3 hs4 he hI1 hI2 HSL.out HSR.out (F := f1) (fun t => by rw [hf1]))
            have HPR := Lib.hid (PermOn.rot (p := a) (q := b) f (show s ≤ m ∧ m ≤ e by omega) (by omega) (by omega))
            rw [← hf1] at HPR
            have HNUM := Lib.hid (show a ≤ s ∧ s ≤ mid ∧ mid ≤ e ∧ e ≤ b ∧ a ≤ mid ∧ mid ≤ b by omega)
            have HP2 := Lib.hid (show PermOn a mid f1 f1 ∧ SortOn a mid f1 from ⟨PermOn.refl _ _ _, by have h := HCR.out.1; rwa [show s = mid by omega] at h⟩)
            clear hf1 hmid hp he hI1 hI2 hs1 hs2 hs3 hs4
            go_wp2
            refine bodyPost_end (results_none rfl _ _ _) rfl ⟨rfl, f1, HS1.out, HPR.out.trans (HP2.out.1.mono (Nat.le_refl _) HNUM.out.2.2.2.2.2), sym_done HP2.out.1 (PermOn.refl mid b _) HP2.out.2 (HP2.out.1.sort_out (by have h := HCR.out.2.2.2.1; rwa [show e = mid from HEM.out] at h) (.inr (Nat.le_refl _))) HCR.out.2.2.2.2⟩

theorem iSym {w0 : World} {g n cap : Nat} (hl : Lk w0) (hn : n ≤ 200) : ∀ (N : Nat) (W : World) (f : Nat → Nat) (a m b : Nat), b - a ≤ N → a < m → m < b → b ≤ n → Ss w0 g n f W → SortOn a m f → SortOn m b f →
    Calls Tryd.prog 84 #[.slice (some ⟨g, 0, none⟩) n cap, .int .i64 (a : Int), .int .i64 (m : Int), .int .i64 (b : Int), cmpF] W (SymIs w0 g n f a b)
  | 0, W, f, a, m, b, hN, ham, hmb, hb, hs, hsl, hsr => by omega
  | N + 1, W, f, a, m, b, hN, ham, hmb, hb, hs, hsl, hsr => by
    by_cases h1 : m = a + 1
    · subst h1
      exact iSymL hs hl hmb hb hn hsr
    · by_cases h2 : b = m + 1
      · subst h2
        exact iSymR hs hl (by omega) hb hn hsl
      · exact iSymG hs hl ham hmb hb hn hsl hsr h1 h2 (fun W f1 a1 m1 b1 k1 k2 k3 k4 k5 k6 k7 => iSym hl hn N W f1 a1 m1 b1 (by omega) k1 k2 k3 k5 k6 k7)
end Go.Proofs.YtmjnnjjmfedlbaaDoor
