/-
  Greatest and Least of the reference; Greatest and Least of the program, whole.
-/
import Derived.Test.YtmjnnjjmfedlbaaDoorGr
import Derived.Test.YtmjnnjjmfedlbaaDoorFb
import Derived.Deep.RegionHeld3
namespace Go.Proofs.YtmjnnjjmfedlbaaDoor
set_option linter.unusedSimpArgs false
set_option linter.unusedVariables false
open Go.RowKit
open Go.Fl (fl isNan feq ford FRow)

theorem ord_rng (f : Int) (a b : Nat) : ordV f a b = -1 ∨ ordV f a b = 0 ∨ ordV f a b = 1 ∨ ordV f a b = 2 := by
  unfold ordV cmpS
  (repeat' split) <;> omega

set_option maxRecDepth 8000 in
set_option maxHeartbeats 3200000 in
theorem sBestGr (A : Option Addr) (n c : Nat) (xs : List Nat) (w : World) (h : FRow w A n c xs) (hx64 : ∀ x ∈ xs, x < 2 ^ 64) :
    Calls Tryd.prog 63 #[.slice A n c, .int .i64 1] w (RetB (bestV xs 1) w) := by
  have HX := Lib.hid h.1
  have HR := Lib.hid h.2
  have HV := Lib.hid (show ∀ k, xs.getD k 0 < 2 ^ 64 from lt_at hx64)
  clear hx64
  by_cases hn : 200 < n
  · have hv : bestV xs 1 = 0 := by unfold bestV; rw [if_pos (.inr (by rw [HX.out]; exact hn))]
    rw [hv]
    have HF := Lib.hid (sList A n c)
    rw [decide_eq_false (show ¬ ((n : Int) ≤ 200) by omega)] at HF
    clear h hn hv
    go_enter Tryd.func63, Tryd.ntmps63
    go_wp2_with (go_at_call 50; (with_reducible refine (HF.out _).mono ?_); rintro e w1 ⟨rfl, hw⟩; rw [hw]; clear hw)
    go_ret
    exact ⟨0, rfl, feq.refl _, Below.refl _ _⟩
  by_cases h0 : n = 0
  · subst h0
    have hv : bestV xs 1 = 0 := by unfold bestV; rw [if_pos (.inl HX.out)]
    rw [hv]
    have HF := Lib.hid (sList A 0 c)
    rw [decide_eq_true (show (((0 : Nat) : Int) ≤ 200) by omega)] at HF
    clear h hn hv
    go_enter Tryd.func63, Tryd.ntmps63
    go_wp2_with (go_at_call 50; (with_reducible refine (HF.out _).mono ?_); rintro e w1 ⟨rfl, hw⟩; rw [hw]; clear hw)
    go_ret
    exact ⟨0, rfl, feq.refl _, Below.refl _ _⟩
  have HF := Lib.hid (sList A n c)
  rw [decide_eq_true (show ((n : Int) ≤ 200) by omega)] at HF
  obtain ⟨b0, off, rfl, hb0, hc0⟩ := HR.out.2.2 (by omega)
  have hcell : w.cell? ⟨b0, off, none⟩ = some (fl (xs.getD 0 0)) := hc0 0 (by omega)
  have t0 : ((n : Int) == 0) = false := beq_eq_false_iff_ne.2 (by omega)
  have hn1 : (0 : Int) < (n : Int) := by omega
  have hn2 : 0 < n := by omega
  have HN := Lib.hid (show n ≤ 200 by omega)
  have hv : (bestG xs 1 n = none → bestV xs 1 = 9221120237041090560) ∧ ∀ b, bestG xs 1 n = some b → bestV xs 1 = b := by
    unfold bestV
    rw [HX.out, if_neg (by omega)]
    exact ⟨fun e => by rw [e], fun b e => by rw [e]⟩
  generalize bestV xs 1 = v at hv ⊢
  have HVS := Lib.hid hv
  have HB0 := Lib.hid hb0
  clear h hn hv hb0
  go_enter Tryd.func63, Tryd.ntmps63
  go_wp2_with (go_at_call 50; (with_reducible refine (HF.out _).mono ?_); rintro e w1 ⟨rfl, hw⟩; rw [hw]; clear hw)
  go_loopw [5, 6] (fun o i wr => ∃ (k b : Nat), k ≤ n ∧ i = .int .i64 (k : Int) ∧ o = fl b ∧ b < 2 ^ 64 ∧ Hid (bestG xs 1 k = some b ∧ Below w.heap.size w wr)) (fun _ i _ => n - (intOf i).toNat)
  case atStart => exact ⟨0, _, Nat.zero_le _, rfl, rfl, HV.out 0, rfl, Below.refl _ _⟩
  case round =>
    rename_i wr hKK
    obtain ⟨k, b, hk, rfl, rfl, hb64, HK⟩ := hrel
    clear hcell
    by_cases hlt : k < n
    · have hck := (HK.out.2.cell (p := ⟨b0, off + k, none⟩) HB0.out).trans (hc0 k hlt)
      have HC := Lib.hid (hc0 k hlt)
      have hx64 := HV.out k
      have d1 : decide ((k : Int) < (n : Int)) = true := decide_eq_true (by omega)
      have hki : (0 : Int) ≤ (k : Int) := by omega
      have hkn : (k : Int) < (n : Int) := by omega
      have hw1 : wrap64 ((k : Int) + 1) = ((k + 1 : Nat) : Int) := by have := HN.out; rw [IntWalk.wrap64_in _ ⟨by omega, by omega⟩]; omega
      cases hnan : isNan (xs.getD k 0) with
      | true =>
        have HE := Lib.hid (bestG_none (bestG_nan HK.out.1 hnan) n (by omega))
        have hve := HVS.out.1 HE.out
        subst hve
        have ho : FloatKind.f64.format.order (xs.getD k 0) (xs.getD k 0) = none := Fl.ford_nan_left hnan _
        generalize xs.getD k 0 = x at *
        clear hc0
        have hbw : b0 < wr.heap.size := Nat.lt_of_lt_of_le HB0.out HK.out.2.size
        go_wp2_with fail
        go_region_held3 (fun wx => (∀ z y, z < wr.heap.size → wx.cell? ⟨z, y, none⟩ = wr.cell? ⟨z, y, none⟩) ∧ Below wr.heap.size wr wx)
          (first
            | exact Fl.keeps0 _
            | (refine Fl.keepsD ?_; assumption))
          (first | fail)
        have HBR := Lib.hid (Fl.stays_of (by assumption : (∀ z y, z < wr.heap.size → World.cell? _ ⟨z, y, none⟩ = wr.cell? ⟨z, y, none⟩) ∧ Below wr.heap.size wr _))
        have HBW := Lib.hid (Fl.chain HK.out.2 HBR.out)
        go_wp2_with (go_at_call 74; (with_reducible refine (sNaN_any _).mono ?_); rintro e w3 ⟨r, rfl, hr, -, hbn⟩; have HRN := Lib.hid hr; replace HBW := Lib.hid (Fl.chain HBW.out hbn); clear hr hbn)
        go_ret
        exact ⟨_, rfl, nan_plain HRN.out, HBW.out⟩
      | false =>
        have HE := Lib.hid (bestG_step HK.out.1 hnan)
        have ho : FloatKind.f64.format.order (xs.getD k 0) (xs.getD k 0) = some .eq := Fl.ford_self hnan
        generalize xs.getD k 0 = x at *
        have HT1 := Lib.hid (fun W => sToBits_any x W hx64)
        have HT2 := Lib.hid (fun W => sToBits_any b W hb64)
        have HO := Lib.hid (fun W => sOrder (f := 3) (cn_lt64 hx64) (cn_lt64 hb64) W)
        have HBX := Lib.hid (And.intro hb64 hx64)
        have hor := ord_rng 3 (cn x) (cn b)
        unfold ahead at HE
        generalize ordV 3 (cn x) (cn b) = o at HO HE hor
        generalize cn x = cx at *
        generalize cn b = cb at *
        clear hc0
        have hbw : b0 < wr.heap.size := Nat.lt_of_lt_of_le HB0.out HK.out.2.size
        go_wp2_with fail
        go_region_held3 (fun wx => (∀ z y, z < wr.heap.size → wx.cell? ⟨z, y, none⟩ = wr.cell? ⟨z, y, none⟩) ∧ Below wr.heap.size wr wx)
          (first
            | exact Fl.keeps0 _
            | (refine Fl.keepsD ?_; assumption))
          (first | fail)
        have HBR := Lib.hid (Fl.stays_of (by assumption : (∀ z y, z < wr.heap.size → World.cell? _ ⟨z, y, none⟩ = wr.cell? ⟨z, y, none⟩) ∧ Below wr.heap.size wr _))
        have HBW := Lib.hid (Fl.chain HK.out.2 HBR.out)
        have hck2 := (HBW.out.cell (p := ⟨b0, off + k, none⟩) HB0.out).trans HC.out
        rcases hor with rfl | rfl | rfl | rfl
        all_goals (go_wp2_with (first | (go_at_call 51; (first | (with_reducible refine (HT1.out _).mono ?_) | (with_reducible refine (HT2.out _).mono ?_)); rintro e w3 ⟨rfl, hbn⟩; (replace HBW := Lib.hid (Fl.chain HBW.out hbn)); (have hck := (HBW.out.cell (p := ⟨b0, off + k, none⟩) HB0.out).trans HC.out); clear hbn) | (go_at_call 12; (with_reducible refine (HO.out _).mono ?_); rintro e w3 ⟨rfl, hw⟩; rw [hw]; clear hw)))
        all_goals go_roundw
        all_goals first
          | (case measure => first | exact meas_step hlt | (rw [hw1]; exact meas_step hlt) | exact meas_step2 hlt)
          | (case rel => first | exact ⟨k + 1, b, by omega, by first | rfl | go_num, rfl, HBX.out.1, HE.out, HBW.out⟩ | exact ⟨k + 1, x, by omega, by first | rfl | go_num, rfl, HBX.out.2, HE.out, HBW.out⟩)
    · obtain rfl : k = n := by omega
      have d1 : decide ((k : Int) < (k : Int)) = false := decide_eq_false (by omega)
      clear hc0
      have hve := HVS.out.2 _ HK.out.1
      subst hve
      go_wp2
      go_ret
      exact ⟨_, rfl, feq.refl _, HK.out.2⟩

set_option maxRecDepth 8000 in
set_option maxHeartbeats 3200000 in
theorem sBestLe (A : Option Addr) (n c : Nat) (xs : List Nat) (w : World) (h : FRow w A n c xs) (hx64 : ∀ x ∈ xs, x < 2 ^ 64) :
    Calls Tryd.prog 63 #[.slice A n c, .int .i64 (-1)] w (RetB (bestV xs (-1)) w) := by
  have HX := Lib.hid h.1
  have HR := Lib.hid h.2
  have HV := Lib.hid (show ∀ k, xs.getD k 0 < 2 ^ 64 from lt_at hx64)
  clear hx64
  by_cases hn : 200 < n
  · have hv : bestV xs (-1) = 0 := by unfold bestV; rw [if_pos (.inr (by rw [HX.out]; exact hn))]
    rw [hv]
    have HF := Lib.hid (sList A n c)
    rw [decide_eq_false (show ¬ ((n : Int) ≤ 200) by omega)] at HF
    clear h hn hv
    go_enter Tryd.func63, Tryd.ntmps63
    go_wp2_with (go_at_call 50; (with_reducible refine (HF.out _).mono ?_); rintro e w1 ⟨rfl, hw⟩; rw [hw]; clear hw)
    go_ret
    exact ⟨0, rfl, feq.refl _, Below.refl _ _⟩
  by_cases h0 : n = 0
  · subst h0
    have hv : bestV xs (-1) = 0 := by unfold bestV; rw [if_pos (.inl HX.out)]
    rw [hv]
    have HF := Lib.hid (sList A 0 c)
    rw [decide_eq_true (show (((0 : Nat) : Int) ≤ 200) by omega)] at HF
    clear h hn hv
    go_enter Tryd.func63, Tryd.ntmps63
    go_wp2_with (go_at_call 50; (with_reducible refine (HF.out _).mono ?_); rintro e w1 ⟨rfl, hw⟩; rw [hw]; clear hw)
    go_ret
    exact ⟨0, rfl, feq.refl _, Below.refl _ _⟩
  have HF := Lib.hid (sList A n c)
  rw [decide_eq_true (show ((n : Int) ≤ 200) by omega)] at HF
  obtain ⟨b0, off, rfl, hb0, hc0⟩ := HR.out.2.2 (by omega)
  have hcell : w.cell? ⟨b0, off, none⟩ = some (fl (xs.getD 0 0)) := hc0 0 (by omega)
  have t0 : ((n : Int) == 0) = false := beq_eq_false_iff_ne.2 (by omega)
  have hn1 : (0 : Int) < (n : Int) := by omega
  have hn2 : 0 < n := by omega
  have HN := Lib.hid (show n ≤ 200 by omega)
  have hv : (bestG xs (-1) n = none → bestV xs (-1) = 9221120237041090560) ∧ ∀ b, bestG xs (-1) n = some b → bestV xs (-1) = b := by
    unfold bestV
    rw [HX.out, if_neg (by omega)]
    exact ⟨fun e => by rw [e], fun b e => by rw [e]⟩
  generalize bestV xs (-1) = v at hv ⊢
  have HVS := Lib.hid hv
  have HB0 := Lib.hid hb0
  clear h hn hv hb0
  go_enter Tryd.func63, Tryd.ntmps63
  go_wp2_with (go_at_call 50; (with_reducible refine (HF.out _).mono ?_); rintro e w1 ⟨rfl, hw⟩; rw [hw]; clear hw)
  go_loopw [5, 6] (fun o i wr => ∃ (k b : Nat), k ≤ n ∧ i = .int .i64 (k : Int) ∧ o = fl b ∧ b < 2 ^ 64 ∧ Hid (bestG xs (-1) k = some b ∧ Below w.heap.size w wr)) (fun _ i _ => n - (intOf i).toNat)
  case atStart => exact ⟨0, _, Nat.zero_le _, rfl, rfl, HV.out 0, rfl, Below.refl _ _⟩
  case round =>
    rename_i wr hKK
    obtain ⟨k, b, hk, rfl, rfl, hb64, HK⟩ := hrel
    clear hcell
    by_cases hlt : k < n
    · have hck := (HK.out.2.cell (p := ⟨b0, off + k, none⟩) HB0.out).trans (hc0 k hlt)
      have HC := Lib.hid (hc0 k hlt)
      have hx64 := HV.out k
      have d1 : decide ((k : Int) < (n : Int)) = true := decide_eq_true (by omega)
      have hki : (0 : Int) ≤ (k : Int) := by omega
      have hkn : (k : Int) < (n : Int) := by omega
      have hw1 : wrap64 ((k : Int) + 1) = ((k + 1 : Nat) : Int) := by have := HN.out; rw [IntWalk.wrap64_in _ ⟨by omega, by omega⟩]; omega
      cases hnan : isNan (xs.getD k 0) with
      | true =>
        have HE := Lib.hid (bestG_none (bestG_nan HK.out.1 hnan) n (by omega))
        have hve := HVS.out.1 HE.out
        subst hve
        have ho : FloatKind.f64.format.order (xs.getD k 0) (xs.getD k 0) = none := Fl.ford_nan_left hnan _
        generalize xs.getD k 0 = x at *
        clear hc0
        have hbw : b0 < wr.heap.size := Nat.lt_of_lt_of_le HB0.out HK.out.2.size
        go_wp2_with fail
        go_region_held3 (fun wx => (∀ z y, z < wr.heap.size → wx.cell? ⟨z, y, none⟩ = wr.cell? ⟨z, y, none⟩) ∧ Below wr.heap.size wr wx)
          (first
            | exact Fl.keeps0 _
            | (refine Fl.keepsD ?_; assumption))
          (first | fail)
        have HBR := Lib.hid (Fl.stays_of (by assumption : (∀ z y, z < wr.heap.size → World.cell? _ ⟨z, y, none⟩ = wr.cell? ⟨z, y, none⟩) ∧ Below wr.heap.size wr _))
        have HBW := Lib.hid (Fl.chain HK.out.2 HBR.out)
        go_wp2_with (go_at_call 74; (with_reducible refine (sNaN_any _).mono ?_); rintro e w3 ⟨r, rfl, hr, -, hbn⟩; have HRN := Lib.hid hr; replace HBW := Lib.hid (Fl.chain HBW.out hbn); clear hr hbn)
        go_ret
        exact ⟨_, rfl, nan_plain HRN.out, HBW.out⟩
      | false =>
        have HE := Lib.hid (bestG_step HK.out.1 hnan)
        have ho : FloatKind.f64.format.order (xs.getD k 0) (xs.getD k 0) = some .eq := Fl.ford_self hnan
        generalize xs.getD k 0 = x at *
        have HT1 := Lib.hid (fun W => sToBits_any x W hx64)
        have HT2 := Lib.hid (fun W => sToBits_any b W hb64)
        have HO := Lib.hid (fun W => sOrder (f := 3) (cn_lt64 hx64) (cn_lt64 hb64) W)
        have HBX := Lib.hid (And.intro hb64 hx64)
        have hor := ord_rng 3 (cn x) (cn b)
        unfold ahead at HE
        generalize ordV 3 (cn x) (cn b) = o at HO HE hor
        generalize cn x = cx at *
        generalize cn b = cb at *
        clear hc0
        have hbw : b0 < wr.heap.size := Nat.lt_of_lt_of_le HB0.out HK.out.2.size
        go_wp2_with fail
        go_region_held3 (fun wx => (∀ z y, z < wr.heap.size → wx.cell? ⟨z, y, none⟩ = wr.cell? ⟨z, y, none⟩) ∧ Below wr.heap.size wr wx)
          (first
            | exact Fl.keeps0 _
            | (refine Fl.keepsD ?_; assumption))
          (first | fail)
        have HBR := Lib.hid (Fl.stays_of (by assumption : (∀ z y, z < wr.heap.size → World.cell? _ ⟨z, y, none⟩ = wr.cell? ⟨z, y, none⟩) ∧ Below wr.heap.size wr _))
        have HBW := Lib.hid (Fl.chain HK.out.2 HBR.out)
        have hck2 := (HBW.out.cell (p := ⟨b0, off + k, none⟩) HB0.out).trans HC.out
        rcases hor with rfl | rfl | rfl | rfl
        all_goals (go_wp2_with (first | (go_at_call 51; (first | (with_reducible refine (HT1.out _).mono ?_) | (with_reducible refine (HT2.out _).mono ?_)); rintro e w3 ⟨rfl, hbn⟩; (replace HBW := Lib.hid (Fl.chain HBW.out hbn)); (have hck := (HBW.out.cell (p := ⟨b0, off + k, none⟩) HB0.out).trans HC.out); clear hbn) | (go_at_call 12; (with_reducible refine (HO.out _).mono ?_); rintro e w3 ⟨rfl, hw⟩; rw [hw]; clear hw)))
        all_goals go_roundw
        all_goals first
          | (case measure => first | exact meas_step hlt | (rw [hw1]; exact meas_step hlt) | exact meas_step2 hlt)
          | (case rel => first | exact ⟨k + 1, b, by omega, by first | rfl | go_num, rfl, HBX.out.1, HE.out, HBW.out⟩ | exact ⟨k + 1, x, by omega, by first | rfl | go_num, rfl, HBX.out.2, HE.out, HBW.out⟩)
    · obtain rfl : k = n := by omega
      have d1 : decide ((k : Int) < (k : Int)) = false := decide_eq_false (by omega)
      clear hc0
      have hve := HVS.out.2 _ HK.out.1
      subst hve
      go_wp2
      go_ret
      exact ⟨_, rfl, feq.refl _, HK.out.2⟩

theorem sTopGr (A : Option Addr) (n c : Nat) (xs : List Nat) (w : World) (h : FRow w A n c xs) (hx64 : ∀ x ∈ xs, x < 2 ^ 64) :
    Calls Tryd.prog 34 #[.slice A n c] w (RetB (bestV xs 1) w) := by
  have HB := Lib.hid (sBestGr A n c xs w h hx64)
  clear h hx64
  go_enter Tryd.func34, Tryd.ntmps34
  go_wp2_with (go_at_call 63; (with_reducible refine HB.out.mono ?_); rintro e w1 ⟨r, rfl, hr, hbn⟩; have HR := Lib.hid (And.intro hr hbn); clear hr hbn)
  go_ret
  exact ⟨r, rfl, HR.out⟩
theorem iTopGr (A : Option Addr) (n c : Nat) (xs : List Nat) (w : World) (h : FRow w A n c xs) (hx64 : ∀ x ∈ xs, x < 2 ^ 64) (hl : Lk w) :
    Calls Tryd.prog 33 #[.slice A n c] w (RetB (bestV xs 1) w) := by
  have HB := Lib.hid (iEndGr A n c xs w h hx64 hl)
  clear h hx64 hl
  go_enter Tryd.func33, Tryd.ntmps33
  go_wp2_with (go_at_call 60; (with_reducible refine HB.out.mono ?_); rintro e w1 ⟨r, rfl, hr, hbn⟩; have HR := Lib.hid (And.intro hr hbn); clear hr hbn)
  go_ret
  exact ⟨r, rfl, HR.out⟩

theorem sTopLe (A : Option Addr) (n c : Nat) (xs : List Nat) (w : World) (h : FRow w A n c xs) (hx64 : ∀ x ∈ xs, x < 2 ^ 64) :
    Calls Tryd.prog 36 #[.slice A n c] w (RetB (bestV xs (-1)) w) := by
  have HB := Lib.hid (sBestLe A n c xs w h hx64)
  clear h hx64
  go_enter Tryd.func36, Tryd.ntmps36
  go_wp2_with (go_at_call 63; (with_reducible refine HB.out.mono ?_); rintro e w1 ⟨r, rfl, hr, hbn⟩; have HR := Lib.hid (And.intro hr hbn); clear hr hbn)
  go_ret
  exact ⟨r, rfl, HR.out⟩
theorem iTopLe (A : Option Addr) (n c : Nat) (xs : List Nat) (w : World) (h : FRow w A n c xs) (hx64 : ∀ x ∈ xs, x < 2 ^ 64) (hl : Lk w) :
    Calls Tryd.prog 32 #[.slice A n c] w (RetB (bestV xs (-1)) w) := by
  have HB := Lib.hid (iEndLe A n c xs w h hx64 hl)
  clear h hx64 hl
  go_enter Tryd.func32, Tryd.ntmps32
  go_wp2_with (go_at_call 60; (with_reducible refine HB.out.mono ?_); rintro e w1 ⟨r, rfl, hr, hbn⟩; have HR := Lib.hid (And.intro hr hbn); clear hr hbn)
  go_ret
  exact ⟨r, rfl, HR.out⟩
end Go.Proofs.YtmjnnjjmfedlbaaDoor
