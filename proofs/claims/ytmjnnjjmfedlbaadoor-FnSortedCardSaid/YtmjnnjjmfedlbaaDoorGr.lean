/-
  Greatest and Least, of the program and of the reference.
-/
import Derived.Test.YtmjnnjjmfedlbaaDoorOk
import Derived.Test.YtmjnnjjmfedlbaaDoorTd
import Derived.Test.YtmjnnjjmfedlbaaDoorMb
import Derived.Test.YtmjnnjjmfedlbaaDoorSame
import Derived.Test.YtmjnnjjmfedlbaaDoorFt
namespace Go.Proofs.YtmjnnjjmfedlbaaDoor
set_option linter.unusedSimpArgs false
set_option linter.unusedVariables false
open Go.RowKit
open Go.Fl (fl isNan feq ford FRow)

/-- Whether x goes ahead of b: by the sign s. -/
def ahead (s : Int) (x b : Nat) : Bool := decide (0 < ordV 3 x b * s)
/-- The best of the first k; none: a NaN was met. -/
def bestG (xs : List Nat) (s : Int) : Nat → Option Nat
  | 0 => some (xs.getD 0 0)
  | k + 1 => match bestG xs s k with
    | none => none
    | some b => if isNan (xs.getD k 0) = true then none else if ahead s (cn (xs.getD k 0)) (cn b) = true then some (xs.getD k 0) else some b
def bestV (xs : List Nat) (s : Int) : Nat := if xs.length = 0 ∨ 200 < xs.length then 0 else match bestG xs s xs.length with
  | none => 9221120237041090560
  | some b => b
theorem bestG_none {xs : List Nat} {s : Int} {k : Nat} (h : bestG xs s k = none) : ∀ m, k ≤ m → bestG xs s m = none
  | 0, hm => by obtain rfl : k = 0 := by omega
                exact h
  | m + 1, hm => by
    by_cases e : k = m + 1
    · rw [← e]; exact h
    · show (match bestG xs s m with | none => none | some b => _) = none
      rw [bestG_none h m (by omega)]
theorem bestG_nan {xs : List Nat} {s : Int} {k b : Nat} (h : bestG xs s k = some b) (hn : isNan (xs.getD k 0) = true) : bestG xs s (k + 1) = none := by
  show (match bestG xs s k with | none => none | some b => _) = none
  rw [h]
  simp only [hn, if_true]
theorem bestG_step {xs : List Nat} {s : Int} {k b : Nat} (h : bestG xs s k = some b) (hn : isNan (xs.getD k 0) = false) : bestG xs s (k + 1) = some (if ahead s (cn (xs.getD k 0)) (cn b) = true then xs.getD k 0 else b) := by
  show (match bestG xs s k with | none => none | some b => _) = _
  rw [h]
  simp only [hn, Bool.false_eq_true, if_false]
  split <;> rfl
theorem cn_lt64 {b : Nat} (h : b < 2 ^ 64) : cn b < 18446744073709551616 := by
  unfold cn
  split
  · omega
  · exact h
theorem lt_at {xs : List Nat} (h : ∀ x ∈ xs, x < 2 ^ 64) (k : Nat) : xs.getD k 0 < 2 ^ 64 := by
  rw [List.getD_eq_getElem?_getD]
  by_cases hk : k < xs.length
  · rw [List.getElem?_eq_getElem hk]; exact h _ (List.getElem_mem hk)
  · rw [List.getElem?_eq_none (by omega)]; decide
theorem nan_plain {r : Nat} (h : isNan r = true) : feq r 9221120237041090560 := .inr ⟨h, Fl.isNan_qnan⟩

theorem meas_step {n k : Nat} (h : k < n) : n - (intOf (.int .i64 ((k + 1 : Nat) : Int))).toNat < n - (intOf (.int .i64 (k : Int))).toNat := by
  simp only [intOf, Int.toNat_natCast]; omega
theorem meas_step2 {n k : Nat} (h : k < n) : n - (intOf (.int .i64 ((k : Int) + 1))).toNat < n - (intOf (.int .i64 (k : Int))).toNat := by
  simp only [intOf, Int.toNat_natCast]; omega
theorem cn_plain : cn 9221120237041090560 = 9221120237041090560 := cn_nan (b := 9221120237041090560) Fl.isNan_qnan
theorem iFloats (A : Option Addr) (n c : Nat) (w : World) : Calls Tryd.prog 52 #[.slice A n c] w fun e w' => e = .returned (.bool (decide ((n : Int) ≤ 200))) ∧ w' = w := by
  go_enter Tryd.func52, Tryd.ntmps52
  go_wp2
  all_goals go_ret
  all_goals first | exact ⟨rfl, rfl⟩ | (exact ⟨by simp_all, rfl⟩)
theorem sList (A : Option Addr) (n c : Nat) (w : World) : Calls Tryd.prog 50 #[.slice A n c] w fun e w' => e = .returned (.bool (decide ((n : Int) ≤ 200))) ∧ w' = w := by
  go_enter Tryd.func50, Tryd.ntmps50
  go_wp2
  all_goals go_ret
  all_goals first | exact ⟨rfl, rfl⟩ | (exact ⟨by simp_all, rfl⟩)

theorem iAheadGr {a b : Nat} (ha : a < 18446744073709551616) (hb : b < 18446744073709551616) (w : World) (hl : Lk w) : Calls Tryd.prog 62 #[.int .u64 (a : Int), .int .u64 (b : Int)] w fun e w' => e = .returned (.bool (ahead 1 a b)) ∧ Below w.heap.size w w' := by
  have e : ahead 1 a b = decide (0 < ordV 3 a b) := by
    unfold ahead
    generalize ordV 3 a b = o
    by_cases h : 0 < o
    · rw [decide_eq_true h]; exact decide_eq_true (by omega)
    · rw [decide_eq_false h]; exact decide_eq_false (by omega)
  rw [e]
  have HO := Lib.hid (iOrder (f := 3) (by decide) ha hb w hl)
  clear ha hb hl e
  generalize ordV 3 a b = o at HO ⊢
  go_enter Tryd.func62, Tryd.ntmps62
  go_wp2_with (go_at_call 13; (with_reducible refine HO.out.mono ?_); rintro e w1 ⟨rfl, hbn⟩; have HB := Lib.hid hbn; clear hbn)
  all_goals go_ret
  all_goals first | exact ⟨rfl, HB.out⟩ | exact ⟨by simp_all, HB.out⟩

theorem iAheadLe {a b : Nat} (ha : a < 18446744073709551616) (hb : b < 18446744073709551616) (w : World) (hl : Lk w) : Calls Tryd.prog 61 #[.int .u64 (a : Int), .int .u64 (b : Int)] w fun e w' => e = .returned (.bool (ahead (-1) a b)) ∧ Below w.heap.size w w' := by
  have e : ahead (-1) a b = decide (ordV 3 a b < 0) := by
    unfold ahead
    generalize ordV 3 a b = o
    by_cases h : o < 0
    · rw [decide_eq_true h]; exact decide_eq_true (by omega)
    · rw [decide_eq_false h]; exact decide_eq_false (by omega)
  rw [e]
  have HO := Lib.hid (iOrder (f := 3) (by decide) ha hb w hl)
  clear ha hb hl e
  generalize ordV 3 a b = o at HO ⊢
  go_enter Tryd.func61, Tryd.ntmps61
  go_wp2_with (go_at_call 13; (with_reducible refine HO.out.mono ?_); rintro e w1 ⟨rfl, hbn⟩; have HB := Lib.hid hbn; clear hbn)
  all_goals go_ret
  all_goals first | exact ⟨rfl, HB.out⟩ | exact ⟨by simp_all, HB.out⟩

/-- What a best comes to. -/
def RetB (v : Nat) (w : World) (e : Ending) (w' : World) : Prop := ∃ r, e = .returned (fl r) ∧ feq r v ∧ Below w.heap.size w w'

set_option maxRecDepth 8000 in
set_option maxHeartbeats 3200000 in
theorem iEndGr (A : Option Addr) (n c : Nat) (xs : List Nat) (w : World) (h : FRow w A n c xs) (hx64 : ∀ x ∈ xs, x < 2 ^ 64) (hl : Lk w) :
    Calls Tryd.prog 60 #[.slice A n c, .func (.func 62) #[] #[]] w (RetB (bestV xs 1) w) := by
  have HX := Lib.hid h.1
  have HR := Lib.hid h.2
  have HV := Lib.hid (show ∀ k, xs.getD k 0 < 2 ^ 64 from lt_at hx64)
  have HLK := Lib.hid hl
  clear hx64 hl
  by_cases hn : 200 < n
  · have hv : bestV xs 1 = 0 := by unfold bestV; rw [if_pos (.inr (by rw [HX.out]; exact hn))]
    rw [hv]
    have HF := Lib.hid (iFloats A n c)
    rw [decide_eq_false (show ¬ ((n : Int) ≤ 200) by omega)] at HF
    clear h hn hv
    go_enter Tryd.func60, Tryd.ntmps60
    go_wp2_with (go_at_call 52; (with_reducible refine (HF.out _).mono ?_); rintro e w1 ⟨rfl, hw⟩; rw [hw]; clear hw)
    go_ret
    exact ⟨0, rfl, feq.refl _, Below.refl _ _⟩
  by_cases h0 : n = 0
  · subst h0
    have hv : bestV xs 1 = 0 := by unfold bestV; rw [if_pos (.inl HX.out)]
    rw [hv]
    have HF := Lib.hid (iFloats A 0 c)
    rw [decide_eq_true (show (((0 : Nat) : Int) ≤ 200) by omega)] at HF
    clear h hn hv
    go_enter Tryd.func60, Tryd.ntmps60
    go_wp2_with (go_at_call 52; (with_reducible refine (HF.out _).mono ?_); rintro e w1 ⟨rfl, hw⟩; rw [hw]; clear hw)
    go_ret
    exact ⟨0, rfl, feq.refl _, Below.refl _ _⟩
  have HF := Lib.hid (iFloats A n c)
  rw [decide_eq_true (show ((n : Int) ≤ 200) by omega)] at HF
  obtain ⟨b0, off, rfl, hb0, hc0⟩ := HR.out.2.2 (by omega)
  have hcell : w.cell? ⟨b0, off, none⟩ = some (fl (xs.getD 0 0)) := hc0 0 (by omega)
  have t0 : ((n : Int) == 0) = false := beq_eq_false_iff_ne.2 (by omega)
  have hn1 : (0 : Int) < (n : Int) := by omega
  have hn2 : 0 < n := by omega
  have HN := Lib.hid (show n ≤ 200 by omega)
  have hv : (bestG xs 1 n = none → bestV xs 1 = 9221120237041090560) ∧ ∀ b, bestG xs 1 n = some b → bestV xs 1 = b := by
    unfold bestV
    rw [HX.out, if_neg (by omega)]
    exact ⟨fun e => by rw [e], fun b e => by rw [e]⟩
  generalize bestV xs 1 = v at hv ⊢
  have HVS := Lib.hid hv
  clear h hn hv
  go_enter Tryd.func60, Tryd.ntmps60
  go_wp2_with (go_at_call 52; (with_reducible refine (HF.out _).mono ?_); rintro e w1 ⟨rfl, hw⟩; rw [hw]; clear hw)
  go_loopw [5, 21] (fun o i wr => ∃ (k b : Nat), k ≤ n ∧ i = .int .i64 (k : Int) ∧ o = fl b ∧ b < 2 ^ 64 ∧ Hid (bestG xs 1 k = some b ∧ Below w.heap.size w wr)) (fun _ i _ => n - (intOf i).toNat)
  case atStart => exact ⟨0, _, Nat.zero_le _, rfl, rfl, HV.out 0, rfl, Below.refl _ _⟩
  case round =>
    obtain ⟨k, b, hk, rfl, rfl, hb64, HK⟩ := hrel
    clear hcell
    by_cases hlt : k < n
    · have hck := (HK.out.2.cell (p := ⟨b0, off + k, none⟩) hb0).trans (hc0 k hlt)
      have hx64 := HV.out k
      have d1 : decide ((k : Int) < (n : Int)) = true := decide_eq_true (by omega)
      have hw1 : wrap64 ((k : Int) + 1) = ((k + 1 : Nat) : Int) := by have := HN.out; rw [IntWalk.wrap64_in _ ⟨by omega, by omega⟩]; omega
      cases hnan : isNan (xs.getD k 0) with
      | true =>
        have HE := Lib.hid (bestG_none (bestG_nan HK.out.1 hnan) n (by omega))
        have hve := HVS.out.1 HE.out
        subst hve
        have ho : FloatKind.f64.format.order (xs.getD k 0) (xs.getD k 0) = none := Fl.ford_nan_left hnan _
        generalize xs.getD k 0 = x at *
        have HFB := Lib.hid (show ∀ W, Calls Tryd.prog 54 #[.int .u64 9221120237041090560] W fun e w' => e = .returned (fl 9221120237041090560) ∧ w' = W from fun W => by
          have h := iFromBits_any 9221120237041090560 W (by decide)
          rwa [cn_plain] at h)
        clear hc0
        go_wp2_with (go_at_call 54; (with_reducible refine (HFB.out _).mono ?_); rintro e w1 ⟨rfl, hw⟩; rw [hw]; clear hw)
        go_ret
        exact ⟨_, rfl, feq.refl _, HK.out.2⟩
      | false =>
        have HE := Lib.hid (bestG_step HK.out.1 hnan)
        have ho : FloatKind.f64.format.order (xs.getD k 0) (xs.getD k 0) = some .eq := Fl.ford_self hnan
        generalize xs.getD k 0 = x at *
        have HA := Lib.hid (iAheadGr (cn_lt64 hx64) (cn_lt64 hb64) _ (HLK.out.below HK.out.2))
        have HBX := Lib.hid (And.intro hb64 hx64)
        generalize ahead 1 (cn x) (cn b) = q at HA HE
        clear hc0
        cases q
        · go_wp2_with (first
            | (go_at_call 30; (with_reducible refine (iToBits_any _ _).mono ?_); rintro e w1 ⟨rfl, hw⟩; rw [hw]; clear hw)
            | (go_at_call 62; (with_reducible refine HA.out.mono ?_); rintro e w2 ⟨rfl, hbn⟩; have HB2 := Lib.hid hbn; clear hbn))
          go_roundw
          case rel => exact ⟨k + 1, b, by omega, by first | rfl | go_num, rfl, HBX.out.1, HE.out, Fl.chain HK.out.2 HB2.out⟩
          case measure => first | exact meas_step hlt | (rw [hw1]; exact meas_step hlt) | exact meas_step2 hlt
        · go_wp2_with (first
            | (go_at_call 30; (with_reducible refine (iToBits_any _ _).mono ?_); rintro e w1 ⟨rfl, hw⟩; rw [hw]; clear hw)
            | (go_at_call 62; (with_reducible refine HA.out.mono ?_); rintro e w2 ⟨rfl, hbn⟩; have HB2 := Lib.hid hbn; clear hbn))
          go_roundw
          case rel => exact ⟨k + 1, x, by omega, by first | rfl | go_num, rfl, HBX.out.2, HE.out, Fl.chain HK.out.2 HB2.out⟩
          case measure => first | exact meas_step hlt | (rw [hw1]; exact meas_step hlt) | exact meas_step2 hlt
    · obtain rfl : k = n := by omega
      have d1 : decide ((k : Int) < (k : Int)) = false := decide_eq_false (by omega)
      clear hc0
      have hve := HVS.out.2 _ HK.out.1
      subst hve
      go_wp2
      go_ret
      exact ⟨_, rfl, feq.refl _, HK.out.2⟩

set_option maxRecDepth 8000 in
set_option maxHeartbeats 3200000 in
theorem iEndLe (A : Option Addr) (n c : Nat) (xs : List Nat) (w : World) (h : FRow w A n c xs) (hx64 : ∀ x ∈ xs, x < 2 ^ 64) (hl : Lk w) :
    Calls Tryd.prog 60 #[.slice A n c, .func (.func 61) #[] #[]] w (RetB (bestV xs (-1)) w) := by
  have HX := Lib.hid h.1
  have HR := Lib.hid h.2
  have HV := Lib.hid (show ∀ k, xs.getD k 0 < 2 ^ 64 from lt_at hx64)
  have HLK := Lib.hid hl
  clear hx64 hl
  by_cases hn : 200 < n
  · have hv : bestV xs (-1) = 0 := by unfold bestV; rw [if_pos (.inr (by rw [HX.out]; exact hn))]
    rw [hv]
    have HF := Lib.hid (iFloats A n c)
    rw [decide_eq_false (show ¬ ((n : Int) ≤ 200) by omega)] at HF
    clear h hn hv
    go_enter Tryd.func60, Tryd.ntmps60
    go_wp2_with (go_at_call 52; (with_reducible refine (HF.out _).mono ?_); rintro e w1 ⟨rfl, hw⟩; rw [hw]; clear hw)
    go_ret
    exact ⟨0, rfl, feq.refl _, Below.refl _ _⟩
  by_cases h0 : n = 0
  · subst h0
    have hv : bestV xs (-1) = 0 := by unfold bestV; rw [if_pos (.inl HX.out)]
    rw [hv]
    have HF := Lib.hid (iFloats A 0 c)
    rw [decide_eq_true (show (((0 : Nat) : Int) ≤ 200) by omega)] at HF
    clear h hn hv
    go_enter Tryd.func60, Tryd.ntmps60
    go_wp2_with (go_at_call 52; (with_reducible refine (HF.out _).mono ?_); rintro e w1 ⟨rfl, hw⟩; rw [hw]; clear hw)
    go_ret
    exact ⟨0, rfl, feq.refl _, Below.refl _ _⟩
  have HF := Lib.hid (iFloats A n c)
  rw [decide_eq_true (show ((n : Int) ≤ 200) by omega)] at HF
  obtain ⟨b0, off, rfl, hb0, hc0⟩ := HR.out.2.2 (by omega)
  have hcell : w.cell? ⟨b0, off, none⟩ = some (fl (xs.getD 0 0)) := hc0 0 (by omega)
  have t0 : ((n : Int) == 0) = false := beq_eq_false_iff_ne.2 (by omega)
  have hn1 : (0 : Int) < (n : Int) := by omega
  have hn2 : 0 < n := by omega
  have HN := Lib.hid (show n ≤ 200 by omega)
  have hv : (bestG xs (-1) n = none → bestV xs (-1) = 9221120237041090560) ∧ ∀ b, bestG xs (-1) n = some b → bestV xs (-1) = b := by
    unfold bestV
    rw [HX.out, if_neg (by omega)]
    exact ⟨fun e => by rw [e], fun b e => by rw [e]⟩
  generalize bestV xs (-1) = v at hv ⊢
  have HVS := Lib.hid hv
  clear h hn hv
  go_enter Tryd.func60, Tryd.ntmps60
  go_wp2_with (go_at_call 52; (with_reducible refine (HF.out _).mono ?_); rintro e w1 ⟨rfl, hw⟩; rw [hw]; clear hw)
  go_loopw [5, 21] (fun o i wr => ∃ (k b : Nat), k ≤ n ∧ i = .int .i64 (k : Int) ∧ o = fl b ∧ b < 2 ^ 64 ∧ Hid (bestG xs (-1) k = some b ∧ Below w.heap.size w wr)) (fun _ i _ => n - (intOf i).toNat)
  case atStart => exact ⟨0, _, Nat.zero_le _, rfl, rfl, HV.out 0, rfl, Below.refl _ _⟩
  case round =>
    obtain ⟨k, b, hk, rfl, rfl, hb64, HK⟩ := hrel
    clear hcell
    by_cases hlt : k < n
    · have hck := (HK.out.2.cell (p := ⟨b0, off + k, none⟩) hb0).trans (hc0 k hlt)
      have hx64 := HV.out k
      have d1 : decide ((k : Int) < (n : Int)) = true := decide_eq_true (by omega)
      have hw1 : wrap64 ((k : Int) + 1) = ((k + 1 : Nat) : Int) := by have := HN.out; rw [IntWalk.wrap64_in _ ⟨by omega, by omega⟩]; omega
      cases hnan : isNan (xs.getD k 0) with
      | true =>
        have HE := Lib.hid (bestG_none (bestG_nan HK.out.1 hnan) n (by omega))
        have hve := HVS.out.1 HE.out
        subst hve
        have ho : FloatKind.f64.format.order (xs.getD k 0) (xs.getD k 0) = none := Fl.ford_nan_left hnan _
        generalize xs.getD k 0 = x at *
        have HFB := Lib.hid (show ∀ W, Calls Tryd.prog 54 #[.int .u64 9221120237041090560] W fun e w' => e = .returned (fl 9221120237041090560) ∧ w' = W from fun W => by
          have h := iFromBits_any 9221120237041090560 W (by decide)
          rwa [cn_plain] at h)
        clear hc0
        go_wp2_with (go_at_call 54; (with_reducible refine (HFB.out _).mono ?_); rintro e w1 ⟨rfl, hw⟩; rw [hw]; clear hw)
        go_ret
        exact ⟨_, rfl, feq.refl _, HK.out.2⟩
      | false =>
        have HE := Lib.hid (bestG_step HK.out.1 hnan)
        have ho : FloatKind.f64.format.order (xs.getD k 0) (xs.getD k 0) = some .eq := Fl.ford_self hnan
        generalize xs.getD k 0 = x at *
        have HA := Lib.hid (iAheadLe (cn_lt64 hx64) (cn_lt64 hb64) _ (HLK.out.below HK.out.2))
        have HBX := Lib.hid (And.intro hb64 hx64)
        generalize ahead (-1) (cn x) (cn b) = q at HA HE
        clear hc0
        cases q
        · go_wp2_with (first
            | (go_at_call 30; (with_reducible refine (iToBits_any _ _).mono ?_); rintro e w1 ⟨rfl, hw⟩; rw [hw]; clear hw)
            | (go_at_call 61; (with_reducible refine HA.out.mono ?_); rintro e w2 ⟨rfl, hbn⟩; have HB2 := Lib.hid hbn; clear hbn))
          go_roundw
          case rel => exact ⟨k + 1, b, by omega, by first | rfl | go_num, rfl, HBX.out.1, HE.out, Fl.chain HK.out.2 HB2.out⟩
          case measure => first | exact meas_step hlt | (rw [hw1]; exact meas_step hlt) | exact meas_step2 hlt
        · go_wp2_with (first
            | (go_at_call 30; (with_reducible refine (iToBits_any _ _).mono ?_); rintro e w1 ⟨rfl, hw⟩; rw [hw]; clear hw)
            | (go_at_call 61; (with_reducible refine HA.out.mono ?_); rintro e w2 ⟨rfl, hbn⟩; have HB2 := Lib.hid hbn; clear hbn))
          go_roundw
          case rel => exact ⟨k + 1, x, by omega, by first | rfl | go_num, rfl, HBX.out.2, HE.out, Fl.chain HK.out.2 HB2.out⟩
          case measure => first | exact meas_step hlt | (rw [hw1]; exact meas_step hlt) | exact meas_step2 hlt
    · obtain rfl : k = n := by omega
      have d1 : decide ((k : Int) < (k : Int)) = false := decide_eq_false (by omega)
      clear hc0
      have hve := HVS.out.2 _ HK.out.1
      subst hve
      go_wp2
      go_ret
      exact ⟨_, rfl, feq.refl _, HK.out.2⟩
end Go.Proofs.YtmjnnjjmfedlbaaDoor
