/-
  The drawing functions: a new cursor over the code, a byte, a number below a bound, once in n.
-/
import Derived.Test.YtmjnnjjmfedlbaaDoorDw
namespace Go.Proofs.YtmjnnjjmfedlbaaDoor
set_option linter.unusedSimpArgs false
set_option linter.unusedVariables false
open Go.RowKit Go.Dr

/-- A cursor at block g; the code that it reads came in by w0. -/
def Cu (w0 W : World) (g : Nat) (B : List Int) : Prop :=
  ∃ A c i h, Blk W g 83 #[.slice A B.length c, .int .i64 i, .int .i64 h] ∧ w0.heap.size ≤ g ∧ IRow .u8 w0 A B.length c B ∧ 0 ≤ i ∧ i ≤ (B.length : Int) ∧ B.length ≤ 1048576

theorem Cu.ge {w0 W : World} {g : Nat} {B : List Int} (h : Cu w0 W g B) : w0.heap.size ≤ g := by obtain ⟨_, _, _, _, _, h, _⟩ := h; exact h
theorem Cu.lt {w0 W : World} {g : Nat} {B : List Int} (h : Cu w0 W g B) : g < W.heap.size := by obtain ⟨_, _, _, _, h, _⟩ := h; exact h.lt
theorem Cu.below {w0 W W1 : World} {g : Nat} {B : List Int} (h : Cu w0 W g B) (hb : Below W.heap.size W W1) : Cu w0 W1 g B := by
  obtain ⟨A, c, i, x, hk, r⟩ := h
  exact ⟨A, c, i, x, hk.below hb hk.lt, r⟩
theorem Cu.kp {w0 W W1 : World} {g b : Nat} {B : List Int} (h : Cu w0 W g B) (hb : Kp W W1 b) (hn : g ≠ b) : Cu w0 W1 g B := by
  obtain ⟨A, c, i, x, hk, r⟩ := h
  exact ⟨A, c, i, x, hb.blk hk hn, r⟩

theorem l1New_any (A : Option Addr) (n c : Nat) (xs : List Int) (w : World) (h : IRow .u8 w A n c xs) (hn : n ≤ 1048576) :
    Calls Tryd.prog 59 #[.slice A n c] w fun e w' => ∃ g, e = .returned (.pointer (some ⟨g, 0, none⟩)) ∧ Cu w w' g xs ∧ Below w.heap.size w w' := by
  obtain ⟨hx, hr⟩ := h
  subst hx
  have HR := Lib.hid (show IRow .u8 w A xs.length c xs from ⟨rfl, hr⟩)
  clear hr
  have HN := Lib.hid hn
  clear hn
  have hu := Tryd.underlying83
  go_enter Tryd.func59, Tryd.ntmps59
  go_wp2
  go_loopw [3, 4] (fun h i wr => ∃ (k : Nat) (x : Int), k ≤ xs.length ∧ h = .int .i64 x ∧ i = .int .i64 ((k : Nat) : Int) ∧ Hid (Below w.heap.size w wr)) (fun _ i _ => xs.length - (intOf i).toNat)
  case atStart => exact ⟨0, _, Nat.zero_le _, rfl, rfl, Below.refl _ _⟩
  case round =>
    rename_i wr
    obtain ⟨k, x, hk, rfl, rfl, HK⟩ := hrel
    have done : ∀ W : World, Below w.heap.size w W → Cu w (W.alloc (.cells #[.slice A xs.length c, .int .i64 0, .int .i64 x] 83)) W.heap.size xs := fun W hb =>
      ⟨A, c, 0, x, Blk.new _ _ _, hb.size, HR.out, by omega, by omega, HN.out⟩
    have HD := Lib.hid done
    clear done
    by_cases hlt : k < xs.length
    · by_cases h4 : (k : Int) < 4000
      · obtain ⟨b, off, rfl, hb, hc⟩ := HR.out.2.2.2 (by omega)
        have hcell : wr.cell? ⟨b, off + k, none⟩ = some (.int .u8 (xs.getD k 0)) := by rw [HK.out.cell (p := ⟨b, off + k, none⟩) hb]; exact hc k hlt
        clear hc
        have d4 : decide ((k : Int) < 4000) = true := decide_eq_true h4
        have hk1 : wrap64 ((k : Int) + 1) = ((k + 1 : Nat) : Int) := by have := HN.out; rw [wrap_id (by omega) (by omega)]; omega
        generalize xs.getD k 0 = y at hcell
        clear h4
        go_wp2
        go_roundw
        case rel => exact ⟨k + 1, _, by omega, rfl, by first | (rw [hk1]) | go_num, HK.out⟩
        case measure => rw [hk1]; simp only [intOf, Int.toNat_natCast]; omega
      · have d4 : decide ((k : Int) < 4000) = false := decide_eq_false h4
        clear h4
        go_wp2
        go_ret
        exact ⟨_, rfl, HD.out _ HK.out, HK.out.alloc HK.out.size _⟩
    · have hkn : k = xs.length := by omega
      subst hkn
      go_wp2
      go_ret
      exact ⟨_, rfl, HD.out _ HK.out, HK.out.alloc HK.out.size _⟩

theorem l1Byte_any (w0 w : World) (g : Nat) (xs : List Int) (hc : Cu w0 w g xs) (hb : Below w0.heap.size w0 w) :
    Calls Tryd.prog 85 #[.pointer (some ⟨g, 0, none⟩)] w fun e w' => ∃ v, e = .returned (.int .i64 v) ∧ 0 ≤ v ∧ v < 256 ∧ Cu w0 w' g xs ∧ Below w0.heap.size w0 w' ∧ Kp w w' g := by
  obtain ⟨A, c, i, x, hk, hg, hr, h0, h1, h2⟩ := hc
  have HB := Lib.hid hb
  have HG := Lib.hid hg
  have HR := Lib.hid hr
  have HK := Lib.hid hk
  have H0 := Lib.hid h0
  have H1 := Lib.hid h1
  have H2 := Lib.hid h2
  have hc0 : w.cell? ⟨g, 0, none⟩ = some (.slice A xs.length c) := hk.cell 0
  have hc1 : w.cell? ⟨g, 1, none⟩ = some (.int .i64 i) := hk.cell 1
  have hc2 : w.cell? ⟨g, 2, none⟩ = some (.int .i64 x) := hk.cell 2
  have hf1 := hk.frozen 1
  have hf2 := hk.frozen 2
  clear hb hg hr hk h0 h1 h2
  by_cases hlt : i < (xs.length : Int)
  · obtain ⟨b, off, rfl, hbb, hcc⟩ := HR.out.2.2.2 (by have := H0.out; omega)
    obtain ⟨k, rfl⟩ := Int.eq_ofNat_of_zero_le H0.out
    have hcell : w.cell? ⟨b, off + k, none⟩ = some (.int .u8 (xs.getD k 0)) := by rw [HB.out.cell (p := ⟨b, off + k, none⟩) hbb]; exact hcc k (by omega)
    clear hcc
    have hne : b ≠ g := by have := HG.out; omega
    generalize xs.getD k 0 = y at hcell
    have hlt' : decide ((k : Int) < (xs.length : Int)) = true := decide_eq_true hlt
    have hk1 : wrap64 ((k : Int) + 1) = ((k + 1 : Nat) : Int) := by have := H2.out; rw [wrap_id (by omega) (by omega)]; omega
    have hlt2 : k < xs.length := by omega
    go_enter Tryd.func85, Tryd.ntmps85
    go_wp2
    repeat (go_quiet (fail); try go_wp2)
    go_ret
    exact ⟨_, rfl, by rw [and255]; omega, by rw [and255]; omega,
      ⟨_, c, (k : Int) + 1, _, (((HK.out.set_ 2 _).drewN _).set_ 1 _), HG.out, HR.out, by omega, by omega, H2.out⟩,
      (below_drewN (HB.out.setCell HG.out _) _).setCell HG.out _,
      (((Kp.refl _ _).set_ 2 _).drewN _).set_ 1 _⟩
  · have hlt' : decide (i < (xs.length : Int)) = false := decide_eq_false hlt
    clear hlt
    go_enter Tryd.func85, Tryd.ntmps85
    go_wp2
    repeat (go_quiet (fail); try go_wp2)
    go_ret
    exact ⟨_, rfl, by rw [and255]; omega, by rw [and255]; omega,
      ⟨_, c, i, _, HK.out.set_ 2 _, HG.out, HR.out, H0.out, H1.out, H2.out⟩,
      below_drewN (below_drewN (HB.out.setCell (p := ⟨g, 2, none⟩) HG.out _) _) _,
      (Kp.refl _ _).set_ 2 _⟩

theorem mix {a b c d : Int} (ha : 0 ≤ a ∧ a < 256) (hb : 0 ≤ b ∧ b < 256) (hc : 0 ≤ c ∧ c < 256) (hd : 0 ≤ d ∧ d < 256) :
    0 ≤ wrap64 (wrap64 (wrap64 (wrap64 (a * 16777216) + wrap64 (b * 65536)) + wrap64 (c * 256)) + d) := by
  rw [wrap_id (n := a * 16777216) (by omega) (by omega), wrap_id (n := b * 65536) (by omega) (by omega), wrap_id (n := c * 256) (by omega) (by omega), wrap_id (n := a * 16777216 + b * 65536) (by omega) (by omega), wrap_id (n := a * 16777216 + b * 65536 + c * 256) (by omega) (by omega), wrap_id (n := a * 16777216 + b * 65536 + c * 256 + d) (by omega) (by omega)]
  omega

theorem l1Below_any (w0 w : World) (g : Nat) (xs : List Int) (n : Int) (hc : Cu w0 w g xs) (hb : Below w0.heap.size w0 w) :
    Calls Tryd.prog 70 #[.pointer (some ⟨g, 0, none⟩), .int .i64 n] w fun e w' => ∃ v, e = .returned (.int .i64 v) ∧ 0 ≤ v ∧ (0 < n → v < n) ∧ Cu w0 w' g xs ∧ Below w0.heap.size w0 w' ∧ Kp w w' g := by
  have HC := Lib.hid hc
  have HB := Lib.hid hb
  have HK := Lib.hid (Kp.refl w g)
  clear hc hb
  by_cases h0 : n ≤ 0
  · have d0 : decide (n ≤ 0) = true := decide_eq_true h0
    have HN := Lib.hid h0
    clear h0
    go_enter Tryd.func70, Tryd.ntmps70
    go_wp2
    go_ret
    exact ⟨0, rfl, by omega, fun h => by have := HN.out; omega, HC.out, HB.out, HK.out⟩
  have d0 : decide (n ≤ 0) = false := decide_eq_false h0
  have hz : (n == 0) = false := by simp; omega
  have hz2 : n ≠ 0 := by omega
  have HN := Lib.hid (show 0 < n by omega)
  clear h0
  by_cases h1 : n ≤ 256
  · have d1 : decide (n ≤ 256) = true := decide_eq_true h1
    clear h1
    go_enter Tryd.func70, Tryd.ntmps70
    go_wp2_with (go_at_call 85; (with_reducible refine (l1Byte_any _ _ _ _ HC.out HB.out).mono ?_); rintro e w1 ⟨v, rfl, v0, v1, hc, hb, hk⟩; replace HC := Lib.hid hc; replace HB := Lib.hid hb; replace HK := Lib.hid (HK.out.trans hk); have V0 := Lib.hid v0; clear hc hb hk v0 v1)
    go_ret
    exact ⟨_, rfl, Int.tmod_nonneg _ V0.out, fun _ => Int.tmod_lt_of_pos _ HN.out, HC.out, HB.out, HK.out⟩
  · have d1 : decide (n ≤ 256) = false := decide_eq_false h1
    clear h1
    go_enter Tryd.func70, Tryd.ntmps70
    go_wp2_with (go_at_call 85; (with_reducible refine (l1Byte_any _ _ _ _ HC.out HB.out).mono ?_); rintro e w1 ⟨v, rfl, v0, v1, hc, hb, hk⟩; replace HC := Lib.hid hc; replace HB := Lib.hid hb; replace HK := Lib.hid (HK.out.trans hk); have V := Lib.hid (show 0 ≤ v ∧ v < 256 from ⟨v0, v1⟩); clear hc hb hk v0 v1)
    go_ret
    rename_i _ _ V3 _ _ V2 _ _ V1
    exact ⟨_, rfl, Int.tmod_nonneg _ (mix V3.out V2.out V1.out V.out), fun _ => Int.tmod_lt_of_pos _ HN.out, HC.out, HB.out, HK.out⟩

theorem l1Once_any (w0 w : World) (g : Nat) (xs : List Int) (n : Int) (hc : Cu w0 w g xs) (hb : Below w0.heap.size w0 w) :
    Calls Tryd.prog 72 #[.pointer (some ⟨g, 0, none⟩), .int .i64 n] w fun e w' => ∃ b, e = .returned (.bool b) ∧ Cu w0 w' g xs ∧ Below w0.heap.size w0 w' ∧ Kp w w' g := by
  have HC := Lib.hid hc
  have HB := Lib.hid hb
  clear hc hb
  go_enter Tryd.func72, Tryd.ntmps72
  go_wp2_with (go_at_call 70; (with_reducible refine (l1Below_any _ _ _ _ _ HC.out HB.out).mono ?_); rintro e w1 ⟨v, rfl, v0, v1, hc, hb, hk⟩; replace HC := Lib.hid hc; replace HB := Lib.hid hb; have HK := Lib.hid hk; clear hc hb hk v0 v1)
  go_ret
  exact ⟨_, rfl, HC.out, HB.out, HK.out⟩
/-- A slice that lies in another block than g. -/
def Off (A : Option Addr) (g : Nat) : Prop := ∀ a, A = some a → a.block ≠ g

theorem l1PickInt_any (w0 w : World) (g : Nat) (xs : List Int) (A : Option Addr) (n c : Nat) (l : List Int) (hl : IRow .i64 w A n c l) (hA : Off A g) (hn : 0 < n) (hc : Cu w0 w g xs) (hb : Below w0.heap.size w0 w) :
    Calls Tryd.prog 89 #[.pointer (some ⟨g, 0, none⟩), .slice A n c] w fun e w' => ∃ v, e = .returned (.int .i64 v) ∧ v ∈ l ∧ Cu w0 w' g xs ∧ Below w0.heap.size w0 w' ∧ Kp w w' g := by
  have HC := Lib.hid hc
  have HB := Lib.hid hb
  have HL := Lib.hid hl
  have HA := Lib.hid hA
  clear hc hb hl hA
  obtain ⟨b, off, rfl, hbl, _⟩ := HL.out.2.2.2 hn
  go_enter Tryd.func89, Tryd.ntmps89
  go_wp2_with (go_at_call 70; (with_reducible refine (l1Below_any _ _ _ _ _ HC.out HB.out).mono ?_); (rintro e w1 ⟨v, rfl, v0, v1, hc, hb, hk⟩; replace HC := Lib.hid hc; replace HB := Lib.hid hb; have HK := Lib.hid hk; replace v1 := v1 (by omega); clear hc hb hk; obtain ⟨k, rfl⟩ := Int.eq_ofNat_of_zero_le v0; have hk : k < n := (by omega); have hc1 := (HK.out.row HL.out HA.out).at_ hk; have hq : k < l.length := HL.out.1.symm ▸ hk; have HM := Lib.hid (getD_mem hq); clear hq; generalize l.getD k 0 = y at hc1 HM; clear v0 v1))
  go_ret
  exact ⟨_, rfl, HM.out, HC.out, HB.out, HK.out⟩

theorem l1Size_any (A : Option Addr) (n c : Nat) (m : Int) (w : World) (hn : n ≤ 1048576) :
    Calls Tryd.prog 71 #[.slice A n c, .int .i64 m] w fun e w' => ∃ v, e = .returned (.int .i64 v) ∧ v ≤ m ∧ (2 ≤ m → 2 ≤ v) ∧ Below w.heap.size w w' := by
  have h1 : wrap64 ((n : Int) / 20) = (n : Int) / 20 := wrap_id (by omega) (by omega)
  have h2 : wrap64 (2 + (n : Int) / 20) = 2 + (n : Int) / 20 := wrap_id (by omega) (by omega)
  have HN := Lib.hid hn
  clear hn
  by_cases h : 2 + (n : Int) / 20 > m
  · have d : decide (m < 2 + (n : Int) / 20) = true := decide_eq_true h
    have HH := Lib.hid h
    clear h
    go_enter Tryd.func71, Tryd.ntmps71
    go_wp2
    go_ret
    exact ⟨_, rfl, Int.le_refl _, id, Below.refl _ _⟩
  · have d : decide (m < 2 + (n : Int) / 20) = false := decide_eq_false h
    have HH := Lib.hid h
    clear h
    go_enter Tryd.func71, Tryd.ntmps71
    go_wp2
    go_ret
    exact ⟨_, rfl, by have := HH.out; omega, by omega, Below.refl _ _⟩

theorem big_any (A : Option Addr) (n c : Nat) (w : World) :
    Calls Tryd.prog 21 #[.slice A n c] w fun e w' => e = .returned (.bool (decide ((n : Int) > 1048576))) ∧ Below w.heap.size w w' := by
  go_enter Tryd.func21, Tryd.ntmps21
  go_wp2
  go_ret
  exact ⟨rfl, Below.refl _ _⟩
end Go.Proofs.YtmjnnjjmfedlbaaDoor
