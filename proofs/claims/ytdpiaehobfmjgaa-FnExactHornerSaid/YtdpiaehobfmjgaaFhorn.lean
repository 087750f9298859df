/-
  Contracts of Horner, of the program and of the reference.
-/
import Derived.Test.YtdpiaehobfmjgaaChecked
import Derived.Test.YtdpiaehobfmjgaaFs
import Derived.Outline
import Derived.Handy
import Derived.Deep.RegionHeld3
import Derived.RegionTactic
namespace Go.Proofs.Ytdpiaehobfmjgaa
set_option linter.unusedSimpArgs false
set_option linter.unusedVariables false
open Go.RowKit Go.Fl

/-- Horner's value once the last j + 1 elements are taken in. -/
def foldH (xs : List Nat) (x : Nat) : Nat → Nat
  | 0 => xs.getD (xs.length - 1) 0
  | j + 1 => cop .add (cop .mul (foldH xs x j) x) (xs.getD (xs.length - 2 - j) 0)
def hornF (xs : List Nat) (x : Nat) : Nat := if xs.length ≤ 200 ∧ 0 < xs.length then foldH xs x (xs.length - 1) else 0

set_option maxHeartbeats 800000 in
theorem sHorner_any (A : Option Addr) (n c : Nat) (xs : List Nat) (v : Nat) (w : World) (h : FRow w A n c xs) (hn : n ≤ 1048576) (hv : v < 2 ^ 64) (hbd : ∀ x ∈ xs, x < 2 ^ 64) :
    Calls Try.prog 20 #[.slice A n c, fl v] w (RetF (hornF xs v) w.heap.size w) := by
  obtain ⟨hx, hr⟩ := h
  have HR := Lib.hid hr
  have HX := Lib.hid hx
  have HV := Lib.hid hv
  clear hr hx hv
  by_cases h2 : n ≤ 200
  · have hd : decide ((n : Int) ≤ 200) = true := decide_eq_true (by omega)
    by_cases h0 : n = 0
    · subst h0
      clear hbd
      have hz : hornF xs v = 0 := by unfold hornF; rw [if_neg (by rw [HX.out]; omega)]
      have HZ := Lib.hid hz
      clear hz
      go_enter Try.func20, Try.ntmps20
      go_wp2
      go_ret
      exact ⟨0, rfl, by rw [HZ.out]; exact feq.refl _, by decide, Below.refl _ _⟩
    · have hb0 : ((n : Int) == 0) = false := by simp; omega
      obtain ⟨b, off, rfl, hb, hc⟩ := HR.out.2.2 (by omega)
      have h1 : (1 : Int) ≤ (n : Int) := by omega
      have hcell : w.cell? ⟨b, off + (n - 1), none⟩ = some (fl (xs.getD (n - 1) 0)) := hc (n - 1) (by omega)
      have HC := Lib.hid hc
      clear hc h0 hb
      have HB := Lib.hid (hbd (xs.getD (n - 1) 0) (by rw [List.getD_eq_getElem?_getD, List.getElem?_eq_getElem (by rw [HX.out]; omega)]; exact List.getElem_mem _))
      generalize hlast : xs.getD (n - 1) 0 = last at hcell HB
      have HL := Lib.hid hlast
      clear hlast hbd
      go_enter Try.func20, Try.ntmps20
      go_wp2
      clear hcell
      go_loopw [5, 6, 7] (fun s i y wr => ∃ q r m : Nat, q ≤ n - 1 ∧ i = .int .i64 ((q : Int) - 1) ∧ s = fl r ∧ Hid (feq r (foldH xs v (n - 1 - q)) ∧ r < 2 ^ 64) ∧ wr = w.drewN m) (fun _ i _ _ => (intOf i + 1).toNat)
      case atStart => exact ⟨n - 1, last, 0, Nat.le_refl _, by go_num, rfl, ⟨by rw [Nat.sub_self, show foldH xs v 0 = xs.getD (xs.length - 1) 0 from rfl, HX.out, HL.out]; exact feq.refl _, HB.out⟩, rfl⟩
      case round =>
        obtain ⟨q, r, m, hq, rfl, rfl, HK, rfl⟩ := hrel
        by_cases hlt : 1 ≤ q
        · have hcell := HC.out (q - 1) (by omega)
          have hq1 : (1 : Int) ≤ (q : Int) := by omega
          have hqn : (q : Int) ≤ (n : Int) := by omega
          go_wp2
          go_roundw
          case rel =>
            refine ⟨q - 1, _, _, by omega, by go_num, rfl, ⟨?_, fres_lt _ _ _ _⟩, rfl⟩
            rw [show n - 1 - (q - 1) = (n - 1 - q) + 1 from by omega, foldH, HX.out, show n - 2 - (n - 1 - q) = q - 1 from by omega]
            exact fres_cop _ _ (fres_cop _ _ HK.out.1 (feq.refl _)) (feq.refl _)
          case measure => simp [intOf]; omega
        · have hq0 : q = 0 := by omega
          subst hq0
          go_wp2
          go_ret
          exact ⟨r, rfl, by rw [show hornF xs v = foldH xs v (n - 1) from by unfold hornF; rw [if_pos (by rw [HX.out]; omega), HX.out]]; exact HK.out.1, HK.out.2, below_drewN (Below.refl _ _) _⟩
  · have hd : decide ((n : Int) ≤ 200) = false := decide_eq_false (by omega)
    clear hbd
    have hz : hornF xs v = 0 := by unfold hornF; rw [if_neg (by rw [HX.out]; omega)]
    have HZ := Lib.hid hz
    clear hz
    go_enter Try.func20, Try.ntmps20
    go_wp2
    go_ret
    exact ⟨0, rfl, by rw [HZ.out]; exact feq.refl _, by decide, Below.refl _ _⟩

set_option maxHeartbeats 800000 in
theorem iHorner_any (A : Option Addr) (n c : Nat) (xs : List Nat) (v : Nat) (w : World) (h : FRow w A n c xs) (hn : n ≤ 1048576) (hv : v < 2 ^ 64) (hbd : ∀ x ∈ xs, x < 2 ^ 64) :
    Calls Try.prog 21 #[.slice A n c, fl v] w (RetF (hornF xs v) w.heap.size w) := by
  obtain ⟨hx, hr⟩ := h
  have HR := Lib.hid hr
  have HX := Lib.hid hx
  have HV := Lib.hid hv
  clear hr hx hv
  by_cases h2 : n ≤ 200
  · have hd : decide ((n : Int) ≤ 200) = true := decide_eq_true (by omega)
    by_cases h0 : n = 0
    · subst h0
      clear hbd
      have hz : hornF xs v = 0 := by unfold hornF; rw [if_neg (by rw [HX.out]; omega)]
      have HZ := Lib.hid hz
      clear hz
      go_enter Try.func21, Try.ntmps21
      go_wp2
      go_ret
      exact ⟨0, rfl, by rw [HZ.out]; exact feq.refl _, by decide, Below.refl _ _⟩
    · have hb0 : ((n : Int) == 0) = false := by simp; omega
      obtain ⟨b, off, rfl, hb, hc⟩ := HR.out.2.2 (by omega)
      have h1 : (1 : Int) ≤ (n : Int) := by omega
      have hcell : w.cell? ⟨b, off + (n - 1), none⟩ = some (fl (xs.getD (n - 1) 0)) := hc (n - 1) (by omega)
      have HC := Lib.hid hc
      clear hc h0 hb
      have HB := Lib.hid (hbd (xs.getD (n - 1) 0) (by rw [List.getD_eq_getElem?_getD, List.getElem?_eq_getElem (by rw [HX.out]; omega)]; exact List.getElem_mem _))
      generalize hlast : xs.getD (n - 1) 0 = last at hcell HB
      have HL := Lib.hid hlast
      clear hlast hbd
      go_enter Try.func21, Try.ntmps21
      go_wp2
      clear hcell
      go_loopw [5, 6] (fun s i wr => ∃ q r m : Nat, q ≤ n - 1 ∧ i = .int .i64 ((q : Int) - 1) ∧ s = fl r ∧ Hid (feq r (foldH xs v (n - 1 - q)) ∧ r < 2 ^ 64) ∧ wr = w.drewN m) (fun _ i _ => (intOf i + 1).toNat)
      case atStart => exact ⟨n - 1, last, 0, Nat.le_refl _, by go_num, rfl, ⟨by rw [Nat.sub_self, show foldH xs v 0 = xs.getD (xs.length - 1) 0 from rfl, HX.out, HL.out]; exact feq.refl _, HB.out⟩, rfl⟩
      case round =>
        obtain ⟨q, r, m, hq, rfl, rfl, HK, rfl⟩ := hrel
        by_cases hlt : 1 ≤ q
        · have hcell := HC.out (q - 1) (by omega)
          have hq1 : (1 : Int) ≤ (q : Int) := by omega
          have hqn : (q : Int) ≤ (n : Int) := by omega
          go_wp2
          go_roundw
          case rel =>
            refine ⟨q - 1, _, _, by omega, by go_num, rfl, ⟨?_, fres_lt _ _ _ _⟩, rfl⟩
            rw [show n - 1 - (q - 1) = (n - 1 - q) + 1 from by omega, foldH, HX.out, show n - 2 - (n - 1 - q) = q - 1 from by omega]
            exact fres_cop _ _ (fres_cop _ _ HK.out.1 (feq.refl _)) (feq.refl _)
          case measure => simp [intOf]; omega
        · have hq0 : q = 0 := by omega
          subst hq0
          go_wp2
          go_ret
          exact ⟨r, rfl, by rw [show hornF xs v = foldH xs v (n - 1) from by unfold hornF; rw [if_pos (by rw [HX.out]; omega), HX.out]]; exact HK.out.1, HK.out.2, below_drewN (Below.refl _ _) _⟩
  · have hd : decide ((n : Int) ≤ 200) = false := decide_eq_false (by omega)
    clear hbd
    have hz : hornF xs v = 0 := by unfold hornF; rw [if_neg (by rw [HX.out]; omega)]
    have HZ := Lib.hid hz
    clear hz
    go_enter Try.func21, Try.ntmps21
    go_wp2
    go_ret
    exact ⟨0, rfl, by rw [HZ.out]; exact feq.refl _, by decide, Below.refl _ _⟩

end Go.Proofs.Ytdpiaehobfmjgaa
