/-
  Contracts of Dot, of the program and of the reference.
-/
import Derived.Test.YtdpiaehobfmjgaaChecked
import Derived.Test.YtdpiaehobfmjgaaFs
import Derived.Outline
import Derived.Handy
import Derived.Deep.RegionHeld3
import Derived.RegionTactic
namespace Go.Proofs.Ytdpiaehobfmjgaa
set_option linter.unusedSimpArgs false
set_option linter.unusedVariables false
open Go.RowKit Go.Fl

def foldD (xs ys : List Nat) : Nat → Nat
  | 0 => 0
  | k + 1 => cop .add (foldD xs ys k) (cop .mul (xs.getD k 0) (ys.getD k 0))
def dotF (xs ys : List Nat) : Nat := if xs.length ≤ 200 ∧ ys.length ≤ 200 ∧ xs.length = ys.length then foldD xs ys xs.length else 0

set_option maxHeartbeats 800000 in
theorem sDot_any (A A' : Option Addr) (n c n' c' : Nat) (xs ys : List Nat) (w : World) (h : FRow w A n c xs) (h' : FRow w A' n' c' ys) (hn : n ≤ 1048576) (hn' : n' ≤ 1048576) :
    Calls Try.prog 18 #[.slice A n c, .slice A' n' c'] w (RetF (dotF xs ys) w.heap.size w) := by
  obtain ⟨hx, hr⟩ := h
  obtain ⟨hx', hr'⟩ := h'
  have HR := Lib.hid hr
  have HX := Lib.hid hx
  have HR' := Lib.hid hr'
  have HX' := Lib.hid hx'
  clear hr hx hr' hx'
  by_cases h2 : n ≤ 200
  · have hd : decide ((n : Int) ≤ 200) = true := decide_eq_true (by omega)
    by_cases h2' : n' ≤ 200
    · have hd' : decide ((n' : Int) ≤ 200) = true := decide_eq_true (by omega)
      by_cases he : n = n'
      · subst he
        go_enter Try.func18, Try.ntmps18
        go_wp2
        go_loopw [5, 6, 7] (fun s i y wr => ∃ k r : Nat, k ≤ n ∧ i = .int .i64 k ∧ s = fl r ∧ Hid (feq r (foldD xs ys k) ∧ r < 2 ^ 64 ∧ Below w.heap.size w wr)) (fun _ i _ _ => n - (intOf i).toNat)
        case atStart => exact ⟨0, 0, Nat.zero_le _, rfl, rfl, ⟨feq.refl _, by decide, Below.refl _ _⟩⟩
        case round =>
          rename_i wr
          obtain ⟨k, r, hk, rfl, rfl, HK⟩ := hrel
          by_cases hlt : k < n
          · obtain ⟨b, off, rfl, hb, hc⟩ := HR.out.2.2 (by omega)
            obtain ⟨b', off', rfl, hb', hc'⟩ := HR'.out.2.2 (by omega)
            have hcell : wr.cell? ⟨b, off + k, none⟩ = some (fl (xs.getD k 0)) := by rw [HK.out.2.2.cell (p := ⟨b, off + k, none⟩) hb]; exact hc k hlt
            have hcell' : wr.cell? ⟨b', off' + k, none⟩ = some (fl (ys.getD k 0)) := by rw [HK.out.2.2.cell (p := ⟨b', off' + k, none⟩) hb']; exact hc' k hlt
            have hbw : b < wr.heap.size := Nat.lt_of_lt_of_le hb HK.out.2.2.size
            have hbw' : b' < wr.heap.size := Nat.lt_of_lt_of_le hb' HK.out.2.2.size
            clear hc hc'
            go_wp2_with fail
            go_region
            all_goals
              go_wp2
              go_roundw
              case rel => exact ⟨k + 1, _, by omega, by go_num, rfl, ⟨fres_cop _ _ HK.out.1 (fres_cop _ _ (feq.refl _) (feq.refl _)), fres_lt _ _ _ _, below_drewN HK.out.2.2 _⟩⟩
              case measure => simp [intOf]; omega
          · have hkn : k = n := by omega
            subst hkn
            go_wp2
            go_ret
            exact ⟨r, rfl, by rw [show dotF xs ys = foldD xs ys k from by unfold dotF; rw [if_pos ⟨by rw [HX.out]; exact h2, by rw [HX'.out]; exact h2, by rw [HX.out, HX'.out]⟩, HX.out]]; exact HK.out.1, HK.out.2.1, HK.out.2.2⟩
      · have he' : ((n : Int) == (n' : Int)) = false := by simp; omega
        have hz : dotF xs ys = 0 := by unfold dotF; rw [if_neg (by rw [HX.out, HX'.out]; omega)]
        have HZ := Lib.hid hz
        clear hz he
        go_enter Try.func18, Try.ntmps18
        go_wp2
        go_ret
        exact ⟨0, rfl, by rw [HZ.out]; exact feq.refl _, by decide, Below.refl _ _⟩
    · have hd' : decide ((n' : Int) ≤ 200) = false := decide_eq_false (by omega)
      have hz : dotF xs ys = 0 := by unfold dotF; rw [if_neg (by rw [HX.out, HX'.out]; omega)]
      have HZ := Lib.hid hz
      clear hz
      go_enter Try.func18, Try.ntmps18
      go_wp2
      go_ret
      exact ⟨0, rfl, by rw [HZ.out]; exact feq.refl _, by decide, Below.refl _ _⟩
  · have hd : decide ((n : Int) ≤ 200) = false := decide_eq_false (by omega)
    have hz : dotF xs ys = 0 := by unfold dotF; rw [if_neg (by rw [HX.out, HX'.out]; omega)]
    have HZ := Lib.hid hz
    clear hz
    go_enter Try.func18, Try.ntmps18
    go_wp2
    go_ret
    exact ⟨0, rfl, by rw [HZ.out]; exact feq.refl _, by decide, Below.refl _ _⟩

set_option maxHeartbeats 800000 in
theorem iDot_any (A A' : Option Addr) (n c n' c' : Nat) (xs ys : List Nat) (w : World) (h : FRow w A n c xs) (h' : FRow w A' n' c' ys) (hn : n ≤ 1048576) (hn' : n' ≤ 1048576) :
    Calls Try.prog 19 #[.slice A n c, .slice A' n' c'] w (RetF (dotF xs ys) w.heap.size w) := by
  obtain ⟨hx, hr⟩ := h
  obtain ⟨hx', hr'⟩ := h'
  have HR := Lib.hid hr
  have HX := Lib.hid hx
  have HR' := Lib.hid hr'
  have HX' := Lib.hid hx'
  clear hr hx hr' hx'
  by_cases h2 : n ≤ 200
  · have hd : decide ((n : Int) ≤ 200) = true := decide_eq_true (by omega)
    by_cases h2' : n' ≤ 200
    · have hd' : decide ((n' : Int) ≤ 200) = true := decide_eq_true (by omega)
      by_cases he : n = n'
      · subst he
        go_enter Try.func19, Try.ntmps19
        go_wp2
        go_loopw [5, 6, 24] (fun s y i wr => ∃ k r : Nat, k ≤ n ∧ i = .int .i64 k ∧ s = fl r ∧ Hid (feq r (foldD xs ys k) ∧ r < 2 ^ 64 ∧ Below w.heap.size w wr)) (fun _ _ i _ => n - (intOf i).toNat)
        case atStart => exact ⟨0, 0, Nat.zero_le _, rfl, rfl, ⟨feq.refl _, by decide, Below.refl _ _⟩⟩
        case round =>
          rename_i wr
          obtain ⟨k, r, hk, rfl, rfl, HK⟩ := hrel
          by_cases hlt : k < n
          · obtain ⟨b, off, rfl, hb, hc⟩ := HR.out.2.2 (by omega)
            obtain ⟨b', off', rfl, hb', hc'⟩ := HR'.out.2.2 (by omega)
            have hcell : wr.cell? ⟨b, off + k, none⟩ = some (fl (xs.getD k 0)) := by rw [HK.out.2.2.cell (p := ⟨b, off + k, none⟩) hb]; exact hc k hlt
            have hcell' : wr.cell? ⟨b', off' + k, none⟩ = some (fl (ys.getD k 0)) := by rw [HK.out.2.2.cell (p := ⟨b', off' + k, none⟩) hb']; exact hc' k hlt
            have hbw : b < wr.heap.size := Nat.lt_of_lt_of_le hb HK.out.2.2.size
            have hbw' : b' < wr.heap.size := Nat.lt_of_lt_of_le hb' HK.out.2.2.size
            clear hc hc'
            go_wp2_with fail
            go_region
            all_goals
              go_wp2
              go_roundw
              case rel => exact ⟨k + 1, _, by omega, by go_num, rfl, ⟨fres_cop _ _ HK.out.1 (fres_cop _ _ (feq.refl _) (feq.refl _)), fres_lt _ _ _ _, below_drewN HK.out.2.2 _⟩⟩
              case measure => simp [intOf]; omega
          · have hkn : k = n := by omega
            subst hkn
            go_wp2
            go_ret
            exact ⟨r, rfl, by rw [show dotF xs ys = foldD xs ys k from by unfold dotF; rw [if_pos ⟨by rw [HX.out]; exact h2, by rw [HX'.out]; exact h2, by rw [HX.out, HX'.out]⟩, HX.out]]; exact HK.out.1, HK.out.2.1, HK.out.2.2⟩
      · have he' : ((n : Int) == (n' : Int)) = false := by simp; omega
        have hz : dotF xs ys = 0 := by unfold dotF; rw [if_neg (by rw [HX.out, HX'.out]; omega)]
        have HZ := Lib.hid hz
        clear hz he
        go_enter Try.func19, Try.ntmps19
        go_wp2
        go_ret
        exact ⟨0, rfl, by rw [HZ.out]; exact feq.refl _, by decide, Below.refl _ _⟩
    · have hd' : decide ((n' : Int) ≤ 200) = false := decide_eq_false (by omega)
      have hz : dotF xs ys = 0 := by unfold dotF; rw [if_neg (by rw [HX.out, HX'.out]; omega)]
      have HZ := Lib.hid hz
      clear hz
      go_enter Try.func19, Try.ntmps19
      go_wp2
      go_ret
      exact ⟨0, rfl, by rw [HZ.out]; exact feq.refl _, by decide, Below.refl _ _⟩
  · have hd : decide ((n : Int) ≤ 200) = false := decide_eq_false (by omega)
    have hz : dotF xs ys = 0 := by unfold dotF; rw [if_neg (by rw [HX.out, HX'.out]; omega)]
    have HZ := Lib.hid hz
    clear hz
    go_enter Try.func19, Try.ntmps19
    go_wp2
    go_ret
    exact ⟨0, rfl, by rw [HZ.out]; exact feq.refl _, by decide, Below.refl _ _⟩

end Go.Proofs.Ytdpiaehobfmjgaa
