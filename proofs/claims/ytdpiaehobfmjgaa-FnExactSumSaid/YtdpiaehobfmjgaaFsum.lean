/-
  Contracts of Sum, of the program and of the reference.
-/
import Derived.Test.YtdpiaehobfmjgaaChecked
import Derived.Test.YtdpiaehobfmjgaaFs
import Derived.Outline
import Derived.Handy
namespace Go.Proofs.Ytdpiaehobfmjgaa
set_option linter.unusedSimpArgs false
set_option linter.unusedVariables false
open Go.RowKit Go.Fl

def foldS (xs : List Nat) (k : Nat) : Nat := (xs.take k).foldl (fun s x => cop .add s x) 0
theorem foldS_zero (xs : List Nat) : foldS xs 0 = 0 := rfl
theorem foldS_succ (xs : List Nat) (k : Nat) (h : k < xs.length) : foldS xs (k + 1) = cop .add (foldS xs k) (xs.getD k 0) := by
  unfold foldS
  rw [List.take_succ_eq_append_getElem h, List.foldl_append]
  simp [List.getD_eq_getElem?_getD, List.getElem?_eq_getElem h]

def sumF (xs : List Nat) : Nat := if xs.length ≤ 200 then foldS xs xs.length else 0


set_option maxHeartbeats 400000 in
theorem sSum_any (A : Option Addr) (n c : Nat) (xs : List Nat) (w : World) (h : FRow w A n c xs) (hn : n ≤ 1048576) :
    Calls Try.prog 13 #[.slice A n c] w (RetF (sumF xs) w.heap.size w) := by
  obtain ⟨hx, hr⟩ := h
  have HR := Lib.hid hr
  have HX := Lib.hid hx
  clear hr hx
  by_cases h2 : n ≤ 200
  · have hd : decide ((n : Int) ≤ 200) = true := decide_eq_true (by omega)
    go_enter Try.func13, Try.ntmps13
    go_wp2
    go_loopw [3, 4] (fun s i wr => ∃ k r m : Nat, k ≤ n ∧ i = .int .i64 k ∧ s = fl r ∧ Hid (feq r (foldS xs k) ∧ r < 2 ^ 64) ∧ wr = w.drewN m) (fun _ i _ => n - (intOf i).toNat)
    case atStart => exact ⟨0, 0, 0, Nat.zero_le _, rfl, rfl, ⟨feq.refl _, by decide⟩, rfl⟩
    case round =>
      obtain ⟨k, r, m, hk, rfl, rfl, HK, rfl⟩ := hrel
      by_cases hlt : k < n
      · obtain ⟨b, off, rfl, hb, hc⟩ := HR.out.2.2 (by omega)
        have hcell := hc k hlt
        clear hc
        go_wp2
        go_roundw
        case rel => exact ⟨k + 1, _, _, by omega, by go_num, rfl, ⟨by rw [foldS_succ xs k (by rw [HX.out]; exact hlt)]; exact fres_cop _ _ HK.out.1 (feq.refl _), fres_lt _ _ _ _⟩, rfl⟩
        case measure => simp [intOf]; omega
      · have hkn : k = n := by omega
        subst hkn
        go_wp2
        go_ret
        exact ⟨r, rfl, by rw [show sumF xs = foldS xs k from by unfold sumF; rw [if_pos (by rw [HX.out]; exact h2), HX.out]]; exact HK.out.1, HK.out.2, below_drewN (Below.refl _ _) _⟩
  · have hd : decide ((n : Int) ≤ 200) = false := decide_eq_false (by omega)
    go_enter Try.func13, Try.ntmps13
    go_wp2
    go_ret
    exact ⟨0, rfl, by rw [show sumF xs = 0 from by unfold sumF; rw [if_neg (by rw [HX.out]; exact h2)]]; exact feq.refl _, by decide, Below.refl _ _⟩

set_option maxHeartbeats 400000 in
theorem iSum_any (A : Option Addr) (n c : Nat) (xs : List Nat) (w : World) (h : FRow w A n c xs) (hn : n ≤ 1048576) :
    Calls Try.prog 15 #[.slice A n c] w (RetF (sumF xs) w.heap.size w) := by
  obtain ⟨hx, hr⟩ := h
  have HR := Lib.hid hr
  have HX := Lib.hid hx
  clear hr hx
  by_cases h2 : n ≤ 200
  · have hd : decide ((n : Int) ≤ 200) = true := decide_eq_true (by omega)
    go_enter Try.func15, Try.ntmps15
    go_wp2
    go_loopw [3, 5, 11] (fun s _x i wr => ∃ k r m : Nat, k ≤ n ∧ i = .int .i64 k ∧ s = fl r ∧ Hid (feq r (foldS xs k) ∧ r < 2 ^ 64) ∧ wr = w.drewN m) (fun _ _x i _ => n - (intOf i).toNat)
    case atStart => exact ⟨0, 0, 0, Nat.zero_le _, rfl, rfl, ⟨feq.refl _, by decide⟩, rfl⟩
    case round =>
      obtain ⟨k, r, m, hk, rfl, rfl, HK, rfl⟩ := hrel
      by_cases hlt : k < n
      · obtain ⟨b, off, rfl, hb, hc⟩ := HR.out.2.2 (by omega)
        have hcell := hc k hlt
        clear hc
        go_wp2
        go_roundw
        case rel => exact ⟨k + 1, _, _, by omega, by go_num, rfl, ⟨by rw [foldS_succ xs k (by rw [HX.out]; exact hlt)]; exact fres_cop _ _ HK.out.1 (feq.refl _), fres_lt _ _ _ _⟩, rfl⟩
        case measure => simp [intOf]; omega
      · have hkn : k = n := by omega
        subst hkn
        go_wp2
        go_ret
        exact ⟨r, rfl, by rw [show sumF xs = foldS xs k from by unfold sumF; rw [if_pos (by rw [HX.out]; exact h2), HX.out]]; exact HK.out.1, HK.out.2, below_drewN (Below.refl _ _) _⟩
  · have hd : decide ((n : Int) ≤ 200) = false := decide_eq_false (by omega)
    go_enter Try.func15, Try.ntmps15
    go_wp2
    go_ret
    exact ⟨0, rfl, by rw [show sumF xs = 0 from by unfold sumF; rw [if_neg (by rw [HX.out]; exact h2)]]; exact feq.refl _, by decide, Below.refl _ _⟩

end Go.Proofs.Ytdpiaehobfmjgaa
