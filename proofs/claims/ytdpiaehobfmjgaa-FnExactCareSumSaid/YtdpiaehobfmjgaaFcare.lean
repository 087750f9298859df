/-
  Contracts of CareSum, of the program and of the reference.
-/
import Derived.Test.YtdpiaehobfmjgaaChecked
import Derived.Test.YtdpiaehobfmjgaaFs
import Derived.Outline
import Derived.Handy
import Derived.Deep.RegionHeld3
namespace Go.Proofs.Ytdpiaehobfmjgaa
set_option linter.unusedSimpArgs false
set_option linter.unusedVariables false
open Go.RowKit Go.Fl

def careStep (q : Nat × Nat) (x : Nat) : Nat × Nat :=
  (cop .add q.1 (cop .sub x q.2), cop .sub (cop .sub (cop .add q.1 (cop .sub x q.2)) q.1) (cop .sub x q.2))
def foldC (xs : List Nat) (k : Nat) : Nat × Nat := (xs.take k).foldl careStep (0, 0)
theorem foldC_succ (xs : List Nat) (k : Nat) (h : k < xs.length) : foldC xs (k + 1) = careStep (foldC xs k) (xs.getD k 0) := by
  unfold foldC
  rw [List.take_succ_eq_append_getElem h, List.foldl_append]
  simp [List.getD_eq_getElem?_getD, List.getElem?_eq_getElem h]
def careF (xs : List Nat) : Nat := if xs.length ≤ 200 then (foldC xs xs.length).1 else 0

set_option maxHeartbeats 800000 in
theorem sCareSum_any (A : Option Addr) (n c : Nat) (xs : List Nat) (w : World) (h : FRow w A n c xs) (hn : n ≤ 1048576) :
    Calls Try.prog 22 #[.slice A n c] w (RetF (careF xs) w.heap.size w) := by
  obtain ⟨hx, hr⟩ := h
  have HR := Lib.hid hr
  have HX := Lib.hid hx
  clear hr hx
  by_cases h2 : n ≤ 200
  · have hd : decide ((n : Int) ≤ 200) = true := decide_eq_true (by omega)
    go_enter Try.func22, Try.ntmps22
    go_wp2
    go_loopw [3, 4, 5, 6, 7, 8] (fun s c i y t d wr => ∃ k r e m : Nat, k ≤ n ∧ i = .int .i64 k ∧ s = fl r ∧ c = fl e ∧ Hid (peq (r, e) (foldC xs k) ∧ r < 2 ^ 64) ∧ wr = w.drewN m) (fun _ _ i _ _ _ _ => n - (intOf i).toNat)
    case atStart => exact ⟨0, 0, 0, 0, Nat.zero_le _, rfl, rfl, rfl, ⟨peq.refl _, by decide⟩, rfl⟩
    case round =>
      obtain ⟨k, r, e, m, hk, rfl, rfl, rfl, HK, rfl⟩ := hrel
      by_cases hlt : k < n
      · obtain ⟨b, off, rfl, hb, hc⟩ := HR.out.2.2 (by omega)
        have hcell := hc k hlt
        clear hc
        go_wp2
        go_roundw
        case rel =>
          refine ⟨k + 1, _, _, _, by omega, by go_num, rfl, rfl, ⟨?_, fres_lt _ _ _ _⟩, rfl⟩
          rw [foldC_succ xs k (by rw [HX.out]; exact hlt)]
          refine ⟨?_, ?_⟩
          · repeat' (first | exact feq.refl _ | exact HK.out.1.1 | exact HK.out.1.2 | apply fres_cop)
          · repeat' (first | exact feq.refl _ | exact HK.out.1.1 | exact HK.out.1.2 | apply fres_cop)
        case measure => simp [intOf]; omega
      · have hkn : k = n := by omega
        subst hkn
        go_wp2
        go_ret
        exact ⟨r, rfl, by rw [show careF xs = (foldC xs k).1 from by unfold careF; rw [if_pos (by rw [HX.out]; exact h2), HX.out]]; exact HK.out.1.1, HK.out.2, below_drewN (Below.refl _ _) _⟩
  · have hd : decide ((n : Int) ≤ 200) = false := decide_eq_false (by omega)
    go_enter Try.func22, Try.ntmps22
    go_wp2
    go_ret
    exact ⟨0, rfl, by rw [show careF xs = 0 from by unfold careF; rw [if_neg (by rw [HX.out]; exact h2)]]; exact feq.refl _, by decide, Below.refl _ _⟩

set_option maxHeartbeats 800000 in
theorem iCareSum_any (A : Option Addr) (n c : Nat) (xs : List Nat) (w : World) (h : FRow w A n c xs) (hn : n ≤ 1048576) :
    Calls Try.prog 23 #[.slice A n c] w (RetF (careF xs) w.heap.size w) := by
  obtain ⟨hx, hr⟩ := h
  have HR := Lib.hid hr
  have HX := Lib.hid hx
  clear hr hx
  by_cases h2 : n ≤ 200
  · have hd : decide ((n : Int) ≤ 200) = true := decide_eq_true (by omega)
    go_enter Try.func23, Try.ntmps23
    go_wp2
    go_loopw [3, 4, 6, 7, 8, 14] (fun s c x y t i wr => ∃ k r e m : Nat, k ≤ n ∧ i = .int .i64 k ∧ s = fl r ∧ c = fl e ∧ Hid (peq (r, e) (foldC xs k) ∧ r < 2 ^ 64) ∧ wr = w.drewN m) (fun _ _ _ _ _ i _ => n - (intOf i).toNat)
    case atStart => exact ⟨0, 0, 0, 0, Nat.zero_le _, rfl, rfl, rfl, ⟨peq.refl _, by decide⟩, rfl⟩
    case round =>
      obtain ⟨k, r, e, m, hk, rfl, rfl, rfl, HK, rfl⟩ := hrel
      by_cases hlt : k < n
      · obtain ⟨b, off, rfl, hb, hc⟩ := HR.out.2.2 (by omega)
        have hcell := hc k hlt
        clear hc
        go_wp2
        go_roundw
        case rel =>
          refine ⟨k + 1, _, _, _, by omega, by go_num, rfl, rfl, ⟨?_, fres_lt _ _ _ _⟩, rfl⟩
          rw [foldC_succ xs k (by rw [HX.out]; exact hlt)]
          refine ⟨?_, ?_⟩
          · repeat' (first | exact feq.refl _ | exact HK.out.1.1 | exact HK.out.1.2 | apply fres_cop)
          · repeat' (first | exact feq.refl _ | exact HK.out.1.1 | exact HK.out.1.2 | apply fres_cop)
        case measure => simp [intOf]; omega
      · have hkn : k = n := by omega
        subst hkn
        go_wp2
        go_ret
        exact ⟨r, rfl, by rw [show careF xs = (foldC xs k).1 from by unfold careF; rw [if_pos (by rw [HX.out]; exact h2), HX.out]]; exact HK.out.1.1, HK.out.2, below_drewN (Below.refl _ _) _⟩
  · have hd : decide ((n : Int) ≤ 200) = false := decide_eq_false (by omega)
    go_enter Try.func23, Try.ntmps23
    go_wp2
    go_ret
    exact ⟨0, rfl, by rw [show careF xs = 0 from by unfold careF; rw [if_neg (by rw [HX.out]; exact h2)]]; exact feq.refl _, by decide, Below.refl _ _⟩

end Go.Proofs.Ytdpiaehobfmjgaa
