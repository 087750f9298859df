/-
  Contracts of PairSum, of the program and of the reference.
-/
import Derived.Test.YtdpiaehobfmjgaaChecked
import Derived.Test.YtdpiaehobfmjgaaFs
import Derived.Outline
import Derived.Handy
import Derived.Deep.RegionHeld3
import Derived.Deep.RegionWith
import Derived.RegionTactic
namespace Go.Proofs.Ytdpiaehobfmjgaa
set_option linter.unusedSimpArgs false
set_option linter.unusedVariables false
open Go.RowKit Go.Fl

/-- The sum by halves; fuel: as many rounds as elements are enough. -/
def halves : Nat → List Nat → Nat
  | 0, _ => 0
  | f + 1, xs => if xs.length = 0 then 0 else if xs.length = 1 then xs.getD 0 0 else cop .add (halves f (xs.take (xs.length / 2))) (halves f (xs.drop (xs.length / 2)))
def pairF (xs : List Nat) : Nat := if xs.length ≤ 200 then halves (xs.length + 1) xs else 0

theorem halves_more : ∀ (f g : Nat) (xs : List Nat), xs.length < f → xs.length < g → halves f xs = halves g xs
  | 0, _, _, h, _ => absurd h (by omega)
  | _ + 1, 0, _, _, h => absurd h (by omega)
  | f + 1, g + 1, xs, h, h' => by
    unfold halves
    by_cases h0 : xs.length = 0
    · rw [if_pos h0, if_pos h0]
    · by_cases h1 : xs.length = 1
      · rw [if_neg h0, if_neg h0, if_pos h1, if_pos h1]
      · rw [if_neg h0, if_neg h0, if_neg h1, if_neg h1]
        rw [halves_more f g (xs.take (xs.length / 2)) (by simp; omega) (by simp; omega), halves_more f g (xs.drop (xs.length / 2)) (by simp; omega) (by simp; omega)]

theorem FRow.take {w : World} {b off n c : Nat} {xs : List Nat} (h : FRow w (some ⟨b, off, none⟩) n c xs) {k : Nat} (hk : k ≤ n) : FRow w (some ⟨b, off, none⟩) k c (xs.take k) := by
  refine ⟨by rw [List.length_take, h.1]; omega, by have := h.2.1; omega, h.2.2.1, fun hp => ?_⟩
  obtain ⟨b', off', e, hlt, hc⟩ := h.2.2.2 (by omega)
  simp only [Option.some.injEq, Addr.mk.injEq, and_true] at e
  obtain ⟨rfl, rfl⟩ := e
  refine ⟨b, off, rfl, hlt, fun i hi => ?_⟩
  rw [hc i (by omega)]
  simp [List.getD_eq_getElem?_getD, List.getElem?_take, hi]

theorem FRow.drop {w : World} {b off n c : Nat} {xs : List Nat} (h : FRow w (some ⟨b, off, none⟩) n c xs) {k : Nat} (hk : k < n) : FRow w (some ⟨b, off + k, none⟩) (n - k) (c - k) (xs.drop k) := by
  refine ⟨by rw [List.length_drop, h.1], by have := h.2.1; omega, by have := h.2.2.1; omega, fun hp => ?_⟩
  obtain ⟨b', off', e, hlt, hc⟩ := h.2.2.2 (by omega)
  simp only [Option.some.injEq, Addr.mk.injEq, and_true] at e
  obtain ⟨rfl, rfl⟩ := e
  refine ⟨b, off + k, rfl, hlt, fun i hi => ?_⟩
  rw [Nat.add_assoc, hc (k + i) (by omega)]
  simp [List.getD_eq_getElem?_getD, List.getElem?_drop]

theorem slice_h (b off n c m : Nat) (h : m ≤ c) (W : World) : (Instr.slice 22 (.slice (some ⟨b, off, none⟩) n c) none (some (.int .i64 (m : Int))) none).run Try.prog W = .ok (.slice (some ⟨b, off, none⟩) m c) W := by
  rw [run_slice_h (P := Try.prog) W 22 _ n c Try.underlying22 .i64 (m : Int) (by omega) (by omega)]
  simp [go_sem, Addr.add]
theorem slice_l (b off n c m : Nat) (h : m ≤ n) (hc : m < c) (W : World) : (Instr.slice 22 (.slice (some ⟨b, off, none⟩) n c) (some (.int .i64 (m : Int))) none none).run Try.prog W = .ok (.slice (some ⟨b, off + m, none⟩) (n - m) (c - m)) W := by
  rw [run_slice_l (P := Try.prog) W 22 _ n c Try.underlying22 .i64 (m : Int) (by omega) (by omega)]
  have : ¬ c = m := by omega
  simp [go_sem, Addr.add, this]

set_option maxHeartbeats 800000 in
theorem ipairSum_any : ∀ (f : Nat) (A : Option Addr) (n c : Nat) (xs : List Nat) (w : World), xs.length < f → FRow w A n c xs → n ≤ 1048576 → (∀ x ∈ xs, x < 2 ^ 64) →
    Calls Try.prog 47 #[.slice A n c] w (RetF (halves f xs) w.heap.size w)
  | 0, _, _, _, _, _, h, _, _, _ => absurd h (by omega)
  | f + 1, A, n, c, xs, w, hf, h, hn, hb => by
    have ih := Lib.hid (ipairSum_any f)
    have HX := Lib.hid h.1
    have HR := Lib.hid h
    have HB := Lib.hid hb
    by_cases h0 : n = 0
    · have hz : halves (f + 1) xs = 0 := by unfold halves; rw [if_pos (by rw [HX.out]; exact h0)]
      have HZ := Lib.hid hz
      have hb0 : ((n : Int) == 0) = true := by simp; omega
      clear hz h hb hf h0
      go_enter Try.func47, Try.ntmps47
      go_wp2
      go_ret
      exact ⟨0, rfl, by rw [HZ.out]; exact feq.refl _, by decide, Below.refl _ _⟩
    · have hb0 : ((n : Int) == 0) = false := by simp; omega
      obtain ⟨b, off, rfl, hbw, hc⟩ := h.2.2.2 (by omega)
      by_cases h1 : n = 1
      · have hz : halves (f + 1) xs = xs.getD 0 0 := by unfold halves; rw [if_neg (by rw [HX.out]; exact h0), if_pos (by rw [HX.out]; exact h1)]
        have HZ := Lib.hid hz
        have hcell : w.cell? ⟨b, off + 0, none⟩ = some (fl (xs.getD 0 0)) := hc 0 (by omega)
        rw [Nat.add_zero] at hcell
        have HL := Lib.hid (hb (xs.getD 0 0) (by rw [List.getD_eq_getElem?_getD, List.getElem?_eq_getElem (by rw [HX.out]; omega)]; exact List.getElem_mem _))
        have hp : (0 : Int) < (n : Int) := by omega
        have hb1 : ((n : Int) == 1) = true := by simp; omega
        generalize xs.getD 0 0 = last at hcell HL HZ
        clear hz h hb hf h0 hc h1
        go_enter Try.func47, Try.ntmps47
        go_wp2
        go_ret
        exact ⟨last, rfl, by rw [HZ.out]; exact feq.refl _, HL.out, Below.refl _ _⟩
      · have hz : halves (f + 1) xs = cop .add (halves f (xs.take (xs.length / 2))) (halves f (xs.drop (xs.length / 2))) := by
          rw [halves, if_neg (by rw [HX.out]; exact h0), if_neg (by rw [HX.out]; exact h1)]
        have HZ := Lib.hid hz
        have hb1 : ((n : Int) == 1) = false := by simp; omega
        have hn2 : (2 : Int) ≤ (n : Int) := by omega
        have hnM : (n : Int) ≤ 1048576 := by omega
        have HF := Lib.hid hf
        obtain ⟨m, hm⟩ : ∃ m : Nat, (n : Int) / 2 = (m : Int) := ⟨n / 2, by omega⟩
        have hcn : n ≤ c := h.2.1
        have hM : m = xs.length / 2 := by rw [HX.out]; omega
        have HM := Lib.hid hM
        have hmc : (m : Int) ≤ (c : Int) := by omega
        have hmn : (m : Int) ≤ (n : Int) := by omega
        have hmlt : m < n := by omega
        have hcm : ¬ c = m := by omega
        have HN := Lib.hid hn
        have hs1 := slice_h b off n c m (by omega)
        have hs2 := slice_l b off n c m (by omega) (by omega)
        have C1 := Lib.hid (fun (W : World) (hW : Below w.heap.size w W) => ih.out (some ⟨b, off, none⟩) m c (xs.take m) W (by rw [List.length_take]; omega) ((FRow.take h (k := m) (by omega)).below hW) (by omega) (fun x hx => hb x (List.mem_of_mem_take hx)))
        have C2 := Lib.hid (fun (W : World) (hW : Below w.heap.size w W) => ih.out (some ⟨b, off + m, none⟩) (n - m) (c - m) (xs.drop m) W (by rw [List.length_drop]; omega) ((FRow.drop h (k := m) (by omega)).below hW) (by omega) (fun x hx => hb x (List.mem_of_mem_drop hx)))
        have hw : IntKind.i64.wrap (m : Int) = (m : Int) := IntWalk.i64_in _ (by omega)
        clear hz h hb hf h0 hc h1 hM hn
        go_enter Try.func47, Try.ntmps47
        go_wp2_with fail
        go_region_with (first
            | (go_at_call 47; (with_reducible refine (C1.out _ ?_).mono ?_); (first | exact HB1.out | exact (Below.refl _ _).drew); rintro e w1 ⟨r1, rfl, hr1, hl1, hbn⟩; have HR1 := Lib.hid hr1; clear hr1 hl1; (first | (replace HB1 := Lib.hid (HB1.out.trans (hbn.mono HB1.out.size))) | (have HB1 := Lib.hid (((Below.refl w.heap.size w).drew).trans hbn))); clear hbn)
            | (go_at_call 47; (with_reducible refine (C2.out _ ?_).mono ?_); (first | exact HB1.out | exact (Below.refl _ _).drew); rintro e w1 ⟨r2, rfl, hr2, hl2, hbn⟩; have HR2 := Lib.hid hr2; clear hr2 hl2; (first | (replace HB1 := Lib.hid (HB1.out.trans (hbn.mono HB1.out.size))) | (have HB1 := Lib.hid (((Below.refl w.heap.size w).drew).trans hbn))); clear hbn))
        all_goals
          go_wp2
          go_ret
          exact ⟨_, rfl, by rw [HZ.out, ← HM.out]; exact fres_cop _ _ HR1.out HR2.out, fres_lt _ _ _ _, below_drewN HB1.out _⟩

theorem iPairSum_any (A : Option Addr) (n c : Nat) (xs : List Nat) (w : World) (h : FRow w A n c xs) (hn : n ≤ 1048576) (hb : ∀ x ∈ xs, x < 2 ^ 64) :
    Calls Try.prog 25 #[.slice A n c] w (RetF (pairF xs) w.heap.size w) := by
  have HX := Lib.hid h.1
  by_cases h2 : n ≤ 200
  · have hd : decide ((n : Int) ≤ 200) = true := decide_eq_true (by omega)
    have C := Lib.hid (ipairSum_any (xs.length + 1) A n c xs w (by omega) h hn hb)
    have HZ := Lib.hid (show pairF xs = halves (xs.length + 1) xs from by unfold pairF; rw [if_pos (by rw [HX.out]; exact h2)])
    clear h hn hb h2
    go_enter Try.func25, Try.ntmps25
    go_wp2_with (first | (go_at_call 47; (with_reducible refine C.out.mono ?_); rintro e w1 ⟨r, rfl, hr, hl, hb⟩) | (go_at_call 46; go_in))
    go_ret
    exact ⟨r, rfl, by rw [HZ.out]; exact hr, hl, hb⟩
  · have hd : decide ((n : Int) ≤ 200) = false := decide_eq_false (by omega)
    have HZ := Lib.hid (show pairF xs = 0 from by unfold pairF; rw [if_neg (by rw [HX.out]; exact h2)])
    clear h hn hb h2
    go_enter Try.func25, Try.ntmps25
    go_wp2
    go_ret
    exact ⟨0, rfl, by rw [HZ.out]; exact feq.refl _, by decide, Below.refl _ _⟩

set_option maxHeartbeats 800000 in
theorem sPairSum_f : ∀ (f : Nat) (A : Option Addr) (n c : Nat) (xs : List Nat) (w : World), xs.length < f → FRow w A n c xs → n ≤ 200 → (∀ x ∈ xs, x < 2 ^ 64) →
    Calls Try.prog 24 #[.slice A n c] w (RetF (halves f xs) w.heap.size w)
  | 0, _, _, _, _, _, h, _, _, _ => absurd h (by omega)
  | f + 1, A, n, c, xs, w, hf, h, hn, hb => by
    have ih := Lib.hid (sPairSum_f f)
    have HX := Lib.hid h.1
    have hd : decide ((n : Int) ≤ 200) = true := decide_eq_true (by omega)
    by_cases h0 : n = 0
    · have hz : halves (f + 1) xs = 0 := by unfold halves; rw [if_pos (by rw [HX.out]; exact h0)]
      have HZ := Lib.hid hz
      have hb0 : ((n : Int) == 0) = true := by simp; omega
      clear hz h hb hf h0
      go_enter Try.func24, Try.ntmps24
      go_wp2
      go_ret
      exact ⟨0, rfl, by rw [HZ.out]; exact feq.refl _, by decide, Below.refl _ _⟩
    · have hb0 : ((n : Int) == 0) = false := by simp; omega
      obtain ⟨b, off, rfl, hbw, hc⟩ := h.2.2.2 (by omega)
      by_cases h1 : n = 1
      · have hz : halves (f + 1) xs = xs.getD 0 0 := by unfold halves; rw [if_neg (by rw [HX.out]; exact h0), if_pos (by rw [HX.out]; exact h1)]
        have HZ := Lib.hid hz
        have hcell : w.cell? ⟨b, off + 0, none⟩ = some (fl (xs.getD 0 0)) := hc 0 (by omega)
        rw [Nat.add_zero] at hcell
        have HL := Lib.hid (hb (xs.getD 0 0) (by rw [List.getD_eq_getElem?_getD, List.getElem?_eq_getElem (by rw [HX.out]; omega)]; exact List.getElem_mem _))
        have hp : (0 : Int) < (n : Int) := by omega
        have hb1 : ((n : Int) == 1) = true := by simp; omega
        generalize xs.getD 0 0 = last at hcell HL HZ
        clear hz h hb hf h0 hc h1
        go_enter Try.func24, Try.ntmps24
        go_wp2
        go_ret
        exact ⟨last, rfl, by rw [HZ.out]; exact feq.refl _, HL.out, Below.refl _ _⟩
      · have hz : halves (f + 1) xs = cop .add (halves f (xs.take (xs.length / 2))) (halves f (xs.drop (xs.length / 2))) := by
          rw [halves, if_neg (by rw [HX.out]; exact h0), if_neg (by rw [HX.out]; exact h1)]
        have HZ := Lib.hid hz
        have hb1 : ((n : Int) == 1) = false := by simp; omega
        have hn2 : (2 : Int) ≤ (n : Int) := by omega
        have hnM : (n : Int) ≤ 1048576 := by omega
        obtain ⟨m, hm⟩ : ∃ m : Nat, (n : Int) / 2 = (m : Int) := ⟨n / 2, by omega⟩
        have hcn : n ≤ c := h.2.1
        have hM : m = xs.length / 2 := by rw [HX.out]; omega
        have HM := Lib.hid hM
        have hmc : (m : Int) ≤ (c : Int) := by omega
        have hmn : (m : Int) ≤ (n : Int) := by omega
        have hmlt : m < n := by omega
        have hcm : ¬ c = m := by omega
        have hs1 := slice_h b off n c m (by omega)
        have hs2 := slice_l b off n c m (by omega) (by omega)
        have C1 := Lib.hid (fun (W : World) (hW : Below w.heap.size w W) => ih.out (some ⟨b, off, none⟩) m c (xs.take m) W (by rw [List.length_take]; omega) ((FRow.take h (k := m) (by omega)).below hW) (by omega) (fun x hx => hb x (List.mem_of_mem_take hx)))
        have C2 := Lib.hid (fun (W : World) (hW : Below w.heap.size w W) => ih.out (some ⟨b, off + m, none⟩) (n - m) (c - m) (xs.drop m) W (by rw [List.length_drop]; omega) ((FRow.drop h (k := m) (by omega)).below hW) (by omega) (fun x hx => hb x (List.mem_of_mem_drop hx)))
        have hw : IntKind.i64.wrap (m : Int) = (m : Int) := IntWalk.i64_in _ (by omega)
        clear hz h hb hf h0 hc h1 hM hn
        go_enter Try.func24, Try.ntmps24
        go_wp2_with (first
          | (go_at_call 24; (with_reducible refine (C1.out _ ?_).mono ?_); (exact Below.refl _ _); rintro e w1 ⟨r1, rfl, hr1, hl1, hbn⟩; have HR1 := Lib.hid hr1; have HB1 := Lib.hid hbn; clear hr1 hl1 hbn)
          | (go_at_call 24; (with_reducible refine (C2.out _ ?_).mono ?_); (exact HB1.out); rintro e w2 ⟨r2, rfl, hr2, hl2, hbn⟩; have HR2 := Lib.hid hr2; have HB2 := Lib.hid (HB1.out.trans (hbn.mono HB1.out.size)); clear hr2 hl2 hbn)
          | (go_at_call 45; go_in))
        go_ret
        exact ⟨_, rfl, by rw [HZ.out, ← HM.out]; exact fres_cop _ _ HR1.out HR2.out, fres_lt _ _ _ _, below_drewN HB2.out _⟩

theorem sPairSum_any (A : Option Addr) (n c : Nat) (xs : List Nat) (w : World) (h : FRow w A n c xs) (hn : n ≤ 1048576) (hb : ∀ x ∈ xs, x < 2 ^ 64) :
    Calls Try.prog 24 #[.slice A n c] w (RetF (pairF xs) w.heap.size w) := by
  have HX := Lib.hid h.1
  by_cases h2 : n ≤ 200
  · have := sPairSum_f (xs.length + 1) A n c xs w (by omega) h h2 hb
    rw [show pairF xs = halves (xs.length + 1) xs from by unfold pairF; rw [if_pos (by rw [HX.out]; exact h2)]]
    exact this
  · have hd : decide ((n : Int) ≤ 200) = false := decide_eq_false (by omega)
    have HZ := Lib.hid (show pairF xs = 0 from by unfold pairF; rw [if_neg (by rw [HX.out]; exact h2)])
    clear h hn hb h2
    go_enter Try.func24, Try.ntmps24
    go_wp2
    go_ret
    exact ⟨0, rfl, by rw [HZ.out]; exact feq.refl _, by decide, Below.refl _ _⟩
end Go.Proofs.Ytdpiaehobfmjgaa
