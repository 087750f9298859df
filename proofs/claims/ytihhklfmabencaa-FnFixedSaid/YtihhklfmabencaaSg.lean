/-
  Contracts of SignalOk, Ramp and Steps, of the program and of the reference.
-/
import Derived.Test.YtihhklfmabencaaOw
import Derived.Test.YtihhklfmabencaaRd
namespace Go.Proofs.Ytihhklfmabencaa
set_option linter.unusedSimpArgs false
set_option linter.unusedVariables false
open Go.RowKit Go.Dr

theorem ret_b {a b : Bool} (h : a = b) : Ending.returned (.bool a) = .returned (.bool b) := by rw [h]

def inS (x : Int) : Prop := -1000000000 ≤ x ∧ x ≤ 1000000000
instance (x : Int) : Decidable (inS x) := by unfold inS; infer_instance
def allS (l : List Int) : Prop := ∀ x ∈ l, inS x
instance (l : List Int) : Decidable (allS l) := by unfold allS; infer_instance
def sigB (l : List Int) : Bool := decide (l.length ≤ 512 ∧ allS l)
theorem allS_of {l : List Int} (h : ∀ j, j < l.length → inS (l.getD j 0)) : allS l := by
  intro x hx
  obtain ⟨j, hj, rfl⟩ := List.getElem_of_mem hx
  have := h j hj
  simpa [List.getD_eq_getElem?_getD, hj] using this
theorem allS_at {l : List Int} (h : allS l) {j : Nat} (hj : j < l.length) : inS (l.getD j 0) := h _ (getD_mem hj)

/-- The values F l 0, F l 1, .. up to k. -/
def tab (F : Nat → Int) (k : Nat) : List Int := (List.range k).map F
theorem tab_len (F : Nat → Int) (k : Nat) : (tab F k).length = k := by simp [tab]
theorem tab_succ (F : Nat → Int) (k : Nat) : tab F (k + 1) = tab F k ++ [F k] := by simp [tab, List.range_succ]
theorem tab_get (F : Nat → Int) {k j : Nat} (h : j < k) : (tab F k).getD j 0 = F j := by simp [tab, List.getD_eq_getElem?_getD, h]

def psum (l : List Int) : Nat → Int | 0 => 0 | k + 1 => psum l k + l.getD k 0
def prev (l : List Int) : Nat → Int | 0 => 0 | k + 1 => l.getD k 0
def rampF (l : List Int) (j : Nat) : Int := psum l (j + 1)
def stepF (l : List Int) (j : Nat) : Int := l.getD j 0 - prev l j
def ramp (l : List Int) : List Int := tab (rampF l) l.length
def steps (l : List Int) : List Int := tab (stepF l) l.length
def rampB (l : List Int) : Bool := sigB l && sigB (ramp l)
def stepB (l : List Int) : Bool := sigB l && sigB (steps l)

theorem psum_le {l : List Int} (h : allS l) : ∀ k, k ≤ l.length → -(1000000000 * (k : Int)) ≤ psum l k ∧ psum l k ≤ 1000000000 * (k : Int)
  | 0, _ => by simp [psum]
  | k + 1, hk => by
    have ih := psum_le h k (by omega)
    have hx := allS_at h (show k < l.length by omega)
    unfold inS at hx
    simp only [psum]
    omega
theorem prev_in {l : List Int} (h : allS l) (k : Nat) (hk : k ≤ l.length) : inS (prev l k) := by
  cases k with
  | zero => exact ⟨by simp [prev], by simp [prev]⟩
  | succ k => exact allS_at h (by omega)

theorem app_below {w wr w' : World} {v : Value} {l : List Int} {o : Obj} (hb : Below w.heap.size w wr) (ho : Own wr w.heap.size v l) (hg : (wr.alloc o).grownBy w' v.ownBlock) : Below w.heap.size w w' :=
  (hb.alloc hb.size o).grown hg (by have := hb.size; simp; omega) (fun k hk => (World.ownsRow.lt ho k hk).1)

theorem spell (k n : Nat) (h : k < n) (hn : n ≤ 1048576) : wrap64 ((k : Int) + 1) = ((k + 1 : Nat) : Int) := by rw [wrap_id (by omega) (by omega)]; omega

/-! ### SignalOk -/
theorem iWithin_any (A : Option Addr) (n c : Nat) (l : List Int) (w : World) (h : IRow .i64 w A n c l) (hn : n ≤ 1048576) :
    Calls Try.prog 53 #[.slice A n c, .int .i64 1000000000] w fun e w' => e = .returned (.bool (decide (allS l))) ∧ Below w.heap.size w w' := by
  obtain ⟨hx, hr⟩ := h
  subst hx
  have HR := Lib.hid (show IRow .i64 w A l.length c l from ⟨rfl, hr⟩)
  have HN := Lib.hid hn
  clear hr hn
  go_enter Try.func53, Try.ntmps53
  go_wp2
  go_loopw [6, 9] (fun x i wr => ∃ k, k ≤ l.length ∧ i = .int .i64 ((k : Nat) : Int) ∧ Hid (∀ j, j < k → inS (l.getD j 0)) ∧ Hid (Below w.heap.size w wr)) (fun _ i _ => l.length - (intOf i).toNat)
  case atStart => exact ⟨0, Nat.zero_le _, rfl, fun j hj => absurd hj (by omega), Below.refl _ _⟩
  case round =>
    rename_i wr
    obtain ⟨k, hk, rfl, HA, HK⟩ := hrel
    by_cases hlt : k < l.length
    · obtain ⟨b, off, rfl, hb, hc⟩ := HR.out.2.2.2 (by omega)
      have hcell : wr.cell? ⟨b, off + k, none⟩ = some (.int .i64 (l.getD k 0)) := by rw [HK.out.cell (p := ⟨b, off + k, none⟩) hb]; exact hc k hlt
      clear hc
      have hk1 := spell k l.length hlt HN.out
      by_cases h1 : l.getD k 0 < -1000000000
      · have HZ := Lib.hid (decide_eq_false (fun h : allS l => by have := allS_at h hlt; unfold inS at this; omega))
        have d1 : decide (l.getD k 0 < -1000000000) = true := decide_eq_true h1
        generalize l.getD k 0 = y at hcell d1
        clear h1
        go_wp2
        go_ret
        exact ⟨ret_b HZ.out.symm, HK.out⟩
      · by_cases h2 : 1000000000 < l.getD k 0
        · have HZ := Lib.hid (decide_eq_false (fun h : allS l => by have := allS_at h hlt; unfold inS at this; omega))
          have d1 : decide (l.getD k 0 < -1000000000) = false := decide_eq_false h1
          have d2 : decide (1000000000 < l.getD k 0) = true := decide_eq_true h2
          generalize l.getD k 0 = y at hcell d1 d2
          clear h1 h2
          go_wp2
          go_ret
          exact ⟨ret_b HZ.out.symm, HK.out⟩
        · have HX := Lib.hid (show inS (l.getD k 0) by unfold inS; omega)
          have d1 : decide (l.getD k 0 < -1000000000) = false := decide_eq_false h1
          have d2 : decide (1000000000 < l.getD k 0) = false := decide_eq_false h2
          generalize hy : l.getD k 0 = y at hcell d1 d2
          have HY := Lib.hid hy
          clear h1 h2 hy
          go_wp2
          go_roundw
          case rel => exact ⟨k + 1, by omega, by rw [hk1], (fun j hj => by
            by_cases e : j = k
            · subst e; exact HX.out
            · exact HA.out j (by omega)), HK.out⟩
          case measure => rw [hk1]; simp only [intOf, Int.toNat_natCast]; omega
    · have hkn : k = l.length := by omega
      subst hkn
      have HZ := Lib.hid (decide_eq_true (allS_of HA.out))
      go_wp2
      go_ret
      exact ⟨ret_b HZ.out.symm, HK.out⟩

theorem iSignalOk_any (A : Option Addr) (n c : Nat) (l : List Int) (w : World) (h : IRow .i64 w A n c l) (hn : n ≤ 1048576) :
    Calls Try.prog 36 #[.slice A n c] w fun e w' => e = .returned (.bool (sigB l)) ∧ Below w.heap.size w w' := by
  have HC := Lib.hid (iWithin_any A n c l w h hn)
  have hl := h.1
  clear h
  by_cases h5 : n ≤ 512
  · have d : decide ((n : Int) ≤ 512) = true := decide_eq_true (by omega)
    have HZ := Lib.hid (show decide (allS l) = sigB l by unfold sigB; exact decide_eq_decide.2 ⟨fun h => ⟨by omega, h⟩, fun h => h.2⟩)
    clear hl hn h5
    go_enter Try.func36, Try.ntmps36
    go_wp2_with (go_at_call 53; (with_reducible refine HC.out.mono ?_); rintro e w1 ⟨rfl, hb⟩; have HB := Lib.hid hb; clear hb)
    go_ret
    exact ⟨ret_b HZ.out, HB.out⟩
  · have d : decide ((n : Int) ≤ 512) = false := decide_eq_false (by omega)
    have HZ := Lib.hid (show false = sigB l by unfold sigB; exact (decide_eq_false (fun h => by omega)).symm)
    clear hl hn h5
    go_enter Try.func36, Try.ntmps36
    go_wp2
    go_ret
    exact ⟨ret_b HZ.out, Below.refl _ _⟩

theorem sSample_any (x : Int) (w : World) : Calls Try.prog 38 #[.int .i64 x] w fun e w' => e = .returned (.bool (decide (inS x))) ∧ Below w.heap.size w w' := by
  by_cases h1 : -1000000000 ≤ x
  · have d1 : decide (-1000000000 ≤ x) = true := decide_eq_true h1
    have HZ := Lib.hid (show decide (x ≤ 1000000000) = decide (inS x) by exact decide_eq_decide.2 ⟨fun h => ⟨h1, h⟩, fun h => h.2⟩)
    clear h1
    go_enter Try.func38, Try.ntmps38
    go_wp2_with go_in
    go_ret
    exact ⟨ret_b HZ.out, Below.refl _ _⟩
  · have d1 : decide (-1000000000 ≤ x) = false := decide_eq_false h1
    have HZ := Lib.hid (show false = decide (inS x) by exact (decide_eq_false (fun h => h1 h.1)).symm)
    clear h1
    go_enter Try.func38, Try.ntmps38
    go_wp2_with go_in
    go_ret
    exact ⟨ret_b HZ.out, Below.refl _ _⟩

theorem sSignalOk_any (A : Option Addr) (n c : Nat) (l : List Int) (w : World) (h : IRow .i64 w A n c l) (hn : n ≤ 1048576) :
    Calls Try.prog 37 #[.slice A n c] w fun e w' => e = .returned (.bool (sigB l)) ∧ Below w.heap.size w w' := by
  obtain ⟨hx, hr⟩ := h
  subst hx
  have HR := Lib.hid (show IRow .i64 w A l.length c l from ⟨rfl, hr⟩)
  have HN := Lib.hid hn
  clear hr hn
  go_enter Try.func37, Try.ntmps37
  go_wp2
  go_loopw [3] (fun i wr => ∃ k, k ≤ l.length ∧ i = .int .i64 ((k : Nat) : Int) ∧ Hid (∀ j, j < k → inS (l.getD j 0)) ∧ Hid (Below w.heap.size w wr)) (fun i _ => l.length - (intOf i).toNat)
  case atStart => exact ⟨0, Nat.zero_le _, rfl, fun j hj => absurd hj (by omega), Below.refl _ _⟩
  case round =>
    rename_i wr
    obtain ⟨k, hk, rfl, HA, HK⟩ := hrel
    by_cases hlt : k < l.length
    · obtain ⟨b, off, rfl, hb, hc⟩ := HR.out.2.2.2 (by omega)
      have hcell : wr.cell? ⟨b, off + k, none⟩ = some (.int .i64 (l.getD k 0)) := by rw [HK.out.cell (p := ⟨b, off + k, none⟩) hb]; exact hc k hlt
      clear hc
      have hk1 := spell k l.length hlt HN.out
      have HC := Lib.hid (sSample_any (l.getD k 0))
      by_cases h1 : inS (l.getD k 0)
      · have HX := Lib.hid h1
        rw [decide_eq_true h1] at HC
        generalize hy : l.getD k 0 = y at hcell HC
        have HY := Lib.hid hy
        clear h1 hy
        go_wp2_with (go_at_call 38; (with_reducible refine (HC.out _).mono ?_); rintro e w1 ⟨rfl, hb2⟩; have HB := Lib.hid (HK.out.trans (hb2.mono HK.out.size)); clear hb2)
        go_roundw
        case rel => exact ⟨k + 1, by omega, by rw [hk1], (fun j hj => by
            by_cases e : j = k
            · subst e; exact HX.out
            · exact HA.out j (by omega)), HB.out⟩
        case measure => rw [hk1]; simp only [intOf, Int.toNat_natCast]; omega
      · have HZ := Lib.hid (show false = sigB l by unfold sigB; exact (decide_eq_false (fun h => h1 (allS_at h.2 hlt))).symm)
        rw [decide_eq_false h1] at HC
        generalize l.getD k 0 = y at hcell HC
        clear h1
        go_wp2_with (go_at_call 38; (with_reducible refine (HC.out _).mono ?_); rintro e w1 ⟨rfl, hb2⟩; have HB := Lib.hid (HK.out.trans (hb2.mono HK.out.size)); clear hb2)
        go_ret
        exact ⟨ret_b HZ.out, HB.out⟩
    · have hkn : k = l.length := by omega
      subst hkn
      have HZ := Lib.hid (show decide ((l.length : Int) ≤ 512) = sigB l by unfold sigB; exact decide_eq_decide.2 ⟨fun h => ⟨by omega, allS_of HA.out⟩, fun h => by omega⟩)
      go_wp2
      go_ret
      exact ⟨ret_b HZ.out, HK.out⟩
end Go.Proofs.Ytihhklfmabencaa
