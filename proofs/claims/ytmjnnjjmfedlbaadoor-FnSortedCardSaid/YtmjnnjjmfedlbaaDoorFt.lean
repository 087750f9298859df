/-
  Contracts of the laws' helpers on float slices: toFloat64S copies into new memory, eqFloat64S tells equal lists to be equal.
-/
import Derived.Test.YtmjnnjjmfedlbaaDoorSame
import Derived.Test.YtmjnnjjmfedlbaaDoorFs
import Derived.Deep.RegionHeld3
import Derived.Deep.QuietTactic
import Derived.BigQuiet
namespace Go.Proofs.YtmjnnjjmfedlbaaDoor
set_option linter.unusedSimpArgs false
set_option linter.unusedVariables false
open Go.RowKit Go.Fl

/-- A block of its own that holds the floats xs. -/
def FBlk (w : World) (g : Nat) (xs : List Nat) : Prop := Blk w g 41 (xs.map fl).toArray

theorem FBlk.row {w : World} {g : Nat} {xs : List Nat} (h : FBlk w g xs) (hn : xs.length ≤ 1048576) : FRow w (some ⟨g, 0, none⟩) xs.length xs.length xs := by
  refine ⟨rfl, Nat.le_refl _, by unfold maxLen; omega, fun _ => ⟨g, 0, rfl, h.lt, fun i hi => ?_⟩⟩
  rw [Nat.zero_add, h.cell i]
  simp [List.getD_eq_getElem?_getD, List.getElem?_eq_getElem hi, hi]

def RetFS (xs : List Nat) (B : Nat) (w : World) (e : Ending) (w' : World) : Prop := ∃ g, e = .returned (.slice (some ⟨g, 0, none⟩) xs.length xs.length) ∧ B ≤ g ∧ FBlk w' g xs ∧ Below B w w'

/-- The first k cells are what they shall be. -/
def Filled (cs : Array Value) (xs : List Nat) (k : Nat) : Prop := cs.size = xs.length ∧ ∀ j, j < k → cs[j]? = some (fl (xs.getD j 0))

theorem Filled.step {cs : Array Value} {xs : List Nat} {k : Nat} (h : Filled cs xs k) (hk : k < xs.length) : Filled (cs.setIfInBounds k (fl (xs.getD k 0))) xs (k + 1) := by
  refine ⟨by rw [Array.size_setIfInBounds]; exact h.1, fun j hj => ?_⟩
  by_cases e : j = k
  · subst e; simp [h.1, hk]
  · rw [Array.getElem?_setIfInBounds_ne (by omega)]; exact h.2 j (by omega)

theorem Filled.all {cs : Array Value} {xs : List Nat} (h : Filled cs xs xs.length) : cs = (xs.map fl).toArray := by
  apply Array.ext_getElem?
  intro j
  by_cases hj : j < xs.length
  · rw [h.2 j hj]; simp [List.getD_eq_getElem?_getD, List.getElem?_eq_getElem hj, hj]
  · rw [Array.getElem?_eq_none (by rw [h.1]; omega), Array.getElem?_eq_none (by simp; omega)]

theorem floatInfo : (Tryd.prog.info? 41).map (fun i => (i.zero, i.size, i.bytes)) = some (some (.float .f64 0), 1, 8) := by kernel_rfl

set_option maxHeartbeats 400000 in
theorem toFloat64S_any (A : Option Addr) (n c : Nat) (xs : List Nat) (w : World) (h : FRow w A n c xs) (hn : n ≤ 1048576) :
    Calls Tryd.prog 24 #[.slice A n c] w (RetFS xs w.heap.size w) := by
  obtain ⟨hx, hr⟩ := h
  have HR := Lib.hid hr
  have HX := Lib.hid hx
  clear hr hx
  obtain ⟨i0, hi, hz0, hz1, hz2⟩ := info_parts floatInfo
  have hmk : ∀ W, (Instr.makeSlice 35 (.int .i64 (n : Int)) (.int .i64 (n : Int))).run Tryd.prog W = .ok (.slice (some ⟨W.heap.size, 0, none⟩) n n) (W.alloc (.cells (madeCells #[.float .f64 0] n) 41)) := by
    intro W
    have := run_make (P := Tryd.prog) W 35 41 i0 _ Tryd.underlying35 hi hz0 .i64 .i64 n n (by omega) (by omega) (by rw [hz2]; omega) (by omega)
    rw [hz1] at this
    simpa [Value.cells] using this
  clear hi hz0 hz1 hz2
  go_enter Tryd.func24, Tryd.ntmps24
  go_wp2
  clear hmk
  go_loopw [4] (fun i wr => ∃ k cs, k ≤ n ∧ i = .int .i64 ((k : Nat) : Int) ∧ Hid (Blk wr w.heap.size 41 cs ∧ Filled cs xs k ∧ Below w.heap.size w wr)) (fun i _ => n - (intOf i).toNat)
  case atStart => exact ⟨0, _, Nat.zero_le _, rfl, ⟨Blk.new _ _ _, ⟨by rw [size_made, HX.out], by intro j hj; omega⟩, (Below.refl _ _).alloc (Nat.le_refl _) _⟩⟩
  case round =>
    rename_i wr
    obtain ⟨k, cs, hk, rfl, HK⟩ := hrel
    by_cases hlt : k < n
    · obtain ⟨b, off, rfl, hb, hc⟩ := HR.out.2.2 (by omega)
      have hcell : wr.cell? ⟨b, off + k, none⟩ = some (fl (xs.getD k 0)) := by rw [HK.out.2.2.cell (p := ⟨b, off + k, none⟩) hb]; exact hc k hlt
      clear hc
      obtain ⟨v, hv⟩ : ∃ v, wr.cell? ⟨w.heap.size, k, none⟩ = some v := ⟨_, by rw [HK.out.1.cell k, Array.getElem?_eq_getElem (by rw [HK.out.2.1.1, HX.out]; exact hlt)]⟩
      have hfz : wr.frozen? ⟨w.heap.size, k, none⟩ = false := HK.out.1.frozen k
      go_wp2
      go_roundw
      case rel => exact ⟨k + 1, _, by omega, by go_num, ⟨HK.out.1.set_ k _, HK.out.2.1.step (by rw [HX.out]; exact hlt), HK.out.2.2.setCell (Nat.le_refl _) _⟩⟩
      case measure => simp [intOf]; omega
    · have hkn : k = n := by omega
      subst hkn
      go_wp2
      go_ret
      have hx := HX.out
      subst hx
      have hall := HK.out.2.1.all
      subst hall
      exact ⟨_, rfl, Nat.le_refl _, HK.out.1, HK.out.2.2⟩

/-- Two lists that a program cannot tell apart. -/
def leq (xs ys : List Nat) : Prop := xs.length = ys.length ∧ ∀ j, j < xs.length → feq (xs.getD j 0) (ys.getD j 0)
theorem leq.refl (xs : List Nat) : leq xs xs := ⟨rfl, fun _ _ => feq.refl _⟩

set_option maxHeartbeats 800000 in
theorem eqFloat64S_any (A A' : Option Addr) (n c n' c' : Nat) (xs ys : List Nat) (w : World) (h : FRow w A n c xs) (h' : FRow w A' n' c' ys) (hl : leq xs ys) (hn : n ≤ 1048576) :
    Calls Tryd.prog 26 #[.slice A n c, .slice A' n' c'] w fun e w' => e = .returned (.bool true) ∧ Below w.heap.size w w' := by
  obtain rfl : n = n' := by rw [← h.1, ← h'.1]; exact hl.1
  have HX := Lib.hid h.1
  have HR := Lib.hid h.2
  have HR' := Lib.hid h'.2
  have HL := Lib.hid hl.2
  clear h h' hl
  go_enter Tryd.func26, Tryd.ntmps26
  go_wp2
  go_loopw [5] (fun i wr => ∃ k, k ≤ n ∧ i = .int .i64 ((k : Nat) : Int) ∧ Hid (Below w.heap.size w wr)) (fun i _ => n - (intOf i).toNat)
  case atStart => exact ⟨0, Nat.zero_le _, rfl, Below.refl _ _⟩
  case round =>
    rename_i wr
    obtain ⟨k, hk, rfl, HK⟩ := hrel
    by_cases hlt : k < n
    · obtain ⟨b, off, rfl, hb, hc⟩ := HR.out.2.2 (by omega)
      obtain ⟨b', off', rfl, hb', hc'⟩ := HR'.out.2.2 (by omega)
      have hcell : wr.cell? ⟨b, off + k, none⟩ = some (fl (xs.getD k 0)) := by rw [HK.out.cell (p := ⟨b, off + k, none⟩) hb]; exact hc k hlt
      have hcell' : wr.cell? ⟨b', off' + k, none⟩ = some (fl (ys.getD k 0)) := by rw [HK.out.cell (p := ⟨b', off' + k, none⟩) hb']; exact hc' k hlt
      clear hc hc'
      have HE := Lib.hid (HL.out k (by rw [HX.out]; exact hlt))
      generalize xs.getD k 0 = x at hcell HE
      generalize ys.getD k 0 = y at hcell' HE
      have hbw : b < wr.heap.size := Nat.lt_of_lt_of_le hb HK.out.size
      have hbw' : b' < wr.heap.size := Nat.lt_of_lt_of_le hb' HK.out.size
      go_wp2_with fail
      go_region_held3 (fun wx => (∀ z y, z < wr.heap.size → wx.cell? ⟨z, y, none⟩ = wr.cell? ⟨z, y, none⟩) ∧ Below wr.heap.size wr wx)
        (first
          | exact keeps0 _
          | (refine keepsB hbn ?_; assumption))
        (first
          | (go_at_call 35; refine (sameFloat_any _ _ HE.out _).mono ?_; rintro e w1 ⟨rfl, hbn⟩))
      have HB := Lib.hid (stays_of (by assumption : (∀ z y, z < wr.heap.size → World.cell? _ ⟨z, y, none⟩ = wr.cell? ⟨z, y, none⟩) ∧ Below wr.heap.size wr _))
      go_wp2
      go_roundw
      case rel => exact ⟨k + 1, by omega, by go_num, HK.out.trans (HB.out.mono HK.out.size)⟩
      case measure => simp [intOf]; omega
    · have hkn : k = n := by omega
      subst hkn
      go_wp2
      go_ret
      exact ⟨rfl, HK.out⟩
end Go.Proofs.YtmjnnjjmfedlbaaDoor
