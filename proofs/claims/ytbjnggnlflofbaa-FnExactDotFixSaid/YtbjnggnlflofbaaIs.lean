/-
  Contracts of the laws' helpers on slices of numbers: toIntS copies into new memory, eqIntS tells equal lists to be equal.
-/
import Derived.Test.YtbjnggnlflofbaaDw
namespace Go.Proofs.Ytbjnggnlflofbaa
set_option linter.unusedSimpArgs false
set_option linter.unusedVariables false
open Go.RowKit Go.Dr

def il (x : Int) : Value := .int .i64 x

/-- The first k cells are what they shall be. -/
def Filled (cs : Array Value) (xs : List Int) (k : Nat) : Prop := cs.size = xs.length ∧ ∀ j, j < k → cs[j]? = some (il (xs.getD j 0))
theorem Filled.step {cs : Array Value} {xs : List Int} {k : Nat} (h : Filled cs xs k) (hk : k < xs.length) : Filled (cs.setIfInBounds k (.int .i64 (xs.getD k 0))) xs (k + 1) := by
  refine ⟨by rw [Array.size_setIfInBounds]; exact h.1, fun j hj => ?_⟩
  by_cases e : j = k
  · subst e; simp [h.1, hk, il]
  · rw [Array.getElem?_setIfInBounds_ne (by omega)]; exact h.2 j (by omega)

theorem Filled.step' {cs : Array Value} {xs : List Int} {k : Nat} {y : Int} (h : Filled cs xs k) (hk : k < xs.length) (hy : xs.getD k 0 = y) : Filled (cs.setIfInBounds k (.int .i64 y)) xs (k + 1) := by
  subst hy; exact h.step hk

theorem intInfoI : (Try.prog.info? 3).map (fun i => (i.zero, i.size, i.bytes)) = some (some (.int .i64 0), 1, 8) := by kernel_rfl
theorem spellI (k n : Nat) (h : k < n) (hn : n ≤ 1048576) : wrap64 ((k : Int) + 1) = ((k + 1 : Nat) : Int) := by rw [wrap_id (by omega) (by omega)]; omega

set_option maxHeartbeats 400000 in
theorem toIntS_any (A : Option Addr) (n c : Nat) (xs : List Int) (w : World) (h : IRow .i64 w A n c xs) (hn : n ≤ 1048576) :
    Calls Try.prog 22 #[.slice A n c] w fun e w' => ∃ g, e = .returned (.slice (some ⟨g, 0, none⟩) n n) ∧ IRow .i64 w' (some ⟨g, 0, none⟩) n n xs ∧ Below w.heap.size w w' := by
  obtain ⟨hx, hr⟩ := h
  subst hx
  have HR := Lib.hid hr
  have HN := Lib.hid hn
  clear hr
  obtain ⟨i0, hi, hz0, hz1, hz2⟩ := info_parts intInfoI
  have hmk : ∀ W, (Instr.makeSlice 26 (.int .i64 (xs.length : Int)) (.int .i64 (xs.length : Int))).run Try.prog W = .ok (.slice (some ⟨W.heap.size, 0, none⟩) xs.length xs.length) (W.alloc (.cells (madeCells #[.int .i64 0] xs.length) 3)) := by
    intro W
    have := run_make (P := Try.prog) W 26 3 i0 _ Try.underlying26 hi hz0 .i64 .i64 xs.length xs.length (by omega) (by omega) (by rw [hz2]; omega) (by omega)
    rw [hz1] at this
    simpa [Value.cells] using this
  clear hi hz0 hz1 hz2 hn
  go_enter Try.func22, Try.ntmps22
  go_wp2
  clear hmk
  go_loopw [4] (fun i wr => ∃ (k : Nat) (cs : Array Value) (wz : World), wz = wr ∧ k ≤ xs.length ∧ i = .int .i64 ((k : Nat) : Int) ∧ Hid (Blk wz w.heap.size 3 cs ∧ Filled cs xs k ∧ Below w.heap.size w wz)) (fun i _ => xs.length - (intOf i).toNat)
  case atStart => exact ⟨0, _, _, rfl, Nat.zero_le _, rfl, ⟨Blk.new _ _ _, ⟨by rw [size_madeCells], by intro j hj; omega⟩, (Below.refl _ _).alloc (Nat.le_refl _) _⟩⟩
  case round =>
    obtain ⟨k, cs, wr, rfl, hk, rfl, HK⟩ := hrel
    by_cases hlt : k < xs.length
    · obtain ⟨b, off, rfl, hb, hc⟩ := HR.out.2.2 (by omega)
      have hcell : wr.cell? ⟨b, off + k, none⟩ = some (.int .i64 (xs.getD k 0)) := by rw [HK.out.2.2.cell (p := ⟨b, off + k, none⟩) hb]; exact hc k hlt
      clear hc
      have hk1 := spellI k xs.length hlt HN.out
      generalize hY : xs.getD k 0 = y at hcell
      have HY := Lib.hid hY
      clear hY
      obtain ⟨v, hv⟩ : ∃ v, wr.cell? ⟨w.heap.size, k, none⟩ = some v := ⟨_, by rw [HK.out.1.cell k, Array.getElem?_eq_getElem (by rw [HK.out.2.1.1]; exact hlt)]⟩
      have hfz : wr.frozen? ⟨w.heap.size, k, none⟩ = false := HK.out.1.frozen k
      go_wp2
      go_roundw
      case rel => exact ⟨k + 1, _, _, rfl, by omega, by rw [hk1], ⟨HK.out.1.set_ k _, HK.out.2.1.step' hlt HY.out, HK.out.2.2.setCell (Nat.le_refl _) _⟩⟩
      case measure => rw [hk1]; simp only [intOf, Int.toNat_natCast]; omega
    · have hkn : k = xs.length := by omega
      subst hkn
      go_wp2
      go_ret
      refine ⟨_, rfl, ⟨rfl, Nat.le_refl _, by have := HN.out; unfold maxLen; omega, fun _ => ⟨_, 0, rfl, HK.out.1.lt, fun i hi => ?_⟩⟩, HK.out.2.2⟩
      rw [Nat.zero_add, HK.out.1.cell i]
      exact HK.out.2.1.2 i hi

theorem eqIntS_any (A A' : Option Addr) (n n' c c' : Nat) (l : List Int) (w : World) (h : IRow .i64 w A n c l) (h' : IRow .i64 w A' n' c' l) (hn : n ≤ 1048576) :
    Calls Try.prog 24 #[.slice A n c, .slice A' n' c'] w fun e w' => e = .returned (.bool true) ∧ Below w.heap.size w w' := by
  obtain rfl : n = n' := by rw [← h.1, ← h'.1]
  have hx := h.1
  subst hx
  have HR := Lib.hid h
  have HR' := Lib.hid h'
  have HN := Lib.hid hn
  clear h h' hn
  go_enter Try.func24, Try.ntmps24
  go_wp2
  go_loopw [5] (fun i wr => ∃ (k : Nat) (wz : World), wz = wr ∧ k ≤ l.length ∧ i = .int .i64 ((k : Nat) : Int) ∧ Hid (Below w.heap.size w wz)) (fun i _ => l.length - (intOf i).toNat)
  case atStart => exact ⟨0, _, rfl, Nat.zero_le _, rfl, Below.refl _ _⟩
  case round =>
    obtain ⟨k, wr, rfl, hk, rfl, HK⟩ := hrel
    by_cases hlt : k < l.length
    · obtain ⟨b, off, rfl, hb, hc⟩ := HR.out.2.2.2 (by omega)
      obtain ⟨b', off', rfl, hb', hc'⟩ := HR'.out.2.2.2 (by omega)
      have hcell : wr.cell? ⟨b, off + k, none⟩ = some (.int .i64 (l.getD k 0)) := by rw [HK.out.cell (p := ⟨b, off + k, none⟩) hb]; exact hc k hlt
      have hcell' : wr.cell? ⟨b', off' + k, none⟩ = some (.int .i64 (l.getD k 0)) := by rw [HK.out.cell (p := ⟨b', off' + k, none⟩) hb']; exact hc' k hlt
      clear hc hc'
      have hk1 := spellI k l.length hlt HN.out
      generalize l.getD k 0 = x at hcell hcell'
      go_wp2
      repeat (go_quiet (fail); try go_wp2)
      go_roundw
      case rel => exact ⟨k + 1, _, rfl, by omega, by rw [hk1], below_drewN HK.out _⟩
      case measure => rw [hk1]; simp only [intOf, Int.toNat_natCast]; omega
    · have hkn : k = l.length := by omega
      subst hkn
      go_wp2
      go_ret
      exact ⟨rfl, HK.out⟩
end Go.Proofs.Ytbjnggnlflofbaa
