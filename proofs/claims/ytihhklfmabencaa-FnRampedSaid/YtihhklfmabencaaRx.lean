/-
  Ramp and Steps undo each other; the compare of two equal lists.
-/
import Derived.Test.YtihhklfmabencaaRs
namespace Go.Proofs.Ytihhklfmabencaa
set_option linter.unusedSimpArgs false
set_option linter.unusedVariables false
open Go.RowKit Go.Dr

theorem tab_ext {F : Nat → Int} {l : List Int} (h : ∀ j, j < l.length → F j = l.getD j 0) : tab F l.length = l := by
  apply List.ext_getElem
  · rw [tab_len]
  · intro i h1 h2
    have := h i h2
    simp [tab, this, List.getD_eq_getElem?_getD, h2]

theorem steps_ramp {l : List Int} (h : rampB l = true) : stepB (ramp l) = true ∧ steps (ramp l) = l := by
  have h1 : sigB l = true ∧ sigB (ramp l) = true := by unfold rampB at h; simpa using h
  have hl : (ramp l).length = l.length := tab_len _ _
  have e : steps (ramp l) = l := by
    unfold steps
    rw [hl]
    refine tab_ext fun j hj => ?_
    unfold stepF
    rw [show (ramp l).getD j 0 = rampF l j from tab_get _ hj]
    cases j with
    | zero => simp [prev, rampF, psum]
    | succ j =>
      simp only [prev]
      rw [show (ramp l).getD j 0 = rampF l j from tab_get _ (by omega)]
      unfold rampF
      simp only [psum]
      omega
  refine ⟨?_, e⟩
  unfold stepB
  rw [e, h1.1, h1.2]; rfl

theorem ramp_steps {l : List Int} (h : stepB l = true) : rampB (steps l) = true ∧ ramp (steps l) = l := by
  have h1 : sigB l = true ∧ sigB (steps l) = true := by unfold stepB at h; simpa using h
  have hl : (steps l).length = l.length := tab_len _ _
  have key : ∀ j, j ≤ l.length → psum (steps l) j = prev l j := by
    intro j
    induction j with
    | zero => intro _; rfl
    | succ j ih =>
      intro hj
      have ih := ih (by omega)
      simp only [psum]
      rw [ih, show (steps l).getD j 0 = stepF l j from tab_get _ (by omega)]
      unfold stepF
      simp only [prev]
      omega
  have e : ramp (steps l) = l := by
    unfold ramp
    rw [hl]
    refine tab_ext fun j hj => ?_
    unfold rampF
    rw [key (j + 1) (by omega)]
    rfl
  refine ⟨?_, e⟩
  unfold rampB
  rw [e, h1.1, h1.2]; rfl

theorem iSteps_r {l : List Int} {b : Bool} (hb : rampB l = b) (A : Option Addr) (n c : Nat) (w : World) (h : IRow .i64 w A n c (pickL b (ramp l))) (hn : n ≤ 1048576) :
    Calls Try.prog 14 #[.slice A n c] w fun e w' => ∃ v, e = .returned (.tuple #[v, .bool true]) ∧ Own w' w.heap.size v (pickL b l) ∧ Below w.heap.size w w' := by
  have := iSteps_any A n c _ w h hn
  cases b with
  | false => exact this
  | true =>
    have r := steps_ramp hb
    refine this.mono fun e w' ⟨v, e1, e2, e3⟩ => ⟨v, ?_, ?_, e3⟩
    · rw [e1, show pickL true (ramp l) = ramp l from rfl, r.1]
    · rw [show pickL true (ramp l) = ramp l from rfl, r.1, r.2] at e2; exact e2

theorem iRamp_s {l : List Int} {b : Bool} (hb : stepB l = b) (A : Option Addr) (n c : Nat) (w : World) (h : IRow .i64 w A n c (pickL b (steps l))) (hn : n ≤ 1048576) :
    Calls Try.prog 12 #[.slice A n c] w fun e w' => ∃ v, e = .returned (.tuple #[v, .bool true]) ∧ Own w' w.heap.size v (pickL b l) ∧ Below w.heap.size w w' := by
  have := iRamp_any A n c _ w h hn
  cases b with
  | false => exact this
  | true =>
    have r := ramp_steps hb
    refine this.mono fun e w' ⟨v, e1, e2, e3⟩ => ⟨v, ?_, ?_, e3⟩
    · rw [e1, show pickL true (steps l) = steps l from rfl, r.1]
    · rw [show pickL true (steps l) = steps l from rfl, r.1, r.2] at e2; exact e2

theorem iSteps_3 (w : World) (t : TypeId) (cs : Array Value) (hcs : cs = (List.map (Value.int .i64) [3]).toArray) :
    Calls Try.prog 14 #[.slice (some ⟨w.heap.size, 0, none⟩) 1 1] (w.alloc (.cells cs t)) fun e w' => ∃ v, e = .returned (.tuple #[v, .bool true]) ∧ Below w.heap.size w w' :=
  (iSteps_any _ 1 1 [3] _ (IRow.new .i64 w t [3] 1 rfl (by unfold maxLen; omega) cs hcs) (by omega)).mono fun e w' ⟨v, e1, _, e3⟩ =>
    ⟨v, e1.trans (ret_vb (by decide)), (below_alloc0 _ _).trans (e3.mono (by simp))⟩

theorem sameInts_any (A A' : Option Addr) (n n' c c' : Nat) (l : List Int) (w : World) (h : IRow .i64 w A n c l) (h' : IRow .i64 w A' n' c' l) (hn : n ≤ 1048576) :
    Calls Try.prog 15 #[.slice A n c, .slice A' n' c'] w fun e w' => e = .returned (.bool true) ∧ Below w.heap.size w w' := by
  obtain rfl : n = n' := by rw [← h.1, ← h'.1]
  have hx := h.1
  subst hx
  have HR := Lib.hid h
  have HR' := Lib.hid h'
  have HN := Lib.hid hn
  clear h h' hn
  go_enter Try.func15, Try.ntmps15
  go_wp2
  go_loopw [5] (fun i wr => ∃ k, k ≤ l.length ∧ i = .int .i64 ((k : Nat) : Int) ∧ Hid (Below w.heap.size w wr)) (fun i _ => l.length - (intOf i).toNat)
  case atStart => exact ⟨0, Nat.zero_le _, rfl, Below.refl _ _⟩
  case round =>
    rename_i wr
    obtain ⟨k, hk, rfl, HK⟩ := hrel
    by_cases hlt : k < l.length
    · obtain ⟨b, off, rfl, hb, hc⟩ := HR.out.2.2.2 (by omega)
      obtain ⟨b', off', rfl, hb', hc'⟩ := HR'.out.2.2.2 (by omega)
      have hcell : wr.cell? ⟨b, off + k, none⟩ = some (.int .i64 (l.getD k 0)) := by rw [HK.out.cell (p := ⟨b, off + k, none⟩) hb]; exact hc k hlt
      have hcell' : wr.cell? ⟨b', off' + k, none⟩ = some (.int .i64 (l.getD k 0)) := by rw [HK.out.cell (p := ⟨b', off' + k, none⟩) hb']; exact hc' k hlt
      clear hc hc'
      have hk1 := spell k l.length hlt HN.out
      generalize l.getD k 0 = x at hcell hcell'
      go_wp2
      repeat (go_quiet (fail); try go_wp2)
      go_roundw
      case rel => exact ⟨k + 1, by omega, by rw [hk1], below_drewN HK.out _⟩
      case measure => rw [hk1]; simp only [intOf, Int.toNat_natCast]; omega
    · have hkn : k = l.length := by omega
      subst hkn
      go_wp2
      go_ret
      exact ⟨rfl, HK.out⟩
end Go.Proofs.Ytihhklfmabencaa
