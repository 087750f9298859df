/-
  The contract of the program's unpack.
-/
import Derived.Test.YtmjnnjjmfedlbaaDoorTz
import Derived.Test.YtmjnnjjmfedlbaaDoorUna
import Derived.BigQuiet
import Derived.Deep.QuietTactic
import Derived.RegionTactic
namespace Go.Proofs.YtmjnnjjmfedlbaaDoor
set_option linter.unusedSimpArgs false
set_option linter.unusedVariables false
open Go.RowKit Go.Dr

/-- The low t bits. -/
theorem and_mask {r t M : Nat} (hr : r < 2 ^ 64) (ht : t < 64) (hM : M = 2 ^ t - 1) : Go.bits .and .u64 (r : Int) (M : Int) = ((r % 2 ^ t : Nat) : Int) := by
  have hp : 2 ^ t < 2 ^ 64 := Nat.pow_lt_pow_right (by decide) ht
  have hp0 := Nat.two_pow_pos t
  show IntKind.u64.wrap (((BitVec.ofInt 64 (r : Int) &&& BitVec.ofInt 64 (M : Int)).toNat : Nat) : Int) = _
  have key : (BitVec.ofInt 64 (r : Int) &&& BitVec.ofInt 64 (M : Int)).toNat = r % 2 ^ t := by
    rw [BitVec.toNat_and, BitVec.ofInt_natCast, BitVec.ofInt_natCast, BitVec.toNat_ofNat, BitVec.toNat_ofNat, Nat.mod_eq_of_lt hr, Nat.mod_eq_of_lt (by omega), hM, Nat.and_two_pow_sub_one_eq_mod]
  rw [key]
  have := Nat.mod_lt r hp0
  exact IntWalk.u64_in _ ⟨by omega, by omega⟩
/-- A bit above set. -/
theorem or_top {f t : Nat} (hf : f < 2 ^ t) (ht : t < 63) : Go.bits .or .u64 (f : Int) ((2 ^ t : Nat) : Int) = ((2 ^ t + f : Nat) : Int) := by
  have hp : 2 ^ (t + 1) < 2 ^ 64 := Nat.pow_lt_pow_right (by decide) (by omega)
  rw [Nat.pow_succ] at hp
  show IntKind.u64.wrap (((BitVec.ofInt 64 (f : Int) ||| BitVec.ofInt 64 ((2 ^ t : Nat) : Int)).toNat : Nat) : Int) = _
  have key : (BitVec.ofInt 64 (f : Int) ||| BitVec.ofInt 64 ((2 ^ t : Nat) : Int)).toNat = 2 ^ t + f := by
    rw [BitVec.toNat_or, BitVec.ofInt_natCast, BitVec.ofInt_natCast, BitVec.toNat_ofNat, BitVec.toNat_ofNat, Nat.mod_eq_of_lt (by omega), Nat.mod_eq_of_lt (by omega)]
    rw [show 2 ^ t + f = 2 ^ t * 1 + f by omega, Nat.two_pow_add_eq_or_of_lt hf, Nat.mul_one, Nat.or_comm]
  rw [key]
  exact IntWalk.u64_in _ ⟨by omega, by omega⟩

theorem odd_part : ∀ f : Nat, f ≠ 0 → ∃ m j, f = m * 2 ^ j ∧ m % 2 = 1 := by
  intro f
  induction f using Nat.strongRecOn with
  | ind f ih =>
    intro h
    by_cases h2 : f % 2 = 1
    · exact ⟨f, 0, by rw [Nat.pow_zero, Nat.mul_one], h2⟩
    · obtain ⟨m, j, hm, ho⟩ := ih (f / 2) (by omega) (by omega)
      exact ⟨m, j + 1, by rw [Nat.pow_succ, ← Nat.mul_assoc, ← hm]; omega, ho⟩

/-- The memory of unpack: the shape, the result, the number. -/
def U3 (w : World) (sh a4 a5 : Array Value) (gs g4 g5 : Nat) (W : World) : Prop :=
  (Blk W gs 48 sh ∧ Blk W g4 28 a4 ∧ Blk W g5 28 a5) ∧ Below w.heap.size w W ∧ w.heap.size ≤ g4 ∧ w.heap.size ≤ g5 ∧ gs ≠ g4 ∧ gs ≠ g5 ∧ g4 ≠ g5
section
variable {w W W1 : World} {sh a4 a5 : Array Value} {gs g4 g5 : Nat}
theorem U3.call (h : U3 w sh a4 a5 gs g4 g5 W) (hb : Below W.heap.size W W1) : U3 w sh a4 a5 gs g4 g5 W1 :=
  ⟨⟨h.1.1.below hb h.1.1.lt, h.1.2.1.below hb h.1.2.1.lt, h.1.2.2.below hb h.1.2.2.lt⟩, Fl.chain h.2.1 hb, h.2.2⟩
theorem U3.drew (h : U3 w sh a4 a5 gs g4 g5 W) : U3 w sh a4 a5 gs g4 g5 W.drew := ⟨h.1, h.2.1.drew, h.2.2⟩
theorem U3.drewN (h : U3 w sh a4 a5 gs g4 g5 W) (n : Nat) : U3 w sh a4 a5 gs g4 g5 (W.drewN n) := ⟨h.1, below_drewN h.2.1 n, h.2.2⟩
theorem blk_off {W : World} {t : TypeId} {g g' : Nat} {cs : Array Value} (h : Blk W g t cs) (hn : g ≠ g') (i : Nat) (u : Value) : Blk (W.setCell ⟨g', i, none⟩ u) g t cs := by
  unfold Blk at h ⊢
  simp [World.setCell, Array.getElem?_modify, h, Ne.symm hn]
theorem U3.set5 (h : U3 w sh a4 a5 gs g4 g5 W) (i : Nat) (u : Value) : U3 w sh a4 (a5.setIfInBounds i u) gs g4 g5 (W.setCell ⟨g5, i, none⟩ u) :=
  ⟨⟨blk_off h.1.1 h.2.2.2.2.2.1 i u, blk_off h.1.2.1 h.2.2.2.2.2.2 i u, h.1.2.2.set_ i u⟩, h.2.1.setCell (p := ⟨g5, i, none⟩) h.2.2.2.1 u, h.2.2⟩
theorem U3.set4 (h : U3 w sh a4 a5 gs g4 g5 W) (i : Nat) (u : Value) : U3 w sh (a4.setIfInBounds i u) a5 gs g4 g5 (W.setCell ⟨g4, i, none⟩ u) :=
  ⟨⟨blk_off h.1.1 h.2.2.2.2.1 i u, h.1.2.1.set_ i u, blk_off h.1.2.2 (Ne.symm h.2.2.2.2.2.2) i u⟩, h.2.1.setCell (p := ⟨g4, i, none⟩) h.2.2.1 u, h.2.2⟩
end

set_option maxRecDepth 8000 in
set_option maxHeartbeats 6400000 in
theorem iUnp_1 {b : Nat} (hb : b < 65536) (w : World) (ht : Tk w) : Calls Tryd.prog 48 #[shV 16 11 15, .int .u64 (b : Int)] w fun e w' => ∃ v, e = .returned v ∧ UnpIs 1024 31744 25 (decide (32768 ≤ b)) (b % 32768) v ∧ Below w.heap.size w w' := by
  have xa : Go.bits .and .u64 (b : Int) 32768 = ((b / 32768 * 32768 : Nat) : Int) := and_pow (s := 15) (by decide) hb
  have xn : Go.bits .andNot .u64 (b : Int) 32768 = ((b % 32768 : Nat) : Int) := andNot_pow (s := 15) (by decide) hb
  have tb : (Go.bits .and .u64 (b : Int) 32768 != 0) = decide (32768 ≤ b) := by
    rw [xa]
    by_cases h : 32768 ≤ b
    · rw [decide_eq_true h, bne_iff_ne]; omega
    · rw [decide_eq_false h, bne_eq_false_iff_eq]; omega
  clear xa
  have hr : b % 32768 < 32768 := Nat.mod_lt _ (by decide)
  generalize decide (32768 ≤ b) = n at tb ⊢
  generalize b % 32768 = r at xn hr ⊢
  have HT := Lib.hid ht
  clear hb ht
  have hq1 : IntKind.i64.wrap 10 = 10 := by kernel_rfl
  have hq2 : IntKind.u64.wrap 1024 = 1024 := by kernel_rfl
  have hq3 : IntKind.u64.wrap 1023 = 1023 := by kernel_rfl
  have hmask : Go.bits .and .u64 (r : Int) 1023 = ((r % 1024 : Nat) : Int) := and_mask (t := 10) (by omega) (by decide) (by decide)
  obtain ⟨x, hx⟩ : ∃ x, x = r / 1024 := ⟨_, rfl⟩
  have hx1 : (r : Int) / 1024 = (x : Int) := by omega
  have hx2 : wrap64 (x : Int) = (x : Int) := IntWalk.wrap64_in _ ⟨by omega, by omega⟩
  have HXX := Lib.hid (And.intro hx hr)
  clear hx hr
  unfold shV
  go_enter Tryd.func48, Tryd.ntmps48
  go_upto_region 1 with fail
  obtain ⟨W0, hW0⟩ : ∃ W0, W0 = (w.alloc (.cells #[.int .i64 16, .int .i64 11, .int .i64 15] 48)).alloc (.cells #[.int .i64 0, .bool false, .int .i64 0, .int .u64 0] 28) := ⟨_, rfl⟩
  have HG := Lib.hid (show Blk W0 w.heap.size 48 #[.int .i64 16, .int .i64 11, .int .i64 15] by rw [hW0]; exact (Blk.new _ _ _).alloc _)
  have H4 := Lib.hid (show Blk W0 (w.heap.size + 1) 28 #[.int .i64 0, .bool false, .int .i64 0, .int .u64 0] by rw [hW0]; have h := Blk.new (w.alloc (.cells #[.int .i64 16, .int .i64 11, .int .i64 15] 48)) 28 #[.int .i64 0, .bool false, .int .i64 0, .int .u64 0]; rwa [World.size_alloc] at h)
  have HW := Lib.hid (show Below w.heap.size w W0 by rw [hW0]; exact ((Below.refl _ _).alloc (Nat.le_refl _) _).alloc (by simp) _)
  have c0 := HG.out.cell 0
  have c1 := HG.out.cell 1
  have c2 := HG.out.cell 2
  rw [← hW0]
  clear hW0
  have HSG := Lib.hid (fun (W : World) => iSign_1 W)
  have HIN := Lib.hid (fun (W : World) => iInf_1 W)
  simp only [shV] at HSG HIN
  go_upto_region 2 with (go_at_call 46; (with_reducible refine (HSG.out _).mono ?_); rintro e w1 ⟨rfl, hbn⟩; have HG1 := Lib.hid (HG.out.below hbn HG.out.lt); have H41 := Lib.hid (H4.out.below hbn H4.out.lt); have HW1 := Lib.hid (Fl.chain HW.out hbn); have HZ := Lib.hid (show w.heap.size + 1 < w1.heap.size from Nat.lt_of_lt_of_le H4.out.lt hbn.size); clear hbn)
  obtain ⟨W1, hW1⟩ : ∃ W1, W1 = w1.alloc (.cells #[.int .i64 0, .bool n, .int .i64 0, .int .u64 0] 28) := ⟨_, rfl⟩
  have HU := Lib.hid (show U3 w #[.int .i64 16, .int .i64 11, .int .i64 15] #[.int .i64 0, .bool false, .int .i64 0, .int .u64 0] #[.int .i64 0, .bool n, .int .i64 0, .int .u64 0] w.heap.size (w.heap.size + 1) w1.heap.size W1 from by
    have hz := HZ.out
    rw [hW1]
    exact ⟨⟨HG1.out.alloc _, H41.out.alloc _, Blk.new _ _ _⟩, HW1.out.alloc HW1.out.size _, by omega, by omega, by omega, by omega, by omega⟩)
  rw [← hW1]
  clear hW1 HG HG1 H4 H41 HW HW1 HZ c0 c1 c2
  generalize w1.heap.size = g5 at *
  generalize w.heap.size + 1 = g4 at *
  generalize hgs : w.heap.size = gs at *
  (have c0 := HU.out.1.1.cell 0); (have c1 := HU.out.1.1.cell 1); (have c2 := HU.out.1.1.cell 2); (have c3 := HU.out.1.2.1.cell 0); (have c4 := HU.out.1.2.1.cell 1); (have c5 := HU.out.1.2.1.cell 2); (have c6 := HU.out.1.2.1.cell 3); (have c7 := HU.out.1.2.2.cell 0); (have c8 := HU.out.1.2.2.cell 1); (have c9 := HU.out.1.2.2.cell 2); (have ca := HU.out.1.2.2.cell 3); (have f3 := HU.out.1.2.1.frozen 0); (have f4 := HU.out.1.2.1.frozen 1); (have f5 := HU.out.1.2.1.frozen 2); (have f6 := HU.out.1.2.1.frozen 3); (have f7 := HU.out.1.2.2.frozen 0); (have f8 := HU.out.1.2.2.frozen 1); (have f9 := HU.out.1.2.2.frozen 2); (have fa := HU.out.1.2.2.frozen 3)
  go_upto_region 3 with (go_at_call 46; (with_reducible refine (HSG.out _).mono ?_); rintro e w2 ⟨rfl, hbn⟩; replace HU := Lib.hid (HU.out.call hbn); clear hbn)
  clear c0 c1 c2 c3 c4 c5 c6 c7 c8 c9 ca f3 f4 f5 f6 f7 f8 f9 fa
  (have c0 := HU.out.1.1.cell 0); (have c1 := HU.out.1.1.cell 1); (have c2 := HU.out.1.1.cell 2); (have c3 := HU.out.1.2.1.cell 0); (have c4 := HU.out.1.2.1.cell 1); (have c5 := HU.out.1.2.1.cell 2); (have c6 := HU.out.1.2.1.cell 3); (have c7 := HU.out.1.2.2.cell 0); (have c8 := HU.out.1.2.2.cell 1); (have c9 := HU.out.1.2.2.cell 2); (have ca := HU.out.1.2.2.cell 3); (have f3 := HU.out.1.2.1.frozen 0); (have f4 := HU.out.1.2.1.frozen 1); (have f5 := HU.out.1.2.1.frozen 2); (have f6 := HU.out.1.2.1.frozen 3); (have f7 := HU.out.1.2.2.frozen 0); (have f8 := HU.out.1.2.2.frozen 1); (have f9 := HU.out.1.2.2.frozen 2); (have fa := HU.out.1.2.2.frozen 3)
  go_quiet (fail)
  obtain ⟨W3, hW3⟩ : ∃ W3, W3 = w2.drewN nq := ⟨_, rfl⟩
  replace HU := Lib.hid (HU.out.drewN nq)
  rw [← hW3] at HU ⊢
  clear hW3
  clear c0 c1 c2 c3 c4 c5 c6 c7 c8 c9 ca f3 f4 f5 f6 f7 f8 f9 fa
  (have c0 := HU.out.1.1.cell 0); (have c1 := HU.out.1.1.cell 1); (have c2 := HU.out.1.1.cell 2); (have c3 := HU.out.1.2.1.cell 0); (have c4 := HU.out.1.2.1.cell 1); (have c5 := HU.out.1.2.1.cell 2); (have c6 := HU.out.1.2.1.cell 3); (have c7 := HU.out.1.2.2.cell 0); (have c8 := HU.out.1.2.2.cell 1); (have c9 := HU.out.1.2.2.cell 2); (have ca := HU.out.1.2.2.cell 3); (have f3 := HU.out.1.2.1.frozen 0); (have f4 := HU.out.1.2.1.frozen 1); (have f5 := HU.out.1.2.1.frozen 2); (have f6 := HU.out.1.2.1.frozen 3); (have f7 := HU.out.1.2.2.frozen 0); (have f8 := HU.out.1.2.2.frozen 1); (have f9 := HU.out.1.2.2.frozen 2); (have fa := HU.out.1.2.2.frozen 3)
  have n45 : g4 ≠ g5 := HU.out.2.2.2.2.2.2
  have n54 : g5 ≠ g4 := Ne.symm n45
  have ns5 : gs ≠ g5 := HU.out.2.2.2.2.2.1
  have ns4 : gs ≠ g4 := HU.out.2.2.2.2.1
  by_cases h1 : 31744 < r
  · have t1 : decide ((31744 : Int) < (r : Int)) = true := decide_eq_true (by omega)
    have HN := Lib.hid h1
    clear h1
    go_wp2_with (go_at_call 45; (with_reducible refine (HIN.out _).mono ?_); rintro e w3 ⟨rfl, hbn⟩; replace HU := Lib.hid (HU.out.call hbn); clear hbn c0 c1 c2 c3 c4 c5 c6 c7 c8 c9 ca f3 f4 f5 f6 f7 f8 f9 fa; (have c0 := HU.out.1.1.cell 0); (have c1 := HU.out.1.1.cell 1); (have c2 := HU.out.1.1.cell 2); (have c3 := HU.out.1.2.1.cell 0); (have c4 := HU.out.1.2.1.cell 1); (have c5 := HU.out.1.2.1.cell 2); (have c6 := HU.out.1.2.1.cell 3); (have c7 := HU.out.1.2.2.cell 0); (have c8 := HU.out.1.2.2.cell 1); (have c9 := HU.out.1.2.2.cell 2); (have ca := HU.out.1.2.2.cell 3); (have f3 := HU.out.1.2.1.frozen 0); (have f4 := HU.out.1.2.1.frozen 1); (have f5 := HU.out.1.2.1.frozen 2); (have f6 := HU.out.1.2.1.frozen 3); (have f7 := HU.out.1.2.2.frozen 0); (have f8 := HU.out.1.2.2.frozen 1); (have f9 := HU.out.1.2.2.frozen 2); (have fa := HU.out.1.2.2.frozen 3))
    refine bodyPost_ret (v := num 3 false 0 0) ?_ rfl ⟨_, rfl, .inr (.inl ⟨HN.out, rfl⟩), ?_⟩
    · have HF := (((HU.out.set4 0 (.int .i64 3)).set4 1 (.bool false)).set4 2 (.int .i64 0)).set4 3 (.int .u64 0)
      have k0 := HF.1.2.1.cell 0
      have k1 := HF.1.2.1.cell 1
      have k2 := HF.1.2.1.cell 2
      have k3 := HF.1.2.1.cell 3
      clear HF c0 c1 c2 c3 c4 c5 c6 c7 c8 c9 ca f3 f4 f5 f6 f7 f8 f9 fa
      simp [results, Tryd.results48, go_sem, k0, k1, k2, k3]
    · exact ((((HU.out.set4 0 (.int .i64 3)).set4 1 (.bool false)).set4 2 (.int .i64 0)).set4 3 (.int .u64 0)).2.1
  have t1 : decide ((31744 : Int) < (r : Int)) = false := decide_eq_false (by omega)
  by_cases h2 : r = 31744
  · have tI : ((r : Int) == 31744) = true := by rw [beq_iff_eq]; omega
    have HN := Lib.hid h2
    clear h1 h2
    go_wp2_with (go_at_call 45; (with_reducible refine (HIN.out _).mono ?_); rintro e w3 ⟨rfl, hbn⟩; replace HU := Lib.hid (HU.out.call hbn); clear hbn c0 c1 c2 c3 c4 c5 c6 c7 c8 c9 ca f3 f4 f5 f6 f7 f8 f9 fa; (have c0 := HU.out.1.1.cell 0); (have c1 := HU.out.1.1.cell 1); (have c2 := HU.out.1.1.cell 2); (have c3 := HU.out.1.2.1.cell 0); (have c4 := HU.out.1.2.1.cell 1); (have c5 := HU.out.1.2.1.cell 2); (have c6 := HU.out.1.2.1.cell 3); (have c7 := HU.out.1.2.2.cell 0); (have c8 := HU.out.1.2.2.cell 1); (have c9 := HU.out.1.2.2.cell 2); (have ca := HU.out.1.2.2.cell 3); (have f3 := HU.out.1.2.1.frozen 0); (have f4 := HU.out.1.2.1.frozen 1); (have f5 := HU.out.1.2.1.frozen 2); (have f6 := HU.out.1.2.1.frozen 3); (have f7 := HU.out.1.2.2.frozen 0); (have f8 := HU.out.1.2.2.frozen 1); (have f9 := HU.out.1.2.2.frozen 2); (have fa := HU.out.1.2.2.frozen 3))
    refine bodyPost_ret (v := num 2 n 0 0) ?_ rfl ⟨_, rfl, .inl ⟨HN.out, rfl⟩, ?_⟩
    · have HF := ((((HU.out.set5 0 (.int .i64 2)).set4 0 (.int .i64 2)).set4 1 (.bool n)).set4 2 (.int .i64 0)).set4 3 (.int .u64 0)
      have k0 := HF.1.2.1.cell 0
      have k1 := HF.1.2.1.cell 1
      have k2 := HF.1.2.1.cell 2
      have k3 := HF.1.2.1.cell 3
      clear HF c0 c1 c2 c3 c4 c5 c6 c7 c8 c9 ca f3 f4 f5 f6 f7 f8 f9 fa
      simp [results, Tryd.results48, go_sem, k0, k1, k2, k3]
    · exact (((((HU.out.set5 0 (.int .i64 2)).set4 0 (.int .i64 2)).set4 1 (.bool n)).set4 2 (.int .i64 0)).set4 3 (.int .u64 0)).2.1
  have tI : ((r : Int) == 31744) = false := by rw [beq_eq_false_iff_ne]; omega
  by_cases h3 : r = 0
  · have t0 : ((r : Int) == 0) = true := by rw [beq_iff_eq]; omega
    have HN := Lib.hid h3
    clear h1 h2 h3
    go_wp2_with (go_at_call 45; (with_reducible refine (HIN.out _).mono ?_); rintro e w3 ⟨rfl, hbn⟩; replace HU := Lib.hid (HU.out.call hbn); clear hbn c0 c1 c2 c3 c4 c5 c6 c7 c8 c9 ca f3 f4 f5 f6 f7 f8 f9 fa; (have c0 := HU.out.1.1.cell 0); (have c1 := HU.out.1.1.cell 1); (have c2 := HU.out.1.1.cell 2); (have c3 := HU.out.1.2.1.cell 0); (have c4 := HU.out.1.2.1.cell 1); (have c5 := HU.out.1.2.1.cell 2); (have c6 := HU.out.1.2.1.cell 3); (have c7 := HU.out.1.2.2.cell 0); (have c8 := HU.out.1.2.2.cell 1); (have c9 := HU.out.1.2.2.cell 2); (have ca := HU.out.1.2.2.cell 3); (have f3 := HU.out.1.2.1.frozen 0); (have f4 := HU.out.1.2.1.frozen 1); (have f5 := HU.out.1.2.1.frozen 2); (have f6 := HU.out.1.2.1.frozen 3); (have f7 := HU.out.1.2.2.frozen 0); (have f8 := HU.out.1.2.2.frozen 1); (have f9 := HU.out.1.2.2.frozen 2); (have fa := HU.out.1.2.2.frozen 3))
    refine bodyPost_ret (v := num 0 n 0 0) ?_ rfl ⟨_, rfl, .inr (.inr (.inl ⟨HN.out, rfl⟩)), ?_⟩
    · have HF := (((HU.out.set4 0 (.int .i64 0)).set4 1 (.bool n)).set4 2 (.int .i64 0)).set4 3 (.int .u64 0)
      have k0 := HF.1.2.1.cell 0
      have k1 := HF.1.2.1.cell 1
      have k2 := HF.1.2.1.cell 2
      have k3 := HF.1.2.1.cell 3
      clear HF c0 c1 c2 c3 c4 c5 c6 c7 c8 c9 ca f3 f4 f5 f6 f7 f8 f9 fa
      simp [results, Tryd.results48, go_sem, k0, k1, k2, k3]
    · exact ((((HU.out.set4 0 (.int .i64 0)).set4 1 (.bool n)).set4 2 (.int .i64 0)).set4 3 (.int .u64 0)).2.1
  have t0 : ((r : Int) == 0) = false := by rw [beq_eq_false_iff_ne]; omega
  have hr7 : (r : Int) % 1024 = ((r % 1024 : Nat) : Int) := by omega
  have hfin : ∀ (m0 : Nat) (e0 : Int), m0 = manOf 1024 r → e0 = expOf 1024 25 r → m0 ≠ 0 ∧ m0 < 18446744073709551616 ∧ -3000 ≤ e0 ∧ e0 ≤ 3000 := by
    intro m0 e0 a1 a2
    have hr := HXX.out.2
    unfold manOf at a1
    unfold expOf at a2
    by_cases hc : r < 1024
    · rw [if_pos hc] at a1 a2; omega
    · rw [if_neg hc] at a1 a2; omega
  have hrest : ∀ (x : Int) (m : Nat), Fin (manOf 1024 r) (expOf 1024 25 r) x m → UnpIs 1024 31744 25 n r (num 1 n x m) := fun x m h => .inr (.inr (.inr ⟨by omega, by omega, x, m, rfl, h⟩))
  have HRS := Lib.hid hrest
  clear hrest
  obtain ⟨m0, hm0⟩ : ∃ m0, m0 = manOf 1024 r := ⟨_, rfl⟩
  obtain ⟨e0, he0⟩ : ∃ e0, e0 = expOf 1024 25 r := ⟨_, rfl⟩
  obtain ⟨hf0, hf1, hf2, hf3⟩ := hfin m0 e0 hm0 he0
  obtain ⟨m, j, hmj, hmo⟩ := odd_part m0 hf0
  have hj : j < 64 := by
    rcases Nat.lt_or_ge j 64 with h | h
    · exact h
    · have h1 : 2 ^ 64 ≤ 2 ^ j := Nat.pow_le_pow_right (by decide) h
      have h2 : 2 ^ j ≤ m0 := by rw [hmj]; exact Nat.le_mul_of_pos_left _ (by omega)
      omega
  have HTZ := Lib.hid (fun (W : World) (ht : Tk W) => tz_any hmj hmo hf1 W ht)
  have HFI := Lib.hid (show Fin (manOf 1024 r) (expOf 1024 25 r) (e0 + j) m from ⟨hmo, j, by rw [← hm0]; exact hmj, by rw [← he0]⟩)
  have hdv : (m0 : Int) / 2 ^ j = (m : Int) := by
    rw [hmj, Int.natCast_mul, Int.natCast_pow]
    exact Int.mul_ediv_cancel _ (Int.ne_of_gt (Int.pow_pos (by decide)))
  have hj0 : (0 : Int) ≤ (j : Int) := by omega
  have hj1 : (j : Int) ≤ 64 := by omega
  have hj2 : j ≤ 64 := by omega
  have he4 : wrap64 (e0 + (j : Int)) = e0 + (j : Int) := IntWalk.wrap64_in _ ⟨by omega, by omega⟩
  by_cases h4 : r < 1024
  · have hx0 : x = 0 := by have := HXX.out.1; omega
    have tx : ((x : Int) == 0) = true := by rw [beq_iff_eq]; omega
    have em : m0 = r := by rw [hm0]; unfold manOf; rw [if_pos h4]
    have ee : e0 = 1 - 25 := by rw [he0]; unfold expOf; rw [if_pos h4]
    have hrm : r % 1024 = r := Nat.mod_eq_of_lt h4
    rw [hrm] at hr7
    rw [em] at HTZ hdv
    have q1 : IntKind.i64.wrap (1 - 15) = 1 - 15 := by kernel_rfl
    have q2 : IntKind.i64.wrap (1 - 15 - 11) = 1 - 15 - 11 := by kernel_rfl
    have q3 : IntKind.i64.wrap (1 - 15 - 11 + 1) = 1 - 15 - 11 + 1 := by kernel_rfl
    have HE := Lib.hid ee
    have HRF := Lib.hid (show UnpIs 1024 31744 25 n r (num 1 n ((-24) + (j : Int)) m) from HRS.out _ _ (by have h := HFI.out; rw [ee] at h; exact h))
    have he5 : wrap64 ((1 - 25 : Int) + (j : Int)) = 1 - 25 + (j : Int) := by rw [← ee]; exact he4
    clear h1 h2 h3 h4 hx0 em ee hrm hmj hmo hm0 he0 hf0 hf1 hf2 hf3 hfin hj he4 HRS HFI
    go_upto_region 15 with (go_at_call 45; (with_reducible refine (HIN.out _).mono ?_); rintro e w3 ⟨rfl, hbn⟩; replace HU := Lib.hid (HU.out.call hbn); clear hbn c0 c1 c2 c3 c4 c5 c6 c7 c8 c9 ca f3 f4 f5 f6 f7 f8 f9 fa; (have c0 := HU.out.1.1.cell 0); (have c1 := HU.out.1.1.cell 1); (have c2 := HU.out.1.1.cell 2); (have c3 := HU.out.1.2.1.cell 0); (have c4 := HU.out.1.2.1.cell 1); (have c5 := HU.out.1.2.1.cell 2); (have c6 := HU.out.1.2.1.cell 3); (have c7 := HU.out.1.2.2.cell 0); (have c8 := HU.out.1.2.2.cell 1); (have c9 := HU.out.1.2.2.cell 2); (have ca := HU.out.1.2.2.cell 3); (have f3 := HU.out.1.2.1.frozen 0); (have f4 := HU.out.1.2.1.frozen 1); (have f5 := HU.out.1.2.1.frozen 2); (have f6 := HU.out.1.2.1.frozen 3); (have f7 := HU.out.1.2.2.frozen 0); (have f8 := HU.out.1.2.2.frozen 1); (have f9 := HU.out.1.2.2.frozen 2); (have fa := HU.out.1.2.2.frozen 3))
    obtain ⟨W5, hW5⟩ : ∃ W5, W5 = w3.setCell ⟨g5, 0, none⟩ (.int .i64 1) := ⟨_, rfl⟩
    have HU5 := Lib.hid (show U3 w #[.int .i64 16, .int .i64 11, .int .i64 15] #[.int .i64 0, .bool false, .int .i64 0, .int .u64 0] #[.int .i64 1, .bool n, .int .i64 0, .int .u64 0] gs g4 g5 W5 by rw [hW5]; exact HU.out.set5 0 (.int .i64 1))
    rw [← hW5]
    clear hW5 HU c0 c1 c2 c3 c4 c5 c6 c7 c8 c9 ca f3 f4 f5 f6 f7 f8 f9 fa
    have HU := HU5
    (have c0 := HU.out.1.1.cell 0); (have c1 := HU.out.1.1.cell 1); (have c2 := HU.out.1.1.cell 2); (have c3 := HU.out.1.2.1.cell 0); (have c4 := HU.out.1.2.1.cell 1); (have c5 := HU.out.1.2.1.cell 2); (have c6 := HU.out.1.2.1.cell 3); (have c7 := HU.out.1.2.2.cell 0); (have c8 := HU.out.1.2.2.cell 1); (have c9 := HU.out.1.2.2.cell 2); (have ca := HU.out.1.2.2.cell 3); (have f3 := HU.out.1.2.1.frozen 0); (have f4 := HU.out.1.2.1.frozen 1); (have f5 := HU.out.1.2.1.frozen 2); (have f6 := HU.out.1.2.1.frozen 3); (have f7 := HU.out.1.2.2.frozen 0); (have f8 := HU.out.1.2.2.frozen 1); (have f9 := HU.out.1.2.2.frozen 2); (have fa := HU.out.1.2.2.frozen 3)
    have HTZ1 := Lib.hid (HTZ.out _ (HT.out.below HU.out.2.1))
    go_upto_region 16 with (go_at_call 65; (with_reducible refine HTZ1.out.mono ?_); rintro e w4 ⟨rfl, hw⟩; rw [hw]; clear hw)
    go_wp2_with fail
    go_region
    obtain ⟨W6, hW6⟩ : ∃ W6, W6 = ((W5.setCell ⟨g5, 3, none⟩ (.int .u64 (m : Int))).setCell ⟨g5, 2, none⟩ (.int .i64 ((-24) + (j : Int)))).drew := ⟨_, rfl⟩
    have HU6 := Lib.hid (show U3 w #[.int .i64 16, .int .i64 11, .int .i64 15] #[.int .i64 0, .bool false, .int .i64 0, .int .u64 0] #[.int .i64 1, .bool n, .int .i64 ((-24) + (j : Int)), .int .u64 (m : Int)] gs g4 g5 W6 by rw [hW6]; exact ((HU.out.set5 3 (.int .u64 (m : Int))).set5 2 (.int .i64 ((-24) + (j : Int)))).drew)
    rw [← hW6]
    clear hW6 HU5 c0 c1 c2 c3 c4 c5 c6 c7 c8 c9 ca f3 f4 f5 f6 f7 f8 f9 fa
    replace HU := HU6
    (have c0 := HU.out.1.1.cell 0); (have c1 := HU.out.1.1.cell 1); (have c2 := HU.out.1.1.cell 2); (have c3 := HU.out.1.2.1.cell 0); (have c4 := HU.out.1.2.1.cell 1); (have c5 := HU.out.1.2.1.cell 2); (have c6 := HU.out.1.2.1.cell 3); (have c7 := HU.out.1.2.2.cell 0); (have c8 := HU.out.1.2.2.cell 1); (have c9 := HU.out.1.2.2.cell 2); (have ca := HU.out.1.2.2.cell 3); (have f3 := HU.out.1.2.1.frozen 0); (have f4 := HU.out.1.2.1.frozen 1); (have f5 := HU.out.1.2.1.frozen 2); (have f6 := HU.out.1.2.1.frozen 3); (have f7 := HU.out.1.2.2.frozen 0); (have f8 := HU.out.1.2.2.frozen 1); (have f9 := HU.out.1.2.2.frozen 2); (have fa := HU.out.1.2.2.frozen 3)
    go_wp2
    refine bodyPost_ret (v := num 1 n ((-24) + (j : Int)) m) ?_ rfl ⟨_, rfl, HRF.out, ?_⟩
    · have HF := (((HU.out.set4 0 (.int .i64 1)).set4 1 (.bool n)).set4 2 (.int .i64 ((-24) + (j : Int)))).set4 3 (.int .u64 (m : Int))
      have k0 := HF.1.2.1.cell 0
      have k1 := HF.1.2.1.cell 1
      have k2 := HF.1.2.1.cell 2
      have k3 := HF.1.2.1.cell 3
      clear HF c0 c1 c2 c3 c4 c5 c6 c7 c8 c9 ca f3 f4 f5 f6 f7 f8 f9 fa
      simp [results, Tryd.results48, go_sem, k0, k1, k2, k3]
    · exact ((((HU.out.set4 0 (.int .i64 1)).set4 1 (.bool n)).set4 2 (.int .i64 ((-24) + (j : Int)))).set4 3 (.int .u64 (m : Int))).2.1
  · have hxp : 0 < x := by have := HXX.out.1; omega
    have tx : ((x : Int) == 0) = false := by rw [beq_eq_false_iff_ne]; omega
    obtain ⟨f, hf⟩ : ∃ f, f = r % 1024 := ⟨_, rfl⟩
    have em : m0 = 1024 + f := by rw [hm0]; unfold manOf; rw [if_neg h4, hf]
    have ee : e0 = (x : Int) - 25 := by rw [he0]; unfold expOf; rw [if_neg h4, HXX.out.1]
    rw [← hf] at hr7
    have hfl : f < 1024 := by rw [hf]; exact Nat.mod_lt _ (by decide)
    have hor : Go.bits .or .u64 (f : Int) 1024 = (m0 : Int) := by rw [em]; exact or_top (t := 10) hfl (by decide)
    have hxu : (x : Int) ≤ 3000 := by omega
    have q1 : wrap64 ((x : Int) - 15) = (x : Int) - 15 := IntWalk.wrap64_in _ ⟨by omega, by omega⟩
    have q2 : wrap64 ((x : Int) - 15 - 11) = (x : Int) - 15 - 11 := IntWalk.wrap64_in _ ⟨by omega, by omega⟩
    have q3 : wrap64 ((x : Int) - 15 - 11 + 1) = (x : Int) - 15 - 11 + 1 := IntWalk.wrap64_in _ ⟨by omega, by omega⟩
    have q4 : wrap64 ((x : Int) - 15 - 11 + 1 + (j : Int)) = (x : Int) - 15 - 11 + 1 + (j : Int) := IntWalk.wrap64_in _ ⟨by omega, by omega⟩
    have HRF := Lib.hid (show UnpIs 1024 31744 25 n r (num 1 n ((x : Int) - 15 - 11 + 1 + (j : Int)) m) from HRS.out _ _ (by have h := HFI.out; rw [show (x : Int) - 15 - 11 + 1 + (j : Int) = e0 + j by omega]; exact h))
    clear h1 h2 h3 h4 hxp em ee hf hfl hxu hmj hmo hm0 he0 hf0 hf1 hf2 hf3 hfin hj he4 HRS HFI
    go_upto_region 15 with (go_at_call 45; (with_reducible refine (HIN.out _).mono ?_); rintro e w3 ⟨rfl, hbn⟩; replace HU := Lib.hid (HU.out.call hbn); clear hbn c0 c1 c2 c3 c4 c5 c6 c7 c8 c9 ca f3 f4 f5 f6 f7 f8 f9 fa; (have c0 := HU.out.1.1.cell 0); (have c1 := HU.out.1.1.cell 1); (have c2 := HU.out.1.1.cell 2); (have c3 := HU.out.1.2.1.cell 0); (have c4 := HU.out.1.2.1.cell 1); (have c5 := HU.out.1.2.1.cell 2); (have c6 := HU.out.1.2.1.cell 3); (have c7 := HU.out.1.2.2.cell 0); (have c8 := HU.out.1.2.2.cell 1); (have c9 := HU.out.1.2.2.cell 2); (have ca := HU.out.1.2.2.cell 3); (have f3 := HU.out.1.2.1.frozen 0); (have f4 := HU.out.1.2.1.frozen 1); (have f5 := HU.out.1.2.1.frozen 2); (have f6 := HU.out.1.2.1.frozen 3); (have f7 := HU.out.1.2.2.frozen 0); (have f8 := HU.out.1.2.2.frozen 1); (have f9 := HU.out.1.2.2.frozen 2); (have fa := HU.out.1.2.2.frozen 3))
    obtain ⟨W5, hW5⟩ : ∃ W5, W5 = w3.setCell ⟨g5, 0, none⟩ (.int .i64 1) := ⟨_, rfl⟩
    have HU5 := Lib.hid (show U3 w #[.int .i64 16, .int .i64 11, .int .i64 15] #[.int .i64 0, .bool false, .int .i64 0, .int .u64 0] #[.int .i64 1, .bool n, .int .i64 0, .int .u64 0] gs g4 g5 W5 by rw [hW5]; exact HU.out.set5 0 (.int .i64 1))
    rw [← hW5]
    clear hW5 HU c0 c1 c2 c3 c4 c5 c6 c7 c8 c9 ca f3 f4 f5 f6 f7 f8 f9 fa
    have HU := HU5
    (have c0 := HU.out.1.1.cell 0); (have c1 := HU.out.1.1.cell 1); (have c2 := HU.out.1.1.cell 2); (have c3 := HU.out.1.2.1.cell 0); (have c4 := HU.out.1.2.1.cell 1); (have c5 := HU.out.1.2.1.cell 2); (have c6 := HU.out.1.2.1.cell 3); (have c7 := HU.out.1.2.2.cell 0); (have c8 := HU.out.1.2.2.cell 1); (have c9 := HU.out.1.2.2.cell 2); (have ca := HU.out.1.2.2.cell 3); (have f3 := HU.out.1.2.1.frozen 0); (have f4 := HU.out.1.2.1.frozen 1); (have f5 := HU.out.1.2.1.frozen 2); (have f6 := HU.out.1.2.1.frozen 3); (have f7 := HU.out.1.2.2.frozen 0); (have f8 := HU.out.1.2.2.frozen 1); (have f9 := HU.out.1.2.2.frozen 2); (have fa := HU.out.1.2.2.frozen 3)
    have HTZ1 := Lib.hid (HTZ.out _ (HT.out.below HU.out.2.1))
    go_upto_region 16 with (go_at_call 65; (with_reducible refine HTZ1.out.mono ?_); rintro e w4 ⟨rfl, hw⟩; rw [hw]; clear hw)
    go_wp2_with fail
    go_region
    obtain ⟨W6, hW6⟩ : ∃ W6, W6 = ((W5.setCell ⟨g5, 3, none⟩ (.int .u64 (m : Int))).setCell ⟨g5, 2, none⟩ (.int .i64 ((x : Int) - 15 - 11 + 1 + (j : Int)))).drew := ⟨_, rfl⟩
    have HU6 := Lib.hid (show U3 w #[.int .i64 16, .int .i64 11, .int .i64 15] #[.int .i64 0, .bool false, .int .i64 0, .int .u64 0] #[.int .i64 1, .bool n, .int .i64 ((x : Int) - 15 - 11 + 1 + (j : Int)), .int .u64 (m : Int)] gs g4 g5 W6 by rw [hW6]; exact ((HU.out.set5 3 (.int .u64 (m : Int))).set5 2 (.int .i64 ((x : Int) - 15 - 11 + 1 + (j : Int)))).drew)
    rw [← hW6]
    clear hW6 HU5 c0 c1 c2 c3 c4 c5 c6 c7 c8 c9 ca f3 f4 f5 f6 f7 f8 f9 fa
    replace HU := HU6
    (have c0 := HU.out.1.1.cell 0); (have c1 := HU.out.1.1.cell 1); (have c2 := HU.out.1.1.cell 2); (have c3 := HU.out.1.2.1.cell 0); (have c4 := HU.out.1.2.1.cell 1); (have c5 := HU.out.1.2.1.cell 2); (have c6 := HU.out.1.2.1.cell 3); (have c7 := HU.out.1.2.2.cell 0); (have c8 := HU.out.1.2.2.cell 1); (have c9 := HU.out.1.2.2.cell 2); (have ca := HU.out.1.2.2.cell 3); (have f3 := HU.out.1.2.1.frozen 0); (have f4 := HU.out.1.2.1.frozen 1); (have f5 := HU.out.1.2.1.frozen 2); (have f6 := HU.out.1.2.1.frozen 3); (have f7 := HU.out.1.2.2.frozen 0); (have f8 := HU.out.1.2.2.frozen 1); (have f9 := HU.out.1.2.2.frozen 2); (have fa := HU.out.1.2.2.frozen 3)
    go_wp2
    refine bodyPost_ret (v := num 1 n ((x : Int) - 15 - 11 + 1 + (j : Int)) m) ?_ rfl ⟨_, rfl, HRF.out, ?_⟩
    · have HF := (((HU.out.set4 0 (.int .i64 1)).set4 1 (.bool n)).set4 2 (.int .i64 ((x : Int) - 15 - 11 + 1 + (j : Int)))).set4 3 (.int .u64 (m : Int))
      have k0 := HF.1.2.1.cell 0
      have k1 := HF.1.2.1.cell 1
      have k2 := HF.1.2.1.cell 2
      have k3 := HF.1.2.1.cell 3
      clear HF c0 c1 c2 c3 c4 c5 c6 c7 c8 c9 ca f3 f4 f5 f6 f7 f8 f9 fa
      simp [results, Tryd.results48, go_sem, k0, k1, k2, k3]
    · exact ((((HU.out.set4 0 (.int .i64 1)).set4 1 (.bool n)).set4 2 (.int .i64 ((x : Int) - 15 - 11 + 1 + (j : Int)))).set4 3 (.int .u64 (m : Int))).2.1
end Go.Proofs.YtmjnnjjmfedlbaaDoor
