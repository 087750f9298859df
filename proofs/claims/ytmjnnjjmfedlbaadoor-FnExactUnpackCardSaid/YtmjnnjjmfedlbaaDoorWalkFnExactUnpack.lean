/-
  The walk of FnExactUnpack.
-/
import Derived.Test.YtmjnnjjmfedlbaaDoorUn2
namespace Go.Proofs.YtmjnnjjmfedlbaaDoor
set_option linter.unusedSimpArgs false
set_option linter.unusedVariables false
open Go.RowKit Go.Dr

theorem eqNum_same (k : Int) (n : Bool) (x m : Int) (w : World) : Calls Tryd.prog 18 #[num k n x m, num k n x m] w fun e w' => e = .returned (.bool true) ∧ Below w.heap.size w w' := by
  have HB := Lib.hid (((Below.refl w.heap.size w).alloc (Nat.le_refl _) (.cells #[.int .i64 k, .bool n, .int .i64 x, .int .u64 m] 28)).alloc (by simp) (.cells #[.int .i64 k, .bool n, .int .i64 x, .int .u64 m] 28))
  go_enter Tryd.func18, Tryd.ntmps18
  go_wp2
  go_ret
  exact ⟨rfl, HB.out⟩

set_option maxRecDepth 8000 in
set_option maxHeartbeats 3200000 in
theorem law_core (f : Int) (b : Nat) (w : World) (hl : Lk w) (ht : Tk w) (Q : Value → Prop) (hq : ∀ v u, Q v → Q u → v = u) (hn : ∀ v, Q v → ∃ k n x m, v = num k n x m)
    (hs : ∀ W, Calls Tryd.prog 16 #[.int .i64 f, .int .u64 (b : Int)] W fun e w' => ∃ v, e = .returned v ∧ Q v ∧ Below W.heap.size W w')
    (hi : ∀ W, Lk W → Tk W → Calls Tryd.prog 17 #[.int .i64 f, .int .u64 (b : Int)] W fun e w' => ∃ v, e = .returned v ∧ Q v ∧ Below W.heap.size W w') :
    Calls Tryd.prog 5 #[.int .i64 f, .int .u64 (b : Int)] w fun e w' => e = .returned (.bool true) ∧ Below w.heap.size w w' := by
  have HS := Lib.hid hs
  have HI := Lib.hid hi
  have HL := Lib.hid hl
  have HT := Lib.hid ht
  have HQ := Lib.hid hq
  have HN := Lib.hid hn
  clear hs hi hl ht hq hn
  go_enter Tryd.func5, Tryd.ntmps5
  go_upto_region 2 with (go_at_call 16; (with_reducible refine (HS.out _).mono ?_); rintro e w1 ⟨v, rfl, hv, hbn⟩; have HV := Lib.hid hv; obtain ⟨k, n, x, m, rfl⟩ := HN.out _ hv; have HB := Lib.hid hbn; clear hbn hv)
  obtain ⟨W1, hW1⟩ : ∃ W1, W1 = w1.alloc (.cells #[.int .i64 k, .bool n, .int .i64 x, .int .u64 m] 28) := ⟨_, rfl⟩
  have HG := Lib.hid (show Blk W1 w1.heap.size 28 #[.int .i64 k, .bool n, .int .i64 x, .int .u64 m] by rw [hW1]; exact Blk.new _ _ _)
  have HB1 := Lib.hid (show Below w.heap.size w W1 by rw [hW1]; exact HB.out.alloc HB.out.size _)
  rw [← hW1]
  clear hW1
  go_upto_region 3 with (go_at_call 17; (with_reducible refine (HI.out _ (HL.out.below HB1.out) (HT.out.below HB1.out)).mono ?_); rintro e w2 ⟨u, rfl, hu, hbn⟩; obtain rfl := HQ.out _ _ HV.out hu; have HB2 := Lib.hid hbn; clear hbn hu)
  obtain ⟨W2, hW2⟩ : ∃ W2, W2 = w2.alloc (.cells #[.int .i64 k, .bool n, .int .i64 x, .int .u64 m] 28) := ⟨_, rfl⟩
  have HG1 := Lib.hid (show Blk W2 w1.heap.size 28 #[.int .i64 k, .bool n, .int .i64 x, .int .u64 m] by rw [hW2]; exact (HG.out.below HB2.out HG.out.lt).alloc _)
  have HG2 := Lib.hid (show Blk W2 w2.heap.size 28 #[.int .i64 k, .bool n, .int .i64 x, .int .u64 m] by rw [hW2]; exact Blk.new _ _ _)
  have HB3 := Lib.hid (show Below w.heap.size w W2 by rw [hW2]; have h := Fl.chain HB1.out HB2.out; exact h.alloc h.size _)
  rw [← hW2]
  clear hW2
  have c0 := HG1.out.cell 0
  have c1 := HG1.out.cell 1
  have c2 := HG1.out.cell 2
  have c3 := HG1.out.cell 3
  have e0 := HG2.out.cell 0
  have e1 := HG2.out.cell 1
  have e2 := HG2.out.cell 2
  have e3 := HG2.out.cell 3
  go_wp2_with (go_at_call 18; (with_reducible refine (eqNum_same _ _ _ _ _).mono ?_); rintro e w3 ⟨rfl, hbn⟩; have HB4 := Lib.hid (Fl.chain HB3.out hbn); clear hbn)
  go_ret
  exact ⟨rfl, HB4.out⟩

theorem walk_FnExactUnpack (f b : Int) (w : World) (w0 : (Lit.int .i64 f).wf = true) (w1 : (Lit.int .u64 b).wf = true) (hlt : Lk w ∧ Tk w) :
    Calls Tryd.prog 5 #[.int .i64 f, .int .u64 b] w fun e w' => e = .returned (.bool true) ∧ Below w.heap.size w w' := by
  obtain ⟨hl, ht⟩ := hlt
  obtain ⟨b, rfl, hb⟩ := u64_nat w1
  cases h : okB f b
  · refine law_core f b w hl ht (fun v => v = num 4 false 0 0) (fun v u h1 h2 => h1.trans h2.symm) (fun v h => ⟨4, false, 0, 0, h⟩) (fun W => (sUnp_bad hb h W).mono fun e w' ⟨h1, h2⟩ => ⟨_, h1, rfl, h2⟩) (fun W hl ht => ?_)
    rcases form_cases f with rfl | rfl | rfl | hf
    · exact (iUnpack_1b h hb W hl ht).mono fun e w' ⟨h1, h2⟩ => ⟨_, h1, rfl, h2⟩
    · exact (iUnpack_2b h hb W hl ht).mono fun e w' ⟨h1, h2⟩ => ⟨_, h1, rfl, h2⟩
    · simp [okB] at h
    · exact (iUnpack_n hf w0 hb W hl ht).mono fun e w' ⟨h1, h2⟩ => ⟨_, h1, rfl, h2⟩
  · rcases form_cases f with rfl | rfl | rfl | hf
    · exact law_core 1 b w hl ht _ (fun v u => unp_same (by decide)) (fun v => unp_num) (fun W => sUnpack_1 b W (by simpa [okB] using h)) (fun W hl ht => iUnpack_1 h hb W hl ht)
    · exact law_core 2 b w hl ht _ (fun v u => unp_same (by decide)) (fun v => unp_num) (fun W => sUnpack_2 b W (by simpa [okB] using h)) (fun W hl ht => iUnpack_2 h hb W hl ht)
    · exact law_core 3 b w hl ht _ (fun v u => unp_same (by decide)) (fun v => unp_num) (fun W => sUnpack_3 b W hb) (fun W hl ht => iUnpack_3 h hb W hl ht)
    · rw [okB_none hf] at h; cases h
end Go.Proofs.YtmjnnjjmfedlbaaDoor
