/-
  Contracts of the reference's whole numbers of limbs: shift left by none, shift right, subtraction.
-/
import Derived.Test.YtmjnnjjmfedlbaaDoorNu
namespace Go.Proofs.YtmjnnjjmfedlbaaDoor
set_option linter.unusedSimpArgs false
set_option linter.unusedVariables false
open Go.RowKit Go.Dr

def ex0 (x y : Int) : Nat → List Int | 0 => [0, 0, 0] | 1 => [x, 0, 0] | _ => [x, y, 0]

theorem trim2 {x y : Int} {k : Nat} {l : List Int} (hl : l = [x, y, 0]) (h : y ≠ 0) (hk : k ≤ 3) (hz : ∀ j, k ≤ j → j < 3 → l.getD j 0 = 0) (hn : k = 0 ∨ l.getD (k - 1) 0 ≠ 0) : k = 2 := by
  subst hl
  rcases (show k = 0 ∨ k = 1 ∨ k = 2 ∨ k = 3 by omega) with rfl | rfl | rfl | rfl
  · exact absurd (hz 1 (by omega) (by omega)) h
  · exact absurd (hz 1 (by omega) (by omega)) h
  · rfl
  · rcases hn with hn | hn
    · cases hn
    · exact absurd rfl hn

theorem sShl_0 (A : Option Addr) (c lo hi : Nat) (w : World) (h : IRow .u32 w A 2 c [(lo : Int), (hi : Int)]) (h1 : lo < 4294967296) (h2 : hi < 4294967296) (h3 : hi ≠ 0) :
    Calls Tryd.prog 91 #[.slice A 2 c, .int .i64 0] w fun e w' => ∃ A' c', e = .returned (.slice A' 2 c') ∧ IRow .u32 w' A' 2 c' [(lo : Int), (hi : Int)] ∧ Below w.heap.size w w' := by
  have HR := Lib.hid h
  clear h
  obtain ⟨b, off, rfl, hb, hc⟩ := HR.out.2.2.2 (by omega)
  have HC0 := Lib.hid (show w.cell? ⟨b, off, none⟩ = some (.int .u32 (lo : Int)) from hc 0 (by omega))
  have HC1 := Lib.hid (show w.cell? ⟨b, off + 1, none⟩ = some (.int .u32 (hi : Int)) from hc 1 (by omega))
  obtain ⟨i0, hi', hz0, hz1, hz2⟩ := info_parts u32Info
  have hmk : ∀ W, (Instr.makeSlice 94 (.int .i64 3) (.int .i64 3)).run Tryd.prog W = .ok (.slice (some ⟨W.heap.size, 0, none⟩) 3 3) (W.alloc (.cells (madeCells #[.int .u32 0] 3) 105)) := by
    intro W
    have := run_make (P := Tryd.prog) W 94 105 i0 _ Tryd.underlying94 hi' hz0 .i64 .i64 3 3 (by omega) (by omega) (by rw [hz2]; omega) (by omega)
    rw [hz1] at this
    simpa [Value.cells] using this
  rw [made_cells] at hmk
  have o1 := or_zero (x := (lo : Int)) (by omega) (by omega)
  have o2 := or_zero (x := (hi : Int)) (by omega) (by omega)
  have o3 := or_zero (x := 0) (by omega) (by omega)
  have w1 : IntKind.u32.wrap (lo : Int) = (lo : Int) := by rw [IntKind.wrap_u32]; omega
  have w2 : IntKind.u32.wrap (hi : Int) = (hi : Int) := by rw [IntKind.wrap_u32]; omega
  have v1 : (lo : Int) / 4294967296 = 0 := by omega
  have v2 : (hi : Int) / 4294967296 = 0 := by omega
  have m1 : (lo : Int) % 4294967296 = lo := by omega
  have m2 : (hi : Int) % 4294967296 = hi := by omega
  have L1 : (lo : Int) < 4294967296 := by omega
  have L2 : (hi : Int) < 4294967296 := by omega
  have H3 := Lib.hid h3
  clear hc hi' hz0 hz1 hz2 h1 h2 h3
  go_enter Tryd.func91, Tryd.ntmps91
  go_wp2
  clear hmk
  go_loopw [6, 7] (fun i _ wr => ∃ (j : Nat), i = .int .i64 (j : Int) ∧ j ≤ 2 ∧ Hid (Blk wr w.heap.size 105 ((ex0 lo hi j).map (Value.int .u32)).toArray) ∧ Hid (Below w.heap.size w wr)) (fun i _ _ => 2 - (intOf i).toNat)
  case atStart => exact ⟨0, rfl, Nat.zero_le _, Blk.new _ _ _, (Below.refl _ _).alloc (Nat.le_refl _) _⟩
  case round =>
    obtain ⟨j, rfl, hj, HB, HW⟩ := hrel
    have hf0 := HB.out.frozen 0
    have hf1 := HB.out.frozen 1
    have hf2 := HB.out.frozen 2
    have hbn : b ≠ w.heap.size := by omega
    have hc0 : wr.cell? ⟨b, off, none⟩ = some (.int .u32 (lo : Int)) := by rw [HW.out.cell (p := ⟨b, off, none⟩) hb]; exact HC0.out
    have hc1 : wr.cell? ⟨b, off + 1, none⟩ = some (.int .u32 (hi : Int)) := by rw [HW.out.cell (p := ⟨b, off + 1, none⟩) hb]; exact HC1.out
    rcases (show j = 0 ∨ j = 1 ∨ j = 2 by omega) with rfl | rfl | rfl
    · have hv0 : wr.cell? ⟨w.heap.size, 0, none⟩ = some (.int .u32 0) := HB.out.cell 0
      have hv1 : wr.cell? ⟨w.heap.size, 1, none⟩ = some (.int .u32 0) := HB.out.cell 1
      clear hj
      go_wp2
      go_roundw
      case rel => exact ⟨1, rfl, by omega, setU (setU HB.out 0 _) 1 _, (HW.out.setCell (p := ⟨w.heap.size, 0, none⟩) (Nat.le_refl _) _).setCell (p := ⟨w.heap.size, 1, none⟩) (Nat.le_refl _) _⟩
      case measure => simp [intOf]
    · have hv1 : wr.cell? ⟨w.heap.size, 1, none⟩ = some (.int .u32 0) := HB.out.cell 1
      have hv2 : wr.cell? ⟨w.heap.size, 2, none⟩ = some (.int .u32 0) := HB.out.cell 2
      clear hj
      go_wp2
      go_roundw
      case rel => exact ⟨2, rfl, by omega, setU (setU HB.out 1 _) 2 _, (HW.out.setCell (p := ⟨w.heap.size, 1, none⟩) (Nat.le_refl _) _).setCell (p := ⟨w.heap.size, 2, none⟩) (Nat.le_refl _) _⟩
      case measure => simp [intOf]
    · have HX := Lib.hid (made_row wr 3 [(lo : Int), (hi : Int), 0] rfl (by decide) HB.out)
      have HT := Lib.hid (sTrim _ 3 3 _ wr HX.out (by decide))
      clear hj
      go_wp2_with (go_at_call 99; (with_reducible refine HT.out.mono ?_); rintro e w1 ⟨k, hk, rfl, rfl, hz, hnz⟩; have HK := Lib.hid (trim2 rfl (by have := H3.out; omega) hk hz hnz); have hk2 := HK.out; subst hk2; clear hz hnz hk)
      go_ret
      exact ⟨_, _, rfl, IRow.taken HX.out (k := 2) (by omega), HW.out⟩

set_option maxHeartbeats 800000 in
theorem sSub (A : Option Addr) (n c : Nat) (l : List Int) (A' : Option Addr) (n' c' : Nat) (l' : List Int) (w : World) (h : IRow .u32 w A n c l) (h' : IRow .u32 w A' n' c' l') (hn : n ≤ 1000) :
    Calls Tryd.prog 93 #[.slice A n c, .slice A' n' c'] w (AnyL w) := by
  have HR := Lib.hid h
  have HR' := Lib.hid h'
  have HN := Lib.hid hn
  have HO0 := Lib.hid (OwnU.empty w w.heap.size (Nat.le_refl _))
  clear h h' hn
  go_enter Tryd.func93, Tryd.ntmps93
  go_wp2
  go_loopw [5, 6, 7, 8] (fun v bo i _ wr => ∃ (j : Nat) (y : Int) (lst : List Int), i = .int .i64 (j : Int) ∧ bo = .int .i64 y ∧ j ≤ n ∧ lst.length = j ∧ Hid (OwnU wr w.heap.size v lst) ∧ Hid (Below w.heap.size w wr)) (fun _ _ i _ _ => n - (intOf i).toNat)
  case atStart => exact ⟨0, 0, [], rfl, rfl, Nat.zero_le _, rfl, HO0.out, (Below.refl _ _).alloc (Nat.le_refl _) _⟩
  case round =>
    clear HO0
    obtain ⟨j, y, lst, rfl, rfl, hj, hl, HO, HW⟩ := hrel
    by_cases hjn : j < n
    · obtain ⟨b, off, rfl, hb, hc⟩ := HR.out.2.2.2 (by omega)
      have hcell : wr.cell? ⟨b, off + j, none⟩ = some (.int .u32 (l.getD j 0)) := by rw [HW.out.cell (p := ⟨b, off + j, none⟩) hb]; exact hc j hjn
      generalize l.getD j 0 = x at hcell
      have hq1 : (0 : Int) ≤ (j : Int) := by omega
      have hqn : (j : Int) < (n : Int) := by omega
      have hk1 := Lib.hid (show wrap64 ((j : Int) + 1) = ((j + 1 : Nat) : Int) by have := HN.out; rw [wrap_id (by omega) (by omega)]; omega)
      have HL := Lib.hid (show lst.length ≤ 1048576 by have := HN.out; omega)
      have HJ := Lib.hid (And.intro hjn hl)
      have HS := Lib.hid HW.out.size
      by_cases hjn' : j < n'
      · obtain ⟨b', off', rfl, hb', hc'⟩ := HR'.out.2.2.2 (by omega)
        have hcell' : wr.cell? ⟨b', off' + j, none⟩ = some (.int .u32 (l'.getD j 0)) := by rw [HW.out.cell (p := ⟨b', off' + j, none⟩) hb']; exact hc' j hjn'
        generalize l'.getD j 0 = x' at hcell'
        have hqn' : (j : Int) < (n' : Int) := by omega
        clear hc hc' hj hl
        go_wp2_with (at_builtin; refine app1U rfl (.tmp 38) (.tmp 41) rfl w.heap.size _ _ _ rfl HO.out rfl HL.out HS.out ?_; intro v2 w2 ho hg; have HW2 := Lib.hid (below_own HW.out HO.out (Nat.le_refl _) hg); have HO2 := Lib.hid ho; clear ho hg)
        all_goals go_roundw
        all_goals first
          | exact ⟨j + 1, _, _, by rw [hk1.out], rfl, HJ.out.1, by rw [List.length_append, HJ.out.2]; rfl, HO2.out, HW2.out⟩
          | (rw [hk1.out]; have := HJ.out; simp only [intOf, Int.toNat_natCast]; omega)
      · clear hc hj hl
        go_wp2_with (at_builtin; refine app1U rfl (.tmp 38) (.tmp 41) rfl w.heap.size _ _ _ rfl HO.out rfl HL.out HS.out ?_; intro v2 w2 ho hg; have HW2 := Lib.hid (below_own HW.out HO.out (Nat.le_refl _) hg); have HO2 := Lib.hid ho; clear ho hg)
        all_goals go_roundw
        all_goals first
          | exact ⟨j + 1, _, _, by rw [hk1.out], rfl, HJ.out.1, by rw [List.length_append, HJ.out.2]; rfl, HO2.out, HW2.out⟩
          | (rw [hk1.out]; have := HJ.out; simp only [intOf, Int.toNat_natCast]; omega)
    · obtain ⟨A2, c2, rfl⟩ := HO.out.form
      have HX := Lib.hid HO.out.row
      have hln : lst.length = n := by omega
      have HLN := Lib.hid hln
      have HT := Lib.hid (sTrim A2 lst.length c2 lst wr HX.out (by have := HN.out; omega))
      clear hj hl hln
      go_wp2_with (go_at_call 99; (with_reducible refine HT.out.mono ?_); rintro e w1 ⟨k, hk, rfl, rfl, -, -⟩; have HK := Lib.hid hk; clear hk)
      go_ret
      exact ⟨_, _, _, _, rfl, IRow.taken HX.out HK.out, by have := HK.out; have := HN.out; have := HLN.out; omega, HW.out⟩
end Go.Proofs.YtmjnnjjmfedlbaaDoor
