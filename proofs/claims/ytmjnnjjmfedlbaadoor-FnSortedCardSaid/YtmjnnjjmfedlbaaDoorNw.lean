/-
  The contract of the reference's shift left of limbs: something comes back.
-/
import Derived.Test.YtmjnnjjmfedlbaaDoorNu
import Derived.Deep.DeepCutAuto
namespace Go.Proofs.YtmjnnjjmfedlbaaDoor
set_option linter.unusedSimpArgs false
set_option linter.unusedVariables false
open Go.RowKit Go.Dr

/-- l1Shl: something comes back. -/
theorem sShl (A : Option Addr) (n c : Nat) (l : List Int) (d : Nat) (w : World) (h : IRow .u32 w A n c l) (hu : U32 l) (hn : n ≤ 100) (hd : d ≤ 2000) :
    Calls Tryd.prog 91 #[.slice A n c, .int .i64 (d : Int)] w (AnyL w) := by
  have HR := Lib.hid h
  clear h
  by_cases h0 : n = 0
  · subst h0
    go_enter Tryd.func91, Tryd.ntmps91
    go_wp2
    go_ret
    exact ⟨_, _, _, [], rfl, ⟨rfl, Nat.le_refl _, Nat.zero_le _, fun h => absurd h (by omega)⟩, by decide, (Below.refl _ _).alloc (Nat.le_refl _) _⟩
  · have hn0 : ((n : Int) == 0) = false := by rw [beq_eq_false_iff_ne]; omega
    obtain ⟨q, hq⟩ : ∃ q, q = d / 32 := ⟨_, rfl⟩
    have hdq : (d : Int) / 32 = (q : Int) := by omega
    obtain ⟨r, hr⟩ : ∃ r, r = d % 32 := ⟨_, rfl⟩
    have hdr : (d : Int) % 32 = (r : Int) := by omega
    have hr60 : r ≤ 60 := by omega
    have hr0 : (0 : Int) ≤ (r : Int) := by omega
    have HRU := Lib.hid (show IntKind.u64.wrap (r : Int) = (r : Int) from IntWalk.u64_in _ ⟨by omega, by omega⟩)
    obtain ⟨N, hN⟩ : ∃ N, N = q + n + 1 := ⟨_, rfl⟩
    have HQ1 := Lib.hid (show wrap64 (q : Int) = (q : Int) from wrap_id (by omega) (by omega))
    have HN2 := Lib.hid (show wrap64 ((q : Int) + (n : Int)) = (q : Int) + (n : Int) from wrap_id (by omega) (by omega))
    have HN3 := Lib.hid (show wrap64 ((q : Int) + (n : Int) + 1) = (N : Int) by rw [wrap_id (by omega) (by omega)]; omega)
    have HMK := Lib.hid (make_u32 N (by omega))
    have HNN := Lib.hid (show N = q + n + 1 ∧ N ≤ 200 by omega)
    have HNB := Lib.hid hn
    clear hq hr hN hd hn h0
    have hmk := HMK.out
    have hq1 := HQ1.out
    have hN2 := HN2.out
    have hN3 := HN3.out
    go_enter Tryd.func91, Tryd.ntmps91
    go_wp2
    clear hmk hN2 hN3 hq1
    go_loopw [6, 7] (fun i _ wr => ∃ (j : Nat) (lo : List Int), i = .int .i64 (j : Int) ∧ j ≤ n ∧ lo.length = N ∧ Hid (Blk wr w.heap.size 105 (lo.map (Value.int .u32)).toArray) ∧ Hid (Below w.heap.size w wr)) (fun i _ _ => n - (intOf i).toNat)
    case atStart => exact ⟨0, _, rfl, Nat.zero_le _, List.length_replicate, by rw [made_cells]; exact Blk.new _ _ _, (Below.refl _ _).alloc (Nat.le_refl _) _⟩
    case round =>
      obtain ⟨j, lo, rfl, hj, hlo, HB, HW⟩ := hrel
      by_cases hjn : j < n
      · obtain ⟨b, off, rfl, hb, hc⟩ := HR.out.2.2.2 (by omega)
        have hcell : wr.cell? ⟨b, off + j, none⟩ = some (.int .u32 (l.getD j 0)) := by rw [HW.out.cell (p := ⟨b, off + j, none⟩) hb]; exact hc j hjn
        have hux := hu.at_ j
        obtain ⟨x, hx⟩ := Int.eq_ofNat_of_zero_le hux.1
        rw [hx] at hcell hux
        clear hx
        obtain ⟨P, hP⟩ : ∃ P : Int, P = 2 ^ r := ⟨_, rfl⟩
        obtain ⟨X, hX⟩ : ∃ X : Int, X = IntKind.u64.wrap ((x : Int) * P) := ⟨_, rfl⟩
        have hxx : (x : Int) < 4294967296 := by omega
        obtain ⟨i1, hi1⟩ : ∃ i1, i1 = q + j := ⟨_, rfl⟩
        have HA1 := Lib.hid (show wrap64 ((q : Int) + (j : Int)) = (i1 : Int) by have := HNN.out; rw [wrap_id (by omega) (by omega)]; omega)
        have HA2 := Lib.hid (show wrap64 ((i1 : Int) + 1) = ((i1 + 1 : Nat) : Int) by have := HNN.out; rw [wrap_id (by omega) (by omega)]; omega)
        have hlt1 : (i1 : Int) < (N : Int) := by have := HNN.out; omega
        have hlt2 : (i1 : Int) + 1 < (N : Int) := by have := HNN.out; omega
        have hi0 : (0 : Int) ≤ (i1 : Int) := by omega
        have hi00 : (0 : Int) ≤ (i1 : Int) + 1 := by omega
        have hq1' : (0 : Int) ≤ (j : Int) := by omega
        have hqn : (j : Int) < (n : Int) := by omega
        have hbn : b ≠ w.heap.size := by omega
        have ht1 : ((i1 : Int) + 1).toNat = i1 + 1 := by omega
        have hk1 := Lib.hid (show wrap64 ((j : Int) + 1) = ((j + 1 : Nat) : Int) by have := HNB.out; rw [wrap_id (by omega) (by omega)]; omega)
        have hv1 : wr.cell? ⟨w.heap.size, i1, none⟩ = some (.int .u32 (lo.getD i1 0)) := by
          have h1 : i1 < lo.length := by have := HNN.out; omega
          rw [HB.out.cell i1]; simp [List.getD_eq_getElem?_getD, h1]
        have hv2 : wr.cell? ⟨w.heap.size, i1 + 1, none⟩ = some (.int .u32 (lo.getD (i1 + 1) 0)) := by
          have h1 : i1 + 1 < lo.length := by have := HNN.out; omega
          rw [HB.out.cell (i1 + 1)]; simp [List.getD_eq_getElem?_getD, h1]
        have hf1 := HB.out.frozen i1
        have hf2 := HB.out.frozen (i1 + 1)
        generalize lo.getD i1 0 = v1 at hv1
        generalize lo.getD (i1 + 1) 0 = v2 at hv2
        have HJ := Lib.hid hjn
        have HL := Lib.hid hlo
        clear hc hj hi1 hlo hux
        rw [hP] at hX
        clear hP
        have hX' := hX.symm
        clear hX
        have hru := HRU.out
        go_upto_region 8 with fail
        clear hru hX' hdr
        have hq1 := HQ1.out
        have ha1 := HA1.out
        have ha2 := HA2.out
        go_wp2
        clear hq1 ha1 ha2
        go_roundw
        case rel => exact ⟨j + 1, _, by rw [hk1.out], HJ.out, by rw [List.length_set, List.length_set]; exact HL.out, setU (setU HB.out i1 _) (i1 + 1) _, (HW.out.setCell (p := ⟨w.heap.size, i1, none⟩) (Nat.le_refl _) _).setCell (p := ⟨w.heap.size, i1 + 1, none⟩) (Nat.le_refl _) _⟩
        case measure => rw [hk1.out]; have := HJ.out; simp only [intOf, Int.toNat_natCast]; omega
      · have HT := Lib.hid (sTrim _ N N lo wr (made_row wr N lo hlo (by have := HNN.out; unfold maxLen; omega) HB.out) (by have := HNN.out; omega))
        have HX := Lib.hid (made_row wr N lo hlo (by have := HNN.out; unfold maxLen; omega) HB.out)
        have HND := Lib.hid hlo
        clear hj hlo
        go_wp2_with (go_at_call 99; (with_reducible refine HT.out.mono ?_); rintro e w1 ⟨k, hk, rfl, rfl, -, -⟩; have HK := Lib.hid hk; clear hk)
        go_ret
        exact ⟨_, _, _, _, rfl, IRow.taken HX.out HK.out, by have := HK.out; have := HNN.out; omega, HW.out⟩
end Go.Proofs.YtmjnnjjmfedlbaaDoor
