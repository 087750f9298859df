/-
  The contract of the reference's shift right of two limbs.
-/
import Derived.Test.YtmjnnjjmfedlbaaDoorNu
import Derived.Deep.DeepCutAuto
namespace Go.Proofs.YtmjnnjjmfedlbaaDoor
set_option linter.unusedSimpArgs false
set_option linter.unusedVariables false
open Go.RowKit Go.Dr

/-- What the shift has gathered when it stands at limb i. -/
def sh1 (q : Nat) (z0 z1 : Int) (i : Nat) : List Int := if q = 0 then (if i = 0 then [] else if i = 1 then [z0] else [z0, z1]) else (if i ≤ 1 then [] else [z1])

/-- What a list of at most two limbs is worth. -/
def val2 (l : List Int) : Int := l.getD 0 0 + l.getD 1 0 * 4294967296
/-- A number below 2^52 in limbs. -/
def Nat2 (m : Nat) (l : List Int) : Prop := U32 l ∧ l.length ≤ 2 ∧ val2 l = (m : Int) ∧ l.getD 1 0 < 1048576

theorem val2_take {l : List Int} {k : Nat} (hl : l.length ≤ 2) (hz : ∀ j, k ≤ j → j < l.length → l.getD j 0 = 0) : val2 (l.take k) = val2 l ∧ (l.take k).getD 1 0 = l.getD 1 0 := by
  have h : ∀ j, (l.take k).getD j 0 = l.getD j 0 := by
    intro j
    by_cases hj : j < k
    · simp [List.getD_eq_getElem?_getD, List.getElem?_take, hj]
    · have e : (l.take k).getD j 0 = 0 := by simp [List.getD_eq_getElem?_getD, List.getElem?_take, hj]
      rw [e]
      by_cases hj2 : j < l.length
      · exact (hz j (by omega) hj2).symm
      · rw [List.getD_eq_getElem?_getD, List.getElem?_eq_none (by omega)]; rfl
  unfold val2
  rw [h 0, h 1]
  exact ⟨rfl, rfl⟩

set_option maxRecDepth 8000 in
set_option maxHeartbeats 800000 in
theorem sShr (A : Option Addr) (c lo hi d : Nat) (w : World) (h : IRow .u32 w A 2 c [(lo : Int), (hi : Int)]) (h1 : lo < 4294967296) (h2 : hi < 2097152) (hd0 : 1 ≤ d) (hd : d ≤ 52) :
    Calls Tryd.prog 92 #[.slice A 2 c, .int .i64 (d : Int)] w fun e w' => ∃ A' n' c' l, e = .returned (.slice A' n' c') ∧ IRow .u32 w' A' n' c' l ∧ Nat2 ((lo + hi * 4294967296) / 2 ^ d) l ∧ Below w.heap.size w w' := by
  have HR := Lib.hid h
  obtain ⟨b, off, rfl, hb, hc⟩ := HR.out.2.2.2 (by omega)
  have HC0 := Lib.hid (show w.cell? ⟨b, off, none⟩ = some (.int .u32 (lo : Int)) from hc 0 (by omega))
  have HC1 := Lib.hid (show w.cell? ⟨b, off + 1, none⟩ = some (.int .u32 (hi : Int)) from hc 1 (by omega))
  obtain ⟨q, hq⟩ : ∃ q, q = d / 32 := ⟨_, rfl⟩
  obtain ⟨r, hr⟩ : ∃ r, r = d % 32 := ⟨_, rfl⟩
  have hdq : (d : Int) / 32 = (q : Int) := by omega
  have hdr : (d : Int) % 32 = (r : Int) := by omega
  have hr60 : r ≤ 60 := by omega
  have hr0 : (0 : Int) ≤ (r : Int) := by omega
  have hq01 : q = 0 ∨ q = 1 := by omega
  have HRU := Lib.hid (show IntKind.u64.wrap (r : Int) = (r : Int) from IntWalk.u64_in _ ⟨by omega, by omega⟩)
  obtain ⟨M, hM⟩ : ∃ M, M = lo + hi * 4294967296 := ⟨_, rfl⟩
  obtain ⟨y0, hy0⟩ : ∃ y0, y0 = M / 2 ^ r := ⟨_, rfl⟩
  obtain ⟨y1, hy1⟩ : ∃ y1, y1 = hi / 2 ^ r := ⟨_, rfl⟩
  have hp : 0 < 2 ^ r := Nat.two_pow_pos r
  have HY0 := Lib.hid (show (M : Int) / 2 ^ r = (y0 : Int) by rw [hy0]; exact (by push_cast; rfl))
  have HY1 := Lib.hid (show (hi : Int) / 2 ^ r = (y1 : Int) by rw [hy1]; exact (by push_cast; rfl))
  have hy1l : y1 ≤ hi := by rw [hy1]; exact Nat.div_le_self _ _
  have hy01 : y0 / 4294967296 = y1 := by rw [hy0, hy1, Nat.div_div_eq_div_mul, Nat.mul_comm, ← Nat.div_div_eq_div_mul, hM]; congr 1; omega
  have HW0 := Lib.hid (show IntKind.u32.wrap (y0 : Int) = ((y0 % 4294967296 : Nat) : Int) by rw [IntKind.wrap_u32]; omega)
  have HW1 := Lib.hid (show IntKind.u32.wrap (y1 : Int) = (y1 : Int) by rw [IntKind.wrap_u32]; omega)
  have HF := Lib.hid (show Nat2 (M / 2 ^ d) (sh1 q ((y0 % 4294967296 : Nat) : Int) (y1 : Int) 2) by
    unfold sh1
    rcases hq01 with hq0 | hq1
    · rw [if_pos hq0, if_neg (by decide), if_neg (by decide)]
      have hrd : r = d := by omega
      have hr1 : 1 ≤ r := by omega
      have h2r : 2 ^ 1 ≤ 2 ^ r := Nat.pow_le_pow_right (by decide) hr1
      have hyy : y1 ≤ hi / 2 := by rw [hy1]; exact Nat.div_le_div_left h2r (by decide)
      refine ⟨?_, Nat.le_refl _, ?_, ?_⟩
      · intro x hx
        simp only [List.mem_cons, List.not_mem_nil, or_false] at hx
        rcases hx with rfl | rfl <;> omega
      · unfold val2
        rw [← hrd, ← hy0]
        show ((y0 % 4294967296 : Nat) : Int) + (y1 : Int) * 4294967296 = (y0 : Int)
        omega
      · show (y1 : Int) < 1048576
        omega
    · rw [if_neg (by omega), if_neg (by decide)]
      have hrd : d = 32 + r := by omega
      refine ⟨?_, by show (1 : Nat) ≤ 2; decide, ?_, by show (0 : Int) < 1048576; decide⟩
      · intro x hx
        rw [List.mem_singleton.1 hx]; omega
      · unfold val2
        show (y1 : Int) + 0 * 4294967296 = _
        rw [hrd, Nat.pow_add, ← Nat.div_div_eq_div_mul, hM, show (lo + hi * 4294967296) / 2 ^ 32 = hi by omega, ← hy1]
        omega)
  have hi64 : (hi : Int) < 4294967296 := by omega
  have lo64 : (lo : Int) < 4294967296 := by omega
  have HS1 := Lib.hid (show IntKind.u64.wrap ((hi : Int) * 4294967296) = (hi : Int) * 4294967296 from IntWalk.u64_in _ ⟨by omega, by omega⟩)
  have HS2 := Lib.hid (show IntKind.u64.wrap ((lo : Int) + (hi : Int) * 4294967296) = (M : Int) by rw [IntWalk.u64_in _ ⟨by omega, by omega⟩]; omega)
  have HS3 := Lib.hid (show (lo : Int) + (hi : Int) * 4294967296 = (M : Int) by omega)
  have HO0 := Lib.hid (OwnU.empty w w.heap.size (Nat.le_refl _))
  rw [← hM]
  clear hc hq hr hM hy0 hy1 hp hy1l hy01 h1 h2 hd0 hd h
  go_enter Tryd.func92, Tryd.ntmps92
  go_wp2
  go_loopw [5, 6, 7] (fun v i _ wr => ∃ (j : Nat), i = .int .i64 (j : Int) ∧ q ≤ j ∧ j ≤ 2 ∧ Hid (OwnU wr w.heap.size v (sh1 q ((y0 % 4294967296 : Nat) : Int) (y1 : Int) j)) ∧ Hid (Below w.heap.size w wr)) (fun _ i _ _ => 2 - (intOf i).toNat)
  case atStart => exact ⟨q, rfl, Nat.le_refl _, by omega, (by rcases hq01 with rfl | rfl <;> exact HO0.out), (Below.refl _ _).alloc (Nat.le_refl _) _⟩
  case round =>
    clear HO0
    obtain ⟨j, rfl, hqj, hj, HO, HW⟩ := hrel
    have hc0 : wr.cell? ⟨b, off, none⟩ = some (.int .u32 (lo : Int)) := by rw [HW.out.cell (p := ⟨b, off, none⟩) hb]; exact HC0.out
    have hc1 : wr.cell? ⟨b, off + 1, none⟩ = some (.int .u32 (hi : Int)) := by rw [HW.out.cell (p := ⟨b, off + 1, none⟩) hb]; exact HC1.out
    have HS := Lib.hid HW.out.size
    have hru := HRU.out
    have hY0 := HY0.out
    have hY1 := HY1.out
    have hs1 := HS1.out
    have hs2 := HS2.out
    have hs3 := HS3.out
    have hw0 := HW0.out
    have hw1 := HW1.out
    rcases (show j = 0 ∨ j = 1 ∨ j = 2 by omega) with rfl | rfl | rfl
    · have HQ0 := Lib.hid (show q = 0 by omega)
      have HOE := Lib.hid (show OwnU wr w.heap.size _ [] by have := HO.out; rw [HQ0.out] at this; exact this)
      clear hqj hj hq01
      go_wp2_with (at_builtin; refine app1U rfl (.tmp 36) (.tmp 43) rfl w.heap.size _ _ _ rfl HOE.out rfl (by simp) HS.out ?_; intro v2 w2 ho hg; have HW2 := Lib.hid (below_own HW.out HOE.out (Nat.le_refl _) hg); have HO2 := Lib.hid ho; clear ho hg)
      go_roundw
      case rel => exact ⟨1, rfl, by have := HQ0.out; omega, by omega, (by rw [HQ0.out]; exact HO2.out), HW2.out⟩
      case measure => simp [intOf]
    · clear hqj hj
      go_wp2_with (at_builtin; refine app1U rfl (.tmp 36) (.tmp 43) rfl w.heap.size _ _ _ rfl HO.out rfl (by rcases hq01 with rfl | rfl <;> simp [sh1]) HS.out ?_; intro v2 w2 ho hg; have HW2 := Lib.hid (below_own HW.out HO.out (Nat.le_refl _) hg); have HO2 := Lib.hid ho; clear ho hg)
      go_roundw
      case rel => exact ⟨2, rfl, by omega, by omega, (by rcases hq01 with rfl | rfl <;> exact HO2.out), HW2.out⟩
      case measure => simp [intOf]
    · obtain ⟨A2, c2, rfl⟩ := HO.out.form
      obtain ⟨L, hL⟩ : ∃ L, L = sh1 q ((y0 % 4294967296 : Nat) : Int) (y1 : Int) 2 := ⟨_, rfl⟩
      rw [← hL] at HO HF
      have HX := Lib.hid HO.out.row
      have HT := Lib.hid (sTrim A2 L.length c2 L wr HX.out (by have := HF.out.2.1; omega))
      rw [← hL]
      clear hqj hj hL hc0 hc1
      go_wp2_with (go_at_call 99; (with_reducible refine HT.out.mono ?_); rintro e w1 ⟨k, hk, rfl, rfl, hz, -⟩; have HK := Lib.hid hk; have HZ := Lib.hid (val2_take HF.out.2.1 hz); clear hk hz)
      go_ret
      exact ⟨_, _, _, _, rfl, IRow.taken HX.out HK.out, ⟨HF.out.1.take _, by rw [List.length_take]; have := HF.out.2.1; omega, by rw [HZ.out.1]; exact HF.out.2.2.1, by rw [HZ.out.2]; exact HF.out.2.2.2⟩, HW.out⟩
end Go.Proofs.YtmjnnjjmfedlbaaDoor
