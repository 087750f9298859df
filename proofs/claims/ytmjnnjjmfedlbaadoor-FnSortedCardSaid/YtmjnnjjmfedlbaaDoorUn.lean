/-
  Contracts of Unpack of the reference.
-/
import Derived.Test.YtmjnnjjmfedlbaaDoorChecked
import Derived.Test.YtmjnnjjmfedlbaaDoorFs
import Derived.Outline
import Derived.Handy
import Derived.IntWalk
namespace Go.Proofs.YtmjnnjjmfedlbaaDoor
set_option linter.unusedSimpArgs false
set_option linter.unusedVariables false
open Go.RowKit Go.Fl

abbrev num (k : Int) (n : Bool) (x m : Int) : Value := .agg #[.int .i64 k, .bool n, .int .i64 x, .int .u64 m]

/-- What a finite number of sign n, rung r comes to: m odd. -/
def Fin (m0 : Nat) (e0 : Int) (x : Int) (m : Nat) : Prop := m % 2 = 1 ∧ ∃ j : Nat, m0 = m * 2 ^ j ∧ x = e0 + j

/-- The whole number and the exponent of a finite rung. -/
def manOf (P r : Nat) : Nat := if r < P then r else P + r % P
def expOf (P : Nat) (B : Int) (r : Nat) : Int := if r < P then 1 - B else ((r / P : Nat) : Int) - B

/-- What Unpack comes to: P the place of the leading bit, I the rung of infinity, B what the exponent is off by. -/
def UnpIs (P I : Nat) (B : Int) (n : Bool) (r : Nat) (v : Value) : Prop :=
  (r = I ∧ v = num 2 n 0 0) ∨ (I < r ∧ v = num 3 false 0 0) ∨ (r = 0 ∧ v = num 0 n 0 0) ∨
  (0 < r ∧ r < I ∧ ∃ (x : Int) (m : Nat), v = num 1 n x m ∧ Fin (manOf P r) (expOf P B r) x m)

/-- The loop's memory. -/
def Un (w : World) (n : Bool) (e : Int) (m : Nat) (W : World) : Prop :=
  (Blk W (w.heap.size + 1) 28 #[.int .i64 1, .bool n, .int .i64 e, .int .u64 (m : Int)] ∧ Blk W w.heap.size 28 #[.int .i64 0, .bool false, .int .i64 0, .int .u64 0]) ∧ Below w.heap.size w W
def manAt (g : Nat) (W : World) : Nat := match W.cell? ⟨g, 3, none⟩ with | some (.int _ m) => m.toNat | _ => 0
section
variable {w W : World} {n : Bool} {e : Int} {m : Nat}
theorem Un.start (w : World) (n : Bool) (e : Int) (m : Nat) : Un w n e m ((w.alloc (.cells #[.int .i64 0, .bool false, .int .i64 0, .int .u64 0] 28)).alloc (.cells #[.int .i64 1, .bool n, .int .i64 e, .int .u64 (m : Int)] 28)) :=
  ⟨⟨by simpa using Blk.new (w.alloc _) 28 _, by simpa using (Blk.new w 28 _).alloc _⟩, ((Below.refl _ _).alloc (Nat.le_refl _) _).alloc (by simp) _⟩
theorem Un.facts (h : Un w n e m W) : W.cell? ⟨w.heap.size + 1, 0, none⟩ = some (.int .i64 1) ∧ W.cell? ⟨w.heap.size + 1, 1, none⟩ = some (.bool n) ∧ W.cell? ⟨w.heap.size + 1, 2, none⟩ = some (.int .i64 e) ∧ W.cell? ⟨w.heap.size + 1, 3, none⟩ = some (.int .u64 (m : Int)) ∧
    W.frozen? ⟨w.heap.size + 1, 2, none⟩ = false ∧ W.frozen? ⟨w.heap.size + 1, 3, none⟩ = false ∧
    W.cell? ⟨w.heap.size, 0, none⟩ = some (.int .i64 0) ∧ W.cell? ⟨w.heap.size, 1, none⟩ = some (.bool false) ∧ W.cell? ⟨w.heap.size, 2, none⟩ = some (.int .i64 0) ∧ W.cell? ⟨w.heap.size, 3, none⟩ = some (.int .u64 0) ∧
    W.frozen? ⟨w.heap.size, 0, none⟩ = false ∧ W.frozen? ⟨w.heap.size, 1, none⟩ = false ∧ W.frozen? ⟨w.heap.size, 2, none⟩ = false ∧ W.frozen? ⟨w.heap.size, 3, none⟩ = false :=
  ⟨h.1.1.cell 0, h.1.1.cell 1, h.1.1.cell 2, h.1.1.cell 3, h.1.1.frozen 2, h.1.1.frozen 3, h.1.2.cell 0, h.1.2.cell 1, h.1.2.cell 2, h.1.2.cell 3, h.1.2.frozen 0, h.1.2.frozen 1, h.1.2.frozen 2, h.1.2.frozen 3⟩
theorem Un.man (h : Un w n e m W) : manAt (w.heap.size + 1) W = m := by unfold manAt; rw [h.facts.2.2.2.1]; exact Int.toNat_natCast m
theorem Un.set (h : Un w n e m W) (e' : Int) (m' : Nat) : Un w n e' m' ((W.setCell ⟨w.heap.size + 1, 3, none⟩ (.int .u64 (m' : Int))).setCell ⟨w.heap.size + 1, 2, none⟩ (.int .i64 e')) :=
  ⟨⟨(h.1.1.set_ 3 _).set_ 2 _, by
    have := h.1.2
    unfold Blk at this ⊢
    simp [World.setCell, Array.getElem?_modify, this]⟩, (h.2.setCell (p := ⟨w.heap.size + 1, 3, none⟩) (by show w.heap.size ≤ w.heap.size + 1; omega) _).setCell (p := ⟨w.heap.size + 1, 2, none⟩) (by show w.heap.size ≤ w.heap.size + 1; omega) _⟩
end

theorem pow_lt64 {j m m0 : Nat} (h : m0 = m * 2 ^ j) (h0 : m0 ≠ 0) (h1 : m0 < 2 ^ 64) : j < 64 := by
  by_cases hj : j < 64
  · exact hj
  · exfalso
    have hm : m ≠ 0 := by intro e; rw [e, Nat.zero_mul] at h; exact h0 h
    have h2 : 2 ^ 64 ≤ 2 ^ j := Nat.pow_le_pow_right (by decide) (by omega)
    have h3 : 1 * 2 ^ j ≤ m * 2 ^ j := Nat.mul_le_mul_right _ (by omega)
    omega

set_option maxRecDepth 8000 in
set_option maxHeartbeats 1600000 in
theorem sUnpack_3 (b : Nat) (w : World) (h : b < 18446744073709551616) :
    Calls Tryd.prog 16 #[.int .i64 3, .int .u64 (b : Int)] w fun e w' => ∃ v, e = .returned v ∧ UnpIs 4503599627370496 9218868437227405312 1075 (decide (9223372036854775808 ≤ b)) (b % 9223372036854775808) v ∧ Below w.heap.size w w' := by
  obtain ⟨n, hn⟩ : ∃ n, n = decide (9223372036854775808 ≤ b) := ⟨_, rfl⟩
  obtain ⟨r, hr⟩ : ∃ r, r = b % 9223372036854775808 := ⟨_, rfl⟩
  rw [← hn, ← hr]
  have hS : ((b : Int) / 9223372036854775808 == 1) = n := by
    rw [hn]
    by_cases hc : 9223372036854775808 ≤ b
    · rw [decide_eq_true hc, beq_iff_eq]; omega
    · rw [decide_eq_false hc, beq_eq_false_iff_ne]; omega
  obtain ⟨x, hx⟩ : ∃ x : Nat, (b : Int) / 4503599627370496 % 2048 = (x : Int) := ⟨b / 4503599627370496 % 2048, by omega⟩
  obtain ⟨f, hf⟩ : ∃ f : Nat, (b : Int) % 4503599627370496 = (f : Int) := ⟨b % 4503599627370496, by omega⟩
  have hxr : x = r / 4503599627370496 := by omega
  have hfr : f = r % 4503599627370496 := by omega
  have hrb : r < 9223372036854775808 := by omega
  have hb0 : (0 : Int) ≤ (b : Int) := by omega
  have hb1 : (b : Int) ≤ 18446744073709551615 := by omega
  clear hn hr h
  by_cases h1 : r = 9218868437227405312
  · have e1 : x = 2047 := by omega
    have e2 : f = 0 := by omega
    have HR := Lib.hid h1
    subst e1 e2
    clear h1 hxr hfr hrb
    go_enter Tryd.func16, Tryd.ntmps16
    go_wp2
    refine bodyPost_ret (v := num 2 n 0 0) (by simp [results, Tryd.results16, go_sem, *]) rfl ⟨_, rfl, .inl ⟨HR.out, rfl⟩, ?_⟩
    repeat' (first | (with_reducible exact Below.refl _ _) | (with_reducible assumption) | (with_reducible refine below_drewN ?_ _) | (with_reducible refine Below.drew ?_) | (with_reducible refine Below.alloc ?_ ?_ _) | (with_reducible refine Below.setCell ?_ ?_ _) | (simp; done) | (simp; omega))
  by_cases h2 : 9218868437227405312 < r
  · have e1 : x = 2047 := by omega
    have e2 : ((f : Int) == 0) = false := by rw [beq_eq_false_iff_ne]; omega
    have HR := Lib.hid h2
    subst e1
    clear h1 h2 hxr hfr hrb
    go_enter Tryd.func16, Tryd.ntmps16
    go_wp2
    refine bodyPost_ret (v := num 3 false 0 0) (by simp [results, Tryd.results16, go_sem, *]) rfl ⟨_, rfl, .inr (.inl ⟨HR.out, rfl⟩), ?_⟩
    repeat' (first | (with_reducible exact Below.refl _ _) | (with_reducible assumption) | (with_reducible refine below_drewN ?_ _) | (with_reducible refine Below.drew ?_) | (with_reducible refine Below.alloc ?_ ?_ _) | (with_reducible refine Below.setCell ?_ ?_ _) | (simp; done) | (simp; omega))
  have e1 : ((x : Int) == 2047) = false := by rw [beq_eq_false_iff_ne]; omega
  by_cases h3 : r = 0
  · have e2 : x = 0 := by omega
    have e3 : f = 0 := by omega
    have HR := Lib.hid h3
    subst e2 e3
    clear h1 h2 h3 hxr hfr hrb e1
    go_enter Tryd.func16, Tryd.ntmps16
    go_wp2
    refine bodyPost_ret (v := num 0 n 0 0) (by simp [results, Tryd.results16, go_sem, *]) rfl ⟨_, rfl, .inr (.inr (.inl ⟨HR.out, rfl⟩)), ?_⟩
    repeat' (first | (with_reducible exact Below.refl _ _) | (with_reducible assumption) | (with_reducible refine below_drewN ?_ _) | (with_reducible refine Below.drew ?_) | (with_reducible refine Below.alloc ?_ ?_ _) | (with_reducible refine Below.setCell ?_ ?_ _) | (simp; done) | (simp; omega))
  have key : ∀ (m0 : Nat) (e0 : Int), m0 = manOf 4503599627370496 r → e0 = expOf 4503599627370496 1075 r → m0 ≠ 0 ∧ m0 < 2 ^ 64 ∧ -3000 ≤ e0 ∧ e0 ≤ 3000 := by
    intro m0 e0 a1 a2
    unfold manOf at a1
    unfold expOf at a2
    by_cases hc : r < 4503599627370496
    · rw [if_pos hc] at a1 a2; omega
    · rw [if_neg hc] at a1 a2; omega
  have key2 : ∀ (m0 : Nat) (e0 x : Int) (m : Nat), m0 = manOf 4503599627370496 r → e0 = expOf 4503599627370496 1075 r → Fin m0 e0 x m → UnpIs 4503599627370496 9218868437227405312 1075 n r (num 1 n x m) := by
    intro m0 e0 x m a1 a2 a3
    refine .inr (.inr (.inr ⟨by omega, by omega, x, m, rfl, ?_⟩))
    rw [← a1, ← a2]; exact a3
  have K1 := Lib.hid key
  have K2 := Lib.hid key2
  clear key key2
  by_cases h4 : r < 4503599627370496
  · have e2 : x = 0 := by omega
    have e3 : f = r := by omega
    have e4 : ((r : Int) == 0) = false := by rw [beq_eq_false_iff_ne]; omega
    subst e2 e3
    have HM := Lib.hid (show f = manOf 4503599627370496 f by unfold manOf; rw [if_pos h4])
    have HE := Lib.hid (show (1 - 1075 : Int) = expOf 4503599627370496 1075 f by unfold expOf; rw [if_pos h4])
    have HU0 := Lib.hid (Un.start w n (1 - 1075) f)
    have HB := Lib.hid (K1.out _ _ HM.out HE.out)
    clear h1 h2 h3 h4 hxr hfr hrb e1
    go_enter Tryd.func16, Tryd.ntmps16
    go_wp2
    go_loopw [] (fun wr => ∃ (m : Nat) (e : Int) (j : Nat), m ≠ 0 ∧ Hid (Un w n e m wr) ∧ Hid (f = m * 2 ^ j ∧ e = (1 - 1075) + j)) (fun wr => manAt (w.heap.size + 1) wr)
    case atStart => exact ⟨_, _, 0, HB.out.1, HU0.out, by rw [Nat.pow_zero, Nat.mul_one], (Int.add_zero _).symm⟩
    case round =>
      clear HU0
      obtain ⟨m, e, j, hm, HU, HJ⟩ := hrel
      obtain ⟨c0, c1, c2, c3, f2, f3, z0, z1, z2, z3, y0, y1, y2, y3⟩ := HU.out.facts
      have hj := pow_lt64 HJ.out.1 HB.out.1 HB.out.2.1
      have hm64 : m < 2 ^ 64 := by have h1 := HB.out.2.1; have h2 := HJ.out.1; have h3 : m * 1 ≤ m * 2 ^ j := Nat.mul_le_mul_left _ (Nat.two_pow_pos j); omega
      have he := HJ.out.2
      have hb2 := HB.out.2.2
      have hmi : (m : Int) < 18446744073709551616 := by omega
      by_cases hp : m % 2 = 0
      · have d : ((m : Int) % 2 == 0) = true := by rw [beq_iff_eq]; omega
        have hm2 := Lib.hid (show (m : Int) / 2 = ((m / 2 : Nat) : Int) by omega)
        have he1 : wrap64 (e + 1) = e + 1 := IntWalk.wrap64_in _ ⟨by omega, by omega⟩
        have HM1 := Lib.hid hm
        have HP := Lib.hid hp
        clear hm he hb2 hj hm64 hp
        go_wp2
        go_roundw
        case rel =>
          refine ⟨m / 2, e + 1, j + 1, by have := HM1.out; have := HP.out; omega, ?_, ?_, ?_⟩
          · rw [hm2.out]; exact HU.out.set _ _
          · rw [Nat.pow_succ', ← Nat.mul_assoc, show m / 2 * 2 = m from by have := HP.out; omega]; exact HJ.out.1
          · rw [HJ.out.2]; omega
        case measure =>
          have h2 := (HU.out.set (e + 1) (m / 2)).man
          rw [← hm2.out] at h2
          rw [h2, HU.out.man]
          have := HM1.out; omega
      · have d : ((m : Int) % 2 == 0) = false := by rw [beq_eq_false_iff_ne]; omega
        have HP := Lib.hid (show m % 2 = 1 by omega)
        clear hm he hb2 hj hm64 hp
        go_wp2
        refine bodyPost_ret (v := num 1 n e m) (by simp [results, Tryd.results16, go_sem, *]) rfl ⟨_, rfl, K2.out _ _ e m HM.out HE.out ⟨HP.out, j, HJ.out⟩, ?_⟩
        have hbase := HU.out.2
        repeat' (first | (with_reducible exact Below.refl _ _) | (with_reducible assumption) | (with_reducible refine below_drewN ?_ _) | (with_reducible refine Below.drew ?_) | (with_reducible refine Below.alloc ?_ ?_ _) | (with_reducible refine Below.setCell ?_ ?_ _) | (simp; done) | (simp; omega))
  · have e2 : ((x : Int) == 0) = false := by rw [beq_eq_false_iff_ne]; omega
    have HM := Lib.hid (show f + 4503599627370496 = manOf 4503599627370496 r by unfold manOf; rw [if_neg h4]; omega)
    have HE := Lib.hid (show (x : Int) - 1023 - 53 + 1 = expOf 4503599627370496 1075 r by unfold expOf; rw [if_neg h4]; omega)
    have HU0 := Lib.hid (Un.start w n ((x : Int) - 1023 - 53 + 1) (f + 4503599627370496))
    have HB := Lib.hid (K1.out _ _ HM.out HE.out)
    have hf1 : (f : Int) < 4503599627370496 := by omega
    have hx1 : (x : Int) < 2047 := by omega
    clear h1 h2 h3 h4 hxr hfr hrb
    go_enter Tryd.func16, Tryd.ntmps16
    go_wp2
    go_loopw [] (fun wr => ∃ (m : Nat) (e : Int) (j : Nat), m ≠ 0 ∧ Hid (Un w n e m wr) ∧ Hid ((f + 4503599627370496) = m * 2 ^ j ∧ e = ((x : Int) - 1023 - 53 + 1) + j)) (fun wr => manAt (w.heap.size + 1) wr)
    case atStart => exact ⟨_, _, 0, HB.out.1, HU0.out, by rw [Nat.pow_zero, Nat.mul_one], (Int.add_zero _).symm⟩
    case round =>
      clear HU0
      obtain ⟨m, e, j, hm, HU, HJ⟩ := hrel
      obtain ⟨c0, c1, c2, c3, f2, f3, z0, z1, z2, z3, y0, y1, y2, y3⟩ := HU.out.facts
      have hj := pow_lt64 HJ.out.1 HB.out.1 HB.out.2.1
      have hm64 : m < 2 ^ 64 := by have h1 := HB.out.2.1; have h2 := HJ.out.1; have h3 : m * 1 ≤ m * 2 ^ j := Nat.mul_le_mul_left _ (Nat.two_pow_pos j); omega
      have he := HJ.out.2
      have hb2 := HB.out.2.2
      have hmi : (m : Int) < 18446744073709551616 := by omega
      by_cases hp : m % 2 = 0
      · have d : ((m : Int) % 2 == 0) = true := by rw [beq_iff_eq]; omega
        have hm2 := Lib.hid (show (m : Int) / 2 = ((m / 2 : Nat) : Int) by omega)
        have he1 : wrap64 (e + 1) = e + 1 := IntWalk.wrap64_in _ ⟨by omega, by omega⟩
        have HM1 := Lib.hid hm
        have HP := Lib.hid hp
        clear hm he hb2 hj hm64 hp
        go_wp2
        go_roundw
        case rel =>
          refine ⟨m / 2, e + 1, j + 1, by have := HM1.out; have := HP.out; omega, ?_, ?_, ?_⟩
          · rw [hm2.out]; exact HU.out.set _ _
          · rw [Nat.pow_succ', ← Nat.mul_assoc, show m / 2 * 2 = m from by have := HP.out; omega]; exact HJ.out.1
          · rw [HJ.out.2]; omega
        case measure =>
          have h2 := (HU.out.set (e + 1) (m / 2)).man
          rw [← hm2.out] at h2
          rw [h2, HU.out.man]
          have := HM1.out; omega
      · have d : ((m : Int) % 2 == 0) = false := by rw [beq_eq_false_iff_ne]; omega
        have HP := Lib.hid (show m % 2 = 1 by omega)
        clear hm he hb2 hj hm64 hp
        go_wp2
        refine bodyPost_ret (v := num 1 n e m) (by simp [results, Tryd.results16, go_sem, *]) rfl ⟨_, rfl, K2.out _ _ e m HM.out HE.out ⟨HP.out, j, HJ.out⟩, ?_⟩
        have hbase := HU.out.2
        repeat' (first | (with_reducible exact Below.refl _ _) | (with_reducible assumption) | (with_reducible refine below_drewN ?_ _) | (with_reducible refine Below.drew ?_) | (with_reducible refine Below.alloc ?_ ?_ _) | (with_reducible refine Below.setCell ?_ ?_ _) | (simp; done) | (simp; omega))

end Go.Proofs.YtmjnnjjmfedlbaaDoor
