/-
  Contracts of Pack at 53 bits and of ToBits, of the reference.
-/
import Derived.Test.YtmjnnjjmfedlbaaDoorNz
import Derived.Test.YtmjnnjjmfedlbaaDoorMb
import Derived.Test.YtmjnnjjmfedlbaaDoorEx
import Derived.Deep.RegionHeld3
namespace Go.Proofs.YtmjnnjjmfedlbaaDoor
set_option linter.unusedSimpArgs false
set_option linter.unusedVariables false
open Go.RowKit Go.Dr
open Go.Fl (fl wd Ex isNan feq ford fres fdr keeps0 keepsB fres_some fdr_some)

theorem In_true (x a b : Int) (h : a ≤ x ∧ x ≤ b) (w : World) : Calls Tryd.prog 80 #[.int .i64 x, .int .i64 a, .int .i64 b] w fun e w' => e = .returned (.bool true) ∧ w' = w := by
  have d1 : decide (a ≤ x) = true := decide_eq_true h.1
  have d2 : decide (x ≤ b) = true := decide_eq_true h.2
  clear h
  go_enter Tryd.func80, Tryd.ntmps80
  go_wp2
  go_ret
  exact ⟨rfl, rfl⟩
theorem sMode_3 (w : World) : Calls Tryd.prog 79 #[.int .i64 3] w fun e w' => e = .returned (.bool true) ∧ w' = w := by
  go_enter Tryd.func79, Tryd.ntmps79
  go_wp2_with (go_at_call 80; (with_reducible refine (In_true 3 1 5 (by decide) _).mono ?_); rintro e w1 ⟨rfl, rfl⟩)
  go_ret
  exact ⟨rfl, rfl⟩
theorem sPlain_3 (w : World) : Calls Tryd.prog 41 #[.int .i64 3] w fun e w' => e = .returned (.int .u64 9221120237041090560) ∧ w' = w := by
  go_enter Tryd.func41, Tryd.ntmps41
  go_wp2_with (go_at_call 47; (with_reducible refine (sForm_3 _).mono ?_); rintro e w1 ⟨rfl, rfl⟩)
  go_ret
  exact ⟨rfl, rfl⟩
theorem sInf_3 (n : Bool) (w : World) : Calls Tryd.prog 42 #[.int .i64 3, .bool n] w fun e w' => e = .returned (.int .u64 (sgn n + 9218868437227405312)) ∧ w' = w := by
  have HS := Lib.hid (sSign n)
  have hw : IntKind.u64.wrap (sgn n + 9218868437227405312) = sgn n + 9218868437227405312 := by
    cases n <;> exact IntWalk.u64_in _ ⟨by decide, by decide⟩
  generalize sgn n = sg at HS hw ⊢
  go_enter Tryd.func42, Tryd.ntmps42
  go_wp2_with (first | (go_at_call 47; (with_reducible refine (sForm_3 _).mono ?_); rintro e w1 ⟨rfl, rfl⟩) | (go_at_call 38; (with_reducible refine (HS.out _).mono ?_); rintro e w1 ⟨rfl, rfl⟩))
  go_ret
  exact ⟨by simp [hw], rfl⟩

/-- What 53 bits M at 2^e are packed to. -/
def pk (n : Bool) (M : Nat) (e : Int) : Int := sgn n + (if -1074 ≤ e then (e + 1074) * 4503599627370496 + (M : Int) else ((M / 2 ^ (-1074 - e).toNat : Nat) : Int))

set_option maxHeartbeats 1600000 in
theorem sPack_f (n : Bool) (M : Nat) (e : Int) (w : World) (h1 : 4503599627370496 ≤ M) (h2 : M < 9007199254740992) (he : -1126 ≤ e) (he2 : e ≤ 971) :
    Calls Tryd.prog 67 #[.int .i64 3, .int .i64 3, .agg #[.int .i64 1, .bool n, .int .i64 e, .int .u64 (M : Int)]] w fun en w' => ∃ f, en = .returned (.tuple #[.int .u64 (pk n M e), .int .i64 f]) ∧ Below w.heap.size w w' := by
  obtain ⟨lo, hlo⟩ : ∃ lo, lo = M % 4294967296 := ⟨_, rfl⟩
  obtain ⟨hi, hhi⟩ : ∃ hi, hi = M / 4294967296 := ⟨_, rfl⟩
  have hM : M = lo + hi * 4294967296 := by omega
  have HN := Lib.hid (fun W => sNat lo hi W (by omega) (by omega) (by omega))
  rw [← hM] at HN
  have HRO := Lib.hid (show ∀ (A : Option Addr) (c : Nat) (W : World), IRow .u32 W A 2 c [(lo : Int), (hi : Int)] → Calls Tryd.prog 81 #[.int .i64 3, .int .i64 3, .bool n, .slice A 2 c, .int .i64 e, .bool false] W fun en w' => ∃ f, en = .returned (.tuple #[.int .u64 (pk n M e), .int .i64 f]) ∧ Below W.heap.size W w' by
    intro A c W hr
    unfold pk
    by_cases hc : -1074 ≤ e
    · rw [if_pos hc, ← Int.add_assoc, hM]
      exact sRound_n A c lo hi e n W hr (by omega) (by omega) (by omega) hc he2
    · rw [if_neg hc, hM]
      exact sRound_s A c lo hi _ e n W hr (by omega) (by omega) (by omega) (by omega) (by omega) (by omega))
  generalize pk n M e = v at HRO ⊢
  have HI1 := Lib.hid (In_true 1 0 3 (by decide))
  have HI2 := Lib.hid (In_true e (-5000) 5000 (by omega))
  have hM0 : ((M : Int) == 0) = false := by rw [beq_eq_false_iff_ne]; omega
  clear hlo hhi hM h1 h2 he he2
  go_enter Tryd.func67, Tryd.ntmps67
  go_upto_region 13 with (first
    | (go_at_call 47; (with_reducible refine (sForm_3 _).mono ?_); rintro e w1 ⟨rfl, rfl⟩)
    | (go_at_call 79; (with_reducible refine (sMode_3 _).mono ?_); rintro e w1 ⟨rfl, rfl⟩)
    | (go_at_call 80; (first | (with_reducible refine (HI1.out _).mono ?_) | (with_reducible refine (HI2.out _).mono ?_)); rintro e w1 ⟨rfl, rfl⟩))
  obtain ⟨W0, hW0⟩ : ∃ W0, W0 = w.alloc (.cells #[.int .i64 1, .bool n, .int .i64 e, .int .u64 (M : Int)] 28) := ⟨_, rfl⟩
  have hb0 : Blk W0 w.heap.size 28 #[.int .i64 1, .bool n, .int .i64 e, .int .u64 (M : Int)] := by rw [hW0]; exact Blk.new _ _ _
  have HW0 := Lib.hid (show Below w.heap.size w W0 by rw [hW0]; exact (Below.refl _ _).alloc (Nat.le_refl _) _)
  have c1 : W0.cell? ⟨w.heap.size, 1, none⟩ = some (.bool n) := hb0.cell 1
  have c2 : W0.cell? ⟨w.heap.size, 2, none⟩ = some (.int .i64 e) := hb0.cell 2
  have c3 : W0.cell? ⟨w.heap.size, 3, none⟩ = some (.int .u64 (M : Int)) := hb0.cell 3
  have hlt : w.heap.size < W0.heap.size := hb0.lt
  rw [← hW0]
  clear hW0 hb0
  go_region_held3 (fun wx => (∀ z y, z < W0.heap.size → wx.cell? ⟨z, y, none⟩ = W0.cell? ⟨z, y, none⟩) ∧ Below W0.heap.size W0 wx)
    (first
      | exact keeps0 _
      | (refine keepsB hbn ?_; assumption))
    (first
      | (go_at_call 82; (with_reducible refine (HN.out _).mono ?_); rintro e w1 ⟨g, rfl, hr, hbn⟩; have HR := Lib.hid hr; clear hr)
      | (go_at_call 81; (with_reducible refine (HRO.out _ _ _ HR.out).mono ?_); rintro e w2 ⟨f, rfl, hbn⟩))
  have HB := Lib.hid (Fl.stays_of (by assumption : (∀ z y, z < W0.heap.size → World.cell? _ ⟨z, y, none⟩ = W0.cell? ⟨z, y, none⟩) ∧ Below W0.heap.size W0 _))
  go_wp2
  go_ret2
  exact ⟨_, rfl, HW0.out.trans (HB.out.mono HW0.out.size)⟩
end Go.Proofs.YtmjnnjjmfedlbaaDoor
