/-
  The bits of a form and their order: plain facts, and the contracts of the reference.
-/
import Derived.Test.YtmjnnjjmfedlbaaDoorChecked
import Derived.Outline
import Derived.Handy
import Derived.IntWalk
import Derived.Lib.Hide
namespace Go.Proofs.YtmjnnjjmfedlbaaDoor
set_option linter.unusedSimpArgs false
set_option linter.unusedVariables false
open Go.RowKit

theorem results_q4 {fn : Func} {t0 t1 t2 t3 : Tmp} (h : fn.results = #[.tmp t0, .tmp t1, .tmp t2, .tmp t3]) (tmps : Array Value) (P : Program) (w : World) :
    (results fn tmps).run P w = .ok (.tuple #[tmps.getD t0 undef, tmps.getD t1 undef, tmps.getD t2 undef, tmps.getD t3 undef]) w := by
  simp [results, h]

/-- b and 2 ^ s, for b below 2 ^ (s + 1). -/
theorem and_pow {s b : Nat} (hs : s < 64) (hb : b < 2 ^ (s + 1)) : Go.bits .and .u64 (b : Int) ((2 ^ s : Nat) : Int) = ((b / 2 ^ s * 2 ^ s : Nat) : Int) := by
  have hp : 2 ^ s < 2 ^ 64 := Nat.pow_lt_pow_right (by decide) hs
  have hp1 : 2 ^ (s + 1) ≤ 2 ^ 64 := Nat.pow_le_pow_right (by decide) hs
  have hb2 : b < 2 ^ 64 := by omega
  have hs2 : b / 2 ^ s < 2 := by rw [Nat.div_lt_iff_lt_mul (Nat.two_pow_pos s)]; rw [Nat.pow_succ] at hb; omega
  have hs3 : b / 2 ^ s = 0 ∨ b / 2 ^ s = 1 := by generalize b / 2 ^ s = z at hs2; omega
  show IntKind.u64.wrap (((BitVec.ofInt 64 (b : Int) &&& BitVec.ofInt 64 ((2 ^ s : Nat) : Int)).toNat : Nat) : Int) = _
  have key : (BitVec.ofInt 64 (b : Int) &&& BitVec.ofInt 64 ((2 ^ s : Nat) : Int)).toNat = b / 2 ^ s * 2 ^ s := by
    apply Nat.eq_of_testBit_eq
    intro i
    have e : b / 2 ^ s = (b.testBit s).toNat := by
      rw [Nat.testBit_eq_decide_div_mod_eq]
      rcases hs3 with h | h <;> rw [h] <;> rfl
    rw [BitVec.testBit_toNat, BitVec.getLsbD_and, BitVec.ofInt_natCast, BitVec.ofInt_natCast, BitVec.getLsbD_ofNat, BitVec.getLsbD_ofNat, Nat.testBit_two_pow, e]
    cases h : b.testBit s
    · by_cases h1 : s = i
      · subst h1; simp [h]
      · simp [h1]
    · by_cases h1 : s = i
      · subst h1; simp [h, hs]
      · simp [h1, Nat.testBit_two_pow]
  rw [key]
  refine IntWalk.u64_in _ ⟨by omega, ?_⟩
  have : b / 2 ^ s * 2 ^ s ≤ b := Nat.div_mul_le_self b _
  omega
theorem andNot_pow {s b : Nat} (hs : s < 64) (hb : b < 2 ^ (s + 1)) : Go.bits .andNot .u64 (b : Int) ((2 ^ s : Nat) : Int) = ((b % 2 ^ s : Nat) : Int) := by
  have hp : 2 ^ s < 2 ^ 64 := Nat.pow_lt_pow_right (by decide) hs
  have hp1 : 2 ^ (s + 1) ≤ 2 ^ 64 := Nat.pow_le_pow_right (by decide) hs
  have hb2 : b < 2 ^ 64 := by omega
  show IntKind.u64.wrap (((BitVec.ofInt 64 (b : Int) &&& ~~~BitVec.ofInt 64 ((2 ^ s : Nat) : Int)).toNat : Nat) : Int) = _
  have key : (BitVec.ofInt 64 (b : Int) &&& ~~~BitVec.ofInt 64 ((2 ^ s : Nat) : Int)).toNat = b % 2 ^ s := by
    apply Nat.eq_of_testBit_eq
    intro i
    rw [BitVec.testBit_toNat, BitVec.getLsbD_and, BitVec.getLsbD_not, BitVec.ofInt_natCast, BitVec.ofInt_natCast, BitVec.getLsbD_ofNat, BitVec.getLsbD_ofNat, Nat.testBit_mod_two_pow, Nat.testBit_two_pow]
    by_cases h : i < s
    · have h2 : i < 64 := by omega
      have h3 : ¬ s = i := by omega
      simp [h, h2, h3]
    · by_cases h1 : i = s
      · subst h1; simp [h]
      · have h3 : b.testBit i = false := Nat.testBit_lt_two_pow (Nat.lt_of_lt_of_le hb (Nat.pow_le_pow_right (by decide) (by omega)))
        simp [h, h3]
  rw [key]
  refine IntWalk.u64_in _ ⟨by omega, ?_⟩
  have : b % 2 ^ s < 2 ^ s := Nat.mod_lt _ (Nat.two_pow_pos s)
  omega

/-- Whether b is bits of the form f. -/
def okB (f : Int) (b : Nat) : Bool := (f == 1 && decide (b < 65536)) || (f == 2 && decide (b < 4294967296)) || f == 3
/-- The sign's place. -/
def sgP (f : Int) : Nat := if f = 1 then 32768 else if f = 2 then 2147483648 else 9223372036854775808
/-- The order of two bits, S the sign's place. -/
def cmpS (S a b : Nat) : Int :=
  if a = b then 0 else if S ≤ a ∧ b < S then -1 else if a < S ∧ S ≤ b then 1 else if (a < S ∧ a < b) ∨ (S ≤ a ∧ b < a) then -1 else 1
/-- What Order answers. -/
def ordV (f : Int) (a b : Nat) : Int := if okB f a = true ∧ okB f b = true then cmpS (sgP f) a b else 2
def NoForm (f : Int) : Prop := f ≠ 1 ∧ f ≠ 2 ∧ f ≠ 3
theorem okB_none {f : Int} (h : NoForm f) (b : Nat) : okB f b = false := by
  obtain ⟨h1, h2, h3⟩ := h
  simp [okB, h1, h2, h3]
theorem form_cases (f : Int) : f = 1 ∨ f = 2 ∨ f = 3 ∨ NoForm f := by
  unfold NoForm; omega

theorem oForm_1 (w : World) : Calls Tryd.prog 47 #[.int .i64 1] w fun e w' => e = .returned (.tuple #[.int .i64 16, .int .i64 11, .int .i64 15, .bool true]) ∧ w' = w := by
  go_enter Tryd.func47, Tryd.ntmps47
  go_wp2
  (try simp only [Exit.inBlock, Exit.then])
  refine bodyPost_ret (results_q4 rfl _ _ _) rfl ?_
  exact ⟨rfl, rfl⟩

theorem oForm_2 (w : World) : Calls Tryd.prog 47 #[.int .i64 2] w fun e w' => e = .returned (.tuple #[.int .i64 32, .int .i64 24, .int .i64 127, .bool true]) ∧ w' = w := by
  go_enter Tryd.func47, Tryd.ntmps47
  go_wp2
  (try simp only [Exit.inBlock, Exit.then])
  refine bodyPost_ret (results_q4 rfl _ _ _) rfl ?_
  exact ⟨rfl, rfl⟩

theorem oForm_3 (w : World) : Calls Tryd.prog 47 #[.int .i64 3] w fun e w' => e = .returned (.tuple #[.int .i64 64, .int .i64 53, .int .i64 1023, .bool true]) ∧ w' = w := by
  go_enter Tryd.func47, Tryd.ntmps47
  go_wp2
  (try simp only [Exit.inBlock, Exit.then])
  refine bodyPost_ret (results_q4 rfl _ _ _) rfl ?_
  exact ⟨rfl, rfl⟩

theorem oForm_n {f : Int} (hf : NoForm f) (w : World) : Calls Tryd.prog 47 #[.int .i64 f] w fun e w' => e = .returned (.tuple #[.int .i64 0, .int .i64 0, .int .i64 0, .bool false]) ∧ w' = w := by
  obtain ⟨h1, h2, h3⟩ := hf
  have d1 : (f == 1) = false := beq_eq_false_iff_ne.2 h1
  have d2 : (f == 2) = false := beq_eq_false_iff_ne.2 h2
  have d3 : (f == 3) = false := beq_eq_false_iff_ne.2 h3
  go_enter Tryd.func47, Tryd.ntmps47
  go_wp2
  (try simp only [Exit.inBlock, Exit.then])
  refine bodyPost_ret (results_q4 rfl _ _ _) rfl ?_
  exact ⟨rfl, rfl⟩

theorem sAre {f : Int} {b : Nat} (hb : b < 18446744073709551616) (w : World) : Calls Tryd.prog 37 #[.int .i64 f, .int .u64 (b : Int)] w fun e w' => e = .returned (.bool (okB f b)) ∧ w' = w := by
  rcases form_cases f with rfl | rfl | rfl | hf
  · have HD := Lib.hid (show (((b : Int) / 65536 == 0)) = okB 1 b by
      by_cases h : b < 65536
      · rw [show okB 1 b = true by simp [okB, h], beq_iff_eq]; omega
      · rw [show okB 1 b = false by simp [okB, h], beq_eq_false_iff_ne]; omega)
    clear hb
    have d := HD.out
    go_enter Tryd.func37, Tryd.ntmps37
    go_wp2_with (go_at_call 47; (with_reducible refine (oForm_1 _).mono ?_); rintro e w1 ⟨rfl, rfl⟩)
    all_goals go_ret
    all_goals exact ⟨rfl, rfl⟩
  · have HD := Lib.hid (show (((b : Int) / 4294967296 == 0)) = okB 2 b by
      by_cases h : b < 4294967296
      · rw [show okB 2 b = true by simp [okB, h], beq_iff_eq]; omega
      · rw [show okB 2 b = false by simp [okB, h], beq_eq_false_iff_ne]; omega)
    clear hb
    have d := HD.out
    go_enter Tryd.func37, Tryd.ntmps37
    go_wp2_with (go_at_call 47; (with_reducible refine (oForm_2 _).mono ?_); rintro e w1 ⟨rfl, rfl⟩)
    all_goals go_ret
    all_goals exact ⟨rfl, rfl⟩
  · have e : okB 3 b = true := by simp [okB]
    rw [e]
    clear hb e
    go_enter Tryd.func37, Tryd.ntmps37
    go_wp2_with (go_at_call 47; (with_reducible refine (oForm_3 _).mono ?_); rintro e w1 ⟨rfl, rfl⟩)
    all_goals go_ret
    all_goals exact ⟨rfl, rfl⟩
  · rw [okB_none hf]
    have HF := Lib.hid hf
    clear hb hf
    go_enter Tryd.func37, Tryd.ntmps37
    go_wp2_with (go_at_call 47; (with_reducible refine (oForm_n HF.out _).mono ?_); rintro e w1 ⟨rfl, rfl⟩)
    all_goals go_ret
    all_goals exact ⟨rfl, rfl⟩

theorem sSignOf_1 (w : World) : Calls Tryd.prog 38 #[.int .i64 1, .bool true] w fun e w' => e = .returned (.int .u64 32768) ∧ w' = w := by
  go_enter Tryd.func38, Tryd.ntmps38
  go_wp2_with (go_at_call 47; (with_reducible refine (oForm_1 _).mono ?_); rintro e w1 ⟨rfl, rfl⟩)
  all_goals (go_ret; exact ⟨rfl, rfl⟩)

theorem sSignOf_2 (w : World) : Calls Tryd.prog 38 #[.int .i64 2, .bool true] w fun e w' => e = .returned (.int .u64 2147483648) ∧ w' = w := by
  go_enter Tryd.func38, Tryd.ntmps38
  go_wp2_with (go_at_call 47; (with_reducible refine (oForm_2 _).mono ?_); rintro e w1 ⟨rfl, rfl⟩)
  all_goals (go_ret; exact ⟨rfl, rfl⟩)

theorem sSignOf_3 (w : World) : Calls Tryd.prog 38 #[.int .i64 3, .bool true] w fun e w' => e = .returned (.int .u64 9223372036854775808) ∧ w' = w := by
  go_enter Tryd.func38, Tryd.ntmps38
  go_wp2_with (go_at_call 47; (with_reducible refine (oForm_3 _).mono ?_); rintro e w1 ⟨rfl, rfl⟩)
  all_goals (go_ret; exact ⟨rfl, rfl⟩)

set_option maxRecDepth 8000 in
set_option maxHeartbeats 1600000 in
theorem sOrder_1 {a b : Nat} (la : a < 65536) (lb : b < 65536) (w : World) :
    Calls Tryd.prog 12 #[.int .i64 1, .int .u64 (a : Int), .int .u64 (b : Int)] w fun e w' => e = .returned (.int .i64 (cmpS 32768 a b)) ∧ w' = w := by
  have HA := Lib.hid (fun (W : World) => sAre (f := 1) (show a < 18446744073709551616 by omega) W)
  have HB := Lib.hid (fun (W : World) => sAre (f := 1) (show b < 18446744073709551616 by omega) W)
  rw [show okB 1 a = true by simp [okB, la]] at HA
  rw [show okB 1 b = true by simp [okB, lb]] at HB
  have xa : Go.bits .and .u64 (a : Int) 32768 = ((a / 32768 * 32768 : Nat) : Int) := and_pow (s := 15) (by decide) la
  have xb : Go.bits .and .u64 (b : Int) 32768 = ((b / 32768 * 32768 : Nat) : Int) := and_pow (s := 15) (by decide) lb
  have HX := Lib.hid (show (Go.bits .and .u64 (a : Int) 32768 = 0 ∧ a < 32768) ∨ (Go.bits .and .u64 (a : Int) 32768 = 32768 ∧ 32768 ≤ a) by rw [xa]; omega)
  have HY := Lib.hid (show (Go.bits .and .u64 (b : Int) 32768 = 0 ∧ b < 32768) ∨ (Go.bits .and .u64 (b : Int) 32768 = 32768 ∧ 32768 ≤ b) by rw [xb]; omega)
  clear xa xb la lb
  go_enter Tryd.func12, Tryd.ntmps12
  go_wp2_with (first
    | (go_at_call 37; (first | ((with_reducible refine (HA.out _).mono ?_); rintro e w1 ⟨rfl, rfl⟩) | ((with_reducible refine (HB.out _).mono ?_); rintro e w1 ⟨rfl, rfl⟩)))
    | (go_at_call 38; (with_reducible refine (sSignOf_1 _).mono ?_); rintro e w1 ⟨rfl, rfl⟩))
  all_goals go_ret
  all_goals (have hx := HX.out; have hy := HY.out; clear HA HB HX HY; refine ⟨congrArg (fun z : Int => Ending.returned (Value.int .i64 z)) (?_ : _ = cmpS 32768 a b), rfl⟩; (try simp only [bne_iff_ne, ne_eq, beq_iff_eq, bne_eq_false_iff_eq, beq_eq_false_iff_ne, Int.natCast_inj] at *); unfold cmpS; (repeat' split) <;> omega)

set_option maxRecDepth 8000 in
set_option maxHeartbeats 1600000 in
theorem sOrder_2 {a b : Nat} (la : a < 4294967296) (lb : b < 4294967296) (w : World) :
    Calls Tryd.prog 12 #[.int .i64 2, .int .u64 (a : Int), .int .u64 (b : Int)] w fun e w' => e = .returned (.int .i64 (cmpS 2147483648 a b)) ∧ w' = w := by
  have HA := Lib.hid (fun (W : World) => sAre (f := 2) (show a < 18446744073709551616 by omega) W)
  have HB := Lib.hid (fun (W : World) => sAre (f := 2) (show b < 18446744073709551616 by omega) W)
  rw [show okB 2 a = true by simp [okB, la]] at HA
  rw [show okB 2 b = true by simp [okB, lb]] at HB
  have xa : Go.bits .and .u64 (a : Int) 2147483648 = ((a / 2147483648 * 2147483648 : Nat) : Int) := and_pow (s := 31) (by decide) la
  have xb : Go.bits .and .u64 (b : Int) 2147483648 = ((b / 2147483648 * 2147483648 : Nat) : Int) := and_pow (s := 31) (by decide) lb
  have HX := Lib.hid (show (Go.bits .and .u64 (a : Int) 2147483648 = 0 ∧ a < 2147483648) ∨ (Go.bits .and .u64 (a : Int) 2147483648 = 2147483648 ∧ 2147483648 ≤ a) by rw [xa]; omega)
  have HY := Lib.hid (show (Go.bits .and .u64 (b : Int) 2147483648 = 0 ∧ b < 2147483648) ∨ (Go.bits .and .u64 (b : Int) 2147483648 = 2147483648 ∧ 2147483648 ≤ b) by rw [xb]; omega)
  clear xa xb la lb
  go_enter Tryd.func12, Tryd.ntmps12
  go_wp2_with (first
    | (go_at_call 37; (first | ((with_reducible refine (HA.out _).mono ?_); rintro e w1 ⟨rfl, rfl⟩) | ((with_reducible refine (HB.out _).mono ?_); rintro e w1 ⟨rfl, rfl⟩)))
    | (go_at_call 38; (with_reducible refine (sSignOf_2 _).mono ?_); rintro e w1 ⟨rfl, rfl⟩))
  all_goals go_ret
  all_goals (have hx := HX.out; have hy := HY.out; clear HA HB HX HY; refine ⟨congrArg (fun z : Int => Ending.returned (Value.int .i64 z)) (?_ : _ = cmpS 2147483648 a b), rfl⟩; (try simp only [bne_iff_ne, ne_eq, beq_iff_eq, bne_eq_false_iff_eq, beq_eq_false_iff_ne, Int.natCast_inj] at *); unfold cmpS; (repeat' split) <;> omega)

set_option maxRecDepth 8000 in
set_option maxHeartbeats 1600000 in
theorem sOrder_3 {a b : Nat} (la : a < 18446744073709551616) (lb : b < 18446744073709551616) (w : World) :
    Calls Tryd.prog 12 #[.int .i64 3, .int .u64 (a : Int), .int .u64 (b : Int)] w fun e w' => e = .returned (.int .i64 (cmpS 9223372036854775808 a b)) ∧ w' = w := by
  have HA := Lib.hid (fun (W : World) => sAre (f := 3) (show a < 18446744073709551616 by omega) W)
  have HB := Lib.hid (fun (W : World) => sAre (f := 3) (show b < 18446744073709551616 by omega) W)
  rw [show okB 3 a = true by simp [okB, la]] at HA
  rw [show okB 3 b = true by simp [okB, lb]] at HB
  have xa : Go.bits .and .u64 (a : Int) 9223372036854775808 = ((a / 9223372036854775808 * 9223372036854775808 : Nat) : Int) := and_pow (s := 63) (by decide) la
  have xb : Go.bits .and .u64 (b : Int) 9223372036854775808 = ((b / 9223372036854775808 * 9223372036854775808 : Nat) : Int) := and_pow (s := 63) (by decide) lb
  have HX := Lib.hid (show (Go.bits .and .u64 (a : Int) 9223372036854775808 = 0 ∧ a < 9223372036854775808) ∨ (Go.bits .and .u64 (a : Int) 9223372036854775808 = 9223372036854775808 ∧ 9223372036854775808 ≤ a) by rw [xa]; omega)
  have HY := Lib.hid (show (Go.bits .and .u64 (b : Int) 9223372036854775808 = 0 ∧ b < 9223372036854775808) ∨ (Go.bits .and .u64 (b : Int) 9223372036854775808 = 9223372036854775808 ∧ 9223372036854775808 ≤ b) by rw [xb]; omega)
  clear xa xb la lb
  go_enter Tryd.func12, Tryd.ntmps12
  go_wp2_with (first
    | (go_at_call 37; (first | ((with_reducible refine (HA.out _).mono ?_); rintro e w1 ⟨rfl, rfl⟩) | ((with_reducible refine (HB.out _).mono ?_); rintro e w1 ⟨rfl, rfl⟩)))
    | (go_at_call 38; (with_reducible refine (sSignOf_3 _).mono ?_); rintro e w1 ⟨rfl, rfl⟩))
  all_goals go_ret
  all_goals (have hx := HX.out; have hy := HY.out; clear HA HB HX HY; refine ⟨congrArg (fun z : Int => Ending.returned (Value.int .i64 z)) (?_ : _ = cmpS 9223372036854775808 a b), rfl⟩; (try simp only [bne_iff_ne, ne_eq, beq_iff_eq, bne_eq_false_iff_eq, beq_eq_false_iff_ne, Int.natCast_inj] at *); unfold cmpS; (repeat' split) <;> omega)
end Go.Proofs.YtmjnnjjmfedlbaaDoor
