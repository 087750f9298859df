/-
  Next of the program and of the reference.
-/
import Derived.Test.YtmjnnjjmfedlbaaDoorOn
namespace Go.Proofs.YtmjnnjjmfedlbaaDoor
set_option linter.unusedSimpArgs false
set_option linter.unusedVariables false
open Go.RowKit Go.Dr

/-- What Next comes to, of valid bits: a NaN; infinity; the least; below 0. -/
def nextR (na ia sa ga : Bool) (N a : Int) : Int := if na = true then N else if ia = true then a else if sa = true then 1 else if ga = true then a - 1 else a + 1
def nextS (na sa za ia ga : Bool) (N a : Int) : Int := if na = true then N else if (sa || za) = true then 1 else if ia = true then a else if ga = true then a - 1 else a + 1
def nextV (f : Int) (a : Nat) : Int := if okB f a = true then nextR (nanB f a) (decide (a = infP f)) (decide (a = sgP f)) (decide (sgP f ≤ a)) (nanP f) a else 0
theorem nextS_R {na sa za ia ga : Bool} {N a : Int} (h1 : ia = true → sa = false ∧ za = false) (h2 : za = true → a = 0 ∧ ga = false) : nextS na sa za ia ga N a = nextR na ia sa ga N a := by
  cases na
  · cases ia
    · cases za
      · cases sa
        · simp [nextS, nextR]
        · simp [nextS, nextR]
      · obtain ⟨h3, h4⟩ := h2 rfl
        subst h3 h4
        cases sa
        · simp [nextS, nextR]
        · simp [nextS, nextR]
    · obtain ⟨h3, h4⟩ := h1 rfl
      subst h3 h4
      simp [nextS, nextR]
  · simp [nextS, nextR]
set_option maxRecDepth 20000 in
theorem hfieldN (k : Int) (n : Bool) (x m : Int) (W : World) : (Instr.field 28 (num k n x m) 0).run Tryd.prog W = .ok (.int .i64 k) W := by
  first | rfl | (simp [go_sem]; done) | kernel_rfl
theorem beq_dec (a b : Nat) : ((a : Int) == (b : Int)) = decide (a = b) := by
  by_cases h : a = b
  · rw [decide_eq_true h, h, beq_self_eq_true]
  · rw [decide_eq_false h, beq_eq_false_iff_ne]; omega

theorem oPlain_1 (w : World) : Calls Tryd.prog 41 #[.int .i64 1] w fun e w' => e = .returned (.int .u64 32256) ∧ w' = w := by
  go_enter Tryd.func41, Tryd.ntmps41
  go_wp2_with (go_at_call 47; (with_reducible refine (oForm_1 _).mono ?_); rintro e w1 ⟨rfl, rfl⟩)
  all_goals (go_ret; exact ⟨rfl, rfl⟩)
theorem sSign0_1 (w : World) : Calls Tryd.prog 38 #[.int .i64 1, .bool false] w fun e w' => e = .returned (.int .u64 0) ∧ w' = w := by
  go_enter Tryd.func38, Tryd.ntmps38
  go_wp2_with (go_at_call 47; (with_reducible refine (oForm_1 _).mono ?_); rintro e w1 ⟨rfl, rfl⟩)
  all_goals (go_ret; exact ⟨rfl, rfl⟩)
theorem oInf_1 (w : World) : Calls Tryd.prog 42 #[.int .i64 1, .bool false] w fun e w' => e = .returned (.int .u64 31744) ∧ w' = w := by
  go_enter Tryd.func42, Tryd.ntmps42
  go_wp2_with (first
    | (go_at_call 47; (with_reducible refine (oForm_1 _).mono ?_); rintro e w1 ⟨rfl, rfl⟩)
    | (go_at_call 38; (with_reducible refine (sSign0_1 _).mono ?_); rintro e w1 ⟨rfl, rfl⟩))
  all_goals (go_ret; exact ⟨rfl, rfl⟩)

set_option maxRecDepth 8000 in
set_option maxHeartbeats 6400000 in
theorem sNext_1 {a : Nat} (h : okB 1 a = true) (ha : a < 18446744073709551616) (w : World) :
    Calls Tryd.prog 14 #[.int .i64 1, .int .u64 (a : Int)] w fun e w' => e = .returned (.int .u64 (nextS (nanB 1 a) (decide (a = 32768)) (decide (a = 0)) (decide (a = 31744)) (decide (32768 ≤ a)) 32256 (a : Int))) ∧ Below w.heap.size w w' := by
  have HA := Lib.hid (fun (W : World) => sAre (f := 1) ha W)
  rw [h] at HA
  have HU := Lib.hid (fun (W : World) => sUnpK (f := 1) ha W)
  have la : a < 65536 := by simpa [okB] using h
  have tI : ((a : Int) == 31744) = decide (a = 31744) := beq_dec a 31744
  have tS : ((a : Int) == 32768) = decide (a = 32768) := beq_dec a 32768
  have t0 : ((a : Int) == 0) = decide (a = 0) := beq_dec a 0
  have xa : Go.bits .and .u64 (a : Int) 32768 = ((a / 32768 * 32768 : Nat) : Int) := and_pow (s := 15) (by decide) la
  have tg : (Go.bits .and .u64 (a : Int) 32768 != 0) = decide (32768 ≤ a) := by
    rw [xa]
    by_cases h : 32768 ≤ a
    · rw [decide_eq_true h, bne_iff_ne]; omega
    · rw [decide_eq_false h, bne_eq_false_iff_eq]; omega
  have HM := Lib.hid (show decide (32768 ≤ a) = true → IntKind.u64.wrap ((a : Int) - 1) = (a : Int) - 1 from fun h => IntWalk.u64_in _ ⟨by have := of_decide_eq_true h; omega, by omega⟩)
  have HP := Lib.hid (show decide (32768 ≤ a) = false → IntKind.u64.wrap ((a : Int) + 1) = (a : Int) + 1 from fun h => IntWalk.u64_in _ ⟨by omega, by have := of_decide_eq_false h; omega⟩)
  have HNA := Lib.hid (show ∀ k : Int, KindIs 1 a k → (k == 3) = nanB 1 a from fun k hk => hk.2.2 h)
  generalize nanB 1 a = na at HNA ⊢
  generalize decide (a = 31744) = ia at tI ⊢
  generalize decide (a = 32768) = sa at tS ⊢
  generalize decide (a = 0) = za at t0 ⊢
  generalize decide (32768 ≤ a) = ga at tg HM HP ⊢
  clear la xa ha h
  cases na
  · cases sa
    · cases za
      · cases ia
        · cases ga
          · have hp := HP.out rfl
            (go_enter Tryd.func14, Tryd.ntmps14; go_wp2_with (first | (go_at_call 37; (with_reducible refine (HA.out _).mono ?_); rintro e w1 ⟨rfl, rfl⟩) | (go_at_call 38; (with_reducible refine (sSignOf_1 _).mono ?_); rintro e w1 ⟨rfl, rfl⟩) | (go_at_call 16; (with_reducible refine (HU.out _).mono ?_); rintro e w1 ⟨k1, n1, x1, m1, rfl, hk1, hbn⟩; have tk := HNA.out _ hk1; have hfl := hfieldN k1 n1 x1 m1; have HB1 := Lib.hid hbn; clear hbn hk1) | (go_at_call 41; (with_reducible refine (oPlain_1 _).mono ?_); rintro e w1 ⟨rfl, rfl⟩) | (go_at_call 42; (with_reducible refine (oInf_1 _).mono ?_); rintro e w1 ⟨rfl, rfl⟩)); go_ret; first | exact ⟨rfl, HB1.out⟩ | exact ⟨by rw [hm]; rfl, HB1.out⟩ | exact ⟨by rw [hp]; rfl, HB1.out⟩)
          · have hm := HM.out rfl
            (go_enter Tryd.func14, Tryd.ntmps14; go_wp2_with (first | (go_at_call 37; (with_reducible refine (HA.out _).mono ?_); rintro e w1 ⟨rfl, rfl⟩) | (go_at_call 38; (with_reducible refine (sSignOf_1 _).mono ?_); rintro e w1 ⟨rfl, rfl⟩) | (go_at_call 16; (with_reducible refine (HU.out _).mono ?_); rintro e w1 ⟨k1, n1, x1, m1, rfl, hk1, hbn⟩; have tk := HNA.out _ hk1; have hfl := hfieldN k1 n1 x1 m1; have HB1 := Lib.hid hbn; clear hbn hk1) | (go_at_call 41; (with_reducible refine (oPlain_1 _).mono ?_); rintro e w1 ⟨rfl, rfl⟩) | (go_at_call 42; (with_reducible refine (oInf_1 _).mono ?_); rintro e w1 ⟨rfl, rfl⟩)); go_ret; first | exact ⟨rfl, HB1.out⟩ | exact ⟨by rw [hm]; rfl, HB1.out⟩ | exact ⟨by rw [hp]; rfl, HB1.out⟩)
        · (go_enter Tryd.func14, Tryd.ntmps14; go_wp2_with (first | (go_at_call 37; (with_reducible refine (HA.out _).mono ?_); rintro e w1 ⟨rfl, rfl⟩) | (go_at_call 38; (with_reducible refine (sSignOf_1 _).mono ?_); rintro e w1 ⟨rfl, rfl⟩) | (go_at_call 16; (with_reducible refine (HU.out _).mono ?_); rintro e w1 ⟨k1, n1, x1, m1, rfl, hk1, hbn⟩; have tk := HNA.out _ hk1; have hfl := hfieldN k1 n1 x1 m1; have HB1 := Lib.hid hbn; clear hbn hk1) | (go_at_call 41; (with_reducible refine (oPlain_1 _).mono ?_); rintro e w1 ⟨rfl, rfl⟩) | (go_at_call 42; (with_reducible refine (oInf_1 _).mono ?_); rintro e w1 ⟨rfl, rfl⟩)); go_ret; first | exact ⟨rfl, HB1.out⟩ | exact ⟨by rw [hm]; rfl, HB1.out⟩ | exact ⟨by rw [hp]; rfl, HB1.out⟩)
      · (go_enter Tryd.func14, Tryd.ntmps14; go_wp2_with (first | (go_at_call 37; (with_reducible refine (HA.out _).mono ?_); rintro e w1 ⟨rfl, rfl⟩) | (go_at_call 38; (with_reducible refine (sSignOf_1 _).mono ?_); rintro e w1 ⟨rfl, rfl⟩) | (go_at_call 16; (with_reducible refine (HU.out _).mono ?_); rintro e w1 ⟨k1, n1, x1, m1, rfl, hk1, hbn⟩; have tk := HNA.out _ hk1; have hfl := hfieldN k1 n1 x1 m1; have HB1 := Lib.hid hbn; clear hbn hk1) | (go_at_call 41; (with_reducible refine (oPlain_1 _).mono ?_); rintro e w1 ⟨rfl, rfl⟩) | (go_at_call 42; (with_reducible refine (oInf_1 _).mono ?_); rintro e w1 ⟨rfl, rfl⟩)); go_ret; first | exact ⟨rfl, HB1.out⟩ | exact ⟨by rw [hm]; rfl, HB1.out⟩ | exact ⟨by rw [hp]; rfl, HB1.out⟩)
    · (go_enter Tryd.func14, Tryd.ntmps14; go_wp2_with (first | (go_at_call 37; (with_reducible refine (HA.out _).mono ?_); rintro e w1 ⟨rfl, rfl⟩) | (go_at_call 38; (with_reducible refine (sSignOf_1 _).mono ?_); rintro e w1 ⟨rfl, rfl⟩) | (go_at_call 16; (with_reducible refine (HU.out _).mono ?_); rintro e w1 ⟨k1, n1, x1, m1, rfl, hk1, hbn⟩; have tk := HNA.out _ hk1; have hfl := hfieldN k1 n1 x1 m1; have HB1 := Lib.hid hbn; clear hbn hk1) | (go_at_call 41; (with_reducible refine (oPlain_1 _).mono ?_); rintro e w1 ⟨rfl, rfl⟩) | (go_at_call 42; (with_reducible refine (oInf_1 _).mono ?_); rintro e w1 ⟨rfl, rfl⟩)); go_ret; first | exact ⟨rfl, HB1.out⟩ | exact ⟨by rw [hm]; rfl, HB1.out⟩ | exact ⟨by rw [hp]; rfl, HB1.out⟩)
  · (go_enter Tryd.func14, Tryd.ntmps14; go_wp2_with (first | (go_at_call 37; (with_reducible refine (HA.out _).mono ?_); rintro e w1 ⟨rfl, rfl⟩) | (go_at_call 38; (with_reducible refine (sSignOf_1 _).mono ?_); rintro e w1 ⟨rfl, rfl⟩) | (go_at_call 16; (with_reducible refine (HU.out _).mono ?_); rintro e w1 ⟨k1, n1, x1, m1, rfl, hk1, hbn⟩; have tk := HNA.out _ hk1; have hfl := hfieldN k1 n1 x1 m1; have HB1 := Lib.hid hbn; clear hbn hk1) | (go_at_call 41; (with_reducible refine (oPlain_1 _).mono ?_); rintro e w1 ⟨rfl, rfl⟩) | (go_at_call 42; (with_reducible refine (oInf_1 _).mono ?_); rintro e w1 ⟨rfl, rfl⟩)); go_ret; first | exact ⟨rfl, HB1.out⟩ | exact ⟨by rw [hm]; rfl, HB1.out⟩ | exact ⟨by rw [hp]; rfl, HB1.out⟩)

set_option maxRecDepth 8000 in
set_option maxHeartbeats 6400000 in
theorem iNext_1 {a : Nat} (h : okB 1 a = true) (ha : a < 18446744073709551616) (w : World) (hl : Lk w) :
    Calls Tryd.prog 15 #[.int .i64 1, .int .u64 (a : Int)] w fun e w' => e = .returned (.int .u64 (nextR (nanB 1 a) (decide (a = 31744)) (decide (a = 32768)) (decide (32768 ≤ a)) 32256 (a : Int))) ∧ Below w.heap.size w w' := by
  have HOF := Lib.hid (fun (A : Option Addr) (c : Nat) (W : World) (hl : Lk W) (hr : IRow .u64 W A 1 c (nums [a])) => iOf_1 A 1 c [a] W hl hr (by intro x hx; simp at hx; rcases hx with rfl; assumption))
  rw [okL_1, h] at HOF
  have la : a < 65536 := by simpa [okB] using h
  have tI : ((a : Int) == 31744) = decide (a = 31744) := beq_dec a 31744
  have tS : ((a : Int) == 32768) = decide (a = 32768) := beq_dec a 32768
  have t0 : ((a : Int) == 0) = decide (a = 0) := beq_dec a 0
  have xa : Go.bits .and .u64 (a : Int) 32768 = ((a / 32768 * 32768 : Nat) : Int) := and_pow (s := 15) (by decide) la
  have tg : (Go.bits .and .u64 (a : Int) 32768 != 0) = decide (32768 ≤ a) := by
    rw [xa]
    by_cases h : 32768 ≤ a
    · rw [decide_eq_true h, bne_iff_ne]; omega
    · rw [decide_eq_false h, bne_eq_false_iff_eq]; omega
  have HM := Lib.hid (show decide (32768 ≤ a) = true → IntKind.u64.wrap ((a : Int) - 1) = (a : Int) - 1 from fun h => IntWalk.u64_in _ ⟨by have := of_decide_eq_true h; omega, by omega⟩)
  have HP := Lib.hid (show decide (32768 ≤ a) = false → IntKind.u64.wrap ((a : Int) + 1) = (a : Int) + 1 from fun h => IntWalk.u64_in _ ⟨by omega, by have := of_decide_eq_false h; omega⟩)
  have HN := Lib.hid (fun (W : World) => iIsNan_1 la W)
  have HNN := Lib.hid (fun (W : World) => iNan_1 W)
  have HI := Lib.hid (fun (W : World) => iInf_1 W)
  have HSG := Lib.hid (fun (W : World) => iSign_1 W)
  generalize nanB 1 a = na at HN ⊢
  generalize decide (a = 31744) = ia at tI ⊢
  generalize decide (a = 32768) = sa at tS ⊢
  generalize decide (32768 ≤ a) = ga at tg HM HP ⊢
  have HR := Lib.hid (row1 a w)
  have HW1 := Lib.hid ((Below.refl w.heap.size w).alloc (Nat.le_refl _) (.cells #[.int .u64 (a : Int)] 22))
  have HL1 := Lib.hid (hl.new (.cells #[.int .u64 (a : Int)] 22))
  clear la xa ha h t0 hl
  simp only [shV] at HOF HN HNN HI HSG
  go_enter Tryd.func15, Tryd.ntmps15
  go_upto_region 2 with (go_at_call 39; (with_reducible refine (HOF.out _ _ _ HL1.out HR.out).mono ?_); rintro e w1 ⟨rfl, hbn⟩; have HW2 := Lib.hid (Fl.chain HW1.out hbn); clear hbn)
  obtain ⟨W1, hW1⟩ : ∃ W1, W1 = w1.alloc (.cells #[.int .i64 16, .int .i64 11, .int .i64 15] 48) := ⟨_, rfl⟩
  have HG := Lib.hid (show Blk W1 w1.heap.size 48 #[.int .i64 16, .int .i64 11, .int .i64 15] by rw [hW1]; exact Blk.new _ _ _)
  have HW3 := Lib.hid (show Below w.heap.size w W1 by rw [hW1]; exact HW2.out.alloc HW2.out.size _)
  have c0 := HG.out.cell 0
  have c1 := HG.out.cell 1
  have c2 := HG.out.cell 2
  rw [← hW1]
  clear hW1 HW1 HW2 HL1 HR HOF
  generalize w1.heap.size = g0 at *
  cases na
  · cases ia
    · cases sa
      · cases ga
        · have hp := HP.out rfl
          (go_wp2_with (first | (go_at_call 43; (with_reducible refine (HN.out _).mono ?_); rintro e w2 ⟨rfl, hbn⟩; (replace HG := Lib.hid (HG.out.below hbn HG.out.lt)); (have c0 := HG.out.cell 0); (have c1 := HG.out.cell 1); (have c2 := HG.out.cell 2); (replace HW3 := Lib.hid (Fl.chain HW3.out hbn)); clear hbn) | (go_at_call 44; (with_reducible refine (HNN.out _).mono ?_); rintro e w2 ⟨rfl, hbn⟩; (replace HG := Lib.hid (HG.out.below hbn HG.out.lt)); (have c0 := HG.out.cell 0); (have c1 := HG.out.cell 1); (have c2 := HG.out.cell 2); (replace HW3 := Lib.hid (Fl.chain HW3.out hbn)); clear hbn) | (go_at_call 45; (with_reducible refine (HI.out _).mono ?_); rintro e w2 ⟨rfl, hbn⟩; (replace HG := Lib.hid (HG.out.below hbn HG.out.lt)); (have c0 := HG.out.cell 0); (have c1 := HG.out.cell 1); (have c2 := HG.out.cell 2); (replace HW3 := Lib.hid (Fl.chain HW3.out hbn)); clear hbn) | (go_at_call 46; (with_reducible refine (HSG.out _).mono ?_); rintro e w2 ⟨rfl, hbn⟩; (replace HG := Lib.hid (HG.out.below hbn HG.out.lt)); (have c0 := HG.out.cell 0); (have c1 := HG.out.cell 1); (have c2 := HG.out.cell 2); (replace HW3 := Lib.hid (Fl.chain HW3.out hbn)); clear hbn)); go_ret; first | exact ⟨rfl, HW3.out⟩ | exact ⟨by rw [hm]; rfl, HW3.out⟩ | exact ⟨by rw [hp]; rfl, HW3.out⟩)
        · have hm := HM.out rfl
          (go_wp2_with (first | (go_at_call 43; (with_reducible refine (HN.out _).mono ?_); rintro e w2 ⟨rfl, hbn⟩; (replace HG := Lib.hid (HG.out.below hbn HG.out.lt)); (have c0 := HG.out.cell 0); (have c1 := HG.out.cell 1); (have c2 := HG.out.cell 2); (replace HW3 := Lib.hid (Fl.chain HW3.out hbn)); clear hbn) | (go_at_call 44; (with_reducible refine (HNN.out _).mono ?_); rintro e w2 ⟨rfl, hbn⟩; (replace HG := Lib.hid (HG.out.below hbn HG.out.lt)); (have c0 := HG.out.cell 0); (have c1 := HG.out.cell 1); (have c2 := HG.out.cell 2); (replace HW3 := Lib.hid (Fl.chain HW3.out hbn)); clear hbn) | (go_at_call 45; (with_reducible refine (HI.out _).mono ?_); rintro e w2 ⟨rfl, hbn⟩; (replace HG := Lib.hid (HG.out.below hbn HG.out.lt)); (have c0 := HG.out.cell 0); (have c1 := HG.out.cell 1); (have c2 := HG.out.cell 2); (replace HW3 := Lib.hid (Fl.chain HW3.out hbn)); clear hbn) | (go_at_call 46; (with_reducible refine (HSG.out _).mono ?_); rintro e w2 ⟨rfl, hbn⟩; (replace HG := Lib.hid (HG.out.below hbn HG.out.lt)); (have c0 := HG.out.cell 0); (have c1 := HG.out.cell 1); (have c2 := HG.out.cell 2); (replace HW3 := Lib.hid (Fl.chain HW3.out hbn)); clear hbn)); go_ret; first | exact ⟨rfl, HW3.out⟩ | exact ⟨by rw [hm]; rfl, HW3.out⟩ | exact ⟨by rw [hp]; rfl, HW3.out⟩)
      · (go_wp2_with (first | (go_at_call 43; (with_reducible refine (HN.out _).mono ?_); rintro e w2 ⟨rfl, hbn⟩; (replace HG := Lib.hid (HG.out.below hbn HG.out.lt)); (have c0 := HG.out.cell 0); (have c1 := HG.out.cell 1); (have c2 := HG.out.cell 2); (replace HW3 := Lib.hid (Fl.chain HW3.out hbn)); clear hbn) | (go_at_call 44; (with_reducible refine (HNN.out _).mono ?_); rintro e w2 ⟨rfl, hbn⟩; (replace HG := Lib.hid (HG.out.below hbn HG.out.lt)); (have c0 := HG.out.cell 0); (have c1 := HG.out.cell 1); (have c2 := HG.out.cell 2); (replace HW3 := Lib.hid (Fl.chain HW3.out hbn)); clear hbn) | (go_at_call 45; (with_reducible refine (HI.out _).mono ?_); rintro e w2 ⟨rfl, hbn⟩; (replace HG := Lib.hid (HG.out.below hbn HG.out.lt)); (have c0 := HG.out.cell 0); (have c1 := HG.out.cell 1); (have c2 := HG.out.cell 2); (replace HW3 := Lib.hid (Fl.chain HW3.out hbn)); clear hbn) | (go_at_call 46; (with_reducible refine (HSG.out _).mono ?_); rintro e w2 ⟨rfl, hbn⟩; (replace HG := Lib.hid (HG.out.below hbn HG.out.lt)); (have c0 := HG.out.cell 0); (have c1 := HG.out.cell 1); (have c2 := HG.out.cell 2); (replace HW3 := Lib.hid (Fl.chain HW3.out hbn)); clear hbn)); go_ret; first | exact ⟨rfl, HW3.out⟩ | exact ⟨by rw [hm]; rfl, HW3.out⟩ | exact ⟨by rw [hp]; rfl, HW3.out⟩)
    · (go_wp2_with (first | (go_at_call 43; (with_reducible refine (HN.out _).mono ?_); rintro e w2 ⟨rfl, hbn⟩; (replace HG := Lib.hid (HG.out.below hbn HG.out.lt)); (have c0 := HG.out.cell 0); (have c1 := HG.out.cell 1); (have c2 := HG.out.cell 2); (replace HW3 := Lib.hid (Fl.chain HW3.out hbn)); clear hbn) | (go_at_call 44; (with_reducible refine (HNN.out _).mono ?_); rintro e w2 ⟨rfl, hbn⟩; (replace HG := Lib.hid (HG.out.below hbn HG.out.lt)); (have c0 := HG.out.cell 0); (have c1 := HG.out.cell 1); (have c2 := HG.out.cell 2); (replace HW3 := Lib.hid (Fl.chain HW3.out hbn)); clear hbn) | (go_at_call 45; (with_reducible refine (HI.out _).mono ?_); rintro e w2 ⟨rfl, hbn⟩; (replace HG := Lib.hid (HG.out.below hbn HG.out.lt)); (have c0 := HG.out.cell 0); (have c1 := HG.out.cell 1); (have c2 := HG.out.cell 2); (replace HW3 := Lib.hid (Fl.chain HW3.out hbn)); clear hbn) | (go_at_call 46; (with_reducible refine (HSG.out _).mono ?_); rintro e w2 ⟨rfl, hbn⟩; (replace HG := Lib.hid (HG.out.below hbn HG.out.lt)); (have c0 := HG.out.cell 0); (have c1 := HG.out.cell 1); (have c2 := HG.out.cell 2); (replace HW3 := Lib.hid (Fl.chain HW3.out hbn)); clear hbn)); go_ret; first | exact ⟨rfl, HW3.out⟩ | exact ⟨by rw [hm]; rfl, HW3.out⟩ | exact ⟨by rw [hp]; rfl, HW3.out⟩)
  · (go_wp2_with (first | (go_at_call 43; (with_reducible refine (HN.out _).mono ?_); rintro e w2 ⟨rfl, hbn⟩; (replace HG := Lib.hid (HG.out.below hbn HG.out.lt)); (have c0 := HG.out.cell 0); (have c1 := HG.out.cell 1); (have c2 := HG.out.cell 2); (replace HW3 := Lib.hid (Fl.chain HW3.out hbn)); clear hbn) | (go_at_call 44; (with_reducible refine (HNN.out _).mono ?_); rintro e w2 ⟨rfl, hbn⟩; (replace HG := Lib.hid (HG.out.below hbn HG.out.lt)); (have c0 := HG.out.cell 0); (have c1 := HG.out.cell 1); (have c2 := HG.out.cell 2); (replace HW3 := Lib.hid (Fl.chain HW3.out hbn)); clear hbn) | (go_at_call 45; (with_reducible refine (HI.out _).mono ?_); rintro e w2 ⟨rfl, hbn⟩; (replace HG := Lib.hid (HG.out.below hbn HG.out.lt)); (have c0 := HG.out.cell 0); (have c1 := HG.out.cell 1); (have c2 := HG.out.cell 2); (replace HW3 := Lib.hid (Fl.chain HW3.out hbn)); clear hbn) | (go_at_call 46; (with_reducible refine (HSG.out _).mono ?_); rintro e w2 ⟨rfl, hbn⟩; (replace HG := Lib.hid (HG.out.below hbn HG.out.lt)); (have c0 := HG.out.cell 0); (have c1 := HG.out.cell 1); (have c2 := HG.out.cell 2); (replace HW3 := Lib.hid (Fl.chain HW3.out hbn)); clear hbn)); go_ret; first | exact ⟨rfl, HW3.out⟩ | exact ⟨by rw [hm]; rfl, HW3.out⟩ | exact ⟨by rw [hp]; rfl, HW3.out⟩)

set_option maxRecDepth 8000 in
theorem iNext_1b {a : Nat} (h : okB 1 a = false) (ha : a < 18446744073709551616) (w : World) (hl : Lk w) :
    Calls Tryd.prog 15 #[.int .i64 1, .int .u64 (a : Int)] w fun e w' => e = .returned (.int .u64 0) ∧ Below w.heap.size w w' := by
  have HOF := Lib.hid (fun (A : Option Addr) (c : Nat) (W : World) (hl : Lk W) (hr : IRow .u64 W A 1 c (nums [a])) => iOf_1 A 1 c [a] W hl hr (by intro x hx; simp at hx; rcases hx with rfl; assumption))
  rw [okL_1, h] at HOF
  have HR := Lib.hid (row1 a w)
  have HW1 := Lib.hid ((Below.refl w.heap.size w).alloc (Nat.le_refl _) (.cells #[.int .u64 (a : Int)] 22))
  have HL1 := Lib.hid (hl.new (.cells #[.int .u64 (a : Int)] 22))
  clear ha h hl
  simp only [shV] at HOF
  go_enter Tryd.func15, Tryd.ntmps15
  go_wp2_with (go_at_call 39; (with_reducible refine (HOF.out _ _ _ HL1.out HR.out).mono ?_); rintro e w1 ⟨rfl, hbn⟩; have HW2 := Lib.hid (Fl.chain HW1.out hbn); clear hbn)
  go_ret
  exact ⟨rfl, HW2.out.alloc HW2.out.size _⟩

theorem oPlain_2 (w : World) : Calls Tryd.prog 41 #[.int .i64 2] w fun e w' => e = .returned (.int .u64 2143289344) ∧ w' = w := by
  go_enter Tryd.func41, Tryd.ntmps41
  go_wp2_with (go_at_call 47; (with_reducible refine (oForm_2 _).mono ?_); rintro e w1 ⟨rfl, rfl⟩)
  all_goals (go_ret; exact ⟨rfl, rfl⟩)
theorem sSign0_2 (w : World) : Calls Tryd.prog 38 #[.int .i64 2, .bool false] w fun e w' => e = .returned (.int .u64 0) ∧ w' = w := by
  go_enter Tryd.func38, Tryd.ntmps38
  go_wp2_with (go_at_call 47; (with_reducible refine (oForm_2 _).mono ?_); rintro e w1 ⟨rfl, rfl⟩)
  all_goals (go_ret; exact ⟨rfl, rfl⟩)
theorem oInf_2 (w : World) : Calls Tryd.prog 42 #[.int .i64 2, .bool false] w fun e w' => e = .returned (.int .u64 2139095040) ∧ w' = w := by
  go_enter Tryd.func42, Tryd.ntmps42
  go_wp2_with (first
    | (go_at_call 47; (with_reducible refine (oForm_2 _).mono ?_); rintro e w1 ⟨rfl, rfl⟩)
    | (go_at_call 38; (with_reducible refine (sSign0_2 _).mono ?_); rintro e w1 ⟨rfl, rfl⟩))
  all_goals (go_ret; exact ⟨rfl, rfl⟩)

set_option maxRecDepth 8000 in
set_option maxHeartbeats 6400000 in
theorem sNext_2 {a : Nat} (h : okB 2 a = true) (ha : a < 18446744073709551616) (w : World) :
    Calls Tryd.prog 14 #[.int .i64 2, .int .u64 (a : Int)] w fun e w' => e = .returned (.int .u64 (nextS (nanB 2 a) (decide (a = 2147483648)) (decide (a = 0)) (decide (a = 2139095040)) (decide (2147483648 ≤ a)) 2143289344 (a : Int))) ∧ Below w.heap.size w w' := by
  have HA := Lib.hid (fun (W : World) => sAre (f := 2) ha W)
  rw [h] at HA
  have HU := Lib.hid (fun (W : World) => sUnpK (f := 2) ha W)
  have la : a < 4294967296 := by simpa [okB] using h
  have tI : ((a : Int) == 2139095040) = decide (a = 2139095040) := beq_dec a 2139095040
  have tS : ((a : Int) == 2147483648) = decide (a = 2147483648) := beq_dec a 2147483648
  have t0 : ((a : Int) == 0) = decide (a = 0) := beq_dec a 0
  have xa : Go.bits .and .u64 (a : Int) 2147483648 = ((a / 2147483648 * 2147483648 : Nat) : Int) := and_pow (s := 31) (by decide) la
  have tg : (Go.bits .and .u64 (a : Int) 2147483648 != 0) = decide (2147483648 ≤ a) := by
    rw [xa]
    by_cases h : 2147483648 ≤ a
    · rw [decide_eq_true h, bne_iff_ne]; omega
    · rw [decide_eq_false h, bne_eq_false_iff_eq]; omega
  have HM := Lib.hid (show decide (2147483648 ≤ a) = true → IntKind.u64.wrap ((a : Int) - 1) = (a : Int) - 1 from fun h => IntWalk.u64_in _ ⟨by have := of_decide_eq_true h; omega, by omega⟩)
  have HP := Lib.hid (show decide (2147483648 ≤ a) = false → IntKind.u64.wrap ((a : Int) + 1) = (a : Int) + 1 from fun h => IntWalk.u64_in _ ⟨by omega, by have := of_decide_eq_false h; omega⟩)
  have HNA := Lib.hid (show ∀ k : Int, KindIs 2 a k → (k == 3) = nanB 2 a from fun k hk => hk.2.2 h)
  generalize nanB 2 a = na at HNA ⊢
  generalize decide (a = 2139095040) = ia at tI ⊢
  generalize decide (a = 2147483648) = sa at tS ⊢
  generalize decide (a = 0) = za at t0 ⊢
  generalize decide (2147483648 ≤ a) = ga at tg HM HP ⊢
  clear la xa ha h
  cases na
  · cases sa
    · cases za
      · cases ia
        · cases ga
          · have hp := HP.out rfl
            (go_enter Tryd.func14, Tryd.ntmps14; go_wp2_with (first | (go_at_call 37; (with_reducible refine (HA.out _).mono ?_); rintro e w1 ⟨rfl, rfl⟩) | (go_at_call 38; (with_reducible refine (sSignOf_2 _).mono ?_); rintro e w1 ⟨rfl, rfl⟩) | (go_at_call 16; (with_reducible refine (HU.out _).mono ?_); rintro e w1 ⟨k1, n1, x1, m1, rfl, hk1, hbn⟩; have tk := HNA.out _ hk1; have hfl := hfieldN k1 n1 x1 m1; have HB1 := Lib.hid hbn; clear hbn hk1) | (go_at_call 41; (with_reducible refine (oPlain_2 _).mono ?_); rintro e w1 ⟨rfl, rfl⟩) | (go_at_call 42; (with_reducible refine (oInf_2 _).mono ?_); rintro e w1 ⟨rfl, rfl⟩)); go_ret; first | exact ⟨rfl, HB1.out⟩ | exact ⟨by rw [hm]; rfl, HB1.out⟩ | exact ⟨by rw [hp]; rfl, HB1.out⟩)
          · have hm := HM.out rfl
            (go_enter Tryd.func14, Tryd.ntmps14; go_wp2_with (first | (go_at_call 37; (with_reducible refine (HA.out _).mono ?_); rintro e w1 ⟨rfl, rfl⟩) | (go_at_call 38; (with_reducible refine (sSignOf_2 _).mono ?_); rintro e w1 ⟨rfl, rfl⟩) | (go_at_call 16; (with_reducible refine (HU.out _).mono ?_); rintro e w1 ⟨k1, n1, x1, m1, rfl, hk1, hbn⟩; have tk := HNA.out _ hk1; have hfl := hfieldN k1 n1 x1 m1; have HB1 := Lib.hid hbn; clear hbn hk1) | (go_at_call 41; (with_reducible refine (oPlain_2 _).mono ?_); rintro e w1 ⟨rfl, rfl⟩) | (go_at_call 42; (with_reducible refine (oInf_2 _).mono ?_); rintro e w1 ⟨rfl, rfl⟩)); go_ret; first | exact ⟨rfl, HB1.out⟩ | exact ⟨by rw [hm]; rfl, HB1.out⟩ | exact ⟨by rw [hp]; rfl, HB1.out⟩)
        · (go_enter Tryd.func14, Tryd.ntmps14; go_wp2_with (first | (go_at_call 37; (with_reducible refine (HA.out _).mono ?_); rintro e w1 ⟨rfl, rfl⟩) | (go_at_call 38; (with_reducible refine (sSignOf_2 _).mono ?_); rintro e w1 ⟨rfl, rfl⟩) | (go_at_call 16; (with_reducible refine (HU.out _).mono ?_); rintro e w1 ⟨k1, n1, x1, m1, rfl, hk1, hbn⟩; have tk := HNA.out _ hk1; have hfl := hfieldN k1 n1 x1 m1; have HB1 := Lib.hid hbn; clear hbn hk1) | (go_at_call 41; (with_reducible refine (oPlain_2 _).mono ?_); rintro e w1 ⟨rfl, rfl⟩) | (go_at_call 42; (with_reducible refine (oInf_2 _).mono ?_); rintro e w1 ⟨rfl, rfl⟩)); go_ret; first | exact ⟨rfl, HB1.out⟩ | exact ⟨by rw [hm]; rfl, HB1.out⟩ | exact ⟨by rw [hp]; rfl, HB1.out⟩)
      · (go_enter Tryd.func14, Tryd.ntmps14; go_wp2_with (first | (go_at_call 37; (with_reducible refine (HA.out _).mono ?_); rintro e w1 ⟨rfl, rfl⟩) | (go_at_call 38; (with_reducible refine (sSignOf_2 _).mono ?_); rintro e w1 ⟨rfl, rfl⟩) | (go_at_call 16; (with_reducible refine (HU.out _).mono ?_); rintro e w1 ⟨k1, n1, x1, m1, rfl, hk1, hbn⟩; have tk := HNA.out _ hk1; have hfl := hfieldN k1 n1 x1 m1; have HB1 := Lib.hid hbn; clear hbn hk1) | (go_at_call 41; (with_reducible refine (oPlain_2 _).mono ?_); rintro e w1 ⟨rfl, rfl⟩) | (go_at_call 42; (with_reducible refine (oInf_2 _).mono ?_); rintro e w1 ⟨rfl, rfl⟩)); go_ret; first | exact ⟨rfl, HB1.out⟩ | exact ⟨by rw [hm]; rfl, HB1.out⟩ | exact ⟨by rw [hp]; rfl, HB1.out⟩)
    · (go_enter Tryd.func14, Tryd.ntmps14; go_wp2_with (first | (go_at_call 37; (with_reducible refine (HA.out _).mono ?_); rintro e w1 ⟨rfl, rfl⟩) | (go_at_call 38; (with_reducible refine (sSignOf_2 _).mono ?_); rintro e w1 ⟨rfl, rfl⟩) | (go_at_call 16; (with_reducible refine (HU.out _).mono ?_); rintro e w1 ⟨k1, n1, x1, m1, rfl, hk1, hbn⟩; have tk := HNA.out _ hk1; have hfl := hfieldN k1 n1 x1 m1; have HB1 := Lib.hid hbn; clear hbn hk1) | (go_at_call 41; (with_reducible refine (oPlain_2 _).mono ?_); rintro e w1 ⟨rfl, rfl⟩) | (go_at_call 42; (with_reducible refine (oInf_2 _).mono ?_); rintro e w1 ⟨rfl, rfl⟩)); go_ret; first | exact ⟨rfl, HB1.out⟩ | exact ⟨by rw [hm]; rfl, HB1.out⟩ | exact ⟨by rw [hp]; rfl, HB1.out⟩)
  · (go_enter Tryd.func14, Tryd.ntmps14; go_wp2_with (first | (go_at_call 37; (with_reducible refine (HA.out _).mono ?_); rintro e w1 ⟨rfl, rfl⟩) | (go_at_call 38; (with_reducible refine (sSignOf_2 _).mono ?_); rintro e w1 ⟨rfl, rfl⟩) | (go_at_call 16; (with_reducible refine (HU.out _).mono ?_); rintro e w1 ⟨k1, n1, x1, m1, rfl, hk1, hbn⟩; have tk := HNA.out _ hk1; have hfl := hfieldN k1 n1 x1 m1; have HB1 := Lib.hid hbn; clear hbn hk1) | (go_at_call 41; (with_reducible refine (oPlain_2 _).mono ?_); rintro e w1 ⟨rfl, rfl⟩) | (go_at_call 42; (with_reducible refine (oInf_2 _).mono ?_); rintro e w1 ⟨rfl, rfl⟩)); go_ret; first | exact ⟨rfl, HB1.out⟩ | exact ⟨by rw [hm]; rfl, HB1.out⟩ | exact ⟨by rw [hp]; rfl, HB1.out⟩)

set_option maxRecDepth 8000 in
set_option maxHeartbeats 6400000 in
theorem iNext_2 {a : Nat} (h : okB 2 a = true) (ha : a < 18446744073709551616) (w : World) (hl : Lk w) :
    Calls Tryd.prog 15 #[.int .i64 2, .int .u64 (a : Int)] w fun e w' => e = .returned (.int .u64 (nextR (nanB 2 a) (decide (a = 2139095040)) (decide (a = 2147483648)) (decide (2147483648 ≤ a)) 2143289344 (a : Int))) ∧ Below w.heap.size w w' := by
  have HOF := Lib.hid (fun (A : Option Addr) (c : Nat) (W : World) (hl : Lk W) (hr : IRow .u64 W A 1 c (nums [a])) => iOf_2 A 1 c [a] W hl hr (by intro x hx; simp at hx; rcases hx with rfl; assumption))
  rw [okL_1, h] at HOF
  have la : a < 4294967296 := by simpa [okB] using h
  have tI : ((a : Int) == 2139095040) = decide (a = 2139095040) := beq_dec a 2139095040
  have tS : ((a : Int) == 2147483648) = decide (a = 2147483648) := beq_dec a 2147483648
  have t0 : ((a : Int) == 0) = decide (a = 0) := beq_dec a 0
  have xa : Go.bits .and .u64 (a : Int) 2147483648 = ((a / 2147483648 * 2147483648 : Nat) : Int) := and_pow (s := 31) (by decide) la
  have tg : (Go.bits .and .u64 (a : Int) 2147483648 != 0) = decide (2147483648 ≤ a) := by
    rw [xa]
    by_cases h : 2147483648 ≤ a
    · rw [decide_eq_true h, bne_iff_ne]; omega
    · rw [decide_eq_false h, bne_eq_false_iff_eq]; omega
  have HM := Lib.hid (show decide (2147483648 ≤ a) = true → IntKind.u64.wrap ((a : Int) - 1) = (a : Int) - 1 from fun h => IntWalk.u64_in _ ⟨by have := of_decide_eq_true h; omega, by omega⟩)
  have HP := Lib.hid (show decide (2147483648 ≤ a) = false → IntKind.u64.wrap ((a : Int) + 1) = (a : Int) + 1 from fun h => IntWalk.u64_in _ ⟨by omega, by have := of_decide_eq_false h; omega⟩)
  have HN := Lib.hid (fun (W : World) => iIsNan_2 la W)
  have HNN := Lib.hid (fun (W : World) => iNan_2 W)
  have HI := Lib.hid (fun (W : World) => iInf_2 W)
  have HSG := Lib.hid (fun (W : World) => iSign_2 W)
  generalize nanB 2 a = na at HN ⊢
  generalize decide (a = 2139095040) = ia at tI ⊢
  generalize decide (a = 2147483648) = sa at tS ⊢
  generalize decide (2147483648 ≤ a) = ga at tg HM HP ⊢
  have HR := Lib.hid (row1 a w)
  have HW1 := Lib.hid ((Below.refl w.heap.size w).alloc (Nat.le_refl _) (.cells #[.int .u64 (a : Int)] 22))
  have HL1 := Lib.hid (hl.new (.cells #[.int .u64 (a : Int)] 22))
  clear la xa ha h t0 hl
  simp only [shV] at HOF HN HNN HI HSG
  go_enter Tryd.func15, Tryd.ntmps15
  go_upto_region 2 with (go_at_call 39; (with_reducible refine (HOF.out _ _ _ HL1.out HR.out).mono ?_); rintro e w1 ⟨rfl, hbn⟩; have HW2 := Lib.hid (Fl.chain HW1.out hbn); clear hbn)
  obtain ⟨W1, hW1⟩ : ∃ W1, W1 = w1.alloc (.cells #[.int .i64 32, .int .i64 24, .int .i64 127] 48) := ⟨_, rfl⟩
  have HG := Lib.hid (show Blk W1 w1.heap.size 48 #[.int .i64 32, .int .i64 24, .int .i64 127] by rw [hW1]; exact Blk.new _ _ _)
  have HW3 := Lib.hid (show Below w.heap.size w W1 by rw [hW1]; exact HW2.out.alloc HW2.out.size _)
  have c0 := HG.out.cell 0
  have c1 := HG.out.cell 1
  have c2 := HG.out.cell 2
  rw [← hW1]
  clear hW1 HW1 HW2 HL1 HR HOF
  generalize w1.heap.size = g0 at *
  cases na
  · cases ia
    · cases sa
      · cases ga
        · have hp := HP.out rfl
          (go_wp2_with (first | (go_at_call 43; (with_reducible refine (HN.out _).mono ?_); rintro e w2 ⟨rfl, hbn⟩; (replace HG := Lib.hid (HG.out.below hbn HG.out.lt)); (have c0 := HG.out.cell 0); (have c1 := HG.out.cell 1); (have c2 := HG.out.cell 2); (replace HW3 := Lib.hid (Fl.chain HW3.out hbn)); clear hbn) | (go_at_call 44; (with_reducible refine (HNN.out _).mono ?_); rintro e w2 ⟨rfl, hbn⟩; (replace HG := Lib.hid (HG.out.below hbn HG.out.lt)); (have c0 := HG.out.cell 0); (have c1 := HG.out.cell 1); (have c2 := HG.out.cell 2); (replace HW3 := Lib.hid (Fl.chain HW3.out hbn)); clear hbn) | (go_at_call 45; (with_reducible refine (HI.out _).mono ?_); rintro e w2 ⟨rfl, hbn⟩; (replace HG := Lib.hid (HG.out.below hbn HG.out.lt)); (have c0 := HG.out.cell 0); (have c1 := HG.out.cell 1); (have c2 := HG.out.cell 2); (replace HW3 := Lib.hid (Fl.chain HW3.out hbn)); clear hbn) | (go_at_call 46; (with_reducible refine (HSG.out _).mono ?_); rintro e w2 ⟨rfl, hbn⟩; (replace HG := Lib.hid (HG.out.below hbn HG.out.lt)); (have c0 := HG.out.cell 0); (have c1 := HG.out.cell 1); (have c2 := HG.out.cell 2); (replace HW3 := Lib.hid (Fl.chain HW3.out hbn)); clear hbn)); go_ret; first | exact ⟨rfl, HW3.out⟩ | exact ⟨by rw [hm]; rfl, HW3.out⟩ | exact ⟨by rw [hp]; rfl, HW3.out⟩)
        · have hm := HM.out rfl
          (go_wp2_with (first | (go_at_call 43; (with_reducible refine (HN.out _).mono ?_); rintro e w2 ⟨rfl, hbn⟩; (replace HG := Lib.hid (HG.out.below hbn HG.out.lt)); (have c0 := HG.out.cell 0); (have c1 := HG.out.cell 1); (have c2 := HG.out.cell 2); (replace HW3 := Lib.hid (Fl.chain HW3.out hbn)); clear hbn) | (go_at_call 44; (with_reducible refine (HNN.out _).mono ?_); rintro e w2 ⟨rfl, hbn⟩; (replace HG := Lib.hid (HG.out.below hbn HG.out.lt)); (have c0 := HG.out.cell 0); (have c1 := HG.out.cell 1); (have c2 := HG.out.cell 2); (replace HW3 := Lib.hid (Fl.chain HW3.out hbn)); clear hbn) | (go_at_call 45; (with_reducible refine (HI.out _).mono ?_); rintro e w2 ⟨rfl, hbn⟩; (replace HG := Lib.hid (HG.out.below hbn HG.out.lt)); (have c0 := HG.out.cell 0); (have c1 := HG.out.cell 1); (have c2 := HG.out.cell 2); (replace HW3 := Lib.hid (Fl.chain HW3.out hbn)); clear hbn) | (go_at_call 46; (with_reducible refine (HSG.out _).mono ?_); rintro e w2 ⟨rfl, hbn⟩; (replace HG := Lib.hid (HG.out.below hbn HG.out.lt)); (have c0 := HG.out.cell 0); (have c1 := HG.out.cell 1); (have c2 := HG.out.cell 2); (replace HW3 := Lib.hid (Fl.chain HW3.out hbn)); clear hbn)); go_ret; first | exact ⟨rfl, HW3.out⟩ | exact ⟨by rw [hm]; rfl, HW3.out⟩ | exact ⟨by rw [hp]; rfl, HW3.out⟩)
      · (go_wp2_with (first | (go_at_call 43; (with_reducible refine (HN.out _).mono ?_); rintro e w2 ⟨rfl, hbn⟩; (replace HG := Lib.hid (HG.out.below hbn HG.out.lt)); (have c0 := HG.out.cell 0); (have c1 := HG.out.cell 1); (have c2 := HG.out.cell 2); (replace HW3 := Lib.hid (Fl.chain HW3.out hbn)); clear hbn) | (go_at_call 44; (with_reducible refine (HNN.out _).mono ?_); rintro e w2 ⟨rfl, hbn⟩; (replace HG := Lib.hid (HG.out.below hbn HG.out.lt)); (have c0 := HG.out.cell 0); (have c1 := HG.out.cell 1); (have c2 := HG.out.cell 2); (replace HW3 := Lib.hid (Fl.chain HW3.out hbn)); clear hbn) | (go_at_call 45; (with_reducible refine (HI.out _).mono ?_); rintro e w2 ⟨rfl, hbn⟩; (replace HG := Lib.hid (HG.out.below hbn HG.out.lt)); (have c0 := HG.out.cell 0); (have c1 := HG.out.cell 1); (have c2 := HG.out.cell 2); (replace HW3 := Lib.hid (Fl.chain HW3.out hbn)); clear hbn) | (go_at_call 46; (with_reducible refine (HSG.out _).mono ?_); rintro e w2 ⟨rfl, hbn⟩; (replace HG := Lib.hid (HG.out.below hbn HG.out.lt)); (have c0 := HG.out.cell 0); (have c1 := HG.out.cell 1); (have c2 := HG.out.cell 2); (replace HW3 := Lib.hid (Fl.chain HW3.out hbn)); clear hbn)); go_ret; first | exact ⟨rfl, HW3.out⟩ | exact ⟨by rw [hm]; rfl, HW3.out⟩ | exact ⟨by rw [hp]; rfl, HW3.out⟩)
    · (go_wp2_with (first | (go_at_call 43; (with_reducible refine (HN.out _).mono ?_); rintro e w2 ⟨rfl, hbn⟩; (replace HG := Lib.hid (HG.out.below hbn HG.out.lt)); (have c0 := HG.out.cell 0); (have c1 := HG.out.cell 1); (have c2 := HG.out.cell 2); (replace HW3 := Lib.hid (Fl.chain HW3.out hbn)); clear hbn) | (go_at_call 44; (with_reducible refine (HNN.out _).mono ?_); rintro e w2 ⟨rfl, hbn⟩; (replace HG := Lib.hid (HG.out.below hbn HG.out.lt)); (have c0 := HG.out.cell 0); (have c1 := HG.out.cell 1); (have c2 := HG.out.cell 2); (replace HW3 := Lib.hid (Fl.chain HW3.out hbn)); clear hbn) | (go_at_call 45; (with_reducible refine (HI.out _).mono ?_); rintro e w2 ⟨rfl, hbn⟩; (replace HG := Lib.hid (HG.out.below hbn HG.out.lt)); (have c0 := HG.out.cell 0); (have c1 := HG.out.cell 1); (have c2 := HG.out.cell 2); (replace HW3 := Lib.hid (Fl.chain HW3.out hbn)); clear hbn) | (go_at_call 46; (with_reducible refine (HSG.out _).mono ?_); rintro e w2 ⟨rfl, hbn⟩; (replace HG := Lib.hid (HG.out.below hbn HG.out.lt)); (have c0 := HG.out.cell 0); (have c1 := HG.out.cell 1); (have c2 := HG.out.cell 2); (replace HW3 := Lib.hid (Fl.chain HW3.out hbn)); clear hbn)); go_ret; first | exact ⟨rfl, HW3.out⟩ | exact ⟨by rw [hm]; rfl, HW3.out⟩ | exact ⟨by rw [hp]; rfl, HW3.out⟩)
  · (go_wp2_with (first | (go_at_call 43; (with_reducible refine (HN.out _).mono ?_); rintro e w2 ⟨rfl, hbn⟩; (replace HG := Lib.hid (HG.out.below hbn HG.out.lt)); (have c0 := HG.out.cell 0); (have c1 := HG.out.cell 1); (have c2 := HG.out.cell 2); (replace HW3 := Lib.hid (Fl.chain HW3.out hbn)); clear hbn) | (go_at_call 44; (with_reducible refine (HNN.out _).mono ?_); rintro e w2 ⟨rfl, hbn⟩; (replace HG := Lib.hid (HG.out.below hbn HG.out.lt)); (have c0 := HG.out.cell 0); (have c1 := HG.out.cell 1); (have c2 := HG.out.cell 2); (replace HW3 := Lib.hid (Fl.chain HW3.out hbn)); clear hbn) | (go_at_call 45; (with_reducible refine (HI.out _).mono ?_); rintro e w2 ⟨rfl, hbn⟩; (replace HG := Lib.hid (HG.out.below hbn HG.out.lt)); (have c0 := HG.out.cell 0); (have c1 := HG.out.cell 1); (have c2 := HG.out.cell 2); (replace HW3 := Lib.hid (Fl.chain HW3.out hbn)); clear hbn) | (go_at_call 46; (with_reducible refine (HSG.out _).mono ?_); rintro e w2 ⟨rfl, hbn⟩; (replace HG := Lib.hid (HG.out.below hbn HG.out.lt)); (have c0 := HG.out.cell 0); (have c1 := HG.out.cell 1); (have c2 := HG.out.cell 2); (replace HW3 := Lib.hid (Fl.chain HW3.out hbn)); clear hbn)); go_ret; first | exact ⟨rfl, HW3.out⟩ | exact ⟨by rw [hm]; rfl, HW3.out⟩ | exact ⟨by rw [hp]; rfl, HW3.out⟩)

set_option maxRecDepth 8000 in
theorem iNext_2b {a : Nat} (h : okB 2 a = false) (ha : a < 18446744073709551616) (w : World) (hl : Lk w) :
    Calls Tryd.prog 15 #[.int .i64 2, .int .u64 (a : Int)] w fun e w' => e = .returned (.int .u64 0) ∧ Below w.heap.size w w' := by
  have HOF := Lib.hid (fun (A : Option Addr) (c : Nat) (W : World) (hl : Lk W) (hr : IRow .u64 W A 1 c (nums [a])) => iOf_2 A 1 c [a] W hl hr (by intro x hx; simp at hx; rcases hx with rfl; assumption))
  rw [okL_1, h] at HOF
  have HR := Lib.hid (row1 a w)
  have HW1 := Lib.hid ((Below.refl w.heap.size w).alloc (Nat.le_refl _) (.cells #[.int .u64 (a : Int)] 22))
  have HL1 := Lib.hid (hl.new (.cells #[.int .u64 (a : Int)] 22))
  clear ha h hl
  simp only [shV] at HOF
  go_enter Tryd.func15, Tryd.ntmps15
  go_wp2_with (go_at_call 39; (with_reducible refine (HOF.out _ _ _ HL1.out HR.out).mono ?_); rintro e w1 ⟨rfl, hbn⟩; have HW2 := Lib.hid (Fl.chain HW1.out hbn); clear hbn)
  go_ret
  exact ⟨rfl, HW2.out.alloc HW2.out.size _⟩

theorem oPlain_3 (w : World) : Calls Tryd.prog 41 #[.int .i64 3] w fun e w' => e = .returned (.int .u64 9221120237041090560) ∧ w' = w := by
  go_enter Tryd.func41, Tryd.ntmps41
  go_wp2_with (go_at_call 47; (with_reducible refine (oForm_3 _).mono ?_); rintro e w1 ⟨rfl, rfl⟩)
  all_goals (go_ret; exact ⟨rfl, rfl⟩)
theorem sSign0_3 (w : World) : Calls Tryd.prog 38 #[.int .i64 3, .bool false] w fun e w' => e = .returned (.int .u64 0) ∧ w' = w := by
  go_enter Tryd.func38, Tryd.ntmps38
  go_wp2_with (go_at_call 47; (with_reducible refine (oForm_3 _).mono ?_); rintro e w1 ⟨rfl, rfl⟩)
  all_goals (go_ret; exact ⟨rfl, rfl⟩)
theorem oInf_3 (w : World) : Calls Tryd.prog 42 #[.int .i64 3, .bool false] w fun e w' => e = .returned (.int .u64 9218868437227405312) ∧ w' = w := by
  go_enter Tryd.func42, Tryd.ntmps42
  go_wp2_with (first
    | (go_at_call 47; (with_reducible refine (oForm_3 _).mono ?_); rintro e w1 ⟨rfl, rfl⟩)
    | (go_at_call 38; (with_reducible refine (sSign0_3 _).mono ?_); rintro e w1 ⟨rfl, rfl⟩))
  all_goals (go_ret; exact ⟨rfl, rfl⟩)

set_option maxRecDepth 8000 in
set_option maxHeartbeats 6400000 in
theorem sNext_3 {a : Nat} (h : okB 3 a = true) (ha : a < 18446744073709551616) (w : World) :
    Calls Tryd.prog 14 #[.int .i64 3, .int .u64 (a : Int)] w fun e w' => e = .returned (.int .u64 (nextS (nanB 3 a) (decide (a = 9223372036854775808)) (decide (a = 0)) (decide (a = 9218868437227405312)) (decide (9223372036854775808 ≤ a)) 9221120237041090560 (a : Int))) ∧ Below w.heap.size w w' := by
  have HA := Lib.hid (fun (W : World) => sAre (f := 3) ha W)
  rw [h] at HA
  have HU := Lib.hid (fun (W : World) => sUnpK (f := 3) ha W)
  have la : a < 18446744073709551616 := ha
  have tI : ((a : Int) == 9218868437227405312) = decide (a = 9218868437227405312) := beq_dec a 9218868437227405312
  have tS : ((a : Int) == 9223372036854775808) = decide (a = 9223372036854775808) := beq_dec a 9223372036854775808
  have t0 : ((a : Int) == 0) = decide (a = 0) := beq_dec a 0
  have xa : Go.bits .and .u64 (a : Int) 9223372036854775808 = ((a / 9223372036854775808 * 9223372036854775808 : Nat) : Int) := and_pow (s := 63) (by decide) la
  have tg : (Go.bits .and .u64 (a : Int) 9223372036854775808 != 0) = decide (9223372036854775808 ≤ a) := by
    rw [xa]
    by_cases h : 9223372036854775808 ≤ a
    · rw [decide_eq_true h, bne_iff_ne]; omega
    · rw [decide_eq_false h, bne_eq_false_iff_eq]; omega
  have HM := Lib.hid (show decide (9223372036854775808 ≤ a) = true → IntKind.u64.wrap ((a : Int) - 1) = (a : Int) - 1 from fun h => IntWalk.u64_in _ ⟨by have := of_decide_eq_true h; omega, by omega⟩)
  have HP := Lib.hid (show decide (9223372036854775808 ≤ a) = false → IntKind.u64.wrap ((a : Int) + 1) = (a : Int) + 1 from fun h => IntWalk.u64_in _ ⟨by omega, by have := of_decide_eq_false h; omega⟩)
  have HNA := Lib.hid (show ∀ k : Int, KindIs 3 a k → (k == 3) = nanB 3 a from fun k hk => hk.2.2 h)
  generalize nanB 3 a = na at HNA ⊢
  generalize decide (a = 9218868437227405312) = ia at tI ⊢
  generalize decide (a = 9223372036854775808) = sa at tS ⊢
  generalize decide (a = 0) = za at t0 ⊢
  generalize decide (9223372036854775808 ≤ a) = ga at tg HM HP ⊢
  clear la xa ha h
  cases na
  · cases sa
    · cases za
      · cases ia
        · cases ga
          · have hp := HP.out rfl
            (go_enter Tryd.func14, Tryd.ntmps14; go_wp2_with (first | (go_at_call 37; (with_reducible refine (HA.out _).mono ?_); rintro e w1 ⟨rfl, rfl⟩) | (go_at_call 38; (with_reducible refine (sSignOf_3 _).mono ?_); rintro e w1 ⟨rfl, rfl⟩) | (go_at_call 16; (with_reducible refine (HU.out _).mono ?_); rintro e w1 ⟨k1, n1, x1, m1, rfl, hk1, hbn⟩; have tk := HNA.out _ hk1; have hfl := hfieldN k1 n1 x1 m1; have HB1 := Lib.hid hbn; clear hbn hk1) | (go_at_call 41; (with_reducible refine (oPlain_3 _).mono ?_); rintro e w1 ⟨rfl, rfl⟩) | (go_at_call 42; (with_reducible refine (oInf_3 _).mono ?_); rintro e w1 ⟨rfl, rfl⟩)); go_ret; first | exact ⟨rfl, HB1.out⟩ | exact ⟨by rw [hm]; rfl, HB1.out⟩ | exact ⟨by rw [hp]; rfl, HB1.out⟩)
          · have hm := HM.out rfl
            (go_enter Tryd.func14, Tryd.ntmps14; go_wp2_with (first | (go_at_call 37; (with_reducible refine (HA.out _).mono ?_); rintro e w1 ⟨rfl, rfl⟩) | (go_at_call 38; (with_reducible refine (sSignOf_3 _).mono ?_); rintro e w1 ⟨rfl, rfl⟩) | (go_at_call 16; (with_reducible refine (HU.out _).mono ?_); rintro e w1 ⟨k1, n1, x1, m1, rfl, hk1, hbn⟩; have tk := HNA.out _ hk1; have hfl := hfieldN k1 n1 x1 m1; have HB1 := Lib.hid hbn; clear hbn hk1) | (go_at_call 41; (with_reducible refine (oPlain_3 _).mono ?_); rintro e w1 ⟨rfl, rfl⟩) | (go_at_call 42; (with_reducible refine (oInf_3 _).mono ?_); rintro e w1 ⟨rfl, rfl⟩)); go_ret; first | exact ⟨rfl, HB1.out⟩ | exact ⟨by rw [hm]; rfl, HB1.out⟩ | exact ⟨by rw [hp]; rfl, HB1.out⟩)
        · (go_enter Tryd.func14, Tryd.ntmps14; go_wp2_with (first | (go_at_call 37; (with_reducible refine (HA.out _).mono ?_); rintro e w1 ⟨rfl, rfl⟩) | (go_at_call 38; (with_reducible refine (sSignOf_3 _).mono ?_); rintro e w1 ⟨rfl, rfl⟩) | (go_at_call 16; (with_reducible refine (HU.out _).mono ?_); rintro e w1 ⟨k1, n1, x1, m1, rfl, hk1, hbn⟩; have tk := HNA.out _ hk1; have hfl := hfieldN k1 n1 x1 m1; have HB1 := Lib.hid hbn; clear hbn hk1) | (go_at_call 41; (with_reducible refine (oPlain_3 _).mono ?_); rintro e w1 ⟨rfl, rfl⟩) | (go_at_call 42; (with_reducible refine (oInf_3 _).mono ?_); rintro e w1 ⟨rfl, rfl⟩)); go_ret; first | exact ⟨rfl, HB1.out⟩ | exact ⟨by rw [hm]; rfl, HB1.out⟩ | exact ⟨by rw [hp]; rfl, HB1.out⟩)
      · (go_enter Tryd.func14, Tryd.ntmps14; go_wp2_with (first | (go_at_call 37; (with_reducible refine (HA.out _).mono ?_); rintro e w1 ⟨rfl, rfl⟩) | (go_at_call 38; (with_reducible refine (sSignOf_3 _).mono ?_); rintro e w1 ⟨rfl, rfl⟩) | (go_at_call 16; (with_reducible refine (HU.out _).mono ?_); rintro e w1 ⟨k1, n1, x1, m1, rfl, hk1, hbn⟩; have tk := HNA.out _ hk1; have hfl := hfieldN k1 n1 x1 m1; have HB1 := Lib.hid hbn; clear hbn hk1) | (go_at_call 41; (with_reducible refine (oPlain_3 _).mono ?_); rintro e w1 ⟨rfl, rfl⟩) | (go_at_call 42; (with_reducible refine (oInf_3 _).mono ?_); rintro e w1 ⟨rfl, rfl⟩)); go_ret; first | exact ⟨rfl, HB1.out⟩ | exact ⟨by rw [hm]; rfl, HB1.out⟩ | exact ⟨by rw [hp]; rfl, HB1.out⟩)
    · (go_enter Tryd.func14, Tryd.ntmps14; go_wp2_with (first | (go_at_call 37; (with_reducible refine (HA.out _).mono ?_); rintro e w1 ⟨rfl, rfl⟩) | (go_at_call 38; (with_reducible refine (sSignOf_3 _).mono ?_); rintro e w1 ⟨rfl, rfl⟩) | (go_at_call 16; (with_reducible refine (HU.out _).mono ?_); rintro e w1 ⟨k1, n1, x1, m1, rfl, hk1, hbn⟩; have tk := HNA.out _ hk1; have hfl := hfieldN k1 n1 x1 m1; have HB1 := Lib.hid hbn; clear hbn hk1) | (go_at_call 41; (with_reducible refine (oPlain_3 _).mono ?_); rintro e w1 ⟨rfl, rfl⟩) | (go_at_call 42; (with_reducible refine (oInf_3 _).mono ?_); rintro e w1 ⟨rfl, rfl⟩)); go_ret; first | exact ⟨rfl, HB1.out⟩ | exact ⟨by rw [hm]; rfl, HB1.out⟩ | exact ⟨by rw [hp]; rfl, HB1.out⟩)
  · (go_enter Tryd.func14, Tryd.ntmps14; go_wp2_with (first | (go_at_call 37; (with_reducible refine (HA.out _).mono ?_); rintro e w1 ⟨rfl, rfl⟩) | (go_at_call 38; (with_reducible refine (sSignOf_3 _).mono ?_); rintro e w1 ⟨rfl, rfl⟩) | (go_at_call 16; (with_reducible refine (HU.out _).mono ?_); rintro e w1 ⟨k1, n1, x1, m1, rfl, hk1, hbn⟩; have tk := HNA.out _ hk1; have hfl := hfieldN k1 n1 x1 m1; have HB1 := Lib.hid hbn; clear hbn hk1) | (go_at_call 41; (with_reducible refine (oPlain_3 _).mono ?_); rintro e w1 ⟨rfl, rfl⟩) | (go_at_call 42; (with_reducible refine (oInf_3 _).mono ?_); rintro e w1 ⟨rfl, rfl⟩)); go_ret; first | exact ⟨rfl, HB1.out⟩ | exact ⟨by rw [hm]; rfl, HB1.out⟩ | exact ⟨by rw [hp]; rfl, HB1.out⟩)

set_option maxRecDepth 8000 in
set_option maxHeartbeats 6400000 in
theorem iNext_3 {a : Nat} (h : okB 3 a = true) (ha : a < 18446744073709551616) (w : World) (hl : Lk w) :
    Calls Tryd.prog 15 #[.int .i64 3, .int .u64 (a : Int)] w fun e w' => e = .returned (.int .u64 (nextR (nanB 3 a) (decide (a = 9218868437227405312)) (decide (a = 9223372036854775808)) (decide (9223372036854775808 ≤ a)) 9221120237041090560 (a : Int))) ∧ Below w.heap.size w w' := by
  have HOF := Lib.hid (fun (A : Option Addr) (c : Nat) (W : World) (hl : Lk W) (hr : IRow .u64 W A 1 c (nums [a])) => iOf_3 A 1 c [a] W hl hr (by intro x hx; simp at hx; rcases hx with rfl; assumption))
  rw [okL_1, h] at HOF
  have la : a < 18446744073709551616 := ha
  have tI : ((a : Int) == 9218868437227405312) = decide (a = 9218868437227405312) := beq_dec a 9218868437227405312
  have tS : ((a : Int) == 9223372036854775808) = decide (a = 9223372036854775808) := beq_dec a 9223372036854775808
  have t0 : ((a : Int) == 0) = decide (a = 0) := beq_dec a 0
  have xa : Go.bits .and .u64 (a : Int) 9223372036854775808 = ((a / 9223372036854775808 * 9223372036854775808 : Nat) : Int) := and_pow (s := 63) (by decide) la
  have tg : (Go.bits .and .u64 (a : Int) 9223372036854775808 != 0) = decide (9223372036854775808 ≤ a) := by
    rw [xa]
    by_cases h : 9223372036854775808 ≤ a
    · rw [decide_eq_true h, bne_iff_ne]; omega
    · rw [decide_eq_false h, bne_eq_false_iff_eq]; omega
  have HM := Lib.hid (show decide (9223372036854775808 ≤ a) = true → IntKind.u64.wrap ((a : Int) - 1) = (a : Int) - 1 from fun h => IntWalk.u64_in _ ⟨by have := of_decide_eq_true h; omega, by omega⟩)
  have HP := Lib.hid (show decide (9223372036854775808 ≤ a) = false → IntKind.u64.wrap ((a : Int) + 1) = (a : Int) + 1 from fun h => IntWalk.u64_in _ ⟨by omega, by have := of_decide_eq_false h; omega⟩)
  have HN := Lib.hid (fun (W : World) => iIsNan_3 la W)
  have HNN := Lib.hid (fun (W : World) => iNan_3 W)
  have HI := Lib.hid (fun (W : World) => iInf_3 W)
  have HSG := Lib.hid (fun (W : World) => iSign_3 W)
  generalize nanB 3 a = na at HN ⊢
  generalize decide (a = 9218868437227405312) = ia at tI ⊢
  generalize decide (a = 9223372036854775808) = sa at tS ⊢
  generalize decide (9223372036854775808 ≤ a) = ga at tg HM HP ⊢
  have HR := Lib.hid (row1 a w)
  have HW1 := Lib.hid ((Below.refl w.heap.size w).alloc (Nat.le_refl _) (.cells #[.int .u64 (a : Int)] 22))
  have HL1 := Lib.hid (hl.new (.cells #[.int .u64 (a : Int)] 22))
  clear la xa ha h t0 hl
  simp only [shV] at HOF HN HNN HI HSG
  go_enter Tryd.func15, Tryd.ntmps15
  go_upto_region 2 with (go_at_call 39; (with_reducible refine (HOF.out _ _ _ HL1.out HR.out).mono ?_); rintro e w1 ⟨rfl, hbn⟩; have HW2 := Lib.hid (Fl.chain HW1.out hbn); clear hbn)
  obtain ⟨W1, hW1⟩ : ∃ W1, W1 = w1.alloc (.cells #[.int .i64 64, .int .i64 53, .int .i64 1023] 48) := ⟨_, rfl⟩
  have HG := Lib.hid (show Blk W1 w1.heap.size 48 #[.int .i64 64, .int .i64 53, .int .i64 1023] by rw [hW1]; exact Blk.new _ _ _)
  have HW3 := Lib.hid (show Below w.heap.size w W1 by rw [hW1]; exact HW2.out.alloc HW2.out.size _)
  have c0 := HG.out.cell 0
  have c1 := HG.out.cell 1
  have c2 := HG.out.cell 2
  rw [← hW1]
  clear hW1 HW1 HW2 HL1 HR HOF
  generalize w1.heap.size = g0 at *
  cases na
  · cases ia
    · cases sa
      · cases ga
        · have hp := HP.out rfl
          (go_wp2_with (first | (go_at_call 43; (with_reducible refine (HN.out _).mono ?_); rintro e w2 ⟨rfl, hbn⟩; (replace HG := Lib.hid (HG.out.below hbn HG.out.lt)); (have c0 := HG.out.cell 0); (have c1 := HG.out.cell 1); (have c2 := HG.out.cell 2); (replace HW3 := Lib.hid (Fl.chain HW3.out hbn)); clear hbn) | (go_at_call 44; (with_reducible refine (HNN.out _).mono ?_); rintro e w2 ⟨rfl, hbn⟩; (replace HG := Lib.hid (HG.out.below hbn HG.out.lt)); (have c0 := HG.out.cell 0); (have c1 := HG.out.cell 1); (have c2 := HG.out.cell 2); (replace HW3 := Lib.hid (Fl.chain HW3.out hbn)); clear hbn) | (go_at_call 45; (with_reducible refine (HI.out _).mono ?_); rintro e w2 ⟨rfl, hbn⟩; (replace HG := Lib.hid (HG.out.below hbn HG.out.lt)); (have c0 := HG.out.cell 0); (have c1 := HG.out.cell 1); (have c2 := HG.out.cell 2); (replace HW3 := Lib.hid (Fl.chain HW3.out hbn)); clear hbn) | (go_at_call 46; (with_reducible refine (HSG.out _).mono ?_); rintro e w2 ⟨rfl, hbn⟩; (replace HG := Lib.hid (HG.out.below hbn HG.out.lt)); (have c0 := HG.out.cell 0); (have c1 := HG.out.cell 1); (have c2 := HG.out.cell 2); (replace HW3 := Lib.hid (Fl.chain HW3.out hbn)); clear hbn)); go_ret; first | exact ⟨rfl, HW3.out⟩ | exact ⟨by rw [hm]; rfl, HW3.out⟩ | exact ⟨by rw [hp]; rfl, HW3.out⟩)
        · have hm := HM.out rfl
          (go_wp2_with (first | (go_at_call 43; (with_reducible refine (HN.out _).mono ?_); rintro e w2 ⟨rfl, hbn⟩; (replace HG := Lib.hid (HG.out.below hbn HG.out.lt)); (have c0 := HG.out.cell 0); (have c1 := HG.out.cell 1); (have c2 := HG.out.cell 2); (replace HW3 := Lib.hid (Fl.chain HW3.out hbn)); clear hbn) | (go_at_call 44; (with_reducible refine (HNN.out _).mono ?_); rintro e w2 ⟨rfl, hbn⟩; (replace HG := Lib.hid (HG.out.below hbn HG.out.lt)); (have c0 := HG.out.cell 0); (have c1 := HG.out.cell 1); (have c2 := HG.out.cell 2); (replace HW3 := Lib.hid (Fl.chain HW3.out hbn)); clear hbn) | (go_at_call 45; (with_reducible refine (HI.out _).mono ?_); rintro e w2 ⟨rfl, hbn⟩; (replace HG := Lib.hid (HG.out.below hbn HG.out.lt)); (have c0 := HG.out.cell 0); (have c1 := HG.out.cell 1); (have c2 := HG.out.cell 2); (replace HW3 := Lib.hid (Fl.chain HW3.out hbn)); clear hbn) | (go_at_call 46; (with_reducible refine (HSG.out _).mono ?_); rintro e w2 ⟨rfl, hbn⟩; (replace HG := Lib.hid (HG.out.below hbn HG.out.lt)); (have c0 := HG.out.cell 0); (have c1 := HG.out.cell 1); (have c2 := HG.out.cell 2); (replace HW3 := Lib.hid (Fl.chain HW3.out hbn)); clear hbn)); go_ret; first | exact ⟨rfl, HW3.out⟩ | exact ⟨by rw [hm]; rfl, HW3.out⟩ | exact ⟨by rw [hp]; rfl, HW3.out⟩)
      · (go_wp2_with (first | (go_at_call 43; (with_reducible refine (HN.out _).mono ?_); rintro e w2 ⟨rfl, hbn⟩; (replace HG := Lib.hid (HG.out.below hbn HG.out.lt)); (have c0 := HG.out.cell 0); (have c1 := HG.out.cell 1); (have c2 := HG.out.cell 2); (replace HW3 := Lib.hid (Fl.chain HW3.out hbn)); clear hbn) | (go_at_call 44; (with_reducible refine (HNN.out _).mono ?_); rintro e w2 ⟨rfl, hbn⟩; (replace HG := Lib.hid (HG.out.below hbn HG.out.lt)); (have c0 := HG.out.cell 0); (have c1 := HG.out.cell 1); (have c2 := HG.out.cell 2); (replace HW3 := Lib.hid (Fl.chain HW3.out hbn)); clear hbn) | (go_at_call 45; (with_reducible refine (HI.out _).mono ?_); rintro e w2 ⟨rfl, hbn⟩; (replace HG := Lib.hid (HG.out.below hbn HG.out.lt)); (have c0 := HG.out.cell 0); (have c1 := HG.out.cell 1); (have c2 := HG.out.cell 2); (replace HW3 := Lib.hid (Fl.chain HW3.out hbn)); clear hbn) | (go_at_call 46; (with_reducible refine (HSG.out _).mono ?_); rintro e w2 ⟨rfl, hbn⟩; (replace HG := Lib.hid (HG.out.below hbn HG.out.lt)); (have c0 := HG.out.cell 0); (have c1 := HG.out.cell 1); (have c2 := HG.out.cell 2); (replace HW3 := Lib.hid (Fl.chain HW3.out hbn)); clear hbn)); go_ret; first | exact ⟨rfl, HW3.out⟩ | exact ⟨by rw [hm]; rfl, HW3.out⟩ | exact ⟨by rw [hp]; rfl, HW3.out⟩)
    · (go_wp2_with (first | (go_at_call 43; (with_reducible refine (HN.out _).mono ?_); rintro e w2 ⟨rfl, hbn⟩; (replace HG := Lib.hid (HG.out.below hbn HG.out.lt)); (have c0 := HG.out.cell 0); (have c1 := HG.out.cell 1); (have c2 := HG.out.cell 2); (replace HW3 := Lib.hid (Fl.chain HW3.out hbn)); clear hbn) | (go_at_call 44; (with_reducible refine (HNN.out _).mono ?_); rintro e w2 ⟨rfl, hbn⟩; (replace HG := Lib.hid (HG.out.below hbn HG.out.lt)); (have c0 := HG.out.cell 0); (have c1 := HG.out.cell 1); (have c2 := HG.out.cell 2); (replace HW3 := Lib.hid (Fl.chain HW3.out hbn)); clear hbn) | (go_at_call 45; (with_reducible refine (HI.out _).mono ?_); rintro e w2 ⟨rfl, hbn⟩; (replace HG := Lib.hid (HG.out.below hbn HG.out.lt)); (have c0 := HG.out.cell 0); (have c1 := HG.out.cell 1); (have c2 := HG.out.cell 2); (replace HW3 := Lib.hid (Fl.chain HW3.out hbn)); clear hbn) | (go_at_call 46; (with_reducible refine (HSG.out _).mono ?_); rintro e w2 ⟨rfl, hbn⟩; (replace HG := Lib.hid (HG.out.below hbn HG.out.lt)); (have c0 := HG.out.cell 0); (have c1 := HG.out.cell 1); (have c2 := HG.out.cell 2); (replace HW3 := Lib.hid (Fl.chain HW3.out hbn)); clear hbn)); go_ret; first | exact ⟨rfl, HW3.out⟩ | exact ⟨by rw [hm]; rfl, HW3.out⟩ | exact ⟨by rw [hp]; rfl, HW3.out⟩)
  · (go_wp2_with (first | (go_at_call 43; (with_reducible refine (HN.out _).mono ?_); rintro e w2 ⟨rfl, hbn⟩; (replace HG := Lib.hid (HG.out.below hbn HG.out.lt)); (have c0 := HG.out.cell 0); (have c1 := HG.out.cell 1); (have c2 := HG.out.cell 2); (replace HW3 := Lib.hid (Fl.chain HW3.out hbn)); clear hbn) | (go_at_call 44; (with_reducible refine (HNN.out _).mono ?_); rintro e w2 ⟨rfl, hbn⟩; (replace HG := Lib.hid (HG.out.below hbn HG.out.lt)); (have c0 := HG.out.cell 0); (have c1 := HG.out.cell 1); (have c2 := HG.out.cell 2); (replace HW3 := Lib.hid (Fl.chain HW3.out hbn)); clear hbn) | (go_at_call 45; (with_reducible refine (HI.out _).mono ?_); rintro e w2 ⟨rfl, hbn⟩; (replace HG := Lib.hid (HG.out.below hbn HG.out.lt)); (have c0 := HG.out.cell 0); (have c1 := HG.out.cell 1); (have c2 := HG.out.cell 2); (replace HW3 := Lib.hid (Fl.chain HW3.out hbn)); clear hbn) | (go_at_call 46; (with_reducible refine (HSG.out _).mono ?_); rintro e w2 ⟨rfl, hbn⟩; (replace HG := Lib.hid (HG.out.below hbn HG.out.lt)); (have c0 := HG.out.cell 0); (have c1 := HG.out.cell 1); (have c2 := HG.out.cell 2); (replace HW3 := Lib.hid (Fl.chain HW3.out hbn)); clear hbn)); go_ret; first | exact ⟨rfl, HW3.out⟩ | exact ⟨by rw [hm]; rfl, HW3.out⟩ | exact ⟨by rw [hp]; rfl, HW3.out⟩)

set_option maxRecDepth 8000 in
theorem iNext_3b {a : Nat} (h : okB 3 a = false) (ha : a < 18446744073709551616) (w : World) (hl : Lk w) :
    Calls Tryd.prog 15 #[.int .i64 3, .int .u64 (a : Int)] w fun e w' => e = .returned (.int .u64 0) ∧ Below w.heap.size w w' := by
  have HOF := Lib.hid (fun (A : Option Addr) (c : Nat) (W : World) (hl : Lk W) (hr : IRow .u64 W A 1 c (nums [a])) => iOf_3 A 1 c [a] W hl hr (by intro x hx; simp at hx; rcases hx with rfl; assumption))
  rw [okL_1, h] at HOF
  have HR := Lib.hid (row1 a w)
  have HW1 := Lib.hid ((Below.refl w.heap.size w).alloc (Nat.le_refl _) (.cells #[.int .u64 (a : Int)] 22))
  have HL1 := Lib.hid (hl.new (.cells #[.int .u64 (a : Int)] 22))
  clear ha h hl
  simp only [shV] at HOF
  go_enter Tryd.func15, Tryd.ntmps15
  go_wp2_with (go_at_call 39; (with_reducible refine (HOF.out _ _ _ HL1.out HR.out).mono ?_); rintro e w1 ⟨rfl, hbn⟩; have HW2 := Lib.hid (Fl.chain HW1.out hbn); clear hbn)
  go_ret
  exact ⟨rfl, HW2.out.alloc HW2.out.size _⟩

set_option maxRecDepth 8000 in
theorem iNext_n {f : Int} (hf : NoForm f) (hw : (Lit.int .i64 f).wf = true) {a : Nat} (w : World) (hl : Lk w) :
    Calls Tryd.prog 15 #[.int .i64 f, .int .u64 (a : Int)] w fun e w' => e = .returned (.int .u64 0) ∧ Below w.heap.size w w' := by
  have HOF := Lib.hid (fun (A : Option Addr) (c : Nat) (W : World) (hl : Lk W) => iOf_n hf hw A 1 c W hl)
  have HW1 := Lib.hid ((Below.refl w.heap.size w).alloc (Nat.le_refl _) (.cells #[.int .u64 (a : Int)] 22))
  have HL1 := Lib.hid (hl.new (.cells #[.int .u64 (a : Int)] 22))
  clear hf hw hl
  simp only [shV] at HOF
  go_enter Tryd.func15, Tryd.ntmps15
  go_wp2_with (go_at_call 39; (with_reducible refine (HOF.out _ _ _ HL1.out).mono ?_); rintro e w1 ⟨rfl, hbn⟩; have HW2 := Lib.hid (Fl.chain HW1.out hbn); clear hbn)
  go_ret
  exact ⟨rfl, HW2.out.alloc HW2.out.size _⟩
theorem sNext_bad {f : Int} {a : Nat} (ha : a < 18446744073709551616) (h : okB f a = false) (w : World) : Calls Tryd.prog 14 #[.int .i64 f, .int .u64 (a : Int)] w fun e w' => e = .returned (.int .u64 0) ∧ w' = w := by
  have HA := Lib.hid (fun (W : World) => sAre (f := f) ha W)
  rw [h] at HA
  clear ha h
  go_enter Tryd.func14, Tryd.ntmps14
  go_wp2_with (go_at_call 37; (with_reducible refine (HA.out _).mono ?_); rintro e w1 ⟨rfl, rfl⟩)
  go_ret
  exact ⟨rfl, rfl⟩
theorem nextV_ok {f : Int} {a : Nat} (h : okB f a = true) : nextV f a = nextR (nanB f a) (decide (a = infP f)) (decide (a = sgP f)) (decide (sgP f ≤ a)) (nanP f) a := by unfold nextV; rw [h]; rfl
theorem nextV_S {f : Int} {a : Nat} (h : okB f a = true) : nextV f a = nextS (nanB f a) (decide (a = sgP f)) (decide (a = 0)) (decide (a = infP f)) (decide (sgP f ≤ a)) (nanP f) a := by
  rw [nextV_ok h]
  refine (nextS_R ?_ ?_).symm
  · intro h1
    have h1 := of_decide_eq_true h1
    have h2 : infP f ≠ sgP f ∧ infP f ≠ 0 := by unfold infP sgP; (repeat' split) <;> omega
    exact ⟨decide_eq_false (by omega), decide_eq_false (by omega)⟩
  · intro h1
    have h1 := of_decide_eq_true h1
    have h2 : 0 < sgP f := by unfold sgP; (repeat' split) <;> omega
    exact ⟨by omega, decide_eq_false (by omega)⟩

theorem sNext {f : Int} {a : Nat} (ha : a < 18446744073709551616) (w : World) :
    Calls Tryd.prog 14 #[.int .i64 f, .int .u64 (a : Int)] w fun e w' => e = .returned (.int .u64 (nextV f a)) ∧ Below w.heap.size w w' := by
  cases h : okB f a
  · rw [show nextV f a = 0 by unfold nextV; rw [h]; rfl]
    exact (sNext_bad ha h w).mono fun e w' ⟨h1, h2⟩ => ⟨h1, by subst h2; exact Below.refl _ _⟩
  · rw [nextV_S h]
    rcases form_cases f with rfl | rfl | rfl | hf
    · exact sNext_1 h ha w
    · exact sNext_2 h ha w
    · exact sNext_3 h ha w
    · rw [okB_none hf] at h; cases h
theorem iNext {f : Int} (hw : (Lit.int .i64 f).wf = true) {a : Nat} (ha : a < 18446744073709551616) (w : World) (hl : Lk w) :
    Calls Tryd.prog 15 #[.int .i64 f, .int .u64 (a : Int)] w fun e w' => e = .returned (.int .u64 (nextV f a)) ∧ Below w.heap.size w w' := by
  cases h : okB f a
  · rw [show nextV f a = 0 by unfold nextV; rw [h]; rfl]
    rcases form_cases f with rfl | rfl | rfl | hf
    · exact iNext_1b h ha w hl
    · exact iNext_2b h ha w hl
    · exact iNext_3b h ha w hl
    · exact iNext_n hf hw w hl
  · rw [nextV_ok h]
    rcases form_cases f with rfl | rfl | rfl | hf
    · exact iNext_1 h ha w hl
    · exact iNext_2 h ha w hl
    · exact iNext_3 h ha w hl
    · rw [okB_none hf] at h; cases h
end Go.Proofs.YtmjnnjjmfedlbaaDoor
