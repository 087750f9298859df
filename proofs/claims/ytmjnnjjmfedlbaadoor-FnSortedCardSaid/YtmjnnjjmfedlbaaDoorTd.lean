/-
  The contract of ToBits of the reference: the word, of a NaN the plain one.
-/
import Derived.Test.YtmjnnjjmfedlbaaDoorTc
import Derived.Laws.FloatArith
namespace Go.Proofs.YtmjnnjjmfedlbaaDoor
set_option linter.unusedSimpArgs false
set_option linter.unusedVariables false
open Go.RowKit Go.Dr
open Go.Fl (fl wd Ex isNan feq ford fres fdr fres_some fdr_some)

theorem sToBits_nan (b : Nat) (w : World) (hn : isNan b = true) :
    Calls Tryd.prog 51 #[fl b] w fun e w' => e = .returned (.int .u64 9221120237041090560) ∧ w' = w := by
  have ho : FloatKind.f64.format.order b b = none := Fl.ford_nan_left hn b
  clear hn
  go_enter Tryd.func51, Tryd.ntmps51
  go_wp2_with (go_at_call 41; (with_reducible refine (sPlain_3 _).mono ?_); rintro e w1 ⟨rfl, rfl⟩)
  go_ret
  exact ⟨rfl, rfl⟩

theorem sToBits_0 (w : World) : Calls Tryd.prog 51 #[fl 0] w fun e w' => e = .returned (.int .u64 0) ∧ Below w.heap.size w w' := by
  have ho : FloatKind.f64.format.order 0 0 = some .eq := by decide
  have q0 : ∀ W, fres .quo 4607182418800017408 0 W = 9218868437227405312 := fres_some (by decide)
  have qd0 : fdr .quo 4607182418800017408 0 = 0 := fdr_some (show floatBits .quo .f64 4607182418800017408 0 = some 9218868437227405312 by decide)
  have hi : FloatKind.f64.format.order 9218868437227405312 0 = some .gt := by decide
  go_enter Tryd.func51, Tryd.ntmps51
  go_wp2_with (go_at_call 38; (with_reducible refine (sSign _ _).mono ?_); rintro e w1 ⟨rfl, rfl⟩)
  go_ret
  exact ⟨rfl, by repeat' (first | (with_reducible exact Below.refl _ _) | (with_reducible refine Fl.below_drewN ?_ _) | (with_reducible refine Below.drew ?_))⟩

theorem sToBits_m (w : World) : Calls Tryd.prog 51 #[fl 9223372036854775808] w fun e w' => e = .returned (.int .u64 9223372036854775808) ∧ Below w.heap.size w w' := by
  have ho1 : FloatKind.f64.format.order 9223372036854775808 9223372036854775808 = some .eq := by decide
  have ho : FloatKind.f64.format.order 9223372036854775808 0 = some .eq := by decide
  have q0 : ∀ W, fres .quo 4607182418800017408 9223372036854775808 W = 18442240474082181120 := fres_some (by decide)
  have qd0 : fdr .quo 4607182418800017408 9223372036854775808 = 0 := fdr_some (show floatBits .quo .f64 4607182418800017408 9223372036854775808 = some 18442240474082181120 by decide)
  have hi : FloatKind.f64.format.order 18442240474082181120 0 = some .lt := by decide
  go_enter Tryd.func51, Tryd.ntmps51
  go_wp2_with (go_at_call 38; (with_reducible refine (sSign _ _).mono ?_); rintro e w1 ⟨rfl, rfl⟩)
  go_ret
  exact ⟨rfl, by repeat' (first | (with_reducible exact Below.refl _ _) | (with_reducible refine Fl.below_drewN ?_ _) | (with_reducible refine Below.drew ?_))⟩

theorem sToBits_i (n : Bool) (b : Nat) (hb : b = if n then 18442240474082181120 else 9218868437227405312) (w : World) : Calls Tryd.prog 51 #[fl b] w fun e w' => e = .returned (.int .u64 (b : Int)) ∧ Below w.heap.size w w' := by
  have q0 : ∀ W, fres .quo 9218868437227405312 4611686018427387904 W = 9218868437227405312 := fres_some (by decide)
  have qd0 : fdr .quo 9218868437227405312 4611686018427387904 = 0 := fdr_some (show floatBits .quo .f64 9218868437227405312 4611686018427387904 = some 9218868437227405312 by decide)
  have h1 : FloatKind.f64.format.order 9218868437227405312 9218868437227405312 = some .eq := by decide
  have h2 : FloatKind.f64.format.order 9218868437227405312 0 = some .gt := by decide
  have h3 : FloatKind.f64.format.order 18442240474082181120 18442240474082181120 = some .eq := by decide
  have h4 : FloatKind.f64.format.order 18442240474082181120 0 = some .lt := by decide
  have h5 : Op.negFloat .f64 18442240474082181120 = 9218868437227405312 := by decide
  cases n
  · simp only [Bool.false_eq_true, if_false] at hb
    subst hb
    go_enter Tryd.func51, Tryd.ntmps51
    go_wp2_with (go_at_call 42; (with_reducible refine (sInf_3 _ _).mono ?_); rintro e w1 ⟨rfl, rfl⟩)
    go_ret
    exact ⟨rfl, by repeat' (first | (with_reducible exact Below.refl _ _) | (with_reducible refine Fl.below_drewN ?_ _) | (with_reducible refine Below.drew ?_))⟩
  · simp only [if_true] at hb
    subst hb
    go_enter Tryd.func51, Tryd.ntmps51
    go_wp2_with (go_at_call 42; (with_reducible refine (sInf_3 _ _).mono ?_); rintro e w1 ⟨rfl, rfl⟩)
    go_ret
    exact ⟨rfl, by repeat' (first | (with_reducible exact Below.refl _ _) | (with_reducible refine Fl.below_drewN ?_ _) | (with_reducible refine Below.drew ?_))⟩

theorem ex_self {s : Bool} {m : Nat} {p : Int} (h : Ex m p) : ford (wd s m p) (wd s m p) = some .eq := Fl.ford_self (Fl.isNan_wd h)

set_option maxRecDepth 8000 in
set_option maxHeartbeats 1600000 in
theorem sToBits_f (n : Bool) (m : Nat) (p : Int) (v : Int) (w : World) (h : Ex m p) (hp : p = -1074 ∨ 4503599627370496 ≤ m) (hp2 : p ≤ 971) (hr : p = -1074 → wd false m p = m) (hv : pk n (m * 2 ^ (top m).toNat) (p - top m) = v) :
    Calls Tryd.prog 51 #[fl (wd n m p)] w fun e w' => e = .returned (.int .u64 v) ∧ Below w.heap.size w w' := by
  obtain ⟨q, hq1, hq2⟩ := half_ne h hp hr
  have HQ := Lib.hid hq2
  have hqf : ∀ W, fres .quo (wd false m p) 4611686018427387904 W = q := fres_some hq1
  have hqd : fdr .quo (wd false m p) 4611686018427387904 = 0 := fdr_some hq1
  have hqo : FloatKind.f64.format.order q (wd false m p) = some .lt := hq2
  have hz : FloatKind.f64.format.order (wd false m p) 0 = some .gt := ford_zero_pos h
  have hzn : FloatKind.f64.format.order (wd true m p) 0 = some .lt := ford_zero_neg h
  have hsf : FloatKind.f64.format.order (wd n m p) (wd n m p) = some .eq := ex_self h
  have hng : Op.negFloat .f64 (wd true m p) = wd false m p := Fl.negFloat_wd h
  have HX := Lib.hid h
  have HP2 := Lib.hid hp2
  obtain ⟨T, hT⟩ : ∃ T, T = top m := ⟨_, rfl⟩
  have hTb := top_bounds h.1 h.2.1
  have hti := toInt_top h.1 h.2.1
  rw [← hT] at hTb hti hv
  obtain ⟨M, hM⟩ : ∃ M, M = m * 2 ^ T.toNat := ⟨_, rfl⟩
  rw [← hM] at hTb hti hv
  have HTB := Lib.hid (show 0 ≤ T ∧ T ≤ 52 ∧ 4503599627370496 ≤ M ∧ M < 9007199254740992 ∧ (m.log2 : Int) = 52 - T from ⟨hTb.1, hTb.2.1, hTb.2.2.1, hTb.2.2.2, by rw [hT]; unfold top; omega⟩)
  have HCV := Lib.hid (show ∀ W, (convert 41 22 (.float .f64 (wd false m T))).run Tryd.prog W = .ok (.int .u64 (M : Int)) W from fun W =>
    run_convert_float_int (n := (M : Int)) W 41 22 .f64 .u64 _ (by rw [Tryd.underlying41]; rfl) Tryd.underlying22 (by
      unfold floatToIntVal
      show (match (Ieee.double.read (wd false m T)).toInt .zero with | some n => if IntKind.u64.min ≤ n ∧ n ≤ IntKind.u64.max then some n else none | none => none) = _
      rw [hti]
      show (if IntKind.u64.min ≤ (M : Int) ∧ (M : Int) ≤ IntKind.u64.max then some (M : Int) else none) = _
      have e1 : IntKind.u64.min = 0 := by decide
      have e2 : IntKind.u64.max = 18446744073709551615 := by decide
      rw [e1, e2, if_pos ⟨by omega, by omega⟩]))
  have HPK := Lib.hid (show Calls Tryd.prog 67 #[.int .i64 3, .int .i64 3, .agg #[.int .i64 1, .bool n, .int .i64 (p - T), .int .u64 (M : Int)]] w fun en w' => ∃ f, en = .returned (.tuple #[.int .u64 v, .int .i64 f]) ∧ Below w.heap.size w w' by
    rw [← hv]
    exact sPack_f n M (p - T) w hTb.2.2.1 hTb.2.2.2 (by have := h.2.2.1; omega) (by omega))
  have HPKW := Lib.hid (fun W => show Calls Tryd.prog 67 #[.int .i64 3, .int .i64 3, .agg #[.int .i64 1, .bool n, .int .i64 (p - T), .int .u64 (M : Int)]] W fun en w' => ∃ f, en = .returned (.tuple #[.int .u64 v, .int .i64 f]) ∧ Below W.heap.size W w' by
    rw [← hv]
    exact sPack_f n M (p - T) W hTb.2.2.1 hTb.2.2.2 (by have := h.2.2.1; omega) (by omega))
  clear HPK hv hti hTb hM hT hq1 hq2 hr hp hp2 h
  have E1 : n = true ∨ n = false := by cases n <;> simp
  have key : ∀ K : Bool, n = K → True := fun _ _ => trivial
  cases n
  case' false =>
    go_enter Tryd.func51, Tryd.ntmps51
    go_wp2
  case' true =>
    go_enter Tryd.func51, Tryd.ntmps51
    go_wp2
  all_goals
    clear hqf hqd hqo hz hzn hsf hng key E1
    go_loopw [0, 4] (fun x i wr => ∃ (t e : Int), x = fl (wd false m t) ∧ i = .int .i64 e ∧ Hid (e = p - t ∧ t ≤ p ∧ (t = p ∨ T ≤ t)) ∧ Hid (Below w.heap.size w wr)) (fun _ i _ => (p - intOf i + 1).toNat)
    case atStart => exact ⟨p, 0, rfl, rfl, ⟨by omega, Int.le_refl _, .inl rfl⟩, by first | exact Below.refl _ _ | exact Fl.below_drewN (Below.refl _ _) _⟩
    case round =>
      obtain ⟨t, e, rfl, rfl, HE, HW⟩ := hrel
      have hx := HX.out
      have hb := HTB.out
      have he := HE.out
      have hex : Ex m t := ⟨hx.1, hx.2.1, by have := hx.2.2.1; omega, by have := hx.2.2.2; omega⟩
      obtain ⟨o, ho, hoc⟩ := ford_pow 53 (by decide) hex
      rw [show wd false 1 ((53 : Nat) : Int) = 4845873199050653696 from c53] at ho
      have hord : FloatKind.f64.format.order (wd false m t) 4845873199050653696 = some o := ho
      rcases hoc with ⟨hc1, hc2⟩ | ⟨hc1, hc2⟩
      · have hq : ∀ W, fres .quo (wd false m t) 4611686018427387904 W = wd false m (t - 1) := fres_some (Fl.fquo_two hex)
        have hqd : fdr .quo (wd false m t) 4611686018427387904 = 0 := fdr_some (Fl.fquo_two hex)
        have HT := Lib.hid (show e + 1 = p - (t - 1) ∧ t - 1 ≤ p ∧ (t - 1 = p ∨ T ≤ t - 1) ∧ 0 < t by omega)
        have hk1 := Lib.hid (show wrap64 (e + 1) = e + 1 from wrap_id (by have := hx.2.2.1; have := HP2.out; omega) (by have := hx.2.2.1; have := HP2.out; omega))
        clear hx hb he hex hc1 ho
        cases o with
        | lt => exact absurd rfl hc2
        | eq =>
          clear hc2
          go_wp2
          go_roundw
          case rel => exact ⟨t - 1, e + 1, rfl, by rw [hk1.out], ⟨HT.out.1, HT.out.2.1, HT.out.2.2.1⟩, by repeat' (first | exact HW.out | (with_reducible refine Fl.below_drewN ?_ _))⟩
          case measure => rw [hk1.out]; have h1 := HT.out; have h2 := HE.out; simp only [intOf]; omega
        | gt =>
          clear hc2
          go_wp2
          go_roundw
          case rel => exact ⟨t - 1, e + 1, rfl, by rw [hk1.out], ⟨HT.out.1, HT.out.2.1, HT.out.2.2.1⟩, by repeat' (first | exact HW.out | (with_reducible refine Fl.below_drewN ?_ _))⟩
          case measure => rw [hk1.out]; have h1 := HT.out; have h2 := HE.out; simp only [intOf]; omega
      · subst hc2
        have HT0 := Lib.hid (show e = p - t ∧ t ≤ T ∧ t ≤ p ∧ -1074 ≤ t by have := hx.2.2.1; omega)
        clear hx hb he hex hc1 ho HE
        go_wp2
        clear hord
        go_loopw [0, 4] (fun x i wr => ∃ (t e : Int), x = fl (wd false m t) ∧ i = .int .i64 e ∧ Hid (e = p - t ∧ t ≤ T ∧ -1074 ≤ t) ∧ Hid (Below w.heap.size w wr)) (fun _ i _ => (T - p + intOf i).toNat)
        case atStart => exact ⟨t, e, rfl, rfl, ⟨HT0.out.1, HT0.out.2.1, HT0.out.2.2.2⟩, HW.out⟩
        case round =>
          clear HT0 HW
          obtain ⟨t, e, rfl, rfl, HE, HW⟩ := hrel
          have hx := HX.out
          have hb := HTB.out
          have he := HE.out
          have hex : Ex m t := ⟨hx.1, hx.2.1, by omega, by omega⟩
          obtain ⟨o, ho, hoc⟩ := ford_pow 52 (by decide) hex
          rw [show wd false 1 ((52 : Nat) : Int) = 4841369599423283200 from c52] at ho
          have hord : FloatKind.f64.format.order (wd false m t) 4841369599423283200 = some o := ho
          rcases hoc with ⟨hc1, hc2⟩ | ⟨hc1, hc2⟩
          · obtain rfl : t = T := by omega
            obtain rfl : e = p - t := he.1
            have hcv := HCV.out
            have HP := Lib.hid hc2
            clear hx hb he hex hc1 ho
            cases o with
            | lt => exact absurd rfl hc2
            | eq =>
              clear hc2
              go_wp2_with (go_at_call 67; (with_reducible refine (HPKW.out _).mono ?_); rintro en w2 ⟨f, rfl, hbn⟩; have HW2 := Lib.hid (HW.out.trans (hbn.mono HW.out.size)); clear hbn)
              go_ret
              exact ⟨rfl, HW2.out⟩
            | gt =>
              clear hc2
              go_wp2_with (go_at_call 67; (with_reducible refine (HPKW.out _).mono ?_); rintro en w2 ⟨f, rfl, hbn⟩; have HW2 := Lib.hid (HW.out.trans (hbn.mono HW.out.size)); clear hbn)
              go_ret
              exact ⟨rfl, HW2.out⟩
          · subst hc2
            have hq : ∀ W, fres .mul (wd false m t) 4611686018427387904 W = wd false m (t + 1) := fres_some (Fl.fmul_two hex)
            have hqd : fdr .mul (wd false m t) 4611686018427387904 = 0 := fdr_some (Fl.fmul_two hex)
            have HT := Lib.hid (show e - 1 = p - (t + 1) ∧ t + 1 ≤ T ∧ -1074 ≤ t + 1 by omega)
            have hk1 := Lib.hid (show wrap64 (e - 1) = e - 1 from wrap_id (by have := hx.2.2.1; have := HP2.out; omega) (by have := hx.2.2.1; have := HP2.out; omega))
            clear hx hb he hex hc1 ho
            go_wp2
            go_roundw
            case rel => exact ⟨t + 1, e - 1, rfl, by rw [hk1.out], HT.out, by repeat' (first | exact HW.out | (with_reducible refine Fl.below_drewN ?_ _))⟩
            case measure => rw [hk1.out]; have h1 := HT.out; have h2 := HE.out; simp only [intOf]; omega

theorem sToBits_any (b : Nat) (w : World) (h : b < 2 ^ 64) : Calls Tryd.prog 51 #[fl b] w fun e w' => e = .returned (.int .u64 ((cn b : Nat) : Int)) ∧ Below w.heap.size w w' := by
  cases hn : isNan b with
  | true =>
    rw [cn_nan hn]
    exact (sToBits_nan b w hn).mono fun e w' ⟨h1, h2⟩ => ⟨h1, by rw [h2]; exact Below.refl _ _⟩
  | false =>
    rw [cn_num hn]
    have hr := hn
    rw [Fl.isNan_rung, decide_eq_false_iff_not] at hr
    obtain ⟨r, hrr⟩ : ∃ r, r = b % 2 ^ 63 := ⟨_, rfl⟩
    rw [← hrr] at hr
    obtain ⟨n, hnn⟩ : ∃ n, n = decide (2 ^ 63 ≤ b) := ⟨_, rfl⟩
    have hb : b = (if n then 9223372036854775808 else 0) + r := by
      rw [hnn]
      by_cases hc : 2 ^ 63 ≤ b
      · rw [decide_eq_true hc, if_pos rfl]; omega
      · rw [decide_eq_false hc, if_neg (by decide)]; omega
    by_cases h0 : r = 0
    · subst h0
      cases n
      · rw [if_neg (by decide)] at hb
        subst hb
        exact sToBits_0 w
      · rw [if_pos rfl] at hb
        subst hb
        exact sToBits_m w
    by_cases h1 : r = 9218868437227405312
    · refine sToBits_i n b ?_ w
      rw [hb, h1]
      cases n <;> rfl
    obtain ⟨m, p, he, hw, hp2, hp, hr1, hr2⟩ := rung_wd (r := r) (by omega) (by omega)
    have hbw : b = wd n m p := by
      have hneg := Fl.negFloat_wd (s := false) he
      have hlt := Fl.wd_lt false he
      rw [hw] at hneg hlt
      cases n
      · rw [hb, if_neg (by decide), Nat.zero_add]; exact hw.symm
      · rw [Bool.not_false] at hneg
        rw [← hneg, hb, if_pos rfl]
        have h2 := Fl.negFloat_word false r (by omega)
        rw [Fl.word_neg, Fl.word_neg] at h2
        simp only [Bool.false_eq_true, if_false, Bool.not_false, if_true] at h2
        rw [h2]
    have hv : pk n (m * 2 ^ (top m).toNat) (p - top m) = (b : Int) := by
      have hs : (b : Int) = sgn n + (r : Int) := by
        rw [hb]; unfold sgn; cases n <;> simp
      rw [hs]
      unfold pk
      congr 1
      by_cases hm : 4503599627370496 ≤ m
      · obtain ⟨ht, hr3⟩ := hr2 hm
        rw [ht, Int.sub_zero, if_pos he.2.2.1, Int.toNat_zero, Nat.pow_zero, Nat.mul_one]
        exact hr3
      · have hpe : p = -1074 := by rcases hp with h | h; exact h; exact absurd h hm
        have htb := top_bounds he.1 he.2.1
        have hmr := hr1 hpe
        have htp : 0 < top m := by
          rcases Int.lt_or_le 0 (top m) with h | h
          · exact h
          · exfalso
            have ht0 : top m = 0 := by omega
            rw [ht0, Int.toNat_zero, Nat.pow_zero, Nat.mul_one] at htb
            omega
        rw [hpe, if_neg (by omega), show (-1074 - (-1074 - top m)).toNat = (top m).toNat by omega, Nat.mul_div_cancel _ (Nat.two_pow_pos _), hmr]
    rw [hbw] at hv ⊢
    exact sToBits_f n m p _ w he hp hp2 (fun h => by rw [hw]; exact (hr1 h).symm) hv
end Go.Proofs.YtmjnnjjmfedlbaaDoor
