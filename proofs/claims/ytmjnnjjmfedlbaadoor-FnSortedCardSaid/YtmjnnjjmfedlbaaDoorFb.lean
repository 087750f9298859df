/-
  Contracts of FromBits, of the program and of the reference: the word itself, or some NaN.
-/
import Derived.Test.YtmjnnjjmfedlbaaDoorUn
import Derived.Test.YtmjnnjjmfedlbaaDoorEx
namespace Go.Proofs.YtmjnnjjmfedlbaaDoor
set_option linter.unusedSimpArgs false
set_option linter.unusedVariables false
open Go.RowKit Go.Fl

theorem sZero_any (n : Bool) (w : World) : Calls Tryd.prog 87 #[.bool n] w fun e w' => e = .returned (fl (if n then 9223372036854775808 else 0)) ∧ w' = w := by
  cases n
  · go_enter Tryd.func87, Tryd.ntmps87
    go_wp2
    go_ret
    exact ⟨rfl, rfl⟩
  · have hn : Op.negFloat .f64 0 = 9223372036854775808 := by decide
    go_enter Tryd.func87, Tryd.ntmps87
    go_wp2
    go_ret
    exact ⟨by simp [hn], rfl⟩

theorem fres_none {op : BinOp} {x y : Nat} (h : floatBits op .f64 x y = none) (w : World) : isNan (fres op x y w) = true := by
  have := fres_spec op x y w
  unfold FRes at this
  rw [h] at this
  exact this

theorem sNaN_any (w : World) : Calls Tryd.prog 74 #[] w fun e w' => ∃ r, e = .returned (fl r) ∧ isNan r = true ∧ r < 2 ^ 64 ∧ Below w.heap.size w w' := by
  have HN := Lib.hid (fun W => fres_none (show floatBits .quo .f64 0 0 = none by decide) W)
  go_enter Tryd.func74, Tryd.ntmps74
  go_wp2_with (go_at_call 87; (with_reducible refine (sZero_any false _).mono ?_); rintro e w1 ⟨rfl, rfl⟩)
  go_ret
  exact ⟨_, rfl, HN.out _, fres_lt _ _ _ _, below_drewN (Below.refl _ _) _⟩

/-- The loops' memory. -/
def Fw (w : World) (g : Nat) (n : Bool) (E : Int) (m : Nat) (W : World) : Prop := Blk W g 28 #[.int .i64 1, .bool n, .int .i64 E, .int .u64 (m : Int)] ∧ Below w.heap.size w W
section
variable {w W : World} {g : Nat} {n : Bool} {E : Int} {m : Nat}
theorem Fw.drewN (h : Fw w g n E m W) (k : Nat) : Fw w g n E m (W.drewN k) := ⟨h.1, below_drewN h.2 k⟩
theorem Fw.facts (h : Fw w g n E m W) : W.cell? ⟨g, 0, none⟩ = some (.int .i64 1) ∧ W.cell? ⟨g, 1, none⟩ = some (.bool n) ∧ W.cell? ⟨g, 2, none⟩ = some (.int .i64 E) ∧ W.cell? ⟨g, 3, none⟩ = some (.int .u64 (m : Int)) :=
  ⟨h.1.cell 0, h.1.cell 1, h.1.cell 2, h.1.cell 3⟩
end

/-- What the loops need of a finite rung, and what they come to. -/
theorem fin_facts {b r m : Nat} {n : Bool} {E : Int} (hn : n = decide (9223372036854775808 ≤ b)) (hr : r = b % 9223372036854775808) (hb : b < 2 ^ 64) (h1 : 0 < r) (h2 : r < 9218868437227405312) (h : Fin (manOf 4503599627370496 r) (expOf 4503599627370496 1075 r) E m) :
    m ≠ 0 ∧ m < 2 ^ 53 ∧ -1074 ≤ E ∧ E ≤ 1023 ∧ (m.log2 : Int) + E ≤ 1023 ∧ wd n m E = b := by
  obtain ⟨ho, j, hm, he⟩ := h
  have hm0 : m ≠ 0 := by omega
  have hpj := Nat.two_pow_pos j
  have hlog := log2_mul m j hm0
  rw [← hm] at hlog
  have hM : manOf 4503599627370496 r ≠ 0 ∧ manOf 4503599627370496 r < 2 ^ 53 := by unfold manOf; split <;> omega
  have hE : -1074 ≤ expOf 4503599627370496 1075 r ∧ expOf 4503599627370496 1075 r ≤ 971 := by unfold expOf; split <;> omega
  have hl := log2_52 hM.1 hM.2
  have hle : m * 1 ≤ m * 2 ^ j := Nat.mul_le_mul_left _ hpj
  have key : wd n m E = b := by
    have h3 := nearest_scale n m j (expOf 4503599627370496 1075 r) hm0
    rw [← hm, ← he] at h3
    have h4 := nearest_read n r (by omega)
    have e1 : (if r < 2 ^ 52 then r else 2 ^ 52 + r % 2 ^ 52) = manOf 4503599627370496 r := rfl
    have e2 : (if r < 2 ^ 52 then (-1074 : Int) else -1074 + (r / 2 ^ 52 - 1 : Nat)) = expOf 4503599627370496 1075 r := by
      unfold expOf
      by_cases hc : r < 4503599627370496
      · rw [if_pos hc, if_pos (by omega)]; rfl
      · rw [if_neg hc, if_neg (by omega)]; omega
    rw [e1, e2] at h4
    unfold wd
    rw [← h3, h4, word_neg, hn, hr]
    by_cases hc : 9223372036854775808 ≤ b
    · rw [decide_eq_true hc, if_pos rfl]; omega
    · rw [decide_eq_false hc, if_neg (by decide)]; omega
  exact ⟨hm0, by omega, by omega, by omega, by omega, key⟩

theorem floatOfInt_wd (m : Nat) : floatOfInt .f64 (m : Int) = wd false m 0 := by
  show Ieee.double.nearest (decide ((m : Int) < 0)) (m : Int).natAbs 0 = _
  rw [decide_eq_false (by omega), Int.natAbs_natCast]; rfl

set_option maxRecDepth 8000 in
set_option maxHeartbeats 1600000 in
theorem sFromBits_any (b : Nat) (w : World) (h : b < 2 ^ 64) :
    Calls Tryd.prog 86 #[.int .u64 (b : Int)] w (RetF b w.heap.size w) := by
  have HU := Lib.hid (sUnpack_3 b w h)
  obtain ⟨n, hn⟩ : ∃ n, n = decide (9223372036854775808 ≤ b) := ⟨_, rfl⟩
  obtain ⟨r, hr⟩ : ∃ r, r = b % 9223372036854775808 := ⟨_, rfl⟩
  rw [← hn, ← hr] at HU
  have HF := Lib.hid (fun (m : Nat) (E : Int) => fin_facts (m := m) (E := E) hn hr h)
  have HN := Lib.hid hn
  have HR := Lib.hid hr
  have HB := Lib.hid h
  have hsign : b = (if n then 9223372036854775808 else 0) + r := by
    rw [hn, hr]
    by_cases hc : 9223372036854775808 ≤ b
    · rw [decide_eq_true hc, if_pos rfl]; omega
    · rw [decide_eq_false hc, if_neg (by decide)]; omega
  have HS := Lib.hid hsign
  clear hn hr h hsign
  have HZ := Lib.hid (fun W => sZero_any n W)
  have q0 : ∀ W, fres .quo 4607182418800017408 0 W = 9218868437227405312 := fres_some (by decide)
  have q1 : ∀ W, fres .quo 4607182418800017408 9223372036854775808 W = 18442240474082181120 := fres_some (by decide)
  have qd0 : fdr .quo 4607182418800017408 0 = 0 := fdr_some (show floatBits .quo .f64 4607182418800017408 0 = some 9218868437227405312 by decide)
  have qd1 : fdr .quo 4607182418800017408 9223372036854775808 = 0 := fdr_some (show floatBits .quo .f64 4607182418800017408 9223372036854775808 = some 18442240474082181120 by decide)
  go_enter Tryd.func86, Tryd.ntmps86
  go_wp2_with (first
    | (go_at_call 16; (with_reducible refine HU.out.mono ?_); rintro e w1 ⟨v, rfl, hu, hb1⟩; have HW := Lib.hid hb1; clear hb1; unfold UnpIs at hu; rcases hu with ⟨hr1, rfl⟩ | ⟨hr1, rfl⟩ | ⟨hr1, rfl⟩ | ⟨hr1, hr2, E, m, rfl, hfin⟩)
    | (go_at_call 87; (with_reducible refine (HZ.out _).mono ?_); rintro e w1 ⟨rfl, rfl⟩)
    | (go_at_call 74; (with_reducible refine (sNaN_any _).mono ?_); rintro e w2 ⟨rr, rfl, hnan, hlt, hbn⟩; have HNN := Lib.hid (And.intro hnan hlt); have HW2 := Lib.hid hbn; clear hnan hlt hbn))
  · have hbase := HW.out
    go_ret
    refine ⟨_, rfl, .inl (by have h1 := HS.out; rw [if_pos (by assumption)] at h1; omega), by decide, ?_⟩
    repeat' (first | (with_reducible exact Below.refl _ _) | (with_reducible assumption) | (with_reducible refine below_drewN ?_ _) | (with_reducible refine Below.drew ?_) | (with_reducible refine Below.alloc ?_ ?_ _) | (with_reducible refine Below.setCell ?_ ?_ _) | (exact hbase.size) | (simp; done) | (simp; omega))
  · have hbase := HW.out
    go_ret
    refine ⟨_, rfl, .inl (by have h1 := HS.out; rw [if_neg (by simp_all)] at h1; omega), by decide, ?_⟩
    repeat' (first | (with_reducible exact Below.refl _ _) | (with_reducible assumption) | (with_reducible refine below_drewN ?_ _) | (with_reducible refine Below.drew ?_) | (with_reducible refine Below.alloc ?_ ?_ _) | (with_reducible refine Below.setCell ?_ ?_ _) | (exact hbase.size) | (simp; done) | (simp; omega))
  · have hbase := HW.out
    go_ret
    have hz := HNN.out
    refine ⟨_, rfl, .inr ⟨hz.1, ?_⟩, hz.2, (hbase.alloc hbase.size _).trans (HW2.out.mono (by simp; have := hbase.size; omega))⟩
    rw [isNan_rung, decide_eq_true_iff]
    have h1 := HR.out
    omega
  · have hbase := HW.out
    go_ret
    refine ⟨_, rfl, .inl (by have h1 := HS.out; rw [if_pos (by assumption)] at h1; omega), by decide, ?_⟩
    repeat' (first | (with_reducible exact Below.refl _ _) | (with_reducible assumption) | (with_reducible refine below_drewN ?_ _) | (with_reducible refine Below.drew ?_) | (with_reducible refine Below.alloc ?_ ?_ _) | (with_reducible refine Below.setCell ?_ ?_ _) | (exact hbase.size) | (simp; done) | (simp; omega))
  · have hbase := HW.out
    go_ret
    refine ⟨_, rfl, .inl (by have h1 := HS.out; rw [if_neg (by simp_all)] at h1; omega), by decide, ?_⟩
    repeat' (first | (with_reducible exact Below.refl _ _) | (with_reducible assumption) | (with_reducible refine below_drewN ?_ _) | (with_reducible refine Below.drew ?_) | (with_reducible refine Below.alloc ?_ ?_ _) | (with_reducible refine Below.setCell ?_ ?_ _) | (exact hbase.size) | (simp; done) | (simp; omega))
  · have HX := Lib.hid (HF.out m E hr1 hr2 hfin)
    have HM := Lib.hid (show Fw w w1.heap.size n E m (w1.alloc (.cells #[.int .i64 1, .bool n, .int .i64 E, .int .u64 (m : Int)] 28)) from ⟨Blk.new _ _ _, HW.out.alloc HW.out.size _⟩)
    obtain ⟨g, hg⟩ : ∃ g, g = w1.heap.size := ⟨_, rfl⟩
    have HG := Lib.hid hg
    rw [← hg] at HM
    obtain ⟨K, hK⟩ : ∃ K : Nat, K = E.toNat := ⟨_, rfl⟩
    have HKE := Lib.hid hK
    clear hg hfin hr1 hr2 hK
    simp only [floatOfInt_wd]
    go_loopw [4, 5] (fun x i wr => ∃ q : Nat, q ≤ K ∧ x = fl (wd false m (q : Int)) ∧ i = .int .i64 (E - q) ∧ Hid (Fw w g n E m wr)) (fun _ i _ => (intOf i).toNat)
    case atStart => exact ⟨0, Nat.zero_le _, rfl, by simp, HM.out⟩
    case round =>
      clear HM
      obtain ⟨q, hq, rfl, rfl, HM⟩ := hrel
      have hg := HG.out
      subst hg
      obtain ⟨c0, c1, c2, c3⟩ := HM.out.facts
      by_cases hlt : 0 < E - (q : Int)
      · have d : decide (0 < E - (q : Int)) = true := decide_eq_true hlt
        have hx := HX.out
        have hke := HKE.out
        have hex : Ex m (q : Int) := ⟨hx.1, hx.2.1, by omega, by omega⟩
        have hmul : ∀ W, fres .mul (wd false m (q : Int)) 4611686018427387904 W = wd false m ((q : Int) + 1) := fres_some (fmul_two hex)
        have hdr : fdr .mul (wd false m (q : Int)) 4611686018427387904 = 0 := fdr_some (fmul_two hex)
        have hk1 := Lib.hid (show wrap64 (E - (q : Int) - 1) = E - ((q + 1 : Nat) : Int) by rw [IntWalk.wrap64_in _ ⟨by omega, by omega⟩]; omega)
        have HQ := Lib.hid (show q + 1 ≤ K by have := HKE.out; omega)
        clear hx hex hq hke
        go_wp2
        go_roundw
        case rel => exact ⟨q + 1, HQ.out, rfl, by rw [hk1.out], by first | exact HM.out | exact HM.out.drewN _⟩
        case measure => rw [hk1.out]; simp only [intOf]; omega
      · have d : decide (0 < E - (q : Int)) = false := decide_eq_false hlt
        have hqk : K = q := (by have := HKE.out; omega)
        subst hqk
        clear hq
        have HM0 := HM
        obtain ⟨g, hg⟩ : ∃ g, g = w1.heap.size := ⟨_, rfl⟩
        have HG2 := Lib.hid hg
        rw [← hg] at HM
        clear hg
        go_wp2
        go_loopw [4, 6] (fun x i wr => ∃ q : Nat, q ≤ (-E).toNat ∧ x = fl (wd false m ((K : Int) - q)) ∧ i = .int .i64 (E + q) ∧ Hid (Fw w g n E m wr)) (fun _ i _ => (-(intOf i)).toNat)
        case atStart => exact ⟨0, Nat.zero_le _, by simp, by simp, HM.out⟩
        case round =>
          clear HM HM0 c0 c1 c2 c3
          obtain ⟨q, hq, rfl, rfl, HM⟩ := hrel
          have hg := HG2.out
          subst hg
          obtain ⟨c0, c1, c2, c3⟩ := HM.out.facts
          by_cases hlt : E + (q : Int) < 0
          · have d : decide (E + (q : Int) < 0) = true := decide_eq_true hlt
            have hx := HX.out
            have hke := HKE.out
            have hex : Ex m ((K : Int) - q) := ⟨hx.1, hx.2.1, by omega, by have := log2_52 hx.1 hx.2.1; omega⟩
            have hmul : ∀ W, fres .quo (wd false m ((K : Int) - q)) 4611686018427387904 W = wd false m ((K : Int) - q - 1) := fres_some (fquo_two hex)
            have hdr : fdr .quo (wd false m ((K : Int) - q)) 4611686018427387904 = 0 := fdr_some (fquo_two hex)
            have hk1 := Lib.hid (show wrap64 (E + (q : Int) + 1) = E + ((q + 1 : Nat) : Int) by rw [IntWalk.wrap64_in _ ⟨by omega, by omega⟩]; omega)
            have HQ := Lib.hid (show q + 1 ≤ (-E).toNat by omega)
            have hk2 := Lib.hid (show (K : Int) - q - 1 = (K : Int) - ((q + 1 : Nat) : Int) by omega)
            clear hx hex hq hke
            go_wp2
            go_roundw
            case rel => exact ⟨q + 1, HQ.out, by rw [hk2.out], by rw [hk1.out], by first | exact HM.out | exact HM.out.drewN _⟩
            case measure => rw [hk1.out]; simp only [intOf]; omega
          · have d : decide (E + (q : Int) < 0) = false := decide_eq_false hlt
            have hx := HX.out
            have hex : Ex m E := ⟨hx.1, hx.2.1, hx.2.2.1, hx.2.2.2.2.1⟩
            have he : (K : Int) - q = E := by have := HKE.out; omega
            have hbase := HM.out.2
            have hneg := negFloat_wd (s := false) hex
            rw [Bool.not_false] at hneg
            have HL := Lib.hid (wd_lt n hex)
            clear hx hex hq
            rw [he]
            have hw := HX.out.2.2.2.2.2
            cases n
            · go_wp2
              go_ret
              exact ⟨_, rfl, .inl rfl, HB.out, HM.out.2⟩
            · go_wp2
              go_ret
              exact ⟨_, rfl, .inl rfl, HB.out, HM.out.2⟩
end Go.Proofs.YtmjnnjjmfedlbaaDoor
