/-
  The contract of the reference's rounding of 53 bits into a float64, toward zero.
-/
import Derived.Test.YtmjnnjjmfedlbaaDoorChecked
import Derived.Outline
import Derived.Handy
import Derived.Test.YtmjnnjjmfedlbaaDoorNv
import Derived.Test.YtmjnnjjmfedlbaaDoorNw
import Derived.Test.YtmjnnjjmfedlbaaDoorNy
namespace Go.Proofs.YtmjnnjjmfedlbaaDoor
set_option linter.unusedSimpArgs false
set_option linter.unusedVariables false
open Go.RowKit Go.Dr

theorem sUp (n b : Bool) (x : Int) (s : Bool) (w : World) : Calls Tryd.prog 95 #[.int .i64 3, .bool n, .bool b, .int .i64 x, .bool s] w fun e w' => e = .returned (.bool false) ∧ w' = w := by
  go_enter Tryd.func95, Tryd.ntmps95
  go_wp2
  all_goals (go_ret; exact ⟨rfl, rfl⟩)

def AnyB (e : Ending) : Prop := ∃ b, e = .returned (.bool b)
theorem sBit (A : Option Addr) (n c : Nat) (l : List Int) (w : World) (h : IRow .u32 w A n c l) : Calls Tryd.prog 96 #[.slice A n c, .int .i64 0] w fun e w' => AnyB e ∧ w' = w := by
  have HR := Lib.hid h
  clear h
  by_cases h0 : n = 0
  · subst h0
    go_enter Tryd.func96, Tryd.ntmps96
    go_wp2
    all_goals (go_ret; exact ⟨⟨_, rfl⟩, rfl⟩)
  · obtain ⟨b, off, rfl, hb, hc⟩ := HR.out.2.2.2 (by omega)
    have hc0 : w.cell? ⟨b, off, none⟩ = some (.int .u32 (l.getD 0 0)) := hc 0 (by omega)
    generalize l.getD 0 0 = x at hc0
    have hn : (0 : Int) < (n : Int) := by omega
    have hn1 : decide ((n : Int) ≤ 0) = false := decide_eq_false (by omega)
    have hn2 : ¬ (n : Int) ≤ 0 := by omega
    clear hc
    go_enter Tryd.func96, Tryd.ntmps96
    go_wp2
    all_goals (go_ret; exact ⟨⟨_, rfl⟩, rfl⟩)

def sgn (n : Bool) : Int := if n then 9223372036854775808 else 0
theorem sSign (n : Bool) (w : World) : Calls Tryd.prog 38 #[.int .i64 3, .bool n] w fun e w' => e = .returned (.int .u64 (sgn n)) ∧ w' = w := by
  cases n
  · go_enter Tryd.func38, Tryd.ntmps38
    go_wp2
    all_goals (go_ret; exact ⟨rfl, rfl⟩)
  · go_enter Tryd.func38, Tryd.ntmps38
    go_wp2
    all_goals (go_ret; exact ⟨rfl, rfl⟩)

theorem results_tmp4 {fn : Func} {t0 t1 t2 t3 : Tmp} (h : fn.results = #[.tmp t0, .tmp t1, .tmp t2, .tmp t3]) (tmps : Array Value) (P : Program) (w : World) :
    (results fn tmps).run P w = .ok (.tuple #[tmps.getD t0 undef, tmps.getD t1 undef, tmps.getD t2 undef, tmps.getD t3 undef]) w := by
  simp [results, h]

theorem sForm_3 (w : World) : Calls Tryd.prog 47 #[.int .i64 3] w fun e w' => e = .returned (.tuple #[.int .i64 64, .int .i64 53, .int .i64 1023, .bool true]) ∧ w' = w := by
  go_enter Tryd.func47, Tryd.ntmps47
  go_wp2
  (try simp only [Exit.inBlock, Exit.then])
  refine bodyPost_ret (results_tmp4 rfl _ _ _) rfl ?_
  exact ⟨rfl, rfl⟩

set_option maxRecDepth 8000 in
set_option maxHeartbeats 1600000 in
theorem sRound_n (A : Option Addr) (c lo hi : Nat) (e : Int) (n : Bool) (w : World) (h : IRow .u32 w A 2 c [(lo : Int), (hi : Int)]) (h1 : lo < 4294967296) (h2 : hi < 2097152) (h3 : 1048576 ≤ hi) (he : -1074 ≤ e) (he2 : e ≤ 971) :
    Calls Tryd.prog 81 #[.int .i64 3, .int .i64 3, .bool n, .slice A 2 c, .int .i64 e, .bool false] w fun en w' => ∃ f, en = .returned (.tuple #[.int .u64 (sgn n + (e + 1074) * 4503599627370496 + ((lo + hi * 4294967296 : Nat) : Int)), .int .i64 f]) ∧ Below w.heap.size w w' := by
  have hU : U32 [(lo : Int), (hi : Int)] := by
    intro x hx
    simp only [List.mem_cons, List.not_mem_nil, or_false] at hx
    rcases hx with rfl | rfl <;> omega
  have HU := Lib.hid hU
  have HB := Lib.hid (fun (A : Option Addr) (c : Nat) (W : World) (hr : IRow .u32 W A 2 c [(lo : Int), (hi : Int)]) => sBits A 2 c _ W hr hU (by decide))
  have hbl : ((32 * (2 - 1) + bl ([(lo : Int), (hi : Int)].getD (2 - 1) 0).toNat : Nat) : Int) = 53 := by
    show ((32 * 1 + bl (hi : Int).toNat : Nat) : Int) = 53
    rw [Int.toNat_natCast, bl_eq (k := 20) (by omega) (by omega)]
    rfl
  rw [if_neg (by decide), hbl] at HB
  have HL := Lib.hid (fun (A : Option Addr) (c : Nat) (W : World) (hr : IRow .u32 W A 2 c [(lo : Int), (hi : Int)]) => sLow A 2 c _ W hr hU (by decide))
  have HT := Lib.hid (fun (A : Option Addr) (c : Nat) (W : World) (hr : IRow .u32 W A 2 c [(lo : Int), (hi : Int)]) => sBit A 2 c _ W hr)
  have HS := Lib.hid (fun (W : World) (hr : IRow .u32 W A 2 c [(lo : Int), (hi : Int)]) => sShl_0 A c lo hi W hr h1 (by omega) (by omega))
  have HSG := Lib.hid (sSign n)
  have HR := Lib.hid h
  obtain ⟨K, hK⟩ : ∃ K : Nat, (K : Int) = e + 1075 := ⟨(e + 1075).toNat, by omega⟩
  have hsg : sgn n = 0 ∨ sgn n = 9223372036854775808 := by unfold sgn; cases n <;> simp
  obtain ⟨sg, hs⟩ : ∃ sg, sg = sgn n := ⟨_, rfl⟩
  rw [← hs] at hsg HSG ⊢
  obtain ⟨M, hM⟩ : ∃ M : Int, M = (lo : Int) + (hi : Int) * 4294967296 := ⟨_, rfl⟩
  have HF1 := Lib.hid (show e + 53 - 1 = e + 52 by omega)
  have HF2 := Lib.hid (show e + 52 - 53 + 1 = e by omega)
  have HF3 := Lib.hid (show 53 + e - 1 = e + 52 by omega)
  have HF4 := Lib.hid (show e + 52 + 1023 = (K : Int) by omega)
  have HF7 := Lib.hid (show IntKind.u64.wrap (K : Int) = (K : Int) from IntWalk.u64_in _ ⟨by omega, by omega⟩)
  have HF8 := Lib.hid (show IntKind.u64.wrap ((K : Int) * 4503599627370496) = (K : Int) * 4503599627370496 from IntWalk.u64_in _ ⟨by omega, by omega⟩)
  have HF9 := Lib.hid (show IntKind.u64.wrap (sg + (K : Int) * 4503599627370496) = sg + (K : Int) * 4503599627370496 from IntWalk.u64_in _ ⟨by omega, by omega⟩)
  have HFa := Lib.hid (show IntKind.u64.wrap (sg + (K : Int) * 4503599627370496 + ((lo : Int) + (hi : Int) * 4294967296)) = sg + (K : Int) * 4503599627370496 + M by rw [IntWalk.u64_in _ ⟨by omega, by omega⟩]; omega)
  have HFb := Lib.hid (show IntKind.u64.wrap (sg + (K : Int) * 4503599627370496 + M - 4503599627370496) = sg + (K : Int) * 4503599627370496 + M - 4503599627370496 from IntWalk.u64_in _ ⟨by omega, by omega⟩)
  have HEND := Lib.hid (show sg + (K : Int) * 4503599627370496 + M - 4503599627370496 = sg + (e + 1074) * 4503599627370496 + ((lo + hi * 4294967296 : Nat) : Int) by omega)
  have g1 : ¬ e + 52 < -1022 := by omega
  have g2 : decide (e + 52 < -1022) = false := decide_eq_false g1
  have g3 : ¬ 1023 < e + 52 := by omega
  have g4 : decide (1023 < e + 52) = false := decide_eq_false g3
  rw [← HEND.out]
  clear h h1 h2 h3 he he2 hK hsg hM hs hbl hU HEND
  have f1 := HF1.out
  have f2 := HF2.out
  have f3 := HF3.out
  have f4 := HF4.out
  have f7 := HF7.out
  have f8 := HF8.out
  have f9 := HF9.out
  have fa := HFa.out
  have fb := HFb.out
  go_enter Tryd.func81, Tryd.ntmps81
  go_wp2_with (first
    | (go_at_call 47; (with_reducible refine (sForm_3 _).mono ?_); rintro e w1 ⟨rfl, rfl⟩)
    | (go_at_call 90; (first | ((with_reducible refine (HB.out _ _ _ HR.out).mono ?_); rintro e w1 ⟨rfl, rfl⟩) | ((with_reducible refine (HB.out _ _ _ HR2.out).mono ?_); rintro e w1 ⟨rfl, rfl⟩)))
    | (go_at_call 91; (with_reducible refine (HS.out _ (HR.out.below ((Below.refl _ _).alloc (Nat.le_refl _) _))).mono ?_); rintro e w2 ⟨A2, c2, rfl, hr2, hb2⟩; have HR2 := Lib.hid hr2; have HW2 := Lib.hid (((Below.refl _ _).alloc (Nat.le_refl _) _).trans (hb2.mono (by simp))); clear hr2 hb2)
    | (go_at_call 96; (with_reducible refine (HT.out _ _ _ HR2.out).mono ?_); rintro e w1 ⟨⟨bb, rfl⟩, rfl⟩)
    | (go_at_call 95; (with_reducible refine (sUp _ _ _ _ _).mono ?_); rintro e w1 ⟨rfl, rfl⟩)
    | (go_at_call 38; (with_reducible refine (HSG.out _).mono ?_); rintro e w1 ⟨rfl, rfl⟩)
    | (go_at_call 98; (with_reducible refine (HL.out _ _ _ HR2.out).mono ?_); rintro e w1 ⟨rfl, rfl⟩))
  go_ret2
  exact ⟨_, rfl, HW2.out⟩

theorem low_bits {A : Option Addr} {n c m : Nat} {l : List Int} {w : World} (h : IRow .u32 w A n c l) (hm : Nat2 m l) (hb : ∀ x ∈ l, x ≤ 4294967295) :
    Calls Tryd.prog 90 #[.slice A n c] w fun e w' => ∃ k : Nat, e = .returned (.int .i64 (k : Int)) ∧ k ≤ 52 ∧ w' = w := by
  have hn : n ≤ 2 := by rw [← h.1]; exact hm.2.1
  refine (sBits A n c l w h hm.1 (by omega)).mono fun e w' ⟨he, hw⟩ => ?_
  by_cases h0 : n = 0
  · rw [if_pos h0] at he
    exact ⟨0, he, by omega, hw⟩
  · rw [if_neg h0] at he
    refine ⟨_, he, ?_, hw⟩
    rcases (show n = 1 ∨ n = 2 by omega) with rfl | rfl
    · have := (hm.1.at_ 0)
      have h2 := bl_le (show ((l.getD (1 - 1) 0).toNat) < 2 ^ 32 by show (l.getD 0 0).toNat < 2 ^ 32; omega)
      omega
    · have h1 := hm.2.2.2
      have := (hm.1.at_ 1)
      have h2 := bl_le (show ((l.getD (2 - 1) 0).toNat) < 2 ^ 20 by show (l.getD 1 0).toNat < 2 ^ 20; omega)
      omega

theorem one_row (W : World) : IRow .u32 (W.alloc (.cells #[.int .u32 1] 105)) (some ⟨W.heap.size, 0, none⟩) 1 1 [1] := by
  refine ⟨rfl, Nat.le_refl _, by decide, fun _ => ⟨W.heap.size, 0, rfl, by simp, fun i hi => ?_⟩⟩
  rw [Nat.zero_add, (Blk.new W _ _).cell i]
  match i, hi with
  | 0, _ => rfl

set_option maxRecDepth 8000 in
set_option maxHeartbeats 3200000 in
theorem sRound_s (A : Option Addr) (c lo hi d : Nat) (e : Int) (n : Bool) (w : World) (h : IRow .u32 w A 2 c [(lo : Int), (hi : Int)]) (h1 : lo < 4294967296) (h2 : hi < 2097152) (h3 : 1048576 ≤ hi) (he : -1074 - e = (d : Int)) (hd1 : 1 ≤ d) (hd2 : d ≤ 52) :
    Calls Tryd.prog 81 #[.int .i64 3, .int .i64 3, .bool n, .slice A 2 c, .int .i64 e, .bool false] w fun en w' => ∃ f, en = .returned (.tuple #[.int .u64 (sgn n + (((lo + hi * 4294967296) / 2 ^ d : Nat) : Int)), .int .i64 f]) ∧ Below w.heap.size w w' := by
  have hU : U32 [(lo : Int), (hi : Int)] := by
    intro x hx
    simp only [List.mem_cons, List.not_mem_nil, or_false] at hx
    rcases hx with rfl | rfl <;> omega
  have HB := Lib.hid (fun (A : Option Addr) (c : Nat) (W : World) (hr : IRow .u32 W A 2 c [(lo : Int), (hi : Int)]) => sBits A 2 c _ W hr hU (by decide))
  have hbl : ((32 * (2 - 1) + bl ([(lo : Int), (hi : Int)].getD (2 - 1) 0).toNat : Nat) : Int) = 53 := by
    show ((32 * 1 + bl (hi : Int).toNat : Nat) : Int) = 53
    rw [Int.toNat_natCast, bl_eq (k := 20) (by omega) (by omega)]
    rfl
  rw [if_neg (by decide), hbl] at HB
  have HS := Lib.hid (fun (W : World) (hr : IRow .u32 W A 2 c [(lo : Int), (hi : Int)]) => sShr A c lo hi d W hr h1 h2 hd1 hd2)
  have HSG := Lib.hid (sSign n)
  have HR := Lib.hid h
  have hsg : sgn n = 0 ∨ sgn n = 9223372036854775808 := by unfold sgn; cases n <;> simp
  obtain ⟨sg, hs⟩ : ∃ sg, sg = sgn n := ⟨_, rfl⟩
  rw [← hs] at hsg HSG ⊢
  obtain ⟨V, hV⟩ : ∃ V, V = (lo + hi * 4294967296) / 2 ^ d := ⟨_, rfl⟩
  rw [← hV] at HS ⊢
  have hVl : V < 9007199254740992 := by rw [hV]; exact Nat.lt_of_le_of_lt (Nat.div_le_self _ _) (by omega)
  obtain ⟨d1, hd1'⟩ : ∃ d1 : Nat, d1 = d - 1 := ⟨_, rfl⟩
  have HD := Lib.hid (show d1 ≤ 2000 ∧ d ≤ 2000 by omega)
  have HF1 := Lib.hid (show e + 53 - 1 = e + 52 by omega)
  have HF2 := Lib.hid (show (d : Int) - 1 = (d1 : Int) by omega)
  have HFb := Lib.hid (show IntKind.u64.wrap (sg + (V : Int)) = sg + (V : Int) from IntWalk.u64_in _ ⟨by omega, by omega⟩)
  have g1 : e + 52 < -1022 := by omega
  have g3 : ¬ -1074 ≤ e := by omega
  have g5 : (d : Int) ≤ 52 := by omega
  have g6 : (1 : Int) ≤ (d : Int) := by omega
  have g7 : -1200 ≤ e := by omega
  have HE := Lib.hid he
  clear h h1 h2 h3 hd1 hd2 hs hbl hU hV hVl hd1' hsg
  have f1 := HF1.out
  have f2 := HF2.out
  have fb := HFb.out
  have O1 := Lib.hid (show U32 [(1 : Int)] by intro x hx; rw [List.mem_singleton.1 hx]; omega)
  go_enter Tryd.func81, Tryd.ntmps81
  go_wp2_with (first
    | (go_at_call 47; (with_reducible refine (sForm_3 _).mono ?_); rintro e w1 ⟨rfl, rfl⟩)
    | (go_at_call 90; (first | ((with_reducible refine (HB.out _ _ _ HR.out).mono ?_); rintro e w1 ⟨rfl, rfl⟩) | ((with_reducible refine (HBB.out _ HR2.out).mono ?_); rintro e w1 ⟨kb, rfl, hkb, rfl⟩; have hkb1 : (kb : Int) ≤ 52 := (by omega); have hkb0 : (0 : Int) ≤ (kb : Int) := (by omega))))
    | (go_at_call 92; (with_reducible refine (HS.out _ (HR.out.below ((Below.refl _ _).alloc (Nat.le_refl _) _))).mono ?_); rintro e w2 ⟨A2, n2, c2, l2, rfl, hr2, hn2, hb2⟩; have HR2 := Lib.hid hr2; have HU2 := Lib.hid (show U32 l2 from hn2.1); have HL2 := Lib.hid (show n2 ≤ 2 from (by have h1 := hr2.1; have h2 := hn2.2.1; omega)); have HV2 := Lib.hid (show l2.getD 0 0 + l2.getD 1 0 * 4294967296 = (V : Int) from hn2.2.2.1); have HBB := Lib.hid (fun (W : World) (hr : IRow .u32 W A2 n2 c2 l2) => low_bits hr hn2 (fun x hx => (hn2.1 x hx).2)); have HW2 := Lib.hid (((Below.refl _ _).alloc (Nat.le_refl _) _).trans (hb2.mono (by simp))); clear hr2 hb2 hn2)
    | (go_at_call 91; (first
        | ((with_reducible refine (sShl _ _ _ _ d _ HR2.out HU2.out (by have h2 := HL2.out; omega) HD.out.2).mono ?_); rintro e w3 ⟨A3, n3, c3, l3, rfl, hr3, hn3, hb3⟩; have HR3 := Lib.hid (And.intro hr3 hn3); have HW3 := Lib.hid (HW2.out.trans (hb3.mono HW2.out.size)); replace HR2 := Lib.hid (HR2.out.below hb3); clear hr3 hb3 hn3)
        | ((with_reducible refine (sShl _ _ _ _ d1 _ (one_row _) O1.out (by decide) HD.out.1).mono ?_); rintro e w5 ⟨A5, n5, c5, l5, rfl, hr5, hn5, hb5⟩; have HR5 := Lib.hid (And.intro hr5 hn5); have HW5 := Lib.hid ((HW4.out.alloc HW4.out.size _).trans (hb5.mono (by simp; have := HW4.out.size; omega))); replace HR2 := Lib.hid ((HR2.out.below ((Below.refl _ _).alloc (Nat.le_refl _) _)).below hb5); replace HR4 := Lib.hid (And.intro ((HR4.out.1.below ((Below.refl _ _).alloc (Nat.le_refl _) _)).below hb5) HR4.out.2); clear hr5 hb5 hn5)))
    | (go_at_call 93; (with_reducible refine (sSub _ _ _ _ _ _ _ _ _ (HR.out.below HW3.out) HR3.out.1 (by decide)).mono ?_); rintro e w4 ⟨A4, n4, c4, l4, rfl, hr4, hn4, hb4⟩; have HR4 := Lib.hid (And.intro hr4 hn4); have HW4 := Lib.hid (HW3.out.trans (hb4.mono HW3.out.size)); replace HR2 := Lib.hid (HR2.out.below hb4); clear hr4 hb4 hn4)
    | (go_at_call 94; (with_reducible refine (sCmp _ _ _ _ _ _ _ _ _ HR4.out.1 HR5.out.1 HR4.out.2).mono ?_); rintro e w6 ⟨vc, rfl, hb6⟩; have HW6 := Lib.hid (HW5.out.trans (hb6.mono HW5.out.size)); replace HR2 := Lib.hid (HR2.out.below hb6); clear hb6)
    | (go_at_call 96; (with_reducible refine (sBit _ _ _ _ _ HR2.out).mono ?_); rintro e w1 ⟨⟨bb, rfl⟩, rfl⟩)
    | (go_at_call 95; (with_reducible refine (sUp _ _ _ _ _).mono ?_); rintro e w1 ⟨rfl, rfl⟩)
    | (go_at_call 38; (with_reducible refine (HSG.out _).mono ?_); rintro e w1 ⟨rfl, rfl⟩)
    | (go_at_call 98; (with_reducible refine (sLow _ _ _ _ _ HR2.out HU2.out (by have h2 := HL2.out; omega)).mono ?_); rintro e w1 ⟨rfl, rfl⟩; rw [HV2.out]))
  all_goals go_ret2
  all_goals exact ⟨_, rfl, HW6.out⟩
end Go.Proofs.YtmjnnjjmfedlbaaDoor
