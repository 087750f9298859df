/-
  Contracts of the drawing of a form and its bits.
-/
import Derived.Test.YtmjnnjjmfedlbaaDoorDs
import Derived.Test.YtmjnnjjmfedlbaaDoorNx
namespace Go.Proofs.YtmjnnjjmfedlbaaDoor
set_option linter.unusedSimpArgs false
set_option linter.unusedVariables false
open Go.RowKit Go.Dr

theorem u64_rngY (x : Int) : 0 ≤ IntKind.u64.wrap x ∧ IntKind.u64.wrap x ≤ 18446744073709551615 := by
  rw [IntKind.wrap_u64]; omega
theorem bits_rng (o : BinOp) (x y : Int) : 0 ≤ Go.bits o .u64 x y ∧ Go.bits o .u64 x y ≤ 18446744073709551615 := u64_rngY _

theorem sWordY {w0 wi W : World} {g : Nat} {xs : List Int} (h : St w0 wi W g xs) :
    Calls Tryd.prog 76 #[.pointer (some ⟨g, 0, none⟩)] W fun e w' => ∃ v, e = .returned (.int .u64 v) ∧ (0 ≤ v ∧ v ≤ 18446744073709551615) ∧ St w0 wi w' g xs := by
  have HS := Lib.hid h
  clear h
  go_enter Tryd.func76, Tryd.ntmps76
  go_wp2
  go_loopw [3, 4] (fun u i wr => ∃ (x : Int) (k : Nat), u = .int .u64 x ∧ (0 ≤ x ∧ x ≤ 18446744073709551615) ∧ i = .int .i64 (k : Int) ∧ k ≤ 8 ∧ Hid (St w0 wi wr g xs)) (fun _ i _ => 8 - (intOf i).toNat)
  case atStart => exact ⟨0, 0, rfl, by omega, rfl, by omega, HS.out⟩
  case round =>
    clear HS
    obtain ⟨x, k, rfl, hx, rfl, hk, HS⟩ := hrel
    have HX := Lib.hid hx
    clear hx
    by_cases h8 : k < 8
    · have hk8 : (k : Int) < 8 := by omega
      have HK := Lib.hid h8
      clear hk
      go_wp2_with (go_at_call 85; (with_reducible refine (sByte HS.out).mono ?_); rintro e w1 ⟨v, rfl, hv, hs⟩; replace HS := Lib.hid hs; clear hs hv)
      go_roundw
      case rel => exact ⟨_, k + 1, rfl, u64_rngY _, by go_num, HK.out, HS.out⟩
      case measure => have := HK.out; simp [intOf]; omega
    · obtain rfl : k = 8 := by omega
      go_wp2
      go_ret
      exact ⟨_, rfl, HX.out, HS.out⟩

set_option maxRecDepth 8000 in
set_option maxHeartbeats 1600000 in
theorem sDrawBitsY_1 {w0 wi W : World} {g : Nat} {xs : List Int} (h : St w0 wi W g xs) :
    Calls Tryd.prog 77 #[.pointer (some ⟨g, 0, none⟩), .int .i64 1] W fun e w' => ∃ v, e = .returned (.int .u64 v) ∧ (0 ≤ v ∧ v ≤ 18446744073709551615) ∧ St w0 wi w' g xs := by
  have HS := Lib.hid h
  clear h
  have HSG := Lib.hid (show ∀ (n : Bool) (w : World), Calls Tryd.prog 38 #[.int .i64 1, .bool n] w fun e w' => ∃ s, e = .returned (.int .u64 s) ∧ w' = w from fun n w => by
    cases n
    · exact (sSign0_1 w).mono fun e w' h => ⟨_, h⟩
    · exact (sSignOf_1 w).mono fun e w' h => ⟨_, h⟩)
  go_enter Tryd.func77, Tryd.ntmps77
  go_wp2_with (first
    | (go_at_call 47; (with_reducible refine (oForm_1 _).mono ?_); rintro e w1 ⟨rfl, rfl⟩)
    | (go_at_call 72; (with_reducible refine (sOnce HS.out _).mono ?_); rintro e w1 ⟨q, rfl, hs⟩; replace HS := Lib.hid hs; clear hs)
    | (go_at_call 38; (with_reducible refine (HSG.out _ _).mono ?_); rintro e w1 ⟨sg, rfl, rfl⟩)
    | (go_at_call 70; (with_reducible refine (sBelow HS.out _).mono ?_); rintro e w1 ⟨v, rfl, hv, hs⟩; replace HS := Lib.hid hs; clear hs hv)
    | (go_at_call 42; (with_reducible refine (oInf_1 _).mono ?_); rintro e w1 ⟨rfl, rfl⟩)
    | (go_at_call 41; (with_reducible refine (oPlain_1 _).mono ?_); rintro e w1 ⟨rfl, rfl⟩)
    | (go_at_call 76; (with_reducible refine (sWordY HS.out).mono ?_); rintro e w1 ⟨v, rfl, hv, hs⟩; replace HS := Lib.hid hs; clear hs hv))
  all_goals go_ret
  all_goals exact ⟨_, rfl, u64_rngY _, HS.out⟩

set_option maxRecDepth 8000 in
set_option maxHeartbeats 1600000 in
theorem sDrawBitsY_2 {w0 wi W : World} {g : Nat} {xs : List Int} (h : St w0 wi W g xs) :
    Calls Tryd.prog 77 #[.pointer (some ⟨g, 0, none⟩), .int .i64 2] W fun e w' => ∃ v, e = .returned (.int .u64 v) ∧ (0 ≤ v ∧ v ≤ 18446744073709551615) ∧ St w0 wi w' g xs := by
  have HS := Lib.hid h
  clear h
  have HSG := Lib.hid (show ∀ (n : Bool) (w : World), Calls Tryd.prog 38 #[.int .i64 2, .bool n] w fun e w' => ∃ s, e = .returned (.int .u64 s) ∧ w' = w from fun n w => by
    cases n
    · exact (sSign0_2 w).mono fun e w' h => ⟨_, h⟩
    · exact (sSignOf_2 w).mono fun e w' h => ⟨_, h⟩)
  go_enter Tryd.func77, Tryd.ntmps77
  go_wp2_with (first
    | (go_at_call 47; (with_reducible refine (oForm_2 _).mono ?_); rintro e w1 ⟨rfl, rfl⟩)
    | (go_at_call 72; (with_reducible refine (sOnce HS.out _).mono ?_); rintro e w1 ⟨q, rfl, hs⟩; replace HS := Lib.hid hs; clear hs)
    | (go_at_call 38; (with_reducible refine (HSG.out _ _).mono ?_); rintro e w1 ⟨sg, rfl, rfl⟩)
    | (go_at_call 70; (with_reducible refine (sBelow HS.out _).mono ?_); rintro e w1 ⟨v, rfl, hv, hs⟩; replace HS := Lib.hid hs; clear hs hv)
    | (go_at_call 42; (with_reducible refine (oInf_2 _).mono ?_); rintro e w1 ⟨rfl, rfl⟩)
    | (go_at_call 41; (with_reducible refine (oPlain_2 _).mono ?_); rintro e w1 ⟨rfl, rfl⟩)
    | (go_at_call 76; (with_reducible refine (sWordY HS.out).mono ?_); rintro e w1 ⟨v, rfl, hv, hs⟩; replace HS := Lib.hid hs; clear hs hv))
  all_goals go_ret
  all_goals exact ⟨_, rfl, u64_rngY _, HS.out⟩

set_option maxRecDepth 8000 in
set_option maxHeartbeats 1600000 in
theorem sDrawBitsY_3 {w0 wi W : World} {g : Nat} {xs : List Int} (h : St w0 wi W g xs) :
    Calls Tryd.prog 77 #[.pointer (some ⟨g, 0, none⟩), .int .i64 3] W fun e w' => ∃ v, e = .returned (.int .u64 v) ∧ (0 ≤ v ∧ v ≤ 18446744073709551615) ∧ St w0 wi w' g xs := by
  have HS := Lib.hid h
  clear h
  have HSG := Lib.hid (show ∀ (n : Bool) (w : World), Calls Tryd.prog 38 #[.int .i64 3, .bool n] w fun e w' => ∃ s, e = .returned (.int .u64 s) ∧ w' = w from fun n w => by
    cases n
    · exact (sSign0_3 w).mono fun e w' h => ⟨_, h⟩
    · exact (sSignOf_3 w).mono fun e w' h => ⟨_, h⟩)
  go_enter Tryd.func77, Tryd.ntmps77
  go_wp2_with (first
    | (go_at_call 47; (with_reducible refine (oForm_3 _).mono ?_); rintro e w1 ⟨rfl, rfl⟩)
    | (go_at_call 72; (with_reducible refine (sOnce HS.out _).mono ?_); rintro e w1 ⟨q, rfl, hs⟩; replace HS := Lib.hid hs; clear hs)
    | (go_at_call 38; (with_reducible refine (HSG.out _ _).mono ?_); rintro e w1 ⟨sg, rfl, rfl⟩)
    | (go_at_call 70; (with_reducible refine (sBelow HS.out _).mono ?_); rintro e w1 ⟨v, rfl, hv, hs⟩; replace HS := Lib.hid hs; clear hs hv)
    | (go_at_call 42; (with_reducible refine (oInf_3 _).mono ?_); rintro e w1 ⟨rfl, rfl⟩)
    | (go_at_call 41; (with_reducible refine (oPlain_3 _).mono ?_); rintro e w1 ⟨rfl, rfl⟩)
    | (go_at_call 76; (with_reducible refine (sWordY HS.out).mono ?_); rintro e w1 ⟨v, rfl, hv, hs⟩; replace HS := Lib.hid hs; clear hs hv))
  all_goals go_ret
  all_goals exact ⟨_, rfl, u64_rngY _, HS.out⟩

/-- A form, perhaps none. -/
def FormAny (f : Int) : Prop := f = 0 ∨ f = 1 ∨ f = 2 ∨ f = 3 ∨ f = 4
theorem sDrawBitsY {w0 wi W : World} {g : Nat} {xs : List Int} {f : Int} (h : St w0 wi W g xs) (hf : f = 1 ∨ f = 2 ∨ f = 3) :
    Calls Tryd.prog 77 #[.pointer (some ⟨g, 0, none⟩), .int .i64 f] W fun e w' => ∃ v, e = .returned (.int .u64 v) ∧ (0 ≤ v ∧ v ≤ 18446744073709551615) ∧ St w0 wi w' g xs := by
  rcases hf with rfl | rfl | rfl
  · exact sDrawBitsY_1 h
  · exact sDrawBitsY_2 h
  · exact sDrawBitsY_3 h

theorem sDrawForm {w0 wi W : World} {g : Nat} {xs : List Int} (h : St w0 wi W g xs) :
    Calls Tryd.prog 88 #[.pointer (some ⟨g, 0, none⟩)] W fun e w' => ∃ f, e = .returned (.int .i64 f) ∧ (f = 1 ∨ f = 2 ∨ f = 3) ∧ St w0 wi w' g xs := by
  have HS := Lib.hid h
  clear h
  go_enter Tryd.func88, Tryd.ntmps88
  go_wp2_with (go_at_call 70; (with_reducible refine (sBelow HS.out _).mono ?_); rintro e w1 ⟨v, rfl, hv, hs⟩; replace HS := Lib.hid hs; have HV := Lib.hid hv; clear hs hv)
  go_ret
  have hv := HV.out
  have h3 := hv.2 (by decide)
  have h4 : wrap64 (1 + v) = 1 + v := IntWalk.wrap64_in _ ⟨by omega, by omega⟩
  exact ⟨_, by first | rfl | rw [h4], by omega, HS.out⟩

theorem sDrawMode {w0 wi W : World} {g : Nat} {xs : List Int} (h : St w0 wi W g xs) :
    Calls Tryd.prog 78 #[.pointer (some ⟨g, 0, none⟩)] W fun e w' => ∃ f, e = .returned (.int .i64 f) ∧ St w0 wi w' g xs := by
  have HS := Lib.hid h
  clear h
  go_enter Tryd.func78, Tryd.ntmps78
  go_wp2_with (first | (go_at_call 72; (with_reducible refine (sOnce HS.out _).mono ?_); rintro e w1 ⟨q, rfl, hs⟩; replace HS := Lib.hid hs; clear hs; cases q) | (go_at_call 70; (with_reducible refine (sBelow HS.out _).mono ?_); rintro e w1 ⟨v, rfl, hv, hs⟩; replace HS := Lib.hid hs; clear hs hv) | (go_at_call 89; (with_reducible refine (sPickInt HS.out [0, 6] 2 rfl (by decide) (by decide) _ _ (by simp only [List.map])).mono ?_); rintro e w1 ⟨v, rfl, hv, hs⟩; replace HS := Lib.hid hs; clear hs hv))
  all_goals go_ret
  all_goals exact ⟨_, rfl, HS.out⟩

set_option maxRecDepth 8000 in
set_option maxHeartbeats 1600000 in
theorem sDrawAny {w0 wi W : World} {g : Nat} {xs : List Int} (h : St w0 wi W g xs) :
    Calls Tryd.prog 75 #[.pointer (some ⟨g, 0, none⟩)] W fun e w' => ∃ f v, e = .returned (.tuple #[.int .i64 f, .int .u64 v]) ∧ FormAny f ∧ (0 ≤ v ∧ v ≤ 18446744073709551615) ∧ St w0 wi w' g xs := by
  have HS := Lib.hid h
  clear h
  go_enter Tryd.func75, Tryd.ntmps75
  go_wp2_with (first
    | (go_at_call 88; (with_reducible refine (sDrawForm HS.out).mono ?_); rintro e w1 ⟨f, rfl, hf, hs⟩; replace HS := Lib.hid hs; have HF := Lib.hid hf; have HFA := Lib.hid (show FormAny f by unfold FormAny; omega); clear hs hf)
    | (go_at_call 77; (with_reducible refine (sDrawBitsY HS.out HF.out).mono ?_); rintro e w1 ⟨v, rfl, hv, hs⟩; replace HS := Lib.hid hs; have HV := Lib.hid hv; clear hs hv)
    | (go_at_call 72; (with_reducible refine (sOnce HS.out _).mono ?_); rintro e w1 ⟨q, rfl, hs⟩; replace HS := Lib.hid hs; clear hs; cases q)
    | (go_at_call 76; (with_reducible refine (sWordY HS.out).mono ?_); rintro e w1 ⟨v, rfl, hv, hs⟩; replace HS := Lib.hid hs; replace HV := Lib.hid hv; clear hs hv)
    | (go_at_call 89; (with_reducible refine (sPickInt HS.out [0, 4] 2 rfl (by decide) (by decide) _ _ (by simp only [List.map])).mono ?_); rintro e w1 ⟨v, rfl, hv, hs⟩; replace HS := Lib.hid hs; replace HFA := Lib.hid (show FormAny v by unfold FormAny; simp at hv; omega); clear hs hv))
  all_goals go_ret2
  all_goals exact ⟨_, _, rfl, HFA.out, HV.out, HS.out⟩

/-- What two draws come to. -/
def TwoIs (w0 wi : World) (g : Nat) (xs : List Int) (e : Ending) (w' : World) : Prop := ∃ f m a b, e = .returned (.tuple #[.int .i64 f, .int .i64 m, .int .u64 a, .int .u64 b]) ∧ FormAny f ∧ (0 ≤ a ∧ a ≤ 18446744073709551615) ∧ (0 ≤ b ∧ b ≤ 18446744073709551615) ∧ St w0 wi w' g xs

set_option maxRecDepth 8000 in
set_option maxHeartbeats 3200000 in
theorem sDrawTwo (A : Option Addr) (n c : Nat) (xs : List Int) (w : World) (h : IRow .u8 w A n c xs) (hn : n ≤ 1048576) :
    Calls Tryd.prog 66 #[.slice A n c] w fun e w' => ∃ f m a b, e = .returned (.tuple #[.int .i64 f, .int .i64 m, .int .u64 a, .int .u64 b]) ∧ FormAny f ∧ (0 ≤ a ∧ a ≤ 18446744073709551615) ∧ (0 ≤ b ∧ b ≤ 18446744073709551615) ∧ Below w.heap.size w w' := by
  have HN := Lib.hid (l1New_any A n c xs w h hn)
  have HSN := Lib.hid (show ∀ (f : Int) (w : World), FormAny f → Calls Tryd.prog 47 #[.int .i64 f] w fun e w' => ∃ x y z q, e = .returned (.tuple #[.int .i64 x, .int .i64 y, .int .i64 z, .bool q]) ∧ (q = false ∨ (q = true ∧ (f = 1 ∨ f = 2 ∨ f = 3))) ∧ w' = w from fun f w hf => by
    rcases form_cases f with rfl | rfl | rfl | h
    · exact (oForm_1 w).mono fun e w' h => ⟨_, _, _, _, h.1, .inr ⟨rfl, by omega⟩, h.2⟩
    · exact (oForm_2 w).mono fun e w' h => ⟨_, _, _, _, h.1, .inr ⟨rfl, by omega⟩, h.2⟩
    · exact (oForm_3 w).mono fun e w' h => ⟨_, _, _, _, h.1, .inr ⟨rfl, by omega⟩, h.2⟩
    · exact (oForm_n h w).mono fun e w' h => ⟨_, _, _, _, h.1, .inl rfl, h.2⟩)
  have HSG := Lib.hid (show ∀ (f : Int) (w : World), (f = 1 ∨ f = 2 ∨ f = 3) → Calls Tryd.prog 38 #[.int .i64 f, .bool true] w fun e w' => ∃ s, e = .returned (.int .u64 s) ∧ w' = w from fun f w hf => by
    rcases hf with rfl | rfl | rfl
    · exact (sSignOf_1 w).mono fun e w' h => ⟨_, h⟩
    · exact (sSignOf_2 w).mono fun e w' h => ⟨_, h⟩
    · exact (sSignOf_3 w).mono fun e w' h => ⟨_, h⟩)
  clear h hn
  go_enter Tryd.func66, Tryd.ntmps66
  go_wp2_with (first
    | (go_at_call 59; (with_reducible refine HN.out.mono ?_); rintro e w1 ⟨g, rfl, hc, hb⟩; have HS := Lib.hid (St.new hc hb); clear hc hb)
    | (go_at_call 75; (with_reducible refine (sDrawAny HS.out).mono ?_); rintro e w1 ⟨f, a, rfl, hf, ha, hs⟩; replace HS := Lib.hid hs; have HFA := Lib.hid hf; have HA := Lib.hid ha; clear hs hf ha)
    | (go_at_call 47; (with_reducible refine (HSN.out _ _ HFA.out).mono ?_); rintro e w1 ⟨x, y, z, q, rfl, (rfl | ⟨rfl, hf⟩), rfl⟩)
    | (go_at_call 77; (with_reducible refine (sDrawBitsY HS.out hf).mono ?_); rintro e w1 ⟨v, rfl, hv, hs⟩; replace HS := Lib.hid hs; have HV := Lib.hid hv; clear hs hv)
    | (go_at_call 38; (with_reducible refine (HSG.out _ _ hf).mono ?_); rintro e w1 ⟨sg, rfl, rfl⟩; replace HV := Lib.hid (fun x y => bits_rng .xor x y))
    | (go_at_call 72; (with_reducible refine (sOnce HS.out _).mono ?_); rintro e w1 ⟨q, rfl, hs⟩; replace HS := Lib.hid hs; clear hs; cases q)
    | (go_at_call 70; (with_reducible refine (sBelow HS.out _).mono ?_); rintro e w1 ⟨v, rfl, hv, hs⟩; replace HS := Lib.hid hs; clear hs hv)
    | (go_at_call 76; (with_reducible refine (sWordY HS.out).mono ?_); rintro e w1 ⟨v, rfl, hv, hs⟩; replace HS := Lib.hid hs; have HV := Lib.hid hv; clear hs hv)
    | (go_at_call 78; (with_reducible refine (sDrawMode HS.out).mono ?_); rintro e w1 ⟨v, rfl, hs⟩; replace HS := Lib.hid hs; clear hs))
  all_goals (refine bodyPost_ret (results_q4 rfl _ _ _) rfl ?_)
  all_goals (first | exact ⟨_, _, _, _, rfl, HFA.out, HA.out, HV.out, HS.out.2.1⟩ | exact ⟨_, _, _, _, rfl, HFA.out, HA.out, HV.out _ _, HS.out.2.1⟩)

theorem sDrawOrder (A : Option Addr) (n c : Nat) (xs : List Int) (w : World) (h : IRow .u8 w A n c xs) (hn : n ≤ 1048576) :
    Calls Tryd.prog 22 #[.slice A n c] w fun e w' => ∃ (f : Int) (a b : Nat), e = .returned (.tuple #[.int .i64 f, .int .u64 (a : Int), .int .u64 (b : Int)]) ∧ FormAny f ∧ a < 18446744073709551616 ∧ b < 18446744073709551616 ∧ Below w.heap.size w w' := by
  have HN := Lib.hid (show Calls Tryd.prog 49 #[.slice A n c] w fun e w' => ∃ (f : Int) (a b : Nat), e = .returned (.tuple #[.int .i64 f, .int .u64 (a : Int), .int .u64 (b : Int)]) ∧ FormAny f ∧ a < 18446744073709551616 ∧ b < 18446744073709551616 ∧ Below w.heap.size w w' by
    have HM := Lib.hid (sDrawTwo A n c xs w h hn)
    clear h hn
    go_enter Tryd.func49, Tryd.ntmps49
    go_wp2_with (go_at_call 66; (with_reducible refine HM.out.mono ?_); rintro e w1 ⟨f, m, a, b, rfl, hf, ha, hb, hbn⟩; obtain ⟨a, rfl⟩ := Int.eq_ofNat_of_zero_le ha.1; obtain ⟨b, rfl⟩ := Int.eq_ofNat_of_zero_le hb.1; have HF := Lib.hid hf; have HA := Lib.hid ha; have HB := Lib.hid hb; have HW := Lib.hid hbn; clear hf ha hb hbn)
    (try simp only [Exit.inBlock, Exit.then])
    refine bodyPost_ret (results_tmp3 rfl _ _ _) rfl ?_
    exact ⟨_, _, _, rfl, HF.out, by have := HA.out.2; omega, by have := HB.out.2; omega, HW.out⟩)
  clear h hn
  go_enter Tryd.func22, Tryd.ntmps22
  go_wp2_with (go_at_call 49; (with_reducible refine HN.out.mono ?_); rintro e w1 ⟨f, a, b, rfl, hf, ha, hb, hbn⟩; have HF := Lib.hid hf; have HA := Lib.hid ha; have HB := Lib.hid hb; have HW := Lib.hid hbn; clear hf ha hb hbn)
  (try simp only [Exit.inBlock, Exit.then])
  refine bodyPost_ret (results_tmp3 rfl _ _ _) rfl ?_
  exact ⟨_, _, _, rfl, HF.out, HA.out, HB.out, HW.out⟩
end Go.Proofs.YtmjnnjjmfedlbaaDoor
