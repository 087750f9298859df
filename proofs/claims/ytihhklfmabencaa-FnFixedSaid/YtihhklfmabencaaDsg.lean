/-
  Contracts of the drawing of signals.
-/
import Derived.Test.YtihhklfmabencaaOw
namespace Go.Proofs.Ytihhklfmabencaa
set_option linter.unusedSimpArgs false
set_option linter.unusedVariables false
open Go.RowKit Go.Dr

theorem app_st {w0 wi w w' : World} {g : Nat} {xs : List Int} {base : Nat} {v : Value} {l : List Int} {o : Obj} (hs : St w0 wi w g xs) (ho : Own w base v l) (hb : wi.heap.size ≤ base) (hw : w0.heap.size ≤ wi.heap.size) (hg : (w.alloc o).grownBy w' v.ownBlock) : St w0 wi w' g xs :=
  (hs.alloc o).grown hg (ho.ne_cu hs.1) (fun k hk => Nat.le_trans hb (World.ownsRow.lt ho k hk).1) hw

set_option maxHeartbeats 800000 in
theorem sDrawSample {w0 wi W : World} {g : Nat} {xs : List Int} (h : St w0 wi W g xs) :
    Calls Try.prog 56 #[.pointer (some ⟨g, 0, none⟩)] W fun e w' => ∃ v, e = .returned (.int .i64 v) ∧ St w0 wi w' g xs := by
  have HS := Lib.hid h
  clear h
  go_enter Try.func56, Try.ntmps56
  go_wp2_with (first | (go_at_call 29; (with_reducible refine (sBelow HS.out _).mono ?_); rintro e w1 ⟨v, rfl, hv, hs⟩; replace HS := Lib.hid hs; clear hs hv) | (go_at_call 28; (with_reducible refine (sOnce HS.out _).mono ?_); rintro e w1 ⟨q, rfl, hs⟩; replace HS := Lib.hid hs; clear hs; cases q) | (go_at_call 39; (with_reducible refine (sPickInt HS.out [1000000000, -1000000000, 0] 3 rfl (by decide) (by decide) _ _ (by simp only [List.map])).mono ?_); rintro e w1 ⟨v, rfl, hv, hs⟩; replace HS := Lib.hid hs; clear hs hv))
  all_goals go_ret
  all_goals exact ⟨_, rfl, HS.out⟩

theorem sDraw {w0 wi W : World} {g : Nat} {xs : List Int} (h0 : St w0 wi W g xs) (m : Nat) (hm : m ≤ 1000000) :
    Calls Try.prog 52 #[.pointer (some ⟨g, 0, none⟩), .int .i64 (m : Int)] W fun e w' => ∃ v l, e = .returned v ∧ l.length ≤ m ∧ Own w' W.heap.size v l ∧ St w0 wi w' g xs := by
  have HS0 := Lib.hid h0
  have HS := Lib.hid h0.turn
  have HW := Lib.hid h0.2.1.size
  clear h0
  have hm1 : wrap64 ((m : Int) + 1) = ((m + 1 : Nat) : Int) := by rw [wrap_id (by omega) (by omega)]; omega
  have HM := Lib.hid hm
  clear hm
  go_enter Try.func52, Try.ntmps52
  go_wp2_with (first | (go_at_call 29; (with_reducible refine (sBelow (HS.out.alloc (.cells #[] 3)).turn _).mono ?_); rintro e w1 ⟨v, rfl, hv, hs⟩; have HO := Lib.hid ((Own.empty W W.heap.size (Nat.le_refl _)).st (HS.out.alloc _) hs); replace HS := Lib.hid ((HS.out.alloc _).back hs); have HV := Lib.hid hv; clear hs hv))
  rename_i vi
  obtain ⟨k, rfl⟩ := Int.eq_ofNat_of_zero_le HV.out.1
  have HK := Lib.hid (show k ≤ m by have := HV.out.2 (by omega); omega)
  clear HV hm1
  go_loopw [5, 6] (fun v i wr => ∃ (j : Nat) (l : List Int), l.length + j = k ∧ i = .int .i64 ((j : Nat) : Int) ∧ Hid (Own wr W.heap.size v l) ∧ Hid (St w0 W wr g xs)) (fun _ i _ => (intOf i).toNat)
  case atStart => exact ⟨k, [], by simp, rfl, HO.out, HS.out⟩
  case round =>
    rename_i wr
    clear HS HO
    obtain ⟨j, l, hj, rfl, HO, HS⟩ := hrel
    cases j with
    | zero =>
      go_wp2
      go_ret
      exact ⟨_, l, rfl, by have := HK.out; omega, HO.out, HS0.out.back HS.out⟩
    | succ j =>
      have hk1 : wrap64 (j : Int) = (j : Int) := by have := HM.out; have := HK.out; exact wrap_id (by omega) (by omega)
      have HL := Lib.hid (show l.length ≤ 1048576 by have := HM.out; have := HK.out; omega)
      go_wp2_with (first
        | (go_at_call 56; (with_reducible refine (sDrawSample HS.out.turn).mono ?_); rintro e w1 ⟨v, rfl, hs⟩; replace HO := Lib.hid (HO.out.st HS.out hs); replace HS := Lib.hid (HS.out.back hs); clear hs)
        | (at_builtin; refine app1 rfl (.tmp 16) (.tmp 19) rfl W.heap.size _ _ _ rfl HO.out rfl HL.out HS.out.2.2.1 ?_; intro v2 w2 ho hg; replace HS := Lib.hid (app_st HS.out HO.out (Nat.le_refl _) HW.out hg); replace HO := Lib.hid ho; clear ho hg))
      go_roundw
      case rel => exact ⟨j, _, by simp; omega, by rw [hk1], HO.out, HS.out⟩
      case measure => rw [hk1]; simp only [intOf, Int.toNat_natCast]; omega

theorem Own.made (W : World) (base n : Nat) (hb : base ≤ W.heap.size) (hn : n ≤ maxLen) : Own (W.alloc (.cells (madeCells #[.int .i64 0] n) 3)) base (.slice (some ⟨W.heap.size, 0, none⟩) n n) (List.replicate n 0) := by
  have h := World.ownsRow_lit (base := base) (e := 3) (size := 1) W (madeCells #[.int .i64 0] n) n hb hn (by rw [size_madeCells]; omega)
  unfold Own
  rw [List.length_replicate]
  have e : (madeCells #[.int .i64 0] n).toList = (List.replicate n (0 : Int)).map (Value.int .i64) := by
    apply List.ext_getElem
    · simp [madeCells]
    · intro i h1 h2; simp [madeCells]; rw [Nat.mod_one]; rfl
  rw [e] at h
  exact h

theorem make_ints (n : Nat) (hn : n ≤ 1048576) (W : World) : (Instr.makeSlice 27 (.int .i64 (n : Int)) (.int .i64 (n : Int))).run Try.prog W = .ok (.slice (some ⟨W.heap.size, 0, none⟩) n n) (W.alloc (.cells (madeCells #[.int .i64 0] n) 3)) := by
  obtain ⟨i0, hi, hz0, hz1, hz2⟩ := info_parts intInfo
  have := run_make (P := Try.prog) W 27 3 i0 _ Try.underlying27 hi hz0 .i64 .i64 n n (by omega) (by omega) (by rw [hz2]; omega) (by omega)
  rw [hz1] at this
  simpa [Value.cells] using this

theorem sDrawAny {w0 wi W : World} {g : Nat} {xs : List Int} (h0 : St w0 wi W g xs) (m : Nat) (hm : m ≤ 1000) :
    Calls Try.prog 34 #[.pointer (some ⟨g, 0, none⟩), .int .i64 (m : Int)] W fun e w' => ∃ v l, e = .returned v ∧ l.length ≤ 1001 ∧ Own w' W.heap.size v l ∧ St w0 wi w' g xs := by
  have HS0 := Lib.hid h0
  have HS := Lib.hid h0.turn
  have HW := Lib.hid h0.2.1.size
  clear h0
  have HM := Lib.hid hm
  have hk0 : ∀ w, (Instr.makeSlice 27 (.int .i64 512) (.int .i64 512)).run Try.prog w = .ok (.slice (some ⟨w.heap.size, 0, none⟩) 512 512) (w.alloc (.cells (madeCells #[.int .i64 0] 512) 3)) := make_ints 512 (by omega)
  have hk1 : ∀ w, (Instr.makeSlice 27 (.int .i64 513) (.int .i64 513)).run Try.prog w = .ok (.slice (some ⟨w.heap.size, 0, none⟩) 513 513) (w.alloc (.cells (madeCells #[.int .i64 0] 513) 3)) := make_ints 513 (by omega)
  clear hm
  go_enter Try.func34, Try.ntmps34
  go_wp2_with (first
    | (go_at_call 52; (with_reducible refine (sDraw HS.out.turn m (by have := HM.out; omega)).mono ?_); rintro e w1 ⟨v, l, rfl, hl, ho, hs⟩; have HO := Lib.hid ho; have HL := Lib.hid (show l.length ≤ 1000 from Nat.le_trans hl HM.out); replace HS := Lib.hid (HS.out.back hs); clear hs ho hl)
    | (go_at_call 28; (with_reducible refine (sOnce HS.out.turn _).mono ?_); rintro e w1 ⟨q, rfl, hs⟩; replace HO := Lib.hid (HO.out.st HS.out hs); replace HS := Lib.hid (HS.out.back hs); clear hs; cases q)
    | (go_at_call 39; (with_reducible refine (sPickInt HS.out.turn [1000000001, -1000000001] 2 rfl (by decide) (by decide) _ _ (by simp only [List.map])).mono ?_); rintro e w1 ⟨x, rfl, hv, hs⟩; replace HO := Lib.hid (HO.out.st HS.out hs); replace HS := Lib.hid (HS.out.back hs); clear hs hv)
    | (go_at_call 29; (with_reducible refine (sBelow HS.out.turn _).mono ?_); rintro e w1 ⟨x, rfl, hv, hs⟩; replace HO := Lib.hid (HO.out.st HS.out hs); replace HS := Lib.hid (HS.out.back hs); clear hs; rcases (show x = 0 ∨ x = 1 by have := hv.2 (by omega); omega) with rfl | rfl; all_goals (clear hv))
    | (at_builtin; refine app1 rfl (.tmp 11) (.tmp 15) rfl W.heap.size _ _ _ rfl HO.out rfl (by have := HL.out; omega) HS.out.2.2.1 ?_; intro v2 w2 ho hg; replace HS := Lib.hid (app_st HS.out HO.out (Nat.le_refl _) HW.out hg); replace HO := Lib.hid ho; clear ho hg))
  all_goals go_ret
  all_goals first
    | exact ⟨_, _, rfl, by rw [List.length_replicate]; omega, Own.made _ _ _ HS.out.2.2.1 (by unfold maxLen; omega), HS0.out.back (HS.out.alloc _)⟩
    | exact ⟨_, _, rfl, by have := HL.out; simp; omega, HO.out, HS0.out.back HS.out⟩
    | exact ⟨_, _, rfl, by have := HL.out; omega, HO.out, HS0.out.back HS.out⟩

theorem sDrawRamp (A : Option Addr) (n c : Nat) (xs : List Int) (w : World) (h : IRow .u8 w A n c xs) (hn : n ≤ 1048576) :
    Calls Try.prog 11 #[.slice A n c] w fun e w' => ∃ A' n' c' l, e = .returned (.slice A' n' c') ∧ n' ≤ 1001 ∧ IRow .i64 w' A' n' c' l ∧ Below w.heap.size w w' := by
  have HN := Lib.hid (l1New_any A n c xs w h hn)
  have HZ := Lib.hid (l1Size_any A n c 40)
  have HNN := Lib.hid hn
  clear h hn
  go_enter Try.func11, Try.ntmps11
  go_wp2_with (first
    | (go_at_call 26; (with_reducible refine HN.out.mono ?_); rintro e w1 ⟨g, rfl, hc, hb⟩; have HS := Lib.hid (St.new hc hb); clear hc hb)
    | (go_at_call 35; (with_reducible refine (HZ.out _ HNN.out).mono ?_); rintro e w1 ⟨v, rfl, hv, hv2, hb⟩; replace HS := Lib.hid (HS.out.below hb); obtain ⟨k, rfl⟩ := Int.eq_ofNat_of_zero_le (show 0 ≤ v by have := hv2 (by omega); omega); have HK := Lib.hid (show k ≤ 1000 by omega); clear hv hv2 hb)
    | (go_at_call 34; (with_reducible refine (sDrawAny HS.out.turn _ HK.out).mono ?_); rintro e w1 ⟨v, l, rfl, hl, ho, hs⟩; replace HS := Lib.hid (HS.out.back hs); obtain ⟨A', c', rfl⟩ := ho.form; have HR := Lib.hid ho.row.1; have HL := Lib.hid hl; clear hl ho hs))
  go_ret
  exact ⟨_, _, _, _, rfl, HL.out, HR.out, HS.out.2.1⟩
end Go.Proofs.Ytihhklfmabencaa
