/-
  Contracts of Ramp and Steps, of the program and of the reference.
-/
import Derived.Test.YtihhklfmabencaaSg
namespace Go.Proofs.Ytihhklfmabencaa
set_option linter.unusedSimpArgs false
set_option linter.unusedVariables false
open Go.RowKit Go.Dr

theorem ret_vb {v : Value} {a b : Bool} (h : a = b) : Ending.returned (.tuple #[v, .bool a]) = .returned (.tuple #[v, .bool b]) := by rw [h]
/-- The list, if it is told to be fine. -/
def pickL (b : Bool) (l : List Int) : List Int := if b then l else []
theorem below_alloc0 (w : World) (o : Obj) : Below w.heap.size w (w.alloc o) := (Below.refl _ _).alloc (Nat.le_refl _) _
theorem below_alloc1 {w w1 : World} {o : Obj} (h : Below w.heap.size w w1) : Below w.heap.size w (w1.alloc o) := h.alloc h.size _

theorem iRamp_any (A : Option Addr) (n c : Nat) (l : List Int) (w : World) (h : IRow .i64 w A n c l) (hn : n ≤ 1048576) :
    Calls Try.prog 12 #[.slice A n c] w fun e w' => ∃ v, e = .returned (.tuple #[v, .bool (rampB l)]) ∧ Own w' w.heap.size v (pickL (rampB l) (ramp l)) ∧ Below w.heap.size w w' := by
  have hx := h.1
  subst hx
  have HR := Lib.hid h
  have HN := Lib.hid hn
  have HS := Lib.hid (iSignalOk_any A l.length c l w h hn)
  clear h hn
  cases hb : sigB l with
  | false =>
    have HZ := Lib.hid (show false = rampB l by unfold rampB; rw [hb]; rfl)
    rw [hb] at HS
    clear hb
    go_enter Try.func12, Try.ntmps12
    go_wp2_with (go_at_call 36; (with_reducible refine (HS.out).mono ?_); rintro e w1 ⟨rfl, hb2⟩; have HB := Lib.hid hb2; clear hb2)
    go_ret2
    exact ⟨_, ret_vb HZ.out, by rw [← HZ.out]; exact Own.nil _ _, HB.out⟩
  | true =>
    have HT := Lib.hid hb
    rw [hb] at HS
    have HA := Lib.hid (show l.length ≤ 512 ∧ allS l from of_decide_eq_true hb)
    clear hb
    go_enter Try.func12, Try.ntmps12
    go_wp2_with (go_at_call 36; (with_reducible refine (HS.out).mono ?_); rintro e w1 ⟨rfl, hb2⟩; have HB := Lib.hid hb2; clear hb2)
    go_loopw [4, 5, 7, 13] (fun v y x i wr => ∃ k, k ≤ l.length ∧ y = .int .i64 (psum l k) ∧ i = .int .i64 ((k : Nat) : Int) ∧ Hid (Own wr w.heap.size v (tab (rampF l) k)) ∧ Hid (Below w.heap.size w wr)) (fun _ _ _ i _ => l.length - (intOf i).toNat)
    case atStart => exact ⟨0, Nat.zero_le _, rfl, rfl, Own.nil _ _, HB.out⟩
    case round =>
      rename_i wr
      clear HB
      obtain ⟨k, hk, rfl, rfl, HO, HB⟩ := hrel
      by_cases hlt : k < l.length
      · obtain ⟨b, off, rfl, hb, hc⟩ := HR.out.2.2.2 (by omega)
        have HCW := Lib.hid (hc k hlt)
        have hcell : wr.cell? ⟨b, off + k, none⟩ = some (.int .i64 (l.getD k 0)) := by rw [HB.out.cell (p := ⟨b, off + k, none⟩) hb]; exact hc k hlt
        clear hc
        have hk1 := spell k l.length hlt HN.out
        have HL := Lib.hid (show (tab (rampF l) k).length ≤ 1048576 by rw [tab_len]; have := HN.out; omega)
        have hs : wrap64 (psum l k + l.getD k 0) = rampF l k := by
          have h1 := psum_le HA.out.2 k (by omega)
          have h2 := allS_at HA.out.2 hlt
          unfold inS at h2
          have h3 := HA.out.1
          unfold rampF
          simp only [psum]
          exact wrap_id (by omega) (by omega)
        have HY := Lib.hid (show psum l (k + 1) = rampF l k from rfl)
        generalize hF : rampF l k = z at hs HY
        generalize hY : l.getD k 0 = y at hcell hs HY HCW
        generalize hP : psum l k = p at hs
        have HF := Lib.hid hF
        clear hF hY hP
        go_wp2_with (at_builtin; refine app1 rfl (.tmp 20) (.tmp 22) rfl w.heap.size _ _ _ rfl HO.out rfl HL.out HB.out.size ?_; intro v2 w2 ho hg; replace HB := Lib.hid (app_below HB.out HO.out hg); replace HO := Lib.hid ho; clear ho hg)
        go_roundw
        case rel => exact ⟨k + 1, by omega, by rw [HY.out], by rw [hk1], by rw [tab_succ, HF.out]; exact HO.out, HB.out⟩
        case measure => rw [hk1]; simp only [intOf, Int.toNat_natCast]; omega
      · have hkn : k = l.length := by omega
        subst hkn
        have HQ := Lib.hid (show sigB (tab (rampF l) l.length) = rampB l by unfold rampB ramp; rw [HT.out]; rfl)
        obtain ⟨A2, c2, rfl⟩ := HO.out.form
        have HC := Lib.hid (iSignalOk_any A2 _ c2 _ wr HO.out.row.1 (by rw [tab_len]; exact HN.out))
        have HU := Lib.hid (show tab (rampF l) l.length = ramp l from rfl)
        cases hq : sigB (tab (rampF l) l.length) with
        | false =>
          rw [hq] at HC HQ
          clear hq
          go_wp2_with (go_at_call 36; (with_reducible refine HC.out.mono ?_); rintro e w1 ⟨rfl, hb2⟩; replace HO := Lib.hid (HO.out.below hb2 (Nat.le_refl _)); replace HB := Lib.hid (HB.out.trans (hb2.mono HB.out.size)); clear hb2)
          go_ret2
          exact ⟨_, ret_vb HQ.out, by rw [← HQ.out]; exact Own.nil _ _, HB.out⟩
        | true =>
          rw [hq] at HC HQ
          clear hq
          go_wp2_with (go_at_call 36; (with_reducible refine HC.out.mono ?_); rintro e w1 ⟨rfl, hb2⟩; replace HO := Lib.hid (HO.out.below hb2 (Nat.le_refl _)); replace HB := Lib.hid (HB.out.trans (hb2.mono HB.out.size)); clear hb2)
          go_ret2
          exact ⟨_, ret_vb HQ.out, by rw [← HQ.out]; exact HO.out, HB.out⟩

theorem iSteps_any (A : Option Addr) (n c : Nat) (l : List Int) (w : World) (h : IRow .i64 w A n c l) (hn : n ≤ 1048576) :
    Calls Try.prog 14 #[.slice A n c] w fun e w' => ∃ v, e = .returned (.tuple #[v, .bool (stepB l)]) ∧ Own w' w.heap.size v (pickL (stepB l) (steps l)) ∧ Below w.heap.size w w' := by
  have hx := h.1
  subst hx
  have HR := Lib.hid h
  have HN := Lib.hid hn
  have HS := Lib.hid (iSignalOk_any A l.length c l w h hn)
  clear h hn
  cases hb : sigB l with
  | false =>
    have HZ := Lib.hid (show false = stepB l by unfold stepB; rw [hb]; rfl)
    rw [hb] at HS
    clear hb
    go_enter Try.func14, Try.ntmps14
    go_wp2_with (go_at_call 36; (with_reducible refine (HS.out).mono ?_); rintro e w1 ⟨rfl, hb2⟩; have HB := Lib.hid hb2; clear hb2)
    go_ret2
    exact ⟨_, ret_vb HZ.out, by rw [← HZ.out]; exact Own.nil _ _, HB.out⟩
  | true =>
    have HT := Lib.hid hb
    rw [hb] at HS
    have HA := Lib.hid (show l.length ≤ 512 ∧ allS l from of_decide_eq_true hb)
    clear hb
    go_enter Try.func14, Try.ntmps14
    go_wp2_with (go_at_call 36; (with_reducible refine (HS.out).mono ?_); rintro e w1 ⟨rfl, hb2⟩; have HB := Lib.hid hb2; clear hb2)
    go_loopw [4, 5, 7, 13] (fun v y x i wr => ∃ k, k ≤ l.length ∧ y = .int .i64 (prev l k) ∧ i = .int .i64 ((k : Nat) : Int) ∧ Hid (Own wr w.heap.size v (tab (stepF l) k)) ∧ Hid (Below w.heap.size w wr)) (fun _ _ _ i _ => l.length - (intOf i).toNat)
    case atStart => exact ⟨0, Nat.zero_le _, rfl, rfl, Own.nil _ _, HB.out⟩
    case round =>
      rename_i wr
      clear HB
      obtain ⟨k, hk, rfl, rfl, HO, HB⟩ := hrel
      by_cases hlt : k < l.length
      · obtain ⟨b, off, rfl, hb, hc⟩ := HR.out.2.2.2 (by omega)
        have HCW := Lib.hid (hc k hlt)
        have hcell : wr.cell? ⟨b, off + k, none⟩ = some (.int .i64 (l.getD k 0)) := by rw [HB.out.cell (p := ⟨b, off + k, none⟩) hb]; exact hc k hlt
        clear hc
        have hk1 := spell k l.length hlt HN.out
        have HL := Lib.hid (show (tab (stepF l) k).length ≤ 1048576 by rw [tab_len]; have := HN.out; omega)
        have hs : wrap64 (l.getD k 0 - prev l k) = stepF l k := by
          have h1 := prev_in HA.out.2 k (by omega)
          have h2 := allS_at HA.out.2 hlt
          unfold inS at h1 h2
          unfold stepF
          exact wrap_id (by omega) (by omega)
        have HY := Lib.hid (show prev l (k + 1) = l.getD k 0 from rfl)
        generalize hF : stepF l k = z at hs HY
        generalize hY : l.getD k 0 = y at hcell hs HY HCW
        generalize hP : prev l k = p at hs
        have HF := Lib.hid hF
        clear hF hY hP
        go_wp2_with (at_builtin; refine app1 rfl (.tmp 17) (.tmp 21) rfl w.heap.size _ _ _ rfl HO.out rfl HL.out HB.out.size ?_; intro v2 w2 ho hg; replace HB := Lib.hid (app_below HB.out HO.out hg); replace HO := Lib.hid ho; clear ho hg)
        go_roundw
        case rel => exact ⟨k + 1, by omega, by rw [HY.out], by rw [hk1], by rw [tab_succ, HF.out]; exact HO.out, HB.out⟩
        case measure => rw [hk1]; simp only [intOf, Int.toNat_natCast]; omega
      · have hkn : k = l.length := by omega
        subst hkn
        have HQ := Lib.hid (show sigB (tab (stepF l) l.length) = stepB l by unfold stepB steps; rw [HT.out]; rfl)
        obtain ⟨A2, c2, rfl⟩ := HO.out.form
        have HC := Lib.hid (iSignalOk_any A2 _ c2 _ wr HO.out.row.1 (by rw [tab_len]; exact HN.out))
        have HU := Lib.hid (show tab (stepF l) l.length = steps l from rfl)
        cases hq : sigB (tab (stepF l) l.length) with
        | false =>
          rw [hq] at HC HQ
          clear hq
          go_wp2_with (go_at_call 36; (with_reducible refine HC.out.mono ?_); rintro e w1 ⟨rfl, hb2⟩; replace HO := Lib.hid (HO.out.below hb2 (Nat.le_refl _)); replace HB := Lib.hid (HB.out.trans (hb2.mono HB.out.size)); clear hb2)
          go_ret2
          exact ⟨_, ret_vb HQ.out, by rw [← HQ.out]; exact Own.nil _ _, HB.out⟩
        | true =>
          rw [hq] at HC HQ
          clear hq
          go_wp2_with (go_at_call 36; (with_reducible refine HC.out.mono ?_); rintro e w1 ⟨rfl, hb2⟩; replace HO := Lib.hid (HO.out.below hb2 (Nat.le_refl _)); replace HB := Lib.hid (HB.out.trans (hb2.mono HB.out.size)); clear hb2)
          go_ret2
          exact ⟨_, ret_vb HQ.out, by rw [← HQ.out]; exact HO.out, HB.out⟩

theorem sRamp_any (A : Option Addr) (n c : Nat) (l : List Int) (w : World) (h : IRow .i64 w A n c l) (hn : n ≤ 1048576) :
    Calls Try.prog 13 #[.slice A n c] w fun e w' => ∃ v, e = .returned (.tuple #[v, .bool (rampB l)]) ∧ Below w.heap.size w w' := by
  have hx := h.1
  subst hx
  have HR := Lib.hid h
  have HN := Lib.hid hn
  have HS2 := Lib.hid (sSignalOk_any A l.length c l (w.alloc (.cells #[] 3)) (h.below (below_alloc0 _ _)) hn)
  clear h hn
  cases hb : sigB l with
  | false =>
    have HZ := Lib.hid (show false = rampB l by unfold rampB; rw [hb]; rfl)
    rw [hb] at HS2
    clear hb
    go_enter Try.func13, Try.ntmps13
    go_wp2_with (go_at_call 37; (with_reducible refine (HS2.out).mono ?_); rintro e w1 ⟨rfl, hb2⟩; have HB := Lib.hid ((below_alloc0 _ _).trans (hb2.mono (by simp))); have HO := Lib.hid ((Own.empty w w.heap.size (Nat.le_refl _)).below hb2 (Nat.le_refl _)); clear hb2)
    go_ret2
    exact ⟨_, ret_vb HZ.out, HB.out⟩
  | true =>
    have HT := Lib.hid hb
    rw [hb] at HS2
    have HA := Lib.hid (show l.length ≤ 512 ∧ allS l from of_decide_eq_true hb)
    clear hb
    go_enter Try.func13, Try.ntmps13
    go_wp2_with (go_at_call 37; (with_reducible refine (HS2.out).mono ?_); rintro e w1 ⟨rfl, hb2⟩; have HB := Lib.hid ((below_alloc0 _ _).trans (hb2.mono (by simp))); have HO := Lib.hid ((Own.empty w w.heap.size (Nat.le_refl _)).below hb2 (Nat.le_refl _)); clear hb2)
    go_loopw [4, 5, 6] (fun v y i wr => ∃ k, k ≤ l.length ∧ y = .int .i64 (psum l k) ∧ i = .int .i64 ((k : Nat) : Int) ∧ Hid (∀ j, j < k → inS (rampF l j)) ∧ Hid (Own wr w.heap.size v (tab (rampF l) k)) ∧ Hid (Below w.heap.size w wr)) (fun _ _ i _ => l.length - (intOf i).toNat)
    case atStart => exact ⟨0, Nat.zero_le _, rfl, rfl, (fun j hj => absurd hj (by omega)), HO.out, HB.out⟩
    case round =>
      rename_i wr
      clear HB HO
      obtain ⟨k, hk, rfl, rfl, HP, HO, HB⟩ := hrel
      by_cases hlt : k < l.length
      · obtain ⟨b, off, rfl, hb, hc⟩ := HR.out.2.2.2 (by omega)
        have HCW := Lib.hid (hc k hlt)
        have hcell : wr.cell? ⟨b, off + k, none⟩ = some (.int .i64 (l.getD k 0)) := by rw [HB.out.cell (p := ⟨b, off + k, none⟩) hb]; exact hc k hlt
        clear hc
        have hk1 := spell k l.length hlt HN.out
        have HL := Lib.hid (show (tab (rampF l) k).length ≤ 1048576 by rw [tab_len]; have := HN.out; omega)
        have hs : wrap64 (psum l k + l.getD k 0) = rampF l k := by
          have h1 := psum_le HA.out.2 k (by omega)
          have h2 := allS_at HA.out.2 hlt
          unfold inS at h2
          have h3 := HA.out.1
          unfold rampF
          simp only [psum]
          exact wrap_id (by omega) (by omega)
        have HY := Lib.hid (show psum l (k + 1) = rampF l k from rfl)
        have HC := Lib.hid (sSample_any (rampF l k))
        by_cases h1 : inS (rampF l k)
        · have HX := Lib.hid h1
          rw [decide_eq_true h1] at HC
          clear h1
          generalize hF : rampF l k = z at hs HC HX HY
          generalize hY : l.getD k 0 = y at hcell hs HY HCW
          generalize hP : psum l k = p at hs
          have HF := Lib.hid hF
          have HY2 := Lib.hid hY
          clear hF hY hP
          go_wp2_with (first | (go_at_call 38; (with_reducible refine (HC.out _).mono ?_); rintro e w1 ⟨rfl, hb2⟩; replace HO := Lib.hid (HO.out.below hb2 (Nat.le_refl _)); replace HB := Lib.hid (HB.out.trans (hb2.mono HB.out.size)); replace hcell := (hb2.cell (p := ⟨b, off + k, none⟩) (World.block_lt_of_cell? _ _ hcell)).trans hcell; clear hb2) | (at_builtin; refine app1 rfl (.tmp 28) (.tmp 30) rfl w.heap.size _ _ _ rfl HO.out rfl HL.out HB.out.size ?_; intro v2 w2 ho hg; replace HB := Lib.hid (app_below HB.out HO.out hg); replace HO := Lib.hid ho; clear ho hg))
          go_roundw
          case rel => exact ⟨k + 1, by omega, by rw [HY.out], by rw [hk1], (fun j hj => by
              by_cases e : j = k
              · subst e; rw [HF.out]; exact HX.out
              · exact HP.out j (by omega)), by rw [tab_succ, HF.out]; exact HO.out, HB.out⟩
          case measure => rw [hk1]; simp only [intOf, Int.toNat_natCast]; omega
        · have HZ := Lib.hid (show false = rampB l by
            unfold rampB sigB
            rw [show decide ((ramp l).length ≤ 512 ∧ allS (ramp l)) = false from decide_eq_false (fun h => h1 (by have := allS_at (j := k) h.2 (by unfold ramp; rw [tab_len]; exact hlt); unfold ramp at this; rwa [tab_get _ hlt] at this))]
            simp)
          rw [decide_eq_false h1] at HC
          clear h1
          generalize hF : rampF l k = z at hs HC HY
          generalize hY : l.getD k 0 = y at hcell hs HY HCW
          generalize hP : psum l k = p at hs
          clear hF hY hP
          go_wp2_with (go_at_call 38; (with_reducible refine (HC.out _).mono ?_); rintro e w1 ⟨rfl, hb2⟩; replace HO := Lib.hid (HO.out.below hb2 (Nat.le_refl _)); replace HB := Lib.hid (HB.out.trans (hb2.mono HB.out.size)); replace hcell := (hb2.cell (p := ⟨b, off + k, none⟩) (World.block_lt_of_cell? _ _ hcell)).trans hcell; clear hb2)
          go_ret2
          exact ⟨_, ret_vb HZ.out, below_alloc1 HB.out⟩
      · have hkn : k = l.length := by omega
        subst hkn
        have HZ := Lib.hid (show true = rampB l by
          unfold rampB sigB
          rw [decide_eq_true HA.out, decide_eq_true (show (ramp l).length ≤ 512 ∧ allS (ramp l) from ⟨by unfold ramp; rw [tab_len]; exact HA.out.1, allS_of (fun j hj => by unfold ramp at hj ⊢; rw [tab_len] at hj; rw [tab_get _ hj]; exact HP.out j hj)⟩)]; rfl)
        go_wp2
        go_ret2
        exact ⟨_, ret_vb HZ.out, HB.out⟩

theorem sSteps_any (A : Option Addr) (n c : Nat) (l : List Int) (w : World) (h : IRow .i64 w A n c l) (hn : n ≤ 1048576) :
    Calls Try.prog 16 #[.slice A n c] w fun e w' => ∃ v, e = .returned (.tuple #[v, .bool (stepB l)]) ∧ Below w.heap.size w w' := by
  have hx := h.1
  subst hx
  have HR := Lib.hid h
  have HN := Lib.hid hn
  have HS2 := Lib.hid (sSignalOk_any A l.length c l (w.alloc (.cells #[] 3)) (h.below (below_alloc0 _ _)) hn)
  clear h hn
  cases hb : sigB l with
  | false =>
    have HZ := Lib.hid (show false = stepB l by unfold stepB; rw [hb]; rfl)
    rw [hb] at HS2
    clear hb
    go_enter Try.func16, Try.ntmps16
    go_wp2_with (go_at_call 37; (with_reducible refine (HS2.out).mono ?_); rintro e w1 ⟨rfl, hb2⟩; have HB := Lib.hid ((below_alloc0 _ _).trans (hb2.mono (by simp))); have HO := Lib.hid ((Own.empty w w.heap.size (Nat.le_refl _)).below hb2 (Nat.le_refl _)); clear hb2)
    go_ret2
    exact ⟨_, ret_vb HZ.out, HB.out⟩
  | true =>
    have HT := Lib.hid hb
    rw [hb] at HS2
    have HA := Lib.hid (show l.length ≤ 512 ∧ allS l from of_decide_eq_true hb)
    clear hb
    go_enter Try.func16, Try.ntmps16
    go_wp2_with (go_at_call 37; (with_reducible refine (HS2.out).mono ?_); rintro e w1 ⟨rfl, hb2⟩; have HB := Lib.hid ((below_alloc0 _ _).trans (hb2.mono (by simp))); have HO := Lib.hid ((Own.empty w w.heap.size (Nat.le_refl _)).below hb2 (Nat.le_refl _)); clear hb2)
    go_loopw [4, 5, 6] (fun v y i wr => ∃ k, k ≤ l.length ∧ y = .int .i64 (prev l k) ∧ i = .int .i64 ((k : Nat) : Int) ∧ Hid (∀ j, j < k → inS (stepF l j)) ∧ Hid (Own wr w.heap.size v (tab (stepF l) k)) ∧ Hid (Below w.heap.size w wr)) (fun _ _ i _ => l.length - (intOf i).toNat)
    case atStart => exact ⟨0, Nat.zero_le _, rfl, rfl, (fun j hj => absurd hj (by omega)), HO.out, HB.out⟩
    case round =>
      rename_i wr
      clear HB HO
      obtain ⟨k, hk, rfl, rfl, HP, HO, HB⟩ := hrel
      by_cases hlt : k < l.length
      · obtain ⟨b, off, rfl, hb, hc⟩ := HR.out.2.2.2 (by omega)
        have HCW := Lib.hid (hc k hlt)
        have hcell : wr.cell? ⟨b, off + k, none⟩ = some (.int .i64 (l.getD k 0)) := by rw [HB.out.cell (p := ⟨b, off + k, none⟩) hb]; exact hc k hlt
        clear hc
        have hk1 := spell k l.length hlt HN.out
        have HL := Lib.hid (show (tab (stepF l) k).length ≤ 1048576 by rw [tab_len]; have := HN.out; omega)
        have hs : wrap64 (l.getD k 0 - prev l k) = stepF l k := by
          have h1 := prev_in HA.out.2 k (by omega)
          have h2 := allS_at HA.out.2 hlt
          unfold inS at h1 h2
          unfold stepF
          exact wrap_id (by omega) (by omega)
        have HY := Lib.hid (show prev l (k + 1) = l.getD k 0 from rfl)
        have HC := Lib.hid (sSample_any (stepF l k))
        by_cases h1 : inS (stepF l k)
        · have HX := Lib.hid h1
          rw [decide_eq_true h1] at HC
          clear h1
          generalize hF : stepF l k = z at hs HC HX HY
          generalize hY : l.getD k 0 = y at hcell hs HY HCW
          generalize hP : prev l k = p at hs
          have HF := Lib.hid hF
          have HY2 := Lib.hid hY
          clear hF hY hP
          go_wp2_with (first | (go_at_call 38; (with_reducible refine (HC.out _).mono ?_); rintro e w1 ⟨rfl, hb2⟩; replace HO := Lib.hid (HO.out.below hb2 (Nat.le_refl _)); replace HB := Lib.hid (HB.out.trans (hb2.mono HB.out.size)); replace hcell := (hb2.cell (p := ⟨b, off + k, none⟩) (World.block_lt_of_cell? _ _ hcell)).trans hcell; clear hb2) | (at_builtin; refine app1 rfl (.tmp 27) (.tmp 34) rfl w.heap.size _ _ _ rfl HO.out rfl HL.out HB.out.size ?_; intro v2 w2 ho hg; replace HB := Lib.hid (app_below HB.out HO.out hg); replace HO := Lib.hid ho; clear ho hg; replace hcell := (HB.out.cell (p := ⟨b, off + k, none⟩) hb).trans HCW.out))
          go_roundw
          case rel => exact ⟨k + 1, by omega, by rw [HY.out], by rw [hk1], (fun j hj => by
              by_cases e : j = k
              · subst e; rw [HF.out]; exact HX.out
              · exact HP.out j (by omega)), by rw [tab_succ, HF.out]; exact HO.out, HB.out⟩
          case measure => rw [hk1]; simp only [intOf, Int.toNat_natCast]; omega
        · have HZ := Lib.hid (show false = stepB l by
            unfold stepB sigB
            rw [show decide ((steps l).length ≤ 512 ∧ allS (steps l)) = false from decide_eq_false (fun h => h1 (by have := allS_at (j := k) h.2 (by unfold steps; rw [tab_len]; exact hlt); unfold steps at this; rwa [tab_get _ hlt] at this))]
            simp)
          rw [decide_eq_false h1] at HC
          clear h1
          generalize hF : stepF l k = z at hs HC HY
          generalize hY : l.getD k 0 = y at hcell hs HY HCW
          generalize hP : prev l k = p at hs
          clear hF hY hP
          go_wp2_with (go_at_call 38; (with_reducible refine (HC.out _).mono ?_); rintro e w1 ⟨rfl, hb2⟩; replace HO := Lib.hid (HO.out.below hb2 (Nat.le_refl _)); replace HB := Lib.hid (HB.out.trans (hb2.mono HB.out.size)); replace hcell := (hb2.cell (p := ⟨b, off + k, none⟩) (World.block_lt_of_cell? _ _ hcell)).trans hcell; clear hb2)
          go_ret2
          exact ⟨_, ret_vb HZ.out, below_alloc1 HB.out⟩
      · have hkn : k = l.length := by omega
        subst hkn
        have HZ := Lib.hid (show true = stepB l by
          unfold stepB sigB
          rw [decide_eq_true HA.out, decide_eq_true (show (steps l).length ≤ 512 ∧ allS (steps l) from ⟨by unfold steps; rw [tab_len]; exact HA.out.1, allS_of (fun j hj => by unfold steps at hj ⊢; rw [tab_len] at hj; rw [tab_get _ hj]; exact HP.out j hj)⟩)]; rfl)
        go_wp2
        go_ret2
        exact ⟨_, ret_vb HZ.out, HB.out⟩
end Go.Proofs.Ytihhklfmabencaa
