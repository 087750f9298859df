/-
  The walk of the law FnShaped: whatever is drawn, it returns true.
-/
import Derived.Test.YtihhklfmabencaaSn
import Derived.Test.YtihhklfmabencaaDsg
namespace Go.Proofs.Ytihhklfmabencaa
set_option linter.unusedSimpArgs false
set_option linter.unusedVariables false
open Go.RowKit Go.Dr

theorem sDrawShape (A : Option Addr) (n c : Nat) (xs : List Int) (w : World) (h : IRow .u8 w A n c xs) (hn : n ≤ 1048576) :
    Calls Try.prog 17 #[.slice A n c] w fun e w' => ∃ A' n' c' l b, e = .returned (.tuple #[.slice A' n' c', .int .i64 b]) ∧ n' ≤ 1001 ∧ (0 ≤ b ∧ b ≤ 21) ∧ IRow .i64 w' A' n' c' l ∧ Below w.heap.size w w' := by
  have HN := Lib.hid (l1New_any A n c xs w h hn)
  have HZ := Lib.hid (l1Size_any A n c 40)
  have HNN := Lib.hid hn
  clear h hn
  go_enter Try.func17, Try.ntmps17
  go_wp2_with (first
    | (go_at_call 26; (with_reducible refine HN.out.mono ?_); rintro e w1 ⟨g, rfl, hc, hb⟩; have HS := Lib.hid (St.new hc hb); clear hc hb)
    | (go_at_call 35; (with_reducible refine (HZ.out _ HNN.out).mono ?_); rintro e w1 ⟨v, rfl, hv, hv2, hb⟩; replace HS := Lib.hid (HS.out.below hb); obtain ⟨k, rfl⟩ := Int.eq_ofNat_of_zero_le (show 0 ≤ v by have := hv2 (by omega); omega); have HK := Lib.hid (show k ≤ 1000 by omega); clear hv hv2 hb)
    | (go_at_call 34; (with_reducible refine (sDrawAny HS.out.turn _ HK.out).mono ?_); rintro e w1 ⟨v, l, rfl, hl, ho, hs⟩; replace HS := Lib.hid (HS.out.back hs); have HO := Lib.hid ho; have HL := Lib.hid hl; clear hl ho hs)
    | (go_at_call 39; (with_reducible refine (sPickInt HS.out.turn [1, 2, 5, 12, 20, 0, 21] 7 rfl (by decide) (by decide) _ _ (by simp only [List.map])).mono ?_); rintro e w1 ⟨x, rfl, hv, hs⟩; replace HO := Lib.hid (HO.out.st HS.out hs); replace HS := Lib.hid (HS.out.back hs); have HV := Lib.hid hv; clear hs hv))
  go_ret2
  obtain ⟨A', c', rfl⟩ := HO.out.form
  exact ⟨_, _, _, _, _, rfl, HL.out, by have := HV.out; simp at this; omega, HO.out.row.1, HS.out.2.1⟩

def absI (x : Int) : Int := if x < 0 then -x else x
theorem abs_any (x : Int) (h : -1000000000000 ≤ x ∧ x ≤ 1000000000000) (w : World) :
    Calls Try.prog 20 #[.int .i64 x] w fun e w' => e = .returned (.int .i64 (absI x)) ∧ Below w.heap.size w w' := by
  by_cases h0 : x < 0
  · have HZ := Lib.hid (show absI x = -x by unfold absI; exact if_pos h0)
    have d : decide (x < 0) = true := decide_eq_true h0
    have he : wrap64 (-x) = -x := wrap_id (by omega) (by omega)
    clear h h0
    go_enter Try.func20, Try.ntmps20
    go_wp2
    go_ret
    exact ⟨ret_i64 (he.trans HZ.out.symm), Below.refl _ _⟩
  · have HZ := Lib.hid (show absI x = x by unfold absI; exact if_neg h0)
    have d : decide (x < 0) = false := decide_eq_false h0
    clear h h0
    go_enter Try.func20, Try.ntmps20
    go_wp2
    go_ret
    exact ⟨ret_i64 HZ.out.symm, Below.refl _ _⟩

theorem noise_len (l : List Int) (b : Int) : (noise l b).length = l.length := tab_len _ _
theorem iShape_t {l : List Int} {b : Int} (hs : shapeB l b = true) (A : Option Addr) (n c : Nat) (w : World) (h : IRow .i64 w A n c l) (hn : n ≤ 1048576) :
    Calls Try.prog 18 #[.slice A n c, .int .i64 b] w fun e w' => ∃ A1 c1, e = .returned (.tuple #[.slice A1 n c1, .bool true]) ∧ IRow .i64 w' A1 n c1 (noise l b) ∧ Below w.heap.size w w' := by
  refine (iShapeNoise_any A n c l b w h hn).mono fun e w' ⟨v, e1, e2, e3⟩ => ?_
  rw [hs] at e1 e2
  change Own w' w.heap.size v (noise l b) at e2
  obtain ⟨A1, c1, rfl⟩ := e2.form
  have hl : (noise l b).length = n := (noise_len l b).trans h.1
  have r := e2.row.1
  rw [hl] at e1 r
  exact ⟨A1, c1, e1, r, e3⟩
theorem iShape_f {l : List Int} {b : Int} (hs : shapeB l b = false) (A : Option Addr) (n c : Nat) (w : World) (h : IRow .i64 w A n c l) (hn : n ≤ 1048576) :
    Calls Try.prog 18 #[.slice A n c, .int .i64 b] w fun e w' => ∃ A1 c1, e = .returned (.tuple #[.slice A1 0 c1, .bool false]) ∧ Below w.heap.size w w' := by
  refine (iShapeNoise_any A n c l b w h hn).mono fun e w' ⟨v, e1, e2, e3⟩ => ?_
  rw [hs] at e1 e2
  change Own w' w.heap.size v [] at e2
  obtain ⟨A1, c1, rfl⟩ := e2.form
  exact ⟨A1, c1, e1, e3⟩
theorem sShape_b {l : List Int} {b : Int} {q : Bool} (hs : shapeB l b = q) (A : Option Addr) (n c : Nat) (w : World) (h : IRow .i64 w A n c l) (hn : n ≤ 1048576) :
    Calls Try.prog 19 #[.slice A n c, .int .i64 b] w fun e w' => ∃ v, e = .returned (.tuple #[v, .bool q]) ∧ Below w.heap.size w w' := by
  subst hs; exact sShapeNoise_any A n c l b w h hn
theorem iShape_111 (w : World) (t : TypeId) (cs : Array Value) (hcs : cs = (List.map (Value.int .i64) [1, 1, 1]).toArray) :
    Calls Try.prog 18 #[.slice (some ⟨w.heap.size, 0, none⟩) 3 3, .int .i64 1] (w.alloc (.cells cs t)) fun e w' => ∃ A1 c1, e = .returned (.tuple #[.slice A1 3 c1, .bool true]) ∧ Below w.heap.size w w' :=
  (iShape_t (l := [1, 1, 1]) (b := 1) (by decide) _ 3 3 _ (IRow.new .i64 w t [1, 1, 1] 3 rfl (by unfold maxLen; omega) cs hcs) (by omega)).mono fun e w' ⟨A1, c1, e1, _, e3⟩ =>
    ⟨A1, c1, e1, (below_alloc0 _ _).trans (e3.mono (by simp))⟩

/-- One round of the law's sum. -/
theorem law_step {l : List Int} {m : Nat} (ha : allS l) (h1 : 1 ≤ m) (h2 : m ≤ 20) {k : Nat} (hk : k < l.length) :
    ∃ X Z a D, wrap64 (nE l m k + l.getD k 0) = X ∧ wrap64 (nY l m k * 2 ^ m) = Z ∧ wrap64 (X - Z) = nE l m (k + 1) ∧ (-1000000000000 ≤ nE l m (k + 1) ∧ nE l m (k + 1) ≤ 1000000000000) ∧
      wrap64 (2 * (absI (nE l m (k + 1)))) = a ∧ wrap64 (2 ^ m) = D ∧ decide (D < a) = false := by
  obtain ⟨X, Z, g1, _, g3, g4⟩ := shape_step ha h1 h2 hk
  have ih2 := nE_le ha h1 h2 (k + 1) (by omega)
  have hD : (2 : Int) ^ m ≤ 1048576 := by
    have : (2 : Int) ^ m ≤ 2 ^ 20 := by exact_mod_cast Nat.pow_le_pow_right (show 0 < 2 by decide) h2
    simpa using this
  have hD0 : (0 : Int) < 2 ^ m := Int.pow_pos (by decide)
  have HG := Lib.hid g4
  refine ⟨X, Z, _, 2 ^ m, by rw [Int.add_comm]; exact g1, g3, g4, ?_, rfl, wrap_id (by omega) (by omega), ?_⟩
  · clear g1 g3 g4; omega
  · clear g1 g3 g4 HG
    generalize nE l m (k + 1) = q at *
    refine decide_eq_false ?_
    unfold absI
    split
    · rw [wrap_id (by omega) (by omega)]; omega
    · rw [wrap_id (by omega) (by omega)]; omega

set_option maxHeartbeats 3200000 in
theorem walk_FnShaped (A : Option Addr) (n c : Nat) (xs : List Int) (w : World) (h : IRow .u8 w A n c xs ∧ ∀ n ∈ xs, (Lit.int .u8 n).wf = true) :
    Calls Try.prog 5 #[.slice A n c] w fun e w' => e = .returned (.bool true) ∧ Below w.heap.size w w' := by
  have HH := Lib.hid h.1
  clear h
  have HG := Lib.hid (big_any A n c)
  by_cases hn : (n : Int) > 1048576
  · have d : decide ((n : Int) > 1048576) = true := decide_eq_true hn
    rw [d] at HG
    clear hn
    go_enter Try.func5, Try.ntmps5
    go_wp2_with (go_at_call 7; (with_reducible refine (HG.out _).mono ?_); rintro e w1 ⟨rfl, hbn⟩; have HB := Lib.hid hbn; clear hbn)
    go_ret
    exact ⟨rfl, HB.out⟩
  · have d : decide ((n : Int) > 1048576) = false := decide_eq_false hn
    rw [d] at HG
    have HN := Lib.hid (show n ≤ 1048576 by omega)
    clear hn
    go_enter Try.func5, Try.ntmps5
    go_wp2_with (first
      | (go_at_call 7; (with_reducible refine (HG.out _).mono ?_); rintro e w1 ⟨rfl, hbn⟩; have HB := Lib.hid hbn; clear hbn)
      | (go_at_call 17; (with_reducible refine (sDrawShape _ _ _ _ _ (HH.out.below HB.out) HN.out).mono ?_); rintro e w1 ⟨A', n', c', l, b, rfl, hl, hv, hr, hb⟩; have HL := Lib.hid hr; have HV := Lib.hid hv; replace HB := Lib.hid (HB.out.trans (hb.mono HB.out.size)); have HM := Lib.hid (show n' ≤ 1048576 by omega); clear hl hv hr hb; cases hb1 : shapeB l b <;> have E1 := Lib.hid hb1 <;> clear hb1)
      | (go_at_call 18; (with_reducible refine (iShape_f E1.out A' n' c' _ HL.out HM.out).mono ?_); rintro e w1 ⟨A1, c1, rfl, hb⟩; (try replace HL := Lib.hid (HL.out.below hb)); (try replace H1 := Lib.hid (H1.out.below hb)); replace HB := Lib.hid (HB.out.trans (hb.mono HB.out.size)); clear hb)
      | (go_at_call 18; (with_reducible refine (iShape_t E1.out A' n' c' _ HL.out HM.out).mono ?_); rintro e w1 ⟨A1, c1, rfl, h1, hb⟩; have H1 := Lib.hid h1; clear h1; replace HL := Lib.hid (HL.out.below hb); replace HB := Lib.hid (HB.out.trans (hb.mono HB.out.size)); clear hb)
      | (go_at_call 19; (with_reducible refine (sShape_b E1.out A' n' c' _ HL.out HM.out).mono ?_); rintro e w1 ⟨v, rfl, hb⟩; (try replace HL := Lib.hid (HL.out.below hb)); (try replace H1 := Lib.hid (H1.out.below hb)); replace HB := Lib.hid (HB.out.trans (hb.mono HB.out.size)); clear hb))
    · -- not a signal
      go_loopw [9, 10] (fun s i wr => s = .int .i64 0 ∧ i = .int .i64 0 ∧ Hid (Below w.heap.size w wr)) (fun _ _ _ => 0)
      case atStart => exact ⟨rfl, rfl, HB.out⟩
      case round =>
        clear HB
        obtain ⟨rfl, rfl, HB⟩ := hrel
        go_wp2_with (go_at_call 18; (with_reducible refine (iShape_111 _ _ _ (by simp only [List.map])).mono ?_); rintro e w1 ⟨A2, c2, rfl, hb⟩; replace HB := Lib.hid (HB.out.trans (hb.mono HB.out.size)); clear hb)
        go_ret
        exact ⟨rfl, HB.out⟩
    · obtain ⟨m, rfl⟩ := Int.eq_ofNat_of_zero_le HV.out.1
      have HQ := Lib.hid (show allS l ∧ 1 ≤ m ∧ m ≤ 20 by
        have := E1.out
        unfold shapeB sigB at this
        simp at this
        exact ⟨this.1.2, by omega, by omega⟩)
      have hx := HL.out.1
      subst hx
      have mu : IntKind.u64.wrap (m : Int) = m := IntWalk.u64_in _ ⟨by omega, by have := HQ.out.2.2; omega⟩
      go_loopw [9, 10] (fun s i wr => ∃ k, k ≤ l.length ∧ s = .int .i64 (nE l m k) ∧ i = .int .i64 ((k : Nat) : Int) ∧ Hid (Below w1.heap.size w1 wr)) (fun _ i _ => l.length - (intOf i).toNat)
      case atStart => exact ⟨0, Nat.zero_le _, rfl, rfl, Below.refl _ _⟩
      case round =>
        rename_i wr
        obtain ⟨k, hk, rfl, rfl, HK⟩ := hrel
        by_cases hlt : k < l.length
        · obtain ⟨b, off, rfl, hb, hc⟩ := HL.out.2.2.2 (by omega)
          obtain ⟨b', off', rfl, hb', hc'⟩ := H1.out.2.2.2 (by omega)
          have hcell : wr.cell? ⟨b, off + k, none⟩ = some (.int .i64 (l.getD k 0)) := by rw [HK.out.cell (p := ⟨b, off + k, none⟩) hb]; exact hc k hlt
          have hcell' : wr.cell? ⟨b', off' + k, none⟩ = some (.int .i64 ((noise l m).getD k 0)) := by rw [HK.out.cell (p := ⟨b', off' + k, none⟩) hb']; exact hc' k hlt
          rw [show (noise l m).getD k 0 = nY l m k from tab_get _ hlt] at hcell'
          clear hc hc'
          have hk1 := spell k l.length hlt HM.out
          obtain ⟨X, Z, a, D, g1, g2, g3, g4, g5, g6, g7⟩ := law_step HQ.out.1 HQ.out.2.1 HQ.out.2.2 hlt
          have HC := Lib.hid (abs_any (nE l m (k + 1)) g4)
          have HX := Lib.hid (rfl : nE l m (k + 1) = nE l m (k + 1))
          have m60 : m ≤ 60 := by have := HQ.out.2.2; omega
          clear g4
          generalize (absI (nE l m (k + 1))) = f at HC g5
          generalize hq : nE l m (k + 1) = q at g3 HC
          replace HX := Lib.hid hq
          generalize nY l m k = y at hcell' g2
          generalize l.getD k 0 = x at hcell g1
          generalize nE l m k = p at g1
          clear hq
          go_wp2
          go_quiet (fail)
          go_wp2_with (go_at_call 20; (with_reducible refine (HC.out _).mono ?_); rintro e w2 ⟨rfl, hb2⟩; replace HK := Lib.hid ((below_drewN HK.out _).trans (hb2.mono HK.out.size)); clear hb2)
          go_roundw
          case rel => exact ⟨k + 1, by omega, by rw [HX.out], by rw [hk1], HK.out⟩
          case measure => rw [hk1]; simp only [intOf, Int.toNat_natCast]; omega
        · have hkn : k = l.length := by omega
          subst hkn
          replace HB := Lib.hid (HB.out.trans (HK.out.mono HB.out.size))
          go_wp2_with (go_at_call 18; (with_reducible refine (iShape_111 _ _ _ (by simp only [List.map])).mono ?_); rintro e w1 ⟨A2, c2, rfl, hb⟩; replace HB := Lib.hid (HB.out.trans (hb.mono HB.out.size)); clear hb)
          go_ret
          exact ⟨rfl, HB.out⟩
end Go.Proofs.Ytihhklfmabencaa
