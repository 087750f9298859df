/-
  The bits of a form and their order: the contracts of 'shape.order' and 'of'.
-/
import Derived.Test.YtmjnnjjmfedlbaaDoorOi
namespace Go.Proofs.YtmjnnjjmfedlbaaDoor
set_option linter.unusedSimpArgs false
set_option linter.unusedVariables false
open Go.RowKit Go.Dr

/-- The laid map of shapes, as a world holds it. -/
def Lk (w : World) : Prop := ∃ bm o, w.cell? ⟨0, 0, none⟩ = some (.map (some bm)) ∧ w.heap[bm]? = some o ∧ ∀ W', W'.heap[bm]? = some o → Looks bm W'
theorem Lk.below {w w' : World} (h : Lk w) (hb : Below w.heap.size w w') : Lk w' := by
  obtain ⟨bm, o, h1, h2, h3⟩ := h
  have l0 : 0 < w.heap.size := by
    rcases Nat.eq_zero_or_pos w.heap.size with h0 | h0
    · rw [Array.getElem?_eq_none (by omega)] at h2; cases h2
    · exact h0
  have l1 : bm < w.heap.size := by
    rcases Nat.lt_or_ge bm w.heap.size with h0 | h0
    · exact h0
    · rw [Array.getElem?_eq_none h0] at h2; cases h2
  exact ⟨bm, o, (hb.cell (p := ⟨0, 0, none⟩) l0).trans h1, (hb.block bm l1).trans h2, h3⟩

set_option maxRecDepth 8000 in
set_option maxHeartbeats 1600000 in
theorem iOrd_1 {a b : Nat} (ha : a < 65536) (hb : b < 65536) (w : World) : Calls Tryd.prog 40 #[shV 16 11 15, .int .u64 (a : Int), .int .u64 (b : Int)] w fun e w' => e = .returned (.int .i64 (cmpS 32768 a b)) ∧ Below w.heap.size w w' := by
  have HA := Lib.hid (fun (W : World) => iPlace_1 ha W)
  have HB := Lib.hid (fun (W : World) => iPlace_1 hb W)
  have HL := Lib.hid (And.intro ha hb)
  clear ha hb
  obtain ⟨na, hna⟩ : ∃ na : Bool, na = decide (32768 ≤ a) := ⟨_, rfl⟩
  obtain ⟨nb, hnb⟩ : ∃ nb : Bool, nb = decide (32768 ≤ b) := ⟨_, rfl⟩
  rw [← hna] at HA
  rw [← hnb] at HB
  have HNA := Lib.hid hna
  have HNB := Lib.hid hnb
  clear hna hnb
  simp only [shV] at HA HB ⊢
  cases na <;> cases nb
  all_goals
    go_enter Tryd.func40, Tryd.ntmps40
    go_upto_region 1 with fail
    obtain ⟨W0, hW0⟩ : ∃ W0, W0 = w.alloc (.cells #[.int .i64 16, .int .i64 11, .int .i64 15] 48) := ⟨_, rfl⟩
    have hb0 : Blk W0 w.heap.size 48 #[.int .i64 16, .int .i64 11, .int .i64 15] := by rw [hW0]; exact Blk.new _ _ _
    have HW0 := Lib.hid (show Below w.heap.size w W0 by rw [hW0]; exact (Below.refl _ _).alloc (Nat.le_refl _) _)
    have c0 : W0.cell? ⟨w.heap.size, 0, none⟩ = some (.int .i64 16) := hb0.cell 0
    have c1 : W0.cell? ⟨w.heap.size, 1, none⟩ = some (.int .i64 11) := hb0.cell 1
    have c2 : W0.cell? ⟨w.heap.size, 2, none⟩ = some (.int .i64 15) := hb0.cell 2
    have HG := Lib.hid hb0
    rw [← hW0]
    clear hW0 hb0
    go_wp2_with (first
      | (go_at_call 64; (first | ((with_reducible refine (HA.out _).mono ?_); rintro e w1 ⟨rfl, hbn⟩) | ((with_reducible refine (HB.out _).mono ?_); rintro e w1 ⟨rfl, hbn⟩));
          (replace HG := Lib.hid (HG.out.below hbn HG.out.lt)); (have c0 := HG.out.cell 0); (have c1 := HG.out.cell 1); (have c2 := HG.out.cell 2); (replace HW0 := Lib.hid (Fl.chain HW0.out hbn)); clear hbn))
  all_goals go_ret
  all_goals (have hx := HNA.out; have hy := HNB.out; have hl := HL.out; have hw0 := HW0.out; clear HA HB HNA HNB HL HW0 HG; refine ⟨congrArg (fun z : Int => Ending.returned (Value.int .i64 z)) (?_ : _ = cmpS 32768 a b), hw0⟩; clear hw0)
  all_goals (simp only [true_eq_decide_iff, false_eq_decide_iff, Bool.true_eq, Bool.false_eq, decide_eq_true_eq, decide_eq_false_iff_not, bne_iff_ne, ne_eq, beq_iff_eq, bne_eq_false_iff_eq, beq_eq_false_iff_ne, Int.natCast_inj] at *; (try simp only [Bool.bne_true, Bool.bne_false, Bool.not_eq_true', Bool.not_eq_false', decide_eq_true_eq, decide_eq_false_iff_not] at *); unfold cmpS; (repeat' split) <;> omega)

set_option maxRecDepth 8000 in
set_option maxHeartbeats 1600000 in
theorem iOrd_2 {a b : Nat} (ha : a < 4294967296) (hb : b < 4294967296) (w : World) : Calls Tryd.prog 40 #[shV 32 24 127, .int .u64 (a : Int), .int .u64 (b : Int)] w fun e w' => e = .returned (.int .i64 (cmpS 2147483648 a b)) ∧ Below w.heap.size w w' := by
  have HA := Lib.hid (fun (W : World) => iPlace_2 ha W)
  have HB := Lib.hid (fun (W : World) => iPlace_2 hb W)
  have HL := Lib.hid (And.intro ha hb)
  clear ha hb
  obtain ⟨na, hna⟩ : ∃ na : Bool, na = decide (2147483648 ≤ a) := ⟨_, rfl⟩
  obtain ⟨nb, hnb⟩ : ∃ nb : Bool, nb = decide (2147483648 ≤ b) := ⟨_, rfl⟩
  rw [← hna] at HA
  rw [← hnb] at HB
  have HNA := Lib.hid hna
  have HNB := Lib.hid hnb
  clear hna hnb
  simp only [shV] at HA HB ⊢
  cases na <;> cases nb
  all_goals
    go_enter Tryd.func40, Tryd.ntmps40
    go_upto_region 1 with fail
    obtain ⟨W0, hW0⟩ : ∃ W0, W0 = w.alloc (.cells #[.int .i64 32, .int .i64 24, .int .i64 127] 48) := ⟨_, rfl⟩
    have hb0 : Blk W0 w.heap.size 48 #[.int .i64 32, .int .i64 24, .int .i64 127] := by rw [hW0]; exact Blk.new _ _ _
    have HW0 := Lib.hid (show Below w.heap.size w W0 by rw [hW0]; exact (Below.refl _ _).alloc (Nat.le_refl _) _)
    have c0 : W0.cell? ⟨w.heap.size, 0, none⟩ = some (.int .i64 32) := hb0.cell 0
    have c1 : W0.cell? ⟨w.heap.size, 1, none⟩ = some (.int .i64 24) := hb0.cell 1
    have c2 : W0.cell? ⟨w.heap.size, 2, none⟩ = some (.int .i64 127) := hb0.cell 2
    have HG := Lib.hid hb0
    rw [← hW0]
    clear hW0 hb0
    go_wp2_with (first
      | (go_at_call 64; (first | ((with_reducible refine (HA.out _).mono ?_); rintro e w1 ⟨rfl, hbn⟩) | ((with_reducible refine (HB.out _).mono ?_); rintro e w1 ⟨rfl, hbn⟩));
          (replace HG := Lib.hid (HG.out.below hbn HG.out.lt)); (have c0 := HG.out.cell 0); (have c1 := HG.out.cell 1); (have c2 := HG.out.cell 2); (replace HW0 := Lib.hid (Fl.chain HW0.out hbn)); clear hbn))
  all_goals go_ret
  all_goals (have hx := HNA.out; have hy := HNB.out; have hl := HL.out; have hw0 := HW0.out; clear HA HB HNA HNB HL HW0 HG; refine ⟨congrArg (fun z : Int => Ending.returned (Value.int .i64 z)) (?_ : _ = cmpS 2147483648 a b), hw0⟩; clear hw0)
  all_goals (simp only [true_eq_decide_iff, false_eq_decide_iff, Bool.true_eq, Bool.false_eq, decide_eq_true_eq, decide_eq_false_iff_not, bne_iff_ne, ne_eq, beq_iff_eq, bne_eq_false_iff_eq, beq_eq_false_iff_ne, Int.natCast_inj] at *; (try simp only [Bool.bne_true, Bool.bne_false, Bool.not_eq_true', Bool.not_eq_false', decide_eq_true_eq, decide_eq_false_iff_not] at *); unfold cmpS; (repeat' split) <;> omega)

set_option maxRecDepth 8000 in
set_option maxHeartbeats 1600000 in
theorem iOrd_3 {a b : Nat} (ha : a < 18446744073709551616) (hb : b < 18446744073709551616) (w : World) : Calls Tryd.prog 40 #[shV 64 53 1023, .int .u64 (a : Int), .int .u64 (b : Int)] w fun e w' => e = .returned (.int .i64 (cmpS 9223372036854775808 a b)) ∧ Below w.heap.size w w' := by
  have HA := Lib.hid (fun (W : World) => iPlace_3 ha W)
  have HB := Lib.hid (fun (W : World) => iPlace_3 hb W)
  have HL := Lib.hid (And.intro ha hb)
  clear ha hb
  obtain ⟨na, hna⟩ : ∃ na : Bool, na = decide (9223372036854775808 ≤ a) := ⟨_, rfl⟩
  obtain ⟨nb, hnb⟩ : ∃ nb : Bool, nb = decide (9223372036854775808 ≤ b) := ⟨_, rfl⟩
  rw [← hna] at HA
  rw [← hnb] at HB
  have HNA := Lib.hid hna
  have HNB := Lib.hid hnb
  clear hna hnb
  simp only [shV] at HA HB ⊢
  cases na <;> cases nb
  all_goals
    go_enter Tryd.func40, Tryd.ntmps40
    go_upto_region 1 with fail
    obtain ⟨W0, hW0⟩ : ∃ W0, W0 = w.alloc (.cells #[.int .i64 64, .int .i64 53, .int .i64 1023] 48) := ⟨_, rfl⟩
    have hb0 : Blk W0 w.heap.size 48 #[.int .i64 64, .int .i64 53, .int .i64 1023] := by rw [hW0]; exact Blk.new _ _ _
    have HW0 := Lib.hid (show Below w.heap.size w W0 by rw [hW0]; exact (Below.refl _ _).alloc (Nat.le_refl _) _)
    have c0 : W0.cell? ⟨w.heap.size, 0, none⟩ = some (.int .i64 64) := hb0.cell 0
    have c1 : W0.cell? ⟨w.heap.size, 1, none⟩ = some (.int .i64 53) := hb0.cell 1
    have c2 : W0.cell? ⟨w.heap.size, 2, none⟩ = some (.int .i64 1023) := hb0.cell 2
    have HG := Lib.hid hb0
    rw [← hW0]
    clear hW0 hb0
    go_wp2_with (first
      | (go_at_call 64; (first | ((with_reducible refine (HA.out _).mono ?_); rintro e w1 ⟨rfl, hbn⟩) | ((with_reducible refine (HB.out _).mono ?_); rintro e w1 ⟨rfl, hbn⟩));
          (replace HG := Lib.hid (HG.out.below hbn HG.out.lt)); (have c0 := HG.out.cell 0); (have c1 := HG.out.cell 1); (have c2 := HG.out.cell 2); (replace HW0 := Lib.hid (Fl.chain HW0.out hbn)); clear hbn))
  all_goals go_ret
  all_goals (have hx := HNA.out; have hy := HNB.out; have hl := HL.out; have hw0 := HW0.out; clear HA HB HNA HNB HL HW0 HG; refine ⟨congrArg (fun z : Int => Ending.returned (Value.int .i64 z)) (?_ : _ = cmpS 9223372036854775808 a b), hw0⟩; clear hw0)
  all_goals (simp only [true_eq_decide_iff, false_eq_decide_iff, Bool.true_eq, Bool.false_eq, decide_eq_true_eq, decide_eq_false_iff_not, bne_iff_ne, ne_eq, beq_iff_eq, bne_eq_false_iff_eq, beq_eq_false_iff_ne, Int.natCast_inj] at *; (try simp only [Bool.bne_true, Bool.bne_false, Bool.not_eq_true', Bool.not_eq_false', decide_eq_true_eq, decide_eq_false_iff_not] at *); unfold cmpS; (repeat' split) <;> omega)

/-- Whether all are bits of the form. -/
def okL (f : Int) (l : List Nat) : Bool := l.all (okB f)
theorem okL_bad {f : Int} {l : List Nat} {j : Nat} (h : j < l.length) (hb : okB f (l.getD j 0) = false) : okL f l = false := by
  rw [okL, List.all_eq_false]
  refine ⟨l.getD j 0, ?_, by rw [hb]; decide⟩
  rw [List.getD_eq_getElem?_getD, List.getElem?_eq_getElem h]
  exact List.getElem_mem h
theorem okL_all {f : Int} {l : List Nat} (h : ∀ j, j < l.length → okB f (l.getD j 0) = true) : okL f l = true := by
  rw [okL, List.all_eq_true]
  intro x hx
  obtain ⟨j, hj, rfl⟩ := List.getElem_of_mem hx
  have := h j hj
  rwa [List.getD_eq_getElem?_getD, List.getElem?_eq_getElem hj] at this
abbrev nums (l : List Nat) : List Int := l.map (fun (x : Nat) => (x : Int))
theorem nums_at (l : List Nat) (j : Nat) : (nums l).getD j 0 = ((l.getD j 0 : Nat) : Int) := by
  simp only [List.getD_eq_getElem?_getD, List.getElem?_map]
  cases l[j]? <;> rfl

set_option maxRecDepth 8000 in
set_option maxHeartbeats 1600000 in
theorem iOf_1 (A : Option Addr) (n c : Nat) (l : List Nat) (w : World) (hl : Lk w) (h : IRow .u64 w A n c (nums l)) (h64 : ∀ x ∈ l, x < 18446744073709551616) :
    Calls Tryd.prog 39 #[.int .i64 1, .slice A n c] w fun e w' => e = .returned (.tuple #[shV 16 11 15, .bool (okL 1 l)]) ∧ Below w.heap.size w w' := by
  have HLK := Lib.hid hl
  have HR := Lib.hid h
  clear hl h
  go_enter Tryd.func39, Tryd.ntmps39
  go_upto_region 1 with fail
  obtain ⟨W0, hW0⟩ : ∃ W0, W0 = w.alloc (.cells #[.int .i64 0, .int .i64 0, .int .i64 0] 48) := ⟨_, rfl⟩
  have hb0 : Blk W0 w.heap.size 48 #[.int .i64 0, .int .i64 0, .int .i64 0] := by rw [hW0]; exact Blk.new _ _ _
  have HW0 := Lib.hid (show Below w.heap.size w W0 by rw [hW0]; exact (Below.refl _ _).alloc (Nat.le_refl _) _)
  have hz : W0.heap.size = w.heap.size + 1 := by rw [hW0]; simp
  rw [← hW0]
  clear hW0
  obtain ⟨bm, o, hc0, hbm, hlk⟩ := HLK.out.below HW0.out
  have hlook := (hlk W0 hbm).1
  unfold Look at hlook
  clear hlk hbm
  simp only [shV] at hlook ⊢
  have HG := Lib.hid hb0
  clear hb0
  have c0 := HG.out.cell 0
  have c1 := HG.out.cell 1
  have c2 := HG.out.cell 2
  have f0 := HG.out.frozen 0
  have f1 := HG.out.frozen 1
  have f2 := HG.out.frozen 2
  obtain ⟨W1, hW1⟩ : ∃ W1, W1 = W0.alloc (.cells #[.int .i64 16, .int .i64 11, .int .i64 15] 48) := ⟨_, rfl⟩
  have HG1 := Lib.hid (show Blk W1 w.heap.size 48 #[.int .i64 0, .int .i64 0, .int .i64 0] by rw [hW1]; exact HG.out.alloc _)
  have HS1 := Lib.hid (show Blk W1 (w.heap.size + 1) 48 #[.int .i64 16, .int .i64 11, .int .i64 15] by rw [hW1, ← hz]; exact Blk.new _ _ _)
  have HW1 := Lib.hid (show Below w.heap.size w W1 by rw [hW1]; exact HW0.out.alloc (by omega) _)
  clear HG
  go_wp2
  rw [← hW1]
  clear hW1 hz hc0 hlook HW0 c0 c1 c2 f0 f1 f2
  have hn : n ≤ 9223372036854775807 := by have := HR.out.2.1; have := HR.out.2.2.1; unfold maxLen at this; omega
  have hnl : l.length = n := by have := HR.out.1; simpa using this
  go_loop [21] (fun i => ∃ j : Nat, j ≤ n ∧ i = .int .i64 (j : Int) ∧ Hid (∀ t, t < j → okB 1 (l.getD t 0) = true)) (fun i => n - (intOf i).toNat)
  case atStart => exact ⟨0, by omega, rfl, fun t ht => absurd ht (by omega)⟩
  case round =>
    obtain ⟨j, hj, rfl, HO⟩ := hrel
    have g0 := HG1.out.cell 0
    have g1 := HG1.out.cell 1
    have g2 := HG1.out.cell 2
    have y0 := HG1.out.frozen 0
    have y1 := HG1.out.frozen 1
    have y2 := HG1.out.frozen 2
    have s0 := HS1.out.cell 0
    have s1 := HS1.out.cell 1
    have s2 := HS1.out.cell 2
    by_cases hlt : j < n
    · have d : decide ((j : Int) < (n : Int)) = true := decide_eq_true (by omega)
      obtain ⟨b, off, rfl, hb, hc⟩ := HR.out.2.2.2 (by omega)
      have hcj := (HW1.out.cell (p := ⟨b, off + j, none⟩) hb).trans (hc j hlt)
      rw [nums_at] at hcj
      clear hc hb
      have hx : l.getD j 0 < 18446744073709551616 := h64 _ (by rw [List.getD_eq_getElem?_getD, List.getElem?_eq_getElem (by omega)]; exact List.getElem_mem _)
      have HK := Lib.hid (show ∀ t, okB 1 (l.getD j 0) = true → t < j + 1 → okB 1 (l.getD t 0) = true from fun t h1 h2 => if h3 : t = j then by rw [h3]; exact h1 else HO.out t (by omega))
      have HBAD := Lib.hid (show okB 1 (l.getD j 0) = false → okL 1 l = false from fun h => okL_bad (j := j) (by omega) h)
      generalize l.getD j 0 = x at hcj hx HK HBAD
      have hj1 : wrap64 ((j : Int) + 1) = ((j + 1 : Nat) : Int) := by rw [IntWalk.wrap64_in _ ⟨by omega, by omega⟩]; omega
      clear HO

      by_cases hok : okB 1 x = true
      · have tx : (((x : Int) / 65536) != 0) = false := by (have : x < 65536 := by simpa [okB] using hok); rw [bne_eq_false_iff_eq]; omega
        have HX := Lib.hid (fun t => HK.out t hok)
        clear HK HBAD hok
        go_wp2
        go_round
        case rel => exact ⟨j + 1, by omega, by go_num, HX.out⟩
        case measure => simp [intOf]; omega
      · have hok2 : okB 1 x = false := by simpa using hok
        have tx : (((x : Int) / 65536) != 0) = true := by (have : 65536 ≤ x := by simpa [okB] using hok2); rw [bne_iff_ne]; omega
        have HX := Lib.hid hok2
        clear HK hok hok2
        go_wp2
        refine bodyPost_ret (v := .tuple #[.agg #[.int .i64 16, .int .i64 11, .int .i64 15], .bool false]) ?_ rfl ⟨?_, ?_⟩
        · have HF := ((HG1.out.set_ 0 (.int .i64 16)).set_ 1 (.int .i64 11)).set_ 2 (.int .i64 15)
          have k0 := HF.cell 0
          have k1 := HF.cell 1
          have k2 := HF.cell 2
          clear HF g0 g1 g2
          simp [results, Tryd.results39, go_sem, k0, k1, k2]
        · (rw [HBAD.out HX.out]; rfl)
        · exact (((HW1.out.setCell (p := ⟨w.heap.size, 0, none⟩) (Nat.le_refl _) _).setCell (p := ⟨w.heap.size, 1, none⟩) (Nat.le_refl _) _).setCell (p := ⟨w.heap.size, 2, none⟩) (Nat.le_refl _) _)
    · have d : decide ((j : Int) < (n : Int)) = false := decide_eq_false (by omega)
      have HA := Lib.hid (show okL 1 l = true from okL_all fun t ht => HO.out t (by omega))
      go_wp2
      refine bodyPost_ret (v := .tuple #[.agg #[.int .i64 16, .int .i64 11, .int .i64 15], .bool true]) ?_ rfl ⟨?_, ?_⟩
      · have HF := ((HG1.out.set_ 0 (.int .i64 16)).set_ 1 (.int .i64 11)).set_ 2 (.int .i64 15)
        have k0 := HF.cell 0
        have k1 := HF.cell 1
        have k2 := HF.cell 2
        clear HF g0 g1 g2
        simp [results, Tryd.results39, go_sem, k0, k1, k2]
      · (rw [HA.out]; rfl)
      · exact (((HW1.out.setCell (p := ⟨w.heap.size, 0, none⟩) (Nat.le_refl _) _).setCell (p := ⟨w.heap.size, 1, none⟩) (Nat.le_refl _) _).setCell (p := ⟨w.heap.size, 2, none⟩) (Nat.le_refl _) _)

set_option maxRecDepth 8000 in
set_option maxHeartbeats 1600000 in
theorem iOf_2 (A : Option Addr) (n c : Nat) (l : List Nat) (w : World) (hl : Lk w) (h : IRow .u64 w A n c (nums l)) (h64 : ∀ x ∈ l, x < 18446744073709551616) :
    Calls Tryd.prog 39 #[.int .i64 2, .slice A n c] w fun e w' => e = .returned (.tuple #[shV 32 24 127, .bool (okL 2 l)]) ∧ Below w.heap.size w w' := by
  have HLK := Lib.hid hl
  have HR := Lib.hid h
  clear hl h
  go_enter Tryd.func39, Tryd.ntmps39
  go_upto_region 1 with fail
  obtain ⟨W0, hW0⟩ : ∃ W0, W0 = w.alloc (.cells #[.int .i64 0, .int .i64 0, .int .i64 0] 48) := ⟨_, rfl⟩
  have hb0 : Blk W0 w.heap.size 48 #[.int .i64 0, .int .i64 0, .int .i64 0] := by rw [hW0]; exact Blk.new _ _ _
  have HW0 := Lib.hid (show Below w.heap.size w W0 by rw [hW0]; exact (Below.refl _ _).alloc (Nat.le_refl _) _)
  have hz : W0.heap.size = w.heap.size + 1 := by rw [hW0]; simp
  rw [← hW0]
  clear hW0
  obtain ⟨bm, o, hc0, hbm, hlk⟩ := HLK.out.below HW0.out
  have hlook := (hlk W0 hbm).2.1
  unfold Look at hlook
  clear hlk hbm
  simp only [shV] at hlook ⊢
  have HG := Lib.hid hb0
  clear hb0
  have c0 := HG.out.cell 0
  have c1 := HG.out.cell 1
  have c2 := HG.out.cell 2
  have f0 := HG.out.frozen 0
  have f1 := HG.out.frozen 1
  have f2 := HG.out.frozen 2
  obtain ⟨W1, hW1⟩ : ∃ W1, W1 = W0.alloc (.cells #[.int .i64 32, .int .i64 24, .int .i64 127] 48) := ⟨_, rfl⟩
  have HG1 := Lib.hid (show Blk W1 w.heap.size 48 #[.int .i64 0, .int .i64 0, .int .i64 0] by rw [hW1]; exact HG.out.alloc _)
  have HS1 := Lib.hid (show Blk W1 (w.heap.size + 1) 48 #[.int .i64 32, .int .i64 24, .int .i64 127] by rw [hW1, ← hz]; exact Blk.new _ _ _)
  have HW1 := Lib.hid (show Below w.heap.size w W1 by rw [hW1]; exact HW0.out.alloc (by omega) _)
  clear HG
  go_wp2
  rw [← hW1]
  clear hW1 hz hc0 hlook HW0 c0 c1 c2 f0 f1 f2
  have hn : n ≤ 9223372036854775807 := by have := HR.out.2.1; have := HR.out.2.2.1; unfold maxLen at this; omega
  have hnl : l.length = n := by have := HR.out.1; simpa using this
  go_loop [21] (fun i => ∃ j : Nat, j ≤ n ∧ i = .int .i64 (j : Int) ∧ Hid (∀ t, t < j → okB 2 (l.getD t 0) = true)) (fun i => n - (intOf i).toNat)
  case atStart => exact ⟨0, by omega, rfl, fun t ht => absurd ht (by omega)⟩
  case round =>
    obtain ⟨j, hj, rfl, HO⟩ := hrel
    have g0 := HG1.out.cell 0
    have g1 := HG1.out.cell 1
    have g2 := HG1.out.cell 2
    have y0 := HG1.out.frozen 0
    have y1 := HG1.out.frozen 1
    have y2 := HG1.out.frozen 2
    have s0 := HS1.out.cell 0
    have s1 := HS1.out.cell 1
    have s2 := HS1.out.cell 2
    by_cases hlt : j < n
    · have d : decide ((j : Int) < (n : Int)) = true := decide_eq_true (by omega)
      obtain ⟨b, off, rfl, hb, hc⟩ := HR.out.2.2.2 (by omega)
      have hcj := (HW1.out.cell (p := ⟨b, off + j, none⟩) hb).trans (hc j hlt)
      rw [nums_at] at hcj
      clear hc hb
      have hx : l.getD j 0 < 18446744073709551616 := h64 _ (by rw [List.getD_eq_getElem?_getD, List.getElem?_eq_getElem (by omega)]; exact List.getElem_mem _)
      have HK := Lib.hid (show ∀ t, okB 2 (l.getD j 0) = true → t < j + 1 → okB 2 (l.getD t 0) = true from fun t h1 h2 => if h3 : t = j then by rw [h3]; exact h1 else HO.out t (by omega))
      have HBAD := Lib.hid (show okB 2 (l.getD j 0) = false → okL 2 l = false from fun h => okL_bad (j := j) (by omega) h)
      generalize l.getD j 0 = x at hcj hx HK HBAD
      have hj1 : wrap64 ((j : Int) + 1) = ((j + 1 : Nat) : Int) := by rw [IntWalk.wrap64_in _ ⟨by omega, by omega⟩]; omega
      clear HO

      by_cases hok : okB 2 x = true
      · have tx : (((x : Int) / 4294967296) != 0) = false := by (have : x < 4294967296 := by simpa [okB] using hok); rw [bne_eq_false_iff_eq]; omega
        have HX := Lib.hid (fun t => HK.out t hok)
        clear HK HBAD hok
        go_wp2
        go_round
        case rel => exact ⟨j + 1, by omega, by go_num, HX.out⟩
        case measure => simp [intOf]; omega
      · have hok2 : okB 2 x = false := by simpa using hok
        have tx : (((x : Int) / 4294967296) != 0) = true := by (have : 4294967296 ≤ x := by simpa [okB] using hok2); rw [bne_iff_ne]; omega
        have HX := Lib.hid hok2
        clear HK hok hok2
        go_wp2
        refine bodyPost_ret (v := .tuple #[.agg #[.int .i64 32, .int .i64 24, .int .i64 127], .bool false]) ?_ rfl ⟨?_, ?_⟩
        · have HF := ((HG1.out.set_ 0 (.int .i64 32)).set_ 1 (.int .i64 24)).set_ 2 (.int .i64 127)
          have k0 := HF.cell 0
          have k1 := HF.cell 1
          have k2 := HF.cell 2
          clear HF g0 g1 g2
          simp [results, Tryd.results39, go_sem, k0, k1, k2]
        · (rw [HBAD.out HX.out]; rfl)
        · exact (((HW1.out.setCell (p := ⟨w.heap.size, 0, none⟩) (Nat.le_refl _) _).setCell (p := ⟨w.heap.size, 1, none⟩) (Nat.le_refl _) _).setCell (p := ⟨w.heap.size, 2, none⟩) (Nat.le_refl _) _)
    · have d : decide ((j : Int) < (n : Int)) = false := decide_eq_false (by omega)
      have HA := Lib.hid (show okL 2 l = true from okL_all fun t ht => HO.out t (by omega))
      go_wp2
      refine bodyPost_ret (v := .tuple #[.agg #[.int .i64 32, .int .i64 24, .int .i64 127], .bool true]) ?_ rfl ⟨?_, ?_⟩
      · have HF := ((HG1.out.set_ 0 (.int .i64 32)).set_ 1 (.int .i64 24)).set_ 2 (.int .i64 127)
        have k0 := HF.cell 0
        have k1 := HF.cell 1
        have k2 := HF.cell 2
        clear HF g0 g1 g2
        simp [results, Tryd.results39, go_sem, k0, k1, k2]
      · (rw [HA.out]; rfl)
      · exact (((HW1.out.setCell (p := ⟨w.heap.size, 0, none⟩) (Nat.le_refl _) _).setCell (p := ⟨w.heap.size, 1, none⟩) (Nat.le_refl _) _).setCell (p := ⟨w.heap.size, 2, none⟩) (Nat.le_refl _) _)

set_option maxRecDepth 8000 in
set_option maxHeartbeats 1600000 in
theorem iOf_3 (A : Option Addr) (n c : Nat) (l : List Nat) (w : World) (hl : Lk w) (h : IRow .u64 w A n c (nums l)) (h64 : ∀ x ∈ l, x < 18446744073709551616) :
    Calls Tryd.prog 39 #[.int .i64 3, .slice A n c] w fun e w' => e = .returned (.tuple #[shV 64 53 1023, .bool (okL 3 l)]) ∧ Below w.heap.size w w' := by
  have HLK := Lib.hid hl
  have HR := Lib.hid h
  clear hl h
  go_enter Tryd.func39, Tryd.ntmps39
  go_upto_region 1 with fail
  obtain ⟨W0, hW0⟩ : ∃ W0, W0 = w.alloc (.cells #[.int .i64 0, .int .i64 0, .int .i64 0] 48) := ⟨_, rfl⟩
  have hb0 : Blk W0 w.heap.size 48 #[.int .i64 0, .int .i64 0, .int .i64 0] := by rw [hW0]; exact Blk.new _ _ _
  have HW0 := Lib.hid (show Below w.heap.size w W0 by rw [hW0]; exact (Below.refl _ _).alloc (Nat.le_refl _) _)
  have hz : W0.heap.size = w.heap.size + 1 := by rw [hW0]; simp
  rw [← hW0]
  clear hW0
  obtain ⟨bm, o, hc0, hbm, hlk⟩ := HLK.out.below HW0.out
  have hlook := (hlk W0 hbm).2.2.1
  unfold Look at hlook
  clear hlk hbm
  simp only [shV] at hlook ⊢
  have HG := Lib.hid hb0
  clear hb0
  have c0 := HG.out.cell 0
  have c1 := HG.out.cell 1
  have c2 := HG.out.cell 2
  have f0 := HG.out.frozen 0
  have f1 := HG.out.frozen 1
  have f2 := HG.out.frozen 2
  obtain ⟨W1, hW1⟩ : ∃ W1, W1 = W0.alloc (.cells #[.int .i64 64, .int .i64 53, .int .i64 1023] 48) := ⟨_, rfl⟩
  have HG1 := Lib.hid (show Blk W1 w.heap.size 48 #[.int .i64 0, .int .i64 0, .int .i64 0] by rw [hW1]; exact HG.out.alloc _)
  have HS1 := Lib.hid (show Blk W1 (w.heap.size + 1) 48 #[.int .i64 64, .int .i64 53, .int .i64 1023] by rw [hW1, ← hz]; exact Blk.new _ _ _)
  have HW1 := Lib.hid (show Below w.heap.size w W1 by rw [hW1]; exact HW0.out.alloc (by omega) _)
  clear HG
  go_wp2
  rw [← hW1]
  clear hW1 hz hc0 hlook HW0 c0 c1 c2 f0 f1 f2
  have hn : n ≤ 9223372036854775807 := by have := HR.out.2.1; have := HR.out.2.2.1; unfold maxLen at this; omega
  have hnl : l.length = n := by have := HR.out.1; simpa using this
  go_loop [21] (fun i => ∃ j : Nat, j ≤ n ∧ i = .int .i64 (j : Int) ∧ Hid (∀ t, t < j → okB 3 (l.getD t 0) = true)) (fun i => n - (intOf i).toNat)
  case atStart => exact ⟨0, by omega, rfl, fun t ht => absurd ht (by omega)⟩
  case round =>
    obtain ⟨j, hj, rfl, HO⟩ := hrel
    have g0 := HG1.out.cell 0
    have g1 := HG1.out.cell 1
    have g2 := HG1.out.cell 2
    have y0 := HG1.out.frozen 0
    have y1 := HG1.out.frozen 1
    have y2 := HG1.out.frozen 2
    have s0 := HS1.out.cell 0
    have s1 := HS1.out.cell 1
    have s2 := HS1.out.cell 2
    by_cases hlt : j < n
    · have d : decide ((j : Int) < (n : Int)) = true := decide_eq_true (by omega)
      obtain ⟨b, off, rfl, hb, hc⟩ := HR.out.2.2.2 (by omega)
      have hcj := (HW1.out.cell (p := ⟨b, off + j, none⟩) hb).trans (hc j hlt)
      rw [nums_at] at hcj
      clear hc hb
      have hx : l.getD j 0 < 18446744073709551616 := h64 _ (by rw [List.getD_eq_getElem?_getD, List.getElem?_eq_getElem (by omega)]; exact List.getElem_mem _)
      have HK := Lib.hid (show ∀ t, okB 3 (l.getD j 0) = true → t < j + 1 → okB 3 (l.getD t 0) = true from fun t h1 h2 => if h3 : t = j then by rw [h3]; exact h1 else HO.out t (by omega))
      have HBAD := Lib.hid (show okB 3 (l.getD j 0) = false → okL 3 l = false from fun h => okL_bad (j := j) (by omega) h)
      generalize l.getD j 0 = x at hcj hx HK HBAD
      have hj1 : wrap64 ((j : Int) + 1) = ((j + 1 : Nat) : Int) := by rw [IntWalk.wrap64_in _ ⟨by omega, by omega⟩]; omega
      clear HO

      by_cases hok : okB 3 x = true
      · 
        have HX := Lib.hid (fun t => HK.out t hok)
        clear HK HBAD hok
        go_wp2
        go_round
        case rel => exact ⟨j + 1, by omega, by go_num, HX.out⟩
        case measure => simp [intOf]; omega
      · have hok2 : okB 3 x = false := by simpa using hok
        exact absurd hok2 (by simp [okB])
    · have d : decide ((j : Int) < (n : Int)) = false := decide_eq_false (by omega)
      have HA := Lib.hid (show okL 3 l = true from okL_all fun t ht => HO.out t (by omega))
      go_wp2
      refine bodyPost_ret (v := .tuple #[.agg #[.int .i64 64, .int .i64 53, .int .i64 1023], .bool true]) ?_ rfl ⟨?_, ?_⟩
      · have HF := ((HG1.out.set_ 0 (.int .i64 64)).set_ 1 (.int .i64 53)).set_ 2 (.int .i64 1023)
        have k0 := HF.cell 0
        have k1 := HF.cell 1
        have k2 := HF.cell 2
        clear HF g0 g1 g2
        simp [results, Tryd.results39, go_sem, k0, k1, k2]
      · (rw [HA.out]; rfl)
      · exact (((HW1.out.setCell (p := ⟨w.heap.size, 0, none⟩) (Nat.le_refl _) _).setCell (p := ⟨w.heap.size, 1, none⟩) (Nat.le_refl _) _).setCell (p := ⟨w.heap.size, 2, none⟩) (Nat.le_refl _) _)

set_option maxRecDepth 8000 in
set_option maxHeartbeats 1600000 in
theorem iOf_n {f : Int} (hf : NoForm f) (hw : (Lit.int .i64 f).wf = true) (A : Option Addr) (n c : Nat) (w : World) (hl : Lk w) :
    Calls Tryd.prog 39 #[.int .i64 f, .slice A n c] w fun e w' => e = .returned (.tuple #[shV 0 0 0, .bool false]) ∧ Below w.heap.size w w' := by
  have HLK := Lib.hid hl
  clear hl
  go_enter Tryd.func39, Tryd.ntmps39
  go_upto_region 1 with fail
  obtain ⟨W0, hW0⟩ : ∃ W0, W0 = w.alloc (.cells #[.int .i64 0, .int .i64 0, .int .i64 0] 48) := ⟨_, rfl⟩
  have hb0 : Blk W0 w.heap.size 48 #[.int .i64 0, .int .i64 0, .int .i64 0] := by rw [hW0]; exact Blk.new _ _ _
  have HW0 := Lib.hid (show Below w.heap.size w W0 by rw [hW0]; exact (Below.refl _ _).alloc (Nat.le_refl _) _)
  have hz : W0.heap.size = w.heap.size + 1 := by rw [hW0]; simp
  rw [← hW0]
  clear hW0
  obtain ⟨bm, o, hc0, hbm, hlk⟩ := HLK.out.below HW0.out
  have hlook := (hlk W0 hbm).2.2.2 f hw hf.1 hf.2.1 hf.2.2
  unfold Look at hlook
  clear hlk hbm hf hw
  simp only [shV] at hlook ⊢
  have HG := Lib.hid hb0
  clear hb0
  have c0 := HG.out.cell 0
  have c1 := HG.out.cell 1
  have c2 := HG.out.cell 2
  have f0 := HG.out.frozen 0
  have f1 := HG.out.frozen 1
  have f2 := HG.out.frozen 2
  go_wp2
  refine bodyPost_ret (v := .tuple #[.agg #[.int .i64 0, .int .i64 0, .int .i64 0], .bool false]) ?_ rfl ⟨?_, ?_⟩
  · have HF := (((HG.out.set_ 0 (.int .i64 0)).set_ 1 (.int .i64 0)).set_ 2 (.int .i64 0)).alloc (.cells #[.int .i64 0, .int .i64 0, .int .i64 0] 48)
    have k0 := HF.cell 0
    have k1 := HF.cell 1
    have k2 := HF.cell 2
    clear HF c0 c1 c2 hlook hc0
    simp [results, Tryd.results39, go_sem, k0, k1, k2]
  · rfl
  · refine Below.alloc (((HW0.out.setCell (p := ⟨w.heap.size, 0, none⟩) (Nat.le_refl _) _).setCell (p := ⟨w.heap.size, 1, none⟩) (Nat.le_refl _) _).setCell (p := ⟨w.heap.size, 2, none⟩) (Nat.le_refl _) _) ?_ _
    simp [World.size_setCell]; omega
end Go.Proofs.YtmjnnjjmfedlbaaDoor
