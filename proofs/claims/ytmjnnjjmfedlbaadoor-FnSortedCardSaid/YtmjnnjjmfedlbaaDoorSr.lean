/-
  Sorting: the memory, the comparison, the sort by insertion.
-/
import Derived.Test.YtmjnnjjmfedlbaaDoorSq
import Derived.Deep.RegionHeld3
import Derived.RegionTactic
import Derived.BigQuiet
import Derived.Deep.QuietTactic
namespace Go.Proofs.YtmjnnjjmfedlbaaDoor
set_option linter.unusedSimpArgs false
set_option linter.unusedVariables false
open Go.RowKit
open Go.Fl (fl isNan feq)

/-- The memory: block g, laid by the call, holds the n words f. -/
def Ss (w0 : World) (g n : Nat) (f : Nat → Nat) (W : World) : Prop :=
  (∀ i, i < n → W.cell? ⟨g, i, none⟩ = some (fl (f i))) ∧ (∀ i, W.frozen? ⟨g, i, none⟩ = false) ∧ g < W.heap.size ∧ w0.heap.size ≤ g ∧ Below w0.heap.size w0 W ∧ ∀ i, f i < 2 ^ 64
section
variable {w0 W W1 : World} {g n : Nat} {f : Nat → Nat}
theorem Ss.call (h : Ss w0 g n f W) (hb : Below W.heap.size W W1) : Ss w0 g n f W1 := by
  obtain ⟨h1, h2, h3, h4, h5, h6⟩ := h
  exact ⟨fun i hi => (hb.cell (p := ⟨g, i, none⟩) h3).trans (h1 i hi), fun i => (World.frozen?_of_block (a := ⟨g, i, none⟩) (hb.block g h3)).trans (h2 i), Nat.lt_of_lt_of_le h3 hb.size, h4, Fl.chain h5 hb, h6⟩
theorem Ss.drewN (h : Ss w0 g n f W) (k : Nat) : Ss w0 g n f (W.drewN k) := ⟨h.1, h.2.1, h.2.2.1, h.2.2.2.1, Fl.below_drewN h.2.2.2.2.1 k, h.2.2.2.2.2⟩
theorem Ss.drew (h : Ss w0 g n f W) : Ss w0 g n f W.drew := ⟨h.1, h.2.1, h.2.2.1, h.2.2.2.1, h.2.2.2.2.1.drew, h.2.2.2.2.2⟩
theorem set_cell (W : World) (g i j : Nat) (v u : Value) (h : W.cell? ⟨g, j, none⟩ = some u) : (W.setCell ⟨g, i, none⟩ v).cell? ⟨g, j, none⟩ = some (if j = i then v else u) := by
  by_cases e : j = i
  · subst e; rw [if_pos rfl]; exact World.cell?_setCell_same _ _ _ h
  · rw [if_neg e, World.cell?_setCell_other _ _ _ _ (by intro e2; injection e2 with _ e3; exact e e3.symm)]; exact h
theorem Ss.set (h : Ss w0 g n f W) (i v : Nat) (hv : v < 2 ^ 64) : Ss w0 g n (upd f i v) (W.setCell ⟨g, i, none⟩ (fl v)) := by
  obtain ⟨h1, h2, h3, h4, h5, h6⟩ := h
  refine ⟨fun j hj => ?_, fun j => ?_, by simpa [World.setCell] using h3, h4, h5.setCell (p := ⟨g, i, none⟩) h4 _, fun j => ?_⟩
  · rw [set_cell W g i j _ _ (h1 j hj)]
    unfold upd
    split <;> rfl
  · rw [World.frozen?_setCell]; exact h2 j
  · unfold upd; split
    · exact hv
    · exact h6 j
theorem Ss.swap (h : Ss w0 g n f W) (i j : Nat) : Ss w0 g n (swp f i j) ((W.setCell ⟨g, i, none⟩ (fl (f j))).setCell ⟨g, j, none⟩ (fl (f i))) := by
  have h1 := (h.set i (f j) (h.2.2.2.2.2 j)).set j (f i) (h.2.2.2.2.2 i)
  have e : upd (upd f i (f j)) j (f i) = swp f i j := by
    funext t
    unfold upd swp
    by_cases e1 : t = i
    · by_cases e2 : t = j
      · subst e1; subst e2; simp
      · subst e1; rw [if_neg e2, if_pos rfl, if_pos rfl]
    · by_cases e2 : t = j
      · subst e2; rw [if_pos rfl, if_neg e1, if_pos rfl]
      · rw [if_neg e2, if_neg e1, if_neg e1, if_neg e2]
  rw [e] at h1
  exact h1
end

theorem iCmp {a b : Nat} (ha : a < 2 ^ 64) (hb : b < 2 ^ 64) (w : World) (hl : Lk w) : Calls Tryd.prog 57 #[fl a, fl b] w fun e w' => ∃ o, e = .returned (.int .i64 o) ∧ decide (o < 0) = decide (kw a < kw b) ∧ Below w.heap.size w w' := by
  have HO := Lib.hid (iOrder (f := 3) (by decide) (cn_lt64 ha) (cn_lt64 hb) w hl)
  have HE := Lib.hid (show decide (ordV 3 (cn a) (cn b) < 0) = decide (kw a < kw b) from ord_lt)
  clear ha hb hl
  generalize ordV 3 (cn a) (cn b) = o at HO HE
  go_enter Tryd.func57, Tryd.ntmps57
  go_wp2_with (first
    | (go_at_call 30; (with_reducible refine (iToBits_any _ _).mono ?_); rintro e w1 ⟨rfl, hw⟩; rw [hw]; clear hw)
    | (go_at_call 13; (with_reducible refine HO.out.mono ?_); rintro e w1 ⟨rfl, hbn⟩; have HB := Lib.hid hbn; clear hbn))
  go_ret
  exact ⟨o, rfl, HE.out, HB.out⟩

abbrev cmpF : Value := .func (.func 57) #[] #[]

/-- The stretch from a to i is in order but for place j, which is not above what lies behind it. -/
def Gap (a i j : Nat) (f : Nat → Nat) : Prop := (∀ p q, a ≤ p → p ≤ q → q ≤ i → p ≠ j → q ≠ j → kw (f p) ≤ kw (f q)) ∧ ∀ q, j < q → q ≤ i → kw (f j) ≤ kw (f q)
theorem Gap.start {a i : Nat} {f : Nat → Nat} (h : SortOn a i f) : Gap a i i f := ⟨fun p q h1 h2 h3 h4 h5 => h p q h1 h2 (by omega), fun q h1 h2 => by omega⟩
theorem Gap.done {a i j : Nat} {f : Nat → Nat} (h : Gap a i j f) (hj : a ≤ j ∧ j ≤ i) (he : j = a ∨ ¬ kw (f j) < kw (f (j - 1))) : SortOn a (i + 1) f := by
  intro p q h1 h2 h3
  by_cases e1 : p = j
  · by_cases e2 : q = j
    · rw [e1, e2]; exact Int.le_refl _
    · rw [e1]; exact h.2 q (by omega) (by omega)
  · by_cases e2 : q = j
    · rw [e2]
      rcases he with he | he
      · omega
      · have k1 : kw (f p) ≤ kw (f (j - 1)) := by
          by_cases e3 : p = j - 1
          · rw [e3]; exact Int.le_refl _
          · exact h.1 p (j - 1) h1 (by omega) (by omega) e1 (by omega)
        omega
    · exact h.1 p q h1 h2 (by omega) e1 e2
theorem Gap.step {a i m : Nat} {f : Nat → Nat} (h : Gap a i (m + 1) f) (hm : a ≤ m ∧ m + 1 ≤ i) (hlt : kw (f (m + 1)) < kw (f m)) : Gap a i m (swp f (m + 1) m) := by
  have e1 : swp f (m + 1) m (m + 1) = f m := by unfold swp; rw [if_pos rfl]
  have e2 : swp f (m + 1) m m = f (m + 1) := by unfold swp; rw [if_neg (by omega), if_pos rfl]
  have e3 : ∀ t, t ≠ m → t ≠ m + 1 → swp f (m + 1) m t = f t := fun t h1 h2 => by unfold swp; rw [if_neg h2, if_neg h1]
  refine ⟨fun p q h1 h2 h3 h4 h5 => ?_, fun q h1 h2 => ?_⟩
  · by_cases p1 : p = m + 1
    · by_cases q1 : q = m + 1
      · rw [p1, q1]; exact Int.le_refl _
      · rw [p1, e1, e3 q h5 q1]; exact h.1 m q (by omega) (by omega) h3 (by omega) q1
    · by_cases q1 : q = m + 1
      · rw [q1, e1, e3 p h4 p1]; exact h.1 p m h1 (by omega) (by omega) p1 (by omega)
      · rw [e3 p h4 p1, e3 q h5 q1]; exact h.1 p q h1 h2 h3 p1 q1
  · rw [e2]
    by_cases q1 : q = m + 1
    · rw [q1, e1]; omega
    · rw [e3 q (by omega) q1]; exact h.2 q (by omega) h2

set_option maxRecDepth 8000 in
set_option maxHeartbeats 6400000 in
theorem iIns {w0 W : World} {g n cap a b : Nat} {f : Nat → Nat} (hs : Ss w0 g n f W) (hl : Lk w0) (hab : a ≤ b) (hb : b ≤ n) (hn : n ≤ 200) :
    Calls Tryd.prog 83 #[.slice (some ⟨g, 0, none⟩) n cap, .int .i64 (a : Int), .int .i64 (b : Int), cmpF] W fun e w' => e = .returned (.tuple #[]) ∧ ∃ f', Ss w0 g n f' w' ∧ PermOn a b f f' ∧ SortOn a b f' := by
  have HS := Lib.hid hs
  have HL := Lib.hid hl
  have ha1 : wrap64 ((a : Int) + 1) = ((a + 1 : Nat) : Int) := by rw [IntWalk.wrap64_in _ ⟨by omega, by omega⟩]; omega
  clear hs hl
  go_enter Tryd.func83, Tryd.ntmps83
  go_wp2
  go_loopw [8] (fun i wr => ∃ (k : Nat) (f1 : Nat → Nat), a + 1 ≤ k ∧ (k ≤ b ∨ k = a + 1) ∧ i = .int .i64 (k : Int) ∧ Hid (Ss w0 g n f1 wr ∧ PermOn a b f f1 ∧ SortOn a k f1)) (fun i _ => b - (intOf i).toNat)
  case atStart => exact ⟨a + 1, f, Nat.le_refl _, .inr rfl, rfl, HS.out, PermOn.refl _ _ _, fun p q h1 h2 h3 => by rw [show p = q by omega]; exact Int.le_refl _⟩
  case round =>
    rename_i wr
    clear HS
    obtain ⟨k, f1, hk1, hk2, rfl, HS⟩ := hrel
    by_cases hlt : k < b
    · have d1 : decide ((k : Int) < (b : Int)) = true := decide_eq_true (by omega)
      have hw1 : wrap64 ((k : Int) + 1) = ((k + 1 : Nat) : Int) := by rw [IntWalk.wrap64_in _ ⟨by omega, by omega⟩]; omega
      have HI0 := Lib.hid (show Ss w0 g n f1 wr ∧ PermOn a b f f1 ∧ Gap a k k f1 from ⟨HS.out.1, HS.out.2.1, Gap.start HS.out.2.2⟩)
      clear HS
      go_wp2
      go_loopw [9] (fun j wr => ∃ (m : Nat) (f2 : Nat → Nat), a ≤ m ∧ m ≤ k ∧ j = .int .i64 (m : Int) ∧ Hid (Ss w0 g n f2 wr ∧ PermOn a b f f2 ∧ Gap a k m f2)) (fun j _ => (intOf j).toNat)
      case atStart => exact ⟨k, f1, by omega, Nat.le_refl _, rfl, HI0.out⟩
      case round =>
        rename_i wr
        clear HI0
        obtain ⟨j, f2, hj1, hj2, rfl, HI⟩ := hrel
        by_cases hja : j = a
        · have d2 : decide ((a : Int) < (j : Int)) = false := decide_eq_false (by omega)
          have d3 : decide (a < j) = false := decide_eq_false (by omega)
          have HD := Lib.hid (HI.out.2.2.done ⟨hj1, hj2⟩ (.inl hja))
          clear hja
          go_wp2_with fail
          go_quiet (fail)
          obtain ⟨W3, hW3⟩ : ∃ W3, W3 = wr.drewN nq := ⟨_, rfl⟩
          have HF := Lib.hid (show Ss w0 g n f2 W3 ∧ PermOn a b f f2 ∧ SortOn a (k + 1) f2 from ⟨by rw [hW3]; exact HI.out.1.drewN nq, HI.out.2.1, HD.out⟩)
          rw [← hW3]
          clear hW3
          go_wp2
          go_roundw
          case rel => exact ⟨k + 1, f2, by omega, .inl (by omega), by first | rfl | go_num, HF.out⟩
          case measure => first | exact meas_step hlt | (rw [hw1]; exact meas_step hlt) | exact meas_step2 hlt
        · have d2 : decide ((a : Int) < (j : Int)) = true := decide_eq_true (by omega)
          have d3 : decide (a < j) = true := decide_eq_true (by omega)
          have d4 : a < j := by omega
          obtain ⟨m, hm⟩ : ∃ m, j = m + 1 := ⟨j - 1, by omega⟩
          have hc1 := HI.out.1.1 j (by omega)
          have hc2 := HI.out.1.1 m (by omega)
          have hg := HI.out.1.2.2.1
          have i1 : (0 : Int) ≤ (j : Int) := by omega
          have i2 : (j : Int) < (n : Int) := by omega
          have i3 : (0 : Int) ≤ (m : Int) := by omega
          have i4 : (m : Int) < (n : Int) := by omega
          have i5 : j < n := by omega
          have i6 : m < n := by omega
          have hw2 : wrap64 ((j : Int) - 1) = (m : Int) := by rw [IntWalk.wrap64_in _ ⟨by omega, by omega⟩]; omega
          have hw3 : IntKind.i64.wrap ((j : Int) - 1) = (m : Int) := by rw [IntKind.wrap_i64]; omega
          have HC := Lib.hid (iCmp (HI.out.1.2.2.2.2.2 j) (HI.out.1.2.2.2.2.2 m) wr.drew (HL.out.below HI.out.1.2.2.2.2.1.drew))
          have HM := Lib.hid hm
          clear hm
          go_wp2_with fail
          go_region_held3 (fun wx => (∀ z y, z < wr.heap.size → wx.cell? ⟨z, y, none⟩ = wr.cell? ⟨z, y, none⟩) ∧ Below wr.heap.size wr wx)
            (first
              | exact Fl.keeps0 _
              | (refine Fl.keepsB hbn ?_; assumption)
              | (refine Fl.keepsD ?_; assumption))
            (first
              | (go_at_call 57; (refine (HC.out).mono ?_); rintro e w1 ⟨o, rfl, ho, hbn⟩; have HO := Lib.hid ho))
          have HBR := Lib.hid (Fl.stays_of (by assumption : (∀ z y, z < wr.heap.size → World.cell? _ ⟨z, y, none⟩ = wr.cell? ⟨z, y, none⟩) ∧ Below wr.heap.size wr _))
          have HI1 := Lib.hid (HI.out.1.call HBR.out)
          cases hkw : decide (kw (f2 j) < kw (f2 m))
          · have ho' : decide (o < 0) = false := HO.out.trans hkw
            have HF := Lib.hid (show Ss w0 g n f2 w1 ∧ PermOn a b f f2 ∧ SortOn a (k + 1) f2 from ⟨HI1.out, HI.out.2.1, HI.out.2.2.done ⟨hj1, hj2⟩ (.inr (by rw [HM.out, Nat.add_sub_cancel]; rw [HM.out] at hkw; exact of_decide_eq_false hkw))⟩)
            clear hkw hbn hc1 hc2
            go_wp2
            go_roundw
            case rel => exact ⟨k + 1, f2, by omega, .inl (by omega), by first | rfl | go_num, HF.out⟩
            case measure => first | exact meas_step hlt | (rw [hw1]; exact meas_step hlt) | exact meas_step2 hlt
          · have ho' : decide (o < 0) = true := HO.out.trans hkw
            have y1 := HI1.out.2.1 j
            have y2 := HI1.out.2.1 m
            have nm : j ≠ m := by have := HM.out; omega
            have nm2 : m ≠ j := by have := HM.out; omega
            have HK := Lib.hid (of_decide_eq_true hkw)
            clear hkw hbn
            go_wp2
            go_region
            obtain ⟨W4, hW4⟩ : ∃ W4, W4 = ((w1.setCell ⟨g, j, none⟩ (fl (f2 m))).setCell ⟨g, m, none⟩ (fl (f2 j))).drew := ⟨_, rfl⟩
            have hjm := HM.out
            have HF := Lib.hid (show Ss w0 g n (swp f2 j m) W4 ∧ PermOn a b f (swp f2 j m) ∧ Gap a k m (swp f2 j m) from ⟨by rw [hW4]; exact (HI1.out.swap j m).drew, HI.out.2.1.trans (PermOn.swap f2 ⟨by omega, by omega⟩ ⟨by omega, by omega⟩), by rw [hjm]; exact Gap.step (by have h := HI.out.2.2; rwa [hjm] at h) ⟨by omega, by omega⟩ (by have h := HK.out; rwa [hjm] at h)⟩)
            have hmk : m ≤ k ∧ a ≤ m := by omega
            have HMK := Lib.hid hmk
            clear hjm hmk hc1 hc2
            rw [← hW4]
            clear hW4
            go_wp2
            go_roundw
            case rel => exact ⟨m, _, HMK.out.2, HMK.out.1, by first | rfl | go_num, HF.out⟩
            case measure => have h1 := HM.out; clear hw2 hw3; simp only [intOf, Int.toNat_natCast]; omega
    · have d1 : decide ((k : Int) < (b : Int)) = false := decide_eq_false (by omega)
      have HF := Lib.hid (show ∃ f', Ss w0 g n f' wr ∧ PermOn a b f f' ∧ SortOn a b f' from ⟨f1, HS.out.1, HS.out.2.1, fun p q h1 h2 h3 => HS.out.2.2 p q h1 h2 (by omega)⟩)
      go_wp2
      refine bodyPost_end (results_none rfl _ _ _) rfl ⟨rfl, HF.out⟩
end Go.Proofs.YtmjnnjjmfedlbaaDoor
