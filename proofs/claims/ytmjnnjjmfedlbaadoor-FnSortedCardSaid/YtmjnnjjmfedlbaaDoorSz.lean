/-
  SortFloats of the reference.
-/
import Derived.Test.YtmjnnjjmfedlbaaDoorSy
namespace Go.Proofs.YtmjnnjjmfedlbaaDoor
set_option linter.unusedSimpArgs false
set_option linter.unusedVariables false
open Go.RowKit
open Go.Fl (fl isNan feq FRow)

theorem iSortF_big (A : Option Addr) (n c : Nat) (W : World) (hn : 200 < n) : Calls Tryd.prog 25 #[.slice A n c] W fun e w' => e = .returned (.slice none 0 0) ∧ w' = W := by
  have HF := Lib.hid (iFloats A n c)
  rw [decide_eq_false (show ¬ ((n : Int) ≤ 200) by omega)] at HF
  clear hn
  go_enter Tryd.func25, Tryd.ntmps25
  go_wp2_with (go_at_call 52; (with_reducible refine (HF.out _).mono ?_); rintro e w1 ⟨rfl, hw⟩; rw [hw]; clear hw)
  go_ret
  exact ⟨rfl, rfl⟩
theorem sSortF_big (A : Option Addr) (n c : Nat) (W : World) (hn : 200 < n) : Calls Tryd.prog 23 #[.slice A n c] W fun e w' => ∃ g, e = .returned (.slice (some ⟨g, 0, none⟩) 0 0) ∧ Below W.heap.size W w' := by
  have HF := Lib.hid (sList A n c)
  rw [decide_eq_false (show ¬ ((n : Int) ≤ 200) by omega)] at HF
  have HB := Lib.hid ((Below.refl W.heap.size W).alloc (Nat.le_refl _) (.cells #[] 41))
  clear hn
  go_enter Tryd.func23, Tryd.ntmps23
  go_wp2_with (go_at_call 50; (with_reducible refine (HF.out _).mono ?_); rintro e w1 ⟨rfl, hw⟩; rw [hw]; clear hw)
  go_ret
  exact ⟨_, rfl, HB.out⟩

/-- What stands so far, and behind it what came in. -/
def hyb (ys xs : List Nat) (t : Nat) : Nat := if t < ys.length then ys.getD t 0 else xs.getD t 0
theorem hyb_app {ys xs : List Nat} (h : ys.length < xs.length) : hyb (ys ++ [xs.getD ys.length 0]) xs = hyb ys xs := by
  funext t
  unfold hyb
  rw [List.length_append, List.length_singleton]
  by_cases h1 : t < ys.length
  · rw [if_pos h1, if_pos (by omega), List.getD_eq_getElem?_getD, List.getD_eq_getElem?_getD, List.getElem?_append_left h1]
    try rfl
  · rw [if_neg h1]
    by_cases h2 : t = ys.length
    · subst h2
      rw [if_pos (by omega), List.getD_eq_getElem?_getD, List.getElem?_append_right (Nat.le_refl _), Nat.sub_self]
      rfl
    · rw [if_neg (by omega)]
theorem hyb_set {ys xs : List Nat} {i v : Nat} (h : i < ys.length) : hyb (ys.set i v) xs = upd (hyb ys xs) i v := by
  funext t
  unfold hyb upd
  rw [List.length_set]
  by_cases h1 : t = i
  · subst h1
    rw [if_pos h, if_pos rfl, List.getD_eq_getElem?_getD, List.getElem?_set_self h]
    rfl
  · rw [if_neg h1]
    by_cases h2 : t < ys.length
    · rw [if_pos h2]
      show (ys.set i v).getD t 0 = (if t < ys.length then ys.getD t 0 else xs.getD t 0)
      rw [if_pos h2, List.getD_eq_getElem?_getD, List.getElem?_set_ne (Ne.symm h1)]
      rfl
    · rw [if_neg h2]
      show xs.getD t 0 = (if t < ys.length then ys.getD t 0 else xs.getD t 0)
      rw [if_neg h2]
theorem hyb_at {ys xs : List Nat} {i : Nat} (h : i < ys.length) : hyb ys xs i = ys.getD i 0 := by unfold hyb; rw [if_pos h]
theorem hyb_lt {ys xs : List Nat} (hy : ∀ x ∈ ys, x < 2 ^ 64) (hx : ∀ x ∈ xs, x < 2 ^ 64) (i : Nat) : hyb ys xs i < 2 ^ 64 := by
  unfold hyb
  split
  · exact lt_at hy i
  · exact lt_at hx i
theorem OwnF.set {W : World} {base g cap i v : Nat} {ys : List Nat} (h : OwnF W base (.slice (some ⟨g, 0, none⟩) ys.length cap) ys) (hi : i < ys.length) : OwnF (W.setCell ⟨g, i, none⟩ (fl v)) base (.slice (some ⟨g, 0, none⟩) (ys.set i v).length cap) (ys.set i v) := by
  obtain ⟨h0, h1⟩ := h
  refine ⟨by simp, ?_⟩
  rcases h1 with ⟨h1, _⟩ | ⟨g', cap', cur, hv, hb, hg, hnc, hcm, hsz, hcur⟩
  · cases h1
  · injection hv with k1 k2 k3
    injection k1 with k1
    injection k1 with k1
    subst k1 k3
    refine .inr ⟨g, cap, cur.setIfInBounds i (fl v), by rw [List.length_set], hb, Fl.Blk.set_ (t := 41) hg i (fl v), by rw [List.length_set]; exact hnc, hcm, by simpa using hsz, ?_⟩
    rw [Array.toList_setIfInBounds, List.length_set, List.take_set, hcur, List.map_set]
theorem OwnF.below {W W1 : World} {base : Nat} {v : Value} {ys : List Nat} (h : OwnF W base v ys) (hb : Below W.heap.size W W1) : OwnF W1 base v ys :=
  World.ownsRow.kept h ⟨hb.os, hb.tape, hb.output, hb.size, fun k hk _ => hb.block k hk⟩ (row := none) (by cases v.ownBlock <;> simp)
theorem mem_set {ys : List Nat} {i v : Nat} (hy : ∀ x ∈ ys, x < 2 ^ 64) (hv : v < 2 ^ 64) : ∀ x ∈ ys.set i v, x < 2 ^ 64 := fun x hx => by
  rcases List.mem_or_eq_of_mem_set hx with h | h
  · exact hy x h
  · rw [h]; exact hv
theorem swp_upd (f : Nat → Nat) (i j : Nat) : upd (upd f i (f j)) j (f i) = swp f i j := by
  funext t
  unfold upd swp
  by_cases e1 : t = i
  · by_cases e2 : t = j
    · subst e1; subst e2; simp
    · subst e1; rw [if_neg e2, if_pos rfl, if_pos rfl]
  · by_cases e2 : t = j
    · subst e2; rw [if_pos rfl, if_neg e1, if_pos rfl]
    · rw [if_neg e2, if_neg e1, if_neg e1, if_neg e2]

/-- The list so far: of the call's own, in memory; with what is behind it a rearrangement. -/
def Sp (w0 : World) (xs : List Nat) (g cap i : Nat) (ys : List Nat) (W : World) : Prop :=
  ys.length = i ∧ OwnF W w0.heap.size (.slice (some ⟨g, 0, none⟩) i cap) ys ∧ Below w0.heap.size w0 W ∧ (∀ x ∈ ys, x < 2 ^ 64) ∧ PermOn 0 xs.length (fun t => xs.getD t 0) (hyb ys xs)
theorem Sp.call {w0 W W1 : World} {xs ys : List Nat} {g cap i : Nat} (h : Sp w0 xs g cap i ys W) (hb : Below W.heap.size W W1) : Sp w0 xs g cap i ys W1 := ⟨h.1, h.2.1.below hb, Fl.chain h.2.2.1 hb, h.2.2.2⟩
theorem Sp.facts {w0 W : World} {xs ys : List Nat} {g cap i : Nat} (h : Sp w0 xs g cap i ys W) : w0.heap.size ≤ g ∧ g < W.heap.size ∧ (∀ t, t < i → W.cell? ⟨g, t, none⟩ = some (fl (hyb ys xs t))) ∧ (∀ t, W.frozen? ⟨g, t, none⟩ = false) ∧ i ≤ cap ∧ cap ≤ maxLen := by
  obtain ⟨h1, h2, h3, h4, h5⟩ := h
  subst h1
  obtain ⟨g', cap', hv, a1, a2, a3, a4, a5⟩ := h2.form (by intro e; cases e)
  injection hv with k1 k2 k3
  injection k1 with k1
  injection k1 with k1
  subst k1 k3
  exact ⟨a1, a2, fun t ht => by rw [hyb_at ht]; exact a3 t ht, a4, a5⟩
/-- Two elements exchanged, one store after the other. -/
theorem Sp.swap {w0 W : World} {xs ys : List Nat} {g cap i m j : Nat} (h : Sp w0 xs g cap i ys W) (hx : ∀ x ∈ xs, x < 2 ^ 64) (hin : i ≤ xs.length) (hj : j < i) (hm : m < i) : ∃ zs, hyb zs xs = swp (hyb ys xs) j m ∧ Sp w0 xs g cap i zs ((W.setCell ⟨g, j, none⟩ (fl (hyb ys xs m))).setCell ⟨g, m, none⟩ (fl (hyb ys xs j))) := by
  have hl := hyb_lt h.2.2.2.1 hx
  have hf := h.facts
  obtain ⟨h1, h2, h3, h4, h5⟩ := h
  subst h1
  have k1 := h2.set (v := hyb ys xs m) hj
  have k2 := k1.set (i := m) (v := hyb ys xs j) (by rw [List.length_set]; exact hm)
  refine ⟨(ys.set j (hyb ys xs m)).set m (hyb ys xs j), ?_, ?_, ?_, ?_, ?_, ?_⟩
  · rw [hyb_set (by rw [List.length_set]; exact hm), hyb_set hj, swp_upd]
  · rw [List.length_set, List.length_set]
  · have e : ((ys.set j (hyb ys xs m)).set m (hyb ys xs j)).length = ys.length := by rw [List.length_set, List.length_set]
    rw [e] at k2
    exact k2
  · exact (h3.setCell (p := ⟨g, j, none⟩) hf.1 _).setCell (p := ⟨g, m, none⟩) hf.1 _
  · exact mem_set (mem_set h4 (hl m)) (hl j)
  · rw [hyb_set (by rw [List.length_set]; exact hm), hyb_set hj, swp_upd]
    exact h5.trans (PermOn.swap _ ⟨by omega, by omega⟩ ⟨by omega, by omega⟩)

theorem appF {w : World} {ops : Array Oper} {rest : List Oper} {o : Oper} {a : Act} {Q : Exit → Act → World → Prop} (hgd : o.guard = none) (s y : Operand)
    (ho : o.op = .call { callee := .builtin .append, args := #[s, y], argTypes := #[35, 35] })
    (base : Nat) (v : Value) (l : List Nat) (x : Nat) (hs : a.eval s = v) (hown : OwnF w base v l) (hv : v ≠ .slice none 0 0) (hy : a.eval y = .slice (some ⟨w.heap.size, 0, none⟩) 1 1) (hl : l.length ≤ 1048576) (hb : base ≤ w.heap.size)
    (h : ∀ g cap w', OwnF w' base (.slice (some ⟨g, 0, none⟩) (l.length + 1) cap) (l ++ [x]) → (w.alloc (.cells #[fl x] 41)).grownBy w' v.ownBlock → wpList Tryd.prog ops Q rest (a.put o.dst (.slice (some ⟨g, 0, none⟩) (l.length + 1) cap)) w') :
    wpList Tryd.prog ops Q (o :: rest) a (w.alloc (.cells #[fl x] 41)) := by
  obtain ⟨i0, hi, hz0, hz1, hz2⟩ := info_parts floatInfo
  refine wpList_append_own _ hgd s y 35 ho base 41 i0 (.float .f64 0) 1 8 Tryd.underlying35 hi hz0 hz1 hz2 rfl (by decide) v l.length (l.map fl) hs (hown.alloc _) ⟨w.heap.size, 0, none⟩ 1 1 [fl x] hy rfl ?_ ?_ ?_ ?_ ?_ ?_
  · intro j u hj
    match j, hj with
    | 0, hj => simp at hj; subst hj; simp [Addr.add]
  · intro u hu; simp at hu; subst hu; rfl
  · unfold maxLen; omega
  · omega
  · simp; omega
  · intro v' w' h1 h2 h3
    have hv' : v' ≠ .slice none 0 0 := fun e => hv (h3.1 e).1
    have ho' : OwnF w' base v' (l ++ [x]) := by
      unfold OwnF
      rw [List.map_append, List.length_append]
      exact h1
    obtain ⟨g, cap, rfl, _⟩ := ho'.form hv'
    rw [List.length_append] at ho' ⊢
    exact h g cap w' ho' h2

set_option maxRecDepth 8000 in
set_option maxHeartbeats 6400000 in
theorem sSortF (gx c : Nat) (xs : List Nat) (W : World) (h : FRow W (some ⟨gx, 0, none⟩) xs.length c xs) (hx : ∀ x ∈ xs, x < 2 ^ 64) (hn : xs.length ≤ 200) :
    Calls Tryd.prog 23 #[.slice (some ⟨gx, 0, none⟩) xs.length c] W (SfIs (fun i => xs.getD i 0) xs.length W) := by
  have HF := Lib.hid (sList (some ⟨gx, 0, none⟩) xs.length c)
  rw [decide_eq_true (show ((xs.length : Int) ≤ 200) by omega)] at HF
  have HR := Lib.hid h.2
  have HX := Lib.hid hx
  have HN := Lib.hid hn
  have HS := Lib.hid (show Sp W xs W.heap.size 0 0 [] (W.alloc (.cells #[] 41)) ∧ SortOn 0 0 (hyb [] xs) from ⟨⟨rfl, World.ownsRow_made W #[] 0 (Nat.le_refl _) (Nat.zero_le _) rfl, (Below.refl _ _).alloc (Nat.le_refl _) _, fun x h => by simp at h, by rw [show hyb [] xs = fun t => xs.getD t 0 by funext t; unfold hyb; rw [if_neg (by simp)]]; exact PermOn.refl _ _ _⟩, fun i j h1 h2 h3 => by omega⟩)
  clear h hx hn
  go_enter Tryd.func23, Tryd.ntmps23
  go_wp2_with (go_at_call 50; (with_reducible refine (HF.out _).mono ?_); rintro e w1 ⟨rfl, hw⟩; rw [hw]; clear hw)
  go_loopw [3, 4] (fun o x wr => ∃ (i g cap : Nat) (ys : List Nat), i ≤ xs.length ∧ x = .int .i64 (i : Int) ∧ o = .slice (some ⟨g, 0, none⟩) i cap ∧ Hid (Sp W xs g cap i ys wr ∧ SortOn 0 i (hyb ys xs))) (fun _ x _ => xs.length - (intOf x).toNat)
  case atStart => exact ⟨0, _, 0, [], Nat.zero_le _, rfl, rfl, HS.out⟩
  case round =>
    rename_i wr hKK
    clear HS
    obtain ⟨i, g, cap, ys, hi, rfl, rfl, HS⟩ := hrel
    by_cases hlt : i < xs.length
    · have d1 : decide ((i : Int) < (xs.length : Int)) = true := decide_eq_true (by omega)
      have hw1 : wrap64 ((i : Int) + 1) = ((i + 1 : Nat) : Int) := by have := HN.out; rw [IntWalk.wrap64_in _ ⟨by omega, by omega⟩]; omega
      obtain ⟨b0, off, he, hb, hc⟩ := HR.out.2.2 (by omega)
      cases he
      have hci : wr.cell? ⟨gx, i, none⟩ = some (fl (xs.getD i 0)) := by have h := (HS.out.1.2.2.1.cell (p := ⟨gx, 0 + i, none⟩) hb).trans (hc i hlt); rwa [Nat.zero_add] at h
      have hyl := HS.out.1.1
      have HXI := Lib.hid (lt_at HX.out i)
      have HB := Lib.hid HS.out.1.2.2.1
      generalize hxi : xs.getD i 0 = x at hci HXI
      have HXE := Lib.hid hxi
      clear hc hb hxi
      go_upto_region 8 with (at_builtin; refine appF rfl (.tmp 18) (.tmp 23) rfl W.heap.size (.slice (some ⟨g, 0, none⟩) i cap) ys x rfl HS.out.1.2.1 (by intro e; cases e) rfl (by have := HN.out; omega) HB.out.size ?_; intro g2 cap2 w2 hown hgrow)
      have HSP0 := Lib.hid HS.out.1
      have HSO := Lib.hid HS.out.2
      have HSP := Lib.hid (show Sp W xs g2 cap2 (i + 1) (ys ++ [x]) w2 ∧ Gap 0 i i (hyb (ys ++ [x]) xs) from by
        have e : hyb (ys ++ [x]) xs = hyb ys xs := by rw [← HXE.out, ← hyl]; exact hyb_app (by omega)
        refine ⟨⟨by rw [List.length_append, hyl]; rfl, by rw [← hyl]; exact hown, (HB.out.alloc HB.out.size _).grown hgrow (row := some g) (Nat.le_trans HB.out.size (by simp)) (fun k e => by injection e with e; rw [← e]; exact HSP0.out.facts.1), fun y hy => ?_, by rw [e]; exact HSP0.out.2.2.2.2⟩, by rw [e]; exact Gap.start HSO.out⟩
        rcases List.mem_append.1 hy with hy | hy
        · exact HSP0.out.2.2.2.1 y hy
        · rw [List.mem_singleton.1 hy]; exact HXI.out)
      generalize ys ++ [x] = zs0 at HSP hown
      clear HS HSP0 HSO HB HXI HXE hown hgrow hci hyl
      go_wp2
      go_loopw [5] (fun y wr => ∃ (j : Nat) (zs : List Nat), j ≤ i ∧ y = .int .i64 (j : Int) ∧ Hid (Sp W xs g2 cap2 (i + 1) zs wr ∧ Gap 0 i j (hyb zs xs))) (fun y _ => (intOf y).toNat)
      case atStart => exact ⟨i, zs0, Nat.le_refl _, rfl, HSP.out⟩
      case round =>
        rename_i wr hKK2
        clear HSP
        obtain ⟨j, zs, hj2, rfl, HI⟩ := hrel
        have HFX := Lib.hid HI.out.1.facts
        by_cases hja : j = 0
        · have d2 : decide ((0 : Int) < (j : Int)) = false := decide_eq_false (by omega)
          have d3 : decide (0 < j) = false := decide_eq_false (by omega)
          have d4 : ¬ (0 < j) := by omega
          have HD := Lib.hid (HI.out.2.done ⟨Nat.zero_le _, hj2⟩ (.inl hja))
          clear hja
          go_wp2_with fail
          go_quiet (fail)
          obtain ⟨W3, hW3⟩ : ∃ W3, W3 = wr.drewN nq := ⟨_, rfl⟩
          have HF := Lib.hid (show Sp W xs g2 cap2 (i + 1) zs W3 ∧ SortOn 0 (i + 1) (hyb zs xs) from ⟨by rw [hW3]; exact HI.out.1.call (Fl.below_drewN (Below.refl _ _) nq), HD.out⟩)
          rw [← hW3]
          clear hW3
          go_wp2
          go_roundw
          case rel => exact ⟨i + 1, g2, cap2, zs, by omega, by first | rfl | go_num, rfl, HF.out⟩
          case measure => first | exact meas_step hlt | (rw [hw1]; exact meas_step hlt) | exact meas_step2 hlt
        · have d2 : decide ((0 : Int) < (j : Int)) = true := decide_eq_true (by omega)
          have d3 : decide (0 < j) = true := decide_eq_true (by omega)
          have d4 : 0 < j := by omega
          have d5 : (0 : Int) < (j : Int) := by omega
          obtain ⟨m, hm⟩ : ∃ m, j = m + 1 := ⟨j - 1, by omega⟩
          have hc1 := HFX.out.2.2.1 j (by omega)
          have hc2 := HFX.out.2.2.1 m (by omega)
          have hg := HFX.out.2.1
          have i1 : (0 : Int) ≤ (j : Int) := by omega
          have i2 : (j : Int) < ((i + 1 : Nat) : Int) := by omega
          have i2' : (j : Int) < (i : Int) + 1 := by omega
          have i3 : (0 : Int) ≤ (m : Int) := by omega
          have i4 : (m : Int) < ((i + 1 : Nat) : Int) := by omega
          have i4' : (m : Int) < (i : Int) + 1 := by omega
          have i5 : j < i + 1 := by omega
          have i6 : m < i + 1 := by omega
          have hw2 : wrap64 ((j : Int) - 1) = (m : Int) := by have := HN.out; rw [IntWalk.wrap64_in _ ⟨by omega, by omega⟩]; omega
          have hw3 : IntKind.i64.wrap ((j : Int) - 1) = (m : Int) := by have := HN.out; rw [IntKind.wrap_i64]; omega
          have HM := Lib.hid hm
          have HL1 := Lib.hid (hyb_lt HI.out.1.2.2.2.1 HX.out j)
          have HL2 := Lib.hid (hyb_lt HI.out.1.2.2.2.1 HX.out m)
          have HE := Lib.hid (show decide (ordV 3 (cn (hyb zs xs j)) (cn (hyb zs xs m)) < 0) = decide (kw (hyb zs xs j) < kw (hyb zs xs m)) from ord_lt)
          have HSO := Lib.hid (fun (W : World) => (sOrder (f := 3) (cn_lt64 HL1.out) (cn_lt64 HL2.out) W).mono (R' := fun e w' => e = .returned (.int .i64 (ordV 3 (cn (hyb zs xs j)) (cn (hyb zs xs m)))) ∧ Below W.heap.size W w') (fun e w' h => ⟨h.1, h.2 ▸ Below.refl _ _⟩))
          generalize ordV 3 (cn (hyb zs xs j)) (cn (hyb zs xs m)) = o at HE HSO
          clear hm
          go_wp2_with fail
          go_region_held3 (fun wx => (∀ z y, z < wr.heap.size → wx.cell? ⟨z, y, none⟩ = wr.cell? ⟨z, y, none⟩) ∧ Below wr.heap.size wr wx)
            (first
              | exact Fl.keeps0 _
              | (refine Fl.keepsB hbn ?_; assumption)
              | (refine Fl.keepsD ?_; assumption))
            (first
              | (go_at_call 51; (first | (with_reducible refine (sToBits_any (hyb zs xs j) _ HL1.out).mono ?_) | (with_reducible refine (sToBits_any (hyb zs xs m) _ HL2.out).mono ?_)); rintro e w1 ⟨rfl, hbn⟩)
              | (go_at_call 12; (with_reducible refine (HSO.out _).mono ?_); rintro e w1 ⟨rfl, hbn⟩))
          have HBR := Lib.hid (Fl.stays_of (by assumption : (∀ z y, z < wr.heap.size → World.cell? _ ⟨z, y, none⟩ = wr.cell? ⟨z, y, none⟩) ∧ Below wr.heap.size wr _))
          have HI1 := Lib.hid (HI.out.1.call HBR.out)
          have hxl : i + 1 ≤ xs.length := by omega
          cases hkw : decide (kw (hyb zs xs j) < kw (hyb zs xs m))
          · have ho' : decide (o < 0) = false := HE.out.trans hkw
            have ho2 : ¬ (o < 0) := of_decide_eq_false ho'
            have ho3 : 0 ≤ o := by omega
            have HF := Lib.hid (And.intro HI1.out (HI.out.2.done ⟨Nat.zero_le _, hj2⟩ (.inr (by rw [HM.out, Nat.add_sub_cancel]; rw [HM.out] at hkw; exact of_decide_eq_false hkw))))
            clear hkw hbn hc1 hc2
            go_wp2
            go_roundw
            case rel => exact ⟨i + 1, g2, cap2, zs, by omega, by first | rfl | go_num, rfl, HF.out⟩
            case measure => first | exact meas_step hlt | (rw [hw1]; exact meas_step hlt) | exact meas_step2 hlt
          · have ho' : decide (o < 0) = true := HE.out.trans hkw
            have ho2 : o < 0 := of_decide_eq_true ho'
            have HFY := Lib.hid HI1.out.facts
            have z1 := HFY.out.2.2.1 j (by omega)
            have z2 := HFY.out.2.2.1 m (by omega)
            have y1 := HFY.out.2.2.2.1 j
            have y2 := HFY.out.2.2.2.1 m
            have nm : j ≠ m := by have := HM.out; omega
            have nm2 : m ≠ j := by have := HM.out; omega
            have HK := Lib.hid (of_decide_eq_true hkw)
            obtain ⟨zs', hz, hsw⟩ := HI1.out.swap HX.out hxl i5 i6
            have HSW := Lib.hid hsw
            have HZ := Lib.hid hz
            have hjm := HM.out
            have HG := Lib.hid (show Gap 0 i m (hyb zs' xs) from by rw [HZ.out, hjm]; exact Gap.step (by have h := HI.out.2; rwa [hjm] at h) ⟨Nat.zero_le _, by omega⟩ (by have h := HK.out; rwa [hjm] at h))
            have HMI := Lib.hid (show m ≤ i by omega)
            clear hkw hbn hsw hz hjm
            go_wp2
            go_roundw
            case rel => exact ⟨m, zs', HMI.out, by first | rfl | go_num, HSW.out, HG.out⟩
            case measure => have h1 := HM.out; clear hw2 hw3; simp only [intOf, Int.toNat_natCast]; omega
    · obtain rfl : i = xs.length := by omega
      have d1 : decide ((xs.length : Int) < (xs.length : Int)) = false := decide_eq_false (by omega)
      have HF2 := Lib.hid HS.out.1.facts
      go_wp2
      go_ret
      exact ⟨g, cap, hyb ys xs, rfl, HF2.out.2.2.2.2.1, HF2.out.2.2.2.2.2, ⟨HF2.out.2.2.1, HF2.out.2.2.2.1, HF2.out.2.1, HF2.out.1, HS.out.1.2.2.1, hyb_lt HS.out.1.2.2.2.1 HX.out⟩, HS.out.1.2.2.2.2, HS.out.2⟩
end Go.Proofs.YtmjnnjjmfedlbaaDoor
