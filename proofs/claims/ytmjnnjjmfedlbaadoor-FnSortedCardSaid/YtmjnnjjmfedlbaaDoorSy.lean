/-
  SortFloats of the program.
-/
import Derived.Test.YtmjnnjjmfedlbaaDoorSx
import Derived.Laws.AppendOwn
import Derived.OwnWalk
namespace Go.Proofs.YtmjnnjjmfedlbaaDoor
set_option linter.unusedSimpArgs false
set_option linter.unusedVariables false
open Go.RowKit
open Go.Fl (fl isNan feq FRow)

/-- A slice of floats of the call's own. -/
def OwnF (W : World) (base : Nat) (v : Value) (xs : List Nat) : Prop := W.ownsRow base 41 1 v xs.length (xs.map fl)
theorem OwnF.form {W : World} {base : Nat} {v : Value} {xs : List Nat} (h : OwnF W base v xs) (hv : v ≠ .slice none 0 0) : ∃ g cap, v = .slice (some ⟨g, 0, none⟩) xs.length cap ∧ base ≤ g ∧ g < W.heap.size ∧ (∀ i, i < xs.length → W.cell? ⟨g, i, none⟩ = some (fl (xs.getD i 0))) ∧ (∀ i, W.frozen? ⟨g, i, none⟩ = false) ∧ xs.length ≤ cap ∧ cap ≤ maxLen := by
  rcases h.2 with ⟨h1, _⟩ | ⟨g, cap, cur, rfl, hb, hg, hnc, hcm, hsz, hcur⟩
  · exact absurd h1 hv
  · have hB : Fl.Blk W g 41 cur := hg
    refine ⟨g, cap, rfl, hb, hB.lt, fun i hi => ?_, fun i => hB.frozen i, hnc, hcm⟩
    rw [hB.cell i]
    have hj : (xs.map fl)[i]? = some (fl (xs.getD i 0)) := by
      rw [List.getElem?_map, List.getElem?_eq_getElem hi, List.getD_eq_getElem?_getD, List.getElem?_eq_getElem hi]; rfl
    rw [← hcur, List.getElem?_take] at hj
    split at hj
    · simpa using hj
    · cases hj
theorem OwnF.ss {w0 W : World} {v : Value} {xs : List Nat} (h : OwnF W w0.heap.size v xs) (hv : v ≠ .slice none 0 0) (hb : Below w0.heap.size w0 W) (hx : ∀ x ∈ xs, x < 2 ^ 64) : ∃ g cap, v = .slice (some ⟨g, 0, none⟩) xs.length cap ∧ (xs.length ≤ cap ∧ cap ≤ maxLen) ∧ Ss w0 g xs.length (fun i => xs.getD i 0) W := by
  obtain ⟨g, cap, hv, h1, h2, h3, h4, h5⟩ := h.form hv
  exact ⟨g, cap, hv, h5, h3, h4, h2, h1, hb, lt_at hx⟩

theorem eq_nil (a : Addr) (n c : Nat) (W : World) : (binOp BinOp.eql 35 (Value.slice (some a) n c) (Value.slice none 0 0)).run Tryd.prog W = .ok (.bool false) W := by
  kernel_rfl

set_option maxRecDepth 8000 in
set_option maxHeartbeats 3200000 in
theorem iClone (gx c : Nat) (xs : List Nat) (W : World) (h : FRow W (some ⟨gx, 0, none⟩) xs.length c xs) (hn : xs.length ≤ 200) :
    Calls Tryd.prog 53 #[.slice (some ⟨gx, 0, none⟩) xs.length c] W fun e w' => ∃ v, e = .returned v ∧ v ≠ .slice none 0 0 ∧ OwnF w' W.heap.size v xs ∧ Below W.heap.size W w' := by
  have HR := Lib.hid h.2
  have HN := Lib.hid hn
  clear h hn
  obtain ⟨i0, hi, hz0, hz1, hz2⟩ := info_parts floatInfo
  have HOW := Lib.hid (show (W.alloc (.cells #[] 41)).ownsRow W.heap.size 41 1 (.slice (some ⟨W.heap.size, 0, none⟩) 0 0) 0 [] from World.ownsRow_made W #[] 0 (Nat.le_refl _) (Nat.zero_le _) rfl)
  have HCL := Lib.hid (show ∀ j u, (xs.map fl)[j]? = some u → (W.alloc (.cells #[] 41)).cell? ((⟨gx, 0, none⟩ : Addr).add j) = some u from by
    intro j u hj
    rw [List.getElem?_map] at hj
    by_cases hjl : j < xs.length
    · obtain ⟨b, off, he, hb, hc⟩ := HR.out.2.2 (by omega)
      cases he
      have h1 := hc j hjl
      rw [Nat.zero_add] at h1
      rw [List.getElem?_eq_getElem hjl] at hj
      simp only [Option.map_some, Option.some.injEq] at hj
      have hadd : (⟨gx, 0, none⟩ : Addr).add j = ⟨gx, j, none⟩ := by unfold Addr.add; split <;> simp_all
      rw [hadd, (((Below.refl W.heap.size W).alloc (Nat.le_refl _) (.cells #[] 41)).cell (p := ⟨gx, j, none⟩) hb), h1, ← hj]
      show some (fl (xs.getD j 0)) = some (fl xs[j])
      rw [List.getD_eq_getElem?_getD, List.getElem?_eq_getElem hjl]
      rfl
    · rw [List.getElem?_eq_none (by omega)] at hj; cases hj)
  have hen := eq_nil ⟨gx, 0, none⟩ xs.length c
  go_enter Tryd.func53, Tryd.ntmps53
  go_wp2_with (at_builtin; refine wpList_append_own _ rfl (.tmp 5) (.tmp 6) 35 rfl W.heap.size 41 i0 (.float .f64 0) 1 8 Tryd.underlying35 hi hz0 hz1 hz2 rfl (by decide) (.slice (some ⟨W.heap.size, 0, none⟩) 0 0) 0 [] rfl HOW.out ⟨gx, 0, none⟩ xs.length c (xs.map fl) rfl (by simp) HCL.out (by intro u hu; obtain ⟨x, _, rfl⟩ := List.mem_map.1 hu; rfl) (by have := HN.out; unfold maxLen; omega) (by have := HN.out; omega) (by simp) ?_; intro v' w' hown hgrow hiff)
  go_ret
  refine ⟨v', rfl, fun e => ?_, ?_, ?_⟩
  · have := (hiff.1 e).1
    cases this
  · unfold OwnF
    rw [List.nil_append, Nat.zero_add] at hown
    exact hown
  · exact ((Below.refl W.heap.size W).alloc (Nat.le_refl _) _).grown hgrow (by simp) (fun k e => by injection e with e; rw [← e]; exact Nat.le_refl _)

/-- The first k made plain. -/
def cnf (xs : List Nat) (k i : Nat) : Nat := if i < k then cn (xs.getD i 0) else xs.getD i 0
theorem cnf_zero (xs : List Nat) : cnf xs 0 = fun i => xs.getD i 0 := by funext i; unfold cnf; rw [if_neg (by omega)]
theorem cnf_step (xs : List Nat) (k : Nat) : upd (cnf xs k) k (cn (xs.getD k 0)) = cnf xs (k + 1) := by
  funext i
  unfold upd cnf
  by_cases h : i = k
  · subst h; rw [if_pos rfl, if_pos (by omega)]
  · rw [if_neg h]
    by_cases h1 : i < k
    · rw [if_pos h1, if_pos (by omega)]
    · rw [if_neg h1, if_neg (by omega)]
theorem cnf_all (xs : List Nat) : cnf xs xs.length = fun i => cn (xs.getD i 0) := by
  funext i
  unfold cnf
  split
  · rfl
  · rw [List.getD_eq_getElem?_getD, List.getElem?_eq_none (by omega)]
    rfl
/-- What a sort of floats comes to: a list of the call's own, a rearrangement in order. -/
def SfIs (f : Nat → Nat) (n : Nat) (w : World) (e : Ending) (w' : World) : Prop := ∃ g cap f', e = .returned (.slice (some ⟨g, 0, none⟩) n cap) ∧ n ≤ cap ∧ cap ≤ maxLen ∧ Ss w g n f' w' ∧ PermOn 0 n f f' ∧ SortOn 0 n f'

set_option maxRecDepth 8000 in
set_option maxHeartbeats 6400000 in
theorem iSortF (gx c : Nat) (xs : List Nat) (W : World) (h : FRow W (some ⟨gx, 0, none⟩) xs.length c xs) (hx : ∀ x ∈ xs, x < 2 ^ 64) (hn : xs.length ≤ 200) (hl : Lk W) :
    Calls Tryd.prog 25 #[.slice (some ⟨gx, 0, none⟩) xs.length c] W (SfIs (fun i => cn (xs.getD i 0)) xs.length W) := by
  have HCLN := Lib.hid (iClone gx c xs W h hn)
  have HF := Lib.hid (iFloats (some ⟨gx, 0, none⟩) xs.length c)
  rw [decide_eq_true (show ((xs.length : Int) ≤ 200) by omega)] at HF
  have HX := Lib.hid hx
  have HN := Lib.hid hn
  have HL := Lib.hid hl
  clear h hx hn hl
  go_enter Tryd.func25, Tryd.ntmps25
  go_upto_region 4 with (first
    | (go_at_call 52; (with_reducible refine (HF.out _).mono ?_); rintro e w1 ⟨rfl, hw⟩; rw [hw]; clear hw)
    | (go_at_call 53; (with_reducible refine HCLN.out.mono ?_); rintro e w2 ⟨v, rfl, hv, ho, hbn⟩; obtain ⟨g, cap, rfl, hcp, hs⟩ := ho.ss hv hbn HX.out; have HCP := Lib.hid hcp; have HS := Lib.hid hs; clear hv ho hbn hs hcp))
  go_wp2
  go_loopw [13] (fun x wr => ∃ k : Nat, k ≤ xs.length ∧ x = .int .i64 (k : Int) ∧ Hid (Ss W g xs.length (cnf xs k) wr)) (fun x _ => xs.length - (intOf x).toNat)
  case atStart => exact ⟨0, Nat.zero_le _, rfl, by rw [cnf_zero]; exact HS.out⟩
  case round =>
    rename_i wr hKK
    clear HS
    obtain ⟨k, hk, rfl, HS⟩ := hrel
    by_cases hlt : k < xs.length
    · have d1 : decide ((k : Int) < (xs.length : Int)) = true := decide_eq_true (by omega)
      have hw1 : wrap64 ((k : Int) + 1) = ((k + 1 : Nat) : Int) := by have := HN.out; rw [IntWalk.wrap64_in _ ⟨by omega, by omega⟩]; omega
      have i1 : (0 : Int) ≤ (k : Int) := by omega
      have i2 : (k : Int) < (xs.length : Int) := by omega
      have hxk := lt_at HX.out k
      have hc1 : wr.cell? ⟨g, k, none⟩ = some (fl (xs.getD k 0)) := by have h := HS.out.1 k hlt; unfold cnf at h; rwa [if_neg (by omega)] at h
      have hf1 := HS.out.2.1 k
      have HS2 := Lib.hid (show Ss W g xs.length (cnf xs (k + 1)) (wr.setCell ⟨g, k, none⟩ (fl (cn (xs.getD k 0)))) by rw [← cnf_step]; exact HS.out.set k _ (cn_lt64 hxk))
      generalize xs.getD k 0 = x at *
      have hd := run_bits x
      have HFB := Lib.hid (fun W => iFromBits_any x W hxk)
      clear hxk
      go_wp2_with (go_at_call 54; (with_reducible refine (HFB.out _).mono ?_); rintro e w1 ⟨rfl, hw⟩; rw [hw]; clear hw)
      go_roundw
      case rel => exact ⟨k + 1, by omega, by first | rfl | go_num, HS2.out⟩
      case measure => first | exact meas_step hlt | (rw [hw1]; exact meas_step hlt) | exact meas_step2 hlt
    · obtain rfl : k = xs.length := by omega
      have d1 : decide ((xs.length : Int) < (xs.length : Int)) = false := decide_eq_false (by omega)
      have HC := Lib.hid (iSsf (cap := cap) (f := fun i => cn (xs.getD i 0)) (by have h := HS.out; rwa [cnf_all] at h) HL.out HN.out)
      go_wp2_with (go_at_call 56; (with_reducible refine HC.out.mono ?_); rintro e w3 ⟨rfl, f', hs, hp, hso⟩; have HF3 := Lib.hid (And.intro hs (And.intro hp hso)); clear hs hp hso)
      go_ret
      exact ⟨g, cap, f', rfl, HCP.out.1, HCP.out.2, HF3.out⟩
end Go.Proofs.YtmjnnjjmfedlbaaDoor
