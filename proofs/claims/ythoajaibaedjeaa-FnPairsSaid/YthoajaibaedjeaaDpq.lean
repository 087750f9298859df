/-
  Contracts: two pairs drawn; pairs told to be the same.
-/
import Derived.Test.YthoajaibaedjeaaDpp
namespace Go.Proofs.Ythoajaibaedjeaa
set_option linter.unusedSimpArgs false
set_option linter.unusedVariables false
open Go.RowKit Go.Dr
open Go.Fl (fl pr fres fres_lt feq peq bcell blt)

def TwoP (w : World) (e : Ending) (w' : World) : Prop := ∃ a b c d, e = .returned (.tuple #[pr a b, pr c d]) ∧ (a < 2 ^ 64 ∧ b < 2 ^ 64) ∧ (c < 2 ^ 64 ∧ d < 2 ^ 64) ∧ Below w.heap.size w w'

abbrev W2 (w : World) : World := ((w.alloc (.cells #[fl 0, fl 0] 25)).alloc (.cells #[fl 0, fl 0] 25))
theorem twoBlk (w : World) : ∀ w1, Below (W2 w).heap.size (W2 w) w1 → (w1.cell? ⟨w.heap.size, 0, none⟩ = some (fl 0) ∧ w1.cell? ⟨w.heap.size, 1, none⟩ = some (fl 0) ∧ w1.frozen? ⟨w.heap.size, 0, none⟩ = false ∧ w1.frozen? ⟨w.heap.size, 1, none⟩ = false) ∧ (w1.cell? ⟨w.heap.size + 1, 0, none⟩ = some (fl 0) ∧ w1.cell? ⟨w.heap.size + 1, 1, none⟩ = some (fl 0) ∧ w1.frozen? ⟨w.heap.size + 1, 0, none⟩ = false ∧ w1.frozen? ⟨w.heap.size + 1, 1, none⟩ = false) := by
  intro w1 hb
  have a : Blk w1 w.heap.size 25 #[fl 0, fl 0] := ((Blk.new w _ _).alloc _).below hb (by simp [W2]; omega)
  have b : Blk w1 (w.heap.size + 1) 25 #[fl 0, fl 0] := Blk.below (w := W2 w) (by have := Blk.new (w.alloc (.cells #[fl 0, fl 0] 25)) 25 #[fl 0, fl 0]; simpa using this) hb (by simp [W2])
  exact ⟨⟨a.cell 0, a.cell 1, a.frozen 0, a.frozen 1⟩, b.cell 0, b.cell 1, b.frozen 0, b.frozen 1⟩

set_option maxRecDepth 8000 in
set_option maxHeartbeats 1600000 in
theorem sTwo (A : Option Addr) (n c : Nat) (xs : List Int) (w : World) (h : IRow .u8 w A n c xs) (hn : n ≤ 1048576) :
    Calls Try.prog 43 #[.slice A n c] w (TwoP w) := by
  have HA := Lib.hid ((Below.refl w.heap.size w).alloc (Nat.le_refl _) (.cells #[fl 0, fl 0] 25))
  have HB := Lib.hid (HA.out.alloc HA.out.size (.cells #[fl 0, fl 0] 25))
  have HN := Lib.hid (l1New_any A n c xs _ (h.below HB.out) hn)
  have HP := Lib.hid (twoBlk w)
  clear h hn
  go_enter Try.func43, Try.ntmps43
  go_wp2_with (first
    | (go_at_call 45; (with_reducible refine HN.out.mono ?_); rintro e w1 ⟨g, rfl, hc, hb⟩; have HS := Lib.hid (St.new hc hb); clear hc hb)
    | (go_at_call 56; (with_reducible refine (sL4Draw HS.out).mono ?_); rintro e w1 ⟨a, b, rfl, hab, hs⟩; replace HS := Lib.hid hs; obtain ⟨⟨y0, y1, y2, y3⟩, z0, z1, z2, z3⟩ := HP.out _ hs.2.1; (first | (have HV2 := Lib.hid (And.intro HV1.out hab)) | (have HV1 := Lib.hid hab)); clear hs hab))
  refine bodyPost_ret (v := .tuple #[pr _ _, pr _ _]) (by simp [results, Try.results43, go_sem, *]) rfl ⟨_, _, _, _, rfl, HV2.out.1, HV2.out.2, ?_⟩
  exact ((((HB.out.trans (HS.out.2.1.mono HB.out.size)).setCell (p := ⟨w.heap.size, 0, none⟩) (Nat.le_refl _) _).setCell (p := ⟨w.heap.size, 1, none⟩) (Nat.le_refl _) _).setCell (p := ⟨w.heap.size + 1, 0, none⟩) (Nat.le_succ _) _).setCell (p := ⟨w.heap.size + 1, 1, none⟩) (Nat.le_succ _) _
set_option maxRecDepth 8000 in
theorem sDrawMul (A : Option Addr) (n c : Nat) (xs : List Int) (w : World) (h : IRow .u8 w A n c xs) (hn : n ≤ 1048576) :
    Calls Try.prog 16 #[.slice A n c] w (TwoP w) := by
  have HA := Lib.hid ((Below.refl w.heap.size w).alloc (Nat.le_refl _) (.cells #[fl 0, fl 0] 25))
  have HB := Lib.hid (HA.out.alloc HA.out.size (.cells #[fl 0, fl 0] 25))
  have HN := Lib.hid (sTwo A n c xs _ (h.below HB.out) hn)
  have HP := Lib.hid (twoBlk w)
  clear h hn
  go_enter Try.func16, Try.ntmps16
  go_wp2_with (go_at_call 43; (with_reducible refine HN.out.mono ?_); rintro e w1 ⟨a, b, c1, d1, rfl, hab, hcd, hb⟩; obtain ⟨⟨y0, y1, y2, y3⟩, z0, z1, z2, z3⟩ := HP.out _ hb; have HV := Lib.hid (And.intro hab hcd); have HW := Lib.hid hb; clear hb hab hcd)
  refine bodyPost_ret (v := .tuple #[pr _ _, pr _ _]) (by simp [results, Try.results16, go_sem, *]) rfl ⟨_, _, _, _, rfl, HV.out.1, HV.out.2, ?_⟩
  exact ((((HB.out.trans (HW.out.mono HB.out.size)).setCell (p := ⟨w.heap.size, 0, none⟩) (Nat.le_refl _) _).setCell (p := ⟨w.heap.size, 1, none⟩) (Nat.le_refl _) _).setCell (p := ⟨w.heap.size + 1, 0, none⟩) (Nat.le_succ _) _).setCell (p := ⟨w.heap.size + 1, 1, none⟩) (Nat.le_succ _) _

theorem same_any (a b : Nat) (ha : a < 2 ^ 64) (hb : b < 2 ^ 64) (h : feq a b) (w : World) :
    Calls Try.prog 44 #[fl a, fl b] w fun e w' => e = .returned (.bool true) ∧ Below w.heap.size w w' := by
  have H1 := Lib.hid (fun W => sToBits_any a W ha)
  have H2 := Lib.hid (fun W => sToBits_any b W hb)
  rw [cn_of h] at H1
  clear h ha hb
  go_enter Try.func44, Try.ntmps44
  go_wp2_with (go_at_call 57; (first | (with_reducible refine (H1.out _).mono ?_) | (with_reducible refine (H2.out _).mono ?_)); rintro e w1 ⟨rfl, hbn⟩; (first | (replace HW := Lib.hid (HW.out.trans (hbn.mono HW.out.size))) | (have HW := Lib.hid hbn)); clear hbn)
  go_ret
  exact ⟨by simp, HW.out⟩

theorem samePair_any (a b c d : Nat) (ha : a < 2 ^ 64 ∧ b < 2 ^ 64) (hc : c < 2 ^ 64 ∧ d < 2 ^ 64) (h : peq (a, b) (c, d)) (w : World) :
    Calls Try.prog 18 #[pr a b, pr c d] w fun e w' => e = .returned (.bool true) ∧ Below w.heap.size w w' := by
  have H1 := Lib.hid (fun W => same_any a c ha.1 hc.1 h.1 W)
  have H2 := Lib.hid (fun W => same_any b d ha.2 hc.2 h.2 W)
  clear h ha hc
  go_enter Try.func18, Try.ntmps18
  go_wp2_with fail
  refine (H1.out _).mono ?_
  rintro e w1 ⟨rfl, hb1⟩
  obtain ⟨hc1, hf1⟩ := bcell hb1; have hm1 := blt hb1; have hz1 := hb1.size; (try simp only [World.size_alloc, World.size_drew, World.size_setCell] at hz1)
  have hz := hb1.size
  simp only [World.size_alloc] at hz
  go_wp2_with fail
  refine (H2.out _).mono ?_
  rintro e w2 ⟨rfl, hb2⟩
  go_wp2_with fail
  go_ret
  refine ⟨rfl, ?_⟩
  refine ((((Below.refl _ _).alloc (Nat.le_refl _) _).alloc (by simp) _).trans (hb1.mono (by simp; omega))).trans (hb2.mono (by omega))
end Go.Proofs.Ythoajaibaedjeaa
