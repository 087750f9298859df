/-
  The contract of DrawWholePairs: pairs of whole numbers of at most 1000, at most 32.
-/
import Derived.Test.YthoajaibaedjeaaOp
import Derived.Test.YthoajaibaedjeaaWs
namespace Go.Proofs.Ythoajaibaedjeaa
set_option linter.unusedSimpArgs false
set_option linter.unusedVariables false
open Go.RowKit Go.Dr
open Go.Fl (PRow flat fl pr wi wi_def)

theorem pow_small {k : Nat} (h : k < 6) : ∃ K : Nat, wrap64 (2 ^ k) = (K : Int) ∧ K ≤ 32 := by
  have : k = 0 ∨ k = 1 ∨ k = 2 ∨ k = 3 ∨ k = 4 ∨ k = 5 := by omega
  rcases this with rfl | rfl | rfl | rfl | rfl | rfl
  · exact ⟨1, by rw [wrap_id (by decide) (by decide)]; rfl, by decide⟩
  · exact ⟨2, by rw [wrap_id (by decide) (by decide)]; rfl, by decide⟩
  · exact ⟨4, by rw [wrap_id (by decide) (by decide)]; rfl, by decide⟩
  · exact ⟨8, by rw [wrap_id (by decide) (by decide)]; rfl, by decide⟩
  · exact ⟨16, by rw [wrap_id (by decide) (by decide)]; rfl, by decide⟩
  · exact ⟨32, by rw [wrap_id (by decide) (by decide)]; rfl, by decide⟩

theorem lim_app {zs : List (Int × Int)} {a b : Int} (h : ∀ z ∈ zs, Lim 1000 z) (ha : -1000 ≤ a ∧ a ≤ 1000) (hb : -1000 ≤ b ∧ b ≤ 1000) : ∀ z ∈ zs ++ [(a, b)], Lim 1000 z := by
  intro z hz
  rcases List.mem_append.1 hz with hz | hz
  · exact h z hz
  · obtain rfl := List.mem_singleton.1 hz
    exact ⟨ha.1, ha.2, hb.1, hb.2⟩
theorem OwnP.wz {W : World} {base : Nat} {v : Value} {zs : List (Int × Int)} {a b : Int} (h : OwnP W base v (zs.map Go.Proofs.Ythoajaibaedjeaa.wz ++ [(floatOfInt .f64 a, floatOfInt .f64 b)])) : OwnP W base v ((zs ++ [(a, b)]).map Go.Proofs.Ythoajaibaedjeaa.wz) := by
  rw [List.map_append]; exact h

set_option maxHeartbeats 800000 in
theorem sDrawWhole (A : Option Addr) (n c : Nat) (xs : List Int) (w : World) (h : IRow .u8 w A n c xs) (hn : n ≤ 1048576) :
    Calls Try.prog 41 #[.slice A n c] w fun e w' => ∃ (v : Value) (zs : List (Int × Int)), e = .returned v ∧ zs.length ≤ 32 ∧ (∀ z ∈ zs, Lim 1000 z) ∧ OwnP w' w.heap.size v (zs.map wz) ∧ Below w.heap.size w w' := by
  have HN := Lib.hid (l1New_any A n c xs w h hn)
  clear h hn
  go_enter Try.func41, Try.ntmps41
  go_wp2_with (first
    | (go_at_call 45; (with_reducible refine HN.out.mono ?_); rintro e w1 ⟨g, rfl, hc, hb⟩; have HS := Lib.hid (show St w w w1 g xs from ⟨hc, hb, ⟨hb.size, fun i hi _ => hb.block i hi⟩⟩); clear hc hb)
    | (go_at_call 47; (with_reducible refine (sBelow (HS.out.alloc (.cells #[] 25)).turn _).mono ?_); rintro e w1 ⟨v, rfl, hv, hs⟩; have HO := Lib.hid ((OwnP.empty _ w.heap.size HS.out.2.1.size).st (HS.out.alloc _) hs); replace HS := Lib.hid ((HS.out.alloc _).back hs); obtain ⟨k, rfl⟩ := Int.eq_ofNat_of_zero_le hv.1; obtain ⟨K, hK, hK2⟩ := pow_small (k := k) (by have := hv.2 (by omega); omega); have hu0 : IntKind.u64.wrap (k : Int) = k := IntWalk.u64_in _ (by have := hv.2 (by omega); omega); have hk60 : k ≤ 60 := (by have := hv.2 (by omega); omega); have hk00 : (0 : Int) ≤ (k : Int) := (by omega); clear hs hv))
  try simp only [hK]
  have HK := Lib.hid hK2
  clear hK hK2 hu0 hk60 hk00
  go_loopw [4, 5] (fun v i wr => ∃ (j : Nat) (zs : List (Int × Int)), zs.length + j = K ∧ i = .int .i64 ((j : Nat) : Int) ∧ Hid (∀ z ∈ zs, Lim 1000 z) ∧ Hid (OwnP wr w.heap.size v (zs.map wz)) ∧ Hid (St w w wr g xs)) (fun _ i _ => (intOf i).toNat)
  case atStart => exact ⟨K, [], by simp, rfl, (fun z hz => by cases hz), HO.out, HS.out⟩
  case round =>
    clear HS HO
    obtain ⟨j, zs, hj, rfl, HZ, HO, HS⟩ := hrel
    cases j with
    | zero =>
      go_wp2
      go_ret
      exact ⟨_, zs, rfl, by have := HK.out; omega, HZ.out, HO.out, HS.out.2.1⟩
    | succ j =>
      have hp : decide (0 < ((j + 1 : Nat) : Int)) = true := decide_eq_true (by omega)
      have hk1 : wrap64 (j : Int) = (j : Int) := by have := HK.out; exact wrap_id (by omega) (by omega)
      have HL := Lib.hid (show (zs.map wz).length ≤ 1048576 by have := HK.out; rw [List.length_map]; omega)
      have HJ := Lib.hid hj
      clear hj
      go_wp2_with (first
        | (go_at_call 47; (with_reducible refine (sBelow HS.out.turn _).mono ?_); rintro e w1 ⟨v, rfl, hv, hs⟩; replace HO := Lib.hid (HO.out.st HS.out hs); replace HS := Lib.hid (HS.out.back hs); (first | (have HV2 := Lib.hid (show -1000 ≤ v - 1000 ∧ v - 1000 ≤ 1000 ∧ HV1.out = HV1.out from ⟨by omega, by have := hv.2 (by omega); omega, rfl⟩)) | (have HV1 := Lib.hid (show -1000 ≤ v - 1000 ∧ v - 1000 ≤ 1000 from ⟨by omega, by have := hv.2 (by omega); omega⟩))); have hvw : wrap64 (v - 1000) = v - 1000 := wrap_id (by omega) (by have := hv.2 (by omega); omega); clear hs hv)
        | (at_builtin; refine appP rfl (.tmp 17) (.tmp 27) rfl w.heap.size _ _ _ _ rfl HO.out rfl HL.out HS.out.2.2.1 ?_; intro v2 w2 ho hg; replace HS := Lib.hid (appP_st HS.out HO.out (Nat.le_refl _) (Nat.le_refl _) hg); replace HO := Lib.hid ho; clear ho hg))
      go_roundw
      case rel => exact ⟨j, zs ++ [(_, _)], by rw [List.length_append]; have := HJ.out; simp; omega, by rw [hk1], lim_app HZ.out HV1.out ⟨HV2.out.1, HV2.out.2.1⟩, OwnP.wz HO.out, HS.out⟩
      case measure => rw [hk1]; simp only [intOf, Int.toNat_natCast]; omega
end Go.Proofs.Ythoajaibaedjeaa
