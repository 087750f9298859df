/-
  Compare and Next of the reference.
-/
import Derived.Test.YtmjnnjjmfedlbaaDoorOm
import Derived.Test.YtmjnnjjmfedlbaaDoorUna
namespace Go.Proofs.YtmjnnjjmfedlbaaDoor
set_option linter.unusedSimpArgs false
set_option linter.unusedVariables false
open Go.RowKit Go.Dr

/-- What Compare comes to, of valid bits: NaNs, zeros, and else the order r. -/
def cmpR (na nb za zb : Bool) (r : Int) : Int := if (na || nb) = true then 2 else if (za && zb) = true then 0 else r
def cmpV (f : Int) (a b : Nat) : Int := if (okB f a && okB f b) = true then cmpR (nanB f a) (nanB f b) (zerB f a) (zerB f b) (cmpS (sgP f) a b) else 2

theorem okB_sg {f : Int} {b : Nat} (h : okB f b = true) (hb : b < 18446744073709551616) : b < 2 * sgP f ∧ (f = 1 ∨ f = 2 ∨ f = 3) := by
  rcases form_cases f with rfl | rfl | rfl | hf
  · have : b < 65536 := by simpa [okB] using h
    exact ⟨by show b < 2 * 32768; omega, .inl rfl⟩
  · have : b < 4294967296 := by simpa [okB] using h
    exact ⟨by show b < 2 * 2147483648; omega, .inr (.inl rfl)⟩
  · exact ⟨by show b < 2 * 9223372036854775808; omega, .inr (.inr rfl)⟩
  · rw [okB_none hf] at h; cases h

theorem sUnp_bad_1 {b : Nat} (w : World) (HA : Hid (∀ W : World, Calls Tryd.prog 37 #[.int .i64 1, .int .u64 (b : Int)] W fun e w' => e = .returned (.bool false) ∧ w' = W)) : Calls Tryd.prog 16 #[.int .i64 1, .int .u64 (b : Int)] w fun e w' => e = .returned (num 4 false 0 0) ∧ Below w.heap.size w w' := by
  go_enter Tryd.func16, Tryd.ntmps16
  go_wp2_with (first
    | (go_at_call 47; (with_reducible refine (oForm_1 _).mono ?_); rintro e w1 ⟨rfl, rfl⟩)
    | (go_at_call 37; (with_reducible refine (HA.out _).mono ?_); rintro e w1 ⟨rfl, rfl⟩))
  refine bodyPost_ret (v := num 4 false 0 0) (by simp [results, Tryd.results16, go_sem, *]) rfl ⟨rfl, ?_⟩
  repeat' (first | (with_reducible exact Below.refl _ _) | (with_reducible assumption) | (with_reducible refine below_drewN ?_ _) | (with_reducible refine Below.drew ?_) | (with_reducible refine Below.alloc ?_ ?_ _) | (with_reducible refine Below.setCell ?_ ?_ _) | (simp; done) | (simp; omega))

theorem sUnp_bad_2 {b : Nat} (w : World) (HA : Hid (∀ W : World, Calls Tryd.prog 37 #[.int .i64 2, .int .u64 (b : Int)] W fun e w' => e = .returned (.bool false) ∧ w' = W)) : Calls Tryd.prog 16 #[.int .i64 2, .int .u64 (b : Int)] w fun e w' => e = .returned (num 4 false 0 0) ∧ Below w.heap.size w w' := by
  go_enter Tryd.func16, Tryd.ntmps16
  go_wp2_with (first
    | (go_at_call 47; (with_reducible refine (oForm_2 _).mono ?_); rintro e w1 ⟨rfl, rfl⟩)
    | (go_at_call 37; (with_reducible refine (HA.out _).mono ?_); rintro e w1 ⟨rfl, rfl⟩))
  refine bodyPost_ret (v := num 4 false 0 0) (by simp [results, Tryd.results16, go_sem, *]) rfl ⟨rfl, ?_⟩
  repeat' (first | (with_reducible exact Below.refl _ _) | (with_reducible assumption) | (with_reducible refine below_drewN ?_ _) | (with_reducible refine Below.drew ?_) | (with_reducible refine Below.alloc ?_ ?_ _) | (with_reducible refine Below.setCell ?_ ?_ _) | (simp; done) | (simp; omega))

theorem sUnp_bad_n {f : Int} (hf : NoForm f) {b : Nat} (w : World) (HA : Hid (∀ W : World, Calls Tryd.prog 37 #[.int .i64 f, .int .u64 (b : Int)] W fun e w' => e = .returned (.bool false) ∧ w' = W)) : Calls Tryd.prog 16 #[.int .i64 f, .int .u64 (b : Int)] w fun e w' => e = .returned (num 4 false 0 0) ∧ Below w.heap.size w w' := by
  have HF := Lib.hid hf
  clear hf
  go_enter Tryd.func16, Tryd.ntmps16
  go_wp2_with (first
    | (go_at_call 47; (with_reducible refine (oForm_n HF.out _).mono ?_); rintro e w1 ⟨rfl, rfl⟩)
    | (go_at_call 37; (with_reducible refine (HA.out _).mono ?_); rintro e w1 ⟨rfl, rfl⟩))
  refine bodyPost_ret (v := num 4 false 0 0) (by simp [results, Tryd.results16, go_sem, *]) rfl ⟨rfl, ?_⟩
  repeat' (first | (with_reducible exact Below.refl _ _) | (with_reducible assumption) | (with_reducible refine below_drewN ?_ _) | (with_reducible refine Below.drew ?_) | (with_reducible refine Below.alloc ?_ ?_ _) | (with_reducible refine Below.setCell ?_ ?_ _) | (simp; done) | (simp; omega))

theorem sUnp_bad {f : Int} {b : Nat} (hb : b < 18446744073709551616) (h : okB f b = false) (w : World) : Calls Tryd.prog 16 #[.int .i64 f, .int .u64 (b : Int)] w fun e w' => e = .returned (num 4 false 0 0) ∧ Below w.heap.size w w' := by
  have HA := Lib.hid (fun (W : World) => sAre (f := f) hb W)
  rw [h] at HA
  rcases form_cases f with rfl | rfl | rfl | hf
  · exact sUnp_bad_1 w HA
  · exact sUnp_bad_2 w HA
  · simp [okB] at h
  · exact sUnp_bad_n hf w HA

/-- What kind the bits are of. -/
def KindIs (f : Int) (b : Nat) (k : Int) : Prop := decide (3 ≤ k) = (!okB f b || nanB f b) ∧ (decide (3 ≤ k) = false → (k == 0) = zerB f b) ∧ (okB f b = true → (k == 3) = nanB f b)
theorem kind_of {f : Int} {b P : Nat} {B : Int} {n : Bool} {v : Value} (hok : okB f b = true) (hI : 0 < infP f) (h : UnpIs P (infP f) B n (b % sgP f) v) : ∃ k n x m, v = num k n x m ∧ KindIs f b k := by
  unfold UnpIs at h
  rcases h with ⟨h1, rfl⟩ | ⟨h1, rfl⟩ | ⟨h1, rfl⟩ | ⟨h1, h2, x, m, rfl, -⟩
  · refine ⟨_, _, _, _, rfl, ?_⟩
    have e : nanB f b = false := decide_eq_false (by omega)
    have z : zerB f b = false := decide_eq_false (by omega)
    simp [KindIs, hok, e, z]
  · refine ⟨_, _, _, _, rfl, ?_⟩
    have e : nanB f b = true := decide_eq_true (by omega)
    simp [KindIs, hok, e]
  · refine ⟨_, _, _, _, rfl, ?_⟩
    have e : nanB f b = false := decide_eq_false (by omega)
    have z : zerB f b = true := decide_eq_true (by omega)
    simp [KindIs, hok, e, z]
  · refine ⟨1, n, x, m, rfl, ?_⟩
    have e : nanB f b = false := decide_eq_false (by omega)
    have z : zerB f b = false := decide_eq_false (by omega)
    simp [KindIs, hok, e, z]

theorem sUnpK {f : Int} {b : Nat} (hb : b < 18446744073709551616) (w : World) : Calls Tryd.prog 16 #[.int .i64 f, .int .u64 (b : Int)] w fun e w' => ∃ k n x m, e = .returned (num k n x m) ∧ KindIs f b k ∧ Below w.heap.size w w' := by
  cases h : okB f b
  · refine (sUnp_bad hb h w).mono fun e w' ⟨he, hw⟩ => ⟨4, false, 0, 0, he, (by unfold KindIs; rw [h]; exact ⟨rfl, fun h2 => by simp at h2, fun h2 => by cases h2⟩), hw⟩
  · rcases (okB_sg h hb).2 with rfl | rfl | rfl
    · refine (sUnpack_1 b w (by simpa [okB] using h)).mono fun e w' ⟨v, he, hv, hw⟩ => ?_
      obtain ⟨k, n, x, m, rfl, hk⟩ := kind_of (f := 1) h (by decide) hv
      exact ⟨k, n, x, m, he, hk, hw⟩
    · refine (sUnpack_2 b w (by simpa [okB] using h)).mono fun e w' ⟨v, he, hv, hw⟩ => ?_
      obtain ⟨k, n, x, m, rfl, hk⟩ := kind_of (f := 2) h (by decide) hv
      exact ⟨k, n, x, m, he, hk, hw⟩
    · refine (sUnpack_3 b w hb).mono fun e w' ⟨v, he, hv, hw⟩ => ?_
      obtain ⟨k, n, x, m, rfl, hk⟩ := kind_of (f := 3) h (by decide) hv
      exact ⟨k, n, x, m, he, hk, hw⟩

theorem cmp_plain (p q u v oa ob na nb za zb : Bool) (r : Int) (x1 : p = (!oa || na)) (x2 : p = false → u = za) (y1 : q = (!ob || nb)) (y2 : q = false → v = zb) :
    (p = true → (if (oa && ob) = true then cmpR na nb za zb r else 2) = 2) ∧ (q = true → (if (oa && ob) = true then cmpR na nb za zb r else 2) = 2) ∧ (p = false → q = false → (u = true → v = true → (if (oa && ob) = true then cmpR na nb za zb r else 2) = 0) ∧ (u = false → (if (oa && ob) = true then cmpR na nb za zb r else 2) = (if oa = true ∧ ob = true then r else 2)) ∧ (v = false → (if (oa && ob) = true then cmpR na nb za zb r else 2) = (if oa = true ∧ ob = true then r else 2))) := by
  subst x1 y1
  unfold cmpR
  cases oa <;> cases ob <;> cases na <;> cases nb <;> first
    | (simp at x2 y2; subst x2 y2; cases u <;> cases v <;> simp; done)
    | (simp; done)
    | (cases u <;> cases v <;> simp_all; done)

set_option maxRecDepth 8000 in
set_option maxHeartbeats 3200000 in
theorem sCompare {f : Int} {a b : Nat} (ha : a < 18446744073709551616) (hb : b < 18446744073709551616) (w : World) :
    Calls Tryd.prog 19 #[.int .i64 f, .int .u64 (a : Int), .int .u64 (b : Int)] w fun e w' => e = .returned (.int .i64 (cmpV f a b)) ∧ Below w.heap.size w w' := by
  have HA := Lib.hid (fun (W : World) => sUnpK (f := f) ha W)
  have HB := Lib.hid (fun (W : World) => sUnpK (f := f) hb W)
  have HO := Lib.hid (fun (W : World) => sOrder (f := f) ha hb W)
  have HV := Lib.hid (show ∀ kx ky : Int, KindIs f a kx → KindIs f b ky → (decide (3 ≤ kx) = true → cmpV f a b = 2) ∧ (decide (3 ≤ ky) = true → cmpV f a b = 2) ∧ (decide (3 ≤ kx) = false → decide (3 ≤ ky) = false → ((kx == 0) = true → (ky == 0) = true → cmpV f a b = 0) ∧ ((kx == 0) = false → cmpV f a b = ordV f a b) ∧ ((ky == 0) = false → cmpV f a b = ordV f a b)) by
    intro kx ky hx hy
    obtain ⟨x1, x2, -⟩ := hx
    obtain ⟨y1, y2, -⟩ := hy
    have e : ordV f a b = if okB f a = true ∧ okB f b = true then cmpS (sgP f) a b else 2 := rfl
    rw [e]
    exact cmp_plain _ _ _ _ _ _ _ _ _ _ _ x1 x2 y1 y2)
  clear ha hb
  generalize cmpV f a b = r at HV ⊢
  generalize ordV f a b = o at HV HO
  go_enter Tryd.func19, Tryd.ntmps19
  go_upto_region 2 with (first
    | (go_at_call 16; (with_reducible refine (HA.out _).mono ?_); rintro e w1 ⟨k1, n1, x1, m1, rfl, hk1, hbn⟩; have HB1 := Lib.hid hbn; have HK1 := Lib.hid hk1; clear hbn hk1 HA)
    | (go_at_call 16; (with_reducible refine (HB.out _).mono ?_); rintro e w2 ⟨k2, n2, x2, m2, rfl, hk2, hbn⟩; have HB2 := Lib.hid (Fl.chain HB1.out hbn); have HK2 := Lib.hid hk2; clear hbn hk2))
  obtain ⟨W3, hW3⟩ : ∃ W3, W3 = (w2.alloc (.cells #[.int .i64 k1, .bool n1, .int .i64 x1, .int .u64 m1] 28)).alloc (.cells #[.int .i64 k2, .bool n2, .int .i64 x2, .int .u64 m2] 28) := ⟨_, rfl⟩
  have hc0 : W3.cell? ⟨w2.heap.size, 0, none⟩ = some (.int .i64 k1) := by rw [hW3]; exact ((Blk.new w2 28 _).alloc _).cell 0
  have hc1 : W3.cell? ⟨w2.heap.size + 1, 0, none⟩ = some (.int .i64 k2) := by
    rw [hW3]
    have h := (Blk.new (w2.alloc (.cells #[.int .i64 k1, .bool n1, .int .i64 x1, .int .u64 m1] 28)) 28 #[.int .i64 k2, .bool n2, .int .i64 x2, .int .u64 m2]).cell 0
    rwa [World.size_alloc] at h
  have HB3 := Lib.hid (show Below w.heap.size w W3 by rw [hW3]; exact (HB2.out.alloc HB2.out.size _).alloc (by rw [World.size_alloc]; have := HB2.out.size; omega) _)
  rw [← hW3]
  have hv := HV.out k1 k2 HK1.out HK2.out
  clear hW3 HV HK1 HK2 HB1 HB2 HB
  obtain ⟨v1, v2, v3⟩ := hv
  cases hp : decide (3 ≤ k1)
  · cases hq : decide (3 ≤ k2)
    · obtain ⟨v4, v5, v6⟩ := v3 hp hq
      clear v1 v2 v3
      cases hu : (k1 == 0)
      · have e := v5 hu
        subst e
        clear v4 v5 v6
        go_wp2_with (go_at_call 12; (with_reducible refine (HO.out _).mono ?_); rintro e w1 ⟨rfl, rfl⟩)
        go_ret
        exact ⟨rfl, HB3.out⟩
      · cases hz : (k2 == 0)
        · have e := v6 hz
          subst e
          clear v4 v5 v6
          go_wp2_with (go_at_call 12; (with_reducible refine (HO.out _).mono ?_); rintro e w1 ⟨rfl, rfl⟩)
          go_ret
          exact ⟨rfl, HB3.out⟩
        · have e := v4 hu hz
          subst e
          clear v4 v5 v6
          go_wp2
          go_ret
          exact ⟨rfl, HB3.out⟩
    · have e := v2 hq
      subst e
      clear v1 v2 v3
      go_wp2
      go_ret
      exact ⟨rfl, HB3.out⟩
  · have e := v1 hp
    subst e
    clear v1 v2 v3
    go_wp2
    go_ret
    exact ⟨rfl, HB3.out⟩
end Go.Proofs.YtmjnnjjmfedlbaaDoor
