/-
  Contracts of ShapeNoise, of the program and of the reference.
-/
import Derived.Test.YtihhklfmabencaaRs
import Derived.Test.YtihhklfmabencaaShi
import Derived.Test.YtihhklfmabencaaShs
namespace Go.Proofs.Ytihhklfmabencaa
set_option linter.unusedSimpArgs false
set_option linter.unusedVariables false
open Go.RowKit Go.Dr

theorem sIn_any (x a b : Int) (w : World) : Calls Try.prog 32 #[.int .i64 x, .int .i64 a, .int .i64 b] w fun e w' => e = .returned (.bool (decide (a ≤ x ∧ x ≤ b))) ∧ Below w.heap.size w w' := by
  by_cases h1 : a ≤ x
  · have d1 : decide (a ≤ x) = true := decide_eq_true h1
    have HZ := Lib.hid (show decide (x ≤ b) = decide (a ≤ x ∧ x ≤ b) by exact decide_eq_decide.2 ⟨fun h => ⟨h1, h⟩, fun h => h.2⟩)
    clear h1
    go_enter Try.func32, Try.ntmps32
    go_wp2
    go_ret
    exact ⟨ret_b HZ.out, Below.refl _ _⟩
  · have d1 : decide (a ≤ x) = false := decide_eq_false h1
    have HZ := Lib.hid (show false = decide (a ≤ x ∧ x ≤ b) by exact (decide_eq_false (fun h => h1 h.1)).symm)
    clear h1
    go_enter Try.func32, Try.ntmps32
    go_wp2
    go_ret
    exact ⟨ret_b HZ.out, Below.refl _ _⟩

/-- What is off so far, and the k-th sample told. -/
def nE (l : List Int) (b : Int) : Nat → Int | 0 => 0 | k + 1 => l.getD k 0 + nE l b k - shf (l.getD k 0 + nE l b k) b 3 * 2 ^ b.toNat
def nY (l : List Int) (b : Int) (k : Nat) : Int := shf (l.getD k 0 + nE l b k) b 3
def noise (l : List Int) (b : Int) : List Int := tab (nY l b) l.length
def shapeB (l : List Int) (b : Int) : Bool := sigB l && decide (1 ≤ b ∧ b ≤ 20)

theorem shf3 {x : Int} {n : Nat} (hx : -2000000000 ≤ x ∧ x ≤ 2000000000) (h1 : 1 ≤ n) (h2 : n ≤ 20) : -(2 : Int) ^ n ≤ 2 * (x - shf x n 3 * 2 ^ n) ∧ 2 * (x - shf x n 3 * 2 ^ n) ≤ 2 ^ n := by
  have hp : (0 : Int) < 2 ^ n := Int.pow_pos (by decide)
  unfold shf
  rw [if_pos (show okS x n 3 from ⟨by omega, by omega, by omega⟩), Int.toNat_natCast]
  generalize (2 : Int) ^ n = D at *
  have hm := Int.mul_ediv_add_emod x D
  rw [Int.mul_comm] at hm
  have hm2 := Int.emod_lt_of_pos x hp
  have hm3 := Int.emod_nonneg x (show D ≠ 0 by omega)
  split
  · rename_i hu
    have : D ≤ 2 * (x % D) := by unfold upC at hu; omega
    rw [Int.add_mul, Int.one_mul]
    generalize x / D * D = z at *
    omega
  · rename_i hu
    have : ¬ D ≤ 2 * (x % D) := fun h => hu (by unfold upC; omega)
    generalize x / D * D = z at *
    omega

theorem nE_le {l : List Int} {n : Nat} (ha : allS l) (h1 : 1 ≤ n) (h2 : n ≤ 20) : ∀ k, k ≤ l.length → -(2 : Int) ^ n ≤ 2 * nE l n k ∧ 2 * nE l n k ≤ 2 ^ n
  | 0, _ => by
    have hp : (0 : Int) < 2 ^ n := Int.pow_pos (by decide)
    simp only [nE]; omega
  | k + 1, hk => by
    have ih := nE_le ha h1 h2 k (by omega)
    have hx := allS_at ha (show k < l.length by omega)
    unfold inS at hx
    have hD : (2 : Int) ^ n ≤ 1048576 := by
      have : (2 : Int) ^ n ≤ 2 ^ 20 := by exact_mod_cast Nat.pow_le_pow_right (show 0 < 2 by decide) h2
      simpa using this
    simp only [nE, Int.toNat_natCast]
    exact shf3 (by omega) h1 h2

/-- One round: the sums that the code takes do not wrap. -/
theorem shape_step {l : List Int} {n : Nat} (ha : allS l) (h1 : 1 ≤ n) (h2 : n ≤ 20) {k : Nat} (hk : k < l.length) :
    ∃ X Z, wrap64 (l.getD k 0 + nE l n k) = X ∧ shf X n 3 = nY l n k ∧ wrap64 (nY l n k * 2 ^ n) = Z ∧ wrap64 (X - Z) = nE l n (k + 1) := by
  have ih := nE_le ha h1 h2 k (by omega)
  have ih2 := nE_le ha h1 h2 (k + 1) (by omega)
  have hx := allS_at ha hk
  unfold inS at hx
  have hD : (2 : Int) ^ n ≤ 1048576 := by
    have : (2 : Int) ^ n ≤ 2 ^ 20 := by exact_mod_cast Nat.pow_le_pow_right (show 0 < 2 by decide) h2
    simpa using this
  have e : nE l n (k + 1) = l.getD k 0 + nE l n k - nY l n k * 2 ^ n := by simp only [nE, nY, Int.toNat_natCast]
  rw [e] at ih2 ⊢
  refine ⟨_, _, wrap_id (by omega) (by omega), rfl, wrap_id (by omega) (by omega), wrap_id (by omega) (by omega)⟩

theorem iShapeNoise_any (A : Option Addr) (n c : Nat) (l : List Int) (b : Int) (w : World) (h : IRow .i64 w A n c l) (hn : n ≤ 1048576) :
    Calls Try.prog 18 #[.slice A n c, .int .i64 b] w fun e w' => ∃ v, e = .returned (.tuple #[v, .bool (shapeB l b)]) ∧ Own w' w.heap.size v (pickL (shapeB l b) (noise l b)) ∧ Below w.heap.size w w' := by
  have hx := h.1
  subst hx
  have HR := Lib.hid h
  have HN := Lib.hid hn
  have HS := Lib.hid (iSignalOk_any A l.length c l w h hn)
  clear h hn
  cases hb : sigB l with
  | false =>
    have HZ := Lib.hid (show false = shapeB l b by unfold shapeB; rw [hb]; rfl)
    rw [hb] at HS
    clear hb
    go_enter Try.func18, Try.ntmps18
    go_wp2_with (first | (go_at_call 36; (with_reducible refine HS.out.mono ?_); rintro e w1 ⟨rfl, hb2⟩; have HB := Lib.hid hb2; clear hb2) | go_in)
    go_ret2
    exact ⟨_, ret_vb HZ.out, by rw [← HZ.out]; exact Own.nil _ _, HB.out⟩
  | true =>
    have HT := Lib.hid hb
    rw [hb] at HS
    have HA := Lib.hid (show l.length ≤ 512 ∧ allS l from of_decide_eq_true hb)
    clear hb
    by_cases b1 : ¬ 1 ≤ b
    · have HZ := Lib.hid (show false = shapeB l b by unfold shapeB; rw [HT.out, decide_eq_false (fun h => b1 h.1)]; rfl)
      have t1 : decide (1 ≤ b) = false := decide_eq_false b1
      have u1 : decide (b < 1) = true := decide_eq_true (by omega)
      clear b1
      go_enter Try.func18, Try.ntmps18
      go_wp2_with (first | (go_at_call 36; (with_reducible refine HS.out.mono ?_); rintro e w1 ⟨rfl, hb2⟩; have HB := Lib.hid hb2; clear hb2) | go_in)
      go_ret2
      exact ⟨_, ret_vb HZ.out, by rw [← HZ.out]; exact Own.nil _ _, HB.out⟩
    replace b1 := Classical.not_not.1 b1
    by_cases b2 : ¬ b ≤ 20
    · have HZ := Lib.hid (show false = shapeB l b by unfold shapeB; rw [HT.out, decide_eq_false (fun h => b2 h.2)]; rfl)
      have t1 : decide (1 ≤ b) = true := decide_eq_true b1
      have u1 : decide (b < 1) = false := decide_eq_false (by omega)
      have t2 : decide (b ≤ 20) = false := decide_eq_false b2
      have u2 : decide (20 < b) = true := decide_eq_true (by omega)
      clear b1 b2
      go_enter Try.func18, Try.ntmps18
      go_wp2_with (first | (go_at_call 36; (with_reducible refine HS.out.mono ?_); rintro e w1 ⟨rfl, hb2⟩; have HB := Lib.hid hb2; clear hb2) | go_in)
      go_ret2
      exact ⟨_, ret_vb HZ.out, by rw [← HZ.out]; exact Own.nil _ _, HB.out⟩
    replace b2 := Classical.not_not.1 b2
    obtain ⟨m, rfl⟩ := Int.eq_ofNat_of_zero_le (show 0 ≤ b by omega)
    have HZ := Lib.hid (show true = shapeB l m by unfold shapeB; rw [HT.out, decide_eq_true (⟨b1, b2⟩ : 1 ≤ (m : Int) ∧ (m : Int) ≤ 20)]; rfl)
    have t1 : decide (1 ≤ (m : Int)) = true := decide_eq_true b1
    have u1 : decide ((m : Int) < 1) = false := decide_eq_false (by omega)
    have t2 : decide ((m : Int) ≤ 20) = true := decide_eq_true b2
    have u2 : decide (20 < (m : Int)) = false := decide_eq_false (by omega)
    have m1 : 1 ≤ m := by omega
    have m2 : m ≤ 20 := by omega
    have mu : IntKind.u64.wrap (m : Int) = m := IntWalk.u64_in _ ⟨by omega, by omega⟩
    have m0 : 0 ≤ (m : Int) := by omega
    clear b1 b2
    go_enter Try.func18, Try.ntmps18
    go_wp2_with (go_at_call 36; (with_reducible refine HS.out.mono ?_); rintro e w1 ⟨rfl, hb2⟩; have HB := Lib.hid hb2; clear hb2)
    go_loopw [6, 7, 9, 10, 24] (fun v y x z i wr => ∃ k, k ≤ l.length ∧ y = .int .i64 (nE l m k) ∧ i = .int .i64 ((k : Nat) : Int) ∧ Hid (Own wr w.heap.size v (tab (nY l m) k)) ∧ Hid (Below w.heap.size w wr)) (fun _ _ _ _ i _ => l.length - (intOf i).toNat)
    case atStart => exact ⟨0, Nat.zero_le _, rfl, rfl, Own.nil _ _, HB.out⟩
    case round =>
      rename_i wr
      clear HB
      obtain ⟨k, hk, rfl, rfl, HO, HB⟩ := hrel
      by_cases hlt : k < l.length
      · obtain ⟨b, off, rfl, hb, hc⟩ := HR.out.2.2.2 (by omega)
        have HCW := Lib.hid (hc k hlt)
        have hcell : wr.cell? ⟨b, off + k, none⟩ = some (.int .i64 (l.getD k 0)) := by rw [HB.out.cell (p := ⟨b, off + k, none⟩) hb]; exact hc k hlt
        clear hc
        have hk1 := spell k l.length hlt HN.out
        have HL := Lib.hid (show (tab (nY l m) k).length ≤ 1048576 by rw [tab_len]; have := HN.out; omega)
        obtain ⟨X, Z, g1, g2, g3, g4⟩ := shape_step HA.out.2 m1 m2 hlt
        have HC := Lib.hid (iShift_any X m 3)
        rw [g2] at HC
        generalize hF : nY l m k = z at g3 HC
        generalize hY : l.getD k 0 = y at hcell g1 HCW
        generalize hP : nE l m (k + 1) = q at g4
        generalize nE l m k = p at g1
        have HF := Lib.hid hF
        have HP := Lib.hid hP
        clear hF hY hP g2
        go_wp2_with (first
          | (go_at_call 40; (with_reducible refine (HC.out _).mono ?_); rintro e w1 ⟨rfl, hb2⟩; replace HO := Lib.hid (HO.out.below hb2 (Nat.le_refl _)); replace HB := Lib.hid (HB.out.trans (hb2.mono HB.out.size)); replace hcell := (HB.out.cell (p := ⟨b, off + k, none⟩) hb).trans HCW.out; clear hb2)
          | (at_builtin; refine app1 rfl (.tmp 40) (.tmp 42) rfl w.heap.size _ _ _ rfl HO.out rfl HL.out HB.out.size ?_; intro v2 w2 ho hg; replace HB := Lib.hid (app_below HB.out HO.out hg); replace HO := Lib.hid ho; clear ho hg))
        go_roundw
        case rel => exact ⟨k + 1, by omega, by rw [HP.out], by rw [hk1], by rw [tab_succ, HF.out]; exact HO.out, HB.out⟩
        case measure => rw [hk1]; simp only [intOf, Int.toNat_natCast]; omega
      · have hkn : k = l.length := by omega
        subst hkn
        go_wp2
        go_ret2
        exact ⟨_, ret_vb HZ.out, by rw [← HZ.out]; exact HO.out, HB.out⟩

theorem sShapeNoise_any (A : Option Addr) (n c : Nat) (l : List Int) (b : Int) (w : World) (h : IRow .i64 w A n c l) (hn : n ≤ 1048576) :
    Calls Try.prog 19 #[.slice A n c, .int .i64 b] w fun e w' => ∃ v, e = .returned (.tuple #[v, .bool (shapeB l b)]) ∧ Below w.heap.size w w' := by
  have hx := h.1
  subst hx
  have HR := Lib.hid h
  have HN := Lib.hid hn
  have HS := Lib.hid (sSignalOk_any A l.length c l (w.alloc (.cells #[] 3)) (h.below (below_alloc0 _ _)) hn)
  clear h hn
  cases hb : sigB l with
  | false =>
    have HZ := Lib.hid (show false = shapeB l b by unfold shapeB; rw [hb]; rfl)
    rw [hb] at HS
    clear hb
    go_enter Try.func19, Try.ntmps19
    go_wp2_with (first | (go_at_call 37; (with_reducible refine HS.out.mono ?_); rintro e w1 ⟨rfl, hb2⟩; have HB := Lib.hid ((below_alloc0 _ _).trans (hb2.mono (by simp))); have HO := Lib.hid ((Own.empty w w.heap.size (Nat.le_refl _)).below hb2 (Nat.le_refl _)); clear hb2) | go_in)
    go_ret2
    exact ⟨_, ret_vb HZ.out, HB.out⟩
  | true =>
    have HT := Lib.hid hb
    rw [hb] at HS
    have HA := Lib.hid (show l.length ≤ 512 ∧ allS l from of_decide_eq_true hb)
    clear hb
    by_cases b1 : ¬ 1 ≤ b
    · have HZ := Lib.hid (show false = shapeB l b by unfold shapeB; rw [HT.out, decide_eq_false (fun h => b1 h.1)]; rfl)
      have t1 : decide (1 ≤ b) = false := decide_eq_false b1
      have u1 : decide (b < 1) = true := decide_eq_true (by omega)
      clear b1
      go_enter Try.func19, Try.ntmps19
      go_wp2_with (first | (go_at_call 37; (with_reducible refine HS.out.mono ?_); rintro e w1 ⟨rfl, hb2⟩; have HB := Lib.hid ((below_alloc0 _ _).trans (hb2.mono (by simp))); have HO := Lib.hid ((Own.empty w w.heap.size (Nat.le_refl _)).below hb2 (Nat.le_refl _)); clear hb2) | go_in)
      go_ret2
      exact ⟨_, ret_vb HZ.out, HB.out⟩
    replace b1 := Classical.not_not.1 b1
    by_cases b2 : ¬ b ≤ 20
    · have HZ := Lib.hid (show false = shapeB l b by unfold shapeB; rw [HT.out, decide_eq_false (fun h => b2 h.2)]; rfl)
      have t1 : decide (1 ≤ b) = true := decide_eq_true b1
      have u1 : decide (b < 1) = false := decide_eq_false (by omega)
      have t2 : decide (b ≤ 20) = false := decide_eq_false b2
      have u2 : decide (20 < b) = true := decide_eq_true (by omega)
      clear b1 b2
      go_enter Try.func19, Try.ntmps19
      go_wp2_with (first | (go_at_call 37; (with_reducible refine HS.out.mono ?_); rintro e w1 ⟨rfl, hb2⟩; have HB := Lib.hid ((below_alloc0 _ _).trans (hb2.mono (by simp))); have HO := Lib.hid ((Own.empty w w.heap.size (Nat.le_refl _)).below hb2 (Nat.le_refl _)); clear hb2) | go_in)
      go_ret2
      exact ⟨_, ret_vb HZ.out, HB.out⟩
    replace b2 := Classical.not_not.1 b2
    obtain ⟨m, rfl⟩ := Int.eq_ofNat_of_zero_le (show 0 ≤ b by omega)
    have HZ := Lib.hid (show true = shapeB l m by unfold shapeB; rw [HT.out, decide_eq_true (⟨b1, b2⟩ : 1 ≤ (m : Int) ∧ (m : Int) ≤ 20)]; rfl)
    have t1 : decide (1 ≤ (m : Int)) = true := decide_eq_true b1
    have u1 : decide ((m : Int) < 1) = false := decide_eq_false (by omega)
    have t2 : decide ((m : Int) ≤ 20) = true := decide_eq_true b2
    have u2 : decide (20 < (m : Int)) = false := decide_eq_false (by omega)
    have m1 : 1 ≤ m := by omega
    have m2 : m ≤ 20 := by omega
    have mu : IntKind.u64.wrap (m : Int) = m := IntWalk.u64_in _ ⟨by omega, by omega⟩
    have m0 : 0 ≤ (m : Int) := by omega
    have HI := Lib.hid (sIn_any (m : Int) 1 20)
    rw [decide_eq_true (⟨b1, b2⟩ : 1 ≤ (m : Int) ∧ (m : Int) ≤ 20)] at HI
    clear b1 b2
    go_enter Try.func19, Try.ntmps19
    go_wp2_with (first | (go_at_call 37; (with_reducible refine HS.out.mono ?_); rintro e w1 ⟨rfl, hb2⟩; have HB := Lib.hid ((below_alloc0 _ _).trans (hb2.mono (by simp))); have HO := Lib.hid ((Own.empty w w.heap.size (Nat.le_refl _)).below hb2 (Nat.le_refl _)); clear hb2) | (go_at_call 32; (with_reducible refine (HI.out _).mono ?_); rintro e w1 ⟨rfl, hb2⟩; replace HO := Lib.hid (HO.out.below hb2 (Nat.le_refl _)); replace HB := Lib.hid (HB.out.trans (hb2.mono HB.out.size)); clear hb2))
    go_loopw [6, 7, 8, 9] (fun v y i z wr => ∃ k, k ≤ l.length ∧ y = .int .i64 (nE l m k) ∧ i = .int .i64 ((k : Nat) : Int) ∧ Hid (Own wr w.heap.size v (tab (nY l m) k)) ∧ Hid (Below w.heap.size w wr)) (fun _ _ i _ _ => l.length - (intOf i).toNat)
    case atStart => exact ⟨0, Nat.zero_le _, rfl, rfl, HO.out, HB.out⟩
    case round =>
      rename_i wr
      clear HB HO
      obtain ⟨k, hk, rfl, rfl, HO, HB⟩ := hrel
      by_cases hlt : k < l.length
      · obtain ⟨b, off, rfl, hb, hc⟩ := HR.out.2.2.2 (by omega)
        have HCW := Lib.hid (hc k hlt)
        have hcell : wr.cell? ⟨b, off + k, none⟩ = some (.int .i64 (l.getD k 0)) := by rw [HB.out.cell (p := ⟨b, off + k, none⟩) hb]; exact hc k hlt
        clear hc
        have hk1 := spell k l.length hlt HN.out
        have HL := Lib.hid (show (tab (nY l m) k).length ≤ 1048576 by rw [tab_len]; have := HN.out; omega)
        obtain ⟨X, Z, g1, g2, g3, g4⟩ := shape_step HA.out.2 m1 m2 hlt
        have HC := Lib.hid (sShift_any X m 3)
        rw [g2] at HC
        generalize hF : nY l m k = z at g3 HC
        generalize hY : l.getD k 0 = y at hcell g1 HCW
        generalize hP : nE l m (k + 1) = q at g4
        generalize nE l m k = p at g1
        have HF := Lib.hid hF
        have HP := Lib.hid hP
        clear hF hY hP g2
        go_wp2_with (first
          | (go_at_call 41; (with_reducible refine (HC.out _).mono ?_); rintro e w1 ⟨rfl, hb2⟩; replace HO := Lib.hid (HO.out.below hb2 (Nat.le_refl _)); replace HB := Lib.hid (HB.out.trans (hb2.mono HB.out.size)); replace hcell := (HB.out.cell (p := ⟨b, off + k, none⟩) hb).trans HCW.out; clear hb2)
          | (at_builtin; refine app1 rfl (.tmp 45) (.tmp 47) rfl w.heap.size _ _ _ rfl HO.out rfl HL.out HB.out.size ?_; intro v2 w2 ho hg; replace HB := Lib.hid (app_below HB.out HO.out hg); replace HO := Lib.hid ho; clear ho hg))
        go_roundw
        case rel => exact ⟨k + 1, by omega, by rw [HP.out], by rw [hk1], by rw [tab_succ, HF.out]; exact HO.out, HB.out⟩
        case measure => rw [hk1]; simp only [intOf, Int.toNat_natCast]; omega
      · have hkn : k = l.length := by omega
        subst hkn
        go_wp2
        go_ret2
        exact ⟨_, ret_vb HZ.out, HB.out⟩

end Go.Proofs.Ytihhklfmabencaa
