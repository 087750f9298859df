/-
  Sorting: the stable sort, whole.
-/
import Derived.Test.YtmjnnjjmfedlbaaDoorSw
namespace Go.Proofs.YtmjnnjjmfedlbaaDoor
set_option linter.unusedSimpArgs false
set_option linter.unusedVariables false
open Go.RowKit
open Go.Fl (fl isNan feq)

/-- Stretches of s are each in order. -/
def BlkS (s n : Nat) (f : Nat → Nat) : Prop := ∀ q, s * q < n → SortOn (s * q) (min (s * q + s) n) f
/-- The first t stretches of 2 s are in order, and behind them those of s. -/
def HalfS (s n t : Nat) (f : Nat → Nat) : Prop := (∀ q, q < t → SortOn (2 * s * q) (2 * s * q + 2 * s) f) ∧ ∀ q, 2 * t ≤ q → s * q < n → SortOn (s * q) (min (s * q + s) n) f
theorem HalfS.start {s n : Nat} {f : Nat → Nat} (h : BlkS s n f) : HalfS s n 0 f := ⟨fun q hq => by omega, fun q _ hq => h q hq⟩
theorem mul_a {s t a : Nat} (ha : a = 2 * s * t) : s * (2 * t) = a ∧ s * (2 * t + 1) = a + s ∧ 2 * s * (t + 1) = a + 2 * s := by
  have e1 : s * (2 * t) = 2 * s * t := by rw [← Nat.mul_assoc, Nat.mul_comm s 2]
  refine ⟨by omega, ?_, ?_⟩
  · rw [Nat.mul_add, Nat.mul_one]; omega
  · rw [Nat.mul_add, Nat.mul_one]; omega
theorem HalfS.pre {s n t a : Nat} {f : Nat → Nat} (h : HalfS s n t f) (ha : a = 2 * s * t) (hs : 0 < s) : (a < n → SortOn a (min (a + s) n) f) ∧ (a + s < n → SortOn (a + s) (min (a + s + s) n) f) := by
  obtain ⟨e1, e2, e3⟩ := mul_a ha
  refine ⟨fun h1 => ?_, fun h1 => ?_⟩
  · have := h.2 (2 * t) (Nat.le_refl _) (by omega)
    rwa [e1] at this
  · have := h.2 (2 * t + 1) (by omega) (by omega)
    rwa [e2] at this
theorem HalfS.step {s n t a : Nat} {f g : Nat → Nat} (h : HalfS s n t f) (ha : a = 2 * s * t) (p : PermOn a (a + 2 * s) f g) (so : SortOn a (a + 2 * s) g) : HalfS s n (t + 1) g := by
  obtain ⟨e1, e2, e3⟩ := mul_a ha
  refine ⟨fun q hq => ?_, fun q hq h1 => ?_⟩
  · by_cases hqt : q = t
    · subst hqt; rw [← ha]; exact so
    · have hm : 2 * s * (q + 1) ≤ 2 * s * t := Nat.mul_le_mul_left _ (by omega)
      rw [Nat.mul_add, Nat.mul_one] at hm
      exact p.sort_out (h.1 q (by omega)) (.inl (by omega))
  · have hm : s * (2 * t + 2) ≤ s * q := Nat.mul_le_mul_left _ (by omega)
    have e4 : s * (2 * t + 2) = a + 2 * s := by rw [Nat.mul_add]; omega
    exact p.sort_out (h.2 q (by omega) h1) (.inr (by omega))
theorem HalfS.done {s n t a : Nat} {f g : Nat → Nat} (h : HalfS s n t f) (ha : a = 2 * s * t) (han : n < a + 2 * s) (hal : a ≤ n) (p : PermOn a n f g) (so : SortOn a n g) : BlkS (s * 2) n g := by
  intro q hq
  have e0 : s * 2 * q = 2 * s * q := by rw [Nat.mul_comm s 2]
  rw [e0] at hq ⊢
  by_cases hqt : q < t
  · have hm : 2 * s * (q + 1) ≤ 2 * s * t := Nat.mul_le_mul_left _ (by omega)
    rw [Nat.mul_add, Nat.mul_one] at hm
    rw [show min (2 * s * q + s * 2) n = 2 * s * q + 2 * s by omega]
    exact p.sort_out (h.1 q hqt) (.inl (by omega))
  · by_cases hqe : q = t
    · subst hqe
      rw [← ha, show min (a + s * 2) n = n by omega]
      exact so
    · have hm : 2 * s * (t + 1) ≤ 2 * s * q := Nat.mul_le_mul_left _ (by omega)
      obtain ⟨e1, e2, e3⟩ := mul_a ha
      omega
theorem BlkS.all {s n : Nat} {f : Nat → Nat} (h : BlkS s n f) (hs : n ≤ s) : SortOn 0 n f := by
  intro i j h1 h2 h3
  have := h 0 (by omega)
  rw [Nat.mul_zero, Nat.zero_add, show min s n = n by omega] at this
  exact this i j h1 h2 h3
/-- The first k stretches of 20 are in order. -/
def First (k : Nat) (f : Nat → Nat) : Prop := ∀ q, q < k → SortOn (20 * q) (20 * q + 20) f
theorem First.step {k : Nat} {f g : Nat → Nat} (h : First k f) (p : PermOn (20 * k) (20 * k + 20) f g) (so : SortOn (20 * k) (20 * k + 20) g) : First (k + 1) g := by
  intro q hq
  by_cases e : q = k
  · subst e; exact so
  · exact p.sort_out (h q (by omega)) (.inl (by omega))
theorem First.done {k n : Nat} {f g : Nat → Nat} (h : First k f) (hk : 20 * k ≤ n) (hk2 : n < 20 * k + 20) (p : PermOn (20 * k) n f g) (so : SortOn (20 * k) n g) : BlkS 20 n g := by
  intro q hq
  by_cases e : q < k
  · rw [show min (20 * q + 20) n = 20 * q + 20 by omega]; exact p.sort_out (h q e) (.inl (by omega))
  · obtain rfl : q = k := by omega
    rw [show min (20 * q + 20) n = n by omega]; exact so

def StbIs (w0 : World) (g n : Nat) (f : Nat → Nat) (e : Ending) (w' : World) : Prop := e = .returned (.tuple #[]) ∧ ∃ f', Ss w0 g n f' w' ∧ PermOn 0 n f f' ∧ SortOn 0 n f'

set_option maxRecDepth 8000 in
set_option maxHeartbeats 6400000 in
theorem iStb {w0 W : World} {g n cap : Nat} {f : Nat → Nat} (hs : Ss w0 g n f W) (hl : Lk w0) (hn : n ≤ 200) :
    Calls Tryd.prog 69 #[.slice (some ⟨g, 0, none⟩) n cap, .int .i64 (n : Int), cmpF] W (StbIs w0 g n f) := by
  have HS := Lib.hid hs
  have HL := Lib.hid hl
  clear hs hl
  go_enter Tryd.func69, Tryd.ntmps69
  go_wp2
  go_loopw [7, 8] (fun x y wr => ∃ (k : Nat) (f1 : Nat → Nat), 20 * k ≤ n ∧ x = .int .i64 ((20 * k : Nat) : Int) ∧ y = .int .i64 ((20 * k + 20 : Nat) : Int) ∧ Hid (Ss w0 g n f1 wr ∧ PermOn 0 n f f1 ∧ First k f1)) (fun x _ _ => n - (intOf x).toNat)
  case atStart => exact ⟨0, f, by omega, rfl, rfl, HS.out, PermOn.refl _ _ _, fun q hq => by omega⟩
  case round =>
    rename_i wr
    clear HS
    obtain ⟨k, f1, hk, rfl, rfl, HS⟩ := hrel
    obtain ⟨a, ha⟩ : ∃ a, a = 20 * k := ⟨_, rfl⟩
    obtain ⟨b, hb⟩ : ∃ b, b = a + 20 := ⟨_, rfl⟩
    rw [← ha, ← hb]
    by_cases hlt : b ≤ n
    · have d1 : decide ((b : Int) ≤ (n : Int)) = true := decide_eq_true (by omega)
      have HC := Lib.hid (iIns (cap := cap) HS.out.1 HL.out (show a ≤ b by omega) hlt hn)
      have HAB := Lib.hid (And.intro ha hb)
      have hbx : b ≤ 220 := by omega
      clear ha hb
      go_wp2_with (go_at_call 83; (with_reducible refine HC.out.mono ?_); rintro e w1 ⟨rfl, f2, hs, hp, hso⟩; have HF := Lib.hid (show Ss w0 g n f2 w1 ∧ PermOn 0 n f f2 ∧ First (k + 1) f2 from ⟨hs, HS.out.2.1.trans (hp.mono (Nat.zero_le _) hlt), by have h1 := HAB.out.1; have h2 := HAB.out.2; subst h1; subst h2; exact HS.out.2.2.step hp hso⟩); clear hs hp hso)
      go_roundw
      case rel => have h1 := HAB.out; exact ⟨k + 1, f2, by omega, congrArg (Value.int .i64) (by omega), congrArg (Value.int .i64) (by omega), HF.out⟩
      case measure => have h1 := HAB.out; simp only [intOf, Int.toNat_natCast]; omega
    · have d1 : decide ((b : Int) ≤ (n : Int)) = false := decide_eq_false (by omega)
      have HC := Lib.hid (iIns (cap := cap) HS.out.1 HL.out (show a ≤ n by omega) (Nat.le_refl _) hn)
      have HAB := Lib.hid (And.intro ha hb)
      have HK := Lib.hid hk
      clear ha hb hk
      go_upto_region 7 with (go_at_call 83; (with_reducible refine HC.out.mono ?_); rintro e w1 ⟨rfl, f2, hs, hp, hso⟩; have HF := Lib.hid (show Ss w0 g n f2 w1 ∧ PermOn 0 n f f2 ∧ BlkS 20 n f2 from ⟨hs, HS.out.2.1.trans (hp.mono (Nat.zero_le _) (Nat.le_refl _)), by have h1 := HAB.out.1; have h2 := HAB.out.2; have h3 := HK.out; subst h1; exact HS.out.2.2.done h3 (by omega) hp hso⟩); clear hs hp hso)
      clear HC HAB HK hlt d1 HS
      go_loopw [6] (fun x wr => ∃ (s : Nat) (f2 : Nat → Nat), 0 < s ∧ s ≤ 400 ∧ x = .int .i64 (s : Int) ∧ Hid (Ss w0 g n f2 wr ∧ PermOn 0 n f f2 ∧ BlkS s n f2)) (fun x _ => n - (intOf x).toNat)
      case atStart => exact ⟨20, f2, by omega, by omega, rfl, HF.out⟩
      case round =>
        rename_i wr
        clear HF
        obtain ⟨s, f2, hs0, hs4, rfl, HF⟩ := hrel
        by_cases hlt2 : s < n
        · have d1 : decide ((s : Int) < (n : Int)) = true := decide_eq_true (by omega)
          have HG0 := Lib.hid (show Ss w0 g n f2 wr ∧ PermOn 0 n f f2 ∧ HalfS s n 0 f2 from ⟨HF.out.1, HF.out.2.1, HalfS.start HF.out.2.2⟩)
          clear HF
          go_wp2
          go_loopw [7, 8] (fun x y wr => ∃ (t a : Nat) (f3 : Nat → Nat), a ≤ n ∧ x = .int .i64 (a : Int) ∧ y = .int .i64 ((a + 2 * s : Nat) : Int) ∧ Hid (a = 2 * s * t ∧ Ss w0 g n f3 wr ∧ PermOn 0 n f f3 ∧ HalfS s n t f3)) (fun x _ _ => n - (intOf x).toNat)
          case atStart => exact ⟨0, 0, f2, by omega, rfl, congrArg (Value.int .i64) (by omega), rfl, HG0.out⟩
          case round =>
            rename_i wr
            clear HG0
            obtain ⟨t, a, f3, han, rfl, rfl, HG⟩ := hrel
            obtain ⟨b, hb⟩ : ∃ b, b = a + 2 * s := ⟨_, rfl⟩
            rw [← hb]
            have HBB := Lib.hid hb
            have hpre := HG.out.2.2.2.pre HG.out.1 hs0
            by_cases hbn : b ≤ n
            · have d2 : decide ((b : Int) ≤ (n : Int)) = true := decide_eq_true (by omega)
              have HC := Lib.hid (iSym (cap := cap) HL.out hn n wr f3 a (a + s) b (by omega) (by omega) (by omega) hbn HG.out.2.1 (by have h := hpre.1 (by omega); rwa [show min (a + s) n = a + s by omega] at h) (by have h := hpre.2 (by omega); rwa [show min (a + s + s) n = b by omega] at h))
              rw [Int.natCast_add] at HC
              have hbx : b ≤ 200 := by omega
              clear hb hpre
              go_wp2_with (go_at_call 84; (with_reducible refine HC.out.mono ?_); rintro e w2 ⟨rfl, f4, hs, hp, hso⟩; have HN := Lib.hid (show b = 2 * s * (t + 1) ∧ Ss w0 g n f4 w2 ∧ PermOn 0 n f f4 ∧ HalfS s n (t + 1) f4 from ⟨by rw [(mul_a HG.out.1).2.2]; exact HBB.out, hs, HG.out.2.2.1.trans (hp.mono (Nat.zero_le _) hbn), by have h := HBB.out; subst h; exact HG.out.2.2.2.step HG.out.1 hp hso⟩); clear hs hp hso)
              go_roundw
              case rel => exact ⟨t + 1, b, f4, hbn, rfl, congrArg (Value.int .i64) (by omega), HN.out⟩
              case measure => have h := HBB.out; simp only [intOf, Int.toNat_natCast]; omega
            · have d2 : decide ((b : Int) ≤ (n : Int)) = false := decide_eq_false (by omega)
              by_cases hmn : a + s < n
              · have d3 : decide ((a : Int) + (s : Int) < (n : Int)) = true := decide_eq_true (by omega)
                have HC := Lib.hid (iSym (cap := cap) HL.out hn n wr f3 a (a + s) n (by omega) (by omega) hmn (Nat.le_refl _) HG.out.2.1 (by have h := hpre.1 (by omega); rwa [show min (a + s) n = a + s by omega] at h) (by have h := hpre.2 hmn; rwa [show min (a + s + s) n = n by omega] at h))
                rw [Int.natCast_add] at HC
                clear hb hpre
                go_wp2_with (go_at_call 84; (with_reducible refine HC.out.mono ?_); rintro e w2 ⟨rfl, f4, hs, hp, hso⟩; have HN := Lib.hid (show Ss w0 g n f4 w2 ∧ PermOn 0 n f f4 ∧ BlkS (s * 2) n f4 from ⟨hs, HG.out.2.2.1.trans (hp.mono (Nat.zero_le _) (Nat.le_refl _)), HG.out.2.2.2.done HG.out.1 (by have h := HBB.out; omega) (by omega) hp hso⟩); clear hs hp hso)
                go_roundw
                case rel => exact ⟨s * 2, f4, by omega, by omega, congrArg (Value.int .i64) (by omega), HN.out⟩
                case measure => first | (simp only [intOf, Int.toNat_natCast]; omega) | (simp [intOf]; omega)
              · have d3 : decide ((a : Int) + (s : Int) < (n : Int)) = false := decide_eq_false (by omega)
                have HN := Lib.hid (show Ss w0 g n f3 wr ∧ PermOn 0 n f f3 ∧ BlkS (s * 2) n f3 from ⟨HG.out.2.1, HG.out.2.2.1, HG.out.2.2.2.done HG.out.1 (by omega) (by omega) (PermOn.refl _ _ _) (by
                  by_cases h0 : a < n
                  · have h := hpre.1 h0; rwa [show min (a + s) n = n by omega] at h
                  · intro i j h1 h2 h3; omega)⟩)
                clear hb hpre
                go_wp2
                go_roundw
                case rel => exact ⟨s * 2, f3, by omega, by omega, congrArg (Value.int .i64) (by omega), HN.out⟩
                case measure => first | (simp only [intOf, Int.toNat_natCast]; omega) | (simp [intOf]; omega)
        · have d1 : decide ((s : Int) < (n : Int)) = false := decide_eq_false (by omega)
          have HN := Lib.hid (show ∃ f', Ss w0 g n f' wr ∧ PermOn 0 n f f' ∧ SortOn 0 n f' from ⟨f2, HF.out.1, HF.out.2.1, HF.out.2.2.all (by omega)⟩)
          go_wp2
          refine bodyPost_end (results_none rfl _ _ _) rfl ⟨rfl, HN.out⟩

theorem iSsf {w0 W : World} {g n cap : Nat} {f : Nat → Nat} (hs : Ss w0 g n f W) (hl : Lk w0) (hn : n ≤ 200) :
    Calls Tryd.prog 56 #[.slice (some ⟨g, 0, none⟩) n cap, cmpF] W (StbIs w0 g n f) := by
  have HC := Lib.hid (iStb (cap := cap) hs hl hn)
  clear hs hl hn
  go_enter Tryd.func56, Tryd.ntmps56
  go_wp2_with (go_at_call 69; (with_reducible refine HC.out.mono ?_); rintro e w1 ⟨rfl, hf⟩; have HF := Lib.hid hf; clear hf)
  refine bodyPost_end (results_none rfl _ _ _) rfl ⟨rfl, HF.out⟩
end Go.Proofs.YtmjnnjjmfedlbaaDoor
