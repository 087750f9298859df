/-
  Plain laws of sums, products and negations of words, as FnPairs asks them.
-/
import Derived.Test.YthoajaibaedjeaaEx
namespace Go.Fl
set_option linter.unusedSimpArgs false
set_option linter.unusedVariables false
open Go

theorem cop_mul_comm (x y : Nat) : cop .mul x y = cop .mul y x := by unfold cop; rw [fmul_comm]
theorem cop_add_comm (x y : Nat) : cop .add x y = cop .add y x := by unfold cop; rw [fadd_comm]
theorem mulP_comm (x y : Nat × Nat) : mulP x y = mulP y x := by
  unfold mulP
  rw [cop_mul_comm x.1 y.1, cop_mul_comm x.2 y.2, cop_mul_comm x.1 y.2, cop_mul_comm x.2 y.1, cop_add_comm]
theorem sumP_comm (x y : Nat × Nat) : sumP x y = sumP y x := by
  unfold sumP
  rw [cop_add_comm x.1, cop_add_comm x.2]

theorem nearest_opp (s : Bool) (m : Nat) (p : Int) : Ieee.double.nearest (!s) m p = Op.negFloat .f64 (Ieee.double.nearest s m p) := by
  unfold Ieee.Format.nearest
  dsimp only
  split
  · rw [negFloat_word _ _ (by decide)]
  · rw [cut_rne, cut_rne, negFloat_word]
    have hinf : Ieee.double.infRung = 2047 * 2 ^ 52 := rfl
    rw [hinf]
    omega
theorem write_opp {d : Ieee.Datum} (h : d.isNaN = false) : Ieee.double.write d.opposite = Op.negFloat .f64 (Ieee.double.write d) := by
  cases d with
  | number s m p => exact nearest_opp s m p
  | infinity s => exact (negFloat_word s Ieee.double.infRung (by decide)).symm
  | nan s t => cases h
theorem product_nan {a b d : Ieee.Datum} (h : a.product b = some d) : d.isNaN = false := by
  cases a <;> cases b <;> simp only [Ieee.Datum.product] at h <;> (try split at h) <;> (first | (cases h; rfl) | cases h)
theorem product_opp (a b : Ieee.Datum) : a.product b.opposite = (a.product b).map Ieee.Datum.opposite := by
  cases a <;> cases b <;> simp only [Ieee.Datum.product, Ieee.Datum.opposite, Option.map] <;> (try split) <;> simp
theorem mul_neg_r (a b : Nat) : feq (cop .mul a (Op.negFloat .f64 b)) (Op.negFloat .f64 (cop .mul a b)) := by
  have h1 : floatBits .mul .f64 a (Op.negFloat .f64 b) = ((Ieee.double.read a).product (Ieee.double.read (Op.negFloat .f64 b))).map Ieee.double.write := rfl
  have h2 : floatBits .mul .f64 a b = ((Ieee.double.read a).product (Ieee.double.read b)).map Ieee.double.write := rfl
  rw [read_opp, product_opp] at h1
  unfold cop
  rw [h1, h2]
  cases hp : (Ieee.double.read a).product (Ieee.double.read b) with
  | none => exact .inr ⟨isNan_qnan, by rw [isNan_neg]; exact isNan_qnan⟩
  | some d => exact .inl (write_opp (product_nan hp))
theorem mul_neg_l (a b : Nat) : feq (cop .mul (Op.negFloat .f64 a) b) (Op.negFloat .f64 (cop .mul a b)) := by
  rw [cop_mul_comm, cop_mul_comm a]; exact mul_neg_r b a
theorem neg_neg (x : Nat) : Op.negFloat .f64 (Op.negFloat .f64 x) = x := by
  rw [negFloat_def, negFloat_def, Nat.xor_assoc, Nat.xor_self, Nat.xor_zero]
theorem mul_neg_neg (a b : Nat) : feq (cop .mul (Op.negFloat .f64 a) (Op.negFloat .f64 b)) (cop .mul a b) := by
  have h := feq_neg (mul_neg_l a b)
  rw [neg_neg] at h
  exact (mul_neg_r _ _).trans h

theorem signed_opp (s : Bool) (m u : Nat) : Ieee.signed (!s) m u = - Ieee.signed s m u := by
  cases s <;> simp [Ieee.signed]
theorem zero_eq (s t : Bool) : ford (Op.negFloat .f64 (Ieee.double.word s 0)) (Ieee.double.word t 0) = some .eq := by
  cases s <;> cases t <;> decide
theorem add_neg (u v : Nat) (h : isNan (cop .add u v) = false) : ford (Op.negFloat .f64 (cop .add u v)) (cop .add (Op.negFloat .f64 u) (Op.negFloat .f64 v)) = some .eq := by
  have h1 : floatBits .add .f64 (Op.negFloat .f64 u) (Op.negFloat .f64 v) = ((Ieee.double.read (Op.negFloat .f64 u)).sum (Ieee.double.read (Op.negFloat .f64 v))).map Ieee.double.write := rfl
  have h2 : floatBits .add .f64 u v = ((Ieee.double.read u).sum (Ieee.double.read v)).map Ieee.double.write := rfl
  rw [read_opp, read_opp] at h1
  have hself : ford (Op.negFloat .f64 (cop .add u v)) (Op.negFloat .f64 (cop .add u v)) = some .eq := ford_self (by rw [isNan_neg]; exact h)
  have key : (cop .add (Op.negFloat .f64 u) (Op.negFloat .f64 v) = Op.negFloat .f64 (cop .add u v)) ∨ (∃ s t, cop .add u v = Ieee.double.word s 0 ∧ cop .add (Op.negFloat .f64 u) (Op.negFloat .f64 v) = Ieee.double.word t 0) := by
    have hq : cop .add u v ≠ qnan := by intro e; rw [e, isNan_qnan] at h; cases h
    unfold cop at hq ⊢
    rw [h1, h2]
    rw [h2] at hq
    clear h1 h2 h hself
    generalize Ieee.double.read u = a at *
    generalize Ieee.double.read v = b at *
    cases a with
    | nan s t => exact absurd (by cases b <;> rfl) hq
    | infinity s =>
      cases b with
      | nan s t => exact absurd rfl hq
      | infinity t =>
        by_cases hst : s = t
        · subst hst
          left
          simp only [Ieee.Datum.sum, Ieee.Datum.opposite, if_true, Option.map]
          exact write_opp (d := .infinity s) rfl
        · exact absurd (by simp [Ieee.Datum.sum, hst]) hq
      | number t n j => left; exact write_opp (d := .infinity s) rfl
    | number s m i =>
      cases b with
      | nan s t => exact absurd rfl hq
      | infinity t => left; exact write_opp (d := .infinity t) rfl
      | number t n j =>
        clear hq
        simp only [Ieee.Datum.sum, Ieee.Datum.opposite, Option.map, signed_opp]
        generalize Ieee.signed s m (i - min i j).toNat = p
        generalize Ieee.signed t n (j - min i j).toNat = q
        by_cases h0 : p + q = 0
        · right
          have h0' : -p + -q = 0 := by omega
          rw [h0, h0']
          exact ⟨_, _, rfl, rfl⟩
        · left
          have h0' : ¬ -p + -q = 0 := by omega
          have hn : (-p + -q).natAbs = (p + q).natAbs := by omega
          have hd : decide (-p + -q < 0) = !decide (p + q < 0) := by
            by_cases hl : p + q < 0
            · rw [decide_eq_true hl, decide_eq_false (by omega)]; rfl
            · rw [decide_eq_false hl, decide_eq_true (by omega)]; rfl
          rw [if_neg h0, if_neg h0', hn, hd]
          exact nearest_opp _ _ _
  rcases key with e | ⟨s, t, e1, e2⟩
  · rw [e]; exact hself
  · rw [e1, e2]; exact zero_eq s t

theorem sub_self_cases (a : Nat) : floatBits .sub .f64 a a = some 0 ∨ floatBits .sub .f64 a a = none := by
  have h2 : floatBits .sub .f64 a a = ((Ieee.double.read a).sum (Ieee.double.read a).opposite).map Ieee.double.write := rfl
  rw [h2]
  clear h2
  cases Ieee.double.read a with
  | nan s t => right; rfl
  | infinity s => right; cases s <;> rfl
  | number s m i =>
    left
    simp only [Ieee.Datum.sum, Ieee.Datum.opposite, Option.map, signed_opp]
    have h0 : Ieee.signed s m (i - min i i).toNat + -Ieee.signed s m (i - min i i).toNat = 0 := by omega
    rw [h0]
    cases s <;> rfl

theorem feq_num {x y : Nat} (h : feq x y) (hn : isNan y = false) : x = y := by
  rcases h with h | ⟨_, h⟩
  · exact h
  · rw [hn] at h; cases h
theorem feq_nan {x y : Nat} (h : feq x y) : isNan x = isNan y := by
  rcases h with rfl | ⟨h1, h2⟩
  · rfl
  · rw [h1, h2]

/-- Bar of a product stands equal to the product of Bars, where it is no NaN. -/
theorem bar_mul {a b p q r : Nat × Nat} (hp : peq p (mulP a b)) (hq : peq q (barP p)) (hr : peq r (mulP (barP a) (barP b))) (h1 : isNan q.1 = false) (h2 : isNan q.2 = false) :
    (ford q.1 r.1 == some .eq && ford q.2 r.2 == some .eq) = true := by
  obtain ⟨p0, p1⟩ := hp
  obtain ⟨q0, q1⟩ := hq
  obtain ⟨r0, r1⟩ := hr
  have q0 : feq q.1 p.1 := q0
  have q1 : feq q.2 (Op.negFloat .f64 p.2) := q1
  have e0 : feq r.1 p.1 := by
    refine r0.trans ((feq.trans (.inl (cop_of ?_ ?_)) p0.symm))
    · exact feq.refl _
    · exact mul_neg_neg _ _
  have e1 : feq r.2 (cop .add (Op.negFloat .f64 (cop .mul a.1 b.2)) (Op.negFloat .f64 (cop .mul a.2 b.1))) := by
    refine r1.trans (.inl (cop_of ?_ ?_))
    · exact mul_neg_r _ _
    · exact mul_neg_l _ _
  have n1 : isNan p.1 = false := by rw [← feq_nan q0]; exact h1
  have p1 : feq p.2 (cop .add (cop .mul a.1 b.2) (cop .mul a.2 b.1)) := p1
  have n2 : isNan (cop .add (cop .mul a.1 b.2) (cop .mul a.2 b.1)) = false := by
    rw [← feq_nan p1, ← isNan_neg, ← feq_nan q1]; exact h2
  have f0 : ford q.1 r.1 = some .eq := by rw [ford_feq q0 e0]; exact ford_self n1
  have f1 : ford q.2 r.2 = some .eq := by
    rw [ford_feq (q1.trans (feq_neg p1)) e1]
    exact add_neg _ _ n2
  rw [f0, f1]; rfl

set_option maxRecDepth 4000 in
theorem i_square : mulP (0, 4607182418800017408) (0, 4607182418800017408) = (13830554455654793216, 0) := by decide
end Go.Fl
