/-
  Plain laws on float64 words, as the model has them: what an operation gives (one word, or some NaN), equal words, the sign, the order, sums and products whichever stands first. No condition.
-/
import Derived.WalkKit
import Derived.WalkLawsBesides
import Derived.Deep.Draws
import Derived.Below
namespace Go.Fl
open Go Go.RowKit

/-- A word that stands for no number. -/
def isNan (x : Nat) : Bool := (Ieee.double.read x).isNaN

/-- Two words that a program cannot tell apart: the same one, or both NaNs. -/
def feq (x y : Nat) : Prop := x = y ∨ (isNan x = true ∧ isNan y = true)

theorem feq.refl (x : Nat) : feq x x := .inl rfl
theorem feq.symm {x y : Nat} (h : feq x y) : feq y x := by
  rcases h with h | ⟨a, b⟩
  · exact .inl h.symm
  · exact .inr ⟨b, a⟩
theorem feq.trans {x y z : Nat} (h : feq x y) (g : feq y z) : feq x z := by
  rcases h with rfl | ⟨a, b⟩
  · exact g
  · rcases g with rfl | ⟨c, d⟩
    · exact .inr ⟨a, b⟩
    · exact .inr ⟨a, d⟩

/-- What an operation on floats gives: its word, or some NaN's. -/
def FRes (o : Option Nat) (r : Nat) : Prop := match o with
  | some b => r = b
  | none => isNan r = true

def nanAt (x y : Nat) (w : World) : Nat := (Question.nanBits .f64 x y).cut (w.tape w.drawn (.nanBits .f64 x y))

def fres (op : BinOp) (x y : Nat) (w : World) : Nat := match floatBits op .f64 x y with
  | some r => r
  | none => nanAt x y w

def fdr (op : BinOp) (x y : Nat) : Nat := match floatBits op .f64 x y with
  | some _ => 0
  | none => 1

theorem isNan_rung (x : Nat) : isNan x = decide (2047 * 2 ^ 52 < x % 2 ^ 63) := by
  unfold isNan Ieee.Format.read
  have h1 : Ieee.double.binade = 2 ^ 52 := rfl
  have h2 : Ieee.double.infRung = 2047 * 2 ^ 52 := rfl
  have h3 : Ieee.double.signWeight = 2 ^ 63 := rfl
  rw [h1, h2, h3]
  dsimp only
  split
  · simp only [Ieee.Datum.isNaN]; symm; rw [decide_eq_false_iff_not]; omega
  · split
    · simp only [Ieee.Datum.isNaN]; symm; rw [decide_eq_false_iff_not]; omega
    · split
      · simp only [Ieee.Datum.isNaN]; symm; rw [decide_eq_false_iff_not]; omega
      · simp only [Ieee.Datum.isNaN]; symm; rw [decide_eq_true_iff]; omega

theorem nanAt_isNan (x y : Nat) (w : World) : isNan (nanAt x y w) = true := by
  unfold nanAt
  simp only [Question.cut]
  rw [isNan_rung, decide_eq_true_iff]
  generalize w.tape w.drawn (Question.nanBits .f64 x y) = t
  have h1 := Nat.mod_lt (t / 2) (show 2 ^ 52 - 1 > 0 by decide)
  rcases Nat.mod_two_eq_zero_or_one t with h | h <;> rw [h] <;> omega

theorem nanAt_lt (x y : Nat) (w : World) : nanAt x y w < 2 ^ 64 := by
  unfold nanAt
  simp only [Question.cut]
  omega

theorem fres_spec (op : BinOp) (x y : Nat) (w : World) : FRes (floatBits op .f64 x y) (fres op x y w) := by
  unfold FRes fres
  cases h : floatBits op .f64 x y with
  | some r => rfl
  | none => exact nanAt_isNan x y w

theorem fres_lt (op : BinOp) (x y : Nat) (w : World) : fres op x y w < 2 ^ 64 := by
  unfold fres
  cases h : floatBits op .f64 x y with
  | some r =>
    have := floatBits_wf h
    simp only [Lit.wf, decide_eq_true_eq] at this
    exact this
  | none => exact nanAt_lt x y w

theorem run_nan {P : Program} {w : World} (x y : Nat) : (choose (.nanBits .f64 x y)).run P w = .ok (nanAt x y w) w.drew := by
  rw [run_choose_drew]; rfl

@[go_sem] theorem run_store_float (P : Program) (w : World) (a : Addr) (m : Mode) (k : FloatKind) (n : Nat) : (store a (.float k n) m).run P w = stored P w a (.float k n) m := run_store P w a _ m rfl

@[go_sem] theorem run_fneg (P : Program) (w : World) (k : FloatKind) (b : Nat) : (Op.unary .neg (.float k b)).run P w = .ok (.float k (Op.negFloat k b)) w := rfl

section
variable {P : Program} (w : World) (t : TypeId) (x y : Nat)
theorem run_farith {op : BinOp} (ho : op = .add ∨ op = .sub ∨ op = .mul ∨ op = .quo) :
    (binOp op t (.float .f64 x) (.float .f64 y)).run P w = .ok (.float .f64 (fres op x y w)) (w.drewN (fdr op x y)) := by
  cases h : floatBits op .f64 x y with
  | some r =>
    rw [run_float_arith w op t .f64 x y r h]
    simp only [fres, fdr, h]
    rfl
  | none =>
    unfold floatBits at h
    have hr : (binOp op t (.float .f64 x) (.float .f64 y)).run P w = .ok (.float .f64 (nanAt x y w)) w.drew := by
      rcases ho with rfl | rfl | rfl | rfl <;> simp only at h <;> simp [binOp, Op.floatArith, h, nanAt, Question.forced]
    rw [hr]
    have h' : floatBits op .f64 x y = none := h
    simp only [fres, fdr, h']
    rfl
@[go_sem] theorem run_fadd : (binOp .add t (.float .f64 x) (.float .f64 y)).run P w = .ok (.float .f64 (fres .add x y w)) (w.drewN (fdr .add x y)) := run_farith w t x y (.inl rfl)
@[go_sem] theorem run_fsub : (binOp .sub t (.float .f64 x) (.float .f64 y)).run P w = .ok (.float .f64 (fres .sub x y w)) (w.drewN (fdr .sub x y)) := run_farith w t x y (.inr (.inl rfl))
@[go_sem] theorem run_fmul : (binOp .mul t (.float .f64 x) (.float .f64 y)).run P w = .ok (.float .f64 (fres .mul x y w)) (w.drewN (fdr .mul x y)) := run_farith w t x y (.inr (.inr (.inl rfl)))
@[go_sem] theorem run_fquo : (binOp .quo t (.float .f64 x) (.float .f64 y)).run P w = .ok (.float .f64 (fres .quo x y w)) (w.drewN (fdr .quo x y)) := run_farith w t x y (.inr (.inr (.inr rfl)))
end
theorem isNan_read {x : Nat} (h : isNan x = true) : ∃ s t, Ieee.double.read x = .nan s t := by
  unfold isNan at h
  cases hr : Ieee.double.read x with
  | number s m e => rw [hr] at h; cases h
  | infinity s => rw [hr] at h; cases h
  | nan s t => exact ⟨s, t, rfl⟩

def IsOp (op : BinOp) : Prop := op = .add ∨ op = .sub ∨ op = .mul ∨ op = .quo

theorem op_nan_left {op : BinOp} {x : Nat} (h : isNan x = true) (y : Nat) : floatBits op .f64 x y = none := by
  obtain ⟨s, t, hr⟩ := isNan_read h
  cases op <;> simp only [floatBits, Ieee.Format.add, Ieee.Format.sub, Ieee.Format.mul, Ieee.Format.div, FloatKind.format, hr] <;> rfl

theorem op_nan_right {op : BinOp} {y : Nat} (h : isNan y = true) (x : Nat) : floatBits op .f64 x y = none := by
  obtain ⟨s, t, hr⟩ := isNan_read h
  cases op <;> simp only [floatBits, Ieee.Format.add, Ieee.Format.sub, Ieee.Format.mul, Ieee.Format.div, FloatKind.format, hr] <;>
    cases Ieee.double.read x <;> rfl

theorem feq_fres (op : BinOp) {x x' y y' : Nat} (hx : feq x x') (hy : feq y y') (w w' : World) : feq (fres op x y w) (fres op x' y' w') := by
  have key : floatBits op .f64 x y = floatBits op .f64 x' y' := by
    rcases hx with rfl | ⟨a, b⟩
    · rcases hy with rfl | ⟨c, d⟩
      · rfl
      · rw [op_nan_right c, op_nan_right d]
    · rw [op_nan_left a, op_nan_left b]
  have h1 := fres_spec op x y w
  have h2 := fres_spec op x' y' w'
  rw [← key] at h2
  unfold FRes at h1 h2
  cases h : floatBits op .f64 x y with
  | some r => rw [h] at h1 h2; exact .inl (h1.trans h2.symm)
  | none => rw [h] at h1 h2; exact .inr ⟨h1, h2⟩


/-! ### the sign -/
theorem negFloat_def (x : Nat) : Op.negFloat .f64 x = x ^^^ 2 ^ 63 := rfl

theorem negFloat_mod (x : Nat) : Op.negFloat .f64 x % 2 ^ 63 = x % 2 ^ 63 := by
  rw [negFloat_def, Nat.xor_mod_two_pow, Nat.mod_self, Nat.xor_zero]

theorem negFloat_div (x : Nat) : Op.negFloat .f64 x / 2 ^ 63 % 2 = 1 - x / 2 ^ 63 % 2 := by
  rw [negFloat_def, Nat.xor_div_two_pow, Nat.div_self (by decide)]
  have h := @Nat.xor_mod_two_eq_one (x / 2 ^ 63) 1
  have h1 := Nat.mod_two_eq_zero_or_one (x / 2 ^ 63)
  have h2 := Nat.mod_two_eq_zero_or_one (x / 2 ^ 63 ^^^ 1)
  rcases h1 with h1 | h1 <;> rcases h2 with h2 | h2 <;> simp_all

theorem negFloat_lt (x : Nat) (h : x < 2 ^ 64) : Op.negFloat .f64 x < 2 ^ 64 := by
  rw [negFloat_def]; exact Nat.xor_lt_two_pow h (by decide)

theorem read_opp (x : Nat) : Ieee.double.read (Op.negFloat .f64 x) = (Ieee.double.read x).opposite := by
  unfold Ieee.Format.read
  have h3 : Ieee.double.signWeight = 2 ^ 63 := rfl
  rw [h3, negFloat_mod, negFloat_div]
  have hb : ((1 - x / 2 ^ 63 % 2) == 1) = !(x / 2 ^ 63 % 2 == 1) := by
    rcases Nat.mod_two_eq_zero_or_one (x / 2 ^ 63) with h | h <;> rw [h] <;> rfl
  rw [hb]
  dsimp only
  split
  · rfl
  · split
    · rfl
    · split <;> rfl

theorem isNan_neg (x : Nat) : isNan (Op.negFloat .f64 x) = isNan x := by
  unfold isNan; rw [read_opp]; cases Ieee.double.read x <;> rfl

theorem feq_neg {x y : Nat} (h : feq x y) : feq (Op.negFloat .f64 x) (Op.negFloat .f64 y) := by
  rcases h with rfl | ⟨a, b⟩
  · exact .inl rfl
  · exact .inr ⟨by rw [isNan_neg]; exact a, by rw [isNan_neg]; exact b⟩

/-! ### the order of two words -/
abbrev ford (x y : Nat) : Option Ordering := FloatKind.f64.format.order x y

theorem ford_self {x : Nat} (h : isNan x = false) : ford x x = some .eq := by
  unfold isNan at h
  unfold ford
  show Ieee.Datum.order (Ieee.double.read x) (Ieee.double.read x) = _
  cases hr : Ieee.double.read x with
  | number s m e => simp [Ieee.Datum.order]
  | infinity s => simp [Ieee.Datum.order]
  | nan s t => rw [hr] at h; cases h

theorem ford_nan_left {x : Nat} (h : isNan x = true) (y : Nat) : ford x y = none := by
  obtain ⟨s, t, hr⟩ := isNan_read h
  show Ieee.Datum.order (Ieee.double.read x) (Ieee.double.read y) = _
  rw [hr]; rfl

theorem ford_nan_right {y : Nat} (h : isNan y = true) (x : Nat) : ford x y = none := by
  obtain ⟨s, t, hr⟩ := isNan_read h
  show Ieee.Datum.order (Ieee.double.read x) (Ieee.double.read y) = _
  rw [hr]; cases Ieee.double.read x <;> rfl

theorem ford_feq {x x' y y' : Nat} (hx : feq x x') (hy : feq y y') : ford x y = ford x' y' := by
  rcases hx with rfl | ⟨a, b⟩
  · rcases hy with rfl | ⟨c, d⟩
    · rfl
    · rw [ford_nan_right c, ford_nan_right d]
  · rw [ford_nan_left a, ford_nan_left b]

/-- 'x != x' asks whether x is a NaN. -/
theorem ford_self_eq (x : Nat) : (ford x x == some .eq) = !isNan x := by
  cases h : isNan x with
  | false => rw [ford_self h]; rfl
  | true => rw [ford_nan_left h]; rfl

theorem ford_self_ne (x : Nat) : (ford x x != some .eq) = isNan x := by
  cases h : isNan x with
  | false => rw [ford_self h]; rfl
  | true => rw [ford_nan_left h]; rfl

/-! ### sums and products whichever stands first -/
theorem sum_comm (a b : Ieee.Datum) : a.sum b = b.sum a := by
  cases a <;> cases b <;> simp only [Ieee.Datum.sum]
  · rename_i s m i t n j
    rw [Int.min_comm i j]
    simp only [Int.add_comm, Bool.and_comm]
  · rename_i s t
    by_cases h : s = t
    · subst h; simp
    · have h' : ¬ t = s := fun e => h e.symm
      simp [h, h']

theorem product_comm (a b : Ieee.Datum) : a.product b = b.product a := by
  cases a <;> cases b <;> simp only [Ieee.Datum.product, Bool.xor_comm, Nat.mul_comm, Int.add_comm]

theorem fadd_comm (x y : Nat) : floatBits .add .f64 x y = floatBits .add .f64 y x := by
  show (Ieee.Datum.sum _ _).map _ = (Ieee.Datum.sum _ _).map _
  rw [sum_comm]

theorem fmul_comm (x y : Nat) : floatBits .mul .f64 x y = floatBits .mul .f64 y x := by
  show (Ieee.Datum.product _ _).map _ = (Ieee.Datum.product _ _).map _
  rw [product_comm]

theorem feq_of_bits {o : Option Nat} {r r' : Nat} (h : FRes o r) (h' : FRes o r') : feq r r' := by
  unfold FRes at h h'
  cases o with
  | some b => exact .inl (h.trans h'.symm)
  | none => exact .inr ⟨h, h'⟩

theorem fres_some {op : BinOp} {x y r : Nat} (h : floatBits op .f64 x y = some r) (w : World) : fres op x y w = r := by
  unfold fres; rw [h]

theorem fdr_some {op : BinOp} {x y r : Nat} (h : floatBits op .f64 x y = some r) : fdr op x y = 0 := by
  unfold fdr; rw [h]

theorem order_num {x : Nat} (h : ford x 0 = some .eq) : ∃ s p, Ieee.double.read x = .number s 0 p := by
  have h : Ieee.Datum.order (Ieee.double.read x) (Ieee.double.read 0) = some .eq := h
  have h0 : Ieee.double.read 0 = .number false 0 Ieee.double.leastPlace := by decide
  rw [h0] at h
  cases hr : Ieee.double.read x with
  | number s m e =>
    rw [hr] at h
    simp only [Ieee.Datum.order, Option.some.injEq] at h
    have h' := Int.compare_eq_eq.1 h
    have hm : m = 0 := by
      by_cases e0 : m = 0
      · exact e0
      · exfalso
        have hp : 0 < m <<< (e - min e Ieee.double.leastPlace).toNat := by
          rw [Nat.shiftLeft_eq]; exact Nat.mul_pos (by omega) (Nat.two_pow_pos _)
        have hz : (0 : Nat) <<< (Ieee.double.leastPlace - min e Ieee.double.leastPlace).toNat = 0 := Nat.zero_shiftLeft _
        unfold Ieee.signed at h'
        rw [hz] at h'
        split at h' <;> simp at h' <;> omega
    subst hm
    exact ⟨s, e, rfl⟩
  | infinity s => rw [hr] at h; cases s <;> simp [Ieee.Datum.order] at h
  | nan s t => rw [hr] at h; cases h

/-- 1 over a zero is an infinity. -/
theorem quo_zero {x : Nat} (h : ford x 0 = some .eq) : ∃ r, floatBits .quo .f64 4607182418800017408 x = some r := by
  obtain ⟨s, p, hr⟩ := order_num h
  have h1 : Ieee.double.read 4607182418800017408 = .number false (2 ^ 52) (-52) := by decide
  show ∃ r, (Ieee.Datum.quotient (Ieee.double.fractionBits + 2) (Ieee.double.read 4607182418800017408) (Ieee.double.read x)).map Ieee.double.write = some r
  rw [h1, hr]
  exact ⟨_, rfl⟩

theorem lt_of_wf {x : Nat} (h : (Lit.float .f64 x).wf = true) : x < 2 ^ 64 := by
  simp only [Lit.wf, decide_eq_true_eq] at h
  exact h

theorem trod_float {H : Type} {enc : TypeId × Value → H} {P : Program} {w : World} {base : Nat} {spare : Nat → Bool} {held : Bool} {n : Nat} {t : TypeId} {k : FloatKind} {v : Value} {y : DataW H × List MemPlace}
    (ht : P.underlying t = some (.float k)) (h : DataW.trod enc P w base spare held n t [v] = some y) : ∃ b, v = .float k b ∧ y = (.lit (.float k b), []) ∧ (Lit.float k b).wf = true := by
  cases n with
  | zero => simp [DataW.trod] at h
  | succ n =>
    simp only [DataW.trod, ht] at h
    split at h <;> simp_all

theorem trod_float_mk {H : Type} {enc : TypeId × Value → H} {P : Program} {w : World} {base : Nat} {spare : Nat → Bool} {held : Bool} {t : TypeId} {k : FloatKind} {b : Nat}
    (ht : P.underlying t = some (.float k)) (hw : (Lit.float k b).wf = true) : ∃ n, DataW.trod enc P w base spare held n t [.float k b] = some (.lit (.float k b), []) := ⟨1, by simp [DataW.trod, ht, hw]⟩

theorem below_drewN {B : Nat} {w w' : World} (h : Below B w w') (n : Nat) : Below B w (w'.drewN n) := ⟨h.os, h.tape, h.output, h.size, h.block⟩

/-! ### one word for every NaN: the operations as plain functions -/
def qnan : Nat := 9221120237041090560

theorem isNan_qnan : isNan qnan = true := by decide

def cop (op : BinOp) (x y : Nat) : Nat := match floatBits op .f64 x y with
  | some r => r
  | none => qnan

theorem cop_of {op : BinOp} {x y x' y' : Nat} (hx : feq x x') (hy : feq y y') : cop op x y = cop op x' y' := by
  have key : floatBits op .f64 x y = floatBits op .f64 x' y' := by
    rcases hx with rfl | ⟨a, b⟩
    · rcases hy with rfl | ⟨c, d⟩
      · rfl
      · rw [op_nan_right c, op_nan_right d]
    · rw [op_nan_left a, op_nan_left b]
  unfold cop; rw [key]

theorem fres_cop (op : BinOp) {x y x' y' : Nat} (w : World) (hx : feq x x') (hy : feq y y') : feq (fres op x y w) (cop op x' y') := by
  rw [← cop_of hx hy]
  have h1 := fres_spec op x y w
  unfold FRes at h1
  unfold cop
  cases h : floatBits op .f64 x y with
  | some r => rw [h] at h1; exact .inl h1
  | none => rw [h] at h1; exact .inr ⟨h1, isNan_qnan⟩

def sumP (x y : Nat × Nat) : Nat × Nat := (cop .add x.1 y.1, cop .add x.2 y.2)
def difP (x y : Nat × Nat) : Nat × Nat := (cop .sub x.1 y.1, cop .sub x.2 y.2)
def mulP (x y : Nat × Nat) : Nat × Nat := (cop .sub (cop .mul x.1 y.1) (cop .mul x.2 y.2), cop .add (cop .mul x.1 y.2) (cop .mul x.2 y.1))
def barP (x : Nat × Nat) : Nat × Nat := (x.1, Op.negFloat .f64 x.2)
def powerP (x : Nat × Nat) : Nat := cop .add (cop .mul x.1 x.1) (cop .mul x.2 x.2)
def quoP (x y : Nat × Nat) : Nat × Nat := (cop .quo (mulP x (barP y)).1 (powerP y), cop .quo (mulP x (barP y)).2 (powerP y))

def peq (x y : Nat × Nat) : Prop := feq x.1 y.1 ∧ feq x.2 y.2
theorem peq.refl (x : Nat × Nat) : peq x x := ⟨feq.refl _, feq.refl _⟩
theorem peq.symm {x y : Nat × Nat} (h : peq x y) : peq y x := ⟨h.1.symm, h.2.symm⟩
theorem peq.trans {x y z : Nat × Nat} (h : peq x y) (g : peq y z) : peq x z := ⟨h.1.trans g.1, h.2.trans g.2⟩
theorem sumP_of {x x' y y' : Nat × Nat} (h : peq x x') (g : peq y y') : sumP x y = sumP x' y' := by
  unfold sumP; rw [cop_of h.1 g.1, cop_of h.2 g.2]
theorem difP_of {x x' y y' : Nat × Nat} (h : peq x x') (g : peq y y') : difP x y = difP x' y' := by
  unfold difP; rw [cop_of h.1 g.1, cop_of h.2 g.2]
theorem mulP_of {x x' y y' : Nat × Nat} (h : peq x x') (g : peq y y') : mulP x y = mulP x' y' := by
  unfold mulP; rw [cop_of h.1 g.1, cop_of h.2 g.2, cop_of h.1 g.2, cop_of h.2 g.1]

abbrev fl (x : Nat) : Value := .float .f64 x
abbrev pr (a b : Nat) : Value := .agg #[.float .f64 a, .float .f64 b]

/-- The call hands back one float: v, or a NaN where v is one. -/
def RetF (v : Nat) (B : Nat) (w : World) (e : Ending) (w' : World) : Prop := ∃ r, e = .returned (fl r) ∧ feq r v ∧ r < 2 ^ 64 ∧ Below B w w'
/-- The call hands back one pair. -/
def RetP (v : Nat × Nat) (B : Nat) (w : World) (e : Ending) (w' : World) : Prop := ∃ r i, e = .returned (pr r i) ∧ peq (r, i) v ∧ r < 2 ^ 64 ∧ i < 2 ^ 64 ∧ Below B w w'

theorem bcell {W w1 : World} (hb : Below W.heap.size W w1) : (∀ b o, b < W.heap.size → w1.cell? ⟨b, o, none⟩ = W.cell? ⟨b, o, none⟩) ∧ (∀ b o, b < W.heap.size → w1.frozen? ⟨b, o, none⟩ = W.frozen? ⟨b, o, none⟩) :=
  ⟨fun b o h => hb.cell (p := ⟨b, o, none⟩) h, fun b o h => hb.frozen (p := ⟨b, o, none⟩) h⟩
theorem chain {W w1 w2 : World} (h : Below W.heap.size W w1) (g : Below w1.heap.size w1 w2) : Below W.heap.size W w2 := h.trans (g.mono h.size)
theorem blt {W w1 : World} (hb : Below W.heap.size W w1) : ∀ b, b < W.heap.size → b < w1.heap.size := fun _ h => Nat.lt_of_lt_of_le h hb.size
theorem ret_bool {a b : Bool} (h : a = b) : Ending.returned (.bool a) = .returned (.bool b) := by rw [h]

/-! ### a region that makes memory beside loads: what lies below stays -/
theorem keeps0 (W0 : World) : (∀ b o, b < W0.heap.size → W0.drew.cell? ⟨b, o, none⟩ = W0.cell? ⟨b, o, none⟩) ∧ Below W0.heap.size W0 W0.drew := ⟨fun _ _ _ => rfl, (Below.refl _ _).drew⟩
theorem keepsD {W0 W : World} (h : (∀ b o, b < W0.heap.size → W.cell? ⟨b, o, none⟩ = W0.cell? ⟨b, o, none⟩) ∧ Below W0.heap.size W0 W) : (∀ b o, b < W0.heap.size → W.drew.cell? ⟨b, o, none⟩ = W0.cell? ⟨b, o, none⟩) ∧ Below W0.heap.size W0 W.drew := ⟨h.1, h.2.drew⟩
theorem keepsN {W0 W : World} (n : Nat) (h : (∀ b o, b < W0.heap.size → W.cell? ⟨b, o, none⟩ = W0.cell? ⟨b, o, none⟩) ∧ Below W0.heap.size W0 W) : (∀ b o, b < W0.heap.size → (W.drewN n).cell? ⟨b, o, none⟩ = W0.cell? ⟨b, o, none⟩) ∧ Below W0.heap.size W0 (W.drewN n) := ⟨h.1, below_drewN h.2 n⟩
theorem keepsB {W0 W w1 : World} (hb : Below W.heap.size W w1) (h : (∀ b o, b < W0.heap.size → W.cell? ⟨b, o, none⟩ = W0.cell? ⟨b, o, none⟩) ∧ Below W0.heap.size W0 W) :
    (∀ b o, b < W0.heap.size → w1.cell? ⟨b, o, none⟩ = W0.cell? ⟨b, o, none⟩) ∧ Below W0.heap.size W0 w1 :=
  have h2 := h.2.trans (hb.mono h.2.size)
  ⟨fun b o hl => h2.cell (p := ⟨b, o, none⟩) hl, h2⟩
theorem keepsA {W0 W : World} (o : Obj) (h : (∀ b o, b < W0.heap.size → W.cell? ⟨b, o, none⟩ = W0.cell? ⟨b, o, none⟩) ∧ Below W0.heap.size W0 W) :
    (∀ b o', b < W0.heap.size → (W.alloc o).cell? ⟨b, o', none⟩ = W0.cell? ⟨b, o', none⟩) ∧ Below W0.heap.size W0 (W.alloc o) :=
  have h2 := h.2.alloc h.2.size o
  ⟨fun b o hl => h2.cell (p := ⟨b, o, none⟩) hl, h2⟩
theorem keepsA0 (W0 : World) (o : Obj) : (∀ b o', b < W0.heap.size → (W0.alloc o).drew.cell? ⟨b, o', none⟩ = W0.cell? ⟨b, o', none⟩) ∧ Below W0.heap.size W0 (W0.alloc o).drew :=
  have h2 := ((Below.refl W0.heap.size W0).alloc (Nat.le_refl _) o).drew
  ⟨fun b o hl => h2.cell (p := ⟨b, o, none⟩) hl, h2⟩
theorem keepsS {W0 W : World} {g j : Nat} {v : Value} (hg : W0.heap.size ≤ g) (h : (∀ b o, b < W0.heap.size → W.cell? ⟨b, o, none⟩ = W0.cell? ⟨b, o, none⟩) ∧ Below W0.heap.size W0 W) :
    (∀ b o, b < W0.heap.size → (W.setCell ⟨g, j, none⟩ v).cell? ⟨b, o, none⟩ = W0.cell? ⟨b, o, none⟩) ∧ Below W0.heap.size W0 (W.setCell ⟨g, j, none⟩ v) :=
  have h2 := h.2.setCell (p := ⟨g, j, none⟩) hg v
  ⟨fun b o hl => h2.cell (p := ⟨b, o, none⟩) hl, h2⟩
theorem keepsAB {W0 W : World} {o o' : Obj} (hz : W0.heap.size ≤ W.heap.size) (h : (∀ b o', b < W0.heap.size → (W.alloc o).cell? ⟨b, o', none⟩ = W0.cell? ⟨b, o', none⟩) ∧ Below W0.heap.size W0 (W.alloc o)) :
    (∀ b o, b < W0.heap.size → (W.alloc o').cell? ⟨b, o, none⟩ = W0.cell? ⟨b, o, none⟩) ∧ Below W0.heap.size W0 (W.alloc o') := by
  have h6 := h.2
  have hb : Below W0.heap.size W0 W := ⟨h6.os, h6.tape, h6.output, hz, fun k hk => by have := h6.block k hk; rw [heap_alloc_old _ _ (by omega)] at this; exact this⟩
  have h2 := hb.alloc hz o'
  exact ⟨fun b o hl => h2.cell (p := ⟨b, o, none⟩) hl, h2⟩

/-- A slot that points to a new pair. -/
def PairAt (v : Nat × Nat) (s : Value) (w : World) : Prop := ∃ g r i, s = .pointer (some ⟨g, 0, none⟩) ∧ g < w.heap.size ∧ w.cell? ⟨g, 0, none⟩ = some (fl r) ∧ w.cell? ⟨g, 1, none⟩ = some (fl i) ∧ peq (r, i) v
/-- A pair in a block of its own. -/
def BoxAt (a b n : Nat) (w : World) : Prop := n < w.heap.size ∧ w.cell? ⟨n, 0, none⟩ = some (fl a) ∧ w.cell? ⟨n, 1, none⟩ = some (fl b)
theorem BoxAt.below {a b n : Nat} {w w1 : World} (h : BoxAt a b n w) (hb : Below w.heap.size w w1) : BoxAt a b n w1 :=
  ⟨Nat.lt_of_lt_of_le h.1 hb.size, by rw [(bcell hb).1 _ _ h.1]; exact h.2.1, by rw [(bcell hb).1 _ _ h.1]; exact h.2.2⟩
theorem PairAt.below {v : Nat × Nat} {s : Value} {w w1 : World} (h : PairAt v s w) (hb : Below w.heap.size w w1) : PairAt v s w1 := by
  obtain ⟨g, r, i, rfl, hg, h0, h1, hp⟩ := h
  exact ⟨g, r, i, rfl, Nat.lt_of_lt_of_le hg hb.size, by rw [(bcell hb).1 _ _ hg]; exact h0, by rw [(bcell hb).1 _ _ hg]; exact h1, hp⟩
theorem stays_of {W0 wx : World} (h : (∀ z y, z < W0.heap.size → wx.cell? ⟨z, y, none⟩ = W0.cell? ⟨z, y, none⟩) ∧ Below W0.heap.size W0 wx) : Below W0.heap.size W0 wx := h.2
theorem boxes_of {w wx : World} {a b c d : Nat} {t : TypeId}
    (h : (∀ z y, z < ((w.alloc (.cells #[fl a, fl b] t)).alloc (.cells #[fl c, fl d] t)).heap.size → wx.cell? ⟨z, y, none⟩ = ((w.alloc (.cells #[fl a, fl b] t)).alloc (.cells #[fl c, fl d] t)).cell? ⟨z, y, none⟩) ∧
      Below ((w.alloc (.cells #[fl a, fl b] t)).alloc (.cells #[fl c, fl d] t)).heap.size ((w.alloc (.cells #[fl a, fl b] t)).alloc (.cells #[fl c, fl d] t)) wx) :
    BoxAt a b w.heap.size wx ∧ BoxAt c d (w.heap.size + 1) wx ∧ Below w.heap.size w wx :=
  ⟨BoxAt.below (w := (w.alloc (.cells #[fl a, fl b] t)).alloc (.cells #[fl c, fl d] t)) ⟨by simp; omega, by simp [go_sem], by simp [go_sem]⟩ h.2,
   BoxAt.below (w := (w.alloc (.cells #[fl a, fl b] t)).alloc (.cells #[fl c, fl d] t)) ⟨by simp, by simp [go_sem], by simp [go_sem]⟩ h.2,
   (((Below.refl _ _).alloc (Nat.le_refl _) _).alloc (by simp) _).trans (h.2.mono (by simp; omega))⟩
end Go.Fl
