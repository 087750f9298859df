/-
  The drawing functions over one state: the cursor at g, what was there before it, what else was kept.
-/
import Derived.Test.YtmjnnjjmfedlbaaDoorDr
namespace Go.Proofs.YtmjnnjjmfedlbaaDoor
set_option linter.unusedSimpArgs false
set_option linter.unusedVariables false
open Go.RowKit Go.Dr

/-- The cursor at g reads xs, which came in by w0; below w0 nothing has turned; of what wi held only g has. -/
def St (w0 wi W : World) (g : Nat) (xs : List Int) : Prop := Cu w0 W g xs ∧ Below w0.heap.size w0 W ∧ Kp wi W g

theorem St.new {w0 W : World} {g : Nat} {xs : List Int} (h : Cu w0 W g xs) (hb : Below w0.heap.size w0 W) : St w0 W W g xs := ⟨h, hb, Kp.refl _ _⟩
theorem St.alloc {w0 wi W : World} {g : Nat} {xs : List Int} (h : St w0 wi W g xs) (o : Obj) : St w0 wi (W.alloc o) g xs :=
  ⟨h.1.below ((Below.refl _ _).alloc (Nat.le_refl _) _), h.2.1.alloc h.2.1.size _, h.2.2.below ((Below.refl W.heap.size W).alloc (Nat.le_refl _) o) (Nat.le_refl _)⟩
theorem St.drewN {w0 wi W : World} {g : Nat} {xs : List Int} (h : St w0 wi W g xs) (n : Nat) : St w0 wi (W.drewN n) g xs := ⟨h.1, below_drewN h.2.1 n, h.2.2⟩
theorem St.turn {w0 wi W : World} {g : Nat} {xs : List Int} (h : St w0 wi W g xs) : St w0 W W g xs := ⟨h.1, h.2.1, Kp.refl _ _⟩
theorem St.back {w0 wi W W1 : World} {g : Nat} {xs : List Int} (h : St w0 wi W g xs) (k : St w0 W W1 g xs) : St w0 wi W1 g xs := ⟨k.1, k.2.1, h.2.2.trans k.2.2⟩
theorem St.below {w0 wi W W1 : World} {g : Nat} {xs : List Int} (h : St w0 wi W g xs) (hb : Below W.heap.size W W1) : St w0 wi W1 g xs :=
  ⟨h.1.below hb, h.2.1.trans (hb.mono h.2.1.size), h.2.2.below hb (Nat.le_refl _)⟩

theorem sByte {w0 wi W : World} {g : Nat} {xs : List Int} (h : St w0 wi W g xs) :
    Calls Tryd.prog 85 #[.pointer (some ⟨g, 0, none⟩)] W fun e w' => ∃ v, e = .returned (.int .i64 v) ∧ (0 ≤ v ∧ v < 256) ∧ St w0 wi w' g xs :=
  (l1Byte_any w0 W g xs h.1 h.2.1).mono fun e w' ⟨v, e1, v0, v1, hc, hb, hk⟩ => ⟨v, e1, ⟨v0, v1⟩, hc, hb, h.2.2.trans hk⟩
theorem sBelow {w0 wi W : World} {g : Nat} {xs : List Int} (h : St w0 wi W g xs) (n : Int) :
    Calls Tryd.prog 70 #[.pointer (some ⟨g, 0, none⟩), .int .i64 n] W fun e w' => ∃ v, e = .returned (.int .i64 v) ∧ (0 ≤ v ∧ (0 < n → v < n)) ∧ St w0 wi w' g xs :=
  (l1Below_any w0 W g xs n h.1 h.2.1).mono fun e w' ⟨v, e1, v0, v1, hc, hb, hk⟩ => ⟨v, e1, ⟨v0, v1⟩, hc, hb, h.2.2.trans hk⟩
theorem sOnce {w0 wi W : World} {g : Nat} {xs : List Int} (h : St w0 wi W g xs) (n : Int) :
    Calls Tryd.prog 72 #[.pointer (some ⟨g, 0, none⟩), .int .i64 n] W fun e w' => ∃ b, e = .returned (.bool b) ∧ St w0 wi w' g xs :=
  (l1Once_any w0 W g xs n h.1 h.2.1).mono fun e w' ⟨v, e1, hc, hb, hk⟩ => ⟨v, e1, hc, hb, h.2.2.trans hk⟩

theorem IRow.new (k : IntKind) (W : World) (t : TypeId) (l : List Int) (n : Nat) (hn : l.length = n) (hm : n ≤ maxLen) (cs : Array Value) (hcs : cs = (l.map (Value.int k)).toArray) : IRow k (W.alloc (.cells cs t)) (some ⟨W.heap.size, 0, none⟩) n n l := by
  subst hcs
  refine ⟨hn, Nat.le_refl _, hm, fun _ => ⟨W.heap.size, 0, rfl, by simp, fun i hi => ?_⟩⟩
  have h := (Blk.new W t (l.map (Value.int k)).toArray).cell i
  rw [Nat.zero_add, h]
  have : i < l.length := by omega
  simp [List.getD_eq_getElem?_getD, this]

/-- A pick out of a list that was made for it. -/
theorem sPickInt {w0 wi W : World} {g : Nat} {xs : List Int} (h : St w0 wi W g xs) (l : List Int) (n : Nat) (hn : l.length = n) (h0 : 0 < n) (hm : n ≤ maxLen) (t : TypeId) (cs : Array Value) (hcs : cs = (l.map (Value.int .i64)).toArray) :
    Calls Tryd.prog 89 #[.pointer (some ⟨g, 0, none⟩), .slice (some ⟨W.heap.size, 0, none⟩) n n] (W.alloc (.cells cs t)) fun e w' => ∃ v, e = .returned (.int .i64 v) ∧ v ∈ l ∧ St w0 wi w' g xs :=
  have h2 := h.alloc (.cells cs t)
  (l1PickInt_any w0 _ g xs _ n n l (IRow.new .i64 W t l n hn hm cs hcs) (fun a ha => by cases ha; exact Nat.ne_of_gt h.1.lt) h0 h2.1 h2.2.1).mono fun e w' ⟨v, e1, hv, hc, hb, hk⟩ => ⟨v, e1, hv, hc, hb, h2.2.2.trans hk⟩
end Go.Proofs.YtmjnnjjmfedlbaaDoor
