/-
  The drawing of two lists of words and a rule.
-/
import Derived.Test.YtihhklfmabencaaDf
import Derived.Deep.AppendLies
namespace Go.Proofs.Ytihhklfmabencaa
set_option linter.unusedSimpArgs false
set_option linter.unusedVariables false
open Go.RowKit Go.Dr

/-- append(v, x), and where the result lies: where v lay, or in a new block. -/
theorem app2 {w : World} {ops : Array Oper} {rest : List Oper} {o : Oper} {a : Act} {Q : Exit → Act → World → Prop} (hgd : o.guard = none) (s y : Operand)
    (ho : o.op = .call { callee := .builtin .append, args := #[s, y], argTypes := #[27, 27] })
    (base : Nat) (v : Value) (l : List Int) (x : Int) (hs : a.eval s = v) (hown : Own w base v l) (hy : a.eval y = .slice (some ⟨w.heap.size, 0, none⟩) 1 1) (hl : l.length ≤ 1048576) (hb : base ≤ w.heap.size)
    (h : ∀ v' w', Own w' base v' (l ++ [x]) → (w.alloc (.cells #[.int .i64 x] 3)).grownBy w' v.ownBlock → (∀ k, v'.ownBlock = some k → v.ownBlock = some k ∨ w.heap.size ≤ k) → wpList Try.prog ops Q rest (a.put o.dst v') w') :
    wpList Try.prog ops Q (o :: rest) a (w.alloc (.cells #[.int .i64 x] 3)) := by
  obtain ⟨i0, hi, hz0, hz1, hz2⟩ := info_parts intInfo
  refine wpList_append_lies _ hgd s y 27 ho base 3 i0 (.int .i64 0) 1 8 Try.underlying27 hi hz0 hz1 hz2 rfl (by decide) v l.length (l.map (Value.int .i64)) hs (hown.alloc _) ⟨w.heap.size, 0, none⟩ 1 1 [.int .i64 x] hy rfl ?_ ?_ (by decide) ?_ ?_ ?_ _ rfl ?_
  · intro j u hj
    match j, hj with
    | 0, hj => simp at hj; subst hj; simp [Addr.add]
  · intro u hu; simp at hu; subst hu; rfl
  · unfold maxLen; omega
  · omega
  · simp; omega
  · intro g cap w' h1 h2 h3 _
    refine h _ w' ?_ h2 ?_
    · unfold Own
      simpa using h1
    · intro k hk
      injection hk with hk
      subst hk
      rcases h3 with h3 | h3
      · exact .inl h3
      · right; rw [h3]; simp

/-- Two lists of the call's own that share no block. -/
def Two (W : World) (base : Nat) (u v : Value) (l m : List Int) : Prop := Own W base u l ∧ Own W base v m ∧ ∀ k, u.ownBlock = some k → v.ownBlock ≠ some k
theorem Two.swap {W : World} {base : Nat} {u v : Value} {l m : List Int} (h : Two W base u v l m) : Two W base v u m l := ⟨h.2.1, h.1, fun k h1 h2 => h.2.2 k h2 h1⟩
theorem Two.app {w w' : World} {base : Nat} {u v u' : Value} {l m l' : List Int} {o : Obj} (h : Two w base u v l m) (ho : Own w' base u' l') (hg : (w.alloc o).grownBy w' u.ownBlock) (hk : ∀ k, u'.ownBlock = some k → u.ownBlock = some k ∨ w.heap.size ≤ k) : Two w' base u' v l' m := by
  refine ⟨ho, World.ownsRow.kept (h.2.1.alloc o) hg ?_, fun k h1 h2 => ?_⟩
  · cases e : v.ownBlock with
    | none => exact .inl rfl
    | some k => exact .inr (fun e2 => h.2.2 k e2.symm e)
  · rcases hk k h1 with h3 | h3
    · exact h.2.2 k h3 h2
    · have := (World.ownsRow.lt h.2.1 k h2).2; omega
theorem Two.st {w0 wi W W1 : World} {g base : Nat} {xs : List Int} {u v : Value} {l m : List Int} (h : Two W base u v l m) (hs : St w0 wi W g xs) (hs1 : St w0 W W1 g xs) : Two W1 base u v l m := ⟨h.1.st hs hs1, h.2.1.st hs hs1, h.2.2⟩
theorem Two.below {B base : Nat} {W W1 : World} {u v : Value} {l m : List Int} (h : Two W base u v l m) (hb : Below B W W1) (hB : W.heap.size ≤ B) : Two W1 base u v l m := ⟨h.1.below hb hB, h.2.1.below hb hB, h.2.2⟩
theorem Two.new (W : World) (base : Nat) (hb : base ≤ W.heap.size) : Two ((W.alloc (.cells #[] 3)).alloc (.cells #[] 3)) base (.slice (some ⟨W.heap.size, 0, none⟩) 0 0) (.slice (some ⟨W.heap.size + 1, 0, none⟩) 0 0) [] [] := by
  have e : (W.alloc (.cells #[] 3)).heap.size = W.heap.size + 1 := by simp
  rw [← e]
  exact ⟨(Own.empty W base hb).alloc _, Own.empty _ base (by simp; omega), fun k h1 h2 => by
    have e1 := Option.some.inj h1
    have e2 := Option.some.inj h2
    simp at e1 e2
    omega⟩

theorem results_tmp6 {fn : Func} {t0 t1 t2 t3 t4 t5 : Tmp} (h : fn.results = #[.tmp t0, .tmp t1, .tmp t2, .tmp t3, .tmp t4, .tmp t5]) (tmps : Array Value) (P : Program) (w : World) :
    (results fn tmps).run P w = .ok (.tuple #[tmps.getD t0 undef, tmps.getD t1 undef, tmps.getD t2 undef, tmps.getD t3 undef, tmps.getD t4 undef, tmps.getD t5 undef]) w := by
  simp [results, h]

theorem St.newW {w0 W : World} {g : Nat} {xs : List Int} (h : Cu w0 W g xs) (hb : Below w0.heap.size w0 W) : St w0 w0 W g xs := ⟨h, hb, ⟨hb.size, fun i hi _ => hb.block i hi⟩⟩

set_option maxHeartbeats 3200000 in
theorem sDrawDot (A : Option Addr) (n c : Nat) (xs : List Int) (w : World) (h : IRow .u8 w A n c xs) (hn : n ≤ 1048576) :
    Calls Try.prog 21 #[.slice A n c] w fun e w' => ∃ A1 n1 c1 la A2 n2 c2 lb f b cut q, e = .returned (.tuple #[.slice A1 n1 c1, .slice A2 n2 c2, .int .i64 f, .int .i64 b, .int .i64 cut, .bool q]) ∧ IRow .i64 w' A1 n1 c1 la ∧ IRow .i64 w' A2 n2 c2 lb ∧ n1 ≤ 1000 ∧ n2 ≤ 1000 ∧ Below w.heap.size w w' := by
  have HN := Lib.hid (l1New_any A n c xs w h hn)
  have HZ := Lib.hid (l1Size_any A n c 20)
  have HNN := Lib.hid hn
  clear h hn
  go_enter Try.func21, Try.ntmps21
  go_wp2_with (first
    | (go_at_call 26; (with_reducible refine HN.out.mono ?_); rintro e w1 ⟨g, rfl, hc, hb⟩; have HS := Lib.hid (St.newW hc hb); clear hc hb)
    | (go_at_call 42; (with_reducible refine (sDrawFix HS.out).mono ?_); rintro e w1 ⟨f, b, cut, rfl, hs⟩; replace HS := Lib.hid hs; have HT := Lib.hid (Two.new w1 w.heap.size hs.2.2.1); clear hs)
    | (go_at_call 35; (with_reducible refine (HZ.out _ HNN.out).mono ?_); rintro e w1 ⟨v, rfl, hv, hv2, hb⟩; replace HT := Lib.hid (HT.out.below hb (Nat.le_refl _)); replace HS := Lib.hid (((HS.out.alloc _).alloc _).below hb); obtain ⟨k0, rfl⟩ := Int.eq_ofNat_of_zero_le (show 0 ≤ v by have := hv2 (by omega); omega); have HK0 := Lib.hid (show k0 ≤ 20 by omega); have hw0 : wrap64 ((k0 : Int) + 1) = ((k0 + 1 : Nat) : Int) := (by rw [wrap_id (by omega) (by omega)]; omega); clear hv hv2 hb)
    | (go_at_call 29; (with_reducible refine (sBelow HS.out.turn _).mono ?_); rintro e w1 ⟨v, rfl, hv, hs⟩; replace HT := Lib.hid (HT.out.st HS.out hs); replace HS := Lib.hid (HS.out.back hs); have HV := Lib.hid hv; clear hs hv))
  rename_i vi
  obtain ⟨k, rfl⟩ := Int.eq_ofNat_of_zero_le HV.out.1
  have HK := Lib.hid (show k ≤ 20 by have := HV.out.2 (by omega); have := HK0.out; omega)
  clear HV hw0
  go_loopw [12, 13, 14] (fun u v i wr => ∃ (j : Nat) (la lb : List Int) (wz : World), wz = wr ∧ la.length + j = k ∧ lb.length + j = k ∧ i = .int .i64 ((j : Nat) : Int) ∧ Hid (Two wz w.heap.size u v la lb) ∧ Hid (St w w wz g xs)) (fun _ _ i _ => (intOf i).toNat)
  case atStart => exact ⟨k, [], [], _, rfl, by simp, by simp, rfl, HT.out, HS.out⟩
  case round =>
    clear HS HT
    obtain ⟨j, la, lb, wr, rfl, hj, hj2, rfl, HT, HS⟩ := hrel
    have HLa := Lib.hid (show la.length ≤ 20 by have := HK.out; omega)
    have HLb := Lib.hid (show lb.length ≤ 20 by have := HK.out; omega)
    cases j with
    | zero =>
      go_wp2_with (first
        | (go_at_call 28; (with_reducible refine (sOnce HS.out.turn _).mono ?_); rintro e w1 ⟨q, rfl, hs⟩; replace HT := Lib.hid (HT.out.st HS.out hs); replace HS := Lib.hid (HS.out.back hs); clear hs; cases q)
        | (go_at_call 39; (with_reducible refine (sPick2 HS.out.turn _ _ _).mono ?_); rintro e w1 ⟨v, rfl, hv, hs⟩; replace HT := Lib.hid (HT.out.st HS.out hs); replace HS := Lib.hid (HS.out.back hs); clear hs hv)
        | (at_builtin; refine app2 rfl (.tmp 48) (.tmp 52) rfl w.heap.size _ _ _ rfl HT.out.1 rfl (by have := HLa.out; (try simp); omega) HS.out.2.2.1 ?_; intro v2 w2 ho hg hk; replace HS := Lib.hid (app_st HS.out HT.out.1 (Nat.le_refl _) (Nat.le_refl _) hg); replace HT := Lib.hid (HT.out.app ho hg hk); clear ho hg hk)
        | (at_builtin; refine app2 rfl (.tmp 54) (.tmp 55) rfl w.heap.size _ _ _ rfl HT.out.2.1 rfl (by have := HLb.out; (try simp); omega) HS.out.2.2.1 ?_; intro v2 w2 ho hg hk; replace HS := Lib.hid (app_st HS.out HT.out.2.1 (Nat.le_refl _) (Nat.le_refl _) hg); replace HT := Lib.hid (HT.out.swap.app ho hg hk).swap; clear ho hg hk)
        | (at_builtin; refine app2 rfl (.tmp 59) (.tmp 60) rfl w.heap.size _ _ _ rfl HT.out.2.1 rfl (by have := HLb.out; (try simp); omega) HS.out.2.2.1 ?_; intro v2 w2 ho hg hk; replace HS := Lib.hid (app_st HS.out HT.out.2.1 (Nat.le_refl _) (Nat.le_refl _) hg); replace HT := Lib.hid (HT.out.swap.app ho hg hk).swap; clear ho hg hk))
      all_goals ((try simp only [Exit.inBlock, Exit.then]); refine bodyPost_ret (results_tmp6 rfl _ _ _) rfl ?_)
      all_goals
        obtain ⟨A1, c1, rfl⟩ := HT.out.1.form
        obtain ⟨A2, c2, rfl⟩ := HT.out.2.1.form
        exact ⟨_, _, _, _, _, _, _, _, _, _, _, _, rfl, HT.out.1.row.1, HT.out.2.1.row.1, by have := HLa.out; (try simp); omega, by have := HLb.out; (try simp); omega, HS.out.2.1⟩
    | succ j =>
      have hk1 : wrap64 (j : Int) = (j : Int) := by have := HK.out; exact wrap_id (by omega) (by omega)
      go_wp2_with (first
        | (go_at_call 43; (with_reducible refine (sDrawWord HS.out.turn _).mono ?_); rintro e w1 ⟨v, rfl, hs⟩; replace HT := Lib.hid (HT.out.st HS.out hs); replace HS := Lib.hid (HS.out.back hs); clear hs)
        | (at_builtin; refine app2 rfl (.tmp 34) (.tmp 38) rfl w.heap.size _ _ _ rfl HT.out.1 rfl (by have := HLa.out; (try simp); omega) HS.out.2.2.1 ?_; intro v2 w2 ho hg hk; replace HS := Lib.hid (app_st HS.out HT.out.1 (Nat.le_refl _) (Nat.le_refl _) hg); replace HT := Lib.hid (HT.out.app ho hg hk); clear ho hg hk)
        | (at_builtin; refine app2 rfl (.tmp 40) (.tmp 44) rfl w.heap.size _ _ _ rfl HT.out.2.1 rfl (by have := HLb.out; (try simp); omega) HS.out.2.2.1 ?_; intro v2 w2 ho hg hk; replace HS := Lib.hid (app_st HS.out HT.out.2.1 (Nat.le_refl _) (Nat.le_refl _) hg); replace HT := Lib.hid (HT.out.swap.app ho hg hk).swap; clear ho hg hk))
      go_roundw
      case rel => exact ⟨j, _, _, _, rfl, by simp; omega, by simp; omega, by rw [hk1], HT.out, HS.out⟩
      case measure => rw [hk1]; simp only [intOf, Int.toNat_natCast]; omega
end Go.Proofs.Ytihhklfmabencaa
