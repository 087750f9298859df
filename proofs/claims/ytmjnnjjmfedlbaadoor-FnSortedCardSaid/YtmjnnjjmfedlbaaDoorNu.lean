/-
  Contracts of the reference's whole numbers of limbs that make new memory.
-/
import Derived.Test.YtmjnnjjmfedlbaaDoorNt
import Derived.Deep.RegionWith
namespace Go.Proofs.YtmjnnjjmfedlbaaDoor
set_option linter.unusedSimpArgs false
set_option linter.unusedVariables false
open Go.RowKit Go.Dr

theorem u32Info : (Tryd.prog.info? 105).map (fun i => (i.zero, i.size, i.bytes)) = some (some (.int .u32 0), 1, 4) := by kernel_rfl

/-- The slice v is the call's own and holds the limbs l. -/
def OwnU (W : World) (base : Nat) (v : Value) (l : List Int) : Prop := W.ownsRow base 105 1 v l.length (l.map (Value.int .u32))
section
variable {W W1 : World} {base : Nat} {v : Value} {l : List Int}
theorem OwnU.nil (W : World) (base : Nat) : OwnU W base (.slice none 0 0) [] := World.ownsRow_nil _ _ _ _
theorem OwnU.empty (W : World) (base : Nat) (hb : base ≤ W.heap.size) : OwnU (W.alloc (.cells #[] 105)) base (.slice (some ⟨W.heap.size, 0, none⟩) 0 0) [] :=
  World.ownsRow_made W #[] 0 hb (Nat.zero_le _) rfl
theorem OwnU.alloc (h : OwnU W base v l) (o : Obj) : OwnU (W.alloc o) base v l := World.ownsRow.alloc h o
theorem OwnU.form (h : OwnU W base v l) : ∃ A c, v = .slice A l.length c := by
  rcases h.2 with ⟨rfl, h0⟩ | ⟨g, cap, cur, rfl, _⟩
  · exact ⟨none, 0, by rw [h0]⟩
  · exact ⟨_, _, rfl⟩
theorem OwnU.row {A : Option Addr} {n c : Nat} (h : OwnU W base (.slice A n c) l) : IRow .u32 W A n c l := by
  rcases h.2 with ⟨h1, h0⟩ | ⟨g, cap, cur, hv, hb, hg, hnc, hcm, hsz, hcur⟩
  · cases h1
    exact ⟨h0, Nat.le_refl _, Nat.zero_le _, fun h => absurd h (by omega)⟩
  · injection hv with h1 h2 h3
    subst h1 h2 h3
    have hlt := Blk.lt (t := 105) hg
    refine ⟨rfl, hnc, hcm, fun _ => ⟨g, 0, rfl, hlt, fun i hi => ?_⟩⟩
    rw [Nat.zero_add, Blk.cell hg i]
    have h2 : (cur.toList.take (l.length * 1))[i]? = some (Value.int .u32 (l.getD i 0)) := by
      rw [hcur]; simp [List.getD_eq_getElem?_getD, hi]
    rw [List.getElem?_take, if_pos (by omega)] at h2
    simpa using h2
end

/-- append(v, x): x lies in a new block of its own. -/
theorem app1U {w : World} {ops : Array Oper} {rest : List Oper} {o : Oper} {a : Act} {Q : Exit → Act → World → Prop} (hgd : o.guard = none) (s y : Operand)
    (ho : o.op = .call { callee := .builtin .append, args := #[s, y], argTypes := #[94, 94] })
    (base : Nat) (v : Value) (l : List Int) (x : Int) (hs : a.eval s = v) (hown : OwnU w base v l) (hy : a.eval y = .slice (some ⟨w.heap.size, 0, none⟩) 1 1) (hl : l.length ≤ 1048576) (hb : base ≤ w.heap.size)
    (h : ∀ v' w', OwnU w' base v' (l ++ [x]) → (w.alloc (.cells #[.int .u32 x] 105)).grownBy w' v.ownBlock → wpList Tryd.prog ops Q rest (a.put o.dst v') w') :
    wpList Tryd.prog ops Q (o :: rest) a (w.alloc (.cells #[.int .u32 x] 105)) := by
  obtain ⟨i0, hi, hz0, hz1, hz2⟩ := info_parts u32Info
  refine wpList_append_own _ hgd s y 94 ho base 105 i0 (.int .u32 0) 1 4 Tryd.underlying94 hi hz0 hz1 hz2 rfl (by decide) v l.length (l.map (Value.int .u32)) hs (hown.alloc _) ⟨w.heap.size, 0, none⟩ 1 1 [.int .u32 x] hy rfl ?_ ?_ ?_ ?_ ?_ ?_
  · intro j u hj
    match j, hj with
    | 0, hj => simp at hj; subst hj; simp [Addr.add]
  · intro u hu; simp at hu; subst hu; rfl
  · unfold maxLen; omega
  · omega
  · simp; omega
  · intro v' w' h1 h2 _
    refine h v' w' ?_ h2
    unfold OwnU
    simpa using h1

/-- What lay below w is as it was. -/
theorem below_own {w W W' : World} {base : Nat} {v : Value} {l : List Int} {o : Obj} (hb : Below w.heap.size w W) (ho : OwnU W base v l) (hB : w.heap.size ≤ base) (hg : (W.alloc o).grownBy W' v.ownBlock) : Below w.heap.size w W' :=
  (hb.alloc hb.size o).grown hg (by have := hb.size; simp; omega) (fun k hk => Nat.le_trans hB (World.ownsRow.lt ho k hk).1)

/-- Any list of limbs. -/
def AnyU (w : World) (e : Ending) (w' : World) : Prop := ∃ A n c l, e = .returned (.slice A n c) ∧ IRow .u32 w' A n c l ∧ U32 l ∧ n ≤ 1000 ∧ Below w.heap.size w w'

theorem trim_row {w : World} {A : Option Addr} {n c k : Nat} {l : List Int} (h : IRow .u32 w A n c l) (hk : k ≤ n) (hu : U32 l) : IRow .u32 w A k c (l.take k) ∧ U32 (l.take k) := ⟨IRow.taken h hk, hu.take k⟩

theorem sNat (lo hi : Nat) (w : World) (h1 : lo < 4294967296) (h2 : hi < 4294967296) (h3 : hi ≠ 0) :
    Calls Tryd.prog 82 #[.int .u64 ((lo + hi * 4294967296 : Nat) : Int)] w fun e w' => ∃ g, e = .returned (.slice (some ⟨g, 0, none⟩) 2 2) ∧ IRow .u32 w' (some ⟨g, 0, none⟩) 2 2 [(lo : Int), (hi : Int)] ∧ Below w.heap.size w w' := by
  obtain ⟨M, hM⟩ : ∃ M, M = lo + hi * 4294967296 := ⟨_, rfl⟩
  rw [← hM]
  have e1 : (M : Int) % 4294967296 = (lo : Int) := by omega
  have e2 : (M : Int) / 4294967296 = (hi : Int) := by omega
  have e3 : (hi : Int) % 4294967296 = (hi : Int) := by omega
  have e4 : IntKind.u32.wrap (M : Int) = (lo : Int) := by rw [IntKind.wrap_u32]; omega
  have e5 : IntKind.u32.wrap (hi : Int) = (hi : Int) := by rw [IntKind.wrap_u32]; omega
  have hM0 : (0 : Int) ≤ (M : Int) := by omega
  have H3 := Lib.hid h3
  have hrow : ∀ cs : Array Value, cs = #[.int .u32 (lo : Int), .int .u32 (hi : Int)] → IRow .u32 (w.alloc (.cells cs 105)) (some ⟨w.heap.size, 0, none⟩) 2 2 [(lo : Int), (hi : Int)] := by
    intro cs hcs
    subst hcs
    refine ⟨rfl, Nat.le_refl _, by decide, fun _ => ⟨w.heap.size, 0, rfl, by simp, fun i hi => ?_⟩⟩
    rw [Nat.zero_add, (Blk.new w _ _).cell i]
    match i, hi with
    | 0, _ => rfl
    | 1, _ => rfl
  have HR := Lib.hid (hrow _ rfl)
  have HT := Lib.hid (sTrim _ 2 2 _ _ (hrow _ rfl) (by decide))
  clear hM h1 h2 h3 hrow
  go_enter Tryd.func82, Tryd.ntmps82
  go_wp2_with (go_at_call 99; (with_reducible refine HT.out.mono ?_); rintro e w1 ⟨k, hk, rfl, rfl, hz, hk2⟩; have HK := Lib.hid (show k = 2 by (rcases (show k = 0 ∨ k = 1 ∨ k = 2 by omega) with rfl | rfl | rfl; exact absurd (hz 1 (by omega) (by omega)) (by simpa using H3.out); exact absurd (hz 1 (by omega) (by omega)) (by simpa using H3.out); rfl)); have hk := HK.out; subst hk; clear hz hk2)
  go_ret
  exact ⟨_, rfl, HR.out, (Below.refl _ _).alloc (Nat.le_refl _) _⟩

theorem sCmp (A : Option Addr) (n c : Nat) (l : List Int) (A' : Option Addr) (n' c' : Nat) (l' : List Int) (w : World) (h : IRow .u32 w A n c l) (h' : IRow .u32 w A' n' c' l') (hn : n ≤ 1000) :
    Calls Tryd.prog 94 #[.slice A n c, .slice A' n' c'] w fun e w' => ∃ v, e = .returned (.int .i64 v) ∧ Below w.heap.size w w' := by
  have HR := Lib.hid h
  have HR' := Lib.hid h'
  clear h h'
  by_cases hne : n = n'
  · subst hne
    have HW1 := Lib.hid (show wrap64 ((n : Int) - 1) = (n : Int) - 1 from wrap_id (by omega) (by omega))
    have HN := Lib.hid hn
    clear hn
    go_enter Tryd.func94, Tryd.ntmps94
    go_wp2
    go_loopw [5] (fun i wr => ∃ (q : Nat) (i0 : Int), i0 = (q : Int) - 1 ∧ q ≤ n ∧ i = .int .i64 i0 ∧ Hid (Below w.heap.size w wr)) (fun i _ => (intOf i + 1).toNat)
    case atStart => exact ⟨n, _, rfl, Nat.le_refl _, by rw [HW1.out], Below.refl _ _⟩
    case round =>
      obtain ⟨q, i0, hi0, hq, rfl, HB⟩ := hrel
      cases q with
      | zero =>
        obtain rfl : i0 = -1 := by omega
        clear hi0
        go_wp2
        go_ret
        exact ⟨_, rfl, HB.out⟩
      | succ q =>
        obtain rfl : i0 = (q : Int) := by omega
        clear hi0
        obtain ⟨b, off, rfl, hb, hc⟩ := HR.out.2.2.2 (by omega)
        obtain ⟨b', off', rfl, hb', hc'⟩ := HR'.out.2.2.2 (by omega)
        have hcell : wr.cell? ⟨b, off + q, none⟩ = some (.int .u32 (l.getD q 0)) := by rw [HB.out.cell (p := ⟨b, off + q, none⟩) hb]; exact hc q (by omega)
        have hcell' : wr.cell? ⟨b', off' + q, none⟩ = some (.int .u32 (l'.getD q 0)) := by rw [HB.out.cell (p := ⟨b', off' + q, none⟩) hb']; exact hc' q (by omega)
        generalize l.getD q 0 = x at hcell
        generalize l'.getD q 0 = y at hcell'
        have hq0 : (0 : Int) ≤ (q : Int) := by omega
        have hqn : (q : Int) < (n : Int) := by omega
        have HQ := Lib.hid hq
        have hk1 := Lib.hid (show wrap64 ((q : Int) - 1) = (q : Int) - 1 by have := HN.out; exact wrap_id (by omega) (by omega))
        clear hc hc' hq
        go_wp2
        repeat (go_quiet (fail); try go_wp2)
        all_goals first
          | (go_ret; refine ⟨_, rfl, ?_⟩; repeat' (first | exact HB.out | refine below_drewN ?_ _ | refine Below.drew ?_))
          | (go_roundw
             case rel => exact ⟨q, _, rfl, by have := HQ.out; omega, by rw [hk1.out], by repeat' (first | exact HB.out | refine below_drewN ?_ _ | refine Below.drew ?_)⟩
             case measure => rw [hk1.out]; simp only [intOf]; omega)
  · have hd : ((n : Int) == (n' : Int)) = false := by rw [beq_eq_false_iff_ne]; omega
    go_enter Tryd.func94, Tryd.ntmps94
    go_wp2
    all_goals (go_ret; exact ⟨_, rfl, Below.refl _ _⟩)

theorem or_zero {x : Int} (h0 : 0 ≤ x) (h1 : x < 4294967296) : Go.bits .or .u32 0 x = x := by
  show IntKind.u32.wrap ((BitVec.ofInt 32 0 ||| BitVec.ofInt 32 x).toNat : Nat) = x
  have e0 : BitVec.ofInt 32 0 = 0#32 := rfl
  rw [e0, BitVec.zero_or, BitVec.toNat_ofInt, IntKind.wrap_u32]
  omega
theorem or_zero' {x : Int} (h0 : 0 ≤ x) (h1 : x < 4294967296) : Go.bits .or .u32 x 0 = x := by
  show IntKind.u32.wrap ((BitVec.ofInt 32 x ||| BitVec.ofInt 32 0).toNat : Nat) = x
  have e0 : BitVec.ofInt 32 0 = 0#32 := rfl
  rw [e0, BitVec.or_zero, BitVec.toNat_ofInt, IntKind.wrap_u32]
  omega

/-- A row that comes back: any limbs. -/
def AnyL (w : World) (e : Ending) (w' : World) : Prop := ∃ A n c l, e = .returned (.slice A n c) ∧ IRow .u32 w' A n c l ∧ n ≤ 1000 ∧ Below w.heap.size w w'

theorem made_row (w : World) (N : Nat) (l : List Int) (hl : l.length = N) (hN : N ≤ maxLen) {g : Nat} {W : World} (h : Blk W g 105 (l.map (Value.int .u32)).toArray) : IRow .u32 W (some ⟨g, 0, none⟩) N N l := by
  refine ⟨hl, Nat.le_refl _, hN, fun _ => ⟨g, 0, rfl, h.lt, fun i hi => ?_⟩⟩
  rw [Nat.zero_add, h.cell i]
  have : i < l.length := by omega
  simp [List.getD_eq_getElem?_getD, this]

theorem made_cells (N : Nat) : madeCells #[.int .u32 0] N = ((List.replicate N (0 : Int)).map (Value.int .u32)).toArray := by
  apply Array.ext_getElem?
  intro j
  by_cases hj : j < N
  · have h1 : j < (madeCells #[Value.int .u32 0] N).size := by rw [size_madeCells]; exact hj
    rw [Array.getElem?_eq_getElem h1]
    have e : j % 1 = 0 := by omega
    simp [madeCells, hj, Nat.mod_one]
  · rw [Array.getElem?_eq_none (by rw [size_madeCells]; omega), Array.getElem?_eq_none (by simp; omega)]

theorem set_cells (l : List Int) (i : Nat) (v : Int) : ((l.map (Value.int .u32)).toArray).setIfInBounds i (.int .u32 v) = ((l.set i v).map (Value.int .u32)).toArray := by
  rw [List.setIfInBounds_toArray, List.map_set]

theorem setU {W : World} {g : Nat} {l : List Int} (h : Blk W g 105 (l.map (Value.int .u32)).toArray) (i : Nat) (v : Int) : Blk (W.setCell ⟨g, i, none⟩ (.int .u32 v)) g 105 ((l.set i v).map (Value.int .u32)).toArray := by
  have := h.set_ i (.int .u32 v)
  rw [set_cells] at this
  exact this

theorem make_u32 (N : Nat) (hN : N ≤ 1000) (W : World) : (Instr.makeSlice 94 (.int .i64 (N : Int)) (.int .i64 (N : Int))).run Tryd.prog W = .ok (.slice (some ⟨W.heap.size, 0, none⟩) N N) (W.alloc (.cells (madeCells #[.int .u32 0] N) 105)) := by
  obtain ⟨i0, hi, hz0, hz1, hz2⟩ := info_parts u32Info
  have := run_make (P := Tryd.prog) W 94 105 i0 _ Tryd.underlying94 hi hz0 .i64 .i64 N N (by omega) (by omega) (by rw [hz2]; omega) (by omega)
  rw [hz1] at this
  simpa [Value.cells] using this

end Go.Proofs.YtmjnnjjmfedlbaaDoor
