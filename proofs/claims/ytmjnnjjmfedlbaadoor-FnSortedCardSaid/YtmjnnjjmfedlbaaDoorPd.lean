/-
  A slice of whole numbers that came in, as the hand-made contracts want it. No condition.
-/
import Derived.Test.YtmjnnjjmfedlbaaDoorPr
import Derived.Test.YtmjnnjjmfedlbaaDoorDw
namespace Go.Pr
open Go Go.ChangeShapes Go.WideShapes Go.RowKit Go.Dr
theorem irow_of {k : IntKind} {w : World} {a : Option Addr} {len cap : Nat} {zs : List Int} (h : IsRow k w a len cap zs) : IRow k w a len cap (zs.take len) ∧ ∀ n ∈ zs.take len, (Lit.int k n).wf = true := by
  rcases h with ⟨rfl, rfl, rfl, rfl⟩ | ⟨x, rfl, hl, hm, hz, hc, hw⟩
  · exact ⟨⟨rfl, Nat.le_refl _, Nat.zero_le _, fun h => absurd h (by omega)⟩, by simp⟩
  · refine ⟨⟨by simp; omega, hl, hm, fun hp => ?_⟩, fun n hn => hw n (List.mem_of_mem_take hn)⟩
    obtain ⟨b, off, spot⟩ := x
    have h0 := hc 0 (by omega)
    have hspot : spot = none := by simpa [Addr.add] using World.cell?_spot h0
    subst hspot
    refine ⟨b, off, rfl, ?_, fun i hi => ?_⟩
    · have := World.block_lt_of_cell? w _ h0
      simpa [Addr.add] using this
    · have := hc i (by omega)
      have e : (⟨b, off, none⟩ : Addr).add i = ⟨b, off + i, none⟩ := by
        simp only [Addr.add]; split
        · rename_i h; subst h; rfl
        · rfl
      rw [e] at this
      rw [this]
      congr 2
      simp [List.getD_eq_getElem?_getD, hi]
section
variable {H : Type} {enc : TypeId × Value → H} {P : Program} {W : World} {base : Nat} {spare : Nat → Bool} {held : Bool}
theorem ints_irow {t e : TypeId} {k : IntKind} {a : Option Addr} {len cap : Nat} {d : DataW H} {ps : List MemPlace} (hsp : ∀ b, spare b = true) (ht : P.underlying t = some (.slice e)) (he : P.underlying e = some (.int k)) (hc : P.cellsOf e = 1)
    (h : DataW.Trod enc P W base spare held t (.slice a len cap) d ps) : ∃ zs, IRow k W a len cap zs ∧ ∀ n ∈ zs, (Lit.int k n).wf = true := by
  obtain ⟨zs, hz⟩ := ints_row hsp ht he hc h
  exact ⟨_, irow_of hz⟩
end
end Go.Pr
