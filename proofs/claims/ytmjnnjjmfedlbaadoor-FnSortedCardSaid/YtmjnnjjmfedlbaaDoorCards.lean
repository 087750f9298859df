/-
  DERIVED. GIVEN WITH THE SEED: THE CARDS: each row of YtmjnnjjmfedlbaaDoorRows.lean that lists a variable, with what it lists TIED to the program's text (the seventh form; the later family's looks); each row that meets fmt, with fmt's text TOLD by the authors' own Lean function (tested against real Go, not proved from fmt's source: count such statements apart). THE CARD IS WHAT COUNTS. Prove the row's statement (the work); the ties are given (YtmjnnjjmfedlbaaDoorTie.lean); close each card by the builder's one call (the guide's Derived/Test/ToyasCard.lean, 'card_holds'). Laid BY PROGRAM, IN A SANDBOX (cutbox-door.mjs). By AI agents, Wed Nov 11 2026. No macro, syntax, notation, axiom, sorry.
-/
import Derived.Test.YtmjnnjjmfedlbaaDoorRows
import GoSem.ClaimSeven
namespace Go.Proofs.YtmjnnjjmfedlbaaDoor
namespace Rows

/-- THE TIED CARD OF 'laws.FnExactOrder'. -/
def fnExactOrderCard : Claim7 := { stood := { row := fnExactOrderRow, standIns := [], harness := (true, "f7aec62ae1475851844e610a0340045cdb7f783cd207782e9fa04bfb6d5cbb3f"), looks := false }, kinds := [], alts := [], laidByText := true, laidKinds := [.mapped], laidTests := true, laidLooks := .later }
def FnExactOrderCardSaid : Prop := Claim7.holds Tryd.pinned (.plain (OpenSpec.ofChange fnExactOrderSpec)) fnExactOrderCard

/-- THE TIED CARD OF 'laws.FnExactNext'. -/
def fnExactNextCard : Claim7 := { stood := { row := fnExactNextRow, standIns := [], harness := (true, "f7aec62ae1475851844e610a0340045cdb7f783cd207782e9fa04bfb6d5cbb3f"), looks := false }, kinds := [], alts := [], laidByText := true, laidKinds := [.mapped], laidTests := true, laidLooks := .later }
def FnExactNextCardSaid : Prop := Claim7.holds Tryd.pinned (.plain (OpenSpec.ofChange fnExactNextSpec)) fnExactNextCard

/-- THE TIED CARD OF 'laws.FnExactUnpack'. -/
def fnExactUnpackCard : Claim7 := { stood := { row := fnExactUnpackRow, standIns := [], harness := (true, "f7aec62ae1475851844e610a0340045cdb7f783cd207782e9fa04bfb6d5cbb3f"), looks := false }, kinds := [], alts := [], laidByText := true, laidKinds := [.data, .mapped], laidTests := true, laidLooks := .later }
def FnExactUnpackCardSaid : Prop := Claim7.holds Tryd.pinned (.plain (OpenSpec.ofChange fnExactUnpackSpec)) fnExactUnpackCard

/-- THE TIED CARD OF 'laws.FnExactCompare'. -/
def fnExactCompareCard : Claim7 := { stood := { row := fnExactCompareRow, standIns := [], harness := (true, "f7aec62ae1475851844e610a0340045cdb7f783cd207782e9fa04bfb6d5cbb3f"), looks := false }, kinds := [], alts := [], laidByText := true, laidKinds := [.mapped], laidTests := true, laidLooks := .later }
def FnExactCompareCardSaid : Prop := Claim7.holds Tryd.pinned (.plain (OpenSpec.ofChange fnExactCompareSpec)) fnExactCompareCard

/-- THE TIED CARD OF 'laws.FnOrdered'. -/
def fnOrderedCard : Claim7 := { stood := { row := fnOrderedRow, standIns := [], harness := (true, "f7aec62ae1475851844e610a0340045cdb7f783cd207782e9fa04bfb6d5cbb3f"), looks := false }, kinds := [], alts := [], laidByText := true, laidKinds := [.mapped], laidTests := true, laidLooks := .later }
def FnOrderedCardSaid : Prop := Claim7.holds Tryd.pinned (.plain (OpenSpec.ofChange fnOrderedSpec)) fnOrderedCard

/-- THE TIED CARD OF 'laws.FnExactSortFloats'. -/
def fnExactSortFloatsCard : Claim7 := { stood := { row := fnExactSortFloatsRow, standIns := [], harness := (true, "f7aec62ae1475851844e610a0340045cdb7f783cd207782e9fa04bfb6d5cbb3f"), looks := false }, kinds := [], alts := [], laidByText := true, laidKinds := [.mapped], laidTests := true, laidLooks := .later }
def FnExactSortFloatsCardSaid : Prop := Claim7.holds Tryd.pinned (.plain (OpenSpec.ofChange fnExactSortFloatsSpec)) fnExactSortFloatsCard

/-- THE TIED CARD OF 'laws.FnSorted'. -/
def fnSortedCard : Claim7 := { stood := { row := fnSortedRow, standIns := [], harness := (true, "f7aec62ae1475851844e610a0340045cdb7f783cd207782e9fa04bfb6d5cbb3f"), looks := false }, kinds := [], alts := [], laidByText := true, laidKinds := [.mapped], laidTests := true, laidLooks := .later }
def FnSortedCardSaid : Prop := Claim7.holds Tryd.pinned (.plain (OpenSpec.ofChange fnSortedSpec)) fnSortedCard

/-- THE TIED CARD OF 'laws.FnExactGreatest'. -/
def fnExactGreatestCard : Claim7 := { stood := { row := fnExactGreatestRow, standIns := [], harness := (true, "f7aec62ae1475851844e610a0340045cdb7f783cd207782e9fa04bfb6d5cbb3f"), looks := false }, kinds := [], alts := [], laidByText := true, laidKinds := [.mapped], laidTests := true, laidLooks := .later }
def FnExactGreatestCardSaid : Prop := Claim7.holds Tryd.pinned (.plain (OpenSpec.ofChange fnExactGreatestSpec)) fnExactGreatestCard

/-- THE TIED CARD OF 'laws.FnExactLeast'. -/
def fnExactLeastCard : Claim7 := { stood := { row := fnExactLeastRow, standIns := [], harness := (true, "f7aec62ae1475851844e610a0340045cdb7f783cd207782e9fa04bfb6d5cbb3f"), looks := false }, kinds := [], alts := [], laidByText := true, laidKinds := [.mapped], laidTests := true, laidLooks := .later }
def FnExactLeastCardSaid : Prop := Claim7.holds Tryd.pinned (.plain (OpenSpec.ofChange fnExactLeastSpec)) fnExactLeastCard

/-- THE SECOND FORM's CARD OF 'laws.FnExactOrder'. -/
def fnExactOrderUptoCard : Claim7 := { stood := { row := fnExactOrderUptoRow, standIns := [], harness := (true, "f7aec62ae1475851844e610a0340045cdb7f783cd207782e9fa04bfb6d5cbb3f"), looks := false }, kinds := [], alts := [], laidByText := true, laidKinds := [.mapped], laidTests := true, laidLooks := .later }
def FnExactOrderUptoCardSaid : Prop := Claim7.holds Tryd.pinned (.plain (OpenSpec.upto fnExactOrderSpec)) fnExactOrderUptoCard

/-- THE SECOND FORM's CARD OF 'laws.FnExactNext'. -/
def fnExactNextUptoCard : Claim7 := { stood := { row := fnExactNextUptoRow, standIns := [], harness := (true, "f7aec62ae1475851844e610a0340045cdb7f783cd207782e9fa04bfb6d5cbb3f"), looks := false }, kinds := [], alts := [], laidByText := true, laidKinds := [.mapped], laidTests := true, laidLooks := .later }
def FnExactNextUptoCardSaid : Prop := Claim7.holds Tryd.pinned (.plain (OpenSpec.upto fnExactNextSpec)) fnExactNextUptoCard

/-- THE SECOND FORM's CARD OF 'laws.FnExactUnpack'. -/
def fnExactUnpackUptoCard : Claim7 := { stood := { row := fnExactUnpackUptoRow, standIns := [], harness := (true, "f7aec62ae1475851844e610a0340045cdb7f783cd207782e9fa04bfb6d5cbb3f"), looks := false }, kinds := [], alts := [], laidByText := true, laidKinds := [.data, .mapped], laidTests := true, laidLooks := .later }
def FnExactUnpackUptoCardSaid : Prop := Claim7.holds Tryd.pinned (.plain (OpenSpec.upto fnExactUnpackSpec)) fnExactUnpackUptoCard

/-- THE SECOND FORM's CARD OF 'laws.FnExactCompare'. -/
def fnExactCompareUptoCard : Claim7 := { stood := { row := fnExactCompareUptoRow, standIns := [], harness := (true, "f7aec62ae1475851844e610a0340045cdb7f783cd207782e9fa04bfb6d5cbb3f"), looks := false }, kinds := [], alts := [], laidByText := true, laidKinds := [.mapped], laidTests := true, laidLooks := .later }
def FnExactCompareUptoCardSaid : Prop := Claim7.holds Tryd.pinned (.plain (OpenSpec.upto fnExactCompareSpec)) fnExactCompareUptoCard

/-- THE SECOND FORM's CARD OF 'laws.FnOrdered'. -/
def fnOrderedUptoCard : Claim7 := { stood := { row := fnOrderedUptoRow, standIns := [], harness := (true, "f7aec62ae1475851844e610a0340045cdb7f783cd207782e9fa04bfb6d5cbb3f"), looks := false }, kinds := [], alts := [], laidByText := true, laidKinds := [.mapped], laidTests := true, laidLooks := .later }
def FnOrderedUptoCardSaid : Prop := Claim7.holds Tryd.pinned (.plain (OpenSpec.upto fnOrderedSpec)) fnOrderedUptoCard

/-- THE SECOND FORM's CARD OF 'laws.FnExactSortFloats'. -/
def fnExactSortFloatsUptoCard : Claim7 := { stood := { row := fnExactSortFloatsUptoRow, standIns := [], harness := (true, "f7aec62ae1475851844e610a0340045cdb7f783cd207782e9fa04bfb6d5cbb3f"), looks := false }, kinds := [], alts := [], laidByText := true, laidKinds := [.mapped], laidTests := true, laidLooks := .later }
def FnExactSortFloatsUptoCardSaid : Prop := Claim7.holds Tryd.pinned (.plain (OpenSpec.upto fnExactSortFloatsSpec)) fnExactSortFloatsUptoCard

/-- THE SECOND FORM's CARD OF 'laws.FnSorted'. -/
def fnSortedUptoCard : Claim7 := { stood := { row := fnSortedUptoRow, standIns := [], harness := (true, "f7aec62ae1475851844e610a0340045cdb7f783cd207782e9fa04bfb6d5cbb3f"), looks := false }, kinds := [], alts := [], laidByText := true, laidKinds := [.mapped], laidTests := true, laidLooks := .later }
def FnSortedUptoCardSaid : Prop := Claim7.holds Tryd.pinned (.plain (OpenSpec.upto fnSortedSpec)) fnSortedUptoCard

/-- THE SECOND FORM's CARD OF 'laws.FnExactGreatest'. -/
def fnExactGreatestUptoCard : Claim7 := { stood := { row := fnExactGreatestUptoRow, standIns := [], harness := (true, "f7aec62ae1475851844e610a0340045cdb7f783cd207782e9fa04bfb6d5cbb3f"), looks := false }, kinds := [], alts := [], laidByText := true, laidKinds := [.mapped], laidTests := true, laidLooks := .later }
def FnExactGreatestUptoCardSaid : Prop := Claim7.holds Tryd.pinned (.plain (OpenSpec.upto fnExactGreatestSpec)) fnExactGreatestUptoCard

/-- THE SECOND FORM's CARD OF 'laws.FnExactLeast'. -/
def fnExactLeastUptoCard : Claim7 := { stood := { row := fnExactLeastUptoRow, standIns := [], harness := (true, "f7aec62ae1475851844e610a0340045cdb7f783cd207782e9fa04bfb6d5cbb3f"), looks := false }, kinds := [], alts := [], laidByText := true, laidKinds := [.mapped], laidTests := true, laidLooks := .later }
def FnExactLeastUptoCardSaid : Prop := Claim7.holds Tryd.pinned (.plain (OpenSpec.upto fnExactLeastSpec)) fnExactLeastUptoCard
end Rows
end Go.Proofs.YtmjnnjjmfedlbaaDoor
