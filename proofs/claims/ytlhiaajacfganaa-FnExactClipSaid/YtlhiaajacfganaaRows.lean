/-
  No cell of these rows narrows 'for every input' (looked for: loops, veiled, ifaces, maps, wideKeys, modest, calm, conditions, laid).
  DERIVED. THE GIVEN ROWS OF THIS SEAT. 12 by the template 'for every input the law returns true; each argument reads behind the call as it read before'; 0 by the template 'total and deterministic' (their statements: YtlhiaajacfganaaTotals.lean).
  GIVEN WITH THE SEED: the statements are not yours to turn. If you find one false, say at which input.
  Laid BY PROGRAM, IN A SANDBOX (cutbox-rows.mjs): the forced cells as the released guide's own fill.sh prints them over the translation 28fa7c753a926eca… (all of the seat's roots in one cut). By AI agents, Wed Nov 11 2026. No macro, syntax, notation, axiom, sorry.
-/
import Derived.Test.YtlhiaajacfganaaChecked
import GoSem.Claim
import GoSem.ClaimJoined
import GoSem.ClaimMapViews
import Derived.JoinedTies
import Derived.KernelRfl
namespace Go.Proofs.Ytlhiaajacfganaa
/- THE CELL 'sum', in the pinned program and in every row, IS THE sha256 OF THE DUMP (.gsa) THAT YtlhiaajacfganaaProg.lean LOADS. Nothing in Lean hashes anything: it is a label: what it is worth is what the hold of that sum in a sandbox is worth. -/
noncomputable def Try.pinned : Pinned := { name := "ytlhiaajacfganaa", sum := "28fa7c753a926eca488e007847a03e2580de9fcd66aa3f36681375651932414e", checked := Try.checked }
namespace Rows
def none {H : Type} : Left H := { results := [], args := [] }

/-- 'laws.FnExactConstants': WHATEVER THE INPUT: true; the input reads as it did. -/
def fnExactConstantsSpec : ChangeSpec := { name := "fnExactConstants", fn := fun _ => fun
  | [] => { results := [.lit (.bool true)], args := [] }
  | _ => none }
def fnExactConstantsRow : OpenClaim := { program := "ytlhiaajacfganaa", sum := "28fa7c753a926eca488e007847a03e2580de9fcd66aa3f36681375651932414e", func := "loop.example/g00043/laws.FnExactConstants", spec := "fnExactConstants", apart := false }
def FnExactConstantsSaid : Prop := fnExactConstantsRow.holds Try.pinned (OpenSpec.ofChange fnExactConstantsSpec)

/-- ITS FALSE NEIGHBOUR: 'it returns false'. Refute it at one input. -/
def fnExactConstantsWrong : ChangeSpec := { name := "fnExactConstants", fn := fun _ => fun
  | [] => { results := [.lit (.bool false)], args := [] }
  | _ => none }
def FnExactConstantsWrongFalsely : Prop := fnExactConstantsRow.holds Try.pinned (OpenSpec.ofChange fnExactConstantsWrong)

/-- 'laws.FnExactEqual': WHATEVER THE INPUT: true; the input reads as it did. -/
def fnExactEqualSpec : ChangeSpec := { name := "fnExactEqual", fn := fun _ => fun
  | [d1, d2] => { results := [.lit (.bool true)], args := [d1, d2] }
  | _ => none }
def fnExactEqualRow : OpenClaim := { program := "ytlhiaajacfganaa", sum := "28fa7c753a926eca488e007847a03e2580de9fcd66aa3f36681375651932414e", func := "loop.example/g00043/laws.FnExactEqual", spec := "fnExactEqual", apart := false }
def FnExactEqualSaid : Prop := fnExactEqualRow.holds Try.pinned (OpenSpec.ofChange fnExactEqualSpec)

/-- ITS FALSE NEIGHBOUR: 'it returns false'. Refute it at one input. -/
def fnExactEqualWrong : ChangeSpec := { name := "fnExactEqual", fn := fun _ => fun
  | [d1, d2] => { results := [.lit (.bool false)], args := [d1, d2] }
  | _ => none }
def FnExactEqualWrongFalsely : Prop := fnExactEqualRow.holds Try.pinned (OpenSpec.ofChange fnExactEqualWrong)

/-- 'laws.FnExactPower2': WHATEVER THE INPUT: true; the input reads as it did. -/
def fnExactPower2Spec : ChangeSpec := { name := "fnExactPower2", fn := fun _ => fun
  | [d] => { results := [.lit (.bool true)], args := [d] }
  | _ => none }
def fnExactPower2Row : OpenClaim := { program := "ytlhiaajacfganaa", sum := "28fa7c753a926eca488e007847a03e2580de9fcd66aa3f36681375651932414e", func := "loop.example/g00043/laws.FnExactPower2", spec := "fnExactPower2", apart := false }
def FnExactPower2Said : Prop := fnExactPower2Row.holds Try.pinned (OpenSpec.ofChange fnExactPower2Spec)

/-- ITS FALSE NEIGHBOUR: 'it returns false'. Refute it at one input. -/
def fnExactPower2Wrong : ChangeSpec := { name := "fnExactPower2", fn := fun _ => fun
  | [d] => { results := [.lit (.bool false)], args := [d] }
  | _ => none }
def FnExactPower2WrongFalsely : Prop := fnExactPower2Row.holds Try.pinned (OpenSpec.ofChange fnExactPower2Wrong)

/-- 'laws.FnExactTwoSum': WHATEVER THE INPUT: true; the input reads as it did. -/
def fnExactTwoSumSpec : ChangeSpec := { name := "fnExactTwoSum", fn := fun _ => fun
  | [d1, d2] => { results := [.lit (.bool true)], args := [d1, d2] }
  | _ => none }
def fnExactTwoSumRow : OpenClaim := { program := "ytlhiaajacfganaa", sum := "28fa7c753a926eca488e007847a03e2580de9fcd66aa3f36681375651932414e", func := "loop.example/g00043/laws.FnExactTwoSum", spec := "fnExactTwoSum", apart := false }
def FnExactTwoSumSaid : Prop := fnExactTwoSumRow.holds Try.pinned (OpenSpec.ofChange fnExactTwoSumSpec)

/-- ITS FALSE NEIGHBOUR: 'it returns false'. Refute it at one input. -/
def fnExactTwoSumWrong : ChangeSpec := { name := "fnExactTwoSum", fn := fun _ => fun
  | [d1, d2] => { results := [.lit (.bool false)], args := [d1, d2] }
  | _ => none }
def FnExactTwoSumWrongFalsely : Prop := fnExactTwoSumRow.holds Try.pinned (OpenSpec.ofChange fnExactTwoSumWrong)

/-- 'laws.FnExactClip': WHATEVER THE INPUT: true; the input reads as it did. -/
def fnExactClipSpec : ChangeSpec := { name := "fnExactClip", fn := fun _ => fun
  | [d1, d2] => { results := [.lit (.bool true)], args := [d1, d2] }
  | _ => none }
def fnExactClipRow : OpenClaim := { program := "ytlhiaajacfganaa", sum := "28fa7c753a926eca488e007847a03e2580de9fcd66aa3f36681375651932414e", func := "loop.example/g00043/laws.FnExactClip", spec := "fnExactClip", apart := false }
def FnExactClipSaid : Prop := fnExactClipRow.holds Try.pinned (OpenSpec.ofChange fnExactClipSpec)

/-- ITS FALSE NEIGHBOUR: 'it returns false'. Refute it at one input. -/
def fnExactClipWrong : ChangeSpec := { name := "fnExactClip", fn := fun _ => fun
  | [d1, d2] => { results := [.lit (.bool false)], args := [d1, d2] }
  | _ => none }
def FnExactClipWrongFalsely : Prop := fnExactClipRow.holds Try.pinned (OpenSpec.ofChange fnExactClipWrong)

/-- 'laws.FnExactBar': WHATEVER THE INPUT: true; the input reads as it did. -/
def fnExactBarSpec : ChangeSpec := { name := "fnExactBar", fn := fun _ => fun
  | [d] => { results := [.lit (.bool true)], args := [d] }
  | _ => none }
def fnExactBarRow : OpenClaim := { program := "ytlhiaajacfganaa", sum := "28fa7c753a926eca488e007847a03e2580de9fcd66aa3f36681375651932414e", func := "loop.example/g00043/laws.FnExactBar", spec := "fnExactBar", apart := false }
def FnExactBarSaid : Prop := fnExactBarRow.holds Try.pinned (OpenSpec.ofChange fnExactBarSpec)

/-- ITS FALSE NEIGHBOUR: 'it returns false'. Refute it at one input. -/
def fnExactBarWrong : ChangeSpec := { name := "fnExactBar", fn := fun _ => fun
  | [d] => { results := [.lit (.bool false)], args := [d] }
  | _ => none }
def FnExactBarWrongFalsely : Prop := fnExactBarRow.holds Try.pinned (OpenSpec.ofChange fnExactBarWrong)

/-- 'laws.FnExactAddPair': WHATEVER THE INPUT: true; the input reads as it did. -/
def fnExactAddPairSpec : ChangeSpec := { name := "fnExactAddPair", fn := fun _ => fun
  | [d1, d2] => { results := [.lit (.bool true)], args := [d1, d2] }
  | _ => none }
def fnExactAddPairRow : OpenClaim := { program := "ytlhiaajacfganaa", sum := "28fa7c753a926eca488e007847a03e2580de9fcd66aa3f36681375651932414e", func := "loop.example/g00043/laws.FnExactAddPair", spec := "fnExactAddPair", apart := false }
def FnExactAddPairSaid : Prop := fnExactAddPairRow.holds Try.pinned (OpenSpec.ofChange fnExactAddPairSpec)

/-- ITS FALSE NEIGHBOUR: 'it returns false'. Refute it at one input. -/
def fnExactAddPairWrong : ChangeSpec := { name := "fnExactAddPair", fn := fun _ => fun
  | [d1, d2] => { results := [.lit (.bool false)], args := [d1, d2] }
  | _ => none }
def FnExactAddPairWrongFalsely : Prop := fnExactAddPairRow.holds Try.pinned (OpenSpec.ofChange fnExactAddPairWrong)

/-- 'laws.FnExactSubPair': WHATEVER THE INPUT: true; the input reads as it did. -/
def fnExactSubPairSpec : ChangeSpec := { name := "fnExactSubPair", fn := fun _ => fun
  | [d1, d2] => { results := [.lit (.bool true)], args := [d1, d2] }
  | _ => none }
def fnExactSubPairRow : OpenClaim := { program := "ytlhiaajacfganaa", sum := "28fa7c753a926eca488e007847a03e2580de9fcd66aa3f36681375651932414e", func := "loop.example/g00043/laws.FnExactSubPair", spec := "fnExactSubPair", apart := false }
def FnExactSubPairSaid : Prop := fnExactSubPairRow.holds Try.pinned (OpenSpec.ofChange fnExactSubPairSpec)

/-- ITS FALSE NEIGHBOUR: 'it returns false'. Refute it at one input. -/
def fnExactSubPairWrong : ChangeSpec := { name := "fnExactSubPair", fn := fun _ => fun
  | [d1, d2] => { results := [.lit (.bool false)], args := [d1, d2] }
  | _ => none }
def FnExactSubPairWrongFalsely : Prop := fnExactSubPairRow.holds Try.pinned (OpenSpec.ofChange fnExactSubPairWrong)

/-- 'laws.FnExactMulPair': WHATEVER THE INPUT: true; the input reads as it did. -/
def fnExactMulPairSpec : ChangeSpec := { name := "fnExactMulPair", fn := fun _ => fun
  | [d1, d2] => { results := [.lit (.bool true)], args := [d1, d2] }
  | _ => none }
def fnExactMulPairRow : OpenClaim := { program := "ytlhiaajacfganaa", sum := "28fa7c753a926eca488e007847a03e2580de9fcd66aa3f36681375651932414e", func := "loop.example/g00043/laws.FnExactMulPair", spec := "fnExactMulPair", apart := false }
def FnExactMulPairSaid : Prop := fnExactMulPairRow.holds Try.pinned (OpenSpec.ofChange fnExactMulPairSpec)

/-- ITS FALSE NEIGHBOUR: 'it returns false'. Refute it at one input. -/
def fnExactMulPairWrong : ChangeSpec := { name := "fnExactMulPair", fn := fun _ => fun
  | [d1, d2] => { results := [.lit (.bool false)], args := [d1, d2] }
  | _ => none }
def FnExactMulPairWrongFalsely : Prop := fnExactMulPairRow.holds Try.pinned (OpenSpec.ofChange fnExactMulPairWrong)

/-- 'laws.FnExactDivPair': WHATEVER THE INPUT: true; the input reads as it did. -/
def fnExactDivPairSpec : ChangeSpec := { name := "fnExactDivPair", fn := fun _ => fun
  | [d1, d2] => { results := [.lit (.bool true)], args := [d1, d2] }
  | _ => none }
def fnExactDivPairRow : OpenClaim := { program := "ytlhiaajacfganaa", sum := "28fa7c753a926eca488e007847a03e2580de9fcd66aa3f36681375651932414e", func := "loop.example/g00043/laws.FnExactDivPair", spec := "fnExactDivPair", apart := false }
def FnExactDivPairSaid : Prop := fnExactDivPairRow.holds Try.pinned (OpenSpec.ofChange fnExactDivPairSpec)

/-- ITS FALSE NEIGHBOUR: 'it returns false'. Refute it at one input. -/
def fnExactDivPairWrong : ChangeSpec := { name := "fnExactDivPair", fn := fun _ => fun
  | [d1, d2] => { results := [.lit (.bool false)], args := [d1, d2] }
  | _ => none }
def FnExactDivPairWrongFalsely : Prop := fnExactDivPairRow.holds Try.pinned (OpenSpec.ofChange fnExactDivPairWrong)

/-- 'laws.FnExactPowPair': WHATEVER THE INPUT: true; the input reads as it did. -/
def fnExactPowPairSpec : ChangeSpec := { name := "fnExactPowPair", fn := fun _ => fun
  | [d1, d2] => { results := [.lit (.bool true)], args := [d1, d2] }
  | _ => none }
def fnExactPowPairRow : OpenClaim := { program := "ytlhiaajacfganaa", sum := "28fa7c753a926eca488e007847a03e2580de9fcd66aa3f36681375651932414e", func := "loop.example/g00043/laws.FnExactPowPair", spec := "fnExactPowPair", apart := false }
def FnExactPowPairSaid : Prop := fnExactPowPairRow.holds Try.pinned (OpenSpec.ofChange fnExactPowPairSpec)

/-- ITS FALSE NEIGHBOUR: 'it returns false'. Refute it at one input. -/
def fnExactPowPairWrong : ChangeSpec := { name := "fnExactPowPair", fn := fun _ => fun
  | [d1, d2] => { results := [.lit (.bool false)], args := [d1, d2] }
  | _ => none }
def FnExactPowPairWrongFalsely : Prop := fnExactPowPairRow.holds Try.pinned (OpenSpec.ofChange fnExactPowPairWrong)

/-- 'laws.FnPairs': WHATEVER THE INPUT: true; the input reads as it did. -/
def fnPairsSpec : ChangeSpec := { name := "fnPairs", fn := fun _ => fun
  | [d] => { results := [.lit (.bool true)], args := [d] }
  | _ => none }
def fnPairsRow : OpenClaim := { program := "ytlhiaajacfganaa", sum := "28fa7c753a926eca488e007847a03e2580de9fcd66aa3f36681375651932414e", func := "loop.example/g00043/laws.FnPairs", spec := "fnPairs", apart := false }
def FnPairsSaid : Prop := fnPairsRow.holds Try.pinned (OpenSpec.ofChange fnPairsSpec)

/-- ITS FALSE NEIGHBOUR: 'it returns false'. Refute it at one input. -/
def fnPairsWrong : ChangeSpec := { name := "fnPairs", fn := fun _ => fun
  | [d] => { results := [.lit (.bool false)], args := [d] }
  | _ => none }
def FnPairsWrongFalsely : Prop := fnPairsRow.holds Try.pinned (OpenSpec.ofChange fnPairsWrong)

/- THE SECOND FORM. 'bulk': how many values and letters a reading holds, each counted each time it is reached (what is shared counts as often as it is met; a slice's spare places count too). A statement '..UptoSaid' is the law's where the arguments, and the package variables that the reading takes, are together of bulk at most 1048576: NARROWER than '..Said'. Prove '..Said' where nothing that the law and all that it calls make is longer than what came in: it says more and counts as full. Else prove '..UptoSaid'. A law counts once. -/
mutual
def uptoBulk {H : Type} : DataW H → Nat
  | .lit (.string bytes) => bytes.length + 1
  | .lit _ => 1
  | .nil => 1
  | .ptr d => uptoBulk d + 1
  | .slice elems spare => uptoBulkAll elems + uptoBulkAll spare + 1
  | .agg parts => uptoBulkAll parts + 1
  | .iface _ d => uptoBulk d + 1
  | .map entries => uptoBulkEntries entries + 1
  | .held _ => 1
def uptoBulkAll {H : Type} : List (DataW H) → Nat
  | [] => 0
  | d :: r => uptoBulk d + uptoBulkAll r
def uptoBulkEntries {H : Type} : List (Lit × DataW H) → Nat
  | [] => 0
  | x :: r => uptoBulkEntry x + uptoBulkEntries r
def uptoBulkEntry {H : Type} : Lit × DataW H → Nat
  | (.string bytes, d) => bytes.length + uptoBulk d + 1
  | (_, d) => uptoBulk d + 1
 end
def uptoSmall : (H : Type) → List (DataW H) → Bool := fun _ ds => decide (uptoBulkAll ds ≤ 1048576)
def OpenSpec.upto (s : _root_.Go.ChangeSpec) : _root_.Go.OpenSpec := { _root_.Go.OpenSpec.ofChange s with cond := some uptoSmall }

/-- 'laws.FnExactConstants', WHERE WHAT IT READS IS OF BULK AT MOST 1048576: true; the input reads as it did. -/
def fnExactConstantsUptoRow : OpenClaim := { program := "ytlhiaajacfganaa", sum := "28fa7c753a926eca488e007847a03e2580de9fcd66aa3f36681375651932414e", func := "loop.example/g00043/laws.FnExactConstants", spec := "fnExactConstants", apart := false, narrowed := true }
def FnExactConstantsUptoSaid : Prop := fnExactConstantsUptoRow.holds Try.pinned (OpenSpec.upto fnExactConstantsSpec)

/-- 'laws.FnExactEqual', WHERE WHAT IT READS IS OF BULK AT MOST 1048576: true; the input reads as it did. -/
def fnExactEqualUptoRow : OpenClaim := { program := "ytlhiaajacfganaa", sum := "28fa7c753a926eca488e007847a03e2580de9fcd66aa3f36681375651932414e", func := "loop.example/g00043/laws.FnExactEqual", spec := "fnExactEqual", apart := false, narrowed := true }
def FnExactEqualUptoSaid : Prop := fnExactEqualUptoRow.holds Try.pinned (OpenSpec.upto fnExactEqualSpec)

/-- 'laws.FnExactPower2', WHERE WHAT IT READS IS OF BULK AT MOST 1048576: true; the input reads as it did. -/
def fnExactPower2UptoRow : OpenClaim := { program := "ytlhiaajacfganaa", sum := "28fa7c753a926eca488e007847a03e2580de9fcd66aa3f36681375651932414e", func := "loop.example/g00043/laws.FnExactPower2", spec := "fnExactPower2", apart := false, narrowed := true }
def FnExactPower2UptoSaid : Prop := fnExactPower2UptoRow.holds Try.pinned (OpenSpec.upto fnExactPower2Spec)

/-- 'laws.FnExactTwoSum', WHERE WHAT IT READS IS OF BULK AT MOST 1048576: true; the input reads as it did. -/
def fnExactTwoSumUptoRow : OpenClaim := { program := "ytlhiaajacfganaa", sum := "28fa7c753a926eca488e007847a03e2580de9fcd66aa3f36681375651932414e", func := "loop.example/g00043/laws.FnExactTwoSum", spec := "fnExactTwoSum", apart := false, narrowed := true }
def FnExactTwoSumUptoSaid : Prop := fnExactTwoSumUptoRow.holds Try.pinned (OpenSpec.upto fnExactTwoSumSpec)

/-- 'laws.FnExactClip', WHERE WHAT IT READS IS OF BULK AT MOST 1048576: true; the input reads as it did. -/
def fnExactClipUptoRow : OpenClaim := { program := "ytlhiaajacfganaa", sum := "28fa7c753a926eca488e007847a03e2580de9fcd66aa3f36681375651932414e", func := "loop.example/g00043/laws.FnExactClip", spec := "fnExactClip", apart := false, narrowed := true }
def FnExactClipUptoSaid : Prop := fnExactClipUptoRow.holds Try.pinned (OpenSpec.upto fnExactClipSpec)

/-- 'laws.FnExactBar', WHERE WHAT IT READS IS OF BULK AT MOST 1048576: true; the input reads as it did. -/
def fnExactBarUptoRow : OpenClaim := { program := "ytlhiaajacfganaa", sum := "28fa7c753a926eca488e007847a03e2580de9fcd66aa3f36681375651932414e", func := "loop.example/g00043/laws.FnExactBar", spec := "fnExactBar", apart := false, narrowed := true }
def FnExactBarUptoSaid : Prop := fnExactBarUptoRow.holds Try.pinned (OpenSpec.upto fnExactBarSpec)

/-- 'laws.FnExactAddPair', WHERE WHAT IT READS IS OF BULK AT MOST 1048576: true; the input reads as it did. -/
def fnExactAddPairUptoRow : OpenClaim := { program := "ytlhiaajacfganaa", sum := "28fa7c753a926eca488e007847a03e2580de9fcd66aa3f36681375651932414e", func := "loop.example/g00043/laws.FnExactAddPair", spec := "fnExactAddPair", apart := false, narrowed := true }
def FnExactAddPairUptoSaid : Prop := fnExactAddPairUptoRow.holds Try.pinned (OpenSpec.upto fnExactAddPairSpec)

/-- 'laws.FnExactSubPair', WHERE WHAT IT READS IS OF BULK AT MOST 1048576: true; the input reads as it did. -/
def fnExactSubPairUptoRow : OpenClaim := { program := "ytlhiaajacfganaa", sum := "28fa7c753a926eca488e007847a03e2580de9fcd66aa3f36681375651932414e", func := "loop.example/g00043/laws.FnExactSubPair", spec := "fnExactSubPair", apart := false, narrowed := true }
def FnExactSubPairUptoSaid : Prop := fnExactSubPairUptoRow.holds Try.pinned (OpenSpec.upto fnExactSubPairSpec)

/-- 'laws.FnExactMulPair', WHERE WHAT IT READS IS OF BULK AT MOST 1048576: true; the input reads as it did. -/
def fnExactMulPairUptoRow : OpenClaim := { program := "ytlhiaajacfganaa", sum := "28fa7c753a926eca488e007847a03e2580de9fcd66aa3f36681375651932414e", func := "loop.example/g00043/laws.FnExactMulPair", spec := "fnExactMulPair", apart := false, narrowed := true }
def FnExactMulPairUptoSaid : Prop := fnExactMulPairUptoRow.holds Try.pinned (OpenSpec.upto fnExactMulPairSpec)

/-- 'laws.FnExactDivPair', WHERE WHAT IT READS IS OF BULK AT MOST 1048576: true; the input reads as it did. -/
def fnExactDivPairUptoRow : OpenClaim := { program := "ytlhiaajacfganaa", sum := "28fa7c753a926eca488e007847a03e2580de9fcd66aa3f36681375651932414e", func := "loop.example/g00043/laws.FnExactDivPair", spec := "fnExactDivPair", apart := false, narrowed := true }
def FnExactDivPairUptoSaid : Prop := fnExactDivPairUptoRow.holds Try.pinned (OpenSpec.upto fnExactDivPairSpec)

/-- 'laws.FnExactPowPair', WHERE WHAT IT READS IS OF BULK AT MOST 1048576: true; the input reads as it did. -/
def fnExactPowPairUptoRow : OpenClaim := { program := "ytlhiaajacfganaa", sum := "28fa7c753a926eca488e007847a03e2580de9fcd66aa3f36681375651932414e", func := "loop.example/g00043/laws.FnExactPowPair", spec := "fnExactPowPair", apart := false, narrowed := true }
def FnExactPowPairUptoSaid : Prop := fnExactPowPairUptoRow.holds Try.pinned (OpenSpec.upto fnExactPowPairSpec)

/-- 'laws.FnPairs', WHERE WHAT IT READS IS OF BULK AT MOST 1048576: true; the input reads as it did. -/
def fnPairsUptoRow : OpenClaim := { program := "ytlhiaajacfganaa", sum := "28fa7c753a926eca488e007847a03e2580de9fcd66aa3f36681375651932414e", func := "loop.example/g00043/laws.FnPairs", spec := "fnPairs", apart := false, narrowed := true }
def FnPairsUptoSaid : Prop := fnPairsUptoRow.holds Try.pinned (OpenSpec.upto fnPairsSpec)

end Rows
end Go.Proofs.Ytlhiaajacfganaa
