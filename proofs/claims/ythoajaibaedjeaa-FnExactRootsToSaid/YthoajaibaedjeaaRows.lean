/-
  No cell of these rows narrows 'for every input' (looked for: loops, veiled, ifaces, maps, wideKeys, modest, calm, conditions, laid).
  DERIVED. THE GIVEN ROWS OF THIS SEAT. 8 by the template 'for every input the law returns true; each argument reads behind the call as it read before'; 0 by the template 'total and deterministic' (their statements: YthoajaibaedjeaaTotals.lean).
  GIVEN WITH THE SEED: the statements are not yours to turn. If you find one false, say at which input.
  Laid BY PROGRAM, IN A SANDBOX (cutbox-rows.mjs): the forced cells as the released guide's own fill.sh prints them over the translation 4c1a11fab0c50168… (all of the seat's roots in one cut). By AI agents, Wed Nov 11 2026. No macro, syntax, notation, axiom, sorry.
-/
import Derived.Test.YthoajaibaedjeaaChecked
import GoSem.Claim
import GoSem.ClaimJoined
import GoSem.ClaimMapViews
import Derived.JoinedTies
import Derived.KernelRfl
namespace Go.Proofs.Ythoajaibaedjeaa
/- THE CELL 'sum', in the pinned program and in every row, IS THE sha256 OF THE DUMP (.gsa) THAT YthoajaibaedjeaaProg.lean LOADS. Nothing in Lean hashes anything: it is a label: what it is worth is what the hold of that sum in a sandbox is worth. -/
noncomputable def Try.pinned : Pinned := { name := "ythoajaibaedjeaa", sum := "4c1a11fab0c5016817ff682f335fd4bcb3e7b6f19665e0976c01214213a7f3ac", checked := Try.checked }
namespace Rows
def none {H : Type} : Left H := { results := [], args := [] }

/-- 'laws.FnExactPowPair': WHATEVER THE INPUT: true; the input reads as it did. -/
def fnExactPowPairSpec : ChangeSpec := { name := "fnExactPowPair", fn := fun _ => fun
  | [d1, d2] => { results := [.lit (.bool true)], args := [d1, d2] }
  | _ => none }
def fnExactPowPairRow : OpenClaim := { program := "ythoajaibaedjeaa", sum := "4c1a11fab0c5016817ff682f335fd4bcb3e7b6f19665e0976c01214213a7f3ac", func := "loop.example/g00043/laws.FnExactPowPair", spec := "fnExactPowPair", apart := false }
def FnExactPowPairSaid : Prop := fnExactPowPairRow.holds Try.pinned (OpenSpec.ofChange fnExactPowPairSpec)

/-- ITS FALSE NEIGHBOUR: 'it returns false'. Refute it at one input. -/
def fnExactPowPairWrong : ChangeSpec := { name := "fnExactPowPair", fn := fun _ => fun
  | [d1, d2] => { results := [.lit (.bool false)], args := [d1, d2] }
  | _ => none }
def FnExactPowPairWrongFalsely : Prop := fnExactPowPairRow.holds Try.pinned (OpenSpec.ofChange fnExactPowPairWrong)

/-- 'laws.FnPairs': WHATEVER THE INPUT: true; the input reads as it did. -/
def fnPairsSpec : ChangeSpec := { name := "fnPairs", fn := fun _ => fun
  | [d] => { results := [.lit (.bool true)], args := [d] }
  | _ => none }
def fnPairsRow : OpenClaim := { program := "ythoajaibaedjeaa", sum := "4c1a11fab0c5016817ff682f335fd4bcb3e7b6f19665e0976c01214213a7f3ac", func := "loop.example/g00043/laws.FnPairs", spec := "fnPairs", apart := false }
def FnPairsSaid : Prop := fnPairsRow.holds Try.pinned (OpenSpec.ofChange fnPairsSpec)

/-- ITS FALSE NEIGHBOUR: 'it returns false'. Refute it at one input. -/
def fnPairsWrong : ChangeSpec := { name := "fnPairs", fn := fun _ => fun
  | [d] => { results := [.lit (.bool false)], args := [d] }
  | _ => none }
def FnPairsWrongFalsely : Prop := fnPairsRow.holds Try.pinned (OpenSpec.ofChange fnPairsWrong)

/-- 'laws.FnCutOff': WHATEVER THE INPUT: true; the input reads as it did. -/
def fnCutOffSpec : ChangeSpec := { name := "fnCutOff", fn := fun _ => fun
  | [d] => { results := [.lit (.bool true)], args := [d] }
  | _ => none }
def fnCutOffRow : OpenClaim := { program := "ythoajaibaedjeaa", sum := "4c1a11fab0c5016817ff682f335fd4bcb3e7b6f19665e0976c01214213a7f3ac", func := "loop.example/g00043/laws.FnCutOff", spec := "fnCutOff", apart := false }
def FnCutOffSaid : Prop := fnCutOffRow.holds Try.pinned (OpenSpec.ofChange fnCutOffSpec)

/-- ITS FALSE NEIGHBOUR: 'it returns false'. Refute it at one input. -/
def fnCutOffWrong : ChangeSpec := { name := "fnCutOff", fn := fun _ => fun
  | [d] => { results := [.lit (.bool false)], args := [d] }
  | _ => none }
def FnCutOffWrongFalsely : Prop := fnCutOffRow.holds Try.pinned (OpenSpec.ofChange fnCutOffWrong)

/-- 'laws.FnExactNear': WHATEVER THE INPUT: true; the input reads as it did. -/
def fnExactNearSpec : ChangeSpec := { name := "fnExactNear", fn := fun _ => fun
  | [d] => { results := [.lit (.bool true)], args := [d] }
  | _ => none }
def fnExactNearRow : OpenClaim := { program := "ythoajaibaedjeaa", sum := "4c1a11fab0c5016817ff682f335fd4bcb3e7b6f19665e0976c01214213a7f3ac", func := "loop.example/g00043/laws.FnExactNear", spec := "fnExactNear", inPlace := ["math.RoundToEven", "math.Float64bits", "math.Float64frombits"], apart := false }
def FnExactNearSaid : Prop := fnExactNearRow.holds Try.pinned (OpenSpec.ofChange fnExactNearSpec)

/-- ITS FALSE NEIGHBOUR: 'it returns false'. Refute it at one input. -/
def fnExactNearWrong : ChangeSpec := { name := "fnExactNear", fn := fun _ => fun
  | [d] => { results := [.lit (.bool false)], args := [d] }
  | _ => none }
def FnExactNearWrongFalsely : Prop := fnExactNearRow.holds Try.pinned (OpenSpec.ofChange fnExactNearWrong)

/-- 'laws.FnExactPolyPair': WHATEVER THE INPUT: true; the input reads as it did. -/
def fnExactPolyPairSpec : ChangeSpec := { name := "fnExactPolyPair", fn := fun _ => fun
  | [d1, d2] => { results := [.lit (.bool true)], args := [d1, d2] }
  | _ => none }
def fnExactPolyPairRow : OpenClaim := { program := "ythoajaibaedjeaa", sum := "4c1a11fab0c5016817ff682f335fd4bcb3e7b6f19665e0976c01214213a7f3ac", func := "loop.example/g00043/laws.FnExactPolyPair", spec := "fnExactPolyPair", apart := false }
def FnExactPolyPairSaid : Prop := fnExactPolyPairRow.holds Try.pinned (OpenSpec.ofChange fnExactPolyPairSpec)

/-- ITS FALSE NEIGHBOUR: 'it returns false'. Refute it at one input. -/
def fnExactPolyPairWrong : ChangeSpec := { name := "fnExactPolyPair", fn := fun _ => fun
  | [d1, d2] => { results := [.lit (.bool false)], args := [d1, d2] }
  | _ => none }
def FnExactPolyPairWrongFalsely : Prop := fnExactPolyPairRow.holds Try.pinned (OpenSpec.ofChange fnExactPolyPairWrong)

/-- 'laws.FnExactSumPairs': WHATEVER THE INPUT: true; the input reads as it did. -/
def fnExactSumPairsSpec : ChangeSpec := { name := "fnExactSumPairs", fn := fun _ => fun
  | [d1, d2] => { results := [.lit (.bool true)], args := [d1, d2] }
  | _ => none }
def fnExactSumPairsRow : OpenClaim := { program := "ythoajaibaedjeaa", sum := "4c1a11fab0c5016817ff682f335fd4bcb3e7b6f19665e0976c01214213a7f3ac", func := "loop.example/g00043/laws.FnExactSumPairs", spec := "fnExactSumPairs", apart := false }
def FnExactSumPairsSaid : Prop := fnExactSumPairsRow.holds Try.pinned (OpenSpec.ofChange fnExactSumPairsSpec)

/-- ITS FALSE NEIGHBOUR: 'it returns false'. Refute it at one input. -/
def fnExactSumPairsWrong : ChangeSpec := { name := "fnExactSumPairs", fn := fun _ => fun
  | [d1, d2] => { results := [.lit (.bool false)], args := [d1, d2] }
  | _ => none }
def FnExactSumPairsWrongFalsely : Prop := fnExactSumPairsRow.holds Try.pinned (OpenSpec.ofChange fnExactSumPairsWrong)

/-- 'laws.FnExactRootsTo': WHATEVER THE INPUT: true; the input reads as it did. -/
def fnExactRootsToSpec : ChangeSpec := { name := "fnExactRootsTo", fn := fun _ => fun
  | [d] => { results := [.lit (.bool true)], args := [d] }
  | _ => none }
def fnExactRootsToRow : OpenClaim := { program := "ythoajaibaedjeaa", sum := "4c1a11fab0c5016817ff682f335fd4bcb3e7b6f19665e0976c01214213a7f3ac", func := "loop.example/g00043/laws.FnExactRootsTo", spec := "fnExactRootsTo", apart := false }
def FnExactRootsToSaid : Prop := fnExactRootsToRow.holds Try.pinned (OpenSpec.ofChange fnExactRootsToSpec)

/-- ITS FALSE NEIGHBOUR: 'it returns false'. Refute it at one input. -/
def fnExactRootsToWrong : ChangeSpec := { name := "fnExactRootsTo", fn := fun _ => fun
  | [d] => { results := [.lit (.bool false)], args := [d] }
  | _ => none }
def FnExactRootsToWrongFalsely : Prop := fnExactRootsToRow.holds Try.pinned (OpenSpec.ofChange fnExactRootsToWrong)

/-- 'laws.FnWorkersSum': WHATEVER THE INPUT: true; the input reads as it did. -/
def fnWorkersSumSpec : ChangeSpec := { name := "fnWorkersSum", fn := fun _ => fun
  | [d] => { results := [.lit (.bool true)], args := [d] }
  | _ => none }
def fnWorkersSumRow : OpenClaim := { program := "ythoajaibaedjeaa", sum := "4c1a11fab0c5016817ff682f335fd4bcb3e7b6f19665e0976c01214213a7f3ac", func := "loop.example/g00043/laws.FnWorkersSum", spec := "fnWorkersSum", apart := false }
def FnWorkersSumSaid : Prop := fnWorkersSumRow.holds Try.pinned (OpenSpec.ofChange fnWorkersSumSpec)

/-- ITS FALSE NEIGHBOUR: 'it returns false'. Refute it at one input. -/
def fnWorkersSumWrong : ChangeSpec := { name := "fnWorkersSum", fn := fun _ => fun
  | [d] => { results := [.lit (.bool false)], args := [d] }
  | _ => none }
def FnWorkersSumWrongFalsely : Prop := fnWorkersSumRow.holds Try.pinned (OpenSpec.ofChange fnWorkersSumWrong)

/- THE SECOND FORM. 'bulk': how many values and letters a reading holds, each counted each time it is reached (what is shared counts as often as it is met; a slice's spare places count too). A statement '..UptoSaid' is the law's where the arguments, and the package variables that the reading takes, are together of bulk at most 1048576: NARROWER than '..Said'. Prove '..Said' where nothing that the law and all that it calls make is longer than what came in: it says more and counts as full. Else prove '..UptoSaid'. A law counts once. -/
mutual
def uptoBulk {H : Type} : DataW H → Nat
  | .lit (.string bytes) => bytes.length + 1
  | .lit _ => 1
  | .nil => 1
  | .ptr d => uptoBulk d + 1
  | .slice elems spare => uptoBulkAll elems + uptoBulkAll spare + 1
  | .agg parts => uptoBulkAll parts + 1
  | .iface _ d => uptoBulk d + 1
  | .map entries => uptoBulkEntries entries + 1
  | .held _ => 1
def uptoBulkAll {H : Type} : List (DataW H) → Nat
  | [] => 0
  | d :: r => uptoBulk d + uptoBulkAll r
def uptoBulkEntries {H : Type} : List (Lit × DataW H) → Nat
  | [] => 0
  | x :: r => uptoBulkEntry x + uptoBulkEntries r
def uptoBulkEntry {H : Type} : Lit × DataW H → Nat
  | (.string bytes, d) => bytes.length + uptoBulk d + 1
  | (_, d) => uptoBulk d + 1
 end
def uptoSmall : (H : Type) → List (DataW H) → Bool := fun _ ds => decide (uptoBulkAll ds ≤ 1048576)
def OpenSpec.upto (s : _root_.Go.ChangeSpec) : _root_.Go.OpenSpec := { _root_.Go.OpenSpec.ofChange s with cond := some uptoSmall }

/-- 'laws.FnExactPowPair', WHERE WHAT IT READS IS OF BULK AT MOST 1048576: true; the input reads as it did. -/
def fnExactPowPairUptoRow : OpenClaim := { program := "ythoajaibaedjeaa", sum := "4c1a11fab0c5016817ff682f335fd4bcb3e7b6f19665e0976c01214213a7f3ac", func := "loop.example/g00043/laws.FnExactPowPair", spec := "fnExactPowPair", apart := false, narrowed := true }
def FnExactPowPairUptoSaid : Prop := fnExactPowPairUptoRow.holds Try.pinned (OpenSpec.upto fnExactPowPairSpec)

/-- 'laws.FnPairs', WHERE WHAT IT READS IS OF BULK AT MOST 1048576: true; the input reads as it did. -/
def fnPairsUptoRow : OpenClaim := { program := "ythoajaibaedjeaa", sum := "4c1a11fab0c5016817ff682f335fd4bcb3e7b6f19665e0976c01214213a7f3ac", func := "loop.example/g00043/laws.FnPairs", spec := "fnPairs", apart := false, narrowed := true }
def FnPairsUptoSaid : Prop := fnPairsUptoRow.holds Try.pinned (OpenSpec.upto fnPairsSpec)

/-- 'laws.FnCutOff', WHERE WHAT IT READS IS OF BULK AT MOST 1048576: true; the input reads as it did. -/
def fnCutOffUptoRow : OpenClaim := { program := "ythoajaibaedjeaa", sum := "4c1a11fab0c5016817ff682f335fd4bcb3e7b6f19665e0976c01214213a7f3ac", func := "loop.example/g00043/laws.FnCutOff", spec := "fnCutOff", apart := false, narrowed := true }
def FnCutOffUptoSaid : Prop := fnCutOffUptoRow.holds Try.pinned (OpenSpec.upto fnCutOffSpec)

/-- 'laws.FnExactNear', WHERE WHAT IT READS IS OF BULK AT MOST 1048576: true; the input reads as it did. -/
def fnExactNearUptoRow : OpenClaim := { program := "ythoajaibaedjeaa", sum := "4c1a11fab0c5016817ff682f335fd4bcb3e7b6f19665e0976c01214213a7f3ac", func := "loop.example/g00043/laws.FnExactNear", spec := "fnExactNear", inPlace := ["math.RoundToEven", "math.Float64bits", "math.Float64frombits"], apart := false, narrowed := true }
def FnExactNearUptoSaid : Prop := fnExactNearUptoRow.holds Try.pinned (OpenSpec.upto fnExactNearSpec)

/-- 'laws.FnExactPolyPair', WHERE WHAT IT READS IS OF BULK AT MOST 1048576: true; the input reads as it did. -/
def fnExactPolyPairUptoRow : OpenClaim := { program := "ythoajaibaedjeaa", sum := "4c1a11fab0c5016817ff682f335fd4bcb3e7b6f19665e0976c01214213a7f3ac", func := "loop.example/g00043/laws.FnExactPolyPair", spec := "fnExactPolyPair", apart := false, narrowed := true }
def FnExactPolyPairUptoSaid : Prop := fnExactPolyPairUptoRow.holds Try.pinned (OpenSpec.upto fnExactPolyPairSpec)

/-- 'laws.FnExactSumPairs', WHERE WHAT IT READS IS OF BULK AT MOST 1048576: true; the input reads as it did. -/
def fnExactSumPairsUptoRow : OpenClaim := { program := "ythoajaibaedjeaa", sum := "4c1a11fab0c5016817ff682f335fd4bcb3e7b6f19665e0976c01214213a7f3ac", func := "loop.example/g00043/laws.FnExactSumPairs", spec := "fnExactSumPairs", apart := false, narrowed := true }
def FnExactSumPairsUptoSaid : Prop := fnExactSumPairsUptoRow.holds Try.pinned (OpenSpec.upto fnExactSumPairsSpec)

/-- 'laws.FnExactRootsTo', WHERE WHAT IT READS IS OF BULK AT MOST 1048576: true; the input reads as it did. -/
def fnExactRootsToUptoRow : OpenClaim := { program := "ythoajaibaedjeaa", sum := "4c1a11fab0c5016817ff682f335fd4bcb3e7b6f19665e0976c01214213a7f3ac", func := "loop.example/g00043/laws.FnExactRootsTo", spec := "fnExactRootsTo", apart := false, narrowed := true }
def FnExactRootsToUptoSaid : Prop := fnExactRootsToUptoRow.holds Try.pinned (OpenSpec.upto fnExactRootsToSpec)

/-- 'laws.FnWorkersSum', WHERE WHAT IT READS IS OF BULK AT MOST 1048576: true; the input reads as it did. -/
def fnWorkersSumUptoRow : OpenClaim := { program := "ythoajaibaedjeaa", sum := "4c1a11fab0c5016817ff682f335fd4bcb3e7b6f19665e0976c01214213a7f3ac", func := "loop.example/g00043/laws.FnWorkersSum", spec := "fnWorkersSum", apart := false, narrowed := true }
def FnWorkersSumUptoSaid : Prop := fnWorkersSumUptoRow.holds Try.pinned (OpenSpec.upto fnWorkersSumSpec)

end Rows
end Go.Proofs.Ythoajaibaedjeaa
