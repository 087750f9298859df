/-
  No cell of these rows narrows 'for every input' (looked for: loops, veiled, ifaces, maps, wideKeys, modest, calm, conditions, laid).
  DERIVED. THE GIVEN ROWS OF THIS SEAT. 10 by the template 'for every input the law returns true; each argument reads behind the call as it read before'; 0 by the template 'total and deterministic' (their statements: YtdpiaehobfmjgaaTotals.lean).
  GIVEN WITH THE SEED: the statements are not yours to turn. If you find one false, say at which input.
  Laid BY PROGRAM, IN A SANDBOX (cutbox-rows.mjs): the forced cells as the released guide's own fill.sh prints them over the translation 04b198c7eca60de2… (all of the seat's roots in one cut). By AI agents, Wed Nov 11 2026. No macro, syntax, notation, axiom, sorry.
-/
import Derived.Test.YtdpiaehobfmjgaaChecked
import GoSem.Claim
import GoSem.ClaimJoined
import GoSem.ClaimMapViews
import Derived.JoinedTies
import Derived.KernelRfl
namespace Go.Proofs.Ytdpiaehobfmjgaa
/- THE CELL 'sum', in the pinned program and in every row, IS THE sha256 OF THE DUMP (.gsa) THAT YtdpiaehobfmjgaaProg.lean LOADS. Nothing in Lean hashes anything: it is a label: what it is worth is what the hold of that sum in a sandbox is worth. -/
noncomputable def Try.pinned : Pinned := { name := "ytdpiaehobfmjgaa", sum := "04b198c7eca60de208b9d2434f35e0b9841e88926bc2db5ad5958a28c00fd9ba", checked := Try.checked }
namespace Rows
def none {H : Type} : Left H := { results := [], args := [] }

/-- 'laws.FnExactSum': WHATEVER THE INPUT: true; the input reads as it did. -/
def fnExactSumSpec : ChangeSpec := { name := "fnExactSum", fn := fun _ => fun
  | [d] => { results := [.lit (.bool true)], args := [d] }
  | _ => none }
def fnExactSumRow : OpenClaim := { program := "ytdpiaehobfmjgaa", sum := "04b198c7eca60de208b9d2434f35e0b9841e88926bc2db5ad5958a28c00fd9ba", func := "loop.example/g00043/laws.FnExactSum", spec := "fnExactSum", apart := false }
def FnExactSumSaid : Prop := fnExactSumRow.holds Try.pinned (OpenSpec.ofChange fnExactSumSpec)

/-- ITS FALSE NEIGHBOUR: 'it returns false'. Refute it at one input. -/
def fnExactSumWrong : ChangeSpec := { name := "fnExactSum", fn := fun _ => fun
  | [d] => { results := [.lit (.bool false)], args := [d] }
  | _ => none }
def FnExactSumWrongFalsely : Prop := fnExactSumRow.holds Try.pinned (OpenSpec.ofChange fnExactSumWrong)

/-- 'laws.FnExactDot': WHATEVER THE INPUT: true; the input reads as it did. -/
def fnExactDotSpec : ChangeSpec := { name := "fnExactDot", fn := fun _ => fun
  | [d1, d2] => { results := [.lit (.bool true)], args := [d1, d2] }
  | _ => none }
def fnExactDotRow : OpenClaim := { program := "ytdpiaehobfmjgaa", sum := "04b198c7eca60de208b9d2434f35e0b9841e88926bc2db5ad5958a28c00fd9ba", func := "loop.example/g00043/laws.FnExactDot", spec := "fnExactDot", apart := false }
def FnExactDotSaid : Prop := fnExactDotRow.holds Try.pinned (OpenSpec.ofChange fnExactDotSpec)

/-- ITS FALSE NEIGHBOUR: 'it returns false'. Refute it at one input. -/
def fnExactDotWrong : ChangeSpec := { name := "fnExactDot", fn := fun _ => fun
  | [d1, d2] => { results := [.lit (.bool false)], args := [d1, d2] }
  | _ => none }
def FnExactDotWrongFalsely : Prop := fnExactDotRow.holds Try.pinned (OpenSpec.ofChange fnExactDotWrong)

/-- 'laws.FnExactHorner': WHATEVER THE INPUT: true; the input reads as it did. -/
def fnExactHornerSpec : ChangeSpec := { name := "fnExactHorner", fn := fun _ => fun
  | [d1, d2] => { results := [.lit (.bool true)], args := [d1, d2] }
  | _ => none }
def fnExactHornerRow : OpenClaim := { program := "ytdpiaehobfmjgaa", sum := "04b198c7eca60de208b9d2434f35e0b9841e88926bc2db5ad5958a28c00fd9ba", func := "loop.example/g00043/laws.FnExactHorner", spec := "fnExactHorner", apart := false }
def FnExactHornerSaid : Prop := fnExactHornerRow.holds Try.pinned (OpenSpec.ofChange fnExactHornerSpec)

/-- ITS FALSE NEIGHBOUR: 'it returns false'. Refute it at one input. -/
def fnExactHornerWrong : ChangeSpec := { name := "fnExactHorner", fn := fun _ => fun
  | [d1, d2] => { results := [.lit (.bool false)], args := [d1, d2] }
  | _ => none }
def FnExactHornerWrongFalsely : Prop := fnExactHornerRow.holds Try.pinned (OpenSpec.ofChange fnExactHornerWrong)

/-- 'laws.FnExactCareSum': WHATEVER THE INPUT: true; the input reads as it did. -/
def fnExactCareSumSpec : ChangeSpec := { name := "fnExactCareSum", fn := fun _ => fun
  | [d] => { results := [.lit (.bool true)], args := [d] }
  | _ => none }
def fnExactCareSumRow : OpenClaim := { program := "ytdpiaehobfmjgaa", sum := "04b198c7eca60de208b9d2434f35e0b9841e88926bc2db5ad5958a28c00fd9ba", func := "loop.example/g00043/laws.FnExactCareSum", spec := "fnExactCareSum", apart := false }
def FnExactCareSumSaid : Prop := fnExactCareSumRow.holds Try.pinned (OpenSpec.ofChange fnExactCareSumSpec)

/-- ITS FALSE NEIGHBOUR: 'it returns false'. Refute it at one input. -/
def fnExactCareSumWrong : ChangeSpec := { name := "fnExactCareSum", fn := fun _ => fun
  | [d] => { results := [.lit (.bool false)], args := [d] }
  | _ => none }
def FnExactCareSumWrongFalsely : Prop := fnExactCareSumRow.holds Try.pinned (OpenSpec.ofChange fnExactCareSumWrong)

/-- 'laws.FnExactPairSum': WHATEVER THE INPUT: true; the input reads as it did. -/
def fnExactPairSumSpec : ChangeSpec := { name := "fnExactPairSum", fn := fun _ => fun
  | [d] => { results := [.lit (.bool true)], args := [d] }
  | _ => none }
def fnExactPairSumRow : OpenClaim := { program := "ytdpiaehobfmjgaa", sum := "04b198c7eca60de208b9d2434f35e0b9841e88926bc2db5ad5958a28c00fd9ba", func := "loop.example/g00043/laws.FnExactPairSum", spec := "fnExactPairSum", recurses := true, apart := false }
def FnExactPairSumSaid : Prop := fnExactPairSumRow.holds Try.pinned (OpenSpec.ofChange fnExactPairSumSpec)

/-- ITS FALSE NEIGHBOUR: 'it returns false'. Refute it at one input. -/
def fnExactPairSumWrong : ChangeSpec := { name := "fnExactPairSum", fn := fun _ => fun
  | [d] => { results := [.lit (.bool false)], args := [d] }
  | _ => none }
def FnExactPairSumWrongFalsely : Prop := fnExactPairSumRow.holds Try.pinned (OpenSpec.ofChange fnExactPairSumWrong)

/-- 'laws.FnExactNear': WHATEVER THE INPUT: true; the input reads as it did. -/
def fnExactNearSpec : ChangeSpec := { name := "fnExactNear", fn := fun _ => fun
  | [d] => { results := [.lit (.bool true)], args := [d] }
  | _ => none }
def fnExactNearRow : OpenClaim := { program := "ytdpiaehobfmjgaa", sum := "04b198c7eca60de208b9d2434f35e0b9841e88926bc2db5ad5958a28c00fd9ba", func := "loop.example/g00043/laws.FnExactNear", spec := "fnExactNear", inPlace := ["math.RoundToEven", "math.Float64bits", "math.Float64frombits"], apart := false }
def FnExactNearSaid : Prop := fnExactNearRow.holds Try.pinned (OpenSpec.ofChange fnExactNearSpec)

/-- ITS FALSE NEIGHBOUR: 'it returns false'. Refute it at one input. -/
def fnExactNearWrong : ChangeSpec := { name := "fnExactNear", fn := fun _ => fun
  | [d] => { results := [.lit (.bool false)], args := [d] }
  | _ => none }
def FnExactNearWrongFalsely : Prop := fnExactNearRow.holds Try.pinned (OpenSpec.ofChange fnExactNearWrong)

/-- 'laws.FnExactPolyPair': WHATEVER THE INPUT: true; the input reads as it did. -/
def fnExactPolyPairSpec : ChangeSpec := { name := "fnExactPolyPair", fn := fun _ => fun
  | [d1, d2] => { results := [.lit (.bool true)], args := [d1, d2] }
  | _ => none }
def fnExactPolyPairRow : OpenClaim := { program := "ytdpiaehobfmjgaa", sum := "04b198c7eca60de208b9d2434f35e0b9841e88926bc2db5ad5958a28c00fd9ba", func := "loop.example/g00043/laws.FnExactPolyPair", spec := "fnExactPolyPair", apart := false }
def FnExactPolyPairSaid : Prop := fnExactPolyPairRow.holds Try.pinned (OpenSpec.ofChange fnExactPolyPairSpec)

/-- ITS FALSE NEIGHBOUR: 'it returns false'. Refute it at one input. -/
def fnExactPolyPairWrong : ChangeSpec := { name := "fnExactPolyPair", fn := fun _ => fun
  | [d1, d2] => { results := [.lit (.bool false)], args := [d1, d2] }
  | _ => none }
def FnExactPolyPairWrongFalsely : Prop := fnExactPolyPairRow.holds Try.pinned (OpenSpec.ofChange fnExactPolyPairWrong)

/-- 'laws.FnExactSumPairs': WHATEVER THE INPUT: true; the input reads as it did. -/
def fnExactSumPairsSpec : ChangeSpec := { name := "fnExactSumPairs", fn := fun _ => fun
  | [d1, d2] => { results := [.lit (.bool true)], args := [d1, d2] }
  | _ => none }
def fnExactSumPairsRow : OpenClaim := { program := "ytdpiaehobfmjgaa", sum := "04b198c7eca60de208b9d2434f35e0b9841e88926bc2db5ad5958a28c00fd9ba", func := "loop.example/g00043/laws.FnExactSumPairs", spec := "fnExactSumPairs", apart := false }
def FnExactSumPairsSaid : Prop := fnExactSumPairsRow.holds Try.pinned (OpenSpec.ofChange fnExactSumPairsSpec)

/-- ITS FALSE NEIGHBOUR: 'it returns false'. Refute it at one input. -/
def fnExactSumPairsWrong : ChangeSpec := { name := "fnExactSumPairs", fn := fun _ => fun
  | [d1, d2] => { results := [.lit (.bool false)], args := [d1, d2] }
  | _ => none }
def FnExactSumPairsWrongFalsely : Prop := fnExactSumPairsRow.holds Try.pinned (OpenSpec.ofChange fnExactSumPairsWrong)

/-- 'laws.FnExactRootsTo': WHATEVER THE INPUT: true; the input reads as it did. -/
def fnExactRootsToSpec : ChangeSpec := { name := "fnExactRootsTo", fn := fun _ => fun
  | [d] => { results := [.lit (.bool true)], args := [d] }
  | _ => none }
def fnExactRootsToRow : OpenClaim := { program := "ytdpiaehobfmjgaa", sum := "04b198c7eca60de208b9d2434f35e0b9841e88926bc2db5ad5958a28c00fd9ba", func := "loop.example/g00043/laws.FnExactRootsTo", spec := "fnExactRootsTo", apart := false }
def FnExactRootsToSaid : Prop := fnExactRootsToRow.holds Try.pinned (OpenSpec.ofChange fnExactRootsToSpec)

/-- ITS FALSE NEIGHBOUR: 'it returns false'. Refute it at one input. -/
def fnExactRootsToWrong : ChangeSpec := { name := "fnExactRootsTo", fn := fun _ => fun
  | [d] => { results := [.lit (.bool false)], args := [d] }
  | _ => none }
def FnExactRootsToWrongFalsely : Prop := fnExactRootsToRow.holds Try.pinned (OpenSpec.ofChange fnExactRootsToWrong)

/-- 'laws.FnWorkersSum': WHATEVER THE INPUT: true; the input reads as it did. -/
def fnWorkersSumSpec : ChangeSpec := { name := "fnWorkersSum", fn := fun _ => fun
  | [d] => { results := [.lit (.bool true)], args := [d] }
  | _ => none }
def fnWorkersSumRow : OpenClaim := { program := "ytdpiaehobfmjgaa", sum := "04b198c7eca60de208b9d2434f35e0b9841e88926bc2db5ad5958a28c00fd9ba", func := "loop.example/g00043/laws.FnWorkersSum", spec := "fnWorkersSum", apart := false }
def FnWorkersSumSaid : Prop := fnWorkersSumRow.holds Try.pinned (OpenSpec.ofChange fnWorkersSumSpec)

/-- ITS FALSE NEIGHBOUR: 'it returns false'. Refute it at one input. -/
def fnWorkersSumWrong : ChangeSpec := { name := "fnWorkersSum", fn := fun _ => fun
  | [d] => { results := [.lit (.bool false)], args := [d] }
  | _ => none }
def FnWorkersSumWrongFalsely : Prop := fnWorkersSumRow.holds Try.pinned (OpenSpec.ofChange fnWorkersSumWrong)

/- THE SECOND FORM. 'bulk': how many values and letters a reading holds, each counted each time it is reached (what is shared counts as often as it is met; a slice's spare places count too). A statement '..UptoSaid' is the law's where the arguments, and the package variables that the reading takes, are together of bulk at most 1048576: NARROWER than '..Said'. Prove '..Said' where nothing that the law and all that it calls make is longer than what came in: it says more and counts as full. Else prove '..UptoSaid'. A law counts once. -/
mutual
def uptoBulk {H : Type} : DataW H → Nat
  | .lit (.string bytes) => bytes.length + 1
  | .lit _ => 1
  | .nil => 1
  | .ptr d => uptoBulk d + 1
  | .slice elems spare => uptoBulkAll elems + uptoBulkAll spare + 1
  | .agg parts => uptoBulkAll parts + 1
  | .iface _ d => uptoBulk d + 1
  | .map entries => uptoBulkEntries entries + 1
  | .held _ => 1
def uptoBulkAll {H : Type} : List (DataW H) → Nat
  | [] => 0
  | d :: r => uptoBulk d + uptoBulkAll r
def uptoBulkEntries {H : Type} : List (Lit × DataW H) → Nat
  | [] => 0
  | x :: r => uptoBulkEntry x + uptoBulkEntries r
def uptoBulkEntry {H : Type} : Lit × DataW H → Nat
  | (.string bytes, d) => bytes.length + uptoBulk d + 1
  | (_, d) => uptoBulk d + 1
 end
def uptoSmall : (H : Type) → List (DataW H) → Bool := fun _ ds => decide (uptoBulkAll ds ≤ 1048576)
def OpenSpec.upto (s : _root_.Go.ChangeSpec) : _root_.Go.OpenSpec := { _root_.Go.OpenSpec.ofChange s with cond := some uptoSmall }

/-- 'laws.FnExactSum', WHERE WHAT IT READS IS OF BULK AT MOST 1048576: true; the input reads as it did. -/
def fnExactSumUptoRow : OpenClaim := { program := "ytdpiaehobfmjgaa", sum := "04b198c7eca60de208b9d2434f35e0b9841e88926bc2db5ad5958a28c00fd9ba", func := "loop.example/g00043/laws.FnExactSum", spec := "fnExactSum", apart := false, narrowed := true }
def FnExactSumUptoSaid : Prop := fnExactSumUptoRow.holds Try.pinned (OpenSpec.upto fnExactSumSpec)

/-- 'laws.FnExactDot', WHERE WHAT IT READS IS OF BULK AT MOST 1048576: true; the input reads as it did. -/
def fnExactDotUptoRow : OpenClaim := { program := "ytdpiaehobfmjgaa", sum := "04b198c7eca60de208b9d2434f35e0b9841e88926bc2db5ad5958a28c00fd9ba", func := "loop.example/g00043/laws.FnExactDot", spec := "fnExactDot", apart := false, narrowed := true }
def FnExactDotUptoSaid : Prop := fnExactDotUptoRow.holds Try.pinned (OpenSpec.upto fnExactDotSpec)

/-- 'laws.FnExactHorner', WHERE WHAT IT READS IS OF BULK AT MOST 1048576: true; the input reads as it did. -/
def fnExactHornerUptoRow : OpenClaim := { program := "ytdpiaehobfmjgaa", sum := "04b198c7eca60de208b9d2434f35e0b9841e88926bc2db5ad5958a28c00fd9ba", func := "loop.example/g00043/laws.FnExactHorner", spec := "fnExactHorner", apart := false, narrowed := true }
def FnExactHornerUptoSaid : Prop := fnExactHornerUptoRow.holds Try.pinned (OpenSpec.upto fnExactHornerSpec)

/-- 'laws.FnExactCareSum', WHERE WHAT IT READS IS OF BULK AT MOST 1048576: true; the input reads as it did. -/
def fnExactCareSumUptoRow : OpenClaim := { program := "ytdpiaehobfmjgaa", sum := "04b198c7eca60de208b9d2434f35e0b9841e88926bc2db5ad5958a28c00fd9ba", func := "loop.example/g00043/laws.FnExactCareSum", spec := "fnExactCareSum", apart := false, narrowed := true }
def FnExactCareSumUptoSaid : Prop := fnExactCareSumUptoRow.holds Try.pinned (OpenSpec.upto fnExactCareSumSpec)

/-- 'laws.FnExactPairSum', WHERE WHAT IT READS IS OF BULK AT MOST 1048576: true; the input reads as it did. -/
def fnExactPairSumUptoRow : OpenClaim := { program := "ytdpiaehobfmjgaa", sum := "04b198c7eca60de208b9d2434f35e0b9841e88926bc2db5ad5958a28c00fd9ba", func := "loop.example/g00043/laws.FnExactPairSum", spec := "fnExactPairSum", recurses := true, apart := false, narrowed := true }
def FnExactPairSumUptoSaid : Prop := fnExactPairSumUptoRow.holds Try.pinned (OpenSpec.upto fnExactPairSumSpec)

/-- 'laws.FnExactNear', WHERE WHAT IT READS IS OF BULK AT MOST 1048576: true; the input reads as it did. -/
def fnExactNearUptoRow : OpenClaim := { program := "ytdpiaehobfmjgaa", sum := "04b198c7eca60de208b9d2434f35e0b9841e88926bc2db5ad5958a28c00fd9ba", func := "loop.example/g00043/laws.FnExactNear", spec := "fnExactNear", inPlace := ["math.RoundToEven", "math.Float64bits", "math.Float64frombits"], apart := false, narrowed := true }
def FnExactNearUptoSaid : Prop := fnExactNearUptoRow.holds Try.pinned (OpenSpec.upto fnExactNearSpec)

/-- 'laws.FnExactPolyPair', WHERE WHAT IT READS IS OF BULK AT MOST 1048576: true; the input reads as it did. -/
def fnExactPolyPairUptoRow : OpenClaim := { program := "ytdpiaehobfmjgaa", sum := "04b198c7eca60de208b9d2434f35e0b9841e88926bc2db5ad5958a28c00fd9ba", func := "loop.example/g00043/laws.FnExactPolyPair", spec := "fnExactPolyPair", apart := false, narrowed := true }
def FnExactPolyPairUptoSaid : Prop := fnExactPolyPairUptoRow.holds Try.pinned (OpenSpec.upto fnExactPolyPairSpec)

/-- 'laws.FnExactSumPairs', WHERE WHAT IT READS IS OF BULK AT MOST 1048576: true; the input reads as it did. -/
def fnExactSumPairsUptoRow : OpenClaim := { program := "ytdpiaehobfmjgaa", sum := "04b198c7eca60de208b9d2434f35e0b9841e88926bc2db5ad5958a28c00fd9ba", func := "loop.example/g00043/laws.FnExactSumPairs", spec := "fnExactSumPairs", apart := false, narrowed := true }
def FnExactSumPairsUptoSaid : Prop := fnExactSumPairsUptoRow.holds Try.pinned (OpenSpec.upto fnExactSumPairsSpec)

/-- 'laws.FnExactRootsTo', WHERE WHAT IT READS IS OF BULK AT MOST 1048576: true; the input reads as it did. -/
def fnExactRootsToUptoRow : OpenClaim := { program := "ytdpiaehobfmjgaa", sum := "04b198c7eca60de208b9d2434f35e0b9841e88926bc2db5ad5958a28c00fd9ba", func := "loop.example/g00043/laws.FnExactRootsTo", spec := "fnExactRootsTo", apart := false, narrowed := true }
def FnExactRootsToUptoSaid : Prop := fnExactRootsToUptoRow.holds Try.pinned (OpenSpec.upto fnExactRootsToSpec)

/-- 'laws.FnWorkersSum', WHERE WHAT IT READS IS OF BULK AT MOST 1048576: true; the input reads as it did. -/
def fnWorkersSumUptoRow : OpenClaim := { program := "ytdpiaehobfmjgaa", sum := "04b198c7eca60de208b9d2434f35e0b9841e88926bc2db5ad5958a28c00fd9ba", func := "loop.example/g00043/laws.FnWorkersSum", spec := "fnWorkersSum", apart := false, narrowed := true }
def FnWorkersSumUptoSaid : Prop := fnWorkersSumUptoRow.holds Try.pinned (OpenSpec.upto fnWorkersSumSpec)

end Rows
end Go.Proofs.Ytdpiaehobfmjgaa
