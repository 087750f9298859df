/-
  NARROWER THAN 'FOR EVERY INPUT', by the rows' own cells (each row's printed sentence says how): FnExactOrder: maps, laid · FnExactNext: maps, laid · FnExactUnpack: maps, laid · FnExactCompare: maps, laid · FnOrdered: maps, laid · FnExactSortFloats: maps, laid · FnSorted: maps, laid · FnExactGreatest: maps, laid · FnExactLeast: maps, laid.
  DERIVED. THE GIVEN ROWS OF THIS SEAT. 9 by the template 'for every input the law returns true; each argument reads behind the call as it read before'; 0 by the template 'total and deterministic' (their statements: YtmjnnjjmfedlbaaDoorTotals.lean).
  GIVEN WITH THE SEED: the statements are not yours to turn. If you find one false, say at which input.
  Laid BY PROGRAM, IN A SANDBOX (cutbox-rows.mjs): the forced cells as the released guide's own fill.sh prints them over the translation 846bdffd537dd728… (all of the seat's roots in one cut). By AI agents, Wed Nov 11 2026. No macro, syntax, notation, axiom, sorry.
-/
import Derived.Test.YtmjnnjjmfedlbaaDoorChecked
import GoSem.Claim
import GoSem.ClaimJoined
import GoSem.ClaimMapViews
import Derived.JoinedTies
import Derived.KernelRfl
namespace Go.Proofs.YtmjnnjjmfedlbaaDoor
/- THE CELL 'sum', in the pinned program and in every row, IS THE sha256 OF THE DUMP (.gsa) THAT YtmjnnjjmfedlbaaDoorProg.lean LOADS. Nothing in Lean hashes anything: it is a label: what it is worth is what the hold of that sum in a sandbox is worth. -/
noncomputable def Tryd.pinned : Pinned := { name := "ytmjnnjjmfedlbaadoor", sum := "846bdffd537dd7289e70d8a11c574c0bdc1a680c8751577a7c1abb0df7341a55", checked := Tryd.checked }
namespace Rows
def none {H : Type} : Left H := { results := [], args := [] }

/- WHAT THE LISTED PACKAGE-LEVEL VARIABLES READ AS WHEN THE CALL BEGINS. Each datum BY PROGRAM (the guide's laid-datum.mjs) off the statement by which the dump's own 'gosem.cut.vars' lays the variable. In a bare row this is a premise. The card (YtmjnnjjmfedlbaaDoorCards.lean) ties it to the program's text. -/
def laid_loop_example_g00043_impl_shapes {H : Type} : DataW H := .map [(.int .i64 1, .agg [.lit (.int .i64 16), .lit (.int .i64 11), .lit (.int .i64 15)]), (.int .i64 2, .agg [.lit (.int .i64 32), .lit (.int .i64 24), .lit (.int .i64 127)]), (.int .i64 3, .agg [.lit (.int .i64 64), .lit (.int .i64 53), .lit (.int .i64 1023)])]
def laid_math_bits_deBruijn64tab {H : Type} : DataW H := .agg [.lit (.int .u8 0), .lit (.int .u8 1), .lit (.int .u8 56), .lit (.int .u8 2), .lit (.int .u8 57), .lit (.int .u8 49), .lit (.int .u8 28), .lit (.int .u8 3), .lit (.int .u8 61), .lit (.int .u8 58), .lit (.int .u8 42), .lit (.int .u8 50), .lit (.int .u8 38), .lit (.int .u8 29), .lit (.int .u8 17), .lit (.int .u8 4), .lit (.int .u8 62), .lit (.int .u8 47), .lit (.int .u8 59), .lit (.int .u8 36), .lit (.int .u8 45), .lit (.int .u8 43), .lit (.int .u8 51), .lit (.int .u8 22), .lit (.int .u8 53), .lit (.int .u8 39), .lit (.int .u8 33), .lit (.int .u8 30), .lit (.int .u8 24), .lit (.int .u8 18), .lit (.int .u8 12), .lit (.int .u8 5), .lit (.int .u8 63), .lit (.int .u8 55), .lit (.int .u8 48), .lit (.int .u8 27), .lit (.int .u8 60), .lit (.int .u8 41), .lit (.int .u8 37), .lit (.int .u8 16), .lit (.int .u8 46), .lit (.int .u8 35), .lit (.int .u8 44), .lit (.int .u8 21), .lit (.int .u8 52), .lit (.int .u8 32), .lit (.int .u8 23), .lit (.int .u8 11), .lit (.int .u8 54), .lit (.int .u8 26), .lit (.int .u8 40), .lit (.int .u8 15), .lit (.int .u8 34), .lit (.int .u8 20), .lit (.int .u8 31), .lit (.int .u8 10), .lit (.int .u8 25), .lit (.int .u8 14), .lit (.int .u8 19), .lit (.int .u8 9), .lit (.int .u8 13), .lit (.int .u8 8), .lit (.int .u8 7), .lit (.int .u8 6)]

/-- 'laws.FnExactOrder': WHATEVER THE INPUT: true; the input reads as it did. -/
def fnExactOrderSpec : ChangeSpec := { name := "fnExactOrder", vars := ["loop.example/g00043/impl.shapes"], fn := fun _ => fun
  | [d1, d2, d3, g1] => { results := [.lit (.bool true)], args := [d1, d2, d3], vars := [g1] }
  | _ => none }
def fnExactOrderRow : OpenClaim := { program := "ytmjnnjjmfedlbaadoor", sum := "846bdffd537dd7289e70d8a11c574c0bdc1a680c8751577a7c1abb0df7341a55", func := "loop.example/g00043/laws.FnExactOrder", spec := "fnExactOrder", named := ["loop.example/g00043/impl.shapes"], maps := true, apart := false, laid := [("loop.example/g00043/impl.shapes", laid_loop_example_g00043_impl_shapes)] }
def FnExactOrderSaid : Prop := fnExactOrderRow.holds Tryd.pinned (OpenSpec.ofChange fnExactOrderSpec)

/-- ITS FALSE NEIGHBOUR: 'it returns false'. Refute it at one input. -/
def fnExactOrderWrong : ChangeSpec := { name := "fnExactOrder", vars := ["loop.example/g00043/impl.shapes"], fn := fun _ => fun
  | [d1, d2, d3, g1] => { results := [.lit (.bool false)], args := [d1, d2, d3], vars := [g1] }
  | _ => none }
def FnExactOrderWrongFalsely : Prop := fnExactOrderRow.holds Tryd.pinned (OpenSpec.ofChange fnExactOrderWrong)

/-- 'laws.FnExactNext': WHATEVER THE INPUT: true; the input reads as it did. -/
def fnExactNextSpec : ChangeSpec := { name := "fnExactNext", vars := ["loop.example/g00043/impl.shapes"], fn := fun _ => fun
  | [d1, d2, g1] => { results := [.lit (.bool true)], args := [d1, d2], vars := [g1] }
  | _ => none }
def fnExactNextRow : OpenClaim := { program := "ytmjnnjjmfedlbaadoor", sum := "846bdffd537dd7289e70d8a11c574c0bdc1a680c8751577a7c1abb0df7341a55", func := "loop.example/g00043/laws.FnExactNext", spec := "fnExactNext", named := ["loop.example/g00043/impl.shapes"], maps := true, apart := false, laid := [("loop.example/g00043/impl.shapes", laid_loop_example_g00043_impl_shapes)] }
def FnExactNextSaid : Prop := fnExactNextRow.holds Tryd.pinned (OpenSpec.ofChange fnExactNextSpec)

/-- ITS FALSE NEIGHBOUR: 'it returns false'. Refute it at one input. -/
def fnExactNextWrong : ChangeSpec := { name := "fnExactNext", vars := ["loop.example/g00043/impl.shapes"], fn := fun _ => fun
  | [d1, d2, g1] => { results := [.lit (.bool false)], args := [d1, d2], vars := [g1] }
  | _ => none }
def FnExactNextWrongFalsely : Prop := fnExactNextRow.holds Tryd.pinned (OpenSpec.ofChange fnExactNextWrong)

/-- 'laws.FnExactUnpack': WHATEVER THE INPUT: true; the input reads as it did. -/
def fnExactUnpackSpec : ChangeSpec := { name := "fnExactUnpack", vars := ["loop.example/g00043/impl.shapes"], fn := fun _ => fun
  | [d1, d2, g1] => { results := [.lit (.bool true)], args := [d1, d2], vars := [g1] }
  | _ => none }
def fnExactUnpackRow : OpenClaim := { program := "ytmjnnjjmfedlbaadoor", sum := "846bdffd537dd7289e70d8a11c574c0bdc1a680c8751577a7c1abb0df7341a55", func := "loop.example/g00043/laws.FnExactUnpack", spec := "fnExactUnpack", named := ["loop.example/g00043/impl.shapes", "math/bits.deBruijn64tab"], maps := true, apart := false, laid := [("math/bits.deBruijn64tab", laid_math_bits_deBruijn64tab), ("loop.example/g00043/impl.shapes", laid_loop_example_g00043_impl_shapes)] }
def FnExactUnpackSaid : Prop := fnExactUnpackRow.holds Tryd.pinned (OpenSpec.ofChange fnExactUnpackSpec)

/-- ITS FALSE NEIGHBOUR: 'it returns false'. Refute it at one input. -/
def fnExactUnpackWrong : ChangeSpec := { name := "fnExactUnpack", vars := ["loop.example/g00043/impl.shapes"], fn := fun _ => fun
  | [d1, d2, g1] => { results := [.lit (.bool false)], args := [d1, d2], vars := [g1] }
  | _ => none }
def FnExactUnpackWrongFalsely : Prop := fnExactUnpackRow.holds Tryd.pinned (OpenSpec.ofChange fnExactUnpackWrong)

/-- 'laws.FnExactCompare': WHATEVER THE INPUT: true; the input reads as it did. -/
def fnExactCompareSpec : ChangeSpec := { name := "fnExactCompare", vars := ["loop.example/g00043/impl.shapes"], fn := fun _ => fun
  | [d1, d2, d3, g1] => { results := [.lit (.bool true)], args := [d1, d2, d3], vars := [g1] }
  | _ => none }
def fnExactCompareRow : OpenClaim := { program := "ytmjnnjjmfedlbaadoor", sum := "846bdffd537dd7289e70d8a11c574c0bdc1a680c8751577a7c1abb0df7341a55", func := "loop.example/g00043/laws.FnExactCompare", spec := "fnExactCompare", named := ["loop.example/g00043/impl.shapes"], maps := true, apart := false, laid := [("loop.example/g00043/impl.shapes", laid_loop_example_g00043_impl_shapes)] }
def FnExactCompareSaid : Prop := fnExactCompareRow.holds Tryd.pinned (OpenSpec.ofChange fnExactCompareSpec)

/-- ITS FALSE NEIGHBOUR: 'it returns false'. Refute it at one input. -/
def fnExactCompareWrong : ChangeSpec := { name := "fnExactCompare", vars := ["loop.example/g00043/impl.shapes"], fn := fun _ => fun
  | [d1, d2, d3, g1] => { results := [.lit (.bool false)], args := [d1, d2, d3], vars := [g1] }
  | _ => none }
def FnExactCompareWrongFalsely : Prop := fnExactCompareRow.holds Tryd.pinned (OpenSpec.ofChange fnExactCompareWrong)

/-- 'laws.FnOrdered': WHATEVER THE INPUT: true; the input reads as it did. -/
def fnOrderedSpec : ChangeSpec := { name := "fnOrdered", vars := ["loop.example/g00043/impl.shapes"], fn := fun _ => fun
  | [d, g1] => { results := [.lit (.bool true)], args := [d], vars := [g1] }
  | _ => none }
def fnOrderedRow : OpenClaim := { program := "ytmjnnjjmfedlbaadoor", sum := "846bdffd537dd7289e70d8a11c574c0bdc1a680c8751577a7c1abb0df7341a55", func := "loop.example/g00043/laws.FnOrdered", spec := "fnOrdered", named := ["loop.example/g00043/impl.shapes"], maps := true, apart := false, laid := [("loop.example/g00043/impl.shapes", laid_loop_example_g00043_impl_shapes)] }
def FnOrderedSaid : Prop := fnOrderedRow.holds Tryd.pinned (OpenSpec.ofChange fnOrderedSpec)

/-- ITS FALSE NEIGHBOUR: 'it returns false'. Refute it at one input. -/
def fnOrderedWrong : ChangeSpec := { name := "fnOrdered", vars := ["loop.example/g00043/impl.shapes"], fn := fun _ => fun
  | [d, g1] => { results := [.lit (.bool false)], args := [d], vars := [g1] }
  | _ => none }
def FnOrderedWrongFalsely : Prop := fnOrderedRow.holds Tryd.pinned (OpenSpec.ofChange fnOrderedWrong)

/-- 'laws.FnExactSortFloats': WHATEVER THE INPUT: true; the input reads as it did. -/
def fnExactSortFloatsSpec : ChangeSpec := { name := "fnExactSortFloats", vars := ["loop.example/g00043/impl.shapes"], fn := fun _ => fun
  | [d, g1] => { results := [.lit (.bool true)], args := [d], vars := [g1] }
  | _ => none }
def fnExactSortFloatsRow : OpenClaim := { program := "ytmjnnjjmfedlbaadoor", sum := "846bdffd537dd7289e70d8a11c574c0bdc1a680c8751577a7c1abb0df7341a55", func := "loop.example/g00043/laws.FnExactSortFloats", spec := "fnExactSortFloats", inPlace := ["math.Float64bits", "math.Float64frombits"], unfollowed := true, recurses := true, named := ["loop.example/g00043/impl.shapes"], maps := true, apart := false, laid := [("loop.example/g00043/impl.shapes", laid_loop_example_g00043_impl_shapes)] }
def FnExactSortFloatsSaid : Prop := fnExactSortFloatsRow.holds Tryd.pinned (OpenSpec.ofChange fnExactSortFloatsSpec)

/-- ITS FALSE NEIGHBOUR: 'it returns false'. Refute it at one input. -/
def fnExactSortFloatsWrong : ChangeSpec := { name := "fnExactSortFloats", vars := ["loop.example/g00043/impl.shapes"], fn := fun _ => fun
  | [d, g1] => { results := [.lit (.bool false)], args := [d], vars := [g1] }
  | _ => none }
def FnExactSortFloatsWrongFalsely : Prop := fnExactSortFloatsRow.holds Tryd.pinned (OpenSpec.ofChange fnExactSortFloatsWrong)

/-- 'laws.FnSorted': WHATEVER THE INPUT: true; the input reads as it did. -/
def fnSortedSpec : ChangeSpec := { name := "fnSorted", vars := ["loop.example/g00043/impl.shapes"], fn := fun _ => fun
  | [d, g1] => { results := [.lit (.bool true)], args := [d], vars := [g1] }
  | _ => none }
def fnSortedRow : OpenClaim := { program := "ytmjnnjjmfedlbaadoor", sum := "846bdffd537dd7289e70d8a11c574c0bdc1a680c8751577a7c1abb0df7341a55", func := "loop.example/g00043/laws.FnSorted", spec := "fnSorted", inPlace := ["math.Float64bits", "math.Float64frombits"], unfollowed := true, recurses := true, named := ["loop.example/g00043/impl.shapes"], maps := true, apart := false, laid := [("loop.example/g00043/impl.shapes", laid_loop_example_g00043_impl_shapes)] }
def FnSortedSaid : Prop := fnSortedRow.holds Tryd.pinned (OpenSpec.ofChange fnSortedSpec)

/-- ITS FALSE NEIGHBOUR: 'it returns false'. Refute it at one input. -/
def fnSortedWrong : ChangeSpec := { name := "fnSorted", vars := ["loop.example/g00043/impl.shapes"], fn := fun _ => fun
  | [d, g1] => { results := [.lit (.bool false)], args := [d], vars := [g1] }
  | _ => none }
def FnSortedWrongFalsely : Prop := fnSortedRow.holds Tryd.pinned (OpenSpec.ofChange fnSortedWrong)

/-- 'laws.FnExactGreatest': WHATEVER THE INPUT: true; the input reads as it did. -/
def fnExactGreatestSpec : ChangeSpec := { name := "fnExactGreatest", vars := ["loop.example/g00043/impl.shapes"], fn := fun _ => fun
  | [d, g1] => { results := [.lit (.bool true)], args := [d], vars := [g1] }
  | _ => none }
def fnExactGreatestRow : OpenClaim := { program := "ytmjnnjjmfedlbaadoor", sum := "846bdffd537dd7289e70d8a11c574c0bdc1a680c8751577a7c1abb0df7341a55", func := "loop.example/g00043/laws.FnExactGreatest", spec := "fnExactGreatest", inPlace := ["math.Float64frombits", "math.Float64bits"], unfollowed := true, recurses := true, named := ["loop.example/g00043/impl.shapes"], maps := true, apart := false, laid := [("loop.example/g00043/impl.shapes", laid_loop_example_g00043_impl_shapes)] }
def FnExactGreatestSaid : Prop := fnExactGreatestRow.holds Tryd.pinned (OpenSpec.ofChange fnExactGreatestSpec)

/-- ITS FALSE NEIGHBOUR: 'it returns false'. Refute it at one input. -/
def fnExactGreatestWrong : ChangeSpec := { name := "fnExactGreatest", vars := ["loop.example/g00043/impl.shapes"], fn := fun _ => fun
  | [d, g1] => { results := [.lit (.bool false)], args := [d], vars := [g1] }
  | _ => none }
def FnExactGreatestWrongFalsely : Prop := fnExactGreatestRow.holds Tryd.pinned (OpenSpec.ofChange fnExactGreatestWrong)

/-- 'laws.FnExactLeast': WHATEVER THE INPUT: true; the input reads as it did. -/
def fnExactLeastSpec : ChangeSpec := { name := "fnExactLeast", vars := ["loop.example/g00043/impl.shapes"], fn := fun _ => fun
  | [d, g1] => { results := [.lit (.bool true)], args := [d], vars := [g1] }
  | _ => none }
def fnExactLeastRow : OpenClaim := { program := "ytmjnnjjmfedlbaadoor", sum := "846bdffd537dd7289e70d8a11c574c0bdc1a680c8751577a7c1abb0df7341a55", func := "loop.example/g00043/laws.FnExactLeast", spec := "fnExactLeast", inPlace := ["math.Float64frombits", "math.Float64bits"], unfollowed := true, recurses := true, named := ["loop.example/g00043/impl.shapes"], maps := true, apart := false, laid := [("loop.example/g00043/impl.shapes", laid_loop_example_g00043_impl_shapes)] }
def FnExactLeastSaid : Prop := fnExactLeastRow.holds Tryd.pinned (OpenSpec.ofChange fnExactLeastSpec)

/-- ITS FALSE NEIGHBOUR: 'it returns false'. Refute it at one input. -/
def fnExactLeastWrong : ChangeSpec := { name := "fnExactLeast", vars := ["loop.example/g00043/impl.shapes"], fn := fun _ => fun
  | [d, g1] => { results := [.lit (.bool false)], args := [d], vars := [g1] }
  | _ => none }
def FnExactLeastWrongFalsely : Prop := fnExactLeastRow.holds Tryd.pinned (OpenSpec.ofChange fnExactLeastWrong)

/- THE SECOND FORM. 'bulk': how many values and letters a reading holds, each counted each time it is reached (what is shared counts as often as it is met; a slice's spare places count too). A statement '..UptoSaid' is the law's where the arguments, and the package variables that the reading takes, are together of bulk at most 1048576: NARROWER than '..Said'. Prove '..Said' where nothing that the law and all that it calls make is longer than what came in: it says more and counts as full. Else prove '..UptoSaid'. A law counts once. -/
mutual
def uptoBulk {H : Type} : DataW H → Nat
  | .lit (.string bytes) => bytes.length + 1
  | .lit _ => 1
  | .nil => 1
  | .ptr d => uptoBulk d + 1
  | .slice elems spare => uptoBulkAll elems + uptoBulkAll spare + 1
  | .agg parts => uptoBulkAll parts + 1
  | .iface _ d => uptoBulk d + 1
  | .map entries => uptoBulkEntries entries + 1
  | .held _ => 1
def uptoBulkAll {H : Type} : List (DataW H) → Nat
  | [] => 0
  | d :: r => uptoBulk d + uptoBulkAll r
def uptoBulkEntries {H : Type} : List (Lit × DataW H) → Nat
  | [] => 0
  | x :: r => uptoBulkEntry x + uptoBulkEntries r
def uptoBulkEntry {H : Type} : Lit × DataW H → Nat
  | (.string bytes, d) => bytes.length + uptoBulk d + 1
  | (_, d) => uptoBulk d + 1
 end
def uptoSmall : (H : Type) → List (DataW H) → Bool := fun _ ds => decide (uptoBulkAll ds ≤ 1048576)
def OpenSpec.upto (s : _root_.Go.ChangeSpec) : _root_.Go.OpenSpec := { _root_.Go.OpenSpec.ofChange s with cond := some uptoSmall }

/-- 'laws.FnExactOrder', WHERE WHAT IT READS IS OF BULK AT MOST 1048576: true; the input reads as it did. -/
def fnExactOrderUptoRow : OpenClaim := { program := "ytmjnnjjmfedlbaadoor", sum := "846bdffd537dd7289e70d8a11c574c0bdc1a680c8751577a7c1abb0df7341a55", func := "loop.example/g00043/laws.FnExactOrder", spec := "fnExactOrder", named := ["loop.example/g00043/impl.shapes"], maps := true, apart := false, laid := [("loop.example/g00043/impl.shapes", laid_loop_example_g00043_impl_shapes)], narrowed := true }
def FnExactOrderUptoSaid : Prop := fnExactOrderUptoRow.holds Tryd.pinned (OpenSpec.upto fnExactOrderSpec)

/-- 'laws.FnExactNext', WHERE WHAT IT READS IS OF BULK AT MOST 1048576: true; the input reads as it did. -/
def fnExactNextUptoRow : OpenClaim := { program := "ytmjnnjjmfedlbaadoor", sum := "846bdffd537dd7289e70d8a11c574c0bdc1a680c8751577a7c1abb0df7341a55", func := "loop.example/g00043/laws.FnExactNext", spec := "fnExactNext", named := ["loop.example/g00043/impl.shapes"], maps := true, apart := false, laid := [("loop.example/g00043/impl.shapes", laid_loop_example_g00043_impl_shapes)], narrowed := true }
def FnExactNextUptoSaid : Prop := fnExactNextUptoRow.holds Tryd.pinned (OpenSpec.upto fnExactNextSpec)

/-- 'laws.FnExactUnpack', WHERE WHAT IT READS IS OF BULK AT MOST 1048576: true; the input reads as it did. -/
def fnExactUnpackUptoRow : OpenClaim := { program := "ytmjnnjjmfedlbaadoor", sum := "846bdffd537dd7289e70d8a11c574c0bdc1a680c8751577a7c1abb0df7341a55", func := "loop.example/g00043/laws.FnExactUnpack", spec := "fnExactUnpack", named := ["loop.example/g00043/impl.shapes", "math/bits.deBruijn64tab"], maps := true, apart := false, laid := [("math/bits.deBruijn64tab", laid_math_bits_deBruijn64tab), ("loop.example/g00043/impl.shapes", laid_loop_example_g00043_impl_shapes)], narrowed := true }
def FnExactUnpackUptoSaid : Prop := fnExactUnpackUptoRow.holds Tryd.pinned (OpenSpec.upto fnExactUnpackSpec)

/-- 'laws.FnExactCompare', WHERE WHAT IT READS IS OF BULK AT MOST 1048576: true; the input reads as it did. -/
def fnExactCompareUptoRow : OpenClaim := { program := "ytmjnnjjmfedlbaadoor", sum := "846bdffd537dd7289e70d8a11c574c0bdc1a680c8751577a7c1abb0df7341a55", func := "loop.example/g00043/laws.FnExactCompare", spec := "fnExactCompare", named := ["loop.example/g00043/impl.shapes"], maps := true, apart := false, laid := [("loop.example/g00043/impl.shapes", laid_loop_example_g00043_impl_shapes)], narrowed := true }
def FnExactCompareUptoSaid : Prop := fnExactCompareUptoRow.holds Tryd.pinned (OpenSpec.upto fnExactCompareSpec)

/-- 'laws.FnOrdered', WHERE WHAT IT READS IS OF BULK AT MOST 1048576: true; the input reads as it did. -/
def fnOrderedUptoRow : OpenClaim := { program := "ytmjnnjjmfedlbaadoor", sum := "846bdffd537dd7289e70d8a11c574c0bdc1a680c8751577a7c1abb0df7341a55", func := "loop.example/g00043/laws.FnOrdered", spec := "fnOrdered", named := ["loop.example/g00043/impl.shapes"], maps := true, apart := false, laid := [("loop.example/g00043/impl.shapes", laid_loop_example_g00043_impl_shapes)], narrowed := true }
def FnOrderedUptoSaid : Prop := fnOrderedUptoRow.holds Tryd.pinned (OpenSpec.upto fnOrderedSpec)

/-- 'laws.FnExactSortFloats', WHERE WHAT IT READS IS OF BULK AT MOST 1048576: true; the input reads as it did. -/
def fnExactSortFloatsUptoRow : OpenClaim := { program := "ytmjnnjjmfedlbaadoor", sum := "846bdffd537dd7289e70d8a11c574c0bdc1a680c8751577a7c1abb0df7341a55", func := "loop.example/g00043/laws.FnExactSortFloats", spec := "fnExactSortFloats", inPlace := ["math.Float64bits", "math.Float64frombits"], unfollowed := true, recurses := true, named := ["loop.example/g00043/impl.shapes"], maps := true, apart := false, laid := [("loop.example/g00043/impl.shapes", laid_loop_example_g00043_impl_shapes)], narrowed := true }
def FnExactSortFloatsUptoSaid : Prop := fnExactSortFloatsUptoRow.holds Tryd.pinned (OpenSpec.upto fnExactSortFloatsSpec)

/-- 'laws.FnSorted', WHERE WHAT IT READS IS OF BULK AT MOST 1048576: true; the input reads as it did. -/
def fnSortedUptoRow : OpenClaim := { program := "ytmjnnjjmfedlbaadoor", sum := "846bdffd537dd7289e70d8a11c574c0bdc1a680c8751577a7c1abb0df7341a55", func := "loop.example/g00043/laws.FnSorted", spec := "fnSorted", inPlace := ["math.Float64bits", "math.Float64frombits"], unfollowed := true, recurses := true, named := ["loop.example/g00043/impl.shapes"], maps := true, apart := false, laid := [("loop.example/g00043/impl.shapes", laid_loop_example_g00043_impl_shapes)], narrowed := true }
def FnSortedUptoSaid : Prop := fnSortedUptoRow.holds Tryd.pinned (OpenSpec.upto fnSortedSpec)

/-- 'laws.FnExactGreatest', WHERE WHAT IT READS IS OF BULK AT MOST 1048576: true; the input reads as it did. -/
def fnExactGreatestUptoRow : OpenClaim := { program := "ytmjnnjjmfedlbaadoor", sum := "846bdffd537dd7289e70d8a11c574c0bdc1a680c8751577a7c1abb0df7341a55", func := "loop.example/g00043/laws.FnExactGreatest", spec := "fnExactGreatest", inPlace := ["math.Float64frombits", "math.Float64bits"], unfollowed := true, recurses := true, named := ["loop.example/g00043/impl.shapes"], maps := true, apart := false, laid := [("loop.example/g00043/impl.shapes", laid_loop_example_g00043_impl_shapes)], narrowed := true }
def FnExactGreatestUptoSaid : Prop := fnExactGreatestUptoRow.holds Tryd.pinned (OpenSpec.upto fnExactGreatestSpec)

/-- 'laws.FnExactLeast', WHERE WHAT IT READS IS OF BULK AT MOST 1048576: true; the input reads as it did. -/
def fnExactLeastUptoRow : OpenClaim := { program := "ytmjnnjjmfedlbaadoor", sum := "846bdffd537dd7289e70d8a11c574c0bdc1a680c8751577a7c1abb0df7341a55", func := "loop.example/g00043/laws.FnExactLeast", spec := "fnExactLeast", inPlace := ["math.Float64frombits", "math.Float64bits"], unfollowed := true, recurses := true, named := ["loop.example/g00043/impl.shapes"], maps := true, apart := false, laid := [("loop.example/g00043/impl.shapes", laid_loop_example_g00043_impl_shapes)], narrowed := true }
def FnExactLeastUptoSaid : Prop := fnExactLeastUptoRow.holds Tryd.pinned (OpenSpec.upto fnExactLeastSpec)

end Rows
end Go.Proofs.YtmjnnjjmfedlbaaDoor
