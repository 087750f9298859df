/-
  No cell of these rows narrows 'for every input' (looked for: loops, veiled, ifaces, maps, wideKeys, modest, calm, conditions, laid).
  DERIVED. THE GIVEN ROWS OF THIS SEAT. 12 by the template 'for every input the law returns true; each argument reads behind the call as it read before'; 0 by the template 'total and deterministic' (their statements: YtbjnggnlflofbaaTotals.lean).
  GIVEN WITH THE SEED: the statements are not yours to turn. If you find one false, say at which input.
  Laid BY PROGRAM, IN A SANDBOX (cutbox-rows.mjs): the forced cells as the released guide's own fill.sh prints them over the translation b57c046222c49e0f… (all of the seat's roots in one cut). By AI agents, Wed Nov 11 2026. No macro, syntax, notation, axiom, sorry.
-/
import Derived.Test.YtbjnggnlflofbaaChecked
import GoSem.Claim
import GoSem.ClaimJoined
import GoSem.ClaimMapViews
import Derived.JoinedTies
import Derived.KernelRfl
namespace Go.Proofs.Ytbjnggnlflofbaa
/- THE CELL 'sum', in the pinned program and in every row, IS THE sha256 OF THE DUMP (.gsa) THAT YtbjnggnlflofbaaProg.lean LOADS. Nothing in Lean hashes anything: it is a label: what it is worth is what the hold of that sum in a sandbox is worth. -/
noncomputable def Try.pinned : Pinned := { name := "ytbjnggnlflofbaa", sum := "b57c046222c49e0f13d34bcc1844b12c5f83ae87f0c5b384a654ebae877dd0a6", checked := Try.checked }
namespace Rows
def none {H : Type} : Left H := { results := [], args := [] }

/-- 'laws.FnExactPowMod': WHATEVER THE INPUT: true; the input reads as it did. -/
def fnExactPowModSpec : ChangeSpec := { name := "fnExactPowMod", fn := fun _ => fun
  | [d1, d2, d3] => { results := [.lit (.bool true)], args := [d1, d2, d3] }
  | _ => none }
def fnExactPowModRow : OpenClaim := { program := "ytbjnggnlflofbaa", sum := "b57c046222c49e0f13d34bcc1844b12c5f83ae87f0c5b384a654ebae877dd0a6", func := "loop.example/g00043/laws.FnExactPowMod", spec := "fnExactPowMod", apart := false }
def FnExactPowModSaid : Prop := fnExactPowModRow.holds Try.pinned (OpenSpec.ofChange fnExactPowModSpec)

/-- ITS FALSE NEIGHBOUR: 'it returns false'. Refute it at one input. -/
def fnExactPowModWrong : ChangeSpec := { name := "fnExactPowMod", fn := fun _ => fun
  | [d1, d2, d3] => { results := [.lit (.bool false)], args := [d1, d2, d3] }
  | _ => none }
def FnExactPowModWrongFalsely : Prop := fnExactPowModRow.holds Try.pinned (OpenSpec.ofChange fnExactPowModWrong)

/-- 'laws.FnExactInvMod': WHATEVER THE INPUT: true; the input reads as it did. -/
def fnExactInvModSpec : ChangeSpec := { name := "fnExactInvMod", fn := fun _ => fun
  | [d1, d2] => { results := [.lit (.bool true)], args := [d1, d2] }
  | _ => none }
def fnExactInvModRow : OpenClaim := { program := "ytbjnggnlflofbaa", sum := "b57c046222c49e0f13d34bcc1844b12c5f83ae87f0c5b384a654ebae877dd0a6", func := "loop.example/g00043/laws.FnExactInvMod", spec := "fnExactInvMod", apart := false }
def FnExactInvModSaid : Prop := fnExactInvModRow.holds Try.pinned (OpenSpec.ofChange fnExactInvModSpec)

/-- ITS FALSE NEIGHBOUR: 'it returns false'. Refute it at one input. -/
def fnExactInvModWrong : ChangeSpec := { name := "fnExactInvMod", fn := fun _ => fun
  | [d1, d2] => { results := [.lit (.bool false)], args := [d1, d2] }
  | _ => none }
def FnExactInvModWrongFalsely : Prop := fnExactInvModRow.holds Try.pinned (OpenSpec.ofChange fnExactInvModWrong)

/-- 'laws.FnExactUnit': WHATEVER THE INPUT: true; the input reads as it did. -/
def fnExactUnitSpec : ChangeSpec := { name := "fnExactUnit", fn := fun _ => fun
  | [d1, d2] => { results := [.lit (.bool true)], args := [d1, d2] }
  | _ => none }
def fnExactUnitRow : OpenClaim := { program := "ytbjnggnlflofbaa", sum := "b57c046222c49e0f13d34bcc1844b12c5f83ae87f0c5b384a654ebae877dd0a6", func := "loop.example/g00043/laws.FnExactUnit", spec := "fnExactUnit", apart := false }
def FnExactUnitSaid : Prop := fnExactUnitRow.holds Try.pinned (OpenSpec.ofChange fnExactUnitSpec)

/-- ITS FALSE NEIGHBOUR: 'it returns false'. Refute it at one input. -/
def fnExactUnitWrong : ChangeSpec := { name := "fnExactUnit", fn := fun _ => fun
  | [d1, d2] => { results := [.lit (.bool false)], args := [d1, d2] }
  | _ => none }
def FnExactUnitWrongFalsely : Prop := fnExactUnitRow.holds Try.pinned (OpenSpec.ofChange fnExactUnitWrong)

/-- 'laws.FnExactSignalOk': WHATEVER THE INPUT: true; the input reads as it did. -/
def fnExactSignalOkSpec : ChangeSpec := { name := "fnExactSignalOk", fn := fun _ => fun
  | [d] => { results := [.lit (.bool true)], args := [d] }
  | _ => none }
def fnExactSignalOkRow : OpenClaim := { program := "ytbjnggnlflofbaa", sum := "b57c046222c49e0f13d34bcc1844b12c5f83ae87f0c5b384a654ebae877dd0a6", func := "loop.example/g00043/laws.FnExactSignalOk", spec := "fnExactSignalOk", apart := false }
def FnExactSignalOkSaid : Prop := fnExactSignalOkRow.holds Try.pinned (OpenSpec.ofChange fnExactSignalOkSpec)

/-- ITS FALSE NEIGHBOUR: 'it returns false'. Refute it at one input. -/
def fnExactSignalOkWrong : ChangeSpec := { name := "fnExactSignalOk", fn := fun _ => fun
  | [d] => { results := [.lit (.bool false)], args := [d] }
  | _ => none }
def FnExactSignalOkWrongFalsely : Prop := fnExactSignalOkRow.holds Try.pinned (OpenSpec.ofChange fnExactSignalOkWrong)

/-- 'laws.FnExactRoundDiv': WHATEVER THE INPUT: true; the input reads as it did. -/
def fnExactRoundDivSpec : ChangeSpec := { name := "fnExactRoundDiv", fn := fun _ => fun
  | [d1, d2] => { results := [.lit (.bool true)], args := [d1, d2] }
  | _ => none }
def fnExactRoundDivRow : OpenClaim := { program := "ytbjnggnlflofbaa", sum := "b57c046222c49e0f13d34bcc1844b12c5f83ae87f0c5b384a654ebae877dd0a6", func := "loop.example/g00043/laws.FnExactRoundDiv", spec := "fnExactRoundDiv", apart := false }
def FnExactRoundDivSaid : Prop := fnExactRoundDivRow.holds Try.pinned (OpenSpec.ofChange fnExactRoundDivSpec)

/-- ITS FALSE NEIGHBOUR: 'it returns false'. Refute it at one input. -/
def fnExactRoundDivWrong : ChangeSpec := { name := "fnExactRoundDiv", fn := fun _ => fun
  | [d1, d2] => { results := [.lit (.bool false)], args := [d1, d2] }
  | _ => none }
def FnExactRoundDivWrongFalsely : Prop := fnExactRoundDivRow.holds Try.pinned (OpenSpec.ofChange fnExactRoundDivWrong)

/-- 'laws.FnExactShift': WHATEVER THE INPUT: true; the input reads as it did. -/
def fnExactShiftSpec : ChangeSpec := { name := "fnExactShift", fn := fun _ => fun
  | [d1, d2, d3] => { results := [.lit (.bool true)], args := [d1, d2, d3] }
  | _ => none }
def fnExactShiftRow : OpenClaim := { program := "ytbjnggnlflofbaa", sum := "b57c046222c49e0f13d34bcc1844b12c5f83ae87f0c5b384a654ebae877dd0a6", func := "loop.example/g00043/laws.FnExactShift", spec := "fnExactShift", apart := false }
def FnExactShiftSaid : Prop := fnExactShiftRow.holds Try.pinned (OpenSpec.ofChange fnExactShiftSpec)

/-- ITS FALSE NEIGHBOUR: 'it returns false'. Refute it at one input. -/
def fnExactShiftWrong : ChangeSpec := { name := "fnExactShift", fn := fun _ => fun
  | [d1, d2, d3] => { results := [.lit (.bool false)], args := [d1, d2, d3] }
  | _ => none }
def FnExactShiftWrongFalsely : Prop := fnExactShiftRow.holds Try.pinned (OpenSpec.ofChange fnExactShiftWrong)

/-- 'laws.FnExactMulFix': WHATEVER THE INPUT: true; the input reads as it did. -/
def fnExactMulFixSpec : ChangeSpec := { name := "fnExactMulFix", fn := fun _ => fun
  | [d1, d2, d3, d4, d5] => { results := [.lit (.bool true)], args := [d1, d2, d3, d4, d5] }
  | _ => none }
def fnExactMulFixRow : OpenClaim := { program := "ytbjnggnlflofbaa", sum := "b57c046222c49e0f13d34bcc1844b12c5f83ae87f0c5b384a654ebae877dd0a6", func := "loop.example/g00043/laws.FnExactMulFix", spec := "fnExactMulFix", apart := false }
def FnExactMulFixSaid : Prop := fnExactMulFixRow.holds Try.pinned (OpenSpec.ofChange fnExactMulFixSpec)

/-- ITS FALSE NEIGHBOUR: 'it returns false'. Refute it at one input. -/
def fnExactMulFixWrong : ChangeSpec := { name := "fnExactMulFix", fn := fun _ => fun
  | [d1, d2, d3, d4, d5] => { results := [.lit (.bool false)], args := [d1, d2, d3, d4, d5] }
  | _ => none }
def FnExactMulFixWrongFalsely : Prop := fnExactMulFixRow.holds Try.pinned (OpenSpec.ofChange fnExactMulFixWrong)

/-- 'laws.FnExactDotFix': WHATEVER THE INPUT: true; the input reads as it did. -/
def fnExactDotFixSpec : ChangeSpec := { name := "fnExactDotFix", fn := fun _ => fun
  | [d1, d2, d3, d4, d5, d6] => { results := [.lit (.bool true)], args := [d1, d2, d3, d4, d5, d6] }
  | _ => none }
def fnExactDotFixRow : OpenClaim := { program := "ytbjnggnlflofbaa", sum := "b57c046222c49e0f13d34bcc1844b12c5f83ae87f0c5b384a654ebae877dd0a6", func := "loop.example/g00043/laws.FnExactDotFix", spec := "fnExactDotFix", apart := false }
def FnExactDotFixSaid : Prop := fnExactDotFixRow.holds Try.pinned (OpenSpec.ofChange fnExactDotFixSpec)

/-- ITS FALSE NEIGHBOUR: 'it returns false'. Refute it at one input. -/
def fnExactDotFixWrong : ChangeSpec := { name := "fnExactDotFix", fn := fun _ => fun
  | [d1, d2, d3, d4, d5, d6] => { results := [.lit (.bool false)], args := [d1, d2, d3, d4, d5, d6] }
  | _ => none }
def FnExactDotFixWrongFalsely : Prop := fnExactDotFixRow.holds Try.pinned (OpenSpec.ofChange fnExactDotFixWrong)

/-- 'laws.FnExactShapeNoise': WHATEVER THE INPUT: true; the input reads as it did. -/
def fnExactShapeNoiseSpec : ChangeSpec := { name := "fnExactShapeNoise", fn := fun _ => fun
  | [d1, d2] => { results := [.lit (.bool true)], args := [d1, d2] }
  | _ => none }
def fnExactShapeNoiseRow : OpenClaim := { program := "ytbjnggnlflofbaa", sum := "b57c046222c49e0f13d34bcc1844b12c5f83ae87f0c5b384a654ebae877dd0a6", func := "loop.example/g00043/laws.FnExactShapeNoise", spec := "fnExactShapeNoise", apart := false }
def FnExactShapeNoiseSaid : Prop := fnExactShapeNoiseRow.holds Try.pinned (OpenSpec.ofChange fnExactShapeNoiseSpec)

/-- ITS FALSE NEIGHBOUR: 'it returns false'. Refute it at one input. -/
def fnExactShapeNoiseWrong : ChangeSpec := { name := "fnExactShapeNoise", fn := fun _ => fun
  | [d1, d2] => { results := [.lit (.bool false)], args := [d1, d2] }
  | _ => none }
def FnExactShapeNoiseWrongFalsely : Prop := fnExactShapeNoiseRow.holds Try.pinned (OpenSpec.ofChange fnExactShapeNoiseWrong)

/-- 'laws.FnExactRamp': WHATEVER THE INPUT: true; the input reads as it did. -/
def fnExactRampSpec : ChangeSpec := { name := "fnExactRamp", fn := fun _ => fun
  | [d] => { results := [.lit (.bool true)], args := [d] }
  | _ => none }
def fnExactRampRow : OpenClaim := { program := "ytbjnggnlflofbaa", sum := "b57c046222c49e0f13d34bcc1844b12c5f83ae87f0c5b384a654ebae877dd0a6", func := "loop.example/g00043/laws.FnExactRamp", spec := "fnExactRamp", apart := false }
def FnExactRampSaid : Prop := fnExactRampRow.holds Try.pinned (OpenSpec.ofChange fnExactRampSpec)

/-- ITS FALSE NEIGHBOUR: 'it returns false'. Refute it at one input. -/
def fnExactRampWrong : ChangeSpec := { name := "fnExactRamp", fn := fun _ => fun
  | [d] => { results := [.lit (.bool false)], args := [d] }
  | _ => none }
def FnExactRampWrongFalsely : Prop := fnExactRampRow.holds Try.pinned (OpenSpec.ofChange fnExactRampWrong)

/-- 'laws.FnExactSteps': WHATEVER THE INPUT: true; the input reads as it did. -/
def fnExactStepsSpec : ChangeSpec := { name := "fnExactSteps", fn := fun _ => fun
  | [d] => { results := [.lit (.bool true)], args := [d] }
  | _ => none }
def fnExactStepsRow : OpenClaim := { program := "ytbjnggnlflofbaa", sum := "b57c046222c49e0f13d34bcc1844b12c5f83ae87f0c5b384a654ebae877dd0a6", func := "loop.example/g00043/laws.FnExactSteps", spec := "fnExactSteps", apart := false }
def FnExactStepsSaid : Prop := fnExactStepsRow.holds Try.pinned (OpenSpec.ofChange fnExactStepsSpec)

/-- ITS FALSE NEIGHBOUR: 'it returns false'. Refute it at one input. -/
def fnExactStepsWrong : ChangeSpec := { name := "fnExactSteps", fn := fun _ => fun
  | [d] => { results := [.lit (.bool false)], args := [d] }
  | _ => none }
def FnExactStepsWrongFalsely : Prop := fnExactStepsRow.holds Try.pinned (OpenSpec.ofChange fnExactStepsWrong)

/-- 'laws.FnCutOff': WHATEVER THE INPUT: true; the input reads as it did. -/
def fnCutOffSpec : ChangeSpec := { name := "fnCutOff", fn := fun _ => fun
  | [d] => { results := [.lit (.bool true)], args := [d] }
  | _ => none }
def fnCutOffRow : OpenClaim := { program := "ytbjnggnlflofbaa", sum := "b57c046222c49e0f13d34bcc1844b12c5f83ae87f0c5b384a654ebae877dd0a6", func := "loop.example/g00043/laws.FnCutOff", spec := "fnCutOff", apart := false }
def FnCutOffSaid : Prop := fnCutOffRow.holds Try.pinned (OpenSpec.ofChange fnCutOffSpec)

/-- ITS FALSE NEIGHBOUR: 'it returns false'. Refute it at one input. -/
def fnCutOffWrong : ChangeSpec := { name := "fnCutOff", fn := fun _ => fun
  | [d] => { results := [.lit (.bool false)], args := [d] }
  | _ => none }
def FnCutOffWrongFalsely : Prop := fnCutOffRow.holds Try.pinned (OpenSpec.ofChange fnCutOffWrong)

/- THE SECOND FORM. 'bulk': how many values and letters a reading holds, each counted each time it is reached (what is shared counts as often as it is met; a slice's spare places count too). A statement '..UptoSaid' is the law's where the arguments, and the package variables that the reading takes, are together of bulk at most 1048576: NARROWER than '..Said'. Prove '..Said' where nothing that the law and all that it calls make is longer than what came in: it says more and counts as full. Else prove '..UptoSaid'. A law counts once. -/
mutual
def uptoBulk {H : Type} : DataW H → Nat
  | .lit (.string bytes) => bytes.length + 1
  | .lit _ => 1
  | .nil => 1
  | .ptr d => uptoBulk d + 1
  | .slice elems spare => uptoBulkAll elems + uptoBulkAll spare + 1
  | .agg parts => uptoBulkAll parts + 1
  | .iface _ d => uptoBulk d + 1
  | .map entries => uptoBulkEntries entries + 1
  | .held _ => 1
def uptoBulkAll {H : Type} : List (DataW H) → Nat
  | [] => 0
  | d :: r => uptoBulk d + uptoBulkAll r
def uptoBulkEntries {H : Type} : List (Lit × DataW H) → Nat
  | [] => 0
  | x :: r => uptoBulkEntry x + uptoBulkEntries r
def uptoBulkEntry {H : Type} : Lit × DataW H → Nat
  | (.string bytes, d) => bytes.length + uptoBulk d + 1
  | (_, d) => uptoBulk d + 1
 end
def uptoSmall : (H : Type) → List (DataW H) → Bool := fun _ ds => decide (uptoBulkAll ds ≤ 1048576)
def OpenSpec.upto (s : _root_.Go.ChangeSpec) : _root_.Go.OpenSpec := { _root_.Go.OpenSpec.ofChange s with cond := some uptoSmall }

/-- 'laws.FnExactPowMod', WHERE WHAT IT READS IS OF BULK AT MOST 1048576: true; the input reads as it did. -/
def fnExactPowModUptoRow : OpenClaim := { program := "ytbjnggnlflofbaa", sum := "b57c046222c49e0f13d34bcc1844b12c5f83ae87f0c5b384a654ebae877dd0a6", func := "loop.example/g00043/laws.FnExactPowMod", spec := "fnExactPowMod", apart := false, narrowed := true }
def FnExactPowModUptoSaid : Prop := fnExactPowModUptoRow.holds Try.pinned (OpenSpec.upto fnExactPowModSpec)

/-- 'laws.FnExactInvMod', WHERE WHAT IT READS IS OF BULK AT MOST 1048576: true; the input reads as it did. -/
def fnExactInvModUptoRow : OpenClaim := { program := "ytbjnggnlflofbaa", sum := "b57c046222c49e0f13d34bcc1844b12c5f83ae87f0c5b384a654ebae877dd0a6", func := "loop.example/g00043/laws.FnExactInvMod", spec := "fnExactInvMod", apart := false, narrowed := true }
def FnExactInvModUptoSaid : Prop := fnExactInvModUptoRow.holds Try.pinned (OpenSpec.upto fnExactInvModSpec)

/-- 'laws.FnExactUnit', WHERE WHAT IT READS IS OF BULK AT MOST 1048576: true; the input reads as it did. -/
def fnExactUnitUptoRow : OpenClaim := { program := "ytbjnggnlflofbaa", sum := "b57c046222c49e0f13d34bcc1844b12c5f83ae87f0c5b384a654ebae877dd0a6", func := "loop.example/g00043/laws.FnExactUnit", spec := "fnExactUnit", apart := false, narrowed := true }
def FnExactUnitUptoSaid : Prop := fnExactUnitUptoRow.holds Try.pinned (OpenSpec.upto fnExactUnitSpec)

/-- 'laws.FnExactSignalOk', WHERE WHAT IT READS IS OF BULK AT MOST 1048576: true; the input reads as it did. -/
def fnExactSignalOkUptoRow : OpenClaim := { program := "ytbjnggnlflofbaa", sum := "b57c046222c49e0f13d34bcc1844b12c5f83ae87f0c5b384a654ebae877dd0a6", func := "loop.example/g00043/laws.FnExactSignalOk", spec := "fnExactSignalOk", apart := false, narrowed := true }
def FnExactSignalOkUptoSaid : Prop := fnExactSignalOkUptoRow.holds Try.pinned (OpenSpec.upto fnExactSignalOkSpec)

/-- 'laws.FnExactRoundDiv', WHERE WHAT IT READS IS OF BULK AT MOST 1048576: true; the input reads as it did. -/
def fnExactRoundDivUptoRow : OpenClaim := { program := "ytbjnggnlflofbaa", sum := "b57c046222c49e0f13d34bcc1844b12c5f83ae87f0c5b384a654ebae877dd0a6", func := "loop.example/g00043/laws.FnExactRoundDiv", spec := "fnExactRoundDiv", apart := false, narrowed := true }
def FnExactRoundDivUptoSaid : Prop := fnExactRoundDivUptoRow.holds Try.pinned (OpenSpec.upto fnExactRoundDivSpec)

/-- 'laws.FnExactShift', WHERE WHAT IT READS IS OF BULK AT MOST 1048576: true; the input reads as it did. -/
def fnExactShiftUptoRow : OpenClaim := { program := "ytbjnggnlflofbaa", sum := "b57c046222c49e0f13d34bcc1844b12c5f83ae87f0c5b384a654ebae877dd0a6", func := "loop.example/g00043/laws.FnExactShift", spec := "fnExactShift", apart := false, narrowed := true }
def FnExactShiftUptoSaid : Prop := fnExactShiftUptoRow.holds Try.pinned (OpenSpec.upto fnExactShiftSpec)

/-- 'laws.FnExactMulFix', WHERE WHAT IT READS IS OF BULK AT MOST 1048576: true; the input reads as it did. -/
def fnExactMulFixUptoRow : OpenClaim := { program := "ytbjnggnlflofbaa", sum := "b57c046222c49e0f13d34bcc1844b12c5f83ae87f0c5b384a654ebae877dd0a6", func := "loop.example/g00043/laws.FnExactMulFix", spec := "fnExactMulFix", apart := false, narrowed := true }
def FnExactMulFixUptoSaid : Prop := fnExactMulFixUptoRow.holds Try.pinned (OpenSpec.upto fnExactMulFixSpec)

/-- 'laws.FnExactDotFix', WHERE WHAT IT READS IS OF BULK AT MOST 1048576: true; the input reads as it did. -/
def fnExactDotFixUptoRow : OpenClaim := { program := "ytbjnggnlflofbaa", sum := "b57c046222c49e0f13d34bcc1844b12c5f83ae87f0c5b384a654ebae877dd0a6", func := "loop.example/g00043/laws.FnExactDotFix", spec := "fnExactDotFix", apart := false, narrowed := true }
def FnExactDotFixUptoSaid : Prop := fnExactDotFixUptoRow.holds Try.pinned (OpenSpec.upto fnExactDotFixSpec)

/-- 'laws.FnExactShapeNoise', WHERE WHAT IT READS IS OF BULK AT MOST 1048576: true; the input reads as it did. -/
def fnExactShapeNoiseUptoRow : OpenClaim := { program := "ytbjnggnlflofbaa", sum := "b57c046222c49e0f13d34bcc1844b12c5f83ae87f0c5b384a654ebae877dd0a6", func := "loop.example/g00043/laws.FnExactShapeNoise", spec := "fnExactShapeNoise", apart := false, narrowed := true }
def FnExactShapeNoiseUptoSaid : Prop := fnExactShapeNoiseUptoRow.holds Try.pinned (OpenSpec.upto fnExactShapeNoiseSpec)

/-- 'laws.FnExactRamp', WHERE WHAT IT READS IS OF BULK AT MOST 1048576: true; the input reads as it did. -/
def fnExactRampUptoRow : OpenClaim := { program := "ytbjnggnlflofbaa", sum := "b57c046222c49e0f13d34bcc1844b12c5f83ae87f0c5b384a654ebae877dd0a6", func := "loop.example/g00043/laws.FnExactRamp", spec := "fnExactRamp", apart := false, narrowed := true }
def FnExactRampUptoSaid : Prop := fnExactRampUptoRow.holds Try.pinned (OpenSpec.upto fnExactRampSpec)

/-- 'laws.FnExactSteps', WHERE WHAT IT READS IS OF BULK AT MOST 1048576: true; the input reads as it did. -/
def fnExactStepsUptoRow : OpenClaim := { program := "ytbjnggnlflofbaa", sum := "b57c046222c49e0f13d34bcc1844b12c5f83ae87f0c5b384a654ebae877dd0a6", func := "loop.example/g00043/laws.FnExactSteps", spec := "fnExactSteps", apart := false, narrowed := true }
def FnExactStepsUptoSaid : Prop := fnExactStepsUptoRow.holds Try.pinned (OpenSpec.upto fnExactStepsSpec)

/-- 'laws.FnCutOff', WHERE WHAT IT READS IS OF BULK AT MOST 1048576: true; the input reads as it did. -/
def fnCutOffUptoRow : OpenClaim := { program := "ytbjnggnlflofbaa", sum := "b57c046222c49e0f13d34bcc1844b12c5f83ae87f0c5b384a654ebae877dd0a6", func := "loop.example/g00043/laws.FnCutOff", spec := "fnCutOff", apart := false, narrowed := true }
def FnCutOffUptoSaid : Prop := fnCutOffUptoRow.holds Try.pinned (OpenSpec.upto fnCutOffSpec)

end Rows
end Go.Proofs.Ytbjnggnlflofbaa
