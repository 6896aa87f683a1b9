/-
  No cell of these rows narrows 'for every input' (looked for: loops, veiled, ifaces, maps, wideKeys, modest, calm, conditions, laid).
  DERIVED. THE GIVEN ROWS OF THIS SEAT. 10 by the template 'for every input the law returns true; each argument reads behind the call as it read before'; 0 by the template 'total and deterministic' (their statements: YtbhdobjjhkkpkaaTotals.lean).
  GIVEN WITH THE SEED: the statements are not yours to turn. If you find one false, say at which input.
  Laid BY PROGRAM, IN A SANDBOX (cutbox-rows.mjs): the forced cells as the released guide's own fill.sh prints them over the translation 9ee5040c61ac7c74… (all of the seat's roots in one cut). By AI agents, Wed Nov 11 2026. No macro, syntax, notation, axiom, sorry.
-/
import Derived.Test.YtbhdobjjhkkpkaaChecked
import GoSem.Claim
import GoSem.ClaimJoined
import GoSem.ClaimMapViews
import Derived.JoinedTies
import Derived.KernelRfl
namespace Go.Proofs.Ytbhdobjjhkkpkaa
/- THE CELL 'sum', in the pinned program and in every row, IS THE sha256 OF THE DUMP (.gsa) THAT YtbhdobjjhkkpkaaProg.lean LOADS. Nothing in Lean hashes anything: it is a label: what it is worth is what the hold of that sum in a sandbox is worth. -/
noncomputable def Try.pinned : Pinned := { name := "ytbhdobjjhkkpkaa", sum := "9ee5040c61ac7c74336b4acd458c188f726277ff8a57f6a277f16d2f94500beb", checked := Try.checked }
namespace Rows
def none {H : Type} : Left H := { results := [], args := [] }

/-- 'laws.FnExactPlainIn': WHATEVER THE INPUT: true; the input reads as it did. -/
def fnExactPlainInSpec : ChangeSpec := { name := "fnExactPlainIn", fn := fun _ => fun
  | [d1, d2, d3] => { results := [.lit (.bool true)], args := [d1, d2, d3] }
  | _ => none }
def fnExactPlainInRow : OpenClaim := { program := "ytbhdobjjhkkpkaa", sum := "9ee5040c61ac7c74336b4acd458c188f726277ff8a57f6a277f16d2f94500beb", func := "loop.example/g00697/laws.FnExactPlainIn", spec := "fnExactPlainIn", recurses := true, apart := false }
def FnExactPlainInSaid : Prop := fnExactPlainInRow.holds Try.pinned (OpenSpec.ofChange fnExactPlainInSpec)

/-- ITS FALSE NEIGHBOUR: 'it returns false'. Refute it at one input. -/
def fnExactPlainInWrong : ChangeSpec := { name := "fnExactPlainIn", fn := fun _ => fun
  | [d1, d2, d3] => { results := [.lit (.bool false)], args := [d1, d2, d3] }
  | _ => none }
def FnExactPlainInWrongFalsely : Prop := fnExactPlainInRow.holds Try.pinned (OpenSpec.ofChange fnExactPlainInWrong)

/-- 'laws.FnExactValueIn': WHATEVER THE INPUT: true; the input reads as it did. -/
def fnExactValueInSpec : ChangeSpec := { name := "fnExactValueIn", fn := fun _ => fun
  | [d1, d2, d3] => { results := [.lit (.bool true)], args := [d1, d2, d3] }
  | _ => none }
def fnExactValueInRow : OpenClaim := { program := "ytbhdobjjhkkpkaa", sum := "9ee5040c61ac7c74336b4acd458c188f726277ff8a57f6a277f16d2f94500beb", func := "loop.example/g00697/laws.FnExactValueIn", spec := "fnExactValueIn", recurses := true, apart := false }
def FnExactValueInSaid : Prop := fnExactValueInRow.holds Try.pinned (OpenSpec.ofChange fnExactValueInSpec)

/-- ITS FALSE NEIGHBOUR: 'it returns false'. Refute it at one input. -/
def fnExactValueInWrong : ChangeSpec := { name := "fnExactValueIn", fn := fun _ => fun
  | [d1, d2, d3] => { results := [.lit (.bool false)], args := [d1, d2, d3] }
  | _ => none }
def FnExactValueInWrongFalsely : Prop := fnExactValueInRow.holds Try.pinned (OpenSpec.ofChange fnExactValueInWrong)

/-- 'laws.FnExactFlowOf': WHATEVER THE INPUT: true; the input reads as it did. -/
def fnExactFlowOfSpec : ChangeSpec := { name := "fnExactFlowOf", fn := fun _ => fun
  | [d] => { results := [.lit (.bool true)], args := [d] }
  | _ => none }
def fnExactFlowOfRow : OpenClaim := { program := "ytbhdobjjhkkpkaa", sum := "9ee5040c61ac7c74336b4acd458c188f726277ff8a57f6a277f16d2f94500beb", func := "loop.example/g00697/laws.FnExactFlowOf", spec := "fnExactFlowOf", recurses := true, apart := false }
def FnExactFlowOfSaid : Prop := fnExactFlowOfRow.holds Try.pinned (OpenSpec.ofChange fnExactFlowOfSpec)

/-- ITS FALSE NEIGHBOUR: 'it returns false'. Refute it at one input. -/
def fnExactFlowOfWrong : ChangeSpec := { name := "fnExactFlowOf", fn := fun _ => fun
  | [d] => { results := [.lit (.bool false)], args := [d] }
  | _ => none }
def FnExactFlowOfWrongFalsely : Prop := fnExactFlowOfRow.holds Try.pinned (OpenSpec.ofChange fnExactFlowOfWrong)

/-- 'laws.FnExactFolded': WHATEVER THE INPUT: true; the input reads as it did. -/
def fnExactFoldedSpec : ChangeSpec := { name := "fnExactFolded", fn := fun _ => fun
  | [d1, d2] => { results := [.lit (.bool true)], args := [d1, d2] }
  | _ => none }
def fnExactFoldedRow : OpenClaim := { program := "ytbhdobjjhkkpkaa", sum := "9ee5040c61ac7c74336b4acd458c188f726277ff8a57f6a277f16d2f94500beb", func := "loop.example/g00697/laws.FnExactFolded", spec := "fnExactFolded", recurses := true, apart := false }
def FnExactFoldedSaid : Prop := fnExactFoldedRow.holds Try.pinned (OpenSpec.ofChange fnExactFoldedSpec)

/-- ITS FALSE NEIGHBOUR: 'it returns false'. Refute it at one input. -/
def fnExactFoldedWrong : ChangeSpec := { name := "fnExactFolded", fn := fun _ => fun
  | [d1, d2] => { results := [.lit (.bool false)], args := [d1, d2] }
  | _ => none }
def FnExactFoldedWrongFalsely : Prop := fnExactFoldedRow.holds Try.pinned (OpenSpec.ofChange fnExactFoldedWrong)

/-- 'laws.FnExactFoldedProg': WHATEVER THE INPUT: true; the input reads as it did. -/
def fnExactFoldedProgSpec : ChangeSpec := { name := "fnExactFoldedProg", fn := fun _ => fun
  | [d] => { results := [.lit (.bool true)], args := [d] }
  | _ => none }
def fnExactFoldedProgRow : OpenClaim := { program := "ytbhdobjjhkkpkaa", sum := "9ee5040c61ac7c74336b4acd458c188f726277ff8a57f6a277f16d2f94500beb", func := "loop.example/g00697/laws.FnExactFoldedProg", spec := "fnExactFoldedProg", recurses := true, apart := false }
def FnExactFoldedProgSaid : Prop := fnExactFoldedProgRow.holds Try.pinned (OpenSpec.ofChange fnExactFoldedProgSpec)

/-- ITS FALSE NEIGHBOUR: 'it returns false'. Refute it at one input. -/
def fnExactFoldedProgWrong : ChangeSpec := { name := "fnExactFoldedProg", fn := fun _ => fun
  | [d] => { results := [.lit (.bool false)], args := [d] }
  | _ => none }
def FnExactFoldedProgWrongFalsely : Prop := fnExactFoldedProgRow.holds Try.pinned (OpenSpec.ofChange fnExactFoldedProgWrong)

/-- 'laws.FnExactRunOf': WHATEVER THE INPUT: true; the input reads as it did. -/
def fnExactRunOfSpec : ChangeSpec := { name := "fnExactRunOf", fn := fun _ => fun
  | [d1, d2, d3] => { results := [.lit (.bool true)], args := [d1, d2, d3] }
  | _ => none }
def fnExactRunOfRow : OpenClaim := { program := "ytbhdobjjhkkpkaa", sum := "9ee5040c61ac7c74336b4acd458c188f726277ff8a57f6a277f16d2f94500beb", func := "loop.example/g00697/laws.FnExactRunOf", spec := "fnExactRunOf", recurses := true, apart := false }
def FnExactRunOfSaid : Prop := fnExactRunOfRow.holds Try.pinned (OpenSpec.ofChange fnExactRunOfSpec)

/-- ITS FALSE NEIGHBOUR: 'it returns false'. Refute it at one input. -/
def fnExactRunOfWrong : ChangeSpec := { name := "fnExactRunOf", fn := fun _ => fun
  | [d1, d2, d3] => { results := [.lit (.bool false)], args := [d1, d2, d3] }
  | _ => none }
def FnExactRunOfWrongFalsely : Prop := fnExactRunOfRow.holds Try.pinned (OpenSpec.ofChange fnExactRunOfWrong)

/-- 'laws.FnCode': WHATEVER THE INPUT: true; the input reads as it did. -/
def fnCodeSpec : ChangeSpec := { name := "fnCode", fn := fun _ => fun
  | [d] => { results := [.lit (.bool true)], args := [d] }
  | _ => none }
def fnCodeRow : OpenClaim := { program := "ytbhdobjjhkkpkaa", sum := "9ee5040c61ac7c74336b4acd458c188f726277ff8a57f6a277f16d2f94500beb", func := "loop.example/g00697/laws.FnCode", spec := "fnCode", recurses := true, apart := false }
def FnCodeSaid : Prop := fnCodeRow.holds Try.pinned (OpenSpec.ofChange fnCodeSpec)

/-- ITS FALSE NEIGHBOUR: 'it returns false'. Refute it at one input. -/
def fnCodeWrong : ChangeSpec := { name := "fnCode", fn := fun _ => fun
  | [d] => { results := [.lit (.bool false)], args := [d] }
  | _ => none }
def FnCodeWrongFalsely : Prop := fnCodeRow.holds Try.pinned (OpenSpec.ofChange fnCodeWrong)

/-- 'laws.FnRun': WHATEVER THE INPUT: true; the input reads as it did. -/
def fnRunSpec : ChangeSpec := { name := "fnRun", fn := fun _ => fun
  | [d] => { results := [.lit (.bool true)], args := [d] }
  | _ => none }
def fnRunRow : OpenClaim := { program := "ytbhdobjjhkkpkaa", sum := "9ee5040c61ac7c74336b4acd458c188f726277ff8a57f6a277f16d2f94500beb", func := "loop.example/g00697/laws.FnRun", spec := "fnRun", recurses := true, apart := false }
def FnRunSaid : Prop := fnRunRow.holds Try.pinned (OpenSpec.ofChange fnRunSpec)

/-- ITS FALSE NEIGHBOUR: 'it returns false'. Refute it at one input. -/
def fnRunWrong : ChangeSpec := { name := "fnRun", fn := fun _ => fun
  | [d] => { results := [.lit (.bool false)], args := [d] }
  | _ => none }
def FnRunWrongFalsely : Prop := fnRunRow.holds Try.pinned (OpenSpec.ofChange fnRunWrong)

/-- 'laws.FnFoldProg': WHATEVER THE INPUT: true; the input reads as it did. -/
def fnFoldProgSpec : ChangeSpec := { name := "fnFoldProg", fn := fun _ => fun
  | [d] => { results := [.lit (.bool true)], args := [d] }
  | _ => none }
def fnFoldProgRow : OpenClaim := { program := "ytbhdobjjhkkpkaa", sum := "9ee5040c61ac7c74336b4acd458c188f726277ff8a57f6a277f16d2f94500beb", func := "loop.example/g00697/laws.FnFoldProg", spec := "fnFoldProg", recurses := true, apart := false }
def FnFoldProgSaid : Prop := fnFoldProgRow.holds Try.pinned (OpenSpec.ofChange fnFoldProgSpec)

/-- ITS FALSE NEIGHBOUR: 'it returns false'. Refute it at one input. -/
def fnFoldProgWrong : ChangeSpec := { name := "fnFoldProg", fn := fun _ => fun
  | [d] => { results := [.lit (.bool false)], args := [d] }
  | _ => none }
def FnFoldProgWrongFalsely : Prop := fnFoldProgRow.holds Try.pinned (OpenSpec.ofChange fnFoldProgWrong)

/-- 'laws.FnExactSliced': WHATEVER THE INPUT: true; the input reads as it did. -/
def fnExactSlicedSpec : ChangeSpec := { name := "fnExactSliced", fn := fun _ => fun
  | [d] => { results := [.lit (.bool true)], args := [d] }
  | _ => none }
def fnExactSlicedRow : OpenClaim := { program := "ytbhdobjjhkkpkaa", sum := "9ee5040c61ac7c74336b4acd458c188f726277ff8a57f6a277f16d2f94500beb", func := "loop.example/g00697/laws.FnExactSliced", spec := "fnExactSliced", recurses := true, apart := false }
def FnExactSlicedSaid : Prop := fnExactSlicedRow.holds Try.pinned (OpenSpec.ofChange fnExactSlicedSpec)

/-- ITS FALSE NEIGHBOUR: 'it returns false'. Refute it at one input. -/
def fnExactSlicedWrong : ChangeSpec := { name := "fnExactSliced", fn := fun _ => fun
  | [d] => { results := [.lit (.bool false)], args := [d] }
  | _ => none }
def FnExactSlicedWrongFalsely : Prop := fnExactSlicedRow.holds Try.pinned (OpenSpec.ofChange fnExactSlicedWrong)

/- THE SECOND FORM. 'bulk': how many values and letters a reading holds, each counted each time it is reached (what is shared counts as often as it is met; a slice's spare places count too). A statement '..UptoSaid' is the law's where the arguments, and the package variables that the reading takes, are together of bulk at most 1048576: NARROWER than '..Said'. Prove '..Said' where nothing that the law and all that it calls make is longer than what came in: it says more and counts as full. Else prove '..UptoSaid'. A law counts once. -/
mutual
def uptoBulk {H : Type} : DataW H → Nat
  | .lit (.string bytes) => bytes.length + 1
  | .lit _ => 1
  | .nil => 1
  | .ptr d => uptoBulk d + 1
  | .slice elems spare => uptoBulkAll elems + uptoBulkAll spare + 1
  | .agg parts => uptoBulkAll parts + 1
  | .iface _ d => uptoBulk d + 1
  | .map entries => uptoBulkEntries entries + 1
  | .held _ => 1
def uptoBulkAll {H : Type} : List (DataW H) → Nat
  | [] => 0
  | d :: r => uptoBulk d + uptoBulkAll r
def uptoBulkEntries {H : Type} : List (Lit × DataW H) → Nat
  | [] => 0
  | x :: r => uptoBulkEntry x + uptoBulkEntries r
def uptoBulkEntry {H : Type} : Lit × DataW H → Nat
  | (.string bytes, d) => bytes.length + uptoBulk d + 1
  | (_, d) => uptoBulk d + 1
 end
def uptoSmall : (H : Type) → List (DataW H) → Bool := fun _ ds => decide (uptoBulkAll ds ≤ 1048576)
def OpenSpec.upto (s : _root_.Go.ChangeSpec) : _root_.Go.OpenSpec := { _root_.Go.OpenSpec.ofChange s with cond := some uptoSmall }

/-- 'laws.FnExactPlainIn', WHERE WHAT IT READS IS OF BULK AT MOST 1048576: true; the input reads as it did. -/
def fnExactPlainInUptoRow : OpenClaim := { program := "ytbhdobjjhkkpkaa", sum := "9ee5040c61ac7c74336b4acd458c188f726277ff8a57f6a277f16d2f94500beb", func := "loop.example/g00697/laws.FnExactPlainIn", spec := "fnExactPlainIn", recurses := true, apart := false, narrowed := true }
def FnExactPlainInUptoSaid : Prop := fnExactPlainInUptoRow.holds Try.pinned (OpenSpec.upto fnExactPlainInSpec)

/-- 'laws.FnExactValueIn', WHERE WHAT IT READS IS OF BULK AT MOST 1048576: true; the input reads as it did. -/
def fnExactValueInUptoRow : OpenClaim := { program := "ytbhdobjjhkkpkaa", sum := "9ee5040c61ac7c74336b4acd458c188f726277ff8a57f6a277f16d2f94500beb", func := "loop.example/g00697/laws.FnExactValueIn", spec := "fnExactValueIn", recurses := true, apart := false, narrowed := true }
def FnExactValueInUptoSaid : Prop := fnExactValueInUptoRow.holds Try.pinned (OpenSpec.upto fnExactValueInSpec)

/-- 'laws.FnExactFlowOf', WHERE WHAT IT READS IS OF BULK AT MOST 1048576: true; the input reads as it did. -/
def fnExactFlowOfUptoRow : OpenClaim := { program := "ytbhdobjjhkkpkaa", sum := "9ee5040c61ac7c74336b4acd458c188f726277ff8a57f6a277f16d2f94500beb", func := "loop.example/g00697/laws.FnExactFlowOf", spec := "fnExactFlowOf", recurses := true, apart := false, narrowed := true }
def FnExactFlowOfUptoSaid : Prop := fnExactFlowOfUptoRow.holds Try.pinned (OpenSpec.upto fnExactFlowOfSpec)

/-- 'laws.FnExactFolded', WHERE WHAT IT READS IS OF BULK AT MOST 1048576: true; the input reads as it did. -/
def fnExactFoldedUptoRow : OpenClaim := { program := "ytbhdobjjhkkpkaa", sum := "9ee5040c61ac7c74336b4acd458c188f726277ff8a57f6a277f16d2f94500beb", func := "loop.example/g00697/laws.FnExactFolded", spec := "fnExactFolded", recurses := true, apart := false, narrowed := true }
def FnExactFoldedUptoSaid : Prop := fnExactFoldedUptoRow.holds Try.pinned (OpenSpec.upto fnExactFoldedSpec)

/-- 'laws.FnExactFoldedProg', WHERE WHAT IT READS IS OF BULK AT MOST 1048576: true; the input reads as it did. -/
def fnExactFoldedProgUptoRow : OpenClaim := { program := "ytbhdobjjhkkpkaa", sum := "9ee5040c61ac7c74336b4acd458c188f726277ff8a57f6a277f16d2f94500beb", func := "loop.example/g00697/laws.FnExactFoldedProg", spec := "fnExactFoldedProg", recurses := true, apart := false, narrowed := true }
def FnExactFoldedProgUptoSaid : Prop := fnExactFoldedProgUptoRow.holds Try.pinned (OpenSpec.upto fnExactFoldedProgSpec)

/-- 'laws.FnExactRunOf', WHERE WHAT IT READS IS OF BULK AT MOST 1048576: true; the input reads as it did. -/
def fnExactRunOfUptoRow : OpenClaim := { program := "ytbhdobjjhkkpkaa", sum := "9ee5040c61ac7c74336b4acd458c188f726277ff8a57f6a277f16d2f94500beb", func := "loop.example/g00697/laws.FnExactRunOf", spec := "fnExactRunOf", recurses := true, apart := false, narrowed := true }
def FnExactRunOfUptoSaid : Prop := fnExactRunOfUptoRow.holds Try.pinned (OpenSpec.upto fnExactRunOfSpec)

/-- 'laws.FnCode', WHERE WHAT IT READS IS OF BULK AT MOST 1048576: true; the input reads as it did. -/
def fnCodeUptoRow : OpenClaim := { program := "ytbhdobjjhkkpkaa", sum := "9ee5040c61ac7c74336b4acd458c188f726277ff8a57f6a277f16d2f94500beb", func := "loop.example/g00697/laws.FnCode", spec := "fnCode", recurses := true, apart := false, narrowed := true }
def FnCodeUptoSaid : Prop := fnCodeUptoRow.holds Try.pinned (OpenSpec.upto fnCodeSpec)

/-- 'laws.FnRun', WHERE WHAT IT READS IS OF BULK AT MOST 1048576: true; the input reads as it did. -/
def fnRunUptoRow : OpenClaim := { program := "ytbhdobjjhkkpkaa", sum := "9ee5040c61ac7c74336b4acd458c188f726277ff8a57f6a277f16d2f94500beb", func := "loop.example/g00697/laws.FnRun", spec := "fnRun", recurses := true, apart := false, narrowed := true }
def FnRunUptoSaid : Prop := fnRunUptoRow.holds Try.pinned (OpenSpec.upto fnRunSpec)

/-- 'laws.FnFoldProg', WHERE WHAT IT READS IS OF BULK AT MOST 1048576: true; the input reads as it did. -/
def fnFoldProgUptoRow : OpenClaim := { program := "ytbhdobjjhkkpkaa", sum := "9ee5040c61ac7c74336b4acd458c188f726277ff8a57f6a277f16d2f94500beb", func := "loop.example/g00697/laws.FnFoldProg", spec := "fnFoldProg", recurses := true, apart := false, narrowed := true }
def FnFoldProgUptoSaid : Prop := fnFoldProgUptoRow.holds Try.pinned (OpenSpec.upto fnFoldProgSpec)

/-- 'laws.FnExactSliced', WHERE WHAT IT READS IS OF BULK AT MOST 1048576: true; the input reads as it did. -/
def fnExactSlicedUptoRow : OpenClaim := { program := "ytbhdobjjhkkpkaa", sum := "9ee5040c61ac7c74336b4acd458c188f726277ff8a57f6a277f16d2f94500beb", func := "loop.example/g00697/laws.FnExactSliced", spec := "fnExactSliced", recurses := true, apart := false, narrowed := true }
def FnExactSlicedUptoSaid : Prop := fnExactSlicedUptoRow.holds Try.pinned (OpenSpec.upto fnExactSlicedSpec)

end Rows
end Go.Proofs.Ytbhdobjjhkkpkaa
