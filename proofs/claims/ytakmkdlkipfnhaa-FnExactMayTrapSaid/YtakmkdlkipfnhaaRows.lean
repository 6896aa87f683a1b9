/-
  No cell of these rows narrows 'for every input' (looked for: loops, veiled, ifaces, maps, wideKeys, modest, calm, conditions, laid).
  DERIVED. THE GIVEN ROWS OF THIS SEAT. 12 by the template 'for every input the law returns true; each argument reads behind the call as it read before'; 0 by the template 'total and deterministic' (their statements: YtakmkdlkipfnhaaTotals.lean).
  GIVEN WITH THE SEED: the statements are not yours to turn. If you find one false, say at which input.
  Laid BY PROGRAM, IN A SANDBOX (cutbox-rows.mjs): the forced cells as the released guide's own fill.sh prints them over the translation 427619222a440e2d… (all of the seat's roots in one cut). By AI agents, Wed Nov 11 2026. No macro, syntax, notation, axiom, sorry.
-/
import Derived.Test.YtakmkdlkipfnhaaChecked
import GoSem.Claim
import GoSem.ClaimJoined
import GoSem.ClaimMapViews
import Derived.JoinedTies
import Derived.KernelRfl
namespace Go.Proofs.Ytakmkdlkipfnhaa
/- THE CELL 'sum', in the pinned program and in every row, IS THE sha256 OF THE DUMP (.gsa) THAT YtakmkdlkipfnhaaProg.lean LOADS. Nothing in Lean hashes anything: it is a label: what it is worth is what the hold of that sum in a sandbox is worth. -/
noncomputable def Try.pinned : Pinned := { name := "ytakmkdlkipfnhaa", sum := "427619222a440e2de5bb6052e397269d2820e4ad82883d6421084adef1db5e87", checked := Try.checked }
namespace Rows
def none {H : Type} : Left H := { results := [], args := [] }

/-- 'laws.FnExactEnvOk': WHATEVER THE INPUT: true; the input reads as it did. -/
def fnExactEnvOkSpec : ChangeSpec := { name := "fnExactEnvOk", fn := fun _ => fun
  | [d1, d2] => { results := [.lit (.bool true)], args := [d1, d2] }
  | _ => none }
def fnExactEnvOkRow : OpenClaim := { program := "ytakmkdlkipfnhaa", sum := "427619222a440e2de5bb6052e397269d2820e4ad82883d6421084adef1db5e87", func := "loop.example/g00697/laws.FnExactEnvOk", spec := "fnExactEnvOk", recurses := true, apart := false }
def FnExactEnvOkSaid : Prop := fnExactEnvOkRow.holds Try.pinned (OpenSpec.ofChange fnExactEnvOkSpec)

/-- ITS FALSE NEIGHBOUR: 'it returns false'. Refute it at one input. -/
def fnExactEnvOkWrong : ChangeSpec := { name := "fnExactEnvOk", fn := fun _ => fun
  | [d1, d2] => { results := [.lit (.bool false)], args := [d1, d2] }
  | _ => none }
def FnExactEnvOkWrongFalsely : Prop := fnExactEnvOkRow.holds Try.pinned (OpenSpec.ofChange fnExactEnvOkWrong)

/-- 'laws.FnExactInputAt': WHATEVER THE INPUT: true; the input reads as it did. -/
def fnExactInputAtSpec : ChangeSpec := { name := "fnExactInputAt", fn := fun _ => fun
  | [d1, d2] => { results := [.lit (.bool true)], args := [d1, d2] }
  | _ => none }
def fnExactInputAtRow : OpenClaim := { program := "ytakmkdlkipfnhaa", sum := "427619222a440e2de5bb6052e397269d2820e4ad82883d6421084adef1db5e87", func := "loop.example/g00697/laws.FnExactInputAt", spec := "fnExactInputAt", recurses := true, apart := false }
def FnExactInputAtSaid : Prop := fnExactInputAtRow.holds Try.pinned (OpenSpec.ofChange fnExactInputAtSpec)

/-- ITS FALSE NEIGHBOUR: 'it returns false'. Refute it at one input. -/
def fnExactInputAtWrong : ChangeSpec := { name := "fnExactInputAt", fn := fun _ => fun
  | [d1, d2] => { results := [.lit (.bool false)], args := [d1, d2] }
  | _ => none }
def FnExactInputAtWrongFalsely : Prop := fnExactInputAtRow.holds Try.pinned (OpenSpec.ofChange fnExactInputAtWrong)

/-- 'laws.FnExactStartOf': WHATEVER THE INPUT: true; the input reads as it did. -/
def fnExactStartOfSpec : ChangeSpec := { name := "fnExactStartOf", fn := fun _ => fun
  | [d1, d2, d3] => { results := [.lit (.bool true)], args := [d1, d2, d3] }
  | _ => none }
def fnExactStartOfRow : OpenClaim := { program := "ytakmkdlkipfnhaa", sum := "427619222a440e2de5bb6052e397269d2820e4ad82883d6421084adef1db5e87", func := "loop.example/g00697/laws.FnExactStartOf", spec := "fnExactStartOf", recurses := true, apart := false }
def FnExactStartOfSaid : Prop := fnExactStartOfRow.holds Try.pinned (OpenSpec.ofChange fnExactStartOfSpec)

/-- ITS FALSE NEIGHBOUR: 'it returns false'. Refute it at one input. -/
def fnExactStartOfWrong : ChangeSpec := { name := "fnExactStartOf", fn := fun _ => fun
  | [d1, d2, d3] => { results := [.lit (.bool false)], args := [d1, d2, d3] }
  | _ => none }
def FnExactStartOfWrongFalsely : Prop := fnExactStartOfRow.holds Try.pinned (OpenSpec.ofChange fnExactStartOfWrong)

/-- 'laws.FnExactInputBits': WHATEVER THE INPUT: true; the input reads as it did. -/
def fnExactInputBitsSpec : ChangeSpec := { name := "fnExactInputBits", fn := fun _ => fun
  | [d1, d2, d3] => { results := [.lit (.bool true)], args := [d1, d2, d3] }
  | _ => none }
def fnExactInputBitsRow : OpenClaim := { program := "ytakmkdlkipfnhaa", sum := "427619222a440e2de5bb6052e397269d2820e4ad82883d6421084adef1db5e87", func := "loop.example/g00697/laws.FnExactInputBits", spec := "fnExactInputBits", recurses := true, apart := false }
def FnExactInputBitsSaid : Prop := fnExactInputBitsRow.holds Try.pinned (OpenSpec.ofChange fnExactInputBitsSpec)

/-- ITS FALSE NEIGHBOUR: 'it returns false'. Refute it at one input. -/
def fnExactInputBitsWrong : ChangeSpec := { name := "fnExactInputBits", fn := fun _ => fun
  | [d1, d2, d3] => { results := [.lit (.bool false)], args := [d1, d2, d3] }
  | _ => none }
def FnExactInputBitsWrongFalsely : Prop := fnExactInputBitsRow.holds Try.pinned (OpenSpec.ofChange fnExactInputBitsWrong)

/-- 'laws.FnNumbers': WHATEVER THE INPUT: true; the input reads as it did. -/
def fnNumbersSpec : ChangeSpec := { name := "fnNumbers", fn := fun _ => fun
  | [d] => { results := [.lit (.bool true)], args := [d] }
  | _ => none }
def fnNumbersRow : OpenClaim := { program := "ytakmkdlkipfnhaa", sum := "427619222a440e2de5bb6052e397269d2820e4ad82883d6421084adef1db5e87", func := "loop.example/g00697/laws.FnNumbers", spec := "fnNumbers", recurses := true, apart := false }
def FnNumbersSaid : Prop := fnNumbersRow.holds Try.pinned (OpenSpec.ofChange fnNumbersSpec)

/-- ITS FALSE NEIGHBOUR: 'it returns false'. Refute it at one input. -/
def fnNumbersWrong : ChangeSpec := { name := "fnNumbers", fn := fun _ => fun
  | [d] => { results := [.lit (.bool false)], args := [d] }
  | _ => none }
def FnNumbersWrongFalsely : Prop := fnNumbersRow.holds Try.pinned (OpenSpec.ofChange fnNumbersWrong)

/-- 'laws.FnSums': WHATEVER THE INPUT: true; the input reads as it did. -/
def fnSumsSpec : ChangeSpec := { name := "fnSums", fn := fun _ => fun
  | [d] => { results := [.lit (.bool true)], args := [d] }
  | _ => none }
def fnSumsRow : OpenClaim := { program := "ytakmkdlkipfnhaa", sum := "427619222a440e2de5bb6052e397269d2820e4ad82883d6421084adef1db5e87", func := "loop.example/g00697/laws.FnSums", spec := "fnSums", recurses := true, apart := false }
def FnSumsSaid : Prop := fnSumsRow.holds Try.pinned (OpenSpec.ofChange fnSumsSpec)

/-- ITS FALSE NEIGHBOUR: 'it returns false'. Refute it at one input. -/
def fnSumsWrong : ChangeSpec := { name := "fnSums", fn := fun _ => fun
  | [d] => { results := [.lit (.bool false)], args := [d] }
  | _ => none }
def FnSumsWrongFalsely : Prop := fnSumsRow.holds Try.pinned (OpenSpec.ofChange fnSumsWrong)

/-- 'laws.FnTraps': WHATEVER THE INPUT: true; the input reads as it did. -/
def fnTrapsSpec : ChangeSpec := { name := "fnTraps", fn := fun _ => fun
  | [d] => { results := [.lit (.bool true)], args := [d] }
  | _ => none }
def fnTrapsRow : OpenClaim := { program := "ytakmkdlkipfnhaa", sum := "427619222a440e2de5bb6052e397269d2820e4ad82883d6421084adef1db5e87", func := "loop.example/g00697/laws.FnTraps", spec := "fnTraps", recurses := true, apart := false }
def FnTrapsSaid : Prop := fnTrapsRow.holds Try.pinned (OpenSpec.ofChange fnTrapsSpec)

/-- ITS FALSE NEIGHBOUR: 'it returns false'. Refute it at one input. -/
def fnTrapsWrong : ChangeSpec := { name := "fnTraps", fn := fun _ => fun
  | [d] => { results := [.lit (.bool false)], args := [d] }
  | _ => none }
def FnTrapsWrongFalsely : Prop := fnTrapsRow.holds Try.pinned (OpenSpec.ofChange fnTrapsWrong)

/-- 'laws.FnPlain': WHATEVER THE INPUT: true; the input reads as it did. -/
def fnPlainSpec : ChangeSpec := { name := "fnPlain", fn := fun _ => fun
  | [d] => { results := [.lit (.bool true)], args := [d] }
  | _ => none }
def fnPlainRow : OpenClaim := { program := "ytakmkdlkipfnhaa", sum := "427619222a440e2de5bb6052e397269d2820e4ad82883d6421084adef1db5e87", func := "loop.example/g00697/laws.FnPlain", spec := "fnPlain", recurses := true, apart := false }
def FnPlainSaid : Prop := fnPlainRow.holds Try.pinned (OpenSpec.ofChange fnPlainSpec)

/-- ITS FALSE NEIGHBOUR: 'it returns false'. Refute it at one input. -/
def fnPlainWrong : ChangeSpec := { name := "fnPlain", fn := fun _ => fun
  | [d] => { results := [.lit (.bool false)], args := [d] }
  | _ => none }
def FnPlainWrongFalsely : Prop := fnPlainRow.holds Try.pinned (OpenSpec.ofChange fnPlainWrong)

/-- 'laws.FnExactPlainIn': WHATEVER THE INPUT: true; the input reads as it did. -/
def fnExactPlainInSpec : ChangeSpec := { name := "fnExactPlainIn", fn := fun _ => fun
  | [d1, d2, d3] => { results := [.lit (.bool true)], args := [d1, d2, d3] }
  | _ => none }
def fnExactPlainInRow : OpenClaim := { program := "ytakmkdlkipfnhaa", sum := "427619222a440e2de5bb6052e397269d2820e4ad82883d6421084adef1db5e87", func := "loop.example/g00697/laws.FnExactPlainIn", spec := "fnExactPlainIn", recurses := true, apart := false }
def FnExactPlainInSaid : Prop := fnExactPlainInRow.holds Try.pinned (OpenSpec.ofChange fnExactPlainInSpec)

/-- ITS FALSE NEIGHBOUR: 'it returns false'. Refute it at one input. -/
def fnExactPlainInWrong : ChangeSpec := { name := "fnExactPlainIn", fn := fun _ => fun
  | [d1, d2, d3] => { results := [.lit (.bool false)], args := [d1, d2, d3] }
  | _ => none }
def FnExactPlainInWrongFalsely : Prop := fnExactPlainInRow.holds Try.pinned (OpenSpec.ofChange fnExactPlainInWrong)

/-- 'laws.FnExactValueIn': WHATEVER THE INPUT: true; the input reads as it did. -/
def fnExactValueInSpec : ChangeSpec := { name := "fnExactValueIn", fn := fun _ => fun
  | [d1, d2, d3] => { results := [.lit (.bool true)], args := [d1, d2, d3] }
  | _ => none }
def fnExactValueInRow : OpenClaim := { program := "ytakmkdlkipfnhaa", sum := "427619222a440e2de5bb6052e397269d2820e4ad82883d6421084adef1db5e87", func := "loop.example/g00697/laws.FnExactValueIn", spec := "fnExactValueIn", recurses := true, apart := false }
def FnExactValueInSaid : Prop := fnExactValueInRow.holds Try.pinned (OpenSpec.ofChange fnExactValueInSpec)

/-- ITS FALSE NEIGHBOUR: 'it returns false'. Refute it at one input. -/
def fnExactValueInWrong : ChangeSpec := { name := "fnExactValueIn", fn := fun _ => fun
  | [d1, d2, d3] => { results := [.lit (.bool false)], args := [d1, d2, d3] }
  | _ => none }
def FnExactValueInWrongFalsely : Prop := fnExactValueInRow.holds Try.pinned (OpenSpec.ofChange fnExactValueInWrong)

/-- 'laws.FnExactNumberOf': WHATEVER THE INPUT: true; the input reads as it did. -/
def fnExactNumberOfSpec : ChangeSpec := { name := "fnExactNumberOf", fn := fun _ => fun
  | [d1, d2, d3] => { results := [.lit (.bool true)], args := [d1, d2, d3] }
  | _ => none }
def fnExactNumberOfRow : OpenClaim := { program := "ytakmkdlkipfnhaa", sum := "427619222a440e2de5bb6052e397269d2820e4ad82883d6421084adef1db5e87", func := "loop.example/g00697/laws.FnExactNumberOf", spec := "fnExactNumberOf", recurses := true, apart := false }
def FnExactNumberOfSaid : Prop := fnExactNumberOfRow.holds Try.pinned (OpenSpec.ofChange fnExactNumberOfSpec)

/-- ITS FALSE NEIGHBOUR: 'it returns false'. Refute it at one input. -/
def fnExactNumberOfWrong : ChangeSpec := { name := "fnExactNumberOf", fn := fun _ => fun
  | [d1, d2, d3] => { results := [.lit (.bool false)], args := [d1, d2, d3] }
  | _ => none }
def FnExactNumberOfWrongFalsely : Prop := fnExactNumberOfRow.holds Try.pinned (OpenSpec.ofChange fnExactNumberOfWrong)

/-- 'laws.FnExactMayTrap': WHATEVER THE INPUT: true; the input reads as it did. -/
def fnExactMayTrapSpec : ChangeSpec := { name := "fnExactMayTrap", fn := fun _ => fun
  | [d1, d2] => { results := [.lit (.bool true)], args := [d1, d2] }
  | _ => none }
def fnExactMayTrapRow : OpenClaim := { program := "ytakmkdlkipfnhaa", sum := "427619222a440e2de5bb6052e397269d2820e4ad82883d6421084adef1db5e87", func := "loop.example/g00697/laws.FnExactMayTrap", spec := "fnExactMayTrap", recurses := true, apart := false }
def FnExactMayTrapSaid : Prop := fnExactMayTrapRow.holds Try.pinned (OpenSpec.ofChange fnExactMayTrapSpec)

/-- ITS FALSE NEIGHBOUR: 'it returns false'. Refute it at one input. -/
def fnExactMayTrapWrong : ChangeSpec := { name := "fnExactMayTrap", fn := fun _ => fun
  | [d1, d2] => { results := [.lit (.bool false)], args := [d1, d2] }
  | _ => none }
def FnExactMayTrapWrongFalsely : Prop := fnExactMayTrapRow.holds Try.pinned (OpenSpec.ofChange fnExactMayTrapWrong)

/- THE SECOND FORM. 'bulk': how many values and letters a reading holds, each counted each time it is reached (what is shared counts as often as it is met; a slice's spare places count too). A statement '..UptoSaid' is the law's where the arguments, and the package variables that the reading takes, are together of bulk at most 1048576: NARROWER than '..Said'. Prove '..Said' where nothing that the law and all that it calls make is longer than what came in: it says more and counts as full. Else prove '..UptoSaid'. A law counts once. -/
mutual
def uptoBulk {H : Type} : DataW H → Nat
  | .lit (.string bytes) => bytes.length + 1
  | .lit _ => 1
  | .nil => 1
  | .ptr d => uptoBulk d + 1
  | .slice elems spare => uptoBulkAll elems + uptoBulkAll spare + 1
  | .agg parts => uptoBulkAll parts + 1
  | .iface _ d => uptoBulk d + 1
  | .map entries => uptoBulkEntries entries + 1
  | .held _ => 1
def uptoBulkAll {H : Type} : List (DataW H) → Nat
  | [] => 0
  | d :: r => uptoBulk d + uptoBulkAll r
def uptoBulkEntries {H : Type} : List (Lit × DataW H) → Nat
  | [] => 0
  | x :: r => uptoBulkEntry x + uptoBulkEntries r
def uptoBulkEntry {H : Type} : Lit × DataW H → Nat
  | (.string bytes, d) => bytes.length + uptoBulk d + 1
  | (_, d) => uptoBulk d + 1
 end
def uptoSmall : (H : Type) → List (DataW H) → Bool := fun _ ds => decide (uptoBulkAll ds ≤ 1048576)
def OpenSpec.upto (s : _root_.Go.ChangeSpec) : _root_.Go.OpenSpec := { _root_.Go.OpenSpec.ofChange s with cond := some uptoSmall }

/-- 'laws.FnExactEnvOk', WHERE WHAT IT READS IS OF BULK AT MOST 1048576: true; the input reads as it did. -/
def fnExactEnvOkUptoRow : OpenClaim := { program := "ytakmkdlkipfnhaa", sum := "427619222a440e2de5bb6052e397269d2820e4ad82883d6421084adef1db5e87", func := "loop.example/g00697/laws.FnExactEnvOk", spec := "fnExactEnvOk", recurses := true, apart := false, narrowed := true }
def FnExactEnvOkUptoSaid : Prop := fnExactEnvOkUptoRow.holds Try.pinned (OpenSpec.upto fnExactEnvOkSpec)

/-- 'laws.FnExactInputAt', WHERE WHAT IT READS IS OF BULK AT MOST 1048576: true; the input reads as it did. -/
def fnExactInputAtUptoRow : OpenClaim := { program := "ytakmkdlkipfnhaa", sum := "427619222a440e2de5bb6052e397269d2820e4ad82883d6421084adef1db5e87", func := "loop.example/g00697/laws.FnExactInputAt", spec := "fnExactInputAt", recurses := true, apart := false, narrowed := true }
def FnExactInputAtUptoSaid : Prop := fnExactInputAtUptoRow.holds Try.pinned (OpenSpec.upto fnExactInputAtSpec)

/-- 'laws.FnExactStartOf', WHERE WHAT IT READS IS OF BULK AT MOST 1048576: true; the input reads as it did. -/
def fnExactStartOfUptoRow : OpenClaim := { program := "ytakmkdlkipfnhaa", sum := "427619222a440e2de5bb6052e397269d2820e4ad82883d6421084adef1db5e87", func := "loop.example/g00697/laws.FnExactStartOf", spec := "fnExactStartOf", recurses := true, apart := false, narrowed := true }
def FnExactStartOfUptoSaid : Prop := fnExactStartOfUptoRow.holds Try.pinned (OpenSpec.upto fnExactStartOfSpec)

/-- 'laws.FnExactInputBits', WHERE WHAT IT READS IS OF BULK AT MOST 1048576: true; the input reads as it did. -/
def fnExactInputBitsUptoRow : OpenClaim := { program := "ytakmkdlkipfnhaa", sum := "427619222a440e2de5bb6052e397269d2820e4ad82883d6421084adef1db5e87", func := "loop.example/g00697/laws.FnExactInputBits", spec := "fnExactInputBits", recurses := true, apart := false, narrowed := true }
def FnExactInputBitsUptoSaid : Prop := fnExactInputBitsUptoRow.holds Try.pinned (OpenSpec.upto fnExactInputBitsSpec)

/-- 'laws.FnNumbers', WHERE WHAT IT READS IS OF BULK AT MOST 1048576: true; the input reads as it did. -/
def fnNumbersUptoRow : OpenClaim := { program := "ytakmkdlkipfnhaa", sum := "427619222a440e2de5bb6052e397269d2820e4ad82883d6421084adef1db5e87", func := "loop.example/g00697/laws.FnNumbers", spec := "fnNumbers", recurses := true, apart := false, narrowed := true }
def FnNumbersUptoSaid : Prop := fnNumbersUptoRow.holds Try.pinned (OpenSpec.upto fnNumbersSpec)

/-- 'laws.FnSums', WHERE WHAT IT READS IS OF BULK AT MOST 1048576: true; the input reads as it did. -/
def fnSumsUptoRow : OpenClaim := { program := "ytakmkdlkipfnhaa", sum := "427619222a440e2de5bb6052e397269d2820e4ad82883d6421084adef1db5e87", func := "loop.example/g00697/laws.FnSums", spec := "fnSums", recurses := true, apart := false, narrowed := true }
def FnSumsUptoSaid : Prop := fnSumsUptoRow.holds Try.pinned (OpenSpec.upto fnSumsSpec)

/-- 'laws.FnTraps', WHERE WHAT IT READS IS OF BULK AT MOST 1048576: true; the input reads as it did. -/
def fnTrapsUptoRow : OpenClaim := { program := "ytakmkdlkipfnhaa", sum := "427619222a440e2de5bb6052e397269d2820e4ad82883d6421084adef1db5e87", func := "loop.example/g00697/laws.FnTraps", spec := "fnTraps", recurses := true, apart := false, narrowed := true }
def FnTrapsUptoSaid : Prop := fnTrapsUptoRow.holds Try.pinned (OpenSpec.upto fnTrapsSpec)

/-- 'laws.FnPlain', WHERE WHAT IT READS IS OF BULK AT MOST 1048576: true; the input reads as it did. -/
def fnPlainUptoRow : OpenClaim := { program := "ytakmkdlkipfnhaa", sum := "427619222a440e2de5bb6052e397269d2820e4ad82883d6421084adef1db5e87", func := "loop.example/g00697/laws.FnPlain", spec := "fnPlain", recurses := true, apart := false, narrowed := true }
def FnPlainUptoSaid : Prop := fnPlainUptoRow.holds Try.pinned (OpenSpec.upto fnPlainSpec)

/-- 'laws.FnExactPlainIn', WHERE WHAT IT READS IS OF BULK AT MOST 1048576: true; the input reads as it did. -/
def fnExactPlainInUptoRow : OpenClaim := { program := "ytakmkdlkipfnhaa", sum := "427619222a440e2de5bb6052e397269d2820e4ad82883d6421084adef1db5e87", func := "loop.example/g00697/laws.FnExactPlainIn", spec := "fnExactPlainIn", recurses := true, apart := false, narrowed := true }
def FnExactPlainInUptoSaid : Prop := fnExactPlainInUptoRow.holds Try.pinned (OpenSpec.upto fnExactPlainInSpec)

/-- 'laws.FnExactValueIn', WHERE WHAT IT READS IS OF BULK AT MOST 1048576: true; the input reads as it did. -/
def fnExactValueInUptoRow : OpenClaim := { program := "ytakmkdlkipfnhaa", sum := "427619222a440e2de5bb6052e397269d2820e4ad82883d6421084adef1db5e87", func := "loop.example/g00697/laws.FnExactValueIn", spec := "fnExactValueIn", recurses := true, apart := false, narrowed := true }
def FnExactValueInUptoSaid : Prop := fnExactValueInUptoRow.holds Try.pinned (OpenSpec.upto fnExactValueInSpec)

/-- 'laws.FnExactNumberOf', WHERE WHAT IT READS IS OF BULK AT MOST 1048576: true; the input reads as it did. -/
def fnExactNumberOfUptoRow : OpenClaim := { program := "ytakmkdlkipfnhaa", sum := "427619222a440e2de5bb6052e397269d2820e4ad82883d6421084adef1db5e87", func := "loop.example/g00697/laws.FnExactNumberOf", spec := "fnExactNumberOf", recurses := true, apart := false, narrowed := true }
def FnExactNumberOfUptoSaid : Prop := fnExactNumberOfUptoRow.holds Try.pinned (OpenSpec.upto fnExactNumberOfSpec)

/-- 'laws.FnExactMayTrap', WHERE WHAT IT READS IS OF BULK AT MOST 1048576: true; the input reads as it did. -/
def fnExactMayTrapUptoRow : OpenClaim := { program := "ytakmkdlkipfnhaa", sum := "427619222a440e2de5bb6052e397269d2820e4ad82883d6421084adef1db5e87", func := "loop.example/g00697/laws.FnExactMayTrap", spec := "fnExactMayTrap", recurses := true, apart := false, narrowed := true }
def FnExactMayTrapUptoSaid : Prop := fnExactMayTrapUptoRow.holds Try.pinned (OpenSpec.upto fnExactMayTrapSpec)

end Rows
end Go.Proofs.Ytakmkdlkipfnhaa
