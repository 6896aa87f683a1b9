/-
  No cell of these rows narrows 'for every input' (looked for: loops, veiled, ifaces, maps, wideKeys, modest, calm, conditions, laid).
  DERIVED. THE GIVEN ROWS OF THIS SEAT. 12 by the template 'for every input the law returns true; each argument reads behind the call as it read before'; 0 by the template 'total and deterministic' (their statements: YtdihagagelngiaaTotals.lean).
  GIVEN WITH THE SEED: the statements are not yours to turn. If you find one false, say at which input.
  Laid BY PROGRAM, IN A SANDBOX (cutbox-rows.mjs): the forced cells as the released guide's own fill.sh prints them over the translation f8f942446df2058d… (all of the seat's roots in one cut). By AI agents, Wed Nov 11 2026. No macro, syntax, notation, axiom, sorry.
-/
import Derived.Test.YtdihagagelngiaaChecked
import GoSem.Claim
import GoSem.ClaimJoined
import GoSem.ClaimMapViews
import Derived.JoinedTies
import Derived.KernelRfl
namespace Go.Proofs.Ytdihagagelngiaa
/- THE CELL 'sum', in the pinned program and in every row, IS THE sha256 OF THE DUMP (.gsa) THAT YtdihagagelngiaaProg.lean LOADS. Nothing in Lean hashes anything: it is a label: what it is worth is what the hold of that sum in a sandbox is worth. -/
noncomputable def Try.pinned : Pinned := { name := "ytdihagagelngiaa", sum := "f8f942446df2058deaeecd8b34ec337b06da52d569457cade03ab0fb85a621d9", checked := Try.checked }
namespace Rows
def none {H : Type} : Left H := { results := [], args := [] }

/-- 'laws.FnEnds': WHATEVER THE INPUT: true; the input reads as it did. -/
def fnEndsSpec : ChangeSpec := { name := "fnEnds", fn := fun _ => fun
  | [d] => { results := [.lit (.bool true)], args := [d] }
  | _ => none }
def fnEndsRow : OpenClaim := { program := "ytdihagagelngiaa", sum := "f8f942446df2058deaeecd8b34ec337b06da52d569457cade03ab0fb85a621d9", func := "loop.example/g00697/laws.FnEnds", spec := "fnEnds", recurses := true, apart := false }
def FnEndsSaid : Prop := fnEndsRow.holds Try.pinned (OpenSpec.ofChange fnEndsSpec)

/-- ITS FALSE NEIGHBOUR: 'it returns false'. Refute it at one input. -/
def fnEndsWrong : ChangeSpec := { name := "fnEnds", fn := fun _ => fun
  | [d] => { results := [.lit (.bool false)], args := [d] }
  | _ => none }
def FnEndsWrongFalsely : Prop := fnEndsRow.holds Try.pinned (OpenSpec.ofChange fnEndsWrong)

/-- 'laws.FnNumbers': WHATEVER THE INPUT: true; the input reads as it did. -/
def fnNumbersSpec : ChangeSpec := { name := "fnNumbers", fn := fun _ => fun
  | [d] => { results := [.lit (.bool true)], args := [d] }
  | _ => none }
def fnNumbersRow : OpenClaim := { program := "ytdihagagelngiaa", sum := "f8f942446df2058deaeecd8b34ec337b06da52d569457cade03ab0fb85a621d9", func := "loop.example/g00697/laws.FnNumbers", spec := "fnNumbers", recurses := true, apart := false }
def FnNumbersSaid : Prop := fnNumbersRow.holds Try.pinned (OpenSpec.ofChange fnNumbersSpec)

/-- ITS FALSE NEIGHBOUR: 'it returns false'. Refute it at one input. -/
def fnNumbersWrong : ChangeSpec := { name := "fnNumbers", fn := fun _ => fun
  | [d] => { results := [.lit (.bool false)], args := [d] }
  | _ => none }
def FnNumbersWrongFalsely : Prop := fnNumbersRow.holds Try.pinned (OpenSpec.ofChange fnNumbersWrong)

/-- 'laws.FnSums': WHATEVER THE INPUT: true; the input reads as it did. -/
def fnSumsSpec : ChangeSpec := { name := "fnSums", fn := fun _ => fun
  | [d] => { results := [.lit (.bool true)], args := [d] }
  | _ => none }
def fnSumsRow : OpenClaim := { program := "ytdihagagelngiaa", sum := "f8f942446df2058deaeecd8b34ec337b06da52d569457cade03ab0fb85a621d9", func := "loop.example/g00697/laws.FnSums", spec := "fnSums", recurses := true, apart := false }
def FnSumsSaid : Prop := fnSumsRow.holds Try.pinned (OpenSpec.ofChange fnSumsSpec)

/-- ITS FALSE NEIGHBOUR: 'it returns false'. Refute it at one input. -/
def fnSumsWrong : ChangeSpec := { name := "fnSums", fn := fun _ => fun
  | [d] => { results := [.lit (.bool false)], args := [d] }
  | _ => none }
def FnSumsWrongFalsely : Prop := fnSumsRow.holds Try.pinned (OpenSpec.ofChange fnSumsWrong)

/-- 'laws.FnTraps': WHATEVER THE INPUT: true; the input reads as it did. -/
def fnTrapsSpec : ChangeSpec := { name := "fnTraps", fn := fun _ => fun
  | [d] => { results := [.lit (.bool true)], args := [d] }
  | _ => none }
def fnTrapsRow : OpenClaim := { program := "ytdihagagelngiaa", sum := "f8f942446df2058deaeecd8b34ec337b06da52d569457cade03ab0fb85a621d9", func := "loop.example/g00697/laws.FnTraps", spec := "fnTraps", recurses := true, apart := false }
def FnTrapsSaid : Prop := fnTrapsRow.holds Try.pinned (OpenSpec.ofChange fnTrapsSpec)

/-- ITS FALSE NEIGHBOUR: 'it returns false'. Refute it at one input. -/
def fnTrapsWrong : ChangeSpec := { name := "fnTraps", fn := fun _ => fun
  | [d] => { results := [.lit (.bool false)], args := [d] }
  | _ => none }
def FnTrapsWrongFalsely : Prop := fnTrapsRow.holds Try.pinned (OpenSpec.ofChange fnTrapsWrong)

/-- 'laws.FnPlain': WHATEVER THE INPUT: true; the input reads as it did. -/
def fnPlainSpec : ChangeSpec := { name := "fnPlain", fn := fun _ => fun
  | [d] => { results := [.lit (.bool true)], args := [d] }
  | _ => none }
def fnPlainRow : OpenClaim := { program := "ytdihagagelngiaa", sum := "f8f942446df2058deaeecd8b34ec337b06da52d569457cade03ab0fb85a621d9", func := "loop.example/g00697/laws.FnPlain", spec := "fnPlain", recurses := true, apart := false }
def FnPlainSaid : Prop := fnPlainRow.holds Try.pinned (OpenSpec.ofChange fnPlainSpec)

/-- ITS FALSE NEIGHBOUR: 'it returns false'. Refute it at one input. -/
def fnPlainWrong : ChangeSpec := { name := "fnPlain", fn := fun _ => fun
  | [d] => { results := [.lit (.bool false)], args := [d] }
  | _ => none }
def FnPlainWrongFalsely : Prop := fnPlainRow.holds Try.pinned (OpenSpec.ofChange fnPlainWrong)

/-- 'laws.FnLoops': WHATEVER THE INPUT: true; the input reads as it did. -/
def fnLoopsSpec : ChangeSpec := { name := "fnLoops", fn := fun _ => fun
  | [d] => { results := [.lit (.bool true)], args := [d] }
  | _ => none }
def fnLoopsRow : OpenClaim := { program := "ytdihagagelngiaa", sum := "f8f942446df2058deaeecd8b34ec337b06da52d569457cade03ab0fb85a621d9", func := "loop.example/g00697/laws.FnLoops", spec := "fnLoops", recurses := true, apart := false }
def FnLoopsSaid : Prop := fnLoopsRow.holds Try.pinned (OpenSpec.ofChange fnLoopsSpec)

/-- ITS FALSE NEIGHBOUR: 'it returns false'. Refute it at one input. -/
def fnLoopsWrong : ChangeSpec := { name := "fnLoops", fn := fun _ => fun
  | [d] => { results := [.lit (.bool false)], args := [d] }
  | _ => none }
def FnLoopsWrongFalsely : Prop := fnLoopsRow.holds Try.pinned (OpenSpec.ofChange fnLoopsWrong)

/-- 'laws.FnExactInputAt': WHATEVER THE INPUT: true; the input reads as it did. -/
def fnExactInputAtSpec : ChangeSpec := { name := "fnExactInputAt", fn := fun _ => fun
  | [d1, d2] => { results := [.lit (.bool true)], args := [d1, d2] }
  | _ => none }
def fnExactInputAtRow : OpenClaim := { program := "ytdihagagelngiaa", sum := "f8f942446df2058deaeecd8b34ec337b06da52d569457cade03ab0fb85a621d9", func := "loop.example/g00697/laws.FnExactInputAt", spec := "fnExactInputAt", recurses := true, apart := false }
def FnExactInputAtSaid : Prop := fnExactInputAtRow.holds Try.pinned (OpenSpec.ofChange fnExactInputAtSpec)

/-- ITS FALSE NEIGHBOUR: 'it returns false'. Refute it at one input. -/
def fnExactInputAtWrong : ChangeSpec := { name := "fnExactInputAt", fn := fun _ => fun
  | [d1, d2] => { results := [.lit (.bool false)], args := [d1, d2] }
  | _ => none }
def FnExactInputAtWrongFalsely : Prop := fnExactInputAtRow.holds Try.pinned (OpenSpec.ofChange fnExactInputAtWrong)

/-- 'laws.FnExactStartOf': WHATEVER THE INPUT: true; the input reads as it did. -/
def fnExactStartOfSpec : ChangeSpec := { name := "fnExactStartOf", fn := fun _ => fun
  | [d1, d2, d3] => { results := [.lit (.bool true)], args := [d1, d2, d3] }
  | _ => none }
def fnExactStartOfRow : OpenClaim := { program := "ytdihagagelngiaa", sum := "f8f942446df2058deaeecd8b34ec337b06da52d569457cade03ab0fb85a621d9", func := "loop.example/g00697/laws.FnExactStartOf", spec := "fnExactStartOf", recurses := true, apart := false }
def FnExactStartOfSaid : Prop := fnExactStartOfRow.holds Try.pinned (OpenSpec.ofChange fnExactStartOfSpec)

/-- ITS FALSE NEIGHBOUR: 'it returns false'. Refute it at one input. -/
def fnExactStartOfWrong : ChangeSpec := { name := "fnExactStartOf", fn := fun _ => fun
  | [d1, d2, d3] => { results := [.lit (.bool false)], args := [d1, d2, d3] }
  | _ => none }
def FnExactStartOfWrongFalsely : Prop := fnExactStartOfRow.holds Try.pinned (OpenSpec.ofChange fnExactStartOfWrong)

/-- 'laws.FnExactInputBits': WHATEVER THE INPUT: true; the input reads as it did. -/
def fnExactInputBitsSpec : ChangeSpec := { name := "fnExactInputBits", fn := fun _ => fun
  | [d1, d2, d3] => { results := [.lit (.bool true)], args := [d1, d2, d3] }
  | _ => none }
def fnExactInputBitsRow : OpenClaim := { program := "ytdihagagelngiaa", sum := "f8f942446df2058deaeecd8b34ec337b06da52d569457cade03ab0fb85a621d9", func := "loop.example/g00697/laws.FnExactInputBits", spec := "fnExactInputBits", recurses := true, apart := false }
def FnExactInputBitsSaid : Prop := fnExactInputBitsRow.holds Try.pinned (OpenSpec.ofChange fnExactInputBitsSpec)

/-- ITS FALSE NEIGHBOUR: 'it returns false'. Refute it at one input. -/
def fnExactInputBitsWrong : ChangeSpec := { name := "fnExactInputBits", fn := fun _ => fun
  | [d1, d2, d3] => { results := [.lit (.bool false)], args := [d1, d2, d3] }
  | _ => none }
def FnExactInputBitsWrongFalsely : Prop := fnExactInputBitsRow.holds Try.pinned (OpenSpec.ofChange fnExactInputBitsWrong)

/-- 'laws.FnExactIsQuiet': WHATEVER THE INPUT: true; the input reads as it did. -/
def fnExactIsQuietSpec : ChangeSpec := { name := "fnExactIsQuiet", fn := fun _ => fun
  | [d1, d2] => { results := [.lit (.bool true)], args := [d1, d2] }
  | _ => none }
def fnExactIsQuietRow : OpenClaim := { program := "ytdihagagelngiaa", sum := "f8f942446df2058deaeecd8b34ec337b06da52d569457cade03ab0fb85a621d9", func := "loop.example/g00697/laws.FnExactIsQuiet", spec := "fnExactIsQuiet", recurses := true, apart := false }
def FnExactIsQuietSaid : Prop := fnExactIsQuietRow.holds Try.pinned (OpenSpec.ofChange fnExactIsQuietSpec)

/-- ITS FALSE NEIGHBOUR: 'it returns false'. Refute it at one input. -/
def fnExactIsQuietWrong : ChangeSpec := { name := "fnExactIsQuiet", fn := fun _ => fun
  | [d1, d2] => { results := [.lit (.bool false)], args := [d1, d2] }
  | _ => none }
def FnExactIsQuietWrongFalsely : Prop := fnExactIsQuietRow.holds Try.pinned (OpenSpec.ofChange fnExactIsQuietWrong)

/-- 'laws.FnFold': WHATEVER THE INPUT: true; the input reads as it did. -/
def fnFoldSpec : ChangeSpec := { name := "fnFold", fn := fun _ => fun
  | [d] => { results := [.lit (.bool true)], args := [d] }
  | _ => none }
def fnFoldRow : OpenClaim := { program := "ytdihagagelngiaa", sum := "f8f942446df2058deaeecd8b34ec337b06da52d569457cade03ab0fb85a621d9", func := "loop.example/g00697/laws.FnFold", spec := "fnFold", recurses := true, apart := false }
def FnFoldSaid : Prop := fnFoldRow.holds Try.pinned (OpenSpec.ofChange fnFoldSpec)

/-- ITS FALSE NEIGHBOUR: 'it returns false'. Refute it at one input. -/
def fnFoldWrong : ChangeSpec := { name := "fnFold", fn := fun _ => fun
  | [d] => { results := [.lit (.bool false)], args := [d] }
  | _ => none }
def FnFoldWrongFalsely : Prop := fnFoldRow.holds Try.pinned (OpenSpec.ofChange fnFoldWrong)

/-- 'laws.FnExactNeededIn': WHATEVER THE INPUT: true; the input reads as it did. -/
def fnExactNeededInSpec : ChangeSpec := { name := "fnExactNeededIn", fn := fun _ => fun
  | [d] => { results := [.lit (.bool true)], args := [d] }
  | _ => none }
def fnExactNeededInRow : OpenClaim := { program := "ytdihagagelngiaa", sum := "f8f942446df2058deaeecd8b34ec337b06da52d569457cade03ab0fb85a621d9", func := "loop.example/g00697/laws.FnExactNeededIn", spec := "fnExactNeededIn", recurses := true, apart := false }
def FnExactNeededInSaid : Prop := fnExactNeededInRow.holds Try.pinned (OpenSpec.ofChange fnExactNeededInSpec)

/-- ITS FALSE NEIGHBOUR: 'it returns false'. Refute it at one input. -/
def fnExactNeededInWrong : ChangeSpec := { name := "fnExactNeededIn", fn := fun _ => fun
  | [d] => { results := [.lit (.bool false)], args := [d] }
  | _ => none }
def FnExactNeededInWrongFalsely : Prop := fnExactNeededInRow.holds Try.pinned (OpenSpec.ofChange fnExactNeededInWrong)

/- THE SECOND FORM. 'bulk': how many values and letters a reading holds, each counted each time it is reached (what is shared counts as often as it is met; a slice's spare places count too). A statement '..UptoSaid' is the law's where the arguments, and the package variables that the reading takes, are together of bulk at most 1048576: NARROWER than '..Said'. Prove '..Said' where nothing that the law and all that it calls make is longer than what came in: it says more and counts as full. Else prove '..UptoSaid'. A law counts once. -/
mutual
def uptoBulk {H : Type} : DataW H → Nat
  | .lit (.string bytes) => bytes.length + 1
  | .lit _ => 1
  | .nil => 1
  | .ptr d => uptoBulk d + 1
  | .slice elems spare => uptoBulkAll elems + uptoBulkAll spare + 1
  | .agg parts => uptoBulkAll parts + 1
  | .iface _ d => uptoBulk d + 1
  | .map entries => uptoBulkEntries entries + 1
  | .held _ => 1
def uptoBulkAll {H : Type} : List (DataW H) → Nat
  | [] => 0
  | d :: r => uptoBulk d + uptoBulkAll r
def uptoBulkEntries {H : Type} : List (Lit × DataW H) → Nat
  | [] => 0
  | x :: r => uptoBulkEntry x + uptoBulkEntries r
def uptoBulkEntry {H : Type} : Lit × DataW H → Nat
  | (.string bytes, d) => bytes.length + uptoBulk d + 1
  | (_, d) => uptoBulk d + 1
 end
def uptoSmall : (H : Type) → List (DataW H) → Bool := fun _ ds => decide (uptoBulkAll ds ≤ 1048576)
def OpenSpec.upto (s : _root_.Go.ChangeSpec) : _root_.Go.OpenSpec := { _root_.Go.OpenSpec.ofChange s with cond := some uptoSmall }

/-- 'laws.FnEnds', WHERE WHAT IT READS IS OF BULK AT MOST 1048576: true; the input reads as it did. -/
def fnEndsUptoRow : OpenClaim := { program := "ytdihagagelngiaa", sum := "f8f942446df2058deaeecd8b34ec337b06da52d569457cade03ab0fb85a621d9", func := "loop.example/g00697/laws.FnEnds", spec := "fnEnds", recurses := true, apart := false, narrowed := true }
def FnEndsUptoSaid : Prop := fnEndsUptoRow.holds Try.pinned (OpenSpec.upto fnEndsSpec)

/-- 'laws.FnNumbers', WHERE WHAT IT READS IS OF BULK AT MOST 1048576: true; the input reads as it did. -/
def fnNumbersUptoRow : OpenClaim := { program := "ytdihagagelngiaa", sum := "f8f942446df2058deaeecd8b34ec337b06da52d569457cade03ab0fb85a621d9", func := "loop.example/g00697/laws.FnNumbers", spec := "fnNumbers", recurses := true, apart := false, narrowed := true }
def FnNumbersUptoSaid : Prop := fnNumbersUptoRow.holds Try.pinned (OpenSpec.upto fnNumbersSpec)

/-- 'laws.FnSums', WHERE WHAT IT READS IS OF BULK AT MOST 1048576: true; the input reads as it did. -/
def fnSumsUptoRow : OpenClaim := { program := "ytdihagagelngiaa", sum := "f8f942446df2058deaeecd8b34ec337b06da52d569457cade03ab0fb85a621d9", func := "loop.example/g00697/laws.FnSums", spec := "fnSums", recurses := true, apart := false, narrowed := true }
def FnSumsUptoSaid : Prop := fnSumsUptoRow.holds Try.pinned (OpenSpec.upto fnSumsSpec)

/-- 'laws.FnTraps', WHERE WHAT IT READS IS OF BULK AT MOST 1048576: true; the input reads as it did. -/
def fnTrapsUptoRow : OpenClaim := { program := "ytdihagagelngiaa", sum := "f8f942446df2058deaeecd8b34ec337b06da52d569457cade03ab0fb85a621d9", func := "loop.example/g00697/laws.FnTraps", spec := "fnTraps", recurses := true, apart := false, narrowed := true }
def FnTrapsUptoSaid : Prop := fnTrapsUptoRow.holds Try.pinned (OpenSpec.upto fnTrapsSpec)

/-- 'laws.FnPlain', WHERE WHAT IT READS IS OF BULK AT MOST 1048576: true; the input reads as it did. -/
def fnPlainUptoRow : OpenClaim := { program := "ytdihagagelngiaa", sum := "f8f942446df2058deaeecd8b34ec337b06da52d569457cade03ab0fb85a621d9", func := "loop.example/g00697/laws.FnPlain", spec := "fnPlain", recurses := true, apart := false, narrowed := true }
def FnPlainUptoSaid : Prop := fnPlainUptoRow.holds Try.pinned (OpenSpec.upto fnPlainSpec)

/-- 'laws.FnLoops', WHERE WHAT IT READS IS OF BULK AT MOST 1048576: true; the input reads as it did. -/
def fnLoopsUptoRow : OpenClaim := { program := "ytdihagagelngiaa", sum := "f8f942446df2058deaeecd8b34ec337b06da52d569457cade03ab0fb85a621d9", func := "loop.example/g00697/laws.FnLoops", spec := "fnLoops", recurses := true, apart := false, narrowed := true }
def FnLoopsUptoSaid : Prop := fnLoopsUptoRow.holds Try.pinned (OpenSpec.upto fnLoopsSpec)

/-- 'laws.FnExactInputAt', WHERE WHAT IT READS IS OF BULK AT MOST 1048576: true; the input reads as it did. -/
def fnExactInputAtUptoRow : OpenClaim := { program := "ytdihagagelngiaa", sum := "f8f942446df2058deaeecd8b34ec337b06da52d569457cade03ab0fb85a621d9", func := "loop.example/g00697/laws.FnExactInputAt", spec := "fnExactInputAt", recurses := true, apart := false, narrowed := true }
def FnExactInputAtUptoSaid : Prop := fnExactInputAtUptoRow.holds Try.pinned (OpenSpec.upto fnExactInputAtSpec)

/-- 'laws.FnExactStartOf', WHERE WHAT IT READS IS OF BULK AT MOST 1048576: true; the input reads as it did. -/
def fnExactStartOfUptoRow : OpenClaim := { program := "ytdihagagelngiaa", sum := "f8f942446df2058deaeecd8b34ec337b06da52d569457cade03ab0fb85a621d9", func := "loop.example/g00697/laws.FnExactStartOf", spec := "fnExactStartOf", recurses := true, apart := false, narrowed := true }
def FnExactStartOfUptoSaid : Prop := fnExactStartOfUptoRow.holds Try.pinned (OpenSpec.upto fnExactStartOfSpec)

/-- 'laws.FnExactInputBits', WHERE WHAT IT READS IS OF BULK AT MOST 1048576: true; the input reads as it did. -/
def fnExactInputBitsUptoRow : OpenClaim := { program := "ytdihagagelngiaa", sum := "f8f942446df2058deaeecd8b34ec337b06da52d569457cade03ab0fb85a621d9", func := "loop.example/g00697/laws.FnExactInputBits", spec := "fnExactInputBits", recurses := true, apart := false, narrowed := true }
def FnExactInputBitsUptoSaid : Prop := fnExactInputBitsUptoRow.holds Try.pinned (OpenSpec.upto fnExactInputBitsSpec)

/-- 'laws.FnExactIsQuiet', WHERE WHAT IT READS IS OF BULK AT MOST 1048576: true; the input reads as it did. -/
def fnExactIsQuietUptoRow : OpenClaim := { program := "ytdihagagelngiaa", sum := "f8f942446df2058deaeecd8b34ec337b06da52d569457cade03ab0fb85a621d9", func := "loop.example/g00697/laws.FnExactIsQuiet", spec := "fnExactIsQuiet", recurses := true, apart := false, narrowed := true }
def FnExactIsQuietUptoSaid : Prop := fnExactIsQuietUptoRow.holds Try.pinned (OpenSpec.upto fnExactIsQuietSpec)

/-- 'laws.FnFold', WHERE WHAT IT READS IS OF BULK AT MOST 1048576: true; the input reads as it did. -/
def fnFoldUptoRow : OpenClaim := { program := "ytdihagagelngiaa", sum := "f8f942446df2058deaeecd8b34ec337b06da52d569457cade03ab0fb85a621d9", func := "loop.example/g00697/laws.FnFold", spec := "fnFold", recurses := true, apart := false, narrowed := true }
def FnFoldUptoSaid : Prop := fnFoldUptoRow.holds Try.pinned (OpenSpec.upto fnFoldSpec)

/-- 'laws.FnExactNeededIn', WHERE WHAT IT READS IS OF BULK AT MOST 1048576: true; the input reads as it did. -/
def fnExactNeededInUptoRow : OpenClaim := { program := "ytdihagagelngiaa", sum := "f8f942446df2058deaeecd8b34ec337b06da52d569457cade03ab0fb85a621d9", func := "loop.example/g00697/laws.FnExactNeededIn", spec := "fnExactNeededIn", recurses := true, apart := false, narrowed := true }
def FnExactNeededInUptoSaid : Prop := fnExactNeededInUptoRow.holds Try.pinned (OpenSpec.upto fnExactNeededInSpec)

end Rows
end Go.Proofs.Ytdihagagelngiaa
