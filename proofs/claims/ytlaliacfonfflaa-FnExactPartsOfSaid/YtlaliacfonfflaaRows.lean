/-
  No cell of these rows narrows 'for every input' (looked for: loops, veiled, ifaces, maps, wideKeys, modest, calm, conditions, laid).
  DERIVED. THE GIVEN ROWS OF THIS SEAT. 8 by the template 'for every input the law returns true; each argument reads behind the call as it read before'; 0 by the template 'total and deterministic' (their statements: YtlaliacfonfflaaTotals.lean).
  GIVEN WITH THE SEED: the statements are not yours to turn. If you find one false, say at which input.
  Laid BY PROGRAM, IN A SANDBOX (cutbox-rows.mjs): the forced cells as the released guide's own fill.sh prints them over the translation cb94aff02a29dd1a… (all of the seat's roots in one cut). By AI agents, Wed Nov 11 2026. No macro, syntax, notation, axiom, sorry.
-/
import Derived.Test.YtlaliacfonfflaaChecked
import GoSem.Claim
import GoSem.ClaimJoined
import GoSem.ClaimMapViews
import Derived.JoinedTies
import Derived.KernelRfl
namespace Go.Proofs.Ytlaliacfonfflaa
/- THE CELL 'sum', in the pinned program and in every row, IS THE sha256 OF THE DUMP (.gsa) THAT YtlaliacfonfflaaProg.lean LOADS. Nothing in Lean hashes anything: it is a label: what it is worth is what the hold of that sum in a sandbox is worth. -/
noncomputable def Try.pinned : Pinned := { name := "ytlaliacfonfflaa", sum := "cb94aff02a29dd1af1afc72347c4fa93008b75e95778aaf1af46dbe4b28097fc", checked := Try.checked }
namespace Rows
def none {H : Type} : Left H := { results := [], args := [] }

/-- 'laws.FnExactFirstOf': WHATEVER THE INPUT: true; the input reads as it did. -/
def fnExactFirstOfSpec : ChangeSpec := { name := "fnExactFirstOf", fn := fun _ => fun
  | [d1, d2] => { results := [.lit (.bool true)], args := [d1, d2] }
  | _ => none }
def fnExactFirstOfRow : OpenClaim := { program := "ytlaliacfonfflaa", sum := "cb94aff02a29dd1af1afc72347c4fa93008b75e95778aaf1af46dbe4b28097fc", func := "loop.example/g00697/laws.FnExactFirstOf", spec := "fnExactFirstOf", apart := false }
def FnExactFirstOfSaid : Prop := fnExactFirstOfRow.holds Try.pinned (OpenSpec.ofChange fnExactFirstOfSpec)

/-- ITS FALSE NEIGHBOUR: 'it returns false'. Refute it at one input. -/
def fnExactFirstOfWrong : ChangeSpec := { name := "fnExactFirstOf", fn := fun _ => fun
  | [d1, d2] => { results := [.lit (.bool false)], args := [d1, d2] }
  | _ => none }
def FnExactFirstOfWrongFalsely : Prop := fnExactFirstOfRow.holds Try.pinned (OpenSpec.ofChange fnExactFirstOfWrong)

/-- 'laws.FnExactPartsOf': WHATEVER THE INPUT: true; the input reads as it did. -/
def fnExactPartsOfSpec : ChangeSpec := { name := "fnExactPartsOf", fn := fun _ => fun
  | [d] => { results := [.lit (.bool true)], args := [d] }
  | _ => none }
def fnExactPartsOfRow : OpenClaim := { program := "ytlaliacfonfflaa", sum := "cb94aff02a29dd1af1afc72347c4fa93008b75e95778aaf1af46dbe4b28097fc", func := "loop.example/g00697/laws.FnExactPartsOf", spec := "fnExactPartsOf", apart := false }
def FnExactPartsOfSaid : Prop := fnExactPartsOfRow.holds Try.pinned (OpenSpec.ofChange fnExactPartsOfSpec)

/-- ITS FALSE NEIGHBOUR: 'it returns false'. Refute it at one input. -/
def fnExactPartsOfWrong : ChangeSpec := { name := "fnExactPartsOf", fn := fun _ => fun
  | [d] => { results := [.lit (.bool false)], args := [d] }
  | _ => none }
def FnExactPartsOfWrongFalsely : Prop := fnExactPartsOfRow.holds Try.pinned (OpenSpec.ofChange fnExactPartsOfWrong)

/-- 'laws.FnParts': WHATEVER THE INPUT: true; the input reads as it did. -/
def fnPartsSpec : ChangeSpec := { name := "fnParts", fn := fun _ => fun
  | [d] => { results := [.lit (.bool true)], args := [d] }
  | _ => none }
def fnPartsRow : OpenClaim := { program := "ytlaliacfonfflaa", sum := "cb94aff02a29dd1af1afc72347c4fa93008b75e95778aaf1af46dbe4b28097fc", func := "loop.example/g00697/laws.FnParts", spec := "fnParts", recurses := true, apart := false }
def FnPartsSaid : Prop := fnPartsRow.holds Try.pinned (OpenSpec.ofChange fnPartsSpec)

/-- ITS FALSE NEIGHBOUR: 'it returns false'. Refute it at one input. -/
def fnPartsWrong : ChangeSpec := { name := "fnParts", fn := fun _ => fun
  | [d] => { results := [.lit (.bool false)], args := [d] }
  | _ => none }
def FnPartsWrongFalsely : Prop := fnPartsRow.holds Try.pinned (OpenSpec.ofChange fnPartsWrong)

/-- 'laws.FnExactNamesIn': WHATEVER THE INPUT: true; the input reads as it did. -/
def fnExactNamesInSpec : ChangeSpec := { name := "fnExactNamesIn", fn := fun _ => fun
  | [d] => { results := [.lit (.bool true)], args := [d] }
  | _ => none }
def fnExactNamesInRow : OpenClaim := { program := "ytlaliacfonfflaa", sum := "cb94aff02a29dd1af1afc72347c4fa93008b75e95778aaf1af46dbe4b28097fc", func := "loop.example/g00697/laws.FnExactNamesIn", spec := "fnExactNamesIn", apart := false }
def FnExactNamesInSaid : Prop := fnExactNamesInRow.holds Try.pinned (OpenSpec.ofChange fnExactNamesInSpec)

/-- ITS FALSE NEIGHBOUR: 'it returns false'. Refute it at one input. -/
def fnExactNamesInWrong : ChangeSpec := { name := "fnExactNamesIn", fn := fun _ => fun
  | [d] => { results := [.lit (.bool false)], args := [d] }
  | _ => none }
def FnExactNamesInWrongFalsely : Prop := fnExactNamesInRow.holds Try.pinned (OpenSpec.ofChange fnExactNamesInWrong)

/-- 'laws.FnNames': WHATEVER THE INPUT: true; the input reads as it did. -/
def fnNamesSpec : ChangeSpec := { name := "fnNames", fn := fun _ => fun
  | [d] => { results := [.lit (.bool true)], args := [d] }
  | _ => none }
def fnNamesRow : OpenClaim := { program := "ytlaliacfonfflaa", sum := "cb94aff02a29dd1af1afc72347c4fa93008b75e95778aaf1af46dbe4b28097fc", func := "loop.example/g00697/laws.FnNames", spec := "fnNames", recurses := true, apart := false }
def FnNamesSaid : Prop := fnNamesRow.holds Try.pinned (OpenSpec.ofChange fnNamesSpec)

/-- ITS FALSE NEIGHBOUR: 'it returns false'. Refute it at one input. -/
def fnNamesWrong : ChangeSpec := { name := "fnNames", fn := fun _ => fun
  | [d] => { results := [.lit (.bool false)], args := [d] }
  | _ => none }
def FnNamesWrongFalsely : Prop := fnNamesRow.holds Try.pinned (OpenSpec.ofChange fnNamesWrong)

/-- 'laws.FnNatTimes': WHATEVER THE INPUT: true; the input reads as it did. -/
def fnNatTimesSpec : ChangeSpec := { name := "fnNatTimes", fn := fun _ => fun
  | [d] => { results := [.lit (.bool true)], args := [d] }
  | _ => none }
def fnNatTimesRow : OpenClaim := { program := "ytlaliacfonfflaa", sum := "cb94aff02a29dd1af1afc72347c4fa93008b75e95778aaf1af46dbe4b28097fc", func := "loop.example/g00697/laws.FnNatTimes", spec := "fnNatTimes", apart := false }
def FnNatTimesSaid : Prop := fnNatTimesRow.holds Try.pinned (OpenSpec.ofChange fnNatTimesSpec)

/-- ITS FALSE NEIGHBOUR: 'it returns false'. Refute it at one input. -/
def fnNatTimesWrong : ChangeSpec := { name := "fnNatTimes", fn := fun _ => fun
  | [d] => { results := [.lit (.bool false)], args := [d] }
  | _ => none }
def FnNatTimesWrongFalsely : Prop := fnNatTimesRow.holds Try.pinned (OpenSpec.ofChange fnNatTimesWrong)

/-- 'laws.FnNatSums': WHATEVER THE INPUT: true; the input reads as it did. -/
def fnNatSumsSpec : ChangeSpec := { name := "fnNatSums", fn := fun _ => fun
  | [d] => { results := [.lit (.bool true)], args := [d] }
  | _ => none }
def fnNatSumsRow : OpenClaim := { program := "ytlaliacfonfflaa", sum := "cb94aff02a29dd1af1afc72347c4fa93008b75e95778aaf1af46dbe4b28097fc", func := "loop.example/g00697/laws.FnNatSums", spec := "fnNatSums", apart := false }
def FnNatSumsSaid : Prop := fnNatSumsRow.holds Try.pinned (OpenSpec.ofChange fnNatSumsSpec)

/-- ITS FALSE NEIGHBOUR: 'it returns false'. Refute it at one input. -/
def fnNatSumsWrong : ChangeSpec := { name := "fnNatSums", fn := fun _ => fun
  | [d] => { results := [.lit (.bool false)], args := [d] }
  | _ => none }
def FnNatSumsWrongFalsely : Prop := fnNatSumsRow.holds Try.pinned (OpenSpec.ofChange fnNatSumsWrong)

/-- 'laws.FnBitsFor': WHATEVER THE INPUT: true; the input reads as it did. -/
def fnBitsForSpec : ChangeSpec := { name := "fnBitsFor", fn := fun _ => fun
  | [d] => { results := [.lit (.bool true)], args := [d] }
  | _ => none }
def fnBitsForRow : OpenClaim := { program := "ytlaliacfonfflaa", sum := "cb94aff02a29dd1af1afc72347c4fa93008b75e95778aaf1af46dbe4b28097fc", func := "loop.example/g00697/laws.FnBitsFor", spec := "fnBitsFor", apart := false }
def FnBitsForSaid : Prop := fnBitsForRow.holds Try.pinned (OpenSpec.ofChange fnBitsForSpec)

/-- ITS FALSE NEIGHBOUR: 'it returns false'. Refute it at one input. -/
def fnBitsForWrong : ChangeSpec := { name := "fnBitsFor", fn := fun _ => fun
  | [d] => { results := [.lit (.bool false)], args := [d] }
  | _ => none }
def FnBitsForWrongFalsely : Prop := fnBitsForRow.holds Try.pinned (OpenSpec.ofChange fnBitsForWrong)

/- THE SECOND FORM. 'bulk': how many values and letters a reading holds, each counted each time it is reached (what is shared counts as often as it is met; a slice's spare places count too). A statement '..UptoSaid' is the law's where the arguments, and the package variables that the reading takes, are together of bulk at most 1048576: NARROWER than '..Said'. Prove '..Said' where nothing that the law and all that it calls make is longer than what came in: it says more and counts as full. Else prove '..UptoSaid'. A law counts once. -/
mutual
def uptoBulk {H : Type} : DataW H → Nat
  | .lit (.string bytes) => bytes.length + 1
  | .lit _ => 1
  | .nil => 1
  | .ptr d => uptoBulk d + 1
  | .slice elems spare => uptoBulkAll elems + uptoBulkAll spare + 1
  | .agg parts => uptoBulkAll parts + 1
  | .iface _ d => uptoBulk d + 1
  | .map entries => uptoBulkEntries entries + 1
  | .held _ => 1
def uptoBulkAll {H : Type} : List (DataW H) → Nat
  | [] => 0
  | d :: r => uptoBulk d + uptoBulkAll r
def uptoBulkEntries {H : Type} : List (Lit × DataW H) → Nat
  | [] => 0
  | x :: r => uptoBulkEntry x + uptoBulkEntries r
def uptoBulkEntry {H : Type} : Lit × DataW H → Nat
  | (.string bytes, d) => bytes.length + uptoBulk d + 1
  | (_, d) => uptoBulk d + 1
 end
def uptoSmall : (H : Type) → List (DataW H) → Bool := fun _ ds => decide (uptoBulkAll ds ≤ 1048576)
def OpenSpec.upto (s : _root_.Go.ChangeSpec) : _root_.Go.OpenSpec := { _root_.Go.OpenSpec.ofChange s with cond := some uptoSmall }

/-- 'laws.FnExactFirstOf', WHERE WHAT IT READS IS OF BULK AT MOST 1048576: true; the input reads as it did. -/
def fnExactFirstOfUptoRow : OpenClaim := { program := "ytlaliacfonfflaa", sum := "cb94aff02a29dd1af1afc72347c4fa93008b75e95778aaf1af46dbe4b28097fc", func := "loop.example/g00697/laws.FnExactFirstOf", spec := "fnExactFirstOf", apart := false, narrowed := true }
def FnExactFirstOfUptoSaid : Prop := fnExactFirstOfUptoRow.holds Try.pinned (OpenSpec.upto fnExactFirstOfSpec)

/-- 'laws.FnExactPartsOf', WHERE WHAT IT READS IS OF BULK AT MOST 1048576: true; the input reads as it did. -/
def fnExactPartsOfUptoRow : OpenClaim := { program := "ytlaliacfonfflaa", sum := "cb94aff02a29dd1af1afc72347c4fa93008b75e95778aaf1af46dbe4b28097fc", func := "loop.example/g00697/laws.FnExactPartsOf", spec := "fnExactPartsOf", apart := false, narrowed := true }
def FnExactPartsOfUptoSaid : Prop := fnExactPartsOfUptoRow.holds Try.pinned (OpenSpec.upto fnExactPartsOfSpec)

/-- 'laws.FnParts', WHERE WHAT IT READS IS OF BULK AT MOST 1048576: true; the input reads as it did. -/
def fnPartsUptoRow : OpenClaim := { program := "ytlaliacfonfflaa", sum := "cb94aff02a29dd1af1afc72347c4fa93008b75e95778aaf1af46dbe4b28097fc", func := "loop.example/g00697/laws.FnParts", spec := "fnParts", recurses := true, apart := false, narrowed := true }
def FnPartsUptoSaid : Prop := fnPartsUptoRow.holds Try.pinned (OpenSpec.upto fnPartsSpec)

/-- 'laws.FnExactNamesIn', WHERE WHAT IT READS IS OF BULK AT MOST 1048576: true; the input reads as it did. -/
def fnExactNamesInUptoRow : OpenClaim := { program := "ytlaliacfonfflaa", sum := "cb94aff02a29dd1af1afc72347c4fa93008b75e95778aaf1af46dbe4b28097fc", func := "loop.example/g00697/laws.FnExactNamesIn", spec := "fnExactNamesIn", apart := false, narrowed := true }
def FnExactNamesInUptoSaid : Prop := fnExactNamesInUptoRow.holds Try.pinned (OpenSpec.upto fnExactNamesInSpec)

/-- 'laws.FnNames', WHERE WHAT IT READS IS OF BULK AT MOST 1048576: true; the input reads as it did. -/
def fnNamesUptoRow : OpenClaim := { program := "ytlaliacfonfflaa", sum := "cb94aff02a29dd1af1afc72347c4fa93008b75e95778aaf1af46dbe4b28097fc", func := "loop.example/g00697/laws.FnNames", spec := "fnNames", recurses := true, apart := false, narrowed := true }
def FnNamesUptoSaid : Prop := fnNamesUptoRow.holds Try.pinned (OpenSpec.upto fnNamesSpec)

/-- 'laws.FnNatTimes', WHERE WHAT IT READS IS OF BULK AT MOST 1048576: true; the input reads as it did. -/
def fnNatTimesUptoRow : OpenClaim := { program := "ytlaliacfonfflaa", sum := "cb94aff02a29dd1af1afc72347c4fa93008b75e95778aaf1af46dbe4b28097fc", func := "loop.example/g00697/laws.FnNatTimes", spec := "fnNatTimes", apart := false, narrowed := true }
def FnNatTimesUptoSaid : Prop := fnNatTimesUptoRow.holds Try.pinned (OpenSpec.upto fnNatTimesSpec)

/-- 'laws.FnNatSums', WHERE WHAT IT READS IS OF BULK AT MOST 1048576: true; the input reads as it did. -/
def fnNatSumsUptoRow : OpenClaim := { program := "ytlaliacfonfflaa", sum := "cb94aff02a29dd1af1afc72347c4fa93008b75e95778aaf1af46dbe4b28097fc", func := "loop.example/g00697/laws.FnNatSums", spec := "fnNatSums", apart := false, narrowed := true }
def FnNatSumsUptoSaid : Prop := fnNatSumsUptoRow.holds Try.pinned (OpenSpec.upto fnNatSumsSpec)

/-- 'laws.FnBitsFor', WHERE WHAT IT READS IS OF BULK AT MOST 1048576: true; the input reads as it did. -/
def fnBitsForUptoRow : OpenClaim := { program := "ytlaliacfonfflaa", sum := "cb94aff02a29dd1af1afc72347c4fa93008b75e95778aaf1af46dbe4b28097fc", func := "loop.example/g00697/laws.FnBitsFor", spec := "fnBitsFor", apart := false, narrowed := true }
def FnBitsForUptoSaid : Prop := fnBitsForUptoRow.holds Try.pinned (OpenSpec.upto fnBitsForSpec)

end Rows
end Go.Proofs.Ytlaliacfonfflaa
