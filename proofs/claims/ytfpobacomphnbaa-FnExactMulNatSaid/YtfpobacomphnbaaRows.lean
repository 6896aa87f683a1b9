/-
  No cell of these rows narrows 'for every input' (looked for: loops, veiled, ifaces, maps, wideKeys, modest, calm, conditions, laid).
  DERIVED. THE GIVEN ROWS OF THIS SEAT. 12 by the template 'for every input the law returns true; each argument reads behind the call as it read before'; 0 by the template 'total and deterministic' (their statements: YtfpobacomphnbaaTotals.lean).
  GIVEN WITH THE SEED: the statements are not yours to turn. If you find one false, say at which input.
  Laid BY PROGRAM, IN A SANDBOX (cutbox-rows.mjs): the forced cells as the released guide's own fill.sh prints them over the translation 5bf3698d591cd41a… (all of the seat's roots in one cut). By AI agents, Wed Nov 11 2026. No macro, syntax, notation, axiom, sorry.
-/
import Derived.Test.YtfpobacomphnbaaChecked
import GoSem.Claim
import GoSem.ClaimJoined
import GoSem.ClaimMapViews
import Derived.JoinedTies
import Derived.KernelRfl
namespace Go.Proofs.Ytfpobacomphnbaa
/- THE CELL 'sum', in the pinned program and in every row, IS THE sha256 OF THE DUMP (.gsa) THAT YtfpobacomphnbaaProg.lean LOADS. Nothing in Lean hashes anything: it is a label: what it is worth is what the hold of that sum in a sandbox is worth. -/
noncomputable def Try.pinned : Pinned := { name := "ytfpobacomphnbaa", sum := "5bf3698d591cd41a813583e152303b4f0e7f425604aae3f84474447299c66e15", checked := Try.checked }
namespace Rows
def none {H : Type} : Left H := { results := [], args := [] }

/-- 'laws.FnExactConstants': WHATEVER THE INPUT: true; the input reads as it did. -/
def fnExactConstantsSpec : ChangeSpec := { name := "fnExactConstants", fn := fun _ => fun
  | [] => { results := [.lit (.bool true)], args := [] }
  | _ => none }
def fnExactConstantsRow : OpenClaim := { program := "ytfpobacomphnbaa", sum := "5bf3698d591cd41a813583e152303b4f0e7f425604aae3f84474447299c66e15", func := "loop.example/g00697/laws.FnExactConstants", spec := "fnExactConstants", apart := false }
def FnExactConstantsSaid : Prop := fnExactConstantsRow.holds Try.pinned (OpenSpec.ofChange fnExactConstantsSpec)

/-- ITS FALSE NEIGHBOUR: 'it returns false'. Refute it at one input. -/
def fnExactConstantsWrong : ChangeSpec := { name := "fnExactConstants", fn := fun _ => fun
  | [] => { results := [.lit (.bool false)], args := [] }
  | _ => none }
def FnExactConstantsWrongFalsely : Prop := fnExactConstantsRow.holds Try.pinned (OpenSpec.ofChange fnExactConstantsWrong)

/-- 'laws.FnExactTakesOf': WHATEVER THE INPUT: true; the input reads as it did. -/
def fnExactTakesOfSpec : ChangeSpec := { name := "fnExactTakesOf", fn := fun _ => fun
  | [d] => { results := [.lit (.bool true)], args := [d] }
  | _ => none }
def fnExactTakesOfRow : OpenClaim := { program := "ytfpobacomphnbaa", sum := "5bf3698d591cd41a813583e152303b4f0e7f425604aae3f84474447299c66e15", func := "loop.example/g00697/laws.FnExactTakesOf", spec := "fnExactTakesOf", apart := false }
def FnExactTakesOfSaid : Prop := fnExactTakesOfRow.holds Try.pinned (OpenSpec.ofChange fnExactTakesOfSpec)

/-- ITS FALSE NEIGHBOUR: 'it returns false'. Refute it at one input. -/
def fnExactTakesOfWrong : ChangeSpec := { name := "fnExactTakesOf", fn := fun _ => fun
  | [d] => { results := [.lit (.bool false)], args := [d] }
  | _ => none }
def FnExactTakesOfWrongFalsely : Prop := fnExactTakesOfRow.holds Try.pinned (OpenSpec.ofChange fnExactTakesOfWrong)

/-- 'laws.FnExactNatOk': WHATEVER THE INPUT: true; the input reads as it did. -/
def fnExactNatOkSpec : ChangeSpec := { name := "fnExactNatOk", fn := fun _ => fun
  | [d] => { results := [.lit (.bool true)], args := [d] }
  | _ => none }
def fnExactNatOkRow : OpenClaim := { program := "ytfpobacomphnbaa", sum := "5bf3698d591cd41a813583e152303b4f0e7f425604aae3f84474447299c66e15", func := "loop.example/g00697/laws.FnExactNatOk", spec := "fnExactNatOk", apart := false }
def FnExactNatOkSaid : Prop := fnExactNatOkRow.holds Try.pinned (OpenSpec.ofChange fnExactNatOkSpec)

/-- ITS FALSE NEIGHBOUR: 'it returns false'. Refute it at one input. -/
def fnExactNatOkWrong : ChangeSpec := { name := "fnExactNatOk", fn := fun _ => fun
  | [d] => { results := [.lit (.bool false)], args := [d] }
  | _ => none }
def FnExactNatOkWrongFalsely : Prop := fnExactNatOkRow.holds Try.pinned (OpenSpec.ofChange fnExactNatOkWrong)

/-- 'laws.FnExactNatOf': WHATEVER THE INPUT: true; the input reads as it did. -/
def fnExactNatOfSpec : ChangeSpec := { name := "fnExactNatOf", fn := fun _ => fun
  | [d] => { results := [.lit (.bool true)], args := [d] }
  | _ => none }
def fnExactNatOfRow : OpenClaim := { program := "ytfpobacomphnbaa", sum := "5bf3698d591cd41a813583e152303b4f0e7f425604aae3f84474447299c66e15", func := "loop.example/g00697/laws.FnExactNatOf", spec := "fnExactNatOf", apart := false }
def FnExactNatOfSaid : Prop := fnExactNatOfRow.holds Try.pinned (OpenSpec.ofChange fnExactNatOfSpec)

/-- ITS FALSE NEIGHBOUR: 'it returns false'. Refute it at one input. -/
def fnExactNatOfWrong : ChangeSpec := { name := "fnExactNatOf", fn := fun _ => fun
  | [d] => { results := [.lit (.bool false)], args := [d] }
  | _ => none }
def FnExactNatOfWrongFalsely : Prop := fnExactNatOfRow.holds Try.pinned (OpenSpec.ofChange fnExactNatOfWrong)

/-- 'laws.FnExactLikeOutcomes': WHATEVER THE INPUT: true; the input reads as it did. -/
def fnExactLikeOutcomesSpec : ChangeSpec := { name := "fnExactLikeOutcomes", fn := fun _ => fun
  | [d1, d2] => { results := [.lit (.bool true)], args := [d1, d2] }
  | _ => none }
def fnExactLikeOutcomesRow : OpenClaim := { program := "ytfpobacomphnbaa", sum := "5bf3698d591cd41a813583e152303b4f0e7f425604aae3f84474447299c66e15", func := "loop.example/g00697/laws.FnExactLikeOutcomes", spec := "fnExactLikeOutcomes", apart := false }
def FnExactLikeOutcomesSaid : Prop := fnExactLikeOutcomesRow.holds Try.pinned (OpenSpec.ofChange fnExactLikeOutcomesSpec)

/-- ITS FALSE NEIGHBOUR: 'it returns false'. Refute it at one input. -/
def fnExactLikeOutcomesWrong : ChangeSpec := { name := "fnExactLikeOutcomes", fn := fun _ => fun
  | [d1, d2] => { results := [.lit (.bool false)], args := [d1, d2] }
  | _ => none }
def FnExactLikeOutcomesWrongFalsely : Prop := fnExactLikeOutcomesRow.holds Try.pinned (OpenSpec.ofChange fnExactLikeOutcomesWrong)

/-- 'laws.FnExactExpOk': WHATEVER THE INPUT: true; the input reads as it did. -/
def fnExactExpOkSpec : ChangeSpec := { name := "fnExactExpOk", fn := fun _ => fun
  | [d] => { results := [.lit (.bool true)], args := [d] }
  | _ => none }
def fnExactExpOkRow : OpenClaim := { program := "ytfpobacomphnbaa", sum := "5bf3698d591cd41a813583e152303b4f0e7f425604aae3f84474447299c66e15", func := "loop.example/g00697/laws.FnExactExpOk", spec := "fnExactExpOk", apart := false }
def FnExactExpOkSaid : Prop := fnExactExpOkRow.holds Try.pinned (OpenSpec.ofChange fnExactExpOkSpec)

/-- ITS FALSE NEIGHBOUR: 'it returns false'. Refute it at one input. -/
def fnExactExpOkWrong : ChangeSpec := { name := "fnExactExpOk", fn := fun _ => fun
  | [d] => { results := [.lit (.bool false)], args := [d] }
  | _ => none }
def FnExactExpOkWrongFalsely : Prop := fnExactExpOkRow.holds Try.pinned (OpenSpec.ofChange fnExactExpOkWrong)

/-- 'laws.FnExactCmpNat': WHATEVER THE INPUT: true; the input reads as it did. -/
def fnExactCmpNatSpec : ChangeSpec := { name := "fnExactCmpNat", fn := fun _ => fun
  | [d1, d2] => { results := [.lit (.bool true)], args := [d1, d2] }
  | _ => none }
def fnExactCmpNatRow : OpenClaim := { program := "ytfpobacomphnbaa", sum := "5bf3698d591cd41a813583e152303b4f0e7f425604aae3f84474447299c66e15", func := "loop.example/g00697/laws.FnExactCmpNat", spec := "fnExactCmpNat", apart := false }
def FnExactCmpNatSaid : Prop := fnExactCmpNatRow.holds Try.pinned (OpenSpec.ofChange fnExactCmpNatSpec)

/-- ITS FALSE NEIGHBOUR: 'it returns false'. Refute it at one input. -/
def fnExactCmpNatWrong : ChangeSpec := { name := "fnExactCmpNat", fn := fun _ => fun
  | [d1, d2] => { results := [.lit (.bool false)], args := [d1, d2] }
  | _ => none }
def FnExactCmpNatWrongFalsely : Prop := fnExactCmpNatRow.holds Try.pinned (OpenSpec.ofChange fnExactCmpNatWrong)

/-- 'laws.FnExactPowerNat': WHATEVER THE INPUT: true; the input reads as it did. -/
def fnExactPowerNatSpec : ChangeSpec := { name := "fnExactPowerNat", fn := fun _ => fun
  | [d] => { results := [.lit (.bool true)], args := [d] }
  | _ => none }
def fnExactPowerNatRow : OpenClaim := { program := "ytfpobacomphnbaa", sum := "5bf3698d591cd41a813583e152303b4f0e7f425604aae3f84474447299c66e15", func := "loop.example/g00697/laws.FnExactPowerNat", spec := "fnExactPowerNat", apart := false }
def FnExactPowerNatSaid : Prop := fnExactPowerNatRow.holds Try.pinned (OpenSpec.ofChange fnExactPowerNatSpec)

/-- ITS FALSE NEIGHBOUR: 'it returns false'. Refute it at one input. -/
def fnExactPowerNatWrong : ChangeSpec := { name := "fnExactPowerNat", fn := fun _ => fun
  | [d] => { results := [.lit (.bool false)], args := [d] }
  | _ => none }
def FnExactPowerNatWrongFalsely : Prop := fnExactPowerNatRow.holds Try.pinned (OpenSpec.ofChange fnExactPowerNatWrong)

/-- 'laws.FnExactAddNat': WHATEVER THE INPUT: true; the input reads as it did. -/
def fnExactAddNatSpec : ChangeSpec := { name := "fnExactAddNat", fn := fun _ => fun
  | [d1, d2] => { results := [.lit (.bool true)], args := [d1, d2] }
  | _ => none }
def fnExactAddNatRow : OpenClaim := { program := "ytfpobacomphnbaa", sum := "5bf3698d591cd41a813583e152303b4f0e7f425604aae3f84474447299c66e15", func := "loop.example/g00697/laws.FnExactAddNat", spec := "fnExactAddNat", apart := false }
def FnExactAddNatSaid : Prop := fnExactAddNatRow.holds Try.pinned (OpenSpec.ofChange fnExactAddNatSpec)

/-- ITS FALSE NEIGHBOUR: 'it returns false'. Refute it at one input. -/
def fnExactAddNatWrong : ChangeSpec := { name := "fnExactAddNat", fn := fun _ => fun
  | [d1, d2] => { results := [.lit (.bool false)], args := [d1, d2] }
  | _ => none }
def FnExactAddNatWrongFalsely : Prop := fnExactAddNatRow.holds Try.pinned (OpenSpec.ofChange fnExactAddNatWrong)

/-- 'laws.FnExactBitsFor': WHATEVER THE INPUT: true; the input reads as it did. -/
def fnExactBitsForSpec : ChangeSpec := { name := "fnExactBitsFor", fn := fun _ => fun
  | [d] => { results := [.lit (.bool true)], args := [d] }
  | _ => none }
def fnExactBitsForRow : OpenClaim := { program := "ytfpobacomphnbaa", sum := "5bf3698d591cd41a813583e152303b4f0e7f425604aae3f84474447299c66e15", func := "loop.example/g00697/laws.FnExactBitsFor", spec := "fnExactBitsFor", apart := false }
def FnExactBitsForSaid : Prop := fnExactBitsForRow.holds Try.pinned (OpenSpec.ofChange fnExactBitsForSpec)

/-- ITS FALSE NEIGHBOUR: 'it returns false'. Refute it at one input. -/
def fnExactBitsForWrong : ChangeSpec := { name := "fnExactBitsFor", fn := fun _ => fun
  | [d] => { results := [.lit (.bool false)], args := [d] }
  | _ => none }
def FnExactBitsForWrongFalsely : Prop := fnExactBitsForRow.holds Try.pinned (OpenSpec.ofChange fnExactBitsForWrong)

/-- 'laws.FnExactMulNat': WHATEVER THE INPUT: true; the input reads as it did. -/
def fnExactMulNatSpec : ChangeSpec := { name := "fnExactMulNat", fn := fun _ => fun
  | [d1, d2] => { results := [.lit (.bool true)], args := [d1, d2] }
  | _ => none }
def fnExactMulNatRow : OpenClaim := { program := "ytfpobacomphnbaa", sum := "5bf3698d591cd41a813583e152303b4f0e7f425604aae3f84474447299c66e15", func := "loop.example/g00697/laws.FnExactMulNat", spec := "fnExactMulNat", apart := false }
def FnExactMulNatSaid : Prop := fnExactMulNatRow.holds Try.pinned (OpenSpec.ofChange fnExactMulNatSpec)

/-- ITS FALSE NEIGHBOUR: 'it returns false'. Refute it at one input. -/
def fnExactMulNatWrong : ChangeSpec := { name := "fnExactMulNat", fn := fun _ => fun
  | [d1, d2] => { results := [.lit (.bool false)], args := [d1, d2] }
  | _ => none }
def FnExactMulNatWrongFalsely : Prop := fnExactMulNatRow.holds Try.pinned (OpenSpec.ofChange fnExactMulNatWrong)

/-- 'laws.FnExactSubNat': WHATEVER THE INPUT: true; the input reads as it did. -/
def fnExactSubNatSpec : ChangeSpec := { name := "fnExactSubNat", fn := fun _ => fun
  | [d1, d2] => { results := [.lit (.bool true)], args := [d1, d2] }
  | _ => none }
def fnExactSubNatRow : OpenClaim := { program := "ytfpobacomphnbaa", sum := "5bf3698d591cd41a813583e152303b4f0e7f425604aae3f84474447299c66e15", func := "loop.example/g00697/laws.FnExactSubNat", spec := "fnExactSubNat", apart := false }
def FnExactSubNatSaid : Prop := fnExactSubNatRow.holds Try.pinned (OpenSpec.ofChange fnExactSubNatSpec)

/-- ITS FALSE NEIGHBOUR: 'it returns false'. Refute it at one input. -/
def fnExactSubNatWrong : ChangeSpec := { name := "fnExactSubNat", fn := fun _ => fun
  | [d1, d2] => { results := [.lit (.bool false)], args := [d1, d2] }
  | _ => none }
def FnExactSubNatWrongFalsely : Prop := fnExactSubNatRow.holds Try.pinned (OpenSpec.ofChange fnExactSubNatWrong)

/- THE SECOND FORM. 'bulk': how many values and letters a reading holds, each counted each time it is reached (what is shared counts as often as it is met; a slice's spare places count too). A statement '..UptoSaid' is the law's where the arguments, and the package variables that the reading takes, are together of bulk at most 1048576: NARROWER than '..Said'. Prove '..Said' where nothing that the law and all that it calls make is longer than what came in: it says more and counts as full. Else prove '..UptoSaid'. A law counts once. -/
mutual
def uptoBulk {H : Type} : DataW H → Nat
  | .lit (.string bytes) => bytes.length + 1
  | .lit _ => 1
  | .nil => 1
  | .ptr d => uptoBulk d + 1
  | .slice elems spare => uptoBulkAll elems + uptoBulkAll spare + 1
  | .agg parts => uptoBulkAll parts + 1
  | .iface _ d => uptoBulk d + 1
  | .map entries => uptoBulkEntries entries + 1
  | .held _ => 1
def uptoBulkAll {H : Type} : List (DataW H) → Nat
  | [] => 0
  | d :: r => uptoBulk d + uptoBulkAll r
def uptoBulkEntries {H : Type} : List (Lit × DataW H) → Nat
  | [] => 0
  | x :: r => uptoBulkEntry x + uptoBulkEntries r
def uptoBulkEntry {H : Type} : Lit × DataW H → Nat
  | (.string bytes, d) => bytes.length + uptoBulk d + 1
  | (_, d) => uptoBulk d + 1
 end
def uptoSmall : (H : Type) → List (DataW H) → Bool := fun _ ds => decide (uptoBulkAll ds ≤ 1048576)
def OpenSpec.upto (s : _root_.Go.ChangeSpec) : _root_.Go.OpenSpec := { _root_.Go.OpenSpec.ofChange s with cond := some uptoSmall }

/-- 'laws.FnExactConstants', WHERE WHAT IT READS IS OF BULK AT MOST 1048576: true; the input reads as it did. -/
def fnExactConstantsUptoRow : OpenClaim := { program := "ytfpobacomphnbaa", sum := "5bf3698d591cd41a813583e152303b4f0e7f425604aae3f84474447299c66e15", func := "loop.example/g00697/laws.FnExactConstants", spec := "fnExactConstants", apart := false, narrowed := true }
def FnExactConstantsUptoSaid : Prop := fnExactConstantsUptoRow.holds Try.pinned (OpenSpec.upto fnExactConstantsSpec)

/-- 'laws.FnExactTakesOf', WHERE WHAT IT READS IS OF BULK AT MOST 1048576: true; the input reads as it did. -/
def fnExactTakesOfUptoRow : OpenClaim := { program := "ytfpobacomphnbaa", sum := "5bf3698d591cd41a813583e152303b4f0e7f425604aae3f84474447299c66e15", func := "loop.example/g00697/laws.FnExactTakesOf", spec := "fnExactTakesOf", apart := false, narrowed := true }
def FnExactTakesOfUptoSaid : Prop := fnExactTakesOfUptoRow.holds Try.pinned (OpenSpec.upto fnExactTakesOfSpec)

/-- 'laws.FnExactNatOk', WHERE WHAT IT READS IS OF BULK AT MOST 1048576: true; the input reads as it did. -/
def fnExactNatOkUptoRow : OpenClaim := { program := "ytfpobacomphnbaa", sum := "5bf3698d591cd41a813583e152303b4f0e7f425604aae3f84474447299c66e15", func := "loop.example/g00697/laws.FnExactNatOk", spec := "fnExactNatOk", apart := false, narrowed := true }
def FnExactNatOkUptoSaid : Prop := fnExactNatOkUptoRow.holds Try.pinned (OpenSpec.upto fnExactNatOkSpec)

/-- 'laws.FnExactNatOf', WHERE WHAT IT READS IS OF BULK AT MOST 1048576: true; the input reads as it did. -/
def fnExactNatOfUptoRow : OpenClaim := { program := "ytfpobacomphnbaa", sum := "5bf3698d591cd41a813583e152303b4f0e7f425604aae3f84474447299c66e15", func := "loop.example/g00697/laws.FnExactNatOf", spec := "fnExactNatOf", apart := false, narrowed := true }
def FnExactNatOfUptoSaid : Prop := fnExactNatOfUptoRow.holds Try.pinned (OpenSpec.upto fnExactNatOfSpec)

/-- 'laws.FnExactLikeOutcomes', WHERE WHAT IT READS IS OF BULK AT MOST 1048576: true; the input reads as it did. -/
def fnExactLikeOutcomesUptoRow : OpenClaim := { program := "ytfpobacomphnbaa", sum := "5bf3698d591cd41a813583e152303b4f0e7f425604aae3f84474447299c66e15", func := "loop.example/g00697/laws.FnExactLikeOutcomes", spec := "fnExactLikeOutcomes", apart := false, narrowed := true }
def FnExactLikeOutcomesUptoSaid : Prop := fnExactLikeOutcomesUptoRow.holds Try.pinned (OpenSpec.upto fnExactLikeOutcomesSpec)

/-- 'laws.FnExactExpOk', WHERE WHAT IT READS IS OF BULK AT MOST 1048576: true; the input reads as it did. -/
def fnExactExpOkUptoRow : OpenClaim := { program := "ytfpobacomphnbaa", sum := "5bf3698d591cd41a813583e152303b4f0e7f425604aae3f84474447299c66e15", func := "loop.example/g00697/laws.FnExactExpOk", spec := "fnExactExpOk", apart := false, narrowed := true }
def FnExactExpOkUptoSaid : Prop := fnExactExpOkUptoRow.holds Try.pinned (OpenSpec.upto fnExactExpOkSpec)

/-- 'laws.FnExactCmpNat', WHERE WHAT IT READS IS OF BULK AT MOST 1048576: true; the input reads as it did. -/
def fnExactCmpNatUptoRow : OpenClaim := { program := "ytfpobacomphnbaa", sum := "5bf3698d591cd41a813583e152303b4f0e7f425604aae3f84474447299c66e15", func := "loop.example/g00697/laws.FnExactCmpNat", spec := "fnExactCmpNat", apart := false, narrowed := true }
def FnExactCmpNatUptoSaid : Prop := fnExactCmpNatUptoRow.holds Try.pinned (OpenSpec.upto fnExactCmpNatSpec)

/-- 'laws.FnExactPowerNat', WHERE WHAT IT READS IS OF BULK AT MOST 1048576: true; the input reads as it did. -/
def fnExactPowerNatUptoRow : OpenClaim := { program := "ytfpobacomphnbaa", sum := "5bf3698d591cd41a813583e152303b4f0e7f425604aae3f84474447299c66e15", func := "loop.example/g00697/laws.FnExactPowerNat", spec := "fnExactPowerNat", apart := false, narrowed := true }
def FnExactPowerNatUptoSaid : Prop := fnExactPowerNatUptoRow.holds Try.pinned (OpenSpec.upto fnExactPowerNatSpec)

/-- 'laws.FnExactAddNat', WHERE WHAT IT READS IS OF BULK AT MOST 1048576: true; the input reads as it did. -/
def fnExactAddNatUptoRow : OpenClaim := { program := "ytfpobacomphnbaa", sum := "5bf3698d591cd41a813583e152303b4f0e7f425604aae3f84474447299c66e15", func := "loop.example/g00697/laws.FnExactAddNat", spec := "fnExactAddNat", apart := false, narrowed := true }
def FnExactAddNatUptoSaid : Prop := fnExactAddNatUptoRow.holds Try.pinned (OpenSpec.upto fnExactAddNatSpec)

/-- 'laws.FnExactBitsFor', WHERE WHAT IT READS IS OF BULK AT MOST 1048576: true; the input reads as it did. -/
def fnExactBitsForUptoRow : OpenClaim := { program := "ytfpobacomphnbaa", sum := "5bf3698d591cd41a813583e152303b4f0e7f425604aae3f84474447299c66e15", func := "loop.example/g00697/laws.FnExactBitsFor", spec := "fnExactBitsFor", apart := false, narrowed := true }
def FnExactBitsForUptoSaid : Prop := fnExactBitsForUptoRow.holds Try.pinned (OpenSpec.upto fnExactBitsForSpec)

/-- 'laws.FnExactMulNat', WHERE WHAT IT READS IS OF BULK AT MOST 1048576: true; the input reads as it did. -/
def fnExactMulNatUptoRow : OpenClaim := { program := "ytfpobacomphnbaa", sum := "5bf3698d591cd41a813583e152303b4f0e7f425604aae3f84474447299c66e15", func := "loop.example/g00697/laws.FnExactMulNat", spec := "fnExactMulNat", apart := false, narrowed := true }
def FnExactMulNatUptoSaid : Prop := fnExactMulNatUptoRow.holds Try.pinned (OpenSpec.upto fnExactMulNatSpec)

/-- 'laws.FnExactSubNat', WHERE WHAT IT READS IS OF BULK AT MOST 1048576: true; the input reads as it did. -/
def fnExactSubNatUptoRow : OpenClaim := { program := "ytfpobacomphnbaa", sum := "5bf3698d591cd41a813583e152303b4f0e7f425604aae3f84474447299c66e15", func := "loop.example/g00697/laws.FnExactSubNat", spec := "fnExactSubNat", apart := false, narrowed := true }
def FnExactSubNatUptoSaid : Prop := fnExactSubNatUptoRow.holds Try.pinned (OpenSpec.upto fnExactSubNatSpec)

end Rows
end Go.Proofs.Ytfpobacomphnbaa
