/-
  No cell of these rows narrows 'for every input' (looked for: loops, veiled, ifaces, maps, wideKeys, modest, calm, conditions, laid).
  DERIVED. THE GIVEN ROWS OF THIS SEAT. 9 by the template 'for every input the law returns true; each argument reads behind the call as it read before'; 0 by the template 'total and deterministic' (their statements: YtbjmhdoagjmmcaaTotals.lean).
  GIVEN WITH THE SEED: the statements are not yours to turn. If you find one false, say at which input.
  Laid BY PROGRAM, IN A SANDBOX (cutbox-rows.mjs): the forced cells as the released guide's own fill.sh prints them over the translation 96a8a91126ecbcc3… (all of the seat's roots in one cut). By AI agents, Wed Nov 11 2026. No macro, syntax, notation, axiom, sorry.
-/
import Derived.Test.YtbjmhdoagjmmcaaChecked
import GoSem.Claim
import GoSem.ClaimJoined
import GoSem.ClaimMapViews
import Derived.JoinedTies
import Derived.KernelRfl
namespace Go.Proofs.Ytbjmhdoagjmmcaa
/- THE CELL 'sum', in the pinned program and in every row, IS THE sha256 OF THE DUMP (.gsa) THAT YtbjmhdoagjmmcaaProg.lean LOADS. Nothing in Lean hashes anything: it is a label: what it is worth is what the hold of that sum in a sandbox is worth. -/
noncomputable def Try.pinned : Pinned := { name := "ytbjmhdoagjmmcaa", sum := "96a8a91126ecbcc39e48e244b19b621cbba2ad9d21a954b98ac446b2d087c70e", checked := Try.checked }
namespace Rows
def none {H : Type} : Left H := { results := [], args := [] }

/-- 'laws.FnExactEndOf': WHATEVER THE INPUT: true; the input reads as it did. -/
def fnExactEndOfSpec : ChangeSpec := { name := "fnExactEndOf", fn := fun _ => fun
  | [d1, d2] => { results := [.lit (.bool true)], args := [d1, d2] }
  | _ => none }
def fnExactEndOfRow : OpenClaim := { program := "ytbjmhdoagjmmcaa", sum := "96a8a91126ecbcc39e48e244b19b621cbba2ad9d21a954b98ac446b2d087c70e", func := "loop.example/g00697/laws.FnExactEndOf", spec := "fnExactEndOf", recurses := true, apart := false }
def FnExactEndOfSaid : Prop := fnExactEndOfRow.holds Try.pinned (OpenSpec.ofChange fnExactEndOfSpec)

/-- ITS FALSE NEIGHBOUR: 'it returns false'. Refute it at one input. -/
def fnExactEndOfWrong : ChangeSpec := { name := "fnExactEndOf", fn := fun _ => fun
  | [d1, d2] => { results := [.lit (.bool false)], args := [d1, d2] }
  | _ => none }
def FnExactEndOfWrongFalsely : Prop := fnExactEndOfRow.holds Try.pinned (OpenSpec.ofChange fnExactEndOfWrong)

/-- 'laws.FnEnds': WHATEVER THE INPUT: true; the input reads as it did. -/
def fnEndsSpec : ChangeSpec := { name := "fnEnds", fn := fun _ => fun
  | [d] => { results := [.lit (.bool true)], args := [d] }
  | _ => none }
def fnEndsRow : OpenClaim := { program := "ytbjmhdoagjmmcaa", sum := "96a8a91126ecbcc39e48e244b19b621cbba2ad9d21a954b98ac446b2d087c70e", func := "loop.example/g00697/laws.FnEnds", spec := "fnEnds", recurses := true, apart := false }
def FnEndsSaid : Prop := fnEndsRow.holds Try.pinned (OpenSpec.ofChange fnEndsSpec)

/-- ITS FALSE NEIGHBOUR: 'it returns false'. Refute it at one input. -/
def fnEndsWrong : ChangeSpec := { name := "fnEnds", fn := fun _ => fun
  | [d] => { results := [.lit (.bool false)], args := [d] }
  | _ => none }
def FnEndsWrongFalsely : Prop := fnEndsRow.holds Try.pinned (OpenSpec.ofChange fnEndsWrong)

/-- 'laws.FnExactCodeOf': WHATEVER THE INPUT: true; the input reads as it did. -/
def fnExactCodeOfSpec : ChangeSpec := { name := "fnExactCodeOf", fn := fun _ => fun
  | [d] => { results := [.lit (.bool true)], args := [d] }
  | _ => none }
def fnExactCodeOfRow : OpenClaim := { program := "ytbjmhdoagjmmcaa", sum := "96a8a91126ecbcc39e48e244b19b621cbba2ad9d21a954b98ac446b2d087c70e", func := "loop.example/g00697/laws.FnExactCodeOf", spec := "fnExactCodeOf", recurses := true, apart := false }
def FnExactCodeOfSaid : Prop := fnExactCodeOfRow.holds Try.pinned (OpenSpec.ofChange fnExactCodeOfSpec)

/-- ITS FALSE NEIGHBOUR: 'it returns false'. Refute it at one input. -/
def fnExactCodeOfWrong : ChangeSpec := { name := "fnExactCodeOf", fn := fun _ => fun
  | [d] => { results := [.lit (.bool false)], args := [d] }
  | _ => none }
def FnExactCodeOfWrongFalsely : Prop := fnExactCodeOfRow.holds Try.pinned (OpenSpec.ofChange fnExactCodeOfWrong)

/-- 'laws.FnExactProgOk': WHATEVER THE INPUT: true; the input reads as it did. -/
def fnExactProgOkSpec : ChangeSpec := { name := "fnExactProgOk", fn := fun _ => fun
  | [d] => { results := [.lit (.bool true)], args := [d] }
  | _ => none }
def fnExactProgOkRow : OpenClaim := { program := "ytbjmhdoagjmmcaa", sum := "96a8a91126ecbcc39e48e244b19b621cbba2ad9d21a954b98ac446b2d087c70e", func := "loop.example/g00697/laws.FnExactProgOk", spec := "fnExactProgOk", recurses := true, apart := false }
def FnExactProgOkSaid : Prop := fnExactProgOkRow.holds Try.pinned (OpenSpec.ofChange fnExactProgOkSpec)

/-- ITS FALSE NEIGHBOUR: 'it returns false'. Refute it at one input. -/
def fnExactProgOkWrong : ChangeSpec := { name := "fnExactProgOk", fn := fun _ => fun
  | [d] => { results := [.lit (.bool false)], args := [d] }
  | _ => none }
def FnExactProgOkWrongFalsely : Prop := fnExactProgOkRow.holds Try.pinned (OpenSpec.ofChange fnExactProgOkWrong)

/-- 'laws.FnExactStepsOf': WHATEVER THE INPUT: true; the input reads as it did. -/
def fnExactStepsOfSpec : ChangeSpec := { name := "fnExactStepsOf", fn := fun _ => fun
  | [d] => { results := [.lit (.bool true)], args := [d] }
  | _ => none }
def fnExactStepsOfRow : OpenClaim := { program := "ytbjmhdoagjmmcaa", sum := "96a8a91126ecbcc39e48e244b19b621cbba2ad9d21a954b98ac446b2d087c70e", func := "loop.example/g00697/laws.FnExactStepsOf", spec := "fnExactStepsOf", recurses := true, apart := false }
def FnExactStepsOfSaid : Prop := fnExactStepsOfRow.holds Try.pinned (OpenSpec.ofChange fnExactStepsOfSpec)

/-- ITS FALSE NEIGHBOUR: 'it returns false'. Refute it at one input. -/
def fnExactStepsOfWrong : ChangeSpec := { name := "fnExactStepsOf", fn := fun _ => fun
  | [d] => { results := [.lit (.bool false)], args := [d] }
  | _ => none }
def FnExactStepsOfWrongFalsely : Prop := fnExactStepsOfRow.holds Try.pinned (OpenSpec.ofChange fnExactStepsOfWrong)

/-- 'laws.FnExactBitsIn': WHATEVER THE INPUT: true; the input reads as it did. -/
def fnExactBitsInSpec : ChangeSpec := { name := "fnExactBitsIn", fn := fun _ => fun
  | [d] => { results := [.lit (.bool true)], args := [d] }
  | _ => none }
def fnExactBitsInRow : OpenClaim := { program := "ytbjmhdoagjmmcaa", sum := "96a8a91126ecbcc39e48e244b19b621cbba2ad9d21a954b98ac446b2d087c70e", func := "loop.example/g00697/laws.FnExactBitsIn", spec := "fnExactBitsIn", recurses := true, apart := false }
def FnExactBitsInSaid : Prop := fnExactBitsInRow.holds Try.pinned (OpenSpec.ofChange fnExactBitsInSpec)

/-- ITS FALSE NEIGHBOUR: 'it returns false'. Refute it at one input. -/
def fnExactBitsInWrong : ChangeSpec := { name := "fnExactBitsIn", fn := fun _ => fun
  | [d] => { results := [.lit (.bool false)], args := [d] }
  | _ => none }
def FnExactBitsInWrongFalsely : Prop := fnExactBitsInRow.holds Try.pinned (OpenSpec.ofChange fnExactBitsInWrong)

/-- 'laws.FnExactInputsIn': WHATEVER THE INPUT: true; the input reads as it did. -/
def fnExactInputsInSpec : ChangeSpec := { name := "fnExactInputsIn", fn := fun _ => fun
  | [d] => { results := [.lit (.bool true)], args := [d] }
  | _ => none }
def fnExactInputsInRow : OpenClaim := { program := "ytbjmhdoagjmmcaa", sum := "96a8a91126ecbcc39e48e244b19b621cbba2ad9d21a954b98ac446b2d087c70e", func := "loop.example/g00697/laws.FnExactInputsIn", spec := "fnExactInputsIn", recurses := true, apart := false }
def FnExactInputsInSaid : Prop := fnExactInputsInRow.holds Try.pinned (OpenSpec.ofChange fnExactInputsInSpec)

/-- ITS FALSE NEIGHBOUR: 'it returns false'. Refute it at one input. -/
def fnExactInputsInWrong : ChangeSpec := { name := "fnExactInputsIn", fn := fun _ => fun
  | [d] => { results := [.lit (.bool false)], args := [d] }
  | _ => none }
def FnExactInputsInWrongFalsely : Prop := fnExactInputsInRow.holds Try.pinned (OpenSpec.ofChange fnExactInputsInWrong)

/-- 'laws.FnExactMayTrap': WHATEVER THE INPUT: true; the input reads as it did. -/
def fnExactMayTrapSpec : ChangeSpec := { name := "fnExactMayTrap", fn := fun _ => fun
  | [d1, d2] => { results := [.lit (.bool true)], args := [d1, d2] }
  | _ => none }
def fnExactMayTrapRow : OpenClaim := { program := "ytbjmhdoagjmmcaa", sum := "96a8a91126ecbcc39e48e244b19b621cbba2ad9d21a954b98ac446b2d087c70e", func := "loop.example/g00697/laws.FnExactMayTrap", spec := "fnExactMayTrap", recurses := true, apart := false }
def FnExactMayTrapSaid : Prop := fnExactMayTrapRow.holds Try.pinned (OpenSpec.ofChange fnExactMayTrapSpec)

/-- ITS FALSE NEIGHBOUR: 'it returns false'. Refute it at one input. -/
def fnExactMayTrapWrong : ChangeSpec := { name := "fnExactMayTrap", fn := fun _ => fun
  | [d1, d2] => { results := [.lit (.bool false)], args := [d1, d2] }
  | _ => none }
def FnExactMayTrapWrongFalsely : Prop := fnExactMayTrapRow.holds Try.pinned (OpenSpec.ofChange fnExactMayTrapWrong)

/-- 'laws.FnExactNumberOf': WHATEVER THE INPUT: true; the input reads as it did. -/
def fnExactNumberOfSpec : ChangeSpec := { name := "fnExactNumberOf", fn := fun _ => fun
  | [d1, d2, d3] => { results := [.lit (.bool true)], args := [d1, d2, d3] }
  | _ => none }
def fnExactNumberOfRow : OpenClaim := { program := "ytbjmhdoagjmmcaa", sum := "96a8a91126ecbcc39e48e244b19b621cbba2ad9d21a954b98ac446b2d087c70e", func := "loop.example/g00697/laws.FnExactNumberOf", spec := "fnExactNumberOf", recurses := true, apart := false }
def FnExactNumberOfSaid : Prop := fnExactNumberOfRow.holds Try.pinned (OpenSpec.ofChange fnExactNumberOfSpec)

/-- ITS FALSE NEIGHBOUR: 'it returns false'. Refute it at one input. -/
def fnExactNumberOfWrong : ChangeSpec := { name := "fnExactNumberOf", fn := fun _ => fun
  | [d1, d2, d3] => { results := [.lit (.bool false)], args := [d1, d2, d3] }
  | _ => none }
def FnExactNumberOfWrongFalsely : Prop := fnExactNumberOfRow.holds Try.pinned (OpenSpec.ofChange fnExactNumberOfWrong)

/- THE SECOND FORM. 'bulk': how many values and letters a reading holds, each counted each time it is reached (what is shared counts as often as it is met; a slice's spare places count too). A statement '..UptoSaid' is the law's where the arguments, and the package variables that the reading takes, are together of bulk at most 1048576: NARROWER than '..Said'. Prove '..Said' where nothing that the law and all that it calls make is longer than what came in: it says more and counts as full. Else prove '..UptoSaid'. A law counts once. -/
mutual
def uptoBulk {H : Type} : DataW H → Nat
  | .lit (.string bytes) => bytes.length + 1
  | .lit _ => 1
  | .nil => 1
  | .ptr d => uptoBulk d + 1
  | .slice elems spare => uptoBulkAll elems + uptoBulkAll spare + 1
  | .agg parts => uptoBulkAll parts + 1
  | .iface _ d => uptoBulk d + 1
  | .map entries => uptoBulkEntries entries + 1
  | .held _ => 1
def uptoBulkAll {H : Type} : List (DataW H) → Nat
  | [] => 0
  | d :: r => uptoBulk d + uptoBulkAll r
def uptoBulkEntries {H : Type} : List (Lit × DataW H) → Nat
  | [] => 0
  | x :: r => uptoBulkEntry x + uptoBulkEntries r
def uptoBulkEntry {H : Type} : Lit × DataW H → Nat
  | (.string bytes, d) => bytes.length + uptoBulk d + 1
  | (_, d) => uptoBulk d + 1
 end
def uptoSmall : (H : Type) → List (DataW H) → Bool := fun _ ds => decide (uptoBulkAll ds ≤ 1048576)
def OpenSpec.upto (s : _root_.Go.ChangeSpec) : _root_.Go.OpenSpec := { _root_.Go.OpenSpec.ofChange s with cond := some uptoSmall }

/-- 'laws.FnExactEndOf', WHERE WHAT IT READS IS OF BULK AT MOST 1048576: true; the input reads as it did. -/
def fnExactEndOfUptoRow : OpenClaim := { program := "ytbjmhdoagjmmcaa", sum := "96a8a91126ecbcc39e48e244b19b621cbba2ad9d21a954b98ac446b2d087c70e", func := "loop.example/g00697/laws.FnExactEndOf", spec := "fnExactEndOf", recurses := true, apart := false, narrowed := true }
def FnExactEndOfUptoSaid : Prop := fnExactEndOfUptoRow.holds Try.pinned (OpenSpec.upto fnExactEndOfSpec)

/-- 'laws.FnEnds', WHERE WHAT IT READS IS OF BULK AT MOST 1048576: true; the input reads as it did. -/
def fnEndsUptoRow : OpenClaim := { program := "ytbjmhdoagjmmcaa", sum := "96a8a91126ecbcc39e48e244b19b621cbba2ad9d21a954b98ac446b2d087c70e", func := "loop.example/g00697/laws.FnEnds", spec := "fnEnds", recurses := true, apart := false, narrowed := true }
def FnEndsUptoSaid : Prop := fnEndsUptoRow.holds Try.pinned (OpenSpec.upto fnEndsSpec)

/-- 'laws.FnExactCodeOf', WHERE WHAT IT READS IS OF BULK AT MOST 1048576: true; the input reads as it did. -/
def fnExactCodeOfUptoRow : OpenClaim := { program := "ytbjmhdoagjmmcaa", sum := "96a8a91126ecbcc39e48e244b19b621cbba2ad9d21a954b98ac446b2d087c70e", func := "loop.example/g00697/laws.FnExactCodeOf", spec := "fnExactCodeOf", recurses := true, apart := false, narrowed := true }
def FnExactCodeOfUptoSaid : Prop := fnExactCodeOfUptoRow.holds Try.pinned (OpenSpec.upto fnExactCodeOfSpec)

/-- 'laws.FnExactProgOk', WHERE WHAT IT READS IS OF BULK AT MOST 1048576: true; the input reads as it did. -/
def fnExactProgOkUptoRow : OpenClaim := { program := "ytbjmhdoagjmmcaa", sum := "96a8a91126ecbcc39e48e244b19b621cbba2ad9d21a954b98ac446b2d087c70e", func := "loop.example/g00697/laws.FnExactProgOk", spec := "fnExactProgOk", recurses := true, apart := false, narrowed := true }
def FnExactProgOkUptoSaid : Prop := fnExactProgOkUptoRow.holds Try.pinned (OpenSpec.upto fnExactProgOkSpec)

/-- 'laws.FnExactStepsOf', WHERE WHAT IT READS IS OF BULK AT MOST 1048576: true; the input reads as it did. -/
def fnExactStepsOfUptoRow : OpenClaim := { program := "ytbjmhdoagjmmcaa", sum := "96a8a91126ecbcc39e48e244b19b621cbba2ad9d21a954b98ac446b2d087c70e", func := "loop.example/g00697/laws.FnExactStepsOf", spec := "fnExactStepsOf", recurses := true, apart := false, narrowed := true }
def FnExactStepsOfUptoSaid : Prop := fnExactStepsOfUptoRow.holds Try.pinned (OpenSpec.upto fnExactStepsOfSpec)

/-- 'laws.FnExactBitsIn', WHERE WHAT IT READS IS OF BULK AT MOST 1048576: true; the input reads as it did. -/
def fnExactBitsInUptoRow : OpenClaim := { program := "ytbjmhdoagjmmcaa", sum := "96a8a91126ecbcc39e48e244b19b621cbba2ad9d21a954b98ac446b2d087c70e", func := "loop.example/g00697/laws.FnExactBitsIn", spec := "fnExactBitsIn", recurses := true, apart := false, narrowed := true }
def FnExactBitsInUptoSaid : Prop := fnExactBitsInUptoRow.holds Try.pinned (OpenSpec.upto fnExactBitsInSpec)

/-- 'laws.FnExactInputsIn', WHERE WHAT IT READS IS OF BULK AT MOST 1048576: true; the input reads as it did. -/
def fnExactInputsInUptoRow : OpenClaim := { program := "ytbjmhdoagjmmcaa", sum := "96a8a91126ecbcc39e48e244b19b621cbba2ad9d21a954b98ac446b2d087c70e", func := "loop.example/g00697/laws.FnExactInputsIn", spec := "fnExactInputsIn", recurses := true, apart := false, narrowed := true }
def FnExactInputsInUptoSaid : Prop := fnExactInputsInUptoRow.holds Try.pinned (OpenSpec.upto fnExactInputsInSpec)

/-- 'laws.FnExactMayTrap', WHERE WHAT IT READS IS OF BULK AT MOST 1048576: true; the input reads as it did. -/
def fnExactMayTrapUptoRow : OpenClaim := { program := "ytbjmhdoagjmmcaa", sum := "96a8a91126ecbcc39e48e244b19b621cbba2ad9d21a954b98ac446b2d087c70e", func := "loop.example/g00697/laws.FnExactMayTrap", spec := "fnExactMayTrap", recurses := true, apart := false, narrowed := true }
def FnExactMayTrapUptoSaid : Prop := fnExactMayTrapUptoRow.holds Try.pinned (OpenSpec.upto fnExactMayTrapSpec)

/-- 'laws.FnExactNumberOf', WHERE WHAT IT READS IS OF BULK AT MOST 1048576: true; the input reads as it did. -/
def fnExactNumberOfUptoRow : OpenClaim := { program := "ytbjmhdoagjmmcaa", sum := "96a8a91126ecbcc39e48e244b19b621cbba2ad9d21a954b98ac446b2d087c70e", func := "loop.example/g00697/laws.FnExactNumberOf", spec := "fnExactNumberOf", recurses := true, apart := false, narrowed := true }
def FnExactNumberOfUptoSaid : Prop := fnExactNumberOfUptoRow.holds Try.pinned (OpenSpec.upto fnExactNumberOfSpec)

end Rows
end Go.Proofs.Ytbjmhdoagjmmcaa
