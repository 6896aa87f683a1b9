/- The bits of a whole number, kept by a mask: in what range they are. Plain Lean. -/
import Derived.Test.YtlaliacfonfflaaDoorBs
import Derived.Laws.BitsLemmas
namespace Go.Proofs.YtlaliacfonfflaaDoor.Bs
open Go.RowKit Go.Proofs.YtlaliacfonfflaaDoorW.PrintWords Go.Proofs.YtlaliacfonfflaaDoorW.PrintLast
set_option linter.unusedVariables false
set_option linter.unusedSimpArgs false
theorem and_mask (x : Int) (m : Nat) (hm : m < 2 ^ 62) : 0 ≤ Go.bits .and .i64 x (m : Int) ∧ Go.bits .and .i64 x (m : Int) ≤ m := by
  have h1 : ((BitVec.ofInt IntKind.i64.bits x) &&& (BitVec.ofInt IntKind.i64.bits (m : Int))).toNat ≤ m := by
    rw [BitVec.toNat_and]
    refine Nat.le_trans Nat.and_le_right ?_
    rw [show BitVec.ofInt IntKind.i64.bits (m : Int) = BitVec.ofNat IntKind.i64.bits m from BitVec.ofInt_natCast _ _, BitVec.toNat_ofNat]
    exact Nat.mod_le _ _
  show 0 ≤ IntKind.i64.wrap _ ∧ IntKind.i64.wrap _ ≤ _
  rw [IntKind.wrap_i64]
  generalize ((BitVec.ofInt IntKind.i64.bits x) &&& (BitVec.ofInt IntKind.i64.bits (m : Int))).toNat = z at h1 ⊢
  have : m < 4611686018427387904 := hm
  omega
end Go.Proofs.YtlaliacfonfflaaDoor.Bs
