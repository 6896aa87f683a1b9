/- The walks of the functions that the law FnExactMulNat comes to, part 0: turned out of the kit's print, and mended where that fell. -/
import Derived.Test.YtfpobacomphnbaaProg
import Derived.Below
import Derived.Deep.Draws
import Derived.Deep.AppendLies
import Derived.Maps.AppendAt
import Derived.OwnWalk
import Derived.Laws.BytesArg
import Derived.Laws.MakeOwn
import Derived.Laws.OwnMore
import Derived.Deep.OwnRows
import Derived.Tactics
import Derived.Lib.ConvBytes
import Derived.Laws.Slices
import Derived.WalkKit
import Derived.KernelRfl
import Derived.RowKit3
import Derived.Deep.LoopGhost
import Derived.Deep.QuietTactic
import Derived.BigQuiet
import Derived.WideLaws
import Derived.Deep.DeepCutAuto
import Derived.Deep.CutBlock
import Derived.Deep.RegionHeld3
import Derived.Laws.Rows
import Derived.Lib.AppendStr
import Derived.ArgAppend
import Derived.Laws.IdiomCopy
import Derived.OrdersHeld
import Derived.Laws.BitsLemmas
import Derived.RowKit
import Derived.Test.YtfpobacomphnbaaWWords
import Derived.Test.YtfpobacomphnbaaWLast
import Derived.Test.YtfpobacomphnbaaWTab
import Derived.Test.YtfpobacomphnbaaWFour
import Derived.Test.YtfpobacomphnbaaWQPut
import Derived.Test.YtfpobacomphnbaaWApart
import Derived.Test.YtfpobacomphnbaaWArr
import Derived.Test.YtfpobacomphnbaaWZeros
import Derived.Test.YtfpobacomphnbaaWFoot
import Derived.Test.YtfpobacomphnbaaWKept
import Derived.Test.YtfpobacomphnbaaWShare
import Derived.Test.YtfpobacomphnbaaWN
import Derived.Test.YtfpobacomphnbaaWFootNe
import Derived.Test.YtfpobacomphnbaaWAt
import Derived.Test.YtfpobacomphnbaaWEqStruct
import Derived.Test.YtfpobacomphnbaaWRepsOne
import Derived.Test.YtfpobacomphnbaaWInv
import Derived.Test.YtfpobacomphnbaaWInvWords
import Derived.Test.YtfpobacomphnbaaWGuard
import Derived.Test.YtfpobacomphnbaaWNEv
import Derived.Test.YtfpobacomphnbaaWMore
namespace Go.Proofs.Ytfpobacomphnbaa.PFnExactMulNat
open Go.RowKit Go.Proofs.YtfpobacomphnbaaW.PrintWords Go.Proofs.YtfpobacomphnbaaW.PrintLast Go.Proofs.YtfpobacomphnbaaW.PrintMore
attribute [local go_sem] max2_int min2_int max_two min_two max_three min_three max_four min_four   -- for this text's walks alone
set_option linter.unusedVariables false
set_option linter.unusedSimpArgs false



def errW : Option Int → Value
  | none => .nilIface
  | some c => .iface 0 (.int .i64 c)
theorem errW_none : errW none = .nilIface := rfl
theorem errW_some (c : Int) : errW (some c) = .iface 0 (.int .i64 c) := rfl

theorem info2 : (Try.prog.info? 2).map (fun i => (i.zero, i.size, i.bytes)) = some (some (.int .i64 0), 1, 8) := by kernel_rfl
-- the values' own types

end Go.Proofs.Ytfpobacomphnbaa.PFnExactMulNat
