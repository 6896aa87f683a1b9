/- The walks of the functions that the law FnNatShown comes to, part 0: turned out of the kit's print, and mended where that fell. -/
import Derived.Test.YtlaliacfonfflaaDoorProg
import Derived.Test.YtlaliacfonfflaaDoorFi
import Derived.Below
import Derived.Deep.Draws
import Derived.Deep.AppendLies
import Derived.Maps.AppendAt
import Derived.OwnWalk
import Derived.Laws.BytesArg
import Derived.Laws.MakeOwn
import Derived.Laws.OwnMore
import Derived.Deep.OwnRows
import Derived.Tactics
import Derived.Lib.ConvBytes
import Derived.Laws.Slices
import Derived.WalkKit
import Derived.KernelRfl
import Derived.RowKit3
import Derived.Deep.LoopGhost
import Derived.Deep.QuietTactic
import Derived.BigQuiet
import Derived.WideLaws
import Derived.Deep.DeepCutAuto
import Derived.Deep.CutBlock
import Derived.Deep.RegionHeld3
import Derived.Laws.Rows
import Derived.Lib.AppendStr
import Derived.ArgAppend
import Derived.Laws.IdiomCopy
import Derived.OrdersHeld
import Derived.Laws.BitsLemmas
import Derived.RowKit
import Derived.Test.YtlaliacfonfflaaDoorWWords
import Derived.Test.YtlaliacfonfflaaDoorWLast
import Derived.Test.YtlaliacfonfflaaDoorWTab
import Derived.Test.YtlaliacfonfflaaDoorWFour
import Derived.Test.YtlaliacfonfflaaDoorWQPut
import Derived.Test.YtlaliacfonfflaaDoorWApart
import Derived.Test.YtlaliacfonfflaaDoorWArr
import Derived.Test.YtlaliacfonfflaaDoorWZeros
import Derived.Test.YtlaliacfonfflaaDoorWFoot
import Derived.Test.YtlaliacfonfflaaDoorWKept
import Derived.Test.YtlaliacfonfflaaDoorWShare
import Derived.Test.YtlaliacfonfflaaDoorWN
import Derived.Test.YtlaliacfonfflaaDoorWFootNe
import Derived.Test.YtlaliacfonfflaaDoorWAt
import Derived.Test.YtlaliacfonfflaaDoorWEqStruct
import Derived.Test.YtlaliacfonfflaaDoorWRepsOne
import Derived.Test.YtlaliacfonfflaaDoorWInv
import Derived.Test.YtlaliacfonfflaaDoorWInvWords
import Derived.Test.YtlaliacfonfflaaDoorWGuard
import Derived.Test.YtlaliacfonfflaaDoorWNEv
import Derived.Test.YtlaliacfonfflaaDoorWMore
namespace Go.Proofs.YtlaliacfonfflaaDoor.PFnNatShown
open Go.RowKit Go.Proofs.YtlaliacfonfflaaDoorW.PrintWords Go.Proofs.YtlaliacfonfflaaDoorW.PrintLast Go.Proofs.YtlaliacfonfflaaDoorW.PrintMore
attribute [local go_sem] max2_int min2_int max_two min_two max_three min_three max_four min_four   -- for this text's walks alone
set_option linter.unusedVariables false
set_option linter.unusedSimpArgs false



def errW : Option Int → Value
  | none => .nilIface
  | some c => .iface 0 (.int .i64 c)
theorem errW_none : errW none = .nilIface := rfl
theorem errW_some (c : Int) : errW (some c) = .iface 0 (.int .i64 c) := rfl

theorem info2 : (Tryd.prog.info? 2).map (fun i => (i.zero, i.size, i.bytes)) = some (some (.int .i64 0), 1, 8) := by kernel_rfl
theorem info5 : (Tryd.prog.info? 5).map (fun i => (i.zero, i.size, i.bytes)) = some (some (.int .u8 0), 1, 1) := by kernel_rfl
-- the values' own types

end Go.Proofs.YtlaliacfonfflaaDoor.PFnNatShown
