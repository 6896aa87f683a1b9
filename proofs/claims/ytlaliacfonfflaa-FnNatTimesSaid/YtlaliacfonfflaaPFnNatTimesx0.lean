/- The walks of the functions that the law FnNatTimes comes to, part 0: turned out of the kit's print, and mended where that fell. -/
import Derived.Test.YtlaliacfonfflaaProg
import Derived.Below
import Derived.Deep.Draws
import Derived.Deep.AppendLies
import Derived.Maps.AppendAt
import Derived.OwnWalk
import Derived.Laws.BytesArg
import Derived.Laws.MakeOwn
import Derived.Laws.OwnMore
import Derived.Deep.OwnRows
import Derived.Tactics
import Derived.Lib.ConvBytes
import Derived.Laws.Slices
import Derived.WalkKit
import Derived.KernelRfl
import Derived.RowKit3
import Derived.Deep.LoopGhost
import Derived.Deep.QuietTactic
import Derived.BigQuiet
import Derived.WideLaws
import Derived.Deep.DeepCutAuto
import Derived.Deep.CutBlock
import Derived.Deep.RegionHeld3
import Derived.Laws.Rows
import Derived.Lib.AppendStr
import Derived.ArgAppend
import Derived.Laws.IdiomCopy
import Derived.OrdersHeld
import Derived.Laws.BitsLemmas
import Derived.RowKit
import Derived.Test.YtlaliacfonfflaaWWords
import Derived.Test.YtlaliacfonfflaaWLast
import Derived.Test.YtlaliacfonfflaaWTab
import Derived.Test.YtlaliacfonfflaaWFour
import Derived.Test.YtlaliacfonfflaaWQPut
import Derived.Test.YtlaliacfonfflaaWApart
import Derived.Test.YtlaliacfonfflaaWArr
import Derived.Test.YtlaliacfonfflaaWZeros
import Derived.Test.YtlaliacfonfflaaWFoot
import Derived.Test.YtlaliacfonfflaaWKept
import Derived.Test.YtlaliacfonfflaaWShare
import Derived.Test.YtlaliacfonfflaaWN
import Derived.Test.YtlaliacfonfflaaWFootNe
import Derived.Test.YtlaliacfonfflaaWAt
import Derived.Test.YtlaliacfonfflaaWEqStruct
import Derived.Test.YtlaliacfonfflaaWRepsOne
import Derived.Test.YtlaliacfonfflaaWInv
import Derived.Test.YtlaliacfonfflaaWInvWords
import Derived.Test.YtlaliacfonfflaaWGuard
import Derived.Test.YtlaliacfonfflaaWNEv
import Derived.Test.YtlaliacfonfflaaWMore
namespace Go.Proofs.Ytlaliacfonfflaa.PFnNatTimes
open Go.RowKit Go.Proofs.YtlaliacfonfflaaW.PrintWords Go.Proofs.YtlaliacfonfflaaW.PrintLast Go.Proofs.YtlaliacfonfflaaW.PrintMore
attribute [local go_sem] max2_int min2_int max_two min_two max_three min_three max_four min_four   -- for this text's walks alone
set_option linter.unusedVariables false
set_option linter.unusedSimpArgs false



def errW : Option Int → Value
  | none => .nilIface
  | some c => .iface 0 (.int .i64 c)
theorem errW_none : errW none = .nilIface := rfl
theorem errW_some (c : Int) : errW (some c) = .iface 0 (.int .i64 c) := rfl

theorem info2 : (Try.prog.info? 2).map (fun i => (i.zero, i.size, i.bytes)) = some (some (.int .i64 0), 1, 8) := by kernel_rfl
-- the values' own types

end Go.Proofs.Ytlaliacfonfflaa.PFnNatTimes
