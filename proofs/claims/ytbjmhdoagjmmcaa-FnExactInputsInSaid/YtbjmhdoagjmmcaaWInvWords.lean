/- Words of the print: what this law's texts come to. -/
import Derived.Test.YtbjmhdoagjmmcaaWInv
import Derived.Test.YtbjmhdoagjmmcaaWFootNe
namespace Go.Proofs.YtbjmhdoagjmmcaaW.PrintWords
open Go.RowKit
end Go.Proofs.YtbjmhdoagjmmcaaW.PrintWords
namespace Go.Proofs.YtbjmhdoagjmmcaaW.PrintLast
section
variable {ops : Array Oper} {a : Act} {o og : Oper} {g : Nat} {t : Tmp} {u : Bool}
end
end Go.Proofs.YtbjmhdoagjmmcaaW.PrintLast
