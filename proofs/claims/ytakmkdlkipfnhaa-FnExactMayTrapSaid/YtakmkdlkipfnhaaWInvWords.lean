/- Words of the print: what this law's texts come to. -/
import Derived.Test.YtakmkdlkipfnhaaWInv
import Derived.Test.YtakmkdlkipfnhaaWFootNe
namespace Go.Proofs.YtakmkdlkipfnhaaW.PrintWords
open Go.RowKit
end Go.Proofs.YtakmkdlkipfnhaaW.PrintWords
namespace Go.Proofs.YtakmkdlkipfnhaaW.PrintLast
section
variable {ops : Array Oper} {a : Act} {o og : Oper} {g : Nat} {t : Tmp} {u : Bool}
end
end Go.Proofs.YtakmkdlkipfnhaaW.PrintLast
