/- Words of the print: what this law's texts come to. -/
import Derived.Test.YtakmkdlkipfnhaaWTab
namespace Go.Proofs.YtakmkdlkipfnhaaW.PrintLast
section
variable {P : Program} {ops : Array Oper} {Q : Exit → Act → World → Prop} {md : Region.Mode} {S : World → Prop} {ds : List Nat} {T : Bool × List (List Nat × List Nat)}
end
end Go.Proofs.YtakmkdlkipfnhaaW.PrintLast
