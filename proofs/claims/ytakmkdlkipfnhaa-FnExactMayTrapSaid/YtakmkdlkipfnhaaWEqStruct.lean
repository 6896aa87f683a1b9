/- Words of the print: what this law's texts come to. -/
import Derived.Test.YtakmkdlkipfnhaaWWords
import Derived.Laws.StructEq
namespace Go.Proofs.YtakmkdlkipfnhaaW.PrintWords
open Go.RowKit
section
variable {P : Program} {d : Nat} {xs ys : Array Value} {f : Field} {fs : List Field} {a b : Value} {r s : Bool} {w : World}
end
end Go.Proofs.YtakmkdlkipfnhaaW.PrintWords
