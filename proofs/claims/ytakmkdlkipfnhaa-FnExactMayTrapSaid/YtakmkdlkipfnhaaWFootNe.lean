/- Words of the print: what this law's texts come to. -/
import Derived.Test.YtakmkdlkipfnhaaWN
namespace Go.Proofs.YtakmkdlkipfnhaaW.PrintWords
open Go.RowKit
namespace Kd
section
variable {α : Type} {d : Kd α} {W : World} {g n : Nat} {S ok : Nat → Prop} {A : Option Addr} {ad : Addr} {xs : List α}
end
end Kd
end Go.Proofs.YtakmkdlkipfnhaaW.PrintWords
