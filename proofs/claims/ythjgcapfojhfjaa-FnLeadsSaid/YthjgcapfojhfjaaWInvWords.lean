-- Cut down, by wip/tools/prune.py, to what this claim needs; printed words of the kit.
import Derived.Test.YthjgcapfojhfjaaWInv
import Derived.Test.YthjgcapfojhfjaaWFootNe
namespace Go.Proofs.YthjgcapfojhfjaaW.PrintWords
open Go.RowKit
end Go.Proofs.YthjgcapfojhfjaaW.PrintWords
namespace Go.Proofs.YthjgcapfojhfjaaW.PrintLast
section
variable {ops : Array Oper} {a : Act} {o og : Oper} {g : Nat} {t : Tmp} {u : Bool}
end
end Go.Proofs.YthjgcapfojhfjaaW.PrintLast
