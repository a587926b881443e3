-- Cut down, by wip/tools/prune.py, to what this claim needs; printed words of the kit.
import Derived.Test.YthjgcapfojhfjaaWWords
namespace Go.Proofs.YthjgcapfojhfjaaW.PrintWords
open Go.RowKit
section
variable {P : Program} {ops : Array Oper} {rest : List Oper} {o : Oper} {a : Act} {Q : Exit → Act → World → Prop} {W : World}
end
end Go.Proofs.YthjgcapfojhfjaaW.PrintWords
