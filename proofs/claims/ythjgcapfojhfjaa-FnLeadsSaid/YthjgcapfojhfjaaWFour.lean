-- Cut down, by wip/tools/prune.py, to what this claim needs; printed words of the kit.
import Derived.Test.YthjgcapfojhfjaaWTab
namespace Go.Proofs.YthjgcapfojhfjaaW.PrintLast
section
variable {P : Program} {ops : Array Oper} {Q : Exit → Act → World → Prop} {md : Region.Mode} {S : World → Prop} {ds : List Nat} {T : Bool × List (List Nat × List Nat)}
end
end Go.Proofs.YthjgcapfojhfjaaW.PrintLast
