-- Cut down, by wip/tools/prune.py, to what this claim needs; printed words of the kit.
import Derived.Test.YthjgcapfojhfjaaWWords
import Derived.Laws.StructEq
namespace Go.Proofs.YthjgcapfojhfjaaW.PrintWords
open Go.RowKit
section
variable {P : Program} {d : Nat} {xs ys : Array Value} {f : Field} {fs : List Field} {a b : Value} {r s : Bool} {w : World}
end
end Go.Proofs.YthjgcapfojhfjaaW.PrintWords
