-- Cut down, by wip/tools/prune.py, to what this claim needs; printed words of the kit.
import Derived.Test.YthjgcapfojhfjaaWN
namespace Go.Proofs.YthjgcapfojhfjaaW.PrintWords
open Go.RowKit
namespace Kd
section
variable {α : Type} {d : Kd α} {W : World} {g n : Nat} {S ok : Nat → Prop} {A : Option Addr} {ad : Addr} {xs : List α}
end
end Kd
end Go.Proofs.YthjgcapfojhfjaaW.PrintWords
