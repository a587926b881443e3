import Derived.Test.YthjgcapfojhfjaaS6
namespace Go.Proofs.Ythjgcapfojhfjaa.P
open Go.RowKit Go.Proofs.YthjgcapfojhfjaaW.PrintWords
end Go.Proofs.Ythjgcapfojhfjaa.P
