import Derived.Test.YthjgcapfojhfjaaS7
import Derived.Test.YthjgcapfojhfjaaP9
import Derived.Test.YthjgcapfojhfjaaP8
import Derived.Test.YthjgcapfojhfjaaP9
import Derived.Test.YthjgcapfojhfjaaP9
import Derived.Test.YthjgcapfojhfjaaP9
namespace Go.Proofs.Ythjgcapfojhfjaa.P
open Go.RowKit Go.Proofs.YthjgcapfojhfjaaW.PrintWords
end Go.Proofs.Ythjgcapfojhfjaa.P
