/- The package derive: Mix; the reference: Purpose, Expand, Mix. -/
import Derived.Test.YtchpcabehchfjaaDoorDerB
namespace Go.Proofs.YtchpcabehchfjaaDoor
open Go Eng Sha Cod

end Go.Proofs.YtchpcabehchfjaaDoor
