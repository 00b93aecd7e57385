/- The package derive: Mix; the reference: Purpose, Expand, Mix. -/
import Derived.Test.YtbbfagnbmofgnaaDoorDerB
namespace Go.Proofs.YtbbfagnbmofgnaaDoor
open Go Eng Sha Cod

end Go.Proofs.YtbbfagnbmofgnaaDoor
