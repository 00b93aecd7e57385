/- The package derive: Mix; the reference: Purpose, Expand, Mix. -/
import Derived.Test.YtnmaegbobfngeaaDoorDerB
namespace Go.Proofs.YtnmaegbobfngeaaDoor
open Go Eng Sha Cod

end Go.Proofs.YtnmaegbobfngeaaDoor
