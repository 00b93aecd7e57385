/- Steps along the chain. -/
import Derived.Test.YtchpcabehchfjaaDoorRange
import Derived.Test.YtchpcabehchfjaaDoorScalX
namespace Go.Proofs.YtchpcabehchfjaaDoor
open Go Eng Sha Cod

abbrev zk : Array Value := (List.replicate 32 (.int .u8 0)).toArray
/-- memory between two rounds, and behind the last -/
def stM (b4 b3 b2 b1 : Nat) (key box : List UInt8) (acc : Array Value) (m : Int) : SH :=
  [.blk b1 (.cells (bs box).toArray 32 (0, 0)), .blk b4 (.cells acc 32 (0, 0)), .blk b3 (.cells #[I m] 3 (0, 0)), .blk b2 (.cells (bs key).toArray 32 (0, 0))]

end Go.Proofs.YtchpcabehchfjaaDoor
