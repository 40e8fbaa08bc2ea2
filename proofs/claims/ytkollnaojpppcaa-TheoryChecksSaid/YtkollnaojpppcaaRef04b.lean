/- Contracts of censusref04 on sets; no condition. -/
import Derived.Test.YtkollnaojpppcaaGrow
import Derived.Test.YtkollnaojpppcaaRef04
namespace Go.Proofs.Ytkollnaojpppcaa
open Go.RowKit


/-- A literal is true in a set. -/
def litHolds (s : BitVec 128) (l : Int) : Bool := decide (0 < litVar l) && (sHas s (litVar l) == decide (0 < l))


end Go.Proofs.Ytkollnaojpppcaa
