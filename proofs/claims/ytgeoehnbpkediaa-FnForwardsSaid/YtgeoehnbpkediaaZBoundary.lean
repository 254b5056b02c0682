/-
  BoundaryOf: the program's and the reference's set the signs of the faces, row by row.
-/
import Derived.Test.YtgeoehnbpkediaaZOrder
import Derived.Test.YtgeoehnbpkediaaZInts
set_option maxHeartbeats 8000000
set_option maxRecDepth 100000
namespace Go.Proofs.Ytgeoehnbpkediaa
open Go.RowKit
end Go.Proofs.Ytgeoehnbpkediaa
