/- BoundaryOf: the program's and the reference's set the signs of the faces, row by row. -/
import Derived.Test.YtgeoehnbpkediaaGreatZOrder
namespace Go.Proofs.YtgeoehnbpkediaaGreat
open Go.RowKit

end Go.Proofs.YtgeoehnbpkediaaGreat
