/-
  The program's HermiteForm.
-/
import Derived.Test.YtneeelebnnfbeaaZHermY
import Derived.Deep.Cut
import Derived.Deep.CutRange
import Derived.Deep.CutBlock
set_option maxHeartbeats 8000000
set_option maxRecDepth 100000
namespace Go.Proofs.Ytneeelebnnfbeaa
open Go.RowKit
end Go.Proofs.Ytneeelebnnfbeaa
