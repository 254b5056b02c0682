/-
  StackRows: the program's and the reference's.
-/
import Derived.Test.YtneeelebnnfbeaaZBasI
set_option maxHeartbeats 8000000
set_option maxRecDepth 100000
namespace Go.Proofs.Ytneeelebnnfbeaa
open Go.RowKit
end Go.Proofs.Ytneeelebnnfbeaa
