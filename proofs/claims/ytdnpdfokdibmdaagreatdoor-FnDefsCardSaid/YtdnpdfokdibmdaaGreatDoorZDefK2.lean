/-
  The laws' helpers on definitions: copying, comparing.
-/
import Derived.Test.YtdnpdfokdibmdaaGreatDoorZDefK
namespace Go.Proofs.YtdnpdfokdibmdaaGreatDoor
open Go.RowKit

end Go.Proofs.YtdnpdfokdibmdaaGreatDoor
