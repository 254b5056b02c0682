/-
  The program's HermiteForm.
-/
import Derived.Test.YteijmppjdljedaaZHermY
import Derived.Deep.Cut
import Derived.Deep.CutRange
import Derived.Deep.CutBlock
namespace Go.Proofs.Yteijmppjdljedaa
open Go.RowKit

def bdW (w : World) (g : Nat) : Bool := match w.cell? ⟨g, 9, none⟩ with | some (.bool b) => b | _ => false
end Go.Proofs.Yteijmppjdljedaa
