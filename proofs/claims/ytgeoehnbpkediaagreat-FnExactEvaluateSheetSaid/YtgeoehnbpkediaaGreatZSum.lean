/- Sums, integer matrices as functions, and what divides what: plain. -/
import Derived.Test.YtgeoehnbpkediaaGreatZIsMat
namespace Go.Proofs.YtgeoehnbpkediaaGreat
open Go.RowKit
--BODY
def sm:Nat->(Nat->Int)->Int
 |0,_=>0
 |n+1,f=>sm n f+f n
abbrev Mx:=Nat->Nat->Int
def mm (n:Nat) (A B:Mx):Mx:=fun i j=>sm n fun k=>A i k*B k j

end Go.Proofs.YtgeoehnbpkediaaGreat
