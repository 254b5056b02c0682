/- The laws' helpers on []Result: comparing. -/
import Derived.Test.YtgeoehnbpkediaaGreatZAddS
namespace Go.Proofs.YtgeoehnbpkediaaGreat
open Go.RowKit
variable {F:Nat->Prop} {l:List Rs} {v:Value} {w w':World}
def VRR (w:World) (S:Nat->Prop) (v:Value) (l:List Rs):Prop:= ∃ a n c,v= .slice a n c/\RdR w S a n c l
def ORR (w:World) (F:Nat->Prop) (v:Value) (l:List Rs):Prop:= ∃ a n c,v= .slice a n c/\SepR w F a n c l
theorem ORR.keep {T:Nat->Prop} (h:ORR w F v l) (hk:Keep T w w') (hT: ∀ b,b<w.heap.size->F b->T b):ORR w' F v l:=by
 obtain ⟨a,n,c,rfl,h⟩:=h;exact ⟨a,n,c,rfl,h.keep hk hT⟩
theorem ORR.grow (h:ORR w F v l) (hk:Grow w w'):ORR w' F v l:=h.keep hk fun _ _ _=>trivial
theorem ORR.rd {S:Nat->Prop} (h:ORR w F v l) (hS: ∀ b,F b->S b):VRR w S v l:=by
 obtain ⟨a,n,c,rfl,h⟩:=h;exact ⟨a,n,c,rfl,h.rdR hS⟩
theorem ZkC (l r:List Rs):ZaQ (l++r)=ZaQ l++ZaQ r:=by simp[ZaQ]

end Go.Proofs.YtgeoehnbpkediaaGreat
