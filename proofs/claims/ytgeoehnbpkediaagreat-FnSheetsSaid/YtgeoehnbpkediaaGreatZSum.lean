/- Sums, integer matrices as functions, and what divides what: plain. -/
import Derived.Test.YtgeoehnbpkediaaGreatZIsMat
namespace Go.Proofs.YtgeoehnbpkediaaGreat
open Go.RowKit
--BODY
def sm:Nat->(Nat->Int)->Int
 |0,_=>0
 |n+1,f=>sm n f+f n
abbrev Mx:=Nat->Nat->Int
def mm (n:Nat) (A B:Mx):Mx:=fun i j=>sm n fun k=>A i k*B k j
theorem Zj2: ∀ (M N:Nat) (g:Nat->Nat),(∀ i,i<N->g i<M)->(∀ i k,i<N->k<N->g i=g k->i=k)->N<=M
 |0,N,g,h1,_=>by
  cases N with
  |zero=>exact Nat.le_refl _
  |succ N=>exact absurd (h1 0 (by omega)) (by omega)
 |M+1,N,g,h1,h2=>by
  by_cases h: ∃ i,i<N/\g i=M
  ·obtain ⟨p,hp,hpM⟩:=h;have:=Zj2 M (N-1) (fun i=>g (if i<p then i else i+1)) (fun i hi=>by
    have h3:=h1 (if i<p then i else i+1) (by split<;>omega);have h4:g (if i<p then i else i+1)≠M:=fun e=>(by have:=h2 _ p (by split<;>omega) hp (e.trans hpM.symm);split at this<;>omega);show g (if i<p then i else i+1)<M;omega) (fun i k hi hk e=>by
    have:=h2 _ _ (by split<;>omega) (by split<;>omega) e;split at this<;>split at this<;>omega)
   omega
  ·have:=Zj2 M N g (fun i hi=>by
    have h3:=h1 i hi;have h4:g i≠M:=fun e=>h ⟨i,hi,e⟩;omega) h2
   omega
abbrev Vc:=Nat->Int
structure Lt (L:Vc->Prop):Prop where
 zero:L fun _=>0
 add: ∀ v w,L v->L w->L fun j=>v j+w j
 neg: ∀ v,L v->L fun j=> -v j

end Go.Proofs.YtgeoehnbpkediaaGreat
