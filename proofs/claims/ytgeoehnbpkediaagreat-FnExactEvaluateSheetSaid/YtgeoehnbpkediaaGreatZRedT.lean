/- A form's rows and columns changed together: the right matrix is the left one turned, so that it fails with it alone. Plain. -/
import Derived.Test.YtgeoehnbpkediaaGreatZRedP
namespace Go.Proofs.YtgeoehnbpkediaaGreat
open Go.RowKit
variable {S:SS} {j k n:Nat} {t:Int}
def Trp (n:Nat) (S:SS):Prop:= ∀ i j,i<n->j<n->cell S.2.2 n i j=cell S.2.1 n j i
theorem Zo4 {S':SS} (h:Ss n n S) (hT:Trp n S) (hk:k<n) (hj:j<n) (hkj:k≠j) (he:ZbO n k j t S=some S'):Trp n S':=by
 unfold ZbO at he
 cases h1:ZaM n n k j t S with
 |none=>rw[h1] at he;cases he
 |some S1=>
  rw[h1,Option.bind_some] at he
  obtain ⟨h2,e2⟩:=ZcB h h1
  obtain ⟨h3,e3⟩:=Zey h2 he
  intro a b ha hb
  rw[e3,e2]
  simp only
  rw[Zd7 ha hb,Zbi h.lu hk ha]
  by_cases e:b=k
  ·subst e
   rw[if_pos rfl,if_pos rfl,hT a b ha hb,hT a j ha hj]
  ·rw[if_neg e,if_neg e,hT a b ha hb]
theorem Zpo (hT:Trp n S) (hk:k<n) (hj:j<n) (h:Zac S.2.1 n k j t=true):Zbg S.2.2 n n k j t=true:=by
 refine Zdp.2 fun r hr=> ?_
 have h1:=Zce.1 h r hr
 unfold Zbo at h1
 rw[hT r j hr hj,hT r k hr hk]
 exact h1
theorem Zns (h:Ss n n S) (hT:Trp n S) (hk:k<n) (hj:j<n) (hkj:k≠j):Trp n (Zc3 n k j S):=by
 intro a b ha hb
 unfold Zc3 ZeD ZbJ
 simp only
 rw[show cell (ZeH S.2.2 n n k j) n a b=if b=k then cell S.2.2 n a j else if b=j then cell S.2.2 n a k else cell S.2.2 n a b from ZbW ha hb,ZdK h.lu hk hj hkj ha,hT a j ha hj,hT a k ha hk,hT a b ha hb]

end Go.Proofs.YtgeoehnbpkediaaGreat
