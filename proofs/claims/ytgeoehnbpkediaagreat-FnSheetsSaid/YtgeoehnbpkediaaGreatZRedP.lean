/- Reduced forms: plain. A form's rows and columns are changed together, as the program does it. -/
import Derived.Test.YtgeoehnbpkediaaGreatZDet
import Derived.Test.YtgeoehnbpkediaaGreatZSmith
import Derived.Test.YtgeoehnbpkediaaGreatZTurn
import Derived.Test.YtgeoehnbpkediaaGreatZRatI
set_option maxHeartbeats 8000000
set_option maxRecDepth 100000
namespace Go.Proofs.YtgeoehnbpkediaaGreat
open Go.RowKit
variable {S S':SS} {j k n:Nat} {t:Int}
def ZaW (g:List Int) (n:Nat):Nat->Option (List Int)
 |0=>some []
 |k+1=>(ZaW g n k).bind fun l=>(Zak (k+1) (ZbS g n (k+1) (k+1))).map fun d=>l++[d]
def Zad (m:Mat):Bool:=Zg m&&(decide (m.rows=m.cols)&&decide (m.rows<=6))
def Zbu (m:Mat):Bool:=Zad m&&Zb3 (Zbv m) m
def Zcm (m:Mat):Bool:=Zbu m&&(match ZaW m.cells m.rows.toNat m.rows.toNat with
 |some l=>l.all fun d=>decide (0<d)
 |none=>false)
def Zde (row:List Rt):Nat->Option (Option (Nat×Int))
 |0=>some none
 |j+1=>if isR (rAt row j) then (if Zav (rAt row j)=0 then Zde row j else some (some (j,Zav (rAt row j)))) else none
def Zb5 (n k j:Nat) (t:Int) (S:SS):Option SS:=(ZaP n n k j t S).bind (Zbp n n k j t)
def Zdn (n k j:Nat) (S:SS):SS:=Zfa n n k j (ZbW n n k j S)
def muAt (o:List (List Rt)×List Rt) (i j:Nat):Rt:=rAt (o.1.getD i []) j
def ZcH (o:List (List Rt)×List Rt) (k:Nat):Rt:=Zz (Za4 (3,4) (ZaJ (Zz (muAt o k (k-1)) (muAt o k (k-1))))) (rAt o.2 (k-1))
def Zbd (n k:Nat) (o:List (List Rt)×List Rt) (S:SS):Option (SS×Nat):=
 (Zde (o.1.getD k []) k).bind fun x=>match x with
  |some jt=>(Zb5 n k jt.1 (-jt.2) S).map fun S'=>(S',k)
  |none=>if ZZ (rAt o.2 k) (ZcH o k)=2 then none else if ZZ (rAt o.2 k) (ZcH o k)= -1 then some (Zdn n k (k-1) S,max 1 (k-1)) else some (S,k+1)
def ZbU (n:Nat):Nat->Nat->SS->Option SS
 |0,k,S=>if k<n then none else some S
 |f+1,k,S=>if k<n then (Zax S.1 n n).bind fun o=>(Zbd n k o S).bind fun r=>ZbU n f r.2 r.1 else some S
def Zby (g:Mat):Option SS:=if Zcm g then ZbU g.rows.toNat 200 1 (g.cells,idL g.rows.toNat,idL g.rows.toNat) else none
def ZaL (b:Mat):Bool:=Zg b&&Zag b (Zbv b)
def ZaD (b:Mat):Mat:=if Zg b then Zaw b (Zbv b) else {rows:=0,cols:=0,cells:=[]}
def Zg6 (b:Mat):Option Mat:=if ZaL b then (Zby (ZaD b)).map fun S=>{rows:=b.rows,cols:=b.rows,cells:=S.2.1} else none
def Zbz (b:Mat):Bool:=match Zg6 b with
 |some u=>Zag u b
 |none=>false
def Zbf (b:Mat):Mat:=match Zg6 b with
 |some u=>if Zag u b then Zaw u b else {rows:=0,cols:=0,cells:=[]}
 |none=>{rows:=0,cols:=0,cells:=[]}
theorem Zju (a b:Rt):ZZ a b=2\/ZZ a b= -1\/ZZ a b=0\/ZZ a b=1:=by
 unfold ZZ
 repeat' split
 all_goals simp
theorem ZkK (h:Ss n n S) (he:Zb5 n k j t S=some S'):Ss n n S':=by
 unfold Zb5 at he;cases h1:ZaP n n k j t S with
 |none=>rw[h1] at he;cases he
 |some S1=>rw[h1,Option.bind_some] at he;exact (Ze7 (ZcZ h h1).1 he).1
theorem Zke (h:Ss n n S):Ss n n (Zdn n k j S):=ZfM (Zee h)
theorem ZlQ {o:List (List Rt)×List Rt} {r:SS×Nat} (h:Ss n n S) (hk:1<=k) (he:Zbd n k o S=some r):Ss n n r.1/\1<=r.2/\r.2<=k+1:=by
 unfold Zbd at he;cases hf:Zde (o.1.getD k []) k with
 |none=>rw[hf] at he;cases he
 |some x=>
  rw[hf,Option.bind_some] at he;cases x with
  |some jt=>
   simp only at he;cases hb:Zb5 n k jt.1 (-jt.2) S with
   |none=>rw[hb] at he;cases he
   |some S'=>rw[hb,Option.map_some] at he;rw[←Option.some.inj he];exact ⟨ZkK h hb,hk,by show k<=k+1;omega⟩
  |none=>
   simp only at he;split at he
   ·cases he
   ·split at he
    ·rw[←Option.some.inj he];exact ⟨Zke h,by show 1<=max 1 (k-1);omega,by show max 1 (k-1)<=k+1;omega⟩
    ·rw[←Option.some.inj he];exact ⟨h,by show 1<=k+1;omega,Nat.le_refl _⟩
def Trp (n:Nat) (S:SS):Prop:= ∀ i j,i<n->j<n->cell S.2.2 n i j=cell S.2.1 n j i
theorem ZpX (h:Ss n n S) (hT:Trp n S) (hk:k<n) (hj:j<n) (hkj:k≠j) (he:Zb5 n k j t S=some S'):Trp n S':=by
 unfold Zb5 at he;cases h1:ZaP n n k j t S with
 |none=>rw[h1] at he;cases he
 |some S1=>
  rw[h1,Option.bind_some] at he;obtain ⟨h2,e2⟩:=ZcZ h h1;obtain ⟨h3,e3⟩:=Ze7 h2 he;intro a b ha hb;rw[e3,e2];simp only;rw[Zey ha hb,Zbt h.lu hk ha];by_cases e:b=k
  ·subst e;rw[if_pos rfl,if_pos rfl,hT a b ha hb,hT a j ha hj]
  ·rw[if_neg e,if_neg e,hT a b ha hb]
theorem Zqj (hT:Trp n S) (hk:k<n) (hj:j<n) (h:Zah S.2.1 n k j t=true):Zbr S.2.2 n n k j t=true:=by
 refine ZdM.2 fun r hr=> ?_;have h1:=Zcw.1 h r hr;unfold Zbw at h1;rw[hT r j hr hj,hT r k hr hk];exact h1
theorem Zog (h:Ss n n S) (hT:Trp n S) (hk:k<n) (hj:j<n) (hkj:k≠j):Trp n (Zdn n k j S):=by
 intro a b ha hb;unfold Zdn Zfa ZbW;simp only;rw[show cell (Zfb S.2.2 n n k j) n a b=if b=k then cell S.2.2 n a j else if b=j then cell S.2.2 n a k else cell S.2.2 n a b from Zcc ha hb,ZdU h.lu hk hj hkj ha,hT a j ha hj,hT a k ha hk,hT a b ha hb]

end Go.Proofs.YtgeoehnbpkediaaGreat



namespace Go.Proofs.YtgeoehnbpkediaaGreat
open Go.RowKit
open Lib (hid)
open Go.Value renaming int->Yv
open Go.IntKind renaming i64->Yi
theorem ZnV (n d:Int) (w:World) (hn: -4000000000<=n/\n<=4000000000) (hd:0<d/\d<=4000000000):Calls Tryz.prog 173 #[Yv Yi n,Yv Yi d] w fun e w'=>e= .returned (Yv Yi (n/d))/\Grow w w':=by
 have h2:=Zb7 n d;have hd0: ¬ d=0:=by omega
 by_cases h:n.tmod d<0
 ·have h1:=(Zh5 (by omega) h).1;rw[Int.sign_eq_one_of_pos hd.1] at h1;have H:=hid h1;clear h1;have w1':wrap64 (n.tdiv d)=n.tdiv d:=ZN (by omega);have w2':wrap64 (n.tdiv d-1)=n.tdiv d-1:=ZN (by omega);go_enter Tryz.func173,Tryz.ntmps173;go_wp2;go_ret;exact ⟨ZU (by rw[H.out];omega),Grow.refl _⟩
 ·have h1:=(ZhV (n:=n) (d:=d) (by omega) (by omega)).1;have H:=hid h1;clear h1;have w1':wrap64 (n.tdiv d)=n.tdiv d:=ZN (by omega);go_enter Tryz.func173,Tryz.ntmps173;go_wp2;go_ret;exact ⟨ZU H.out,Grow.refl _⟩
theorem Zkw (a:Rt) (w:World):Calls Tryz.prog 157 #[RV a] w fun e w'=>e= .returned (Yv Yi (Zav a))/\Grow w w':=by
 obtain ⟨x,y⟩:=a;have hG1:=(Grow.refl w).alloc #[Yv Yi x,Yv Yi y] 166;have bA:=Blk.new w #[Yv Yi x,Yv Yi y] 166;obtain ⟨⟨a0,a1⟩, -⟩:=bA.two;have hlA:=bA.lt;go_enter Tryz.func157,Tryz.ntmps157;go_wp2_with fail;clear a0 a1 hlA;refine (Za9 (x,y) _).mono ?_;rintro e w2 ⟨rfl,hG2⟩;replace bA:=bA.grow hG2;replace hG1:=hG1.trans hG2;obtain ⟨⟨a0,a1⟩, -⟩:=bA.two;have hlA:=bA.lt;cases ha:isR (x,y) with
 |false=>have Hr:=hid (show Zav (x,y)=0 by unfold Zav;rw[ha];rfl);clear ha;go_wp2;go_ret;exact ⟨ZU Hr.out.symm,hG1⟩
 |true=>have hxa:=ZcN.1 ha;have Hr:=hid (show Zav (x,y)=(2*x+y)/(2*y) by unfold Zav;rw[ha];rfl);clear ha;obtain ⟨⟨p1,p2⟩,⟨p3,p4⟩, -⟩:=hxa;simp only at p1 p2 p3 p4;have w1':wrap64 (2*x)=2*x:=ZN (by omega);have w2':wrap64 (2*y)=2*y:=ZN (by omega);have w3':wrap64 (2*x+y)=2*x+y:=ZN (by omega);go_wp2_with fail;refine (ZnV (2*x+y) (2*y) _ (by omega) (by omega)).mono ?_;rintro e w3 ⟨rfl,hG3⟩;go_wp2;go_ret;exact ⟨ZU Hr.out.symm,hG1.trans hG3⟩
theorem Zof (a b:Rt) (w:World):Calls Tryz.prog 184 #[RV a,RV b] w fun e w'=>e= .returned (Yv Yi (ZZ a b))/\Grow w w':=by
 obtain ⟨x,y⟩:=a;obtain ⟨u,v⟩:=b;have hG1:=((Grow.refl w).alloc #[Yv Yi x,Yv Yi y] 166).alloc #[Yv Yi u,Yv Yi v] 166;obtain ⟨w1,hw1, -,bA,bB, -⟩:=al2 w #[Yv Yi x,Yv Yi y] 166 #[Yv Yi u,Yv Yi v] 166;rw[←hw1] at hG1;obtain ⟨⟨a0,a1⟩, -⟩:=bA.two;obtain ⟨⟨b0,b1⟩, -⟩:=bB.two;have hlA:=bA.lt;have hlB:=bB.lt;rw[hw1] at a0 a1 b0 b1 hlA hlB;go_enter Tryz.func184,Tryz.ntmps184;go_wp2_with fail;rw[←hw1];clear hw1 a0 a1 b0 b1 hlA hlB;refine (Za9 (x,y) _).mono ?_;rintro e w2 ⟨rfl,hG2⟩;replace bA:=bA.grow hG2;replace bB:=bB.grow hG2;replace hG1:=hG1.trans hG2;obtain ⟨⟨a0,a1⟩, -⟩:=bA.two;obtain ⟨⟨b0,b1⟩, -⟩:=bB.two;have hlA:=bA.lt;have hlB:=bB.lt;cases ha:isR (x,y) with
 |false=>have Hr:=hid (show ZZ (x,y) (u,v)=2 by unfold ZZ;rw[ha];rfl);clear ha;go_wp2;go_ret;exact ⟨ZU Hr.out.symm,hG1⟩
 |true=>
  have hxa:=ZcN.1 ha;have Ha:=hid ha;clear ha;go_wp2_with fail;refine (Za9 (u,v) _).mono ?_;rintro e w3 ⟨rfl,hG3⟩;replace bA:=bA.grow hG3;replace bB:=bB.grow hG3;replace hG1:=hG1.trans hG3;clear a0 a1 b0 b1 hlA hlB;obtain ⟨⟨a0,a1⟩, -⟩:=bA.two;obtain ⟨⟨b0,b1⟩, -⟩:=bB.two;have hlA:=bA.lt;have hlB:=bB.lt;cases hb:isR (u,v) with
  |false=>have Hr:=hid (show ZZ (x,y) (u,v)=2 by unfold ZZ;rw[Ha.out,hb];rfl);clear hb;go_wp2;go_ret;exact ⟨ZU Hr.out.symm,hG1⟩
  |true=>
   have hxb:=ZcN.1 hb;obtain ⟨⟨p1,p2⟩,⟨p3,p4⟩, -⟩:=hxa;obtain ⟨⟨q1,q2⟩,⟨q3,q4⟩, -⟩:=hxb;simp only at p1 p2 p3 p4 q1 q2 q3 q4;have e1:=Zbm (p:=400000000) (q:=400000000) ⟨p3,p4⟩ (b:=v) ⟨by omega,q2⟩;have e2:=Zbm (p:=400000000) (q:=400000000) ⟨q3,q4⟩ (b:=y) ⟨by omega,p2⟩;obtain ⟨A,hA⟩: ∃ A,x*v=A:=⟨_,rfl⟩;obtain ⟨B,hB⟩: ∃ B,u*y=B:=⟨_,rfl⟩;have Hr:=hid (show ZZ (x,y) (u,v)=if A<B then -1 else if B<A then 1 else 0 by unfold ZZ;rw[Ha.out,hb, ←hA, ←hB];rfl);rw[hA] at e1;rw[hB] at e2;have w1':wrap64 (x*v)=A:=(by rw[hA];exact ZN (by omega));have w2':wrap64 (u*y)=B:=(by rw[hB];exact ZN (by omega));clear hA hB e1 e2 hb;by_cases h1:A<B
   ·rw[if_pos h1] at Hr;go_wp2;go_ret;exact ⟨ZU Hr.out.symm,hG1⟩
   ·rw[if_neg h1] at Hr;by_cases h2:B<A
    ·rw[if_pos h2] at Hr;go_wp2;go_ret;exact ⟨ZU Hr.out.symm,hG1⟩
    ·rw[if_neg h2] at Hr;go_wp2;go_ret;exact ⟨ZU Hr.out.symm,hG1⟩
def ZiA (c:Int):Bool:=decide (0<=c)&& !decide (c=2)
theorem Zpw (m l s:Rt) (w:World):Calls Tryz.prog 159 #[RV m,RV l,RV s] w fun e w'=>e= .returned (.tuple #[.bool (ZiA (ZZ s (Zz (Za4 (3,4) (ZaJ (Zz m m))) l))), .bool (!decide (ZZ s (Zz (Za4 (3,4) (ZaJ (Zz m m))) l)=2))])/\Grow w w':=by
 obtain ⟨m1,m2⟩:=m;obtain ⟨l1,l2⟩:=l;obtain ⟨s1,s2⟩:=s;obtain ⟨w1,hw1,hG1,bM,bL,bS, -⟩:=al3 w #[Yv Yi m1,Yv Yi m2] 166 #[Yv Yi l1,Yv Yi l2] 166 #[Yv Yi s1,Yv Yi s2] 166;obtain ⟨⟨a0,a1⟩, -⟩:=bM.two;have hlA:=bM.lt;rw[hw1] at a0 a1 hlA;have Hw1:=hid hw1;clear hw1;go_enter Tryz.func159,Tryz.ntmps159;go_wp2_with fail;rw[←Hw1.out];refine (Zga (m1,m2) (m1,m2) _).mono ?_;rintro e w2 ⟨rfl,hG2⟩;go_wp2_with fail;refine (Zk4 (Zz (m1,m2) (m1,m2)) _).mono ?_;rintro e w3 ⟨rfl,hG3⟩;go_wp2_with fail;refine (Zkp (3,4) (ZaJ (Zz (m1,m2) (m1,m2))) _).mono ?_;rintro e w4 ⟨rfl,hG4⟩;have hG14:=(hG2.trans hG3).trans hG4;obtain ⟨X,hX⟩: ∃ X,X=Za4 (3,4) (ZaJ (Zz (m1,m2) (m1,m2))):=⟨_,rfl⟩;rw[←hX];have HX:=hid hX;clear hX;obtain ⟨x1,x2⟩:=X;obtain ⟨w5,hw5,hG5,bX, -⟩:=al1 w4 #[Yv Yi x1,Yv Yi x2] 166;have bL5:=(bL.grow hG14).grow hG5;have bS5:=(bS.grow hG14).grow hG5;have hG:=(hG1.trans hG14).trans hG5;have Hw5:=hid hw5;clear hw5 a0 a1 hlA;go_wp2;rw[show (RV (x1,x2))= .agg #[Yv Yi x1,Yv Yi x2] from rfl];go_wp2;rw[←Hw5.out];refine Zd (S:=Grow w5) [([0,1,2],some 3),([],some 4),([5],none)] Zm (by kernel_rfl) (fun _ _ _ _ _ h=>h) (Grow.refl _).drew ?_;show wpQuiet _ _ _ _ [_,_,_] _;repeat (first |(go_big_quiet_want;(first |refine ZQ ZG rfl rfl (fun w' hG=>bX.grow hG) ?_|refine ZQ ZG rfl rfl (fun w' hG=>bL5.grow hG) ?_|refine ZQ ZG rfl rfl (fun w' hG=>bS5.grow hG) ?_);go_big_quiet_on;simp only[putP])|go_big_quiet_step (exact fun _=>rfl))
 refine wpQuiet_nil ?_;refine Zh rfl (fun K hK=> ?_);go_wp2_with fail;refine (Zga (x1,x2) (l1,l2) _).mono ?_;rintro e w6 ⟨rfl,hG6⟩;have hGa:=(Grow.refl w5).drew.trans hG6;go_wp2_with fail;refine hK _ _ (hGa) ?_;clear hK K;refine wpQuiet_nil ?_;refine Zh rfl (fun K hK=> ?_);go_wp2_with fail;refine (Zof (s1,s2) (Zz (x1,x2) (l1,l2)) _).mono ?_;rintro e w7 ⟨rfl,hG7⟩;have hGb:=hGa.trans hG7;go_wp2_with fail;refine hK _ _ (hGb) ?_;clear hK K;show wpQuiet _ _ _ _ [_] _;try (conv=>arg 6;simp only[putP])
 repeat (first |(go_big_quiet_want;(first |refine ZQ ZG rfl rfl (fun w' hG=>bX.grow hG) ?_|refine ZQ ZG rfl rfl (fun w' hG=>bL5.grow hG) ?_|refine ZQ ZG rfl rfl (fun w' hG=>bS5.grow hG) ?_);go_big_quiet_on;simp only[putP])|go_big_quiet_step (exact fun _=>rfl))
 refine wpQuiet_nil ?_;refine Zi ?_;have hc:=Zju (s1,s2) (Zz (x1,x2) (l1,l2));obtain ⟨c,hc0⟩: ∃ c,c=ZZ (s1,s2) (Zz (x1,x2) (l1,l2)):=⟨_,rfl⟩;rw[←hc0] at hc ⊢;have HC:=hid (show ZZ (s1,s2) (Zz (Za4 (3,4) (ZaJ (Zz (m1,m2) (m1,m2)))) (l1,l2))=c by rw[←HX.out,hc0]);clear hc0;rcases hc with rfl|rfl|rfl|rfl;all_goals (go_wp2;go_ret2;exact ⟨by rw[HC.out];rfl,hG.trans hGb⟩)

end Go.Proofs.YtgeoehnbpkediaaGreat
