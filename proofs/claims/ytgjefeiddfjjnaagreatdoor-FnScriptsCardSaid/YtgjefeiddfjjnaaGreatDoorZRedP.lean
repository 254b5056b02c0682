/- Reduced forms: plain. A form's rows and columns are changed together, as the program does it. -/
import Derived.Test.YtgjefeiddfjjnaaGreatDoorZSmith
import Derived.Test.YtgjefeiddfjjnaaGreatDoorZTurn
set_option maxHeartbeats 8000000
set_option maxRecDepth 100000
namespace Go.Proofs.YtgjefeiddfjjnaaGreatDoor
open Go.RowKit
open Option renaming bind_some->Kb
open Option.some renaming inj->JJ
variable {S S':SS} {j k n:Nat} {t:Int}
def ZaL (g:List Int) (n:Nat):Nat->Option (List Int)
 |0=>some []
 |k+1=>(ZaL g n k).bind fun l=>(Zad (k+1) (ZbG g n (k+1) (k+1))).map fun d=>l++[d]
def ZZ (m:Mat):Bool:=Zd m&&(decide (m.rows=m.cols)&&decide (m.rows<=6))
def Za7 (m:Mat):Bool:=ZZ m&&Zc2 (Zbz m) m
def ZbL (m:Mat):Bool:=Za7 m&&(match ZaL m.cells m.rows.toNat m.rows.toNat with
 |some l=>l.all fun d=>decide (0<d)
 |none=>false)
def ZdR (row:List Rt):Nat->Option (Option (Nat×Int))
 |0=>some none
 |j+1=>if isR (rAt row j) then (if Zap (rAt row j)=0 then ZdR row j else some (some (j,Zap (rAt row j)))) else none
def Zcb (n k j:Nat) (t:Int) (S:SS):Option SS:=(ZaP n n k j t S).bind (Zbn n n k j t)
def ZdZ (n k j:Nat) (S:SS):SS:=Zgr n n k j (ZbZ n n k j S)
def muAt (o:List (List Rt)×List Rt) (i j:Nat):Rt:=rAt (o.1.getD i []) j
def Zc1 (o:List (List Rt)×List Rt) (k:Nat):Rt:=ZA (Za1 (3,4) (ZaM (ZA (muAt o k (k-1)) (muAt o k (k-1))))) (rAt o.2 (k-1))
def Zba (n k:Nat) (o:List (List Rt)×List Rt) (S:SS):Option (SS×Nat):=
 (ZdR (o.1.getD k []) k).bind fun x=>match x with
  |some jt=>(Zcb n k jt.1 (-jt.2) S).map fun S'=>(S',k)
  |none=>if ZV (rAt o.2 k) (Zc1 o k)=2 then none else if ZV (rAt o.2 k) (Zc1 o k)= -1 then some (ZdZ n k (k-1) S,max 1 (k-1)) else some (S,k+1)
def Zb2 (n:Nat):Nat->Nat->SS->Option SS
 |0,k,S=>if k<n then none else some S
 |f+1,k,S=>if k<n then (Zas S.1 n n).bind fun o=>(Zba n k o S).bind fun r=>Zb2 n f r.2 r.1 else some S
def ZbC (g:Mat):Option SS:=if ZbL g then Zb2 g.rows.toNat 200 1 (g.cells,idL g.rows.toNat,idL g.rows.toNat) else none
def ZaO (b:Mat):Bool:=Zd b&&ZC b (Zbz b)
def ZaD (b:Mat):Mat:=if Zd b then Zq b (Zbz b) else {rows:=0,cols:=0,cells:=[]}
def ZiZ (b:Mat):Option Mat:=if ZaO b then (ZbC (ZaD b)).map fun S=>{rows:=b.rows,cols:=b.rows,cells:=S.2.1} else none
def ZbH (b:Mat):Bool:=match ZiZ b with
 |some u=>ZC u b
 |none=>false
def Zbe (b:Mat):Mat:=match ZiZ b with
 |some u=>if ZC u b then Zq u b else {rows:=0,cols:=0,cells:=[]}
 |none=>{rows:=0,cols:=0,cells:=[]}
theorem Zmy (a b:Rt):ZV a b=2\/ZV a b= -1\/ZV a b=0\/ZV a b=1:=by
 unfold ZV
 repeat' split
 all_goals simp
theorem ZnQ (h:Ss n n S) (he:Zcb n k j t S=some S'):Ss n n S':=by
 unfold Zcb at he;cases a:ZaP n n k j t S with
 |none=>rw[a] at he;cases he
 |some b=>rw[a,Kb] at he;exact (Zgi (Zdv h a).1 he).1
theorem Zod (h:Ss n n S):Ss n n (ZdZ n k j S):=Zhq (Ze8 h)
theorem Zp3 {o:List (List Rt)×List Rt} {r:SS×Nat} (h:Ss n n S) (hk:1<=k) (he:Zba n k o S=some r):Ss n n r.1/\1<=r.2/\r.2<=k+1:=by
 unfold Zba at he;cases b:ZdR (o.1.getD k []) k with
 |none=>rw[b] at he;cases he
 |some x=>
  rw[b,Kb] at he;cases x with
  |some c=>
   simp only at he;cases a:Zcb n k c.1 (-c.2) S with
   |none=>rw[a] at he;cases he
   |some d=>rw[a,Option.map_some] at he;rw[←JJ he];exact ⟨ZnQ h a,hk,by show k<=k+1;omega⟩
  |none=>
   simp only at he;split at he
   ·cases he
   ·split at he
    ·rw[←JJ he];exact ⟨Zod h,by show 1<=max 1 (k-1);omega,by show max 1 (k-1)<=k+1;omega⟩
    ·rw[←JJ he];exact ⟨h,by show 1<=k+1;omega,Nat.le_refl _⟩
def Trp (n:Nat) (S:SS):Prop:= ∀ i j,i<n->j<n->cell S.2.2 n i j=cell S.2.1 n j i
theorem Zvn (h:Ss n n S) (hT:Trp n S) (hk:k<n) (hj:j<n) (hkj:k≠j) (he:Zcb n k j t S=some S'):Trp n S':=by
 unfold Zcb at he;cases d:ZaP n n k j t S with
 |none=>rw[d] at he;cases he
 |some m=>
  rw[d,Kb] at he;obtain ⟨g,i⟩:=Zdv h d;obtain ⟨o,l⟩:=Zgi g he;intro a b c f;rw[l,i];simp only;rw[ZfE c f,Zbt h.lu hk c];by_cases e:b=k
  ·subst e;rw[if_pos rfl,if_pos rfl,hT a b c f,hT a j c hj]
  ·rw[if_neg e,if_neg e,hT a b c f]
theorem Zv1 (hT:Trp n S) (hk:k<n) (hj:j<n) (h:Zae S.2.1 n k j t=true):Zbv S.2.2 n n k j t=true:=by
 refine ZeE.2 fun r a=> ?_;have b:=ZcP.1 h r a;unfold ZbD at b;rw[hT r j a hj,hT r k a hk];exact b
theorem Ztj (h:Ss n n S) (hT:Trp n S) (hk:k<n) (hj:j<n) (hkj:k≠j):Trp n (ZdZ n k j S):=by
 intro a b c d;unfold ZdZ Zgr ZbZ;simp only;rw[show cell (Zf8 S.2.2 n n k j) n a b=if b=k then cell S.2.2 n a j else if b=j then cell S.2.2 n a k else cell S.2.2 n a b from Zcq c d,Zej h.lu hk hj hkj c,hT a j c hj,hT a k c hk,hT a b c d]

end Go.Proofs.YtgjefeiddfjjnaaGreatDoor



namespace Go.Proofs.YtgjefeiddfjjnaaGreatDoor
open Go.RowKit
open Lib (hid)
open Go.Value renaming int->Yv
open Go.IntKind renaming i64->Yi
open Grow renaming refl->JH
open Go.Proofs.Tryz renaming func255->Ns,ntmps255->Nt,prog->JG
open Go.Proofs.Tryz
variable {O i k mc rc sc:Nat} {ma ra sa:Option Addr} {mu:List (List Rt)} {r:Rt} {s:List Rt} {vs:List Value} {w w':World}
structure AcR (O:Nat) (w:World) (ma:Option Addr) (i mc:Nat) (vs:List Value) (mu:List (List Rt)) (sa:Option Addr) (sc:Nat) (s:List Rt) (ra:Option Addr) (rc:Nat) (row:List Rt):Prop where
 oM:Own w 202 1 ma i mc vs
 oS:Own w 207 2 sa s.length sc (rts s)
 oR:Own w 207 2 ra row.length rc (rts row)
 rr:RdRows w (fun q=>O<=q/\blk sa≠some q/\blk ma≠some q/\blk ra≠some q) vs mu
 lM: ∀ q,blk ma=some q->O<=q
 lS: ∀ q,blk sa=some q->O<=q
 lR: ∀ q,blk ra=some q->O<=q
 nMS: ∀ q,blk ma=some q->blk sa≠some q
 nMR: ∀ q,blk ma=some q->blk ra≠some q
 nSR: ∀ q,blk sa=some q->blk ra≠some q
theorem AcR.keep {row:List Rt} (h:AcR O w ma i mc vs mu sa sc s ra rc row) (k:Keep (fun q=>q<w.heap.size) w w'):AcR O w' ma i mc vs mu sa sc s ra rc row:=
 ⟨h.oM.keep k fun _ _ h=>h,h.oS.keep k fun _ _ h=>h,h.oR.keep k fun _ _ h=>h,h.rr.keep k fun _ a _=>a,h.lM,h.lS,h.lR,h.nMS,h.nMR,h.nSR⟩
theorem AcR.grow {row:List Rt} (h:AcR O w ma i mc vs mu sa sc s ra rc row) (k:Grow w w'):AcR O w' ma i mc vs mu sa sc s ra rc row:=h.keep (k.any.mono fun _ _ _=>trivial)
theorem AcR.start (w:World):AcR w.heap.size ((w.alloc (.cells #[] 202)).alloc (.cells #[] 207)) (some ⟨w.heap.size,0,none⟩) 0 0 [] [] (some ⟨w.heap.size+1,0,none⟩) 0 [] none 0 []:=
 ⟨(Own.freshAt (cs:= #[]) rfl Γ rfl).grow ((JH _).alloc _ _),Own.freshAt (cs:= #[]) Θ DQ rfl,Own.nilw,RdRows.nilw,fun q hq=>ψ,fun q hq=>ψ,fun q hq=>Fw,fun q hq e=>by simp at hq e;omega,fun q _ e=>ET,fun q _ e=>ET⟩
theorem AcR.fresh {g:Nat} (h:AcR O w ma i mc vs mu sa sc s none 0 []) (hg:g=w.heap.size) (hO:O<=w.heap.size):AcR O (w.alloc (.cells #[] 207)) ma i mc vs mu sa sc s (some ⟨g,0,none⟩) 0 []:=by
 have a:Grow w (w.alloc (.cells #[] 207)):=(JH _).alloc _ _;subst hg;refine ⟨h.oM.grow a,h.oS.grow a,Own.freshAt (cs:= #[]) rfl DQ rfl,(h.rr.weak (T:=fun q=>O<=q/\blk sa≠some q/\blk ma≠some q/\blk (some (⟨w.heap.size,0,none⟩:Addr))≠some q) fun b d c=>⟨c.1,c.2.1,c.2.2.1,fun e=>Bw⟩).keep a fun _ _ _=>trivial,h.lM,h.lS,fun q hq=>ψ,h.nMS,fun q hq e=> ?_,fun q hq e=> ?_⟩
 ·have:=h.oM.lt hq;simp at e;omega
 ·have:=h.oS.lt hq;simp at e;omega
theorem AcR.row {rc':Nat} {ra':Option Addr} {row:List Rt} (h:AcR O w ma i mc vs mu sa sc s ra rc row) (hO:O<=w.heap.size) (hA:Apped w w' 207 2 ra ra' (row.length+1) rc' (rts row++[Yv Yi r.1,Yv Yi r.2])):AcR O w' ma i mc vs mu sa sc s ra' rc' (row++[r]):=by
 have k:=hA.keep;have a: ∀ q,q<w.heap.size->blk ra≠some q->blk ra'≠some q:=fun q d hne=>by
  exact Gv
 refine ⟨h.oM.keep k fun g f _=>h.nMR g f,h.oS.keep k fun g f _=>h.nSR g f, ?_,(h.rr.weak (T:=fun q=>(O<=q/\blk sa≠some q/\blk ma≠some q/\blk ra'≠some q)/\blk ra≠some q) fun b j c=>⟨⟨c.1,c.2.1,c.2.2.1,a b j c.2.2.2⟩,c.2.2.2⟩).keep k (fun _ _ c=>c.2) |>.weak fun _ _ c=>c.1,h.lM,h.lS,hA.lo hO h.lR,h.nMS,fun q d=>a q (h.oM.lt d) (h.nMR q d),fun q d=>a q (h.oS.lt d) (h.nSR q d)⟩;have:=hA.own;rw[Zg9,List.length_append];exact this
theorem AcR.sq {sc':Nat} {sa':Option Addr} {row:List Rt} (h:AcR O w ma i mc vs mu sa sc s ra rc row) (hO:O<=w.heap.size) (hA:Apped w w' 207 2 sa sa' (s.length+1) sc' (rts s++[Yv Yi r.1,Yv Yi r.2])):AcR O w' ma i mc vs mu sa' sc' (s++[r]) ra rc row:=by
 have k:=hA.keep;have a: ∀ q,q<w.heap.size->blk sa≠some q->blk sa'≠some q:=fun q d hne=>by
  exact Gv
 refine ⟨h.oM.keep k fun g f _=>h.nMS g f, ?_,h.oR.keep k fun g f _ e=>h.nSR g e f,(h.rr.weak (T:=fun q=>(O<=q/\blk sa'≠some q/\blk ma≠some q/\blk ra≠some q)/\blk sa≠some q) fun b j c=>⟨⟨c.1,a b j c.2.1,c.2.2⟩,c.2.1⟩).keep k (fun _ _ c=>c.2) |>.weak fun _ _ c=>c.1,h.lM,hA.lo hO h.lS,h.lR,fun q d=>a q (h.oM.lt d) (h.nMS q d),h.nMR,fun q d e=> ?_⟩
 ·have l:=hA.own;rw[Zg9,List.length_append];exact l
 ·exact a q (h.oR.lt e) (fun e2=>h.nSR q e2 e) d
theorem AcR.put {mc':Nat} {ma':Option Addr} {row:List Rt} (hv:vs.length=mu.length) (hO:O<=w.heap.size) (h:AcR O w ma i mc vs mu sa sc s ra rc row) (hA:Apped w w' 202 1 ma ma' (i+1) mc' (vs++[.slice ra row.length rc])):AcR O w' ma' (i+1) mc' (vs++[.slice ra row.length rc]) (mu++[row]) sa sc s none 0 []:=by
 have k:=hA.keep;have c: ∀ q,q<w.heap.size->blk ma≠some q->blk ma'≠some q:=fun q hq hne=>by
  exact Gv
 have d:RdT w (fun q=>O<=q/\blk sa≠some q/\blk ma≠some q) ra row.length rc row:=⟨h.oR.row fun q hq=>⟨h.lR q hq,fun e=>h.nSR q e hq,fun e=>h.nMR q e hq⟩,rfl⟩;have f:=((h.rr.weak (T:=fun q=>O<=q/\blk sa≠some q/\blk ma≠some q) fun b _ a=>⟨a.1,a.2.1,a.2.2.1⟩).snoc hv d).weak (T:=fun q=>(O<=q/\blk sa≠some q/\blk ma'≠some q/\blk none≠some q)/\blk ma≠some q) fun b j a=>⟨⟨a.1,a.2.1,c b j a.2.2,Θ⟩,a.2.2⟩;exact ⟨hA.own,h.oS.keep k fun g l _ e=>h.nMS g e l,Own.nilw,(f.keep k fun _ _ a=>a.2).weak fun _ _ a=>a.1,hA.lo hO h.lM,h.lS,fun q hq=>Fw,fun q hq e=>c q (h.oS.lt e) (fun e2=>h.nMS q e2 e) hq,fun q _ e=>ET,fun q _ e=>ET⟩
theorem AcR.rowC {row:List Rt} (h:AcR O w ma i mc vs mu sa sc s ra rc row) (hk:k<row.length):
  ∃ b off,ra=some ⟨b,off,none⟩/\b<w.heap.size/\w.cell? ⟨b,off+k*2,none⟩=some (Yv Yi (rAt row k).1)/\w.cell? ⟨b,off+k*2+1,none⟩=some (Yv Yi (rAt row k).2):=by
 exact H8
theorem AcR.sqC {row:List Rt} (h:AcR O w ma i mc vs mu sa sc s ra rc row) (hk:k<s.length):
  ∃ b off,sa=some ⟨b,off,none⟩/\b<w.heap.size/\w.cell? ⟨b,off+k*2,none⟩=some (Yv Yi (rAt s k).1)/\w.cell? ⟨b,off+k*2+1,none⟩=some (Yv Yi (rAt s k).2):=by
 exact Ib
theorem AcR.muC {row:List Rt} (h:AcR O w ma i mc vs mu sa sc s ra rc row) (hv:mu.length=i) {j:Nat} (hj:j<i) (hk:k<(mu.getD j []).length):
  ∃ b off b1 o1 c1,ma=some ⟨b,off,none⟩/\b<w.heap.size/\w.cell? ⟨b,off+j,none⟩=some (.slice (some ⟨b1,o1,none⟩) (mu.getD j []).length c1)/\b1<w.heap.size/\w.cell? ⟨b1,o1+k*2,none⟩=some (Yv Yi (rAt (mu.getD j []) k).1)/\w.cell? ⟨b1,o1+k*2+1,none⟩=some (Yv Yi (rAt (mu.getD j []) k).2):=by
 exact G5
theorem Zwe {S:Nat->Prop} (a:Option Addr) (n cp N:Nat) (g:List Int) (w:World) (h:RdI w S a n cp g) (hl:g.length=N*N) (hN:N<=24) (hm:NumL g):
  Calls JG 207 #[.agg #[Yv Yi N,Yv Yi N, .slice a n cp]] w fun e w'=> ∃ xa xn xc ya yn yc,e= .returned (.tuple #[.slice xa xn xc, .slice ya yn yc, .bool (Zas g N N).isSome])/\(∀ o,Zas g N N=some o->RdTT w' (fun q=>w.heap.size<=q) xa xn xc o.1/\RdT w' (fun q=>w.heap.size<=q) ya yn yc o.2)/\Grow w w':=by
 have bf:=h.len;have b6:N*N<=24*24:=Nat.mul_le_mul hN hN;obtain ⟨w0,ap,aq,ar,ab⟩:=al1 w #[Yv Yi (N:Int),Yv Yi (N:Int), .slice a n cp] 37;obtain ⟨L,O,E, -, -, -⟩:=al2 w0 #[] 202 #[] 207;have hG1:Grow w L:=aq.trans E;have bM:=ar.grow E;have av:AcR (w.heap.size+1) L (some ⟨w.heap.size+1,0,none⟩) 0 0 [] [] (some ⟨w.heap.size+1+1,0,none⟩) 0 [] none 0 []:=by have:=AcR.start w0;rw[ab] at this;rw[O];exact this
 have bg:RdI L (fun q=>q<w.heap.size) a n cp g:=(h.weak (T:=fun q=>q<w.heap.size) (fun _ hb _=>hb)).grow hG1;have aw:L.heap.size=w.heap.size+1+1+1:=by rw[O];simp[ab]
 have bh:=hid (show L=((w.alloc (.cells #[Yv Yi (N:Int),Yv Yi (N:Int), .slice a n cp] 37)).alloc (.cells #[] 202)).alloc (.cells #[] 207) by rw[O,ap]);have HS1:=hid aw;clear O ap h ar aq E ab aw;go_enter func207,ntmps207;go_wp2_with fail;rw[←bh.out];go_loopw [5,6,7] (fun mv sv iv wr=>Keep (fun q=>q<w.heap.size+1) L wr/\ ∃ (i mc sc:Nat) (ma sa:Option Addr) (vs:List Value) (mu:List (List Rt)) (s:List Rt),i<=N/\iv=Yv Yi i/\mv= .slice ma i mc/\sv= .slice sa s.length sc/\Zas g N i=some (mu,s)/\AcR (w.heap.size+1) wr ma i mc vs mu sa sc s none 0 []) (fun _ _ i _=>N-(intOf i).toNat);case atStart=>exact ⟨Keep.refl _ _,0,0,0,_,_,_,_,[],Nat.zero_le _,rfl,rfl,rfl,rfl,av⟩
 case round=>
  clear av;obtain ⟨P,i,mc,sc,ma,sa,vs,mu,s,hi,rfl,rfl,rfl,hI,hA⟩:=hrel;have A:=bM.keep P I;obtain ⟨⟨m0,m1,m2⟩, -⟩:=A.three;have y:=A.lt;by_cases bi:i<N
  ·have p:=hA.fresh rfl I;have HI:=hid hI;have HLn:=hid (Zd7 hI);clear hI;go_wp2;obtain ⟨wo,rfl⟩:=eX wr;go_loopw [6,8,9] (fun sv rv jv wr=>Keep (fun q=>q<w.heap.size+1) L wr/\ ∃ (j rc F:Nat) (ra V:Option Addr) (d s':List Rt),j<=i+1/\jv=Yv Yi j/\rv= .slice ra d.length rc/\sv= .slice V s'.length F/\AcR (w.heap.size+1) wr ma i mc vs mu V F s' ra rc d/\(j<=i->s'=s/\ZbB g N mu s i j=some d)/\(j=i+1->Zas g N (i+1)=some (mu++[d],s'))) (fun _ _ j _=>i+1-(intOf j).toNat);case atStart=>exact ⟨P.alloc _ _,0,0,sc,_,sa,[],s,Nat.zero_le _,rfl,rfl,rfl,p,fun _=>⟨rfl,rfl⟩,fun e=>I⟩
   case round=>
    clear p hA P m0 m1 m2 y A;obtain ⟨B,j,rc,F,ra,V,d,s',hj,rfl,rfl,rfl,hA,ad,ae⟩:=hrel;have A:=bM.keep B I;obtain ⟨⟨m0,m1,m2⟩, -⟩:=A.three;have y:=A.lt;by_cases bj:j<=i
    ·obtain ⟨rfl,hJ⟩:=ad bj;have ax:=hid (Zhy hJ);have HJ:=hid hJ;clear ad ae hJ;have bk:RdI wr (fun q=>q<w.heap.size) a n cp g:=bg.keep B (fun q _ hq=>I);have ay:=Zf (C:=N) (R:=N) (show j<N by omega) bi;have az:i*N+j<n:=(by rw[←bf,hl];exact ay);have bl: -400000000<=cell g N i j/\cell g N i j<=400000000:=Zk hm N i j;obtain ⟨c,hc⟩: ∃ c,cell g N i j=c:=⟨_,rfl⟩;go_wp2_with fail;refine (ZO a n cp N i j (N:Int) g _ bk az I I I).mono ?_;rintro e M ⟨rfl,a0⟩;rw[hc] at bl ⊢;have HC:=hid hc;clear hc az ay;obtain ⟨w4,a1,bm,bR, -⟩:=al1 M #[Yv Yi c,Yv Yi 1] 207;have a2:Grow wr w4:=a0.trans bm;have b7:=a0.size;have bn:=hid a1;clear a1 m0 m1 m2 y;go_wp2;rw[←bn.out];obtain ⟨wm,rfl⟩:=eX wr;go_loopw [11,12] (fun kv _ wr=>Keep (fun q=>q<M.heap.size) w4 wr/\ ∃ (k:Nat) (f m:Int),k<=j/\kv=Yv Yi k/\Blk wr M.heap.size #[Yv Yi f,Yv Yi m] 207/\ZcH mu s' d i j k (c,1)=(f,m)) (fun k _ _=>j-(intOf k).toNat);case atStart=>exact ⟨Keep.refl _ _,0,c,1,Nat.zero_le _,rfl,bR,rfl⟩
     case round=>
      clear bR;obtain ⟨W,k,f,m,hk,rfl,bR,a3⟩:=hrel;have G:=hA.keep ((a2.any.mono fun _ _ _=>trivial).trans (W.mono fun q _ (hq:q<wm.heap.size)=>I));have af:=hid a3;clear a3;by_cases a4:k<j
      ·have bo:k<d.length:=(by rw[ax.out];exact a4);have bp:k<s'.length:=Ea;obtain ⟨rb,ro,bq,b8,p0,p1⟩:=G.rowC bo;obtain ⟨sb,so,ag,a5,s0,s1⟩:=G.sqC bp;subst bq ag;by_cases hji:j=i
       case' pos=>
        have a6: ¬ (j:Int)<(i:Int):=I;have br:=hid hji;clear hji;go_wp2_with fail;obtain ⟨ot,hot⟩:=eX (rAt d k);have l:=hid (show ZcH mu s' d i j (k+1) (c,1)=Za1 (f,m) (ZaM (ZA (ZA (rAt d k) ot) (rAt s' k))) by
         simp only[ZcH];rw[af.out,if_pos br.out,hot])
        obtain ⟨w7,hw7⟩:=eX (wr.alloc (.cells #[Yv Yi (rAt d k).1,Yv Yi (rAt d k).2] 207));rw[←hw7];rw[←hot] at hw7;clear hot
       case' neg=>
        have a7:k<(mu.getD j []).length:=AL;obtain ⟨b2,o2,b3,o3,c3,bs,b9,u0,ca,u1,u2⟩:=G.muC HLn.out.1 (show j<i by omega) a7;subst bs;obtain ⟨mr,ah⟩:=eX (mu.getD j []);rw[←ah] at u0 u1 u2 a7;have bt:=hid ah;clear ah;have a6:(j:Int)<(i:Int):=I;go_wp2_with fail;obtain ⟨ot,hot⟩:=eX (rAt mr k);have l:=hid (show ZcH mu s' d i j (k+1) (c,1)=Za1 (f,m) (ZaM (ZA (ZA (rAt d k) ot) (rAt s' k))) by
         simp only[ZcH];rw[af.out,if_neg hji, ←bt.out,hot])
        obtain ⟨w7,hw7⟩:=eX (wr.alloc (.cells #[Yv Yi (rAt mr k).1,Yv Yi (rAt mr k).2] 207));rw[←hw7];rw[←hot] at hw7;clear hot
       all_goals
        have t:Grow wr w7:=(by rw[hw7];exact (JH _).alloc _ _);have bT:Blk w7 wr.heap.size #[Yv Yi ot.1,Yv Yi ot.2] 207:=(by rw[hw7];exact Blk.new _ _ _);have a8:=bR.grow t;replace p0:=t.cell p0;replace p1:=t.cell p1;replace s0:=t.cell s0;replace s1:=t.cell s1;clear hw7;generalize rAt d k=rk at *;generalize rAt s' k=sk at *;obtain ⟨t1,t2⟩:=ot;obtain ⟨x1,x2⟩:=rk;obtain ⟨y1,y2⟩:=sk;simp only at p0 p1 s0 s1 bT;refine ZeC 14 [([0,1,2,3,4,5,7,8,9,10],some 6),([],some 11),([],some 12),([],some 13),([],some 14)] ?_;refine Zct ?_;intro K hK;refine (ZhV (x1,x2) (t1,t2) _).mono ?_;rintro e w8 ⟨rfl,ai⟩;have H:=(JH w7).drew.trans ai;go_wp2_with fail;refine hK _ _ ((fun _=>H)) ?_;clear hK K;refine Zct ?_;intro K hK;refine (ZhV (ZA (x1,x2) (t1,t2)) (y1,y2) _).mono ?_;rintro e w9 ⟨rfl,bv⟩;have hGb:=H.trans bv;go_wp2_with fail;refine hK _ _ ((fun _=>hGb)) ?_;clear hK K;refine Zct ?_;intro K hK;refine (Zob (ZA (ZA (x1,x2) (t1,t2)) (y1,y2)) _).mono ?_;rintro e wb ⟨rfl,ba⟩;have bb:=hGb.trans ba;go_wp2_with fail;refine hK _ _ ((fun _=>bb)) ?_;clear hK K;refine Zct ?_;intro K hK;refine (Zoo (f,m) (ZaM (ZA (ZA (x1,x2) (t1,t2)) (y1,y2))) _).mono ?_;rintro e wa ⟨rfl,bc⟩;have aj:=bb.trans bc;go_wp2_with fail;refine hK _ _ ((fun _=>aj)) ?_;clear hK K;refine Zh ?_;refine ZY rfl (fun K hK=> ?_);generalize Za1 (f,m) (ZaM (ZA (ZA (x1,x2) (t1,t2)) (y1,y2)))=rn at *;obtain ⟨n1,n2⟩:=rn;have X:=a8.grow aj;obtain ⟨⟨cb,cc⟩,cd,ce⟩:=X.two;have z:=X.lt;have bw:=(X.set 0 (Yv Yi n1)).set 1 (Yv Yi n2);have bx:Keep (fun q=>q≠M.heap.size) wa ((wa.setCell ⟨M.heap.size,0,none⟩ (Yv Yi n1)).setCell ⟨M.heap.size,1,none⟩ (Yv Yi n2)):=kS;have J:Keep (fun q=>q<M.heap.size) w4 ((wa.setCell ⟨M.heap.size,0,none⟩ (Yv Yi n1)).setCell ⟨M.heap.size,1,none⟩ (Yv Yi n2)):=(W.trans (t.trans aj).any).trans (bx.mono fun q _ hq=>I);clear p0 p1 s0 s1 bT a8 X;go_wp2_with fail;refine hK _ _ ((fun h=>(h rfl).elim)) ?_;clear hK K;refine Z8 ?_;go_wp2;go_roundw;case rel=>exact ⟨J,k+1,n1,n2,I,Δ,bw,l.out⟩
        case measure=>exact FN
      ·have Hr:=hid (show ZcH mu s' d i j j (cell g N i j,1)=(f,m) by
        rw[HC.out];have ek:k=j:=I;have:=af.out;rw[ek] at this;exact this)
       obtain ⟨⟨c0,c1⟩,ak,al⟩:=bR.two;have z:=bR.lt;have bz:Keep (fun q=>q<w.heap.size+1) wm wr:=(a2.any.mono fun _ _ _=>trivial).trans (W.mono fun q _ (hq:q<w.heap.size+1)=>by have:=HS1.out;have:=B.size;omega);go_wp2_with fail;refine (Za6 (f,m) _).mono ?_;rintro e Y ⟨rfl,am⟩;have hA5:=G.grow am;have bd:=bR.grow am;have hK5:Keep (fun q=>q<w.heap.size+1) L Y:=B.trans (bz.trans (am.any.mono fun _ _ _=>trivial));have Z:Grow w Y:=hG1.keep hK5 fun q hq=>I;clear c0 c1 ak al z G bR W;cases hq:isR (f,m) with
       |false=>
        have HN:=hid (show Zas g N N=none by
         have e1:ZbB g N mu s' i (j+1)=none:=Dj;have e2:Zas g N (i+1)=none:=by
          exact GA
         have e3:=ZfD e2 (N-(i+1));rw[show i+1+(N-(i+1))=N by omega] at e3;exact e3)
        go_wp2
        go_ret3
        exact ⟨_,_,_,_,_,_,Ah,fun o ho=>Dn,Z⟩
       |true=>
        obtain ⟨⟨c0,c1⟩,ak,al⟩:=bd.two;have z:=bd.lt;by_cases hji:j<i
        ·have b0:j<s'.length:=(by rw[HLn.out.2.1];exact hji);have q1:((j:Int)==(i:Int))=false:=μ;obtain ⟨sb,so,ag,a5,s0,s1⟩:=hA5.sqC b0;subst ag;have cf:blk ra≠some M.heap.size:=fun e=>(by have:=hA.oR.lt e;omega);have cg:blk ra≠some sb:=hA5.nSR sb rfl;have l:=hid (show ZbB g N mu s' i (j+1)=some (d++[ZcW (f,m) (rAt s' j)]) by
          show ((ZbB g N mu s' i j).bind _)=_;rw[HJ.out,Option.bind_some,Hr.out,if_pos hq])
         generalize rAt s' j=sk at *;obtain ⟨y1,y2⟩:=sk;simp only at s0 s1;go_wp2_with fail;clear c0 c1 ak al z a5;refine Zcr (fun q=>blk ra≠some q) [([0,1,2,3,4,5],some 6),([],some 7),([],some 8),([9],none)] ?_;refine Zh ?_;obtain ⟨w7,hw7⟩:=eX Y.drew;rw[←hw7];have t:Grow Y w7:=Cu;clear hw7;refine Zu rfl (fun K hK=> ?_);go_wp2_with fail;refine (ZtR (f,m) (y1,y2) _).mono ?_;rintro e w8 ⟨rfl,ai⟩;have H:=t.trans ai;go_wp2_with fail;refine hK _ _ (H.any) ?_;clear hK K;generalize ZcW (f,m) (y1,y2)=dv at *;obtain ⟨d1,d2⟩:=dv;refine ZR ?_;intro K hK;have hGb:=H.alloc #[Yv Yi d1,Yv Yi d2] 207;refine hK _ _ (hGb.any) ?_;clear hK K;refine Zh ?_;refine Zu rfl (fun K hK=> ?_);have v:=hA5.grow hGb;have ch:d.length<=24:=(by rw[ax.out];omega);refine ZiY (.tmp 87) (.tmp 94) _ rfl ZkY rfl v.oR rfl (Row.built (S:=fun _=>True) 1 Γ rfl trivial) γ I Γ ?_;intro a9 c9 w9 x;have D:Keep (fun q=>blk ra≠some q) Y w9:=hGb.any.trans x.keep;have p:=v.row (r:=(d1,d2)) Ep x;refine hK _ _ (D) ?_;clear hK K;simp only[putP];refine Zh ?_;refine Ze ?_;go_wp2;go_roundw;case rel=>exact ⟨hK5.trans (D.mono fun q _ (hq:q<w.heap.size+1) e=>FB),j+1,c9,F,a9,_,d++[(d1,d2)],s',I,Δ,Θ,rfl,p,fun _=>⟨rfl,l.out⟩,fun e=>I⟩
         case measure=>exact FN
        ·have aa:j=i:=I;have q1:((j:Int)==(i:Int))=true:=(by simp[aa]);have HJi:=hid (show ZbB g N mu s' i i=some d by have:=HJ.out;rw[aa] at this;exact this);have Hri:=hid (show ZcH mu s' d i i i (cell g N i i,1)=(f,m) by have:=Hr.out;rw[aa] at this;exact this);clear aa;by_cases b5:f<=0
         ·have HN:=hid (show Zas g N N=none by
           have e2:Zas g N (i+1)=none:=Cz;have e3:=ZfD e2 (N-(i+1));rw[show i+1+(N-(i+1))=N by omega] at e3;exact e3)
          go_wp2
          go_ret3
          exact ⟨_,_,_,_,_,_,Ah,fun o ho=>Dn,Z⟩
         ·have an:=hid (show Zas g N (i+1)=some (mu++[d],s'++[(f,m)]) by
           simp only[Zas,HI.out,Option.bind_some,HJi.out,Hri.out,hq,Bool.true_and];rw[if_pos Ψ])
          have ci:s'.length<=24:=Ea;have hGb:Grow Y (Y.alloc (.cells #[Yv Yi f,Yv Yi m] 207)):=(JH Y).alloc _ _;have v:=hA5.grow hGb;have b1:=v.oS;go_wp2_with (at_builtin;refine ZD rfl (.tmp 83) (.tmp 85) _ rfl ZkY rfl b1 rfl (Row.bAt6 (S:=fun _=>True) 1 rfl Γ rfl (fun _=>trivial)) γ I Γ ?_;intro a9 c9 w9 x);have D:Keep (fun q=>blk V≠some q) Y w9:=hGb.any.trans x.keep;have p:=v.sq (r:=(f,m)) Ep x;have J:Keep (fun q=>q<w.heap.size+1) L w9:=hK5.trans (D.mono fun q _ (hq:q<w.heap.size+1) e=>F9);go_wp2;go_roundw;case rel=>exact ⟨J,j+1,rc,c9,_,a9,d,s'++[(f,m)],I,Δ,rfl,Θ,p,fun e=>I,fun _=>an.out⟩
          case measure=>exact FN
    ·have an:=hid (ae I);have ao:vs.length=mu.length:=Cb;clear ad ae m0 m1 m2 y;have hGb:Grow wr (wr.alloc (.cells #[.slice ra d.length rc] 202)):=(JH wr).alloc _ _;have v:=hA.grow hGb;have b4:=v.oM;go_wp2_with (at_builtin;refine ZD rfl (.tmp 96) (.tmp 98) _ rfl ZpK rfl b4 rfl (Row.bAt6 (S:=fun _=>True) 1 rfl Γ rfl (fun _=>trivial)) γ I Γ ?_;intro a9 c9 w9 x);have D:Keep (fun q=>blk ma≠some q) wr w9:=hGb.any.trans x.keep;have p:=AcR.put ao (by have:=HS1.out;have:=hG1.size;have:=B.size;have:=hGb.size;omega) v x;have J:Keep (fun q=>q<w.heap.size+1) L w9:=B.trans (D.mono fun q _ (hq:q<w.heap.size+1) e=>by have:=hA.lM _ e;omega);go_wp2;go_roundw;case rel=>exact ⟨J,i+1,c9,F,a9,_,_,mu++[d],s',I,Δ,rfl,rfl,an.out,p⟩
     case measure=>exact FN
  ·have be:Zas g N N=some (mu,s):=EA;have HN:=hid be;clear be;have HLn:=hid (Zd7 hI);clear hI;have Z:Grow w wr:=hG1.keep P fun q hq=>I;go_wp2
   go_ret3
   refine ⟨_,_,_,_,_,_,Ah,fun o1 o2 ho=> ?_,Z⟩;rw[HN.out] at ho;obtain ⟨rfl,rfl⟩:=Prod.mk.inj (Option.some.inj ho);have ao:vs.length=mu.length:=Cb;refine ⟨?_, ?_⟩
   ·exact RdTT.weak (S:=fun q=>w.heap.size+1<=q) ⟨⟨vs,ao,hA.oM.row hA.lM,hA.rr.weak fun _ _ h=>h.1⟩,HLn.out.1⟩ fun b _ hb=>I
   ·exact RdT.weak (S:=fun q=>w.heap.size+1<=q) ⟨hA.oS.row hA.lS,rfl⟩ fun b _ hb=>I
theorem ZsP (n d:Int) (w:World) (hn: -4000000000<=n/\n<=4000000000) (hd:0<d/\d<=4000000000):Calls JG 255 #[Yv Yi n,Yv Yi d] w fun e w'=>e= .returned (Yv Yi (n/d))/\Grow w w':=by
 have g:=Zbw n d;have c: ¬ d=0:=I
 by_cases h:n.tmod d<0
 ·have a:=(Zj1 I h).1;rw[Int.sign_eq_one_of_pos hd.1] at a;have H:=hid a;clear a;have b:wrap64 (n.tdiv d)=n.tdiv d:=ZK I;have f:wrap64 (n.tdiv d-1)=n.tdiv d-1:=ZK I;go_enter Ns,Nt;go_wp2;go_ret;exact ⟨ZJ (by rw[H.out];omega),JH _⟩
 ·have a:=(Zj7 (n:=n) (d:=d) I I).1;have H:=hid a;clear a;have b:wrap64 (n.tdiv d)=n.tdiv d:=ZK I;go_enter Ns,Nt;go_wp2;go_ret;exact ⟨ZJ H.out,JH _⟩
theorem Znx (a:Rt) (w:World):Calls JG 209 #[RV a] w fun e w'=>e= .returned (Yv Yi (Zap a))/\Grow w w':=by
 obtain ⟨x,y⟩:=a;have hG1:=(JH w).alloc #[Yv Yi x,Yv Yi y] 207;have b:=Blk.new w #[Yv Yi x,Yv Yi y] 207;obtain ⟨⟨h,i⟩, -⟩:=b.two;have c:=b.lt;go_enter func209,ntmps209;go_wp2_with fail;clear h i c;refine (Za6 (x,y) _).mono ?_;rintro e q ⟨rfl,d⟩;replace b:=b.grow d;replace hG1:=hG1.trans d;obtain ⟨⟨h,i⟩, -⟩:=b.two;have c:=b.lt;cases f:isR (x,y) with
 |false=>have Hr:=hid (show Zap (x,y)=0 by unfold Zap;rw[f];rfl);clear f;go_wp2;exact GH
 |true=>have g:=ZcM.1 f;have Hr:=hid (show Zap (x,y)=(2*x+y)/(2*y) by unfold Zap;rw[f];rfl);clear f;obtain ⟨⟨j,k⟩,⟨l,m⟩, -⟩:=g;simp only at j k l m;have n:wrap64 (2*x)=2*x:=ZK I;have o:wrap64 (2*y)=2*y:=ZK I;have p:wrap64 (2*x+y)=2*x+y:=ZK I;go_wp2_with fail;refine (ZsP (2*x+y) (2*y) _ I I).mono ?_;exact Jt
theorem Zuk (a b:Rt) (w:World):Calls JG 264 #[RV a,RV b] w fun e w'=>e= .returned (Yv Yi (ZV a b))/\Grow w w':=by
 obtain ⟨x,y⟩:=a;obtain ⟨u,v⟩:=b;have hG1:=((JH w).alloc #[Yv Yi x,Yv Yi y] 207).alloc #[Yv Yi u,Yv Yi v] 207;obtain ⟨g,c, -,bA,bB, -⟩:=al2 w #[Yv Yi x,Yv Yi y] 207 #[Yv Yi u,Yv Yi v] 207;rw[←c] at hG1;obtain ⟨⟨a0,a1⟩, -⟩:=bA.two;obtain ⟨⟨b0,b1⟩, -⟩:=bB.two;have hlA:=bA.lt;have hlB:=bB.lt;rw[c] at a0 a1 b0 b1 hlA hlB;go_enter func264,ntmps264;go_wp2_with fail;rw[←c];clear c a0 a1 b0 b1 hlA hlB;refine (Za6 (x,y) _).mono ?_;rintro e h ⟨rfl,d⟩;replace bA:=bA.grow d;replace bB:=bB.grow d;replace hG1:=hG1.trans d;obtain ⟨⟨a0,a1⟩, -⟩:=bA.two;obtain ⟨⟨b0,b1⟩, -⟩:=bB.two;have hlA:=bA.lt;have hlB:=bB.lt;cases f:isR (x,y) with
 |false=>have Hr:=hid (show ZV (x,y) (u,v)=2 by unfold ZV;rw[f];rfl);clear f;go_wp2;exact GH
 |true=>
  have hxa:=ZcM.1 f;have Ha:=hid f;clear f;go_wp2_with fail;refine (Za6 (u,v) _).mono ?_;exact FR
def Zk9 (c:Int):Bool:=decide (0<=c)&& !decide (c=2)
theorem Zu6 (m l s:Rt) (w:World):Calls JG 211 #[RV m,RV l,RV s] w fun e w'=>e= .returned (.tuple #[.bool (Zk9 (ZV s (ZA (Za1 (3,4) (ZaM (ZA m m))) l))), .bool (!decide (ZV s (ZA (Za1 (3,4) (ZaM (ZA m m))) l)=2))])/\Grow w w':=by
 obtain ⟨a,b⟩:=m;obtain ⟨k,n⟩:=l;obtain ⟨o,p⟩:=s;obtain ⟨W,f,x,G,M,N, -⟩:=al3 w #[Yv Yi a,Yv Yi b] 207 #[Yv Yi k,Yv Yi n] 207 #[Yv Yi o,Yv Yi p] 207;obtain ⟨⟨H,J⟩, -⟩:=G.two;have q:=G.lt;rw[f] at H J q;have y:=hid f;clear f;go_enter func211,ntmps211;go_wp2_with fail;rw[←y.out];refine (ZhV (a,b) (a,b) _).mono ?_;rintro e Y ⟨rfl,z⟩;go_wp2_with fail;refine (Zob (ZA (a,b) (a,b)) _).mono ?_;rintro e Z ⟨rfl,A⟩;go_wp2_with fail;refine (Zoo (3,4) (ZaM (ZA (a,b) (a,b))) _).mono ?_;rintro e O ⟨rfl,B⟩;have d:=(z.trans A).trans B;obtain ⟨X,C⟩:=eX (Za1 (3,4) (ZaM (ZA (a,b) (a,b))));rw[←C];have P:=hid C;clear C;obtain ⟨g,h⟩:=X;obtain ⟨R,r,i,bX, -⟩:=al1 O #[Yv Yi g,Yv Yi h] 207;have S:=(M.grow d).grow i;have T:=(N.grow d).grow i;have V:=(x.trans d).trans i;have D:=hid r;clear r H J q;go_wp2;rw[show (RV (g,h))= .agg #[Yv Yi g,Yv Yi h] from rfl];go_wp2;rw[←D.out];refine ZaH [([0,1,2],some 3),([],some 4),([5],none)] ?_;refine ZR ?_;intro K hK;refine (ZhV (g,h) (k,n) _).mono ?_;rintro e w6 ⟨rfl,E⟩;have t:=(JH R).drew.trans E;go_wp2_with fail;refine hK _ _ (t) ?_;clear hK K;refine ZR ?_;intro K hK;refine (Zuk (o,p) (ZA (g,h) (k,n)) _).mono ?_;rintro e w7 ⟨rfl,F⟩;have v:=t.trans F;go_wp2_with fail;refine hK _ _ (v) ?_;clear hK K;refine Zh ?_;refine Ze ?_;have L:=Zmy (o,p) (ZA (g,h) (k,n));obtain ⟨c,j⟩:=eX (ZV (o,p) (ZA (g,h) (k,n)));rw[←j] at L ⊢;have HC:=hid (show ZV (o,p) (ZA (Za1 (3,4) (ZaM (ZA (a,b) (a,b)))) (k,n))=c by rw[←P.out,j]);clear j;rcases L with rfl|rfl|rfl|rfl;all_goals (go_wp2;go_ret2;exact ⟨F3,V.trans v⟩)

end Go.Proofs.YtgjefeiddfjjnaaGreatDoor
