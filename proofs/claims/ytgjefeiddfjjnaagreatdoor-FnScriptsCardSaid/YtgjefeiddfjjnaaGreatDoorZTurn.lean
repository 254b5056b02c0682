/- Rows and columns exchanged: the program's TransposeOf, the reference's l3Turn. -/
import Derived.Test.YtgjefeiddfjjnaaGreatDoorZStack
set_option maxHeartbeats 8000000
set_option maxRecDepth 100000
namespace Go.Proofs.YtgjefeiddfjjnaaGreatDoor
open Go.RowKit
open Lib (hid)
open Go.Value renaming int->Yv
open Go.IntKind renaming i64->Yi
open Grow renaming keep->Lx,refl->JH
open Keep renaming refl->JO
open List renaming getElem?_eq_getElem->JR
open Nat renaming mul_le_mul->JL,zero_le->JI
open Go.Proofs.Tryz renaming prog->JG
open Go.Proofs.Tryz
variable {C O R b cap i k mc n off rc sc:Nat} {S T:Nat->Prop} {a ma ra sa:Option Addr} {l s:List Rt} {m:Mat} {mu xss:List (List Rt)} {r:Rt} {v:Value} {vs:List Value} {w w':World}
def ZcS (m:List Int) (C R i:Nat):Nat->List Int->List Int
 |0,x=>x
 |j+1,x=>(ZcS m C R i j x).set (j*R+i) (cell m C i j)
def ZaZ (m:List Int) (C R:Nat):Nat->List Int
 |0=>List.replicate (C*R) 0
 |i+1=>ZcS m C R i C (ZaZ m C R i)
def Zbz (m:Mat):Mat:={rows:=m.cols,cols:=m.rows,cells:=ZaZ m.cells m.cols.toNat m.rows.toNat m.rows.toNat}
theorem Ziz (m:List Int) (C R i:Nat): ∀ (j:Nat) (x:List Int),(ZcS m C R i j x).length=x.length
 |0,_=>rfl
 |j+1,x=>by simp[ZcS,Ziz m C R i j x]
theorem ZgL (m:List Int) (C R:Nat): ∀ i,(ZaZ m C R i).length=C*R
 |0=>by simp[ZaZ]
 |i+1=>by simp only[ZaZ];rw[Ziz,ZgL m C R i]
theorem Zmw {m:List Int} {C R i:Nat} (hm:NumL m): ∀ {j:Nat} {x:List Int},NumL x->NumL (ZcS m C R i j x)
 |0,_,h=>h
 |j+1,x,h=>fun y hy=>by
  rcases List.mem_or_eq_of_mem_set hy with h1|h1
  ·exact Zmw hm (j:=j) h y h1
  ·subst h1;exact Zk hm C i j
theorem Zgv {m:List Int} {C R:Nat} (hm:NumL m): ∀ {i:Nat},NumL (ZaZ m C R i)
 |0=>fun x hx=>by rw[(List.mem_replicate.1 hx).2];omega
 |i+1=>by simp only[ZaZ];exact Zmw hm (Zgv hm)
theorem ZhI {cells:List Int}:Zbz {rows:=(R:Int),cols:=(C:Int),cells:=cells}={rows:=(C:Int),cols:=(R:Int),cells:=ZaZ cells C R R}:=rfl
theorem Zmh (h:Zd m=true):Zd (Zbz m)=true:=by
 obtain ⟨R,C,b,c,e,f,g,a⟩:=Zl h;obtain ⟨i,j,d⟩:=m;simp only at b c g a;subst b;subst c;rw[ZhI];exact Zay f e (ZgL _ _ _ _) (Zgv a)
theorem Zeq {m:List Int} (hl:m.length=R*C) (hi:i<R) (hk:k<C):m[i*C+k]? =some (cell m C i k):=by
 have:=Zf hk hi;unfold cell;simp[List.getD,JR (show i*C+k<m.length by omega)]
theorem ZlK (a:Option Addr) (n cp R C:Nat) (m:List Int) (w:World) (h:RdI w S a n cp m) (hl:m.length=R*C) (hnum:NumL m) (hR:R<=24) (hC:C<=24):
  Calls JG 218 #[.agg #[Yv Yi R,Yv Yi C, .slice a n cp]] w fun e w'=> ∃ r,e= .returned (.tuple #[r, .bool true])/\OM w' (New w w') r {rows:=(C:Int),cols:=(R:Int),cells:=ZaZ m C R R}/\Grow w w':=by
 have az:=h.len;have a3:R*C<=24*24:=JL hR hC;have a4:C*R<=24*24:=JL hC hR;obtain ⟨w2,z,A,bM,bZ, -⟩:=al2 w #[Yv Yi (R:Int),Yv Yi (C:Int), .slice a n cp] 37 #[Yv Yi 0,Yv Yi 0, .slice none 0 0] 37;have aa:=hid z;clear z;have HB:=hid (Zay hR hC hl hnum);have ab:RdI w (fun g=>g<w.heap.size) a n cp m:=h.weak (fun g hg _=>hg);have h2:=h.grow A;have B:VM w2 S (.agg #[Yv Yi (R:Int),Yv Yi (C:Int), .slice a n cp]) {rows:=(R:Int),cols:=(C:Int),cells:=m}:=⟨a,n,cp,rfl,h2,χ,χ⟩;have D:bdM {rows:=(R:Int),cols:=(C:Int),cells:=m}<=2097152:=Al
 go_enter func218,ntmps218;go_wp2_with fail;rw[←aa.out];refine (ZG B D).mono ?_;rintro e w3 ⟨rfl,t⟩;rw[HB.out];have p:=bM.grow t;have v:=bZ.grow t;have c:=A.trans t;have r3:=ab.grow c;obtain ⟨⟨Z,a1,a2⟩, -⟩:=p.three;have ad:=p.lt;have ae:=v.lt;clear B D bM bZ h h2;go_wp2_with fail;refine (Zc9 C R _ I I).mono ?_;rintro e w4 ⟨d,rfl,o,hlo,f⟩;obtain ⟨w5,E,k,F, -⟩:=al1 w4 #[Yv Yi (C:Int),Yv Yi (R:Int), .slice d (C*R) (C*R)] 37;have G:=o.grow k;have hltA: ∀ g,blk d=some g->g<w4.heap.size:=fun g hg=>o.lt hg;have a5:=f.size;have H:=(p.grow f).grow k;have af:=(v.grow f).grow k;have r5:=(r3.grow f).grow k;have J:=(c.trans f).trans k;have ag:=hid E;have Hl:=hid hl;have L:=hid hnum;have ah:n<=576:=I
 clear E Z a1 a2 o hl hnum p v;go_wp2;rw[←ag.out];go_loopw [5] (fun q wr=>Keep (fun g=>blk d≠some g) w5 wr/\ ∃ i:Nat,i<=R/\q=Yv Yi i/\Own wr 3 1 d (C*R) (C*R) (ints (ZaZ m C R i))) (fun q _=>R-(intOf q).toNat);case atStart=>exact ⟨JO _ _,0,JI _,rfl,G⟩
 case round=>
  clear G;obtain ⟨M,rfl⟩:=eX wr;obtain ⟨hK,i,hi,rfl,o⟩:=hrel;have ai:=H.keep hK (fun e=>ε);obtain ⟨⟨Z,a1,a2⟩, -⟩:=ai.three;by_cases N:i<R
  ·go_wp2;go_loopw [6] (fun q u=>Keep (fun g=>blk d≠some g) M u/\ ∃ j:Nat,j<=C/\q=Yv Yi j/\Own u 3 1 d (C*R) (C*R) (ints (ZcS m C R i j (ZaZ m C R i)))) (fun q _=>C-(intOf q).toNat);case atStart=>exact ⟨JO _ _,0,JI _,rfl,o⟩
   case round=>
    clear o;obtain ⟨u,rfl⟩:=eX wr;obtain ⟨O,j,hj,rfl,o⟩:=hrel;have b:=hK.trans O;have aj:=H.keep b (fun e=>ε);have a6:=F.keep b (fun e=>Em);have ak:=r5.keep b (fun g _ hg e=>ε);clear Z a1 a2;obtain ⟨⟨Z,a1,a2⟩, -⟩:=aj.three;by_cases P:j<C
    ·have al:=Zeq Hl.out N P;have s:j*R+i<C*R:=Zf N P;have am:=hid (show ZcS m C R i (j+1) (ZaZ m C R i)=(ZcS m C R i j (ZaZ m C R i)).set (j*R+i) (cell m C i j) from rfl);generalize cell m C i j=x at *;go_wp2;refine ZeC 7 [([0,1,2,3,4,5],some 6),([],some 7)] ?_;refine Zct ?_;intro K hK;refine (ZaA a n cp C i j _ (R:Int) x m _ (ak.grow (JH _).drew) rfl al I I I I).mono ?_;rintro e w6 ⟨rfl,an⟩;have l:=(JH u).drew.trans an;go_wp2_with fail;refine hK _ _ ((fun _=>l)) ?_;clear hK K;refine Zct ?_;intro K hK;refine (Zjp d (C*R) (C*R) R j i _ (C:Int) x _ _ (o.grow l) rfl s I I I I).mono ?_;rintro e w7 ⟨rfl,T,ao⟩;rw[←am.out] at T;have V:Keep (fun g=>blk d≠some g) M w7:=(O.trans l.any).trans ao;go_wp2_with fail;refine hK _ _ ((fun h=>(h rfl).elim)) ?_;clear hK K;refine Z8 ?_;go_wp2;go_roundw;case rel=>exact ⟨V,j+1,I,Δ,T⟩
     case measure=>exact FN
    ·have ap:j=C:=I;subst ap;go_wp2;go_roundw;case rel=>exact ⟨b,i+1,I,Δ,o⟩
     case measure=>exact FN
  ·have aq:i=R:=I;subst aq;have W:=F.keep hK (fun e=>Em);have y:=af.keep hK (fun e=>ε);have ar:Grow w M:=Lx (S:=fun g=>blk d≠some g) J hK (fun g hg e=>ε);have rN:=Zp (Zgv (C:=C) (R:=i) (i:=i) L.out);obtain ⟨⟨o0,o1,o2⟩, -⟩:=W.three;obtain ⟨⟨z0,z1,z2⟩,g0,g1,g2⟩:=y.three;have aw:=y.lt;have ax:=W.lt;have X:Keep (fun q=>q≠w.heap.size+1) M (((M.setCell ⟨w.heap.size+1,0,none⟩ (Yv Yi (C:Int))).setCell ⟨w.heap.size+1,1,none⟩ (Yv Yi (i:Int))).setCell ⟨w.heap.size+1,2,none⟩ (.slice d (C*i) (C*i))):=
    kS
   have Y:=o.keep X (fun g hg _ e=>Aw);have av:=ar.keep X (fun q hq=>I);have ay:=c.size;go_wp2;exact Zb Zc rfl rfl rfl (((y.set 0 _).set 1 _).set 2 _) ⟨_,rfl,⟨d,C*i,C*i,rfl,Y,rN,(fun g hg=>⟨Aw,Y.lt hg⟩),η,DS⟩,av⟩
theorem ZrD (a:Option Addr) (n cp R C:Nat) (m:List Int) (w:World) (h:RdI w S a n cp m) (hl:m.length=R*C) (hnum:NumL m) (hR:R<=24) (hC:C<=24):
  Calls JG 141 #[.agg #[Yv Yi R,Yv Yi C, .slice a n cp]] w fun e w'=> ∃ r,e= .returned r/\OM w' (New w w') r {rows:=(C:Int),cols:=(R:Int),cells:=ZaZ m C R R}/\Grow w w':=by
 have Z:=h.len;have a9:R*C<=24*24:=JL hR hC;have ba:C*R<=24*24:=JL hC hR;obtain ⟨w2,B,s,bM,bZ, -⟩:=al2 w #[Yv Yi (R:Int),Yv Yi (C:Int), .slice a n cp] 37 #[Yv Yi 0,Yv Yi 0, .slice none 0 0] 37;have aa:=hid B;clear B;have r3:=(h.weak (T:=fun g=>g<w.heap.size) (fun g hg _=>hg)).grow s;have bb:=s.size;go_enter func141,ntmps141;go_wp2_with fail;rw[←aa.out];refine (Zg5 C R _ I I).mono ?_;rintro e w4 ⟨f,rfl,hO,hlo,k⟩;obtain ⟨w5,D,l,E, -⟩:=al1 w4 #[Yv Yi (C:Int),Yv Yi (R:Int), .slice f (C*R) (C*R)] 37;have F:=hO.grow l;have hltA: ∀ g,blk f=some g->g<w4.heap.size:=fun g hg=>hO.lt hg;have bc:=k.size;have ab:=bM.lt;have ad:=bZ.lt;have G:=(bM.grow k).grow l;have ae:=(bZ.grow k).grow l;have r5:=(r3.grow k).grow l;have H:=(s.trans k).trans l;have af:=hid D;have Hl:=hid hl;have J:=hid hnum;have ag:n<=576:=I
 clear D hO hl hnum bM bZ h;go_wp2;rw[←af.out];go_loopw [4] (fun q wr=>Keep (fun g=>blk f≠some g) w5 wr/\ ∃ i:Nat,i<=R/\q=Yv Yi i/\Own wr 3 1 f (C*R) (C*R) (ints (ZaZ m C R i))) (fun q _=>R-(intOf q).toNat);case atStart=>exact ⟨JO _ _,0,JI _,rfl,F⟩
 case round=>
  clear F;obtain ⟨L,rfl⟩:=eX wr;obtain ⟨hK,i,hi,rfl,hO⟩:=hrel;have ah:=G.keep hK (fun e=>ε);obtain ⟨⟨a0,a1,a2⟩, -⟩:=ah.three;by_cases t:i<R
  ·go_wp2;go_loopw [5] (fun q u=>Keep (fun g=>blk f≠some g) L u/\ ∃ j:Nat,j<=C/\q=Yv Yi j/\Own u 3 1 f (C*R) (C*R) (ints (ZcS m C R i j (ZaZ m C R i)))) (fun q _=>C-(intOf q).toNat);case atStart=>exact ⟨JO _ _,0,JI _,rfl,hO⟩
   case round=>
    clear hO;obtain ⟨u,rfl⟩:=eX wr;obtain ⟨M,j,hj,rfl,hO⟩:=hrel;have d:=hK.trans M;have ai:=G.keep d (fun e=>ε);have aj:=E.keep d (fun e=>Em);have ak:=r5.keep d (fun g _ hg e=>ε);clear a0 a1 a2;obtain ⟨⟨a0,a1,a2⟩, -⟩:=ai.three;by_cases v:j<C
    ·have al:i*C+j<n:=(by rw[←Z,Hl.out];exact Zf v t);have N:=Zeq Hl.out t v;have Y:j*R+i<C*R:=Zf t v;have am:=hid (show ZcS m C R i (j+1) (ZaZ m C R i)=(ZcS m C R i j (ZaZ m C R i)).set (j*R+i) (cell m C i j) from rfl);obtain ⟨b1,a4,y,an,hy, -, -,bd,be⟩:=ak.at al;subst an;obtain rfl:y=cell m C i j:=(by rw[N] at hy;exact (Option.some.inj hy).symm);obtain ⟨o,rfl⟩: ∃ o,f=some ⟨o,0,none⟩:=by
      cases f with
      |none=>have:=hO.nil rfl;omega
      |some q=>exact ⟨q.block,Ay⟩
     have u1:=Z6 (i:=i) (c:=C) I I;have u2:=ZaF (i:=i) (c:=C) (j:=j) I I I rfl;have u3:=Z6 (i:=j) (c:=R) I I;have u4:=ZaF (i:=j) (c:=R) (j:=i) I I I rfl;obtain ⟨⟨o0,o1,o2⟩, -⟩:=aj.three;have O:=hO;clear N hy;generalize cell m C i j=x at *;generalize ao:i*C+j=s1 at *;generalize P:j*R+i=A at *;clear ao P;go_wp2;refine ZeC 19 [([0,1,2,3,4,5,6,7,8,9,10,11,12,13,14,15,16,17,18],some 19)] ?_;refine Zh ?_;refine ZY rfl (fun K hK=> ?_);have b:=O.grow (JH u).drew;have ap:=b.free A;have a5:=b.lt (g:=o) rfl;have a6:=b.le;obtain ⟨yo,aq⟩: ∃ yo,(ints (ZcS m C R i j (ZaZ m C R i)))[A]? =some yo:=⟨_,JR (by have:=b.len;simp at this;simp;omega)⟩;have ar:=b.cell aq;have av:Own (u.drew.setCell ⟨o,A,none⟩ (Yv Yi x)) 3 1 (some ⟨o,0,none⟩) (C*R) (C*R) (ints (ZcS m C R i (j+1) (ZaZ m C R i))):=(by have:=b.set A (Yv Yi x);rw[←ints_set, ←am.out] at this;exact this);have aw:Keep (fun g=>blk (some (⟨o,0,none⟩:Addr))≠some g) L (u.drew.setCell ⟨o,A,none⟩ (Yv Yi x)):=(M.trans (JH u).drew.any).setCell (p:=⟨o,A,none⟩) (fun _ e=>e rfl) _;simp only at ap ar;clear O b;go_wp2_with fail;refine hK _ _ ((fun h=>(h rfl).elim)) ?_;clear hK K;refine Z8 ?_;go_wp2;go_roundw;case rel=>exact ⟨aw,j+1,I,Δ,av⟩
     case measure=>exact FN
    ·have ax:j=C:=I;subst ax;go_wp2;go_roundw;case rel=>exact ⟨d,i+1,I,Δ,hO⟩
     case measure=>exact FN
  ·have ay:i=R:=I;subst ay;have V:=E.keep hK (fun e=>Em);have z:=ae.keep hK (fun e=>ε);have az:Grow w L:=Lx (S:=fun g=>blk f≠some g) H hK (fun g hg e=>ε);have rN:=Zp (Zgv (C:=C) (R:=i) (i:=i) J.out);obtain ⟨⟨o0,o1,o2⟩, -⟩:=V.three;obtain ⟨⟨z0,z1,z2⟩,g0,g1,g2⟩:=z.three;have a7:=z.lt;have a8:=V.lt;have W:Keep (fun q=>q≠w.heap.size+1) L (((L.setCell ⟨w.heap.size+1,0,none⟩ (Yv Yi (C:Int))).setCell ⟨w.heap.size+1,1,none⟩ (Yv Yi (i:Int))).setCell ⟨w.heap.size+1,2,none⟩ (.slice f (C*i) (C*i))):=
    kS
   have X:=hO.keep W (fun g hg _ e=>Aw);have a3:=az.keep W (fun q hq=>I);go_wp2;exact Zx Zc rfl rfl rfl (((z.set 0 _).set 1 _).set 2 _) ⟨_,rfl,⟨f,C*i,C*i,rfl,X,rN,(fun g hg=>⟨Aw,X.lt hg⟩),η,DS⟩,a3⟩
theorem Znv (h:VM w S v m) (hB:Zd m=true):
  Calls JG 218 #[v] w fun e w'=> ∃ r,e= .returned (.tuple #[r, .bool true])/\OM w' (New w w') r (Zbz m)/\Grow w w':=by
 obtain ⟨a,n,c,rfl,h, -, -⟩:=h;obtain ⟨R,C,f,g,j,k,i,b⟩:=Zl hB;obtain ⟨l,o,d⟩:=m;simp only at f g i b h;subst f;subst g;rw[ZhI];exact ZlK a n c R C d w h i b j k
theorem Zpv (h:VM w S v m) (hB:Zd m=true):
  Calls JG 141 #[v] w fun e w'=> ∃ r,e= .returned r/\OM w' (New w w') r (Zbz m)/\Grow w w':=by
 obtain ⟨a,n,c,rfl,h, -, -⟩:=h;obtain ⟨R,C,f,g,j,k,i,b⟩:=Zl hB;obtain ⟨l,o,d⟩:=m;simp only at f g i b h;subst f;subst g;rw[ZhI];exact ZrD a n c R C d w h i b j k
theorem ZkY:SlT JG 202 207 (.agg #[Yv Yi 0,Yv Yi 0]) 2 16:=SlT.mk' underlying202 Ξ rfl
theorem ZpK:SlT JG 201 202 (.slice none 0 0) 1 24:=SlT.mk' underlying201 Ξ rfl
theorem ZnB:StT JG 261 2:=⟨_,underlying261,Ξ⟩
def rts:List Rt->List Value
 |[]=>[]
 |r::l=>Yv Yi r.1::Yv Yi r.2::rts l
theorem Zg9: ∀ l k:List Rt,rts (l++k)=rts l++rts k
 |[],_=>rfl
 |r::l,k=>by simp only[List.cons_append,rts,Zg9 l k]
theorem Zr9: ∀ {l:List Rt} {k:Nat} {r:Rt},l[k]? =some r->(rts l)[k*2]? =some (Yv Yi r.1)/\(rts l)[k*2+1]? =some (Yv Yi r.2)
 |[],k,r,h=>ν
 |x::l,0,r,h=>by simp at h;subst h;exact Je
 |x::l,k+1,r,h=>by have:=Zr9 (l:=l) (k:=k) (r:=r) Ai;rw[show (k+1)*2=k*2+1+1 by omega];simp only[rts,List.getElem?_cons_succ];exact this
structure RdT (w:World) (S:Nat->Prop) (a:Option Addr) (n cap:Nat) (l:List Rt):Prop where
 row:Row w S 2 a n cap (rts l)
 len:l.length=n
theorem RdT.keep (h:RdT w S a n cap l) (hk:Keep T w w') (hST: ∀ b,b<w.heap.size->S b->T b):RdT w' S a n cap l:=⟨h.row.keep hk hST,h.len⟩
theorem RdT.grow (h:RdT w S a n cap l) (hk:Grow w w'):RdT w' S a n cap l:=h.keep hk fun _ _ _=>trivial
theorem RdT.weak (h:RdT w S a n cap l) (hST: ∀ b,b<w.heap.size->S b->T b):RdT w T a n cap l:=⟨h.row.weak hST,h.len⟩
theorem RdT.at (h:RdT w S a n cap l) (hk:k<n):
  ∃ b off r,a=some ⟨b,off,none⟩/\l[k]? =some r/\S b/\b<w.heap.size/\w.cell? ⟨b,off+k*2,none⟩=some (Yv Yi r.1)/\w.cell? ⟨b,off+k*2+1,none⟩=some (Yv Yi r.2):=by
 have d:k<l.length:=by have:=h.len;omega
 have c:l[k]? =some l[k]:=JR d;obtain ⟨f,j⟩:=Zr9 c;obtain ⟨b,off,m,o,g⟩:=h.row.addr (by intro e;rw[e] at f;simp at f);have i:=g _ _ f;have p:=g _ _ j;exact ⟨b,off,l[k],m,c,o,World.block_lt_of_cell? w _ i,i,by rw[Nat.add_assoc];exact p⟩
def RdRows (w:World) (S:Nat->Prop) (vs:List Value) (xss:List (List Rt)):Prop:=
 ∀ (i:Nat) (xs:List Rt),xss[i]? =some xs-> ∃ b c,vs[i]? =some (Value.slice b xs.length c)/\RdT w S b xs.length c xs
theorem RdRows.keep (h:RdRows w S vs xss) (hk:Keep T w w') (hST: ∀ b,b<w.heap.size->S b->T b):RdRows w' S vs xss:=fun i a d=>by
 obtain ⟨b,c,e,f⟩:=h i a d;exact ⟨b,c,e,f.keep hk hST⟩
theorem RdRows.weak (h:RdRows w S vs xss) (hST: ∀ b,b<w.heap.size->S b->T b):RdRows w T vs xss:=fun i a d=>by
 obtain ⟨b,c,e,f⟩:=h i a d;exact ⟨b,c,e,f.weak hST⟩
theorem RdRows.nilw:RdRows w S [] []:=fun i a h=>ν
theorem RdRows.snoc (h:RdRows w S vs xss) (hl:vs.length=xss.length) {b:Option Addr} {c:Nat} {xs:List Rt} (hx:RdT w S b xs.length c xs):RdRows w S (vs++[.slice b xs.length c]) (xss++[xs]):=fun i e hi=>by
 by_cases a:i<xss.length
 ·rw[List.getElem?_append_left a] at hi;obtain ⟨f,g,h1,j⟩:=h i e hi;exact ⟨f,g,Cv,j⟩
 ·rw[List.getElem?_append_right I] at hi;have h0:i-xss.length=0:=by
   exact IY
  rw[h0] at hi;obtain rfl:xs=e:=Fy
  have d:i=vs.length:=I
  subst d;exact ⟨b,c,Θ,hx⟩
structure RdTT (w:World) (S:Nat->Prop) (a:Option Addr) (n cap:Nat) (xss:List (List Rt)):Prop where
 row: ∃ vs,vs.length=xss.length/\Row w S 1 a n cap vs/\RdRows w S vs xss
 len:xss.length=n
theorem RdTT.keep {l:List (List Rt)} (h:RdTT w S a n cap l) (hk:Keep T w w') (hST: ∀ b,b<w.heap.size->S b->T b):RdTT w' S a n cap l:=by
 obtain ⟨⟨c,d,e,f⟩,g⟩:=h;exact ⟨⟨c,d,e.keep hk hST,f.keep hk hST⟩,g⟩
theorem RdTT.grow {l:List (List Rt)} (h:RdTT w S a n cap l) (hk:Grow w w'):RdTT w' S a n cap l:=h.keep hk fun _ _ _=>trivial
theorem RdTT.at {l:List (List Rt)} (h:RdTT w S a n cap l) (hk:k<n):
  ∃ b off xs b1 c1,a=some ⟨b,off,none⟩/\l[k]? =some xs/\S b/\b<w.heap.size/\w.cell? ⟨b,off+k,none⟩=some (.slice b1 xs.length c1)/\RdT w S b1 xs.length c1 xs:=by
 obtain ⟨⟨r,s,i,j⟩,t⟩:=h;have d:k<l.length:=I
 have c:l[k]? =some l[k]:=JR d;obtain ⟨b1,c1,f,m⟩:=j _ _ c;obtain ⟨b,off,o,p,q⟩:=i.addr (by intro e;rw[e] at f;simp at f);have g:=q _ _ f;exact ⟨b,off,l[k],b1,c1,o,c,p,World.block_lt_of_cell? w _ g,g,m⟩
def AcM (w:World) (S:Nat->Prop) (v:Value) (o:List (List Rt)×List Rt):Prop:= ∃ ma mn mc sa sn sc,v= .agg #[.slice ma mn mc, .slice sa sn sc]/\RdTT w S ma mn mc o.1/\RdT w S sa sn sc o.2
structure AcO (O:Nat) (w:World) (ma:Option Addr) (i mc:Nat) (vs:List Value) (mu:List (List Rt)) (sa:Option Addr) (sc:Nat) (s:List Rt) (ra:Option Addr) (rc:Nat) (row:List Rt):Prop where
 bO:Blk w O #[.slice ma i mc, .slice sa s.length sc] 261
 oM:Own w 202 1 ma i mc vs
 oS:Own w 207 2 sa s.length sc (rts s)
 oR:Own w 207 2 ra row.length rc (rts row)
 rr:RdRows w (fun q=>O<q/\blk sa≠some q/\blk ma≠some q/\blk ra≠some q) vs mu
 lM: ∀ q,blk ma=some q->O<q
 lS: ∀ q,blk sa=some q->O<q
 lR: ∀ q,blk ra=some q->O<q
 nMS: ∀ q,blk ma=some q->blk sa≠some q
 nMR: ∀ q,blk ma=some q->blk ra≠some q
 nSR: ∀ q,blk sa=some q->blk ra≠some q
theorem AcO.keep {row:List Rt} (h:AcO O w ma i mc vs mu sa sc s ra rc row) (k:Keep (fun q=>q<w.heap.size) w w'):AcO O w' ma i mc vs mu sa sc s ra rc row:=
 ⟨h.bO.keep k h.bO.lt,h.oM.keep k fun _ _ h=>h,h.oS.keep k fun _ _ h=>h,h.oR.keep k fun _ _ h=>h,h.rr.keep k fun _ a _=>a,h.lM,h.lS,h.lR,h.nMS,h.nMR,h.nSR⟩
theorem AcO.grow {row:List Rt} (h:AcO O w ma i mc vs mu sa sc s ra rc row) (k:Grow w w'):AcO O w' ma i mc vs mu sa sc s ra rc row:=h.keep (k.any.mono fun _ _ _=>trivial)
theorem AcO.fresh {g:Nat} (h:AcO O w ma i mc vs mu sa sc s none 0 []) (hg:g=w.heap.size):AcO O (w.alloc (.cells #[] 207)) ma i mc vs mu sa sc s (some ⟨g,0,none⟩) 0 []:=by
 have a:Grow w (w.alloc (.cells #[] 207)):=(JH _).alloc _ _;subst hg;have d:=h.bO.lt;refine ⟨h.bO.grow a,h.oM.grow a,h.oS.grow a,Own.freshAt (cs:= #[]) rfl DQ rfl,(h.rr.weak (T:=fun q=>O<q/\blk sa≠some q/\blk ma≠some q/\blk (some (⟨w.heap.size,0,none⟩:Addr))≠some q) fun b d c=>⟨c.1,c.2.1,c.2.2.1,fun e=>Bw⟩).keep a fun _ _ _=>trivial,h.lM,h.lS,fun q hq=>ψ,h.nMS,fun q hq e=> ?_,fun q hq e=> ?_⟩
 ·have:=h.oM.lt hq;simp at e;omega
 ·have:=h.oS.lt hq;simp at e;omega
theorem AcO.row {rc':Nat} {ra':Option Addr} {row:List Rt} (h:AcO O w ma i mc vs mu sa sc s ra rc row) (hA:Apped w w' 207 2 ra ra' (row.length+1) rc' (rts row++[Yv Yi r.1,Yv Yi r.2])):AcO O w' ma i mc vs mu sa sc s ra' rc' (row++[r]):=by
 have k:=hA.keep;have j:=h.bO.lt;have a: ∀ q,q<w.heap.size->blk ra≠some q->blk ra'≠some q:=fun q d hne=>by
  exact Gv
 refine ⟨h.bO.keep k fun e=>by have:=h.lR _ e;omega,h.oM.keep k fun g f _=>h.nMR g f,h.oS.keep k fun g f _=>h.nSR g f, ?_,(h.rr.weak (T:=fun q=>(O<q/\blk sa≠some q/\blk ma≠some q/\blk ra'≠some q)/\blk ra≠some q) fun b j c=>⟨⟨c.1,c.2.1,c.2.2.1,a b j c.2.2.2⟩,c.2.2.2⟩).keep k (fun _ _ c=>c.2) |>.weak fun _ _ c=>c.1,h.lM,h.lS,hA.lo I h.lR,h.nMS,fun q d=>a q (h.oM.lt d) (h.nMR q d),fun q d=>a q (h.oS.lt d) (h.nSR q d)⟩;have:=hA.own;rw[Zg9,List.length_append];exact this
theorem AcO.sq {sc':Nat} {sa':Option Addr} {row:List Rt} (h:AcO O w ma i mc vs mu sa sc s ra rc row) (hA:Apped w w' 207 2 sa sa' (s.length+1) sc' (rts s++[Yv Yi r.1,Yv Yi r.2])):AcO O (w'.setCell ⟨O,1,none⟩ (.slice sa' (s.length+1) sc')) ma i mc vs mu sa' sc' (s++[r]) ra rc row:=by
 have k:=hA.keep;have n:=h.bO.lt;have a: ∀ q,q<w.heap.size->blk sa≠some q->blk sa'≠some q:=fun q f hne=>by
  exact Gv
 have j: ∀ q,blk sa'=some q->O<q:=hA.lo I h.lS;have m:Keep (fun q=>O≠q) w' (w'.setCell ⟨O,1,none⟩ (.slice sa' (s.length+1) sc')):=kS;have o:=(h.bO.keep k fun e=>by have:=h.lS _ e;omega).set 1 (.slice sa' (s.length+1) sc');have l:(s++[r]).length=s.length+1:=Θ
 refine ⟨by rw[l];exact o,(h.oM.keep k fun g d _=>h.nMS g d).keep m fun g d _=>by have:=h.lM g d;omega, ?_,(h.oR.keep k fun g d _ e=>h.nSR g e d).keep m fun g d _=>by have:=h.lR g d;omega,
  ((h.rr.weak (T:=fun q=>(O<q/\blk sa'≠some q/\blk ma≠some q/\blk ra≠some q)/\blk sa≠some q) fun b n c=>⟨⟨c.1,a b n c.2.1,c.2.2⟩,c.2.1⟩).keep k (fun _ _ c=>c.2) |>.weak fun _ _ c=>c.1).keep m (fun _ _ c=>by have:=c.1;omega),h.lM,j,h.lR,fun q f=>a q (h.oM.lt f) (h.nMS q f),h.nMR,fun q f e=> ?_⟩
 ·have p:=hA.own.keep m fun g d _=>by have:=j g d;omega
  rw[Zg9,l];exact p
 ·exact a q (h.oR.lt e) (fun e2=>h.nSR q e2 e) f
theorem AcO.put {mc':Nat} {ma':Option Addr} {row:List Rt} (hv:vs.length=mu.length) (h:AcO O w ma i mc vs mu sa sc s ra rc row) (hA:Apped w w' 202 1 ma ma' (i+1) mc' (vs++[.slice ra row.length rc])):AcO O (w'.setCell ⟨O,0,none⟩ (.slice ma' (i+1) mc')) ma' (i+1) mc' (vs++[.slice ra row.length rc]) (mu++[row]) sa sc s none 0 []:=by
 have k:=hA.keep;have n:=h.bO.lt;have c: ∀ q,q<w.heap.size->blk ma≠some q->blk ma'≠some q:=fun q hq hne=>by
  exact Gv
 have d: ∀ q,blk ma'=some q->O<q:=hA.lo I h.lM;have l:Keep (fun q=>O≠q) w' (w'.setCell ⟨O,0,none⟩ (.slice ma' (i+1) mc')):=kS;have o:=(h.bO.keep k fun e=>by have:=h.lM _ e;omega).set 0 (.slice ma' (i+1) mc');have f:RdT w (fun q=>O<q/\blk sa≠some q/\blk ma≠some q) ra row.length rc row:=⟨h.oR.row fun q hq=>⟨h.lR q hq,fun e=>h.nSR q e hq,fun e=>h.nMR q e hq⟩,rfl⟩;have m:=((h.rr.weak (T:=fun q=>O<q/\blk sa≠some q/\blk ma≠some q) fun b _ a=>⟨a.1,a.2.1,a.2.2.1⟩).snoc hv f).weak (T:=fun q=>(O<q/\blk sa≠some q/\blk ma'≠some q/\blk none≠some q)/\blk ma≠some q) fun b n a=>⟨⟨a.1,a.2.1,c b n a.2.2,Θ⟩,a.2.2⟩;refine ⟨o, ?_,(h.oS.keep k fun g j _ e=>h.nMS g e j).keep l fun g j _=>by have:=h.lS g j;omega,Own.nilw,((m.keep k fun _ _ a=>a.2).weak fun _ _ a=>a.1).keep l (fun _ _ a=>by have:=a.1;omega),d,h.lS,fun q hq=>Fw,fun q hq e=> ?_,fun q _ e=>ET,fun q _ e=>ET⟩
 ·exact hA.own.keep l fun g j _=>by have:=d g j;omega
 ·exact c q (h.oS.lt e) (fun e2=>h.nMS q e2 e) hq
theorem AcO.start (h:Blk w O #[.slice none 0 0, .slice none 0 0] 261):AcO O w none 0 0 [] [] none 0 [] none 0 []:=
 ⟨h,Own.nilw,Own.nilw,Own.nilw,RdRows.nilw,fun _ h=>ν,fun _ h=>ν,fun _ h=>ν,fun _ h=>ν,fun _ h=>ν,fun _ h=>ν⟩
theorem AcO.rowAt {row:List Rt} (h:AcO O w ma i mc vs mu sa sc s ra rc row) (hk:k<row.length):
  ∃ b off,ra=some ⟨b,off,none⟩/\b<w.heap.size/\w.cell? ⟨b,off+k*2,none⟩=some (Yv Yi (rAt row k).1)/\w.cell? ⟨b,off+k*2+1,none⟩=some (Yv Yi (rAt row k).2):=by
 exact H8
theorem AcO.sqAt {row:List Rt} (h:AcO O w ma i mc vs mu sa sc s ra rc row) (hk:k<s.length):
  ∃ b off,sa=some ⟨b,off,none⟩/\b<w.heap.size/\w.cell? ⟨b,off+k*2,none⟩=some (Yv Yi (rAt s k).1)/\w.cell? ⟨b,off+k*2+1,none⟩=some (Yv Yi (rAt s k).2):=by
 exact Ib
theorem AcO.muAt {row:List Rt} (h:AcO O w ma i mc vs mu sa sc s ra rc row) (hv:mu.length=i) {j:Nat} (hj:j<i) (hk:k<(mu.getD j []).length):
  ∃ b off b1 o1 c1,ma=some ⟨b,off,none⟩/\b<w.heap.size/\w.cell? ⟨b,off+j,none⟩=some (.slice (some ⟨b1,o1,none⟩) (mu.getD j []).length c1)/\b1<w.heap.size/\w.cell? ⟨b1,o1+k*2,none⟩=some (Yv Yi (rAt (mu.getD j []) k).1)/\w.cell? ⟨b1,o1+k*2+1,none⟩=some (Yv Yi (rAt (mu.getD j []) k).2):=by
 exact G5
theorem AcO.rowC {row:List Rt} (h:AcO O w ma i mc vs mu sa sc s (some ⟨b,off,none⟩) rc row) (hk:k<row.length):
  b<w.heap.size/\w.cell? ⟨b,off+k*2,none⟩=some (Yv Yi (rAt row k).1)/\w.cell? ⟨b,off+k*2+1,none⟩=some (Yv Yi (rAt row k).2):=by
 obtain ⟨f,a,e,r⟩:=h.rowAt hk;injection e with e;injection e with c d;subst c d;exact r
theorem AcO.sqC {row:List Rt} (h:AcO O w ma i mc vs mu (some ⟨b,off,none⟩) sc s ra rc row) (hk:k<s.length):
  b<w.heap.size/\w.cell? ⟨b,off+k*2,none⟩=some (Yv Yi (rAt s k).1)/\w.cell? ⟨b,off+k*2+1,none⟩=some (Yv Yi (rAt s k).2):=by
 obtain ⟨f,a,e,r⟩:=h.sqAt hk;injection e with e;injection e with c d;subst c d;exact r
theorem RdTT.weak {l:List (List Rt)} (h:RdTT w S a n cap l) (hST: ∀ b,b<w.heap.size->S b->T b):RdTT w T a n cap l:=by
 obtain ⟨⟨c,d,e,f⟩,g⟩:=h;exact ⟨⟨c,d,e.weak hST,f.weak hST⟩,g⟩
theorem ZfD {g:List Int} {n i:Nat} (h:Zas g n i=none): ∀ d,Zas g n (i+d)=none
 |0=>h
 |d+1=>by show ((Zas g n (i+d)).bind _)=none;rw[ZfD h d];rfl
theorem Zjc {g:List Int} {n i j:Nat} {mu:List (List Rt)} {s:List Rt} (h:ZbB g n mu s i j=none): ∀ d,ZbB g n mu s i (j+d)=none
 |0=>h
 |d+1=>by show ((ZbB g n mu s i (j+d)).bind _)=none;rw[Zjc h d];rfl
theorem ZqL (a:Option Addr) (n cp N:Nat) (g:List Int) (w:World) (h:RdI w S a n cp g) (hl:g.length=N*N) (hN:N<=24) (hm:NumL g):
  Calls JG 297 #[.agg #[Yv Yi N,Yv Yi N, .slice a n cp]] w fun e w'=> ∃ xa xn xc ya yn yc,e= .returned (.tuple #[.agg #[.slice xa xn xc, .slice ya yn yc], .bool (Zas g N N).isSome])/\(∀ o,Zas g N N=some o->AcM w' (fun q=>w.heap.size<=q) (.agg #[.slice xa xn xc, .slice ya yn yc]) o)/\Grow w w':=by
 have ce:=h.len;have cf:N*N<=24*24:=JL hN hN;obtain ⟨w1,ah,hG1,bM,bZ, -, -⟩:=al3 w #[Yv Yi (N:Int),Yv Yi (N:Int), .slice a n cp] 37 #[.slice none 0 0, .slice none 0 0] 261 #[.slice none 0 0, .slice none 0 0] 261;have a3:AcO (w.heap.size+1+1) w1 none 0 0 [] [] none 0 [] none 0 []:=AcO.start (by rw[ah];exact Blk.newAt _ _ _ Θ);have bm:RdI w1 (fun q=>q<w.heap.size) a n cp g:=(h.weak (T:=fun q=>q<w.heap.size) (fun _ hb _=>hb)).grow hG1;have bn:=hid ah;clear ah h;go_enter func297,ntmps297;go_wp2_with fail;rw[←bn.out];go_loopw [5] (fun iv wr=>Keep (fun q=>q<w.heap.size+1+1) w1 wr/\ ∃ (i mc sc:Nat) (ma sa:Option Addr) (vs:List Value) (mu:List (List Rt)) (s:List Rt),i<=N/\iv=Yv Yi i/\Zas g N i=some (mu,s)/\AcO (w.heap.size+1+1) wr ma i mc vs mu sa sc s none 0 []) (fun i _=>N-(intOf i).toNat);case atStart=>exact ⟨JO _ _,0,0,0,_,_,_,_,_,JI _,rfl,rfl,a3⟩
 case round=>
  clear a3;obtain ⟨H,i,mc,sc,ma,sa,vs,mu,s,hi,rfl,hI,hA⟩:=hrel;have D:=bM.keep H I;obtain ⟨⟨m0,m1,m2⟩, -⟩:=D.three;have z:=D.lt;by_cases a4:i<N
  ·have y:=hA.fresh rfl;have HI:=hid hI;have HLn:=hid (Zd7 hI);clear hI;go_wp2;obtain ⟨wo,rfl⟩:=eX wr;go_loopw [6,7] (fun rv jv wr=>Keep (fun q=>q<w.heap.size+1+1) w1 wr/\ ∃ (j rc W:Nat) (X J:Option Addr) (d s':List Rt),j<=i+1/\jv=Yv Yi j/\rv= .slice X d.length rc/\AcO (w.heap.size+1+1) wr ma i mc vs mu J W s' X rc d/\(j<=i->s'=s/\ZbB g N mu s i j=some d)/\(j=i+1->Zas g N (i+1)=some (mu++[d],s'))) (fun _ j _=>i+1-(intOf j).toNat);case atStart=>exact ⟨H.alloc _ _,0,0,sc,_,sa,[],s,JI _,rfl,rfl,y,fun _=>⟨rfl,rfl⟩,fun e=>I⟩
   case round=>
    clear y hA H m0 m1 m2 z D;obtain ⟨Y,j,rc,W,X,J,d,s',hj,rfl,rfl,hA,ai,aj⟩:=hrel;have D:=bM.keep Y I;obtain ⟨⟨m0,m1,m2⟩, -⟩:=D.three;have z:=D.lt;by_cases bo:j<=i
    ·obtain ⟨rfl,hJ⟩:=ai bo;have a5:=hid (Zhy hJ);have HJ:=hid hJ;clear ai aj hJ;have bp:RdI wr (fun q=>q<w.heap.size) a n cp g:=bm.keep Y (fun q _ hq=>I);have cg:=Zf (C:=N) (R:=N) (show j<N by omega) a4;have bq: -400000000<=cell g N i j/\cell g N i j<=400000000:=Zk hm N i j;obtain ⟨c,hc⟩: ∃ c,cell g N i j=c:=⟨_,rfl⟩;go_wp2_with fail;refine (ZaA a n cp N i j (i*N+j) (N:Int) (cell g N i j) g _ bp rfl (Zeq hl a4 I) I I I I).mono ?_;rintro e w2 ⟨rfl,a6⟩;rw[hc] at bq ⊢;have HC:=hid hc;clear hc;go_wp2_with fail;refine (Zop c _).mono ?_;rintro e L ⟨rfl,a7⟩;obtain ⟨w4,a8,br,bR, -⟩:=al1 L #[Yv Yi c,Yv Yi 1] 207;have ba:Grow wr w4:=(a6.trans a7).trans br;have ch:=(a6.trans a7).size;have bs:=hid a8;clear a8 m0 m1 m2 z;go_wp2;rw[←bs.out];obtain ⟨wm,rfl⟩:=eX wr;go_loopw [9] (fun kv wr=>Keep (fun q=>q<L.heap.size) w4 wr/\ ∃ (k:Nat) (p x:Int),k<=j/\kv=Yv Yi k/\Blk wr L.heap.size #[Yv Yi p,Yv Yi x] 207/\ZcH mu s' d i j k (c,1)=(p,x)) (fun k _=>j-(intOf k).toNat);case atStart=>exact ⟨JO _ _,0,c,1,JI _,rfl,bR,rfl⟩
     case round=>
      clear bR;obtain ⟨Z,k,p,x,hk,rfl,bR,bb⟩:=hrel;have aa:=hA.keep ((ba.any.mono fun _ _ _=>trivial).trans (Z.mono fun q _ (hq:q<wm.heap.size)=>I));have ak:=hid bb;clear bb;by_cases bc:k<j
      ·go_wp2_with fail;refine (Zop 1 _).mono ?_;rintro e w5 ⟨rfl,E⟩;have al:k<d.length:=(by rw[a5.out];exact bc);have bd:k<s'.length:=Ea;have hA5:=aa.grow E;obtain ⟨rb,ro,bt, -⟩:=hA5.rowAt al;obtain ⟨sb,so,am, -⟩:=hA5.sqAt bd;subst bt am;have an:Grow w5 (w5.alloc (.cells #[Yv Yi 1,Yv Yi 1] 207)):=(JH _).alloc _ _;have F:=hA5.grow an;have ab:=Blk.new w5 #[Yv Yi 1,Yv Yi 1] 207;obtain ⟨⟨t0,t1⟩,be,bf⟩:=ab.two;have ag:=ab.lt;by_cases hji:j=i
       case' pos=>
        obtain ⟨bv,p0,p1⟩:=F.rowC al;have q1:((j:Int)==(i:Int))=true:=(by simp[hji]);have bw:=hid hji;clear hji;go_wp2_with fail;clear t0 t1 be bf ag ab bv p0 p1 F an;obtain ⟨ot,hot⟩:=eX (rAt d k);have t:=hid (show ZcH mu s' d i j (k+1) (c,1)=ZdQ (p,x) (ZA (ZA (rAt d k) ot) (rAt s' k)) by
         simp only[ZcH];rw[ak.out,if_pos bw.out,hot];rfl)
        obtain ⟨w7,hw7⟩:=eX (w5.alloc (.cells #[Yv Yi (rAt d k).1,Yv Yi (rAt d k).2] 207));rw[←hw7];rw[←hot] at hw7;clear hot
       case' neg=>
        obtain ⟨o0,o1⟩:=F.bO.two.1;have bg:k<(mu.getD j []).length:=AL;obtain ⟨b2,o2,b3,o3,c3,bx,bz,u0,b0,u1,u2⟩:=F.muAt HLn.out.1 (show j<i by omega) bg;subst bx;obtain ⟨mr,ao⟩:=eX (mu.getD j []);rw[←ao] at u0 u1 u2 bg;have b1:=hid ao;clear ao;have q1:((j:Int)==(i:Int))=false:=μ;have ca:j<i:=I;have A:=F.bO.lt;go_wp2_with fail;clear t0 t1 be bf ag ab o0 o1 bz u0 b0 u1 u2 A F an;obtain ⟨ot,hot⟩:=eX (rAt mr k);have t:=hid (show ZcH mu s' d i j (k+1) (c,1)=ZdQ (p,x) (ZA (ZA (rAt d k) ot) (rAt s' k)) by
         simp only[ZcH];rw[ak.out,if_neg hji, ←b1.out,hot];rfl)
        obtain ⟨w7,hw7⟩:=eX (w5.alloc (.cells #[Yv Yi (rAt mr k).1,Yv Yi (rAt mr k).2] 207));rw[←hw7];rw[←hot] at hw7;clear hot
       all_goals
        have ap:Grow w5 w7:=(by rw[hw7];exact (JH _).alloc _ _);have bT:Blk w7 w5.heap.size #[Yv Yi ot.1,Yv Yi ot.2] 207:=(by rw[hw7];exact Blk.new _ _ _);have M:=E.trans ap;have ad:=aa.grow M;have bh:=bR.grow M;obtain ⟨cb,p0,p1⟩:=ad.rowC al;obtain ⟨cc,s0,s1⟩:=ad.sqC bd;obtain ⟨⟨o0,o1⟩, -⟩:=ad.bO.two;clear hw7;generalize rAt d k=rk at *;generalize rAt s' k=sk at *;obtain ⟨t1,t2⟩:=ot;obtain ⟨x1,x2⟩:=rk;obtain ⟨y1,y2⟩:=sk;simp only at p0 p1 s0 s1 bT;refine ZeC 14 [([0,1,2,3,4,5,7,8,9,10,11],some 6),([],some 12),([],some 13),([],some 14)] ?_;refine Zct ?_;intro K hK;refine (Zhr (x1,x2) (t1,t2) _).mono ?_;rintro e w8 ⟨rfl,aq⟩;have O:=(JH w7).drew.trans aq;go_wp2_with fail;refine hK _ _ ((fun _=>O)) ?_;clear hK K;refine Zct ?_;intro K hK;refine (Zhr (ZA (x1,x2) (t1,t2)) (y1,y2) _).mono ?_;rintro e w9 ⟨rfl,b4⟩;have f:=O.trans b4;go_wp2_with fail;refine hK _ _ ((fun _=>f)) ?_;clear hK K;refine Zct ?_;intro K hK;refine (Zou (p,x) (ZA (ZA (x1,x2) (t1,t2)) (y1,y2)) _).mono ?_;rintro e wa ⟨rfl,bi⟩;have ar:=f.trans bi;go_wp2_with fail;refine hK _ _ ((fun _=>ar)) ?_;clear hK K;refine Zh ?_;refine ZY rfl (fun K hK=> ?_);generalize ZdQ (p,x) (ZA (ZA (x1,x2) (t1,t2)) (y1,y2))=rn at *;obtain ⟨n1,n2⟩:=rn;have ae:=bh.grow ar;obtain ⟨⟨ci,cj⟩,ck,cl⟩:=ae.two;have B:=ae.lt;have b5:=(ae.set 0 (Yv Yi n1)).set 1 (Yv Yi n2);have af:Keep (fun q=>q≠L.heap.size) wa ((wa.setCell ⟨L.heap.size,0,none⟩ (Yv Yi n1)).setCell ⟨L.heap.size,1,none⟩ (Yv Yi n2)):=kS;have P:Keep (fun q=>q<L.heap.size) w4 ((wa.setCell ⟨L.heap.size,0,none⟩ (Yv Yi n1)).setCell ⟨L.heap.size,1,none⟩ (Yv Yi n2)):=(Z.trans (M.trans ar).any).trans (af.mono fun q _ hq=>I);clear p0 p1 s0 s1 o0 o1 bT ad bh ae;go_wp2_with fail;refine hK _ _ ((fun h=>(h rfl).elim)) ?_;clear hK K;refine Z8 ?_;go_wp2;go_roundw;case rel=>exact ⟨P,k+1,n1,n2,I,Δ,b5,t.out⟩
        case measure=>exact FN
      ·have Hr:=hid (show ZcH mu s' d i j j (cell g N i j,1)=(p,x) by
        rw[HC.out];have ek:k=j:=I;have:=ak.out;rw[ek] at this;exact this)
       obtain ⟨⟨c0,c1⟩,av,aw⟩:=bR.two;have B:=bR.lt;go_wp2_with fail;refine (ZbJ (p,x) _).mono ?_;rintro e w5 ⟨rfl,E⟩;have hA5:=aa.grow E;have bj:=bR.grow E;have cm:=hA.bO.lt;have b6:Keep (fun q=>q<w.heap.size+1+1) wm w5:=((ba.any.mono fun _ _ _=>trivial).trans (Z.mono fun q _ (hq:q<w.heap.size+1+1)=>I)).trans (E.any.mono fun _ _ _=>trivial);have hK5:Keep (fun q=>q<w.heap.size+1+1) w1 w5:=Y.trans b6;clear c0 c1 av aw B aa bR Z;cases hq:isR (p,x) with
       |false=>
        have HN:=hid (show Zas g N N=none by
         have e1:ZbB g N mu s' i (j+1)=none:=Dj;have e2:Zas g N (i+1)=none:=by
          exact GA
         have e3:=ZfD e2 (N-(i+1));rw[show i+1+(N-(i+1))=N by omega] at e3;exact e3)
        exact GK
       |true=>
        obtain ⟨⟨c0,c1⟩,av,aw⟩:=bj.two;have B:=bj.lt;by_cases hji:j<i
        ·have bk:j<s'.length:=(by rw[HLn.out.2.1];exact hji);obtain ⟨sb,so,am, -⟩:=hA5.sqAt bk;subst am;obtain ⟨b7,s0,s1⟩:=hA5.sqC bk;obtain ⟨⟨o0,o1⟩, -⟩:=hA5.bO.two;have cn:blk X≠some (w.heap.size+1+1):=fun e=>FB;have co:blk X≠some L.heap.size:=fun e=>(by have:=hA.oR.lt e;omega);have cq:blk X≠some sb:=hA5.nSR sb rfl;have t:=hid (show ZbB g N mu s' i (j+1)=some (d++[ZcW (p,x) (rAt s' j)]) by
          show ((ZbB g N mu s' i j).bind _)=_;rw[HJ.out,Option.bind_some,Hr.out,if_pos hq])
         generalize rAt s' j=sk at *;obtain ⟨y1,y2⟩:=sk;simp only at s0 s1;go_wp2_with fail;clear c0 c1 av aw B b7;refine Zcr (fun q=>blk X≠some q) [([0,1,2,3,4,5,6],some 7),([],some 8),([],some 9),([10],none)] ?_;refine Zh ?_;obtain ⟨w7,hw7⟩:=eX w5.drew;rw[←hw7];have ap:Grow w5 w7:=Cu;clear hw7;refine Zu rfl (fun K hK=> ?_);go_wp2_with fail;refine (Ztt (p,x) (y1,y2) _).mono ?_;rintro e w8 ⟨rfl,aq⟩;have O:=ap.trans aq;go_wp2_with fail;refine hK _ _ (O.any) ?_;clear hK K;generalize ZcW (p,x) (y1,y2)=dv at *;obtain ⟨d1,d2⟩:=dv;refine ZR ?_;intro K hK;have f:=O.alloc #[Yv Yi d1,Yv Yi d2] 207;refine hK _ _ (f.any) ?_;clear hK K;refine Zh ?_;refine Zu rfl (fun K hK=> ?_);have l:=hA5.grow f;have cr:d.length<=24:=(by rw[a5.out];omega);refine ZiY (.tmp 71) (.tmp 79) _ rfl ZkY rfl l.oR rfl (Row.built (S:=fun _=>True) 1 Γ rfl trivial) γ I Γ ?_;intro a9 c9 w9 m;have G:Keep (fun q=>blk X≠some q) w5 w9:=f.any.trans m.keep;have y:=l.row (r:=(d1,d2)) m;refine hK _ _ (G) ?_;clear hK K;simp only[putP];refine Zh ?_;refine Ze ?_;go_wp2;go_roundw;case rel=>exact ⟨hK5.trans (G.mono fun q _ hq e=>FB),j+1,c9,W,a9,_,d++[(d1,d2)],s',I,Δ,Θ,y,fun _=>⟨rfl,t.out⟩,fun e=>I⟩
         case measure=>exact FN
        ·have ax:j=i:=I;have HJi:=hid (show ZbB g N mu s' i i=some d by have:=HJ.out;rw[ax] at this;exact this);have Hri:=hid (show ZcH mu s' d i i i (cell g N i i,1)=(p,x) by have:=Hr.out;rw[ax] at this;exact this);clear ax;by_cases cd:p<=0
         ·have HN:=hid (show Zas g N N=none by
           have e2:Zas g N (i+1)=none:=Cz;have e3:=ZfD e2 (N-(i+1));rw[show i+1+(N-(i+1))=N by omega] at e3;exact e3)
          exact GK
         ·have ay:=hid (show Zas g N (i+1)=some (mu++[d],s'++[(p,x)]) by
           simp only[Zas,HI.out,Option.bind_some,HJi.out,Hri.out,hq,Bool.true_and];rw[if_pos Ψ])
          obtain ⟨⟨o0,o1⟩, -⟩:=hA5.bO.two;have cs:blk J≠some (w.heap.size+1+1):=fun e=>F9;have ct:blk J≠some L.heap.size:=fun e=>(by have:=hA.oS.lt e;omega);have cv:s'.length<=24:=Ea;have f:Grow w5 (w5.alloc (.cells #[Yv Yi p,Yv Yi x] 207)):=(JH w5).alloc _ _;have l:=hA5.grow f;have b8:=l.oS;go_wp2_with (first |(at_builtin;refine ZD rfl (.tmp 86) (.tmp 88) _ rfl ZkY rfl b8 rfl (Row.bAt6 (S:=fun _=>True) 1 rfl Γ rfl (fun _=>trivial)) γ I Γ ?_;intro a9 c9 w9 m;have V:=l.bO.keep m.keep (fun e=>by have:=l.lS _ e;omega);obtain ⟨⟨x0,x1⟩,g0,g1⟩:=V.two;have A:=V.lt));have G:Keep (fun q=>blk J≠some q) w5 w9:=f.any.trans m.keep;have y:=l.sq (r:=(p,x)) m;have P:Keep (fun q=>q<w.heap.size+1+1) w1 (w9.setCell ⟨w.heap.size+1+1,1,none⟩ (.slice a9 (s'.length+1) c9)):=(hK5.trans (G.mono fun q _ (hq:q<w.heap.size+1+1) e=>F9)).setCell (fun _ (h:w.heap.size+1+1<w.heap.size+1+1)=>I) _;go_roundw;case rel=>exact ⟨P,j+1,rc,c9,_,a9,d,s'++[(p,x)],I,Δ,rfl,y,fun e=>I,fun _=>ay.out⟩
          case measure=>exact FN
    ·have ay:=hid (aj I);have az:vs.length=mu.length:=Cb;clear ai aj m0 m1 m2 z;obtain ⟨⟨o0,o1⟩, -⟩:=hA.bO.two;have cw:blk ma≠some (w.heap.size+1+1):=fun e=>(by have:=hA.lM _ e;omega);have f:Grow wr (wr.alloc (.cells #[.slice X d.length rc] 202)):=(JH wr).alloc _ _;have l:=hA.grow f;have b9:=l.oM;go_wp2_with (first |(at_builtin;refine ZD rfl (.tmp 92) (.tmp 94) _ rfl ZpK rfl b9 rfl (Row.bAt6 (S:=fun _=>True) 1 rfl Γ rfl (fun _=>trivial)) γ I Γ ?_;intro a9 c9 w9 m;have V:=l.bO.keep m.keep (fun e=>by have:=l.lM _ e;omega);obtain ⟨⟨x0,x1⟩,g0,g1⟩:=V.two;have A:=V.lt));have G:Keep (fun q=>blk ma≠some q) wr w9:=f.any.trans m.keep;have y:=AcO.put az l m;have P:Keep (fun q=>q<w.heap.size+1+1) w1 (w9.setCell ⟨w.heap.size+1+1,0,none⟩ (.slice a9 (i+1) c9)):=(Y.trans (G.mono fun q _ (hq:q<w.heap.size+1+1) e=>by have:=hA.lM _ e;omega)).setCell (fun _ (h:w.heap.size+1+1<w.heap.size+1+1)=>I) _;go_roundw;case rel=>exact ⟨P,i+1,c9,W,a9,_,_,mu++[d],s',I,Δ,ay.out,y⟩
     case measure=>exact FN
  ·have bl:Zas g N N=some (mu,s):=EA;have HN:=hid bl;clear bl;have HLn:=hid (Zd7 hI);clear hI;obtain ⟨⟨o0,o1⟩,cx,cy⟩:=hA.bO.two;have A:=hA.bO.lt;have a2:=bZ.keep H I;obtain ⟨⟨z0,z1⟩,cz,c2⟩:=a2.two;have hltZ:=a2.lt;have h1:w.heap.size<=w.heap.size+1:=I;have hGf:Grow w wr:=hG1.keep H fun q hq=>I;go_wp2;refine Zb ZnB rfl rfl rfl ((a2.set 0 _).set 1 _) ⟨_,_,_,_,_,_,Ah,fun o1 o2 ho=> ?_,(hGf.setCell h1 _).setCell h1 _⟩;rw[HN.out] at ho;obtain ⟨rfl,rfl⟩:=Prod.mk.inj (Option.some.inj ho);have af: ∀ u v:Value,Keep (fun q=>q≠w.heap.size+1) wr ((wr.setCell ⟨w.heap.size+1,0,none⟩ u).setCell ⟨w.heap.size+1,1,none⟩ v):=fun u v=>kS;have az:vs.length=mu.length:=Cb;refine ⟨_,_,_,_,_,_,rfl, ?_, ?_⟩
   ·exact (RdTT.keep (S:=fun q=>w.heap.size+1+1<q) ⟨⟨vs,az,hA.oM.row hA.lM,hA.rr.weak fun _ _ h=>h.1⟩,HLn.out.1⟩ (af _ _) fun b _ hb=>I).weak fun b _ hb=>I
   ·exact (RdT.keep (S:=fun q=>w.heap.size+1+1<q) ⟨hA.oS.row hA.lS,rfl⟩ (af _ _) fun b _ hb=>I).weak fun b _ hb=>I

end Go.Proofs.YtgjefeiddfjjnaaGreatDoor
