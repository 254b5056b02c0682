/- AddMatrices: the program's, for all arguments. -/
import Derived.Test.YtgjefeiddfjjnaaGreatDoorZHermS
import Derived.Test.YtgjefeiddfjjnaaGreatDoorZDetI
import Derived.Test.YtgjefeiddfjjnaaGreatDoorZTurn
import Derived.Test.YtgjefeiddfjjnaaGreatDoorZNorm
set_option maxHeartbeats 8000000
set_option maxRecDepth 100000
namespace Go.Proofs.YtgjefeiddfjjnaaGreatDoor
open Go.RowKit
open Lib (hid)
open Go.Value renaming int->Yv
open Go.IntKind renaming i64->Yi
open Bool renaming and_eq_true->JQ
open Grow renaming refl->JH
open Int renaming le_total->Qa,mul_le_mul->Ou,mul_nonpos_of_nonneg_of_nonpos->Qb
open IntWalk renaming i64_in->Kh
open List renaming getD_eq_getElem?_getD->Kr,getElem?_eq_getElem->JR,range->JN
open Nat renaming mul_le_mul->JL,zero_le->JI
open Go.Proofs.Tryz renaming func217->PY,ntmps217->PZ,prog->JG
open Go.Proofs.Tryz
variable {A B a b m:Mat} {S T:Nat->Prop} {c n:Nat} {u v:Value} {w:World} {xs ys:List Int}
def amV (xs ys:List Int) (k:Nat):Int:=xs.getD k 0+ys.getD k 0
def amL (xs ys:List Int):List Int:=(JN xs.length).map (amV xs ys)
theorem ZpY (xs ys:List Int):(amL xs ys).length=xs.length:=by simp[amL]
theorem Zl6 {f:Nat->Int}: ∀ {n:Nat} {zs:List Int},zs.length=n->Zz f 0 n zs=(JN n).map f:=fun {n zs} h=>by
 apply List.ext_getElem
 ·rw[ZM];simp[h]
 ·intro i a h2;have b:i<n:=Cd
  have:=ZaV (f:=f) (o:=0) (k:=n) (m:=zs) I i;rw[if_pos I] at this;rw[Kr,JR a] at this;simpa using this
theorem Zu7 (nx:NumL xs) (ny:NumL ys) (k:Nat): -800000000<=amV xs ys k/\amV xs ys k<=800000000:=by
 have:=nx.getD k;have:=ny.getD k;unfold amV;omega
theorem Zpy (nx:NumL xs) (ny:NumL ys): ∀ x∈amL xs ys,I64 x:=fun x a=>by
 unfold amL at a;obtain ⟨k,_,rfl⟩:=List.mem_map.1 a;have:=Zu7 nx ny k;unfold I64;omega
def amM (a b:Mat):Mat:={rows:=a.rows,cols:=a.cols,cells:=amL a.cells b.cells}
def Zff (a b:Mat):Bool:=Zd a&&(Zd b&&((a.rows==b.rows)&&(a.cols==b.cols)))
def ZfK (a b:Mat):Bool:=Zff a b&&Zd (amM a b)
def amB (a b:Mat):Mat:=if Zff a b=true then okM (amM a b) else {rows:=0,cols:=0,cells:=[]}
theorem ZrN (h:Zff a b=false):ZfK a b=false/\amB a b={rows:=0,cols:=0,cells:=[]}:=by unfold ZfK amB;rw[h];exact ⟨rfl,rfl⟩
theorem Zji (h:Zff a b=true):ZfK a b=Zd (amM a b)/\amB a b=okM (amM a b):=by unfold ZfK amB;rw[h];exact ⟨Θ,Θ⟩
theorem ZuL (h:VM w S u A) (h':VM w T v B) (hb:bdM A<=1048576) (hb':bdM B<=1048576) (hF:Zff A B=false):
  Calls JG 217 #[u,v] w fun e w'=> ∃ r,e= .returned (.tuple #[r, .bool (ZfK A B)])/\OM w' (New w w') r (amB A B)/\Grow w w':=by
 have z:=h;have C:=h';obtain ⟨D,E,F,rfl, -⟩:=h;obtain ⟨G,H,J,rfl, -⟩:=h';have Hn:=hid (ZrN hF);obtain ⟨M,i,j,c,d,bZ, -⟩:=al3 w #[Yv Yi A.rows,Yv Yi A.cols, .slice D E F] 37 #[Yv Yi B.rows,Yv Yi B.cols, .slice G H J] 37 #[Yv Yi 0,Yv Yi 0, .slice none 0 0] 37;have m:=hid i;clear i;have k:=hid (show (Zd A&&(Zd B&&((A.rows==B.rows)&&(A.cols==B.cols))))=false from hF);clear hF;go_enter PY,PZ;go_wp2_with fail;rw[←m.out];refine (ZG (z.grow j) I).mono ?_;rintro e N ⟨rfl,a⟩;replace c:=c.grow a;replace d:=d.grow a;replace bZ:=bZ.grow a;have hG:=j.trans a;obtain ⟨⟨p,q,s⟩, -⟩:=c.three;obtain ⟨⟨t,x,y⟩, -⟩:=d.three;have f:=c.lt;have g:=d.lt;cases n:Zd A with
 |false=>
  clear n;have hle:w.heap.size<=w.heap.size+1+1:=I
  exact FQ
 |true=>
  rw[n] at k;clear n;go_wp2_with fail;refine (ZG (C.grow hG) I).mono ?_;rintro e O ⟨rfl,b⟩;clear p q s t x y f g;replace c:=c.grow b;replace d:=d.grow b;replace bZ:=bZ.grow b;replace hG:=hG.trans b;obtain ⟨⟨p,q,s⟩, -⟩:=c.three;obtain ⟨⟨t,x,y⟩, -⟩:=d.three;have f:=c.lt;have g:=d.lt;cases o:Zd B with
  |false=>clear o;have hle:w.heap.size<=w.heap.size+1+1:=I;exact FQ
  |true=>
   rw[o] at k;clear o;by_cases l:A.rows=B.rows
   ·have L:(A.rows !=B.rows)=false:=(by simp[l]);have P:(A.cols !=B.cols)=true:=(by have:=k.out;simp[l] at this;simp[this]);clear l k;have hle:w.heap.size<=w.heap.size+1+1:=I;exact FQ
   ·have L:(A.rows !=B.rows)=true:=(by simp[l]);clear l k;have hle:w.heap.size<=w.heap.size+1+1:=I;exact FQ
theorem ZtV {aa ab:Option Addr} {na nb ca cb R C:Nat} (hA:RdI w S aa na ca xs) (hB:RdI w T ab nb cb ys) (nx:NumL xs) (ny:NumL ys) (hR:R<=24) (hC:C<=24) (hlX:xs.length=R*C) (hlY:ys.length=R*C):
  Calls JG 217 #[.agg #[Yv Yi (R:Int),Yv Yi (C:Int), .slice aa na ca], .agg #[Yv Yi (R:Int),Yv Yi (C:Int), .slice ab nb cb]] w fun e w'=> ∃ r,e= .returned (.tuple #[r, .bool (Zd {rows:=(R:Int),cols:=(C:Int),cells:=amL xs ys})])/\OM w' (New w w') r (okM {rows:=(R:Int),cols:=(C:Int),cells:=amL xs ys})/\Grow w w':=by
 have bz:R*C<=24*24:=JL hR hC;have G:=hA.len;have H:=hB.len;have av:=hid (Zay hR hC hlX nx);have aw:=hid (Zay hR hC hlY ny);obtain ⟨K,ax⟩:=eX na;obtain rfl:nb=K:=I
 obtain rfl:na=nb:=I
 clear ax;have h:na<=576:=I
 have vA:VM w S (.agg #[Yv Yi (R:Int),Yv Yi (C:Int), .slice aa na ca]) {rows:=(R:Int),cols:=(C:Int),cells:=xs}:=⟨aa,na,ca,rfl,hA,δ,η⟩;have vB:VM w T (.agg #[Yv Yi (R:Int),Yv Yi (C:Int), .slice ab na cb]) {rows:=(R:Int),cols:=(C:Int),cells:=ys}:=⟨ab,na,cb,rfl,hB,δ,η⟩;have b3:bdM {rows:=(R:Int),cols:=(C:Int),cells:=xs}<=1048576:=Al
 have b4:bdM {rows:=(R:Int),cols:=(C:Int),cells:=ys}<=1048576:=Al
 have J:=Zpy nx ny;have i:=hid G;have b5:=hid H;have q0:((R:Int)!=(R:Int))=false:=Θ
 have q1:((C:Int)!=(C:Int))=false:=Θ
 clear hlX hlY;obtain ⟨w3,s,t,v,z,L, -⟩:=al3 w #[Yv Yi (R:Int),Yv Yi (C:Int), .slice aa na ca] 37 #[Yv Yi (R:Int),Yv Yi (C:Int), .slice ab na cb] 37 #[Yv Yi 0,Yv Yi 0, .slice none 0 0] 37;obtain ⟨⟨M,N,O⟩, -⟩:=v.three;rw[s] at M N O;have ay:=hid s;clear s G H;go_enter PY,PZ;go_wp2_with fail;rw[←ay.out];refine (ZG (vA.grow t) I).mono ?_;rintro e w4 ⟨rfl,f⟩;rw[av.out];clear M N O;obtain ⟨⟨b0,b1,b2⟩, -⟩:=(z.grow f).three;go_wp2_with fail;refine (ZG ((vB.grow t).grow f) I).mono ?_;rintro e P ⟨rfl,j⟩;rw[aw.out];clear b0 b1 b2;have a:=(t.trans f).trans j;replace v:=(v.grow f).grow j;replace z:=(z.grow f).grow j;replace L:=(L.grow f).grow j;obtain ⟨⟨M,N,O⟩, -⟩:=v.three;obtain ⟨⟨b0,b1,b2⟩, -⟩:=z.three;have bq:=v.lt;have br:=z.lt;have bs:=L.lt;have bt:=a.size;go_wp2_with fail;refine (Zbx (vA.grow a) I).mono ?_;rintro e w6 ⟨rv,rfl,az,d⟩;obtain ⟨ra,rn,V,rfl,F,rR,W,i1,i2⟩:=az;have X:rn=na:=by have h1:=F.len;have h2:=i.out;simp[ints] at h1;omega
 subst X;obtain ⟨n,l⟩:=eX xs;have A:=hid (show n.length=rn by rw[l];exact i.out);have a3:=hid l;simp only at F rR i1 i2;rw[←l] at F;have fR: ∀ g,blk ra=some g->P.heap.size<=g:=fun g hg=>(W g hg).1;obtain ⟨na,a4⟩:=eX rn;subst a4;clear l i1 i2 rR W;have b6:na<=576:=h;have Y:=v.grow d;have Z:=z.grow d;have ad:=L.grow d;have ae:=a.trans d;have hlo: ∀ g,blk ra=some g->P.heap.size<=g:=fun g hg=>fR g hg;have af: ∀ g,blk ra=some g->g<w6.heap.size:=fun g hg=>F.lt hg;have b7:=d.size;obtain ⟨w7,ag,b,a5, -⟩:=al1 w6 #[Yv Yi (R:Int),Yv Yi (C:Int), .slice ra na V] 37;have ah:=F.grow b;have a6:=Y.grow b;have a7:=Z.grow b;have a8:=ad.grow b;have ai:=ae.trans b;have b8:=b.size;have aj: ∀ g,g<w7.heap.size->g<P.heap.size->blk ra≠some g:=fun g _ hg e=>ε
 have ba:=(((hA.grow a).weak (T:=fun g=>g<P.heap.size) (fun g hg _=>hg)).grow d).grow b;have bb:=(((hB.grow a).weak (T:=fun g=>g<P.heap.size) (fun g hg _=>hg)).grow d).grow b;have bc:=hid ag;have bd:=hid (show Zz (amV xs ys) 0 na n=amL xs ys by unfold amL;rw[i.out];exact Zl6 A.out);clear ag M N O b0 b1 b2 F v z L Y Z ad vA vB;go_wp2;rw[←bc.out];go_loopw [36] (fun q wr=>Keep (fun g=>blk ra≠some g) w7 wr/\ ∃ k:Nat,k<=na/\q=Yv Yi k/\Own wr 3 1 ra na V (ints (Zz (amV xs ys) 0 k n))) (fun q _=>na-(intOf q).toNat);case atStart=>exact ⟨Keep.refl _ _,0,JI _,rfl,ah⟩
 case round=>
  clear ah;obtain ⟨u,rfl⟩:=eX wr;obtain ⟨c,k,hk,rfl,hO⟩:=hrel;have ak:=a5.keep c (fun e=>by have:=af _ e;omega);have al:=a6.keep c (fun e=>ε);have am:=a7.keep c (fun e=>ε);obtain ⟨⟨o0,o1,o2⟩, -⟩:=ak.three;have bv:=ak.lt;by_cases be:k<na
  ·obtain ⟨⟨M,N,O⟩, -⟩:=al.three;obtain ⟨⟨b0,b1,b2⟩, -⟩:=am.three;have bf:=al.lt;have bg:=am.lt;have an:(Zz (amV xs ys) 0 k n).length=na:=(by rw[ZM,A.out]);have b9:=ba.keep c aj;have bh:=bb.keep c aj;have hx:=nx.getD k;have hy:=ny.getD k;obtain ⟨o,rfl⟩: ∃ o,ra=some ⟨o,0,none⟩:=by
    exact Jp
   have ao:(Zz (amV xs ys) 0 k n).getD k 0=xs.getD k 0:=(by rw[ZaV (by rw[A.out];omega),if_neg I,a3.out]);have bi:=hO.cell (Zab I ao);obtain ⟨cc,bw,y,rfl,ap, -, -,bx,bj⟩:=bh.at be;obtain rfl:y=ys.getD k 0:=(by rw[Kr,ap];rfl);have cd:=hO.lt (g:=o) rfl;have bk:=hO.free k;have m:=hO.le;have Hst:=hid (show Zz (amV xs ys) 0 (k+1) n=(Zz (amV xs ys) 0 k n).set k (xs.getD k 0+ys.getD k 0) by simp[Zz,amV]);have B:Own ((u.setCell ⟨o,k,none⟩ (Yv Yi (xs.getD k 0+ys.getD k 0))).drew) 3 1 (some ⟨o,0,none⟩) na V (ints (Zz (amV xs ys) 0 (k+1) n)):=BV;have bl:Keep (fun g=>blk (some (⟨o,0,none⟩:Addr))≠some g) w7 ((u.setCell ⟨o,k,none⟩ (Yv Yi (xs.getD k 0+ys.getD k 0))).drew):=(c.setCell (p:=⟨o,k,none⟩) (fun _ e=>e rfl) _).drew;have u5:IntKind.i64.wrap (xs.getD k 0+ys.getD k 0)=xs.getD k 0+ys.getD k 0:=Kh _ I;clear an hO ap;clear ao;simp only at bi bj bk;generalize xs.getD k 0=x at *;generalize ys.getD k 0=y at *;go_wp2;go_region;go_wp2;go_roundw;case rel=>exact ⟨bl,k+1,I,Δ,B⟩
   case measure=>exact FN
  ·have aq:k=na:=I;rw[aq,bd.out] at hO;clear aq;have bm:=a8.keep c (fun e=>ε);have ar:Grow w u:=Grow.keep (S:=fun g=>blk ra≠some g) ai c (fun g hg e=>ε);have ce:=ar.size;have bn:OM u (fun g=>w.heap.size+1+1<g/\g<u.heap.size) (.agg #[Yv Yi (R:Int),Yv Yi (C:Int), .slice ra na V]) {rows:=(R:Int),cols:=(C:Int),cells:=amL xs ys}:=(by exact ⟨ra,na,V,rfl,hO,J,(fun g hg=>⟨Aw,hO.lt hg⟩),δ,η⟩);have cf:bdM {rows:=(R:Int),cols:=(C:Int),cells:=amL xs ys}<=576:=(by unfold bdM;simp only;rw[ZpY];have:=i.out;omega);go_wp2_with fail;refine (Zmn bn I).mono ?_;rintro e w9 ⟨m9,rfl,B,D⟩;obtain ⟨a9,n9,c9,rfl,o9,x9,f9,i9,j9⟩:=B;have cg:=D.size;have E:=bm.grow D;have bo:=ar.trans D;clear o0 o1 o2;obtain ⟨⟨z0,z1,z2⟩,g0,g1,g2⟩:=E.three;have bp:=E.lt;go_wp2;have m:w.heap.size<=w.heap.size+1+1:=I;refine Zb Zc rfl rfl rfl (((E.set 0 _).set 1 _).set 2 _) ⟨_,rfl,⟨a9,n9,c9,rfl, ?_,x9, ?_,i9,j9⟩,((bo.setCell m _).setCell m _).setCell m _⟩
   ·exact o9.keep ((((Keep.refl (fun q=>q≠w.heap.size+1+1) w9).setCell (fun _ e=>e rfl) _).setCell (fun _ e=>e rfl) _).setCell (fun _ e=>e rfl) _) (fun g hg _ e=>by have:=(f9 g hg).1;omega)
   ·intro g hg;have h1:=o9.lt hg;have h2:=(f9 g hg).1;exact ⟨I,C8⟩
theorem Zv4 (h:VM w S u A) (h':VM w T v B) (hb:bdM A<=1048576) (hb':bdM B<=1048576):
  Calls JG 217 #[u,v] w fun e w'=> ∃ r,e= .returned (.tuple #[r, .bool (ZfK A B)])/\OM w' (New w w') r (amB A B)/\Grow w w':=by
 cases b:Zff A B with
 |false=>exact ZuL h h' hb hb' b
 |true=>
  rw[(Zji b).1,(Zji b).2];have c:=b;unfold Zff at c;simp only[JQ,beq_iff_eq] at c;obtain ⟨o,p,g,i⟩:=c;obtain ⟨R,C,j,k,q,s,l,m⟩:=Zl o;obtain ⟨t,x,d,f,_,_,a,n⟩:=Zl p;obtain ⟨D,E,F⟩:=A;obtain ⟨G,H,J⟩:=B;simp only at g i j k l m d f a n;subst j k;obtain rfl:t=R:=I
  obtain rfl:x=C:=I
  subst g i;obtain ⟨L,M,N,rfl,y, -, -⟩:=h;obtain ⟨O,P,V,rfl,z, -, -⟩:=h';exact ZtV y z m n q s l a
def trB (m:Mat):Mat:=if Zd m=true then Zbz m else {rows:=0,cols:=0,cells:=[]}
theorem Zli (h:VM w S v m) (hb:bdM m<=1048576):
  Calls JG 218 #[v] w fun e w'=> ∃ r,e= .returned (.tuple #[r, .bool (Zd m)])/\OM w' (New w w') r (trB m)/\Grow w w':=by
 cases hB:Zd m with
 |true=>
  have e:trB m=Zbz m:=CE
  rw[e];exact Znv h hB
 |false=>
  have He:=hid (show trB m={rows:=0,cols:=0,cells:=[]} by unfold trB;rw[hB];rfl);have o:=h;obtain ⟨a,n,c,rfl,h,p,q⟩:=h;obtain ⟨x,d,f, -,s, -⟩:=al2 w #[Yv Yi m.rows,Yv Yi m.cols, .slice a n c] 37 #[Yv Yi 0,Yv Yi 0, .slice none 0 0] 37;have j:=hid d;clear d h p q;go_enter func218,ntmps218;go_wp2_with fail;rw[←j.out];refine (ZG (o.grow f) I).mono ?_;rintro e y ⟨rfl,i⟩;rw[hB];have t:=f.trans i;have b:=s.grow i;obtain ⟨⟨z,A,B⟩,C,D,E⟩:=b.three;have l:=b.lt;have k:w.heap.size<=w.heap.size+1:=I
  clear hB;go_wp2;exact Zb Zc rfl rfl rfl (((b.set 0 _).set 1 _).set 2 _) ⟨_,rfl,BD,((t.setCell k _).setCell k _).setCell k _⟩
theorem Znw (m:Mat):bdM (trB m)<=1048576:=by
 unfold trB;split
 ·rename_i h;have:=ZgJ (Zmh h);omega
 ·simp[bdM]
theorem ZmA (h:VM w S v m) (hb:bdM m<=1048576):
  Calls JG 175 #[v] w fun e w'=>e= .returned (.bool (Za7 m))/\Grow w w':=by
 have r:=h;obtain ⟨a,n,c,rfl,h,W,X⟩:=h;have f:=(JH w).alloc #[Yv Yi m.rows,Yv Yi m.cols, .slice a n c] 37;have J:=Blk.new w #[Yv Yi m.rows,Yv Yi m.cols, .slice a n c] 37;go_enter func175,ntmps175;go_wp2_with fail;refine (Zli (r.grow f) hb).mono ?_;rintro e L ⟨Y,rfl,⟨s,t,x,rfl,C,D,M,E,F⟩,g⟩;have N:=(f.trans g).size;obtain ⟨O,l,i,P, -⟩:=al1 L #[Yv Yi (trB m).rows,Yv Yi (trB m).cols, .slice s t x] 37;have hG:=(f.trans g).trans i;have j:=(J.grow g).grow i;have G:=r.grow hG;have R:VM O (fun _=>True) (.agg #[Yv Yi (trB m).rows,Yv Yi (trB m).cols, .slice s t x]) (trB m):=⟨s,t,x,rfl,(C.grow i).rdI (fun _ _=>trivial) D,E,F⟩;have k:=hid l;have T:=Znw m;clear l r h C D M E F;cases hB:Zd m with
 |false=>have Hr:=hid (show Za7 m=false by unfold Za7 ZZ;rw[hB];rfl);clear hB;go_wp2;rw[←k.out];exact GL
 |true=>
  have e:trB m=Zbz m:=CE
  have V:=hid e;clear hB e;obtain ⟨⟨y,z,A⟩, -⟩:=j.three;have d:=j.lt;rw[k.out] at y z A d;go_wp2_with fail;rw[←k.out];refine (Zfo G hb).mono ?_;rintro e Z ⟨rfl,b⟩;have o:=j.grow b;have p:=P.grow b;clear y z A d;obtain ⟨⟨y,z,A⟩, -⟩:=o.three;obtain ⟨⟨t0,t1,t2⟩, -⟩:=p.three;have d:=o.lt;have H:=p.lt;cases q:ZZ m with
  |false=>have Hr:=hid (show Za7 m=false by unfold Za7;rw[q];rfl);clear q;go_wp2;go_ret;exact ⟨Zm Hr.out.symm,hG.trans b⟩
  |true=>have Hr:=hid (show Za7 m=Zc2 (Zbz m) m by unfold Za7;rw[q];rfl);rw[←V.out] at Hr;clear q;go_wp2_with fail;refine (ZmO (R.grow b) (G.grow b) I).mono ?_;rintro e w5 ⟨rfl,B⟩;go_wp2;go_ret;exact ⟨Zm Hr.out.symm,(hG.trans b).trans B⟩
theorem ZuA (m:Mat):ZbL m=(ZeJ m&&(ldL m).all (fun d=>decide (0<d))&&Za7 m):=by
 unfold ZbL ZeJ ldL Za7;cases a:ZZ m with
 |false=>simp
 |true=>
  cases b:ZaL m.cells m.rows.toNat m.rows.toNat with
  |none=>simp
  |some l=>simp[Bool.and_comm]
theorem ZfS (h:VM w S v m) (hb:bdM m<=1048576):
  Calls JG 172 #[v] w fun e w'=>e= .returned (.bool (ZbL m))/\Grow w w':=by
 have t:=h;obtain ⟨a,n,c,rfl,h,V,W⟩:=h;have f:=(JH w).alloc #[Yv Yi m.rows,Yv Yi m.cols, .slice a n c] 37;have H:=Blk.new w #[Yv Yi m.rows,Yv Yi m.cols, .slice a n c] 37;go_enter func172,ntmps172;go_wp2_with fail;refine (ZuW (t.grow f) hb).mono ?_;rintro e J ⟨X,rfl,D,g⟩;obtain ⟨Y,j,Z,rfl,rX⟩:=D.rd (S:=fun _=>True) fun _ _=>trivial;have hG:=f.trans g;have o:=H.grow g;have L:=t.grow hG;have E:=hid (ZuA m);obtain ⟨y,b⟩: ∃ x,ZeJ m=x:=⟨_,rfl⟩;obtain ⟨l,z⟩: ∃ x,ldL m=x:=⟨_,rfl⟩;rw[b,z] at E;rw[z] at rX;rw[b];have p:=rX.len;have A:=hid p;have F:j<=9223372036854775807:=DV
 clear b z D t h p;go_wp2;go_loopw [4,14] (fun M N wr=>Grow J wr/\ ∃ (k:Nat) (q:Bool),k<=j/\N=Yv Yi k/\M= .bool q/\q=(y&&(l.take k).all fun d=>decide (0<d))) (fun _ i _=>j-(intOf i).toNat);case atStart=>exact ⟨JH _,0,y,JI _,rfl,rfl,Θ⟩
 case round=>
  obtain ⟨hGr,k,q,hk,rfl,rfl,r⟩:=hrel;by_cases B:k<j
  ·obtain ⟨b1,o1,x,rfl,s,O,_,P,R⟩:=(rX.grow hGr).at B;have C:=hid (show (y&&(l.take (k+1)).all fun d=>decide (0<d))=(q&&decide (0<x)) by rw[ZH s,List.all_append,r];simp[Bool.and_assoc]);clear r s;cases q with
   |false=>
    go_wp2;go_roundw;case rel=>exact ⟨hGr,k+1,false,I,Δ,rfl,by rw[C.out];rfl⟩
    case measure=>exact FN
   |true=>
    by_cases T:0<x
    ·go_wp2;go_roundw;case rel=>exact ⟨hGr,k+1,true,I,Δ,Θ,by rw[C.out];simp[T]⟩
     case measure=>exact FN
    ·go_wp2;go_roundw;case rel=>exact ⟨hGr,k+1,false,I,Δ,Θ,by rw[C.out];simp;omega⟩
     case measure=>exact FN
  ·obtain rfl:k=j:=I;rw[Z5 A.out] at r;have Hr:=hid (show ZbL m=(q&&Za7 m) by rw[E.out, ←r]);clear r;obtain ⟨⟨m0,m1,m2⟩, -⟩:=(o.grow hGr).three;have G:=(o.grow hGr).lt;cases q with
   |false=>go_wp2;go_ret;exact ⟨Zm A7,hG.trans hGr⟩
   |true=>go_wp2_with fail;refine (ZmA (L.grow hGr) hb).mono ?_;exact Jq
theorem Zvs (b:Mat):ZaO b=(Zd b&&ZC b (trB b))/\(Zd b=true->ZaD b=Zq b (trB b)):=by
 unfold ZaO ZaD trB;cases h:Zd b with
 |false=>exact ⟨Θ,fun e=>Ca⟩
 |true=>exact ⟨Θ,fun _=>Θ⟩
theorem ZlO (h:VM w S v m) (hb:bdM m<=1048576):
  Calls JG 221 #[v] w fun e w'=> ∃ r,e= .returned (.tuple #[r, .bool (ZaO m)])/\OM w' (New w w') r (ZaD m)/\Grow w w':=by
 have D:=h;obtain ⟨a,n,c,rfl,h,ir,ic⟩:=h;obtain ⟨w1,t,k,bM,bZ, -⟩:=al2 w #[Yv Yi m.rows,Yv Yi m.cols, .slice a n c] 37 #[Yv Yi 0,Yv Yi 0, .slice none 0 0] 37;have E:=hid t;clear t;go_enter func221,ntmps221;go_wp2_with fail;rw[←E.out];refine (Zli (D.grow k) hb).mono ?_;rintro e w2 ⟨rv,rfl,⟨F,G,H,rfl,oT,rT,fT,i1,i2⟩,f⟩;have aa:=(k.trans f).size;obtain ⟨w3,x,i,bT, -⟩:=al1 w2 #[Yv Yi (trB m).rows,Yv Yi (trB m).cols, .slice F G H] 37;have C:=(k.trans f).trans i;have y:=(bM.grow f).grow i;have b:=(bZ.grow f).grow i;have vM:=D.grow C;have vT:VM w3 (fun _=>True) (.agg #[Yv Yi (trB m).rows,Yv Yi (trB m).cols, .slice F G H]) (trB m):=⟨F,G,H,rfl,(oT.grow i).rdI (fun _ _=>trivial) rT,i1,i2⟩;have l:=hid x;have ab:=Znw m;have Hg:=hid (Zvs m);have s:w.heap.size<=w.heap.size+1:=I
 clear x D h oT rT fT i1 i2;obtain ⟨⟨m0,m1,m2⟩, -⟩:=y.three;obtain ⟨⟨J,L,M⟩,N,O,R⟩:=b.three;have j:=y.lt;have d:=b.lt;rw[l.out] at m0 m1 m2 j J L M N O R d;cases z:Zd m with
 |false=>have Hr:=hid (show ZaO m=false/\ZaD m={rows:=0,cols:=0,cells:=[]} by unfold ZaO ZaD;rw[z];exact ⟨rfl,rfl⟩);clear z;go_wp2;rw[←l.out];exact Zb Zc rfl rfl rfl (((b.set 0 _).set 1 _).set 2 _) ⟨_,Cj,BA,((C.setCell s _).setCell s _).setCell s _⟩
 |true=>
  have Hr:=hid (show ZaO m=ZC m (trB m)/\ZaD m=Zq m (trB m) from ⟨by rw[Hg.out.1,z];rfl,Hg.out.2 z⟩);clear z;go_wp2_with fail;rw[←l.out];refine (Zdu vM vT I I).mono ?_;rintro e w4 ⟨rv,rfl,⟨T,V,W,rfl,oP,rP,fP,j1,j2⟩,A⟩;have ad:=C.size;have o:=b.grow A;clear m0 m1 m2 j J L M N O R d;obtain ⟨⟨J,L,M⟩,N,O,R⟩:=o.three;have d:=o.lt;have X:=C.trans A;generalize Zq m (trB m)=P at *;generalize ZC m (trB m)=ok at *;have Y:Keep (fun q=>q≠w.heap.size+1) w4 (((w4.setCell ⟨w.heap.size+1,0,none⟩ (Yv Yi P.rows)).setCell ⟨w.heap.size+1,1,none⟩ (Yv Yi P.cols)).setCell ⟨w.heap.size+1,2,none⟩ (.slice T V W)):=
   kS
  have ae:w.heap.size+1<w3.heap.size:=by have:=b.lt;omega
  have B:=oP.keep Y fun g hg _ e=>BU
  have Z:=((X.setCell (p:=⟨w.heap.size+1,0,none⟩) s (Yv Yi P.rows)).setCell (p:=⟨w.heap.size+1,1,none⟩) s (Yv Yi P.cols)).setCell (p:=⟨w.heap.size+1,2,none⟩) s (.slice T V W);go_wp2;exact Zb Zc rfl rfl rfl (((o.set 0 _).set 1 _).set 2 _) ⟨_,Cj,by rw[Hr.out.2];exact ⟨T,V,W,rfl,B,rP,fun g hg=>⟨BU,B.lt hg⟩,j1,j2⟩,Z⟩
def Zws (w:World) (m:Mat) (r1 r2:Int) (ra:Option Addr) (rn rc:Nat):Prop:= ∃ (N:Nat) (cs:List Int),m.rows=N/\m.cols=N/\N<=6/\r1=N/\r2=N/\RdI w (fun _=>True) ra rn rc cs/\cs.length=N*N/\NumL cs
theorem ZtI {l:List Int} (h:NumL l) (i:Nat) {x:Int} (hx: -400000000<=x/\x<=400000000):NumL (l.set i x):=fun z a=>by
 rcases List.mem_or_eq_of_mem_set a with a|rfl
 ·exact h z a
 ·exact hx
theorem Zwj {a:Option Addr} (h:RdI w S a n c m.cells) (hr:I64 m.rows) (hc:I64 m.cols) (hb:m.cells.length<=1048576):
  Calls JG 170 #[.agg #[Yv Yi m.rows,Yv Yi m.cols, .slice a n c]] w fun e w'=> ∃ r1 r2 ra rn rc ok,e= .returned (.tuple #[.agg #[Yv Yi r1,Yv Yi r2, .slice ra rn rc], .bool ok])/\(ok=true->Zws w' m r1 r2 ra rn rc)/\Grow w w':=by
 obtain ⟨w1,V,W,bM,bZ, -⟩:=al2 w #[Yv Yi m.rows,Yv Yi m.cols, .slice a n c] 37 #[Yv Yi 0,Yv Yi 0, .slice none 0 0] 37;obtain ⟨⟨y,z,P⟩, -⟩:=bM.three;have b:=bM.lt;rw[V] at y z P b;have ar:=hid V;have hm:=h.grow W;have f:w.heap.size<=w.heap.size+1:=I
 clear V;go_enter func170,ntmps170;go_wp2_with fail;rw[←ar.out];clear y z P b;refine (Zfo (S:=S) (m:=m) ⟨a,n,c,rfl,hm,hr,hc⟩ Bq).mono ?_;rintro e w2 ⟨rfl,H⟩;have A:=W.trans H;have o:=bZ.grow H;have B:=bM.grow H;cases ad:ZZ m with
 |false=>obtain ⟨⟨z0,z1,z2⟩,f0,f1,f2⟩:=o.three;have R:=o.lt;go_wp2;exact Zb Zc rfl rfl rfl (((o.set 0 _).set 1 _).set 2 _) ⟨_,_,_,_,_,_,rfl,(fun h=>Ω),((A.setCell f _).setCell f _).setCell f _⟩
 |true=>
  obtain ⟨N,J,L,hN,hl,T⟩:=Zdq ad;have a7:N*N<=6*6:=JL hN hN;have a8:=hm.len;obtain ⟨⟨y,z,P⟩, -⟩:=B.three;have b:=B.lt;rw[J] at y;rw[L] at z;clear ad;go_wp2_with fail;refine (Zc9 N N _ I I).mono ?_;rintro e w3 ⟨ra,rfl,oR,lR,M⟩;clear y z P b;obtain ⟨w4,ae,D,bO, -⟩:=al1 w3 #[Yv Yi (N:Int),Yv Yi (N:Int), .slice ra (N*N) (N*N)] 37;have af:=oR.grow D;have l:=A.trans (M.trans D);have ag:=(B.grow M).grow D;have ah:=(o.grow M).grow D;have nO:blk ra≠some w3.heap.size:=fun e=>by have:=oR.lt e;omega
  have a4:=B.lt;have av:=o.lt;have nM:blk ra≠some w.heap.size:=fun e=>Dq
  have nZ:blk ra≠some (w.heap.size+1):=fun e=>Dq
  have aw:=hid ae;clear ae M D oR B o bM bZ;go_wp2;rw[←aw.out];have a5:=l.size;have a6:=A.size;have ai:NumL (List.replicate (N*N) (0:Int)):=fun x hx=>by have:=List.eq_of_mem_replicate hx;omega
  clear hm W H;go_loopw [5] (fun i wr=>Keep (fun q=>blk ra≠some q) w4 wr/\ ∃ (k:Nat) (s:List Int),k<=N/\i=Yv Yi k/\s.length=N*N/\NumL s/\Own wr 3 1 ra (N*N) (N*N) (ints s)) (fun i _=>N-(intOf i).toNat);case atStart=>exact ⟨Keep.refl _ _,0,_,JI _,rfl,Θ,ai,af⟩
  case round=>
   clear af ai;obtain ⟨hK,k,s,hk,rfl,v,X,Y⟩:=hrel;have g:=ag.keep hK nM;obtain ⟨⟨y,z,P⟩, -⟩:=g.three;have b:=g.lt;rw[J] at y;rw[L] at z;by_cases aj:k<N
   ·go_wp2;go_loopw [6] (fun i wr=>Keep (fun q=>blk ra≠some q) w4 wr/\ ∃ (j:Nat) (s:List Int),j<=N/\i=Yv Yi j/\s.length=N*N/\NumL s/\Own wr 3 1 ra (N*N) (N*N) (ints s)) (fun i _=>N-(intOf i).toNat);case atStart=>exact ⟨hK,0,s,JI _,rfl,v,X,Y⟩
    case round=>
     clear hK v X Y g y z P b;obtain ⟨hK,j,s,hj,rfl,v,X,Y⟩:=hrel;have g:=ag.keep hK nM;obtain ⟨⟨y,z,P⟩, -⟩:=g.three;have b:=g.lt;rw[J] at y;rw[L] at z;have Z:=l.keep hK fun q hq e=>Dq;by_cases E:j<N
     ·have ak:=h.grow Z;go_wp2_with fail;refine (Zm5 a n c N N k j m.cells _ ak hl I I I I T I E).mono ?_;rintro e w5 ⟨r,rfl,⟨ca,cn,cc,rfl,oX,xX,fX, -, -⟩,al⟩;have F:=ZeA (m:=m.cells) (C:=N) (p:=k) (q:=j) E (i:=N);rw[if_pos aj] at F;clear y z P b;go_wp2_with fail;refine (Zk7 (N-1) ca cn cc _ _ (oX.rdI (S:=fun _=>True) (fun _ _=>trivial) xX) F I (ZdO T)).mono ?_;rintro e w6 ⟨x,rfl,hx,am⟩;have G:=al.trans am;have O:Keep (fun q=>blk ra≠some q) w4 w6:=hK.trans (G.any.mono fun _ _ _=>trivial);have ax:=Y.grow G;have an:=bO.keep O nO;have aa:=ah.keep O nZ;have ay:=l.keep O fun q hq e=>Dq;clear oX xX fX al am G F g ak;cases hd:Zad (N-1) (Zt m.cells N k j N) with
      |none=>obtain ⟨⟨z0,z1,z2⟩,f0,f1,f2⟩:=aa.three;have R:=aa.lt;clear hx hd;go_wp2;exact Zb Zc rfl rfl rfl (((aa.set 0 _).set 1 _).set 2 _) ⟨_,_,_,_,_,_,rfl,(fun h=>Ω),((ay.setCell f _).setCell f _).setCell f _⟩
      |some d=>
       obtain rfl:=hx d hd;have az:=Zb0 hd;obtain ⟨⟨o0,o1,o2⟩, -⟩:=an.three;have ao:=an.lt;have a0:wrap64 (-x)= -x:=θ;have ap:j*N+k<N*N:=Zf aj E;obtain ⟨t,ht⟩: ∃ t:Nat,k+j=t:=⟨_,rfl⟩;have e1:(k:Int)+(j:Int)=(t:Int):=I;clear hx hd ht;by_cases h2:t%2=1
       case' pos=>have q2:(t:Int)%2=1:=I;have q3:(t:Int).tmod 2=1:=Bd;have q4:((t:Int)%2==1)=true:=(by rw[beq_iff_eq];exact q2);have hv: -400000000<= -x/\ -x<=400000000:=I
       case' neg=>have q2: ¬ (t:Int)%2=1:=I;have q3: ¬ (t:Int).tmod 2=1:=Bd;have q4:((t:Int)%2==1)=false:=(by rw[beq_eq_false_iff_ne];exact q2);have hv:=az
       all_goals
        clear h2;go_wp2_with fail;refine (Zjp ra (N*N) (N*N) N j k (j*N+k) (N:Int) _ s _ ax rfl ap I I I I).mono ?_;rintro e w7 ⟨rfl,a1,a2⟩;go_wp2;go_roundw;case rel=>exact ⟨O.trans a2,j+1,_,I,Δ,by simp[v],ZtI X _ (by first |exact hv|(rw[a0];exact hv)),a1⟩
        case measure=>exact FN
     ·go_wp2;go_roundw;case rel=>exact ⟨hK,k+1,s,I,Δ,v,X,Y⟩
      case measure=>exact FN
   ·have aq:=bO.keep hK nO;have ab:=ah.keep hK nZ;have Z:=l.keep hK fun q hq e=>Dq;obtain ⟨⟨o0,o1,o2⟩, -⟩:=aq.three;obtain ⟨⟨z0,z1,z2⟩,f0,f1,f2⟩:=ab.three;have ao:=aq.lt;have R:=ab.lt;have a3:Keep (fun q=>q≠w.heap.size+1) wr (((wr.setCell ⟨w.heap.size+1,0,none⟩ (Yv Yi (N:Int))).setCell ⟨w.heap.size+1,1,none⟩ (Yv Yi (N:Int))).setCell ⟨w.heap.size+1,2,none⟩ (.slice ra (N*N) (N*N))):=kS;have rC:=(Y.keep a3 fun q hq _ e=>nZ (e▸hq)).rdI (S:=fun _=>True) (fun _ _=>trivial) (Zp X);clear Y;go_wp2;exact Zb Zc rfl rfl rfl (((ab.set 0 _).set 1 _).set 2 _) ⟨_,_,_,_,_,true,rfl,fun _=>⟨N,s,J,L,hN,rfl,rfl,rC,v,X⟩,((Z.setCell f _).setCell f _).setCell f _⟩
theorem Zrh {m:List Int} {K t:Nat} (h:t*K<=m.length):ZbG m K K t=m.take (t*K):=by
 rw[←ZiD h];unfold ZbG Zag;simp[List.take_take]
theorem ZvY (h:ZbL m=true) (h0:0<m.rows):0<dtV m:=by
 unfold ZbL at h;rw[JQ] at h;have b:ZZ m=true:=by have:=h.1;unfold Za7 at this;rw[JQ] at this;exact this.1
 obtain ⟨N,f,g,i,j,n⟩:=Zdq b;have a:=h.2;unfold dtV;rw[if_pos b];rw[f,Int.toNat_natCast] at a ⊢;obtain ⟨k,rfl⟩: ∃ k,N=k+1:=⟨N-1,I⟩;simp only[ZaL] at a;rw[Zrh I,List.take_of_length_le I] at a;cases c:ZaL m.cells (k+1) k with
 |none=>rw[c] at a;cases a
 |some l=>
  rw[c] at a;cases e:Zad (k+1) m.cells with
  |none=>rw[e] at a;cases a
  |some d=>rw[e] at a;simp at a;simpa using a.2
theorem Zvj {a:Option Addr} (h:RdI w S a n c m.cells) (hr:I64 m.rows) (hc:I64 m.cols) (hb:m.cells.length<=1048576) (bound:Int):
  Calls JG 112 #[.agg #[Yv Yi m.rows,Yv Yi m.cols, .slice a n c],Yv Yi bound] w fun e w'=> ∃ ba bn bc hs ok,e= .returned (.tuple #[.slice ba bn bc, .bool ok])/\(ok=true->bn<=6/\(∀ x∈hs,0<=x/\x<=20000)/\bound<=10000/\RdI w' (fun _=>True) ba bn bc hs)/\Grow w w':=by
 obtain ⟨w1,D,t,L, -⟩:=al1 w #[Yv Yi m.rows,Yv Yi m.cols, .slice a n c] 37;obtain ⟨⟨s,v,z⟩, -⟩:=L.three;have f:=L.lt;rw[D] at s v z f;have M:=hid D;have vM:VM w1 S (.agg #[Yv Yi m.rows,Yv Yi m.cols, .slice a n c]) m:=⟨a,n,c,rfl,h.grow t,hr,hc⟩;have hm:=h.grow t;have O:bdM m<=1048576:=Bq
 clear D;go_enter func112,ntmps112;go_wp2_with fail;rw[←M.out];clear s v z f;refine (Zwj hm hr hc hb).mono ?_;rintro e w2 ⟨r1,r2,ra,rn,rc,ok,rfl,hP,P⟩;obtain ⟨w3,E,F,bA, -⟩:=al1 w2 #[Yv Yi r1,Yv Yi r2, .slice ra rn rc] 37;have j:=P.trans F;obtain ⟨⟨s,v,z⟩, -⟩:=(L.grow j).three;have f:=(L.grow j).lt;rw[E] at s v z f;have R:=hid E;clear E;go_wp2_with fail;rw[←R.out];clear s v z f;refine (Zn1 (vM.grow j) O).mono ?_;rintro e w4 ⟨rfl,A⟩;have p:=j.trans A;have hGa:=t.trans p;have C:=L.grow p;have T:=bA.grow A;cases ok with
 |false=>
  clear hP;go_wp2
  exact IJ
 |true=>
  obtain ⟨N,V,W,ak,hN,rfl,rfl,rA,lA,nA⟩:=hP rfl;have X:=(rA.grow F).grow A;have Y:=hid W;clear hP rA W ak;obtain ⟨⟨s,v,z⟩, -⟩:=C.three;have f:=C.lt;cases al:ZdS m with
  |false=>
   go_wp2
   exact IJ
  |true=>
   clear al;go_wp2_with fail;refine (ZfS (vM.grow p) O).mono ?_;rintro e w5 ⟨rfl,q⟩;have hGb:=hGa.trans q;cases G:ZbL m with
   |false=>
    clear G;go_wp2
    exact Ie
   |true=>
    have Z:=hid (ZvY G);have am:=C.grow q;have aa:=T.grow q;have ab:=X.grow q;clear G s v z f L bA C T X vM hm P F A q p j h M R t hGa;by_cases h0:bound<0
    ·
     go_wp2
     exact Ie
    by_cases h1:10000<bound
    ·
     go_wp2
     exact Ie
    have Hd:=hid (show -400000000<=dtV m/\dtV m<=400000000 by
     unfold dtV;split
     ·cases hd:Zad m.rows.toNat m.cells with
      |none=>simp
      |some d=>exact Zb0 hd
     ·omega)
    generalize dtV m=d at *;go_wp2;go_loopw [10,11] (fun o i wr=>Grow w5 wr/\ ∃ (k c1:Nat) (a1:Option Addr) (hs:List Int),k<=N/\i=Yv Yi k/\o= .slice a1 k c1/\(∀ x∈hs,0<=x/\x<=20000)/\Own wr 3 1 a1 k c1 (ints hs)/\(∀ g,blk a1=some g->w5.heap.size<=g)) (fun _ i _=>N-(intOf i).toNat);case atStart=>exact ⟨(JH _).alloc _ _,0,0,_,[],JI _,rfl,rfl,(fun x hx=>AO),Own.fresh Γ rfl,fun g hg=>κ⟩
    case round=>
     obtain ⟨H,k,c1,a1,hs,hk,rfl,rfl,nB,oB,lB⟩:=hrel;have ad:=am.grow H;obtain ⟨⟨s,v,z⟩, -⟩:=ad.three;have f:=ad.lt;rw[Y.out] at s;by_cases ae:k<N
     ·obtain ⟨⟨x0,x1,x2⟩, -⟩:=(aa.grow H).three;have af:=(aa.grow H).lt;have hi:k*N+k<V.length:=(by rw[lA];exact Zf ae ae);have ag:V[k*N+k]? =some V[k*N+k]:=JR hi;have a2:=nA _ (List.getElem_mem hi);have a4:=ab.len;have a5:N*N<=6*6:=JL hN hN;have an:=hid ag;clear ag;generalize V[k*N+k]=x at *;obtain ⟨y,hy⟩:=eX (bound*x);have a6: -4000000000000<=y/\y<=4000000000000:=by
       have h1:bound*x<=10000*400000000:=by
        rcases Qa 0 x with l|l
        ·exact Ou I I l I
        ·have:=Qb (a:=bound) (b:=x) I l;omega
       have h2:bound*(-x)<=10000*400000000:=by
        rcases Qa 0 (-x) with l|l
        ·exact Ou I I l I
        ·have:=Qb (a:=bound) (b:= -x) I l;omega
       rw[Int.mul_neg] at h2;omega
      have a7:wrap64 (bound*x)=y:=(by rw[←hy];exact ZK I);have ay:IntKind.i64.wrap (bound*x)=y:=(by rw[←hy];exact Kh _ I);have d0:0<d:=Z.out (by rw[Y.out];omega);have d1:(d==0)=false:=μ;clear hy;go_wp2_with fail;refine (ZaA (S:=fun _=>True) ra rn rc N k k (k*N+k) (N:Int) x V _ (ab.grow H) rfl an.out I I I I).mono ?_;rintro e w6 ⟨rfl,J⟩;have ao:=oB.grow J;clear x0 x1 x2 af s v z f;go_wp2_with fail;refine (Z0 y _).mono ?_;rintro e _ ⟨rfl,rfl⟩;cases ah:Zi y with
      |false=>
       have ap:=(hGb.trans H).trans J;go_wp2
       go_ret2
       exact ⟨_,0,0,[],false,rfl,(fun h=>Ω),ap.alloc _ _⟩
      |true=>
       have az:=ZB.1 ah;have a8:=Zbw y d;have a9:wrap64 (y.tdiv d)=y.tdiv d:=ZK I;have a0:IntKind.i64.wrap (y.tdiv d)=y.tdiv d:=Kh _ I;clear ah;go_wp2_with fail;refine (Zue (y.tdiv d) _ I).mono ?_;rintro e w7 ⟨r,rfl,bb,bd,ai⟩;have aj:=(H.trans J).trans ai;have aq:=ao.grow ai;go_wp2_with (at_builtin;refine ZD rfl (.tmp 60) (.tmp 65) _ rfl T_ints rfl (aq.grow ((JH _).alloc _ _)) rfl (Row.built (S:=fun _=>True) 1 Γ rfl trivial) γ I Γ ?_;intro a3 c3 w8 hA3);have ar:Grow w7 (w7.alloc (.cells #[Yv Yi r] 3)):=(JH _).alloc _ _;have be:=aj.size;have av:Grow w5 w8:=hA3.grow (aj.trans ar) fun g hg=>lB g hg;have aw:Own w8 3 1 a3 (k+1) c3 (ints (hs++[r])):=Dy;have ax:=hA3.lo (B:=w5.heap.size) Ψ (fun g hg=>lB g hg);clear hA3;go_wp2;go_roundw;case rel=>exact ⟨av,k+1,c3,a3,hs++[r],I,Δ,rfl,(fun y hy=>(List.mem_append.1 hy).elim (nB y) fun h=>by rw[List.mem_singleton.1 h];omega),aw,ax⟩
       case measure=>exact FN
     ·obtain rfl:k=N:=I;go_wp2
      go_ret2
      exact ⟨_,_,_,hs,true,rfl,fun _=>⟨hN,nB,I,oB.rdI (fun _ _=>trivial) fun x hx=>by have:=nB x hx;unfold I64;omega⟩,hGb.trans H⟩

end Go.Proofs.YtgjefeiddfjjnaaGreatDoor
