/- AddMatrices of the reference, for all arguments. -/
import Derived.Test.YtgjefeiddfjjnaaGreatDoorZRedR
import Derived.Test.YtgjefeiddfjjnaaGreatDoorZEvM
set_option maxHeartbeats 8000000
set_option maxRecDepth 100000
namespace Go.Proofs.YtgjefeiddfjjnaaGreatDoor
open Go.RowKit
open Lib (hid)
open Go.Value renaming int->Yv
open Go.IntKind renaming i64->Yi
open List renaming getD_eq_getElem?_getD->Kr
open Go.Proofs.Tryz renaming func50->Lv,func86->QS,ntmps50->Lw,ntmps86->QT,prog->JG
variable {A B m:Mat} {S T:Nat->Prop} {r:Rs} {u v:Value} {w:World}
theorem Zvh (h:VM w S u A) (h':VM w T v B) (hb:bdM A<=1048576) (hb':bdM B<=1048576) (hF:Zff A B=false):
  Calls JG 86 #[u,v] w fun e w'=> ∃ r,e= .returned (.tuple #[r, .bool (ZfK A B)])/\OM w' (New w w') r (amB A B)/\Grow w w':=by
 have z:=h;have C:=h';obtain ⟨D,E,F,rfl, -⟩:=h;obtain ⟨G,H,J,rfl, -⟩:=h';have Hn:=hid (ZrN hF);obtain ⟨M,i,j,c,d,bZ, -⟩:=al3 w #[Yv Yi A.rows,Yv Yi A.cols, .slice D E F] 37 #[Yv Yi B.rows,Yv Yi B.cols, .slice G H J] 37 #[Yv Yi 0,Yv Yi 0, .slice none 0 0] 37;have m:=hid i;clear i;have k:=hid (show (Zd A&&(Zd B&&((A.rows==B.rows)&&(A.cols==B.cols))))=false from hF);clear hF;go_enter QS,QT;go_wp2_with fail;rw[←m.out];refine (ZL (z.grow j) I).mono ?_;rintro e N ⟨rfl,a⟩;replace c:=c.grow a;replace d:=d.grow a;replace bZ:=bZ.grow a;have hG:=j.trans a;obtain ⟨⟨p,q,s⟩, -⟩:=c.three;obtain ⟨⟨t,x,y⟩, -⟩:=d.three;have f:=c.lt;have g:=d.lt;cases n:Zd A with
 |false=>
  clear n;have hle:w.heap.size<=w.heap.size+1+1:=I
  exact FQ
 |true=>
  rw[n] at k;clear n;go_wp2_with fail;refine (ZL (C.grow hG) I).mono ?_;rintro e O ⟨rfl,b⟩;clear p q s t x y f g;replace c:=c.grow b;replace d:=d.grow b;replace bZ:=bZ.grow b;replace hG:=hG.trans b;obtain ⟨⟨p,q,s⟩, -⟩:=c.three;obtain ⟨⟨t,x,y⟩, -⟩:=d.three;have f:=c.lt;have g:=d.lt;cases o:Zd B with
  |false=>clear o;have hle:w.heap.size<=w.heap.size+1+1:=I;exact FQ
  |true=>
   rw[o] at k;clear o;by_cases l:A.rows=B.rows
   ·have L:(A.rows !=B.rows)=false:=(by simp[l]);have P:(A.cols !=B.cols)=true:=(by have:=k.out;simp[l] at this;simp[this]);clear l k;have hle:w.heap.size<=w.heap.size+1+1:=I;exact FQ
   ·have L:(A.rows !=B.rows)=true:=(by simp[l]);clear l k;have hle:w.heap.size<=w.heap.size+1+1:=I;exact FQ
theorem Ztx {aa ab:Option Addr} {na nb ca cb R C:Nat} {xs ys:List Int} (hA:RdI w S aa na ca xs) (hB:RdI w T ab nb cb ys) (nx:NumL xs) (ny:NumL ys) (hR:R<=24) (hC:C<=24) (hlX:xs.length=R*C) (hlY:ys.length=R*C):
  Calls JG 86 #[.agg #[Yv Yi (R:Int),Yv Yi (C:Int), .slice aa na ca], .agg #[Yv Yi (R:Int),Yv Yi (C:Int), .slice ab nb cb]] w fun e w'=> ∃ r,e= .returned (.tuple #[r, .bool (Zd {rows:=(R:Int),cols:=(C:Int),cells:=amL xs ys})])/\OM w' (New w w') r (okM {rows:=(R:Int),cols:=(C:Int),cells:=amL xs ys})/\Grow w w':=by
 have bx:R*C<=24*24:=Nat.mul_le_mul hR hC;have A:=hA.len;have B:=hB.len;have ap:=hid (Zay hR hC hlX nx);have aq:=hid (Zay hR hC hlY ny);obtain ⟨K,ar⟩:=eX na;obtain rfl:nb=K:=I
 obtain rfl:na=nb:=I
 clear ar;have ao:na<=576:=I
 have vA:VM w S (.agg #[Yv Yi (R:Int),Yv Yi (C:Int), .slice aa na ca]) {rows:=(R:Int),cols:=(C:Int),cells:=xs}:=⟨aa,na,ca,rfl,hA,δ,η⟩;have vB:VM w T (.agg #[Yv Yi (R:Int),Yv Yi (C:Int), .slice ab na cb]) {rows:=(R:Int),cols:=(C:Int),cells:=ys}:=⟨ab,na,cb,rfl,hB,δ,η⟩;have bz:bdM {rows:=(R:Int),cols:=(C:Int),cells:=xs}<=1048576:=Al
 have b3:bdM {rows:=(R:Int),cols:=(C:Int),cells:=ys}<=1048576:=Al
 have D:=Zpy nx ny;have E:=hid A;have b4:=hid B;have q0:((R:Int)!=(R:Int))=false:=Θ
 have q1:((C:Int)!=(C:Int))=false:=Θ
 have F:R*C=na:=I
 have av:=hid F;clear F;obtain ⟨w3,hw3,n, -, -, -, -⟩:=al3 w #[Yv Yi (R:Int),Yv Yi (C:Int), .slice aa na ca] 37 #[Yv Yi (R:Int),Yv Yi (C:Int), .slice ab na cb] 37 #[Yv Yi 0,Yv Yi 0, .slice none 0 0] 37;have b5:w3.heap.size=w.heap.size+3:=Db
 have o:Blk w3 w.heap.size #[Yv Yi (R:Int),Yv Yi (C:Int), .slice aa na ca] 37:=Bp
 have s:Blk w3 (w.heap.size+1) #[Yv Yi (R:Int),Yv Yi (C:Int), .slice ab na cb] 37:=Bi
 have G:Blk w3 (w.heap.size+2) #[Yv Yi 0,Yv Yi 0, .slice none 0 0] 37:=Ba
 obtain ⟨⟨H,J,L⟩, -⟩:=o.three;rw[hw3] at H J L;have aw:=hid hw3;clear hw3 A B;go_enter QS,QT;go_wp2_with fail;rw[←aw.out];refine (ZL (vA.grow n) I).mono ?_;rintro e w4 ⟨rfl,f⟩;rw[ap.out];clear H J L;obtain ⟨⟨b0,b1,b2⟩, -⟩:=(s.grow f).three;go_wp2_with fail;refine (ZL ((vB.grow n).grow f) I).mono ?_;rintro e w5 ⟨rfl,h⟩;rw[aq.out];clear b0 b1 b2;have d:=(n.trans f).trans h;replace o:=(o.grow f).grow h;replace s:=(s.grow f).grow h;replace G:=(G.grow f).grow h;obtain ⟨⟨H,J,L⟩, -⟩:=o.three;obtain ⟨⟨b0,b1,b2⟩, -⟩:=s.three;have bn:=o.lt;have bo:=s.lt;have bp:=G.lt;have bq:=d.size;go_wp2_with fail;refine (Zg5 R C _ I I).mono ?_;rintro e w6 ⟨ra,rfl,M,fR,c⟩;rw[av.out] at M ⊢;obtain ⟨i,t⟩:=eX (List.replicate na (0:Int));have N:=hid (show i.length=na by rw[t];simp);rw[←t] at M;clear t;have O:=o.grow c;have P:=s.grow c;have V:=G.grow c;have W:=d.trans c;have hlo: ∀ g,blk ra=some g->w5.heap.size<=g:=fun g hg=>fR g hg;have X: ∀ g,blk ra=some g->g<w6.heap.size:=fun g hg=>M.lt hg;have b6:=c.size;obtain ⟨w7,Y,a,ax, -⟩:=al1 w6 #[Yv Yi (R:Int),Yv Yi (C:Int), .slice ra na na] 37;have Z:=M.grow a;have ay:=O.grow a;have az:=P.grow a;have a3:=V.grow a;have ad:=W.trans a;have b7:=a.size;have ae: ∀ g,g<w7.heap.size->g<w5.heap.size->blk ra≠some g:=fun g _ hg e=>ε
 have a4:=(((hA.grow d).weak (T:=fun g=>g<w5.heap.size) (fun g hg _=>hg)).grow c).grow a;have a5:=(((hB.grow d).weak (T:=fun g=>g<w5.heap.size) (fun g hg _=>hg)).grow c).grow a;have a6:=hid Y;have a7:=hid (show Zz (amV xs ys) 0 na i=amL xs ys by unfold amL;rw[E.out];exact Zl6 N.out);clear Y H J L b0 b1 b2 M o s G O P V vA vB;go_wp2;rw[←a6.out];go_loopw [7] (fun q wr=>Keep (fun g=>blk ra≠some g) w7 wr/\ ∃ k:Nat,k<=na/\q=Yv Yi k/\Own wr 3 1 ra na na (ints (Zz (amV xs ys) 0 k i))) (fun q _=>na-(intOf q).toNat);case atStart=>exact ⟨Keep.refl _ _,0,Nat.zero_le _,rfl,Z⟩
 case round=>
  clear Z;obtain ⟨u,rfl⟩:=eX wr;obtain ⟨b,k,hk,rfl,hO⟩:=hrel;have af:=ax.keep b (fun e=>by have:=X _ e;omega);have ag:=ay.keep b (fun e=>ε);have ah:=az.keep b (fun e=>ε);obtain ⟨⟨o0,o1,o2⟩, -⟩:=af.three;have br:=af.lt;by_cases ai:k<na
  ·obtain ⟨⟨H,J,L⟩, -⟩:=ag.three;obtain ⟨⟨b0,b1,b2⟩, -⟩:=ah.three;have a8:=ag.lt;have ba:=ah.lt;have aj:(Zz (amV xs ys) 0 k i).length=na:=(by rw[ZM,N.out]);have bb:=a4.keep b ae;have bc:=a5.keep b ae;have hx:=nx.getD k;have hy:=ny.getD k;obtain ⟨m,rfl⟩: ∃ m,ra=some ⟨m,0,none⟩:=by
    exact Jp
   obtain ⟨b8,bs,x,rfl,ak, -, -,bt,bd⟩:=bb.at ai;obtain rfl:x=xs.getD k 0:=(by rw[Kr,ak];rfl);have be:=hO.cell (Zab I (rfl:(Zz (amV xs ys) 0 k i).getD k 0=(Zz (amV xs ys) 0 k i).getD k 0));simp only at be;obtain ⟨b9,bv,y,rfl,al, -, -,bw,bf⟩:=bc.at ai;obtain rfl:y=ys.getD k 0:=(by rw[Kr,al];rfl);have cc:=hO.lt (g:=m) rfl;have bg:=hO.free k;have j:=hO.le;have Hst:=hid (show Zz (amV xs ys) 0 (k+1) i=(Zz (amV xs ys) 0 k i).set k (xs.getD k 0+ys.getD k 0) by simp[Zz,amV]);have v:Own ((u.setCell ⟨m,k,none⟩ (Yv Yi (xs.getD k 0+ys.getD k 0))).drew) 3 1 (some ⟨m,0,none⟩) na na (ints (Zz (amV xs ys) 0 (k+1) i)):=BV;have bh:Keep (fun g=>blk (some (⟨m,0,none⟩:Addr))≠some g) w7 ((u.setCell ⟨m,k,none⟩ (Yv Yi (xs.getD k 0+ys.getD k 0))).drew):=(b.setCell (p:=⟨m,k,none⟩) (fun _ e=>e rfl) _).drew;have u5:IntKind.i64.wrap (xs.getD k 0+ys.getD k 0)=xs.getD k 0+ys.getD k 0:=IntWalk.i64_in _ I;clear aj hO al;clear ak;simp only at bd bf bg;generalize xs.getD k 0=x at *;generalize ys.getD k 0=y at *;go_wp2;go_region;go_wp2;go_roundw;case rel=>exact ⟨bh,k+1,I,Δ,v⟩
   case measure=>exact FN
  ·have am:k=na:=I;rw[am,a7.out] at hO;clear am;have bi:=a3.keep b (fun e=>ε);have an:Grow w u:=Grow.keep (S:=fun g=>blk ra≠some g) ad b (fun g hg e=>ε);have cd:=an.size;have bj:OM u (fun g=>w.heap.size+2<g/\g<u.heap.size) (.agg #[Yv Yi (R:Int),Yv Yi (C:Int), .slice ra na na]) {rows:=(R:Int),cols:=(C:Int),cells:=amL xs ys}:=(by exact ⟨ra,na,na,rfl,hO,D,(fun g hg=>⟨Aw,hO.lt hg⟩),δ,η⟩);have ce:bdM {rows:=(R:Int),cols:=(C:Int),cells:=amL xs ys}<=576:=(by unfold bdM;simp only;rw[ZpY,E.out];omega);go_wp2_with fail;refine (Zkc bj I).mono ?_;rintro e w9 ⟨m9,rfl,v,z⟩;obtain ⟨a9,n9,c9,rfl,o9,x9,f9,i9,j9⟩:=v;have cf:=z.size;have l:=bi.grow z;have bk:=an.trans z;clear o0 o1 o2;have bl:=l.alloc (.cells #[Yv Yi (okM {rows:=(R:Int),cols:=(C:Int),cells:=amL xs ys}).rows,Yv Yi (okM {rows:=(R:Int),cols:=(C:Int),cells:=amL xs ys}).cols, .slice a9 n9 c9] 37);obtain ⟨⟨z0,z1,z2⟩,g0,g1,g2⟩:=bl.three;obtain ⟨⟨y0,y1,y2⟩,f0,f1,f2⟩:=l.three;have bm:=l.lt;go_wp2;have j:w.heap.size<=w.heap.size+2:=I;refine Zb Zc rfl rfl rfl ((((l.set 0 _).set 1 _).set 2 _).alloc _) ⟨_,rfl,⟨a9,n9,c9,rfl, ?_,x9, ?_,i9,j9⟩,(((bk.setCell j _).setCell j _).setCell j _).alloc _ _⟩
   ·exact (o9.keep ((((Keep.refl (fun q=>q≠w.heap.size+2) w9).setCell (fun _ e=>e rfl) _).setCell (fun _ e=>e rfl) _).setCell (fun _ e=>e rfl) _) (fun g hg _ e=>by have:=(f9 g hg).1;omega)).grow ((Grow.refl _).alloc _ _)
   ·intro g hg;have h1:=o9.lt hg;have h2:=(f9 g hg).1;exact ⟨I,Ψ⟩
theorem ZvV (h:VM w S u A) (h':VM w T v B) (hb:bdM A<=1048576) (hb':bdM B<=1048576):
  Calls JG 86 #[u,v] w fun e w'=> ∃ r,e= .returned (.tuple #[r, .bool (ZfK A B)])/\OM w' (New w w') r (amB A B)/\Grow w w':=by
 cases b:Zff A B with
 |false=>exact Zvh h h' hb hb' b
 |true=>
  rw[(Zji b).1,(Zji b).2];have c:=b;unfold Zff at c;simp only[Bool.and_eq_true,beq_iff_eq] at c;obtain ⟨o,p,g,i⟩:=c;obtain ⟨R,C,j,k,q,s,l,m⟩:=Zl o;obtain ⟨t,x,d,f,_,_,a,n⟩:=Zl p;obtain ⟨D,E,F⟩:=A;obtain ⟨G,H,J⟩:=B;simp only at g i j k l m d f a n;subst j k;obtain rfl:t=R:=I
  obtain rfl:x=C:=I
  subst g i;obtain ⟨L,M,N,rfl,y, -, -⟩:=h;obtain ⟨O,P,V,rfl,z, -, -⟩:=h';exact Ztx y z m n q s l a
theorem Zvc (h:VM w S v m) (hb:bdM m<=1048576):
  Calls JG 90 #[v] w fun e w'=> ∃ x1 x2 x3 x4 x5 y1 y2 y3 y4 y5,e= .returned (.tuple #[.agg #[Yv Yi x1,Yv Yi x2, .slice x3 x4 x5], .agg #[Yv Yi y1,Yv Yi y2, .slice y3 y4 y5], .bool (Zdb m).isSome])/\(∀ r,Zdb m=some r->VM w' (fun q=>w.heap.size<=q) (.agg #[Yv Yi x1,Yv Yi x2, .slice x3 x4 x5]) r)/\Grow w w':=by
 have g:=h;obtain ⟨a,n,c,rfl,h,ir,ic⟩:=h;cases hB:Zd m with
 |false=>
  refine (ZgQ g hb hB).mono ?_;rintro e w' ⟨rfl,hG⟩;have hn:Zdb m=none:=by unfold Zdb;rw[hB];rfl
  exact GI
 |true=>
  obtain ⟨R,C,hmr,hmc,i,j,d,b⟩:=Zl hB;have f:Zdb m=(ZbP m.cells R C).map fun s=>{rows:=m.rows,cols:=m.cols,cells:=s.1}:=DU
  obtain ⟨l,o,cells⟩:=m;simp only at hmr hmc d b h f ir ic;subst hmr;subst hmc;refine (Zf9 h d b i j).mono ?_;rintro e w' ⟨hG,k⟩;rw[f];rcases k with ⟨hn,rfl⟩|⟨s,aa,ca,p,t,hn,rfl,h1,x⟩
  ·exact GI
  ·refine ⟨_,_,_,_,_,_,_,_,_,_,A9,fun y hs=> ?_,hG⟩;exact Jw
theorem Zub (h:VM w S v m) (hb:bdM m<=1048576):
  Calls JG 91 #[v] w fun e w'=> ∃ x1 x2 x3 x4 x5 y1 y2 y3 y4 y5 z1 z2 z3 z4 z5,e= .returned (.tuple #[.agg #[Yv Yi x1,Yv Yi x2, .slice x3 x4 x5], .agg #[Yv Yi y1,Yv Yi y2, .slice y3 y4 y5], .agg #[Yv Yi z1,Yv Yi z2, .slice z3 z4 z5], .bool (Zdf m).isSome])/\(∀ r,Zdf m=some r->VM w' (fun q=>w.heap.size<=q) (.agg #[Yv Yi x1,Yv Yi x2, .slice x3 x4 x5]) r)/\Grow w w':=by
 have g:=h;obtain ⟨a,n,c,rfl,h,ir,ic⟩:=h;cases hB:Zd m with
 |false=>
  refine (Zru g hb hB).mono ?_;rintro e w' ⟨rfl,hG⟩;have hn:Zdf m=none:=by unfold Zdf;rw[hB];rfl
  exact Ik
 |true=>
  obtain ⟨R,C,hmr,hmc,i,j,d,b⟩:=Zl hB;have f:Zdf m=(Zcz m.cells R C).map fun s=>{rows:=m.rows,cols:=m.cols,cells:=s.1}:=DT
  obtain ⟨l,o,cells⟩:=m;simp only at hmr hmc d b h f ir ic;subst hmr;subst hmc;refine (Zqp h d b i j).mono ?_;rintro e w' ⟨hG,k⟩;rw[f];rcases k with ⟨hn,rfl⟩|⟨s,aa,ca,p,t,x,y,z,A,hn,rfl,h1⟩
  ·exact Ik
  ·refine ⟨_,_,_,_,_,_,_,_,_,_,_,_,_,_,_,A9,fun B hs=> ?_,hG⟩;exact Jw
theorem Zwa (m:Mat):I64 (dtV m):=by
 exact I6
def VRs (w:World) (S:Nat->Prop) (v:Value) (r:Rs):Prop:= ∃ a c,v= .agg #[Yv Yi (rsM r).rows,Yv Yi (rsM r).cols, .slice a (rsM r).cells.length c, .bool r.isSome]/\RdI w S a (rsM r).cells.length c (rsM r).cells/\ROk r
def doR (d:Dfn) (x y:Rs):Rs:=Zke (if d.op=0 then some d.value else if x.isSome=true/\(2<d.op\/y.isSome=true) then opF d.op (rsM x) (rsM y) else none)
theorem VM.vrs {x y:Int} {a:Option Addr} {n c:Nat} (h:VM w S (.agg #[Yv Yi x,Yv Yi y, .slice a n c]) m):VRs w S (.agg #[Yv Yi x,Yv Yi y, .slice a n c, .bool true]) (rsS m):=by
 obtain ⟨i,j,k,e,b,d,f⟩:=h;simp only[Value.agg.injEq,Array.mk.injEq,List.cons.injEq,Value.int.injEq,Value.slice.injEq,and_true,true_and] at e;obtain ⟨rfl,rfl,rfl,rfl,rfl⟩:=e;have g:=b.len;subst g;exact ⟨_,_,rfl,b,d,f⟩
theorem VRs.zero:VRs w S (.agg #[Yv Yi 0,Yv Yi 0, .slice none 0 0, .bool false]) rs0:=⟨none,0,rfl,RdI.nilw _,BF⟩
theorem VRs.keep {w':World} (h:VRs w S v r) (hk:Keep T w w') (hST: ∀ b,b<w.heap.size->S b->T b):VRs w' S v r:=by
 obtain ⟨a,c,rfl,d,e⟩:=h;exact ⟨a,c,rfl,d.keep hk hST,e⟩
theorem VRs.weak (h:VRs w S v r) (hST: ∀ b,b<w.heap.size->S b->T b):VRs w T v r:=by
 obtain ⟨a,c,rfl,d,e⟩:=h;exact ⟨a,c,rfl,d.weak hST,e⟩
theorem Zq4 {U:Nat->Prop} {dv:Value} {d:Dfn} {x y:Rs} (hd:VD w U dv d) (h:VRs w S u x) (h':VRs w T v y) (hbd:d.value.cells.length<=1048576) (hbx:(rsM x).cells.length<=1048576) (hby:(rsM y).cells.length<=1048576) (hop:0<=d.op/\d.op<=9):
  Calls JG 50 #[dv,u,v] w fun e w'=> ∃ rv,e= .returned rv/\VRs w' (fun q=>w.heap.size<=q) rv (doR d x y)/\Grow w w':=by
 obtain ⟨da,dn,dc,rfl,rD,oD⟩:=hd;obtain ⟨aa,ca,rfl,rA,oA⟩:=h;obtain ⟨ab,cb,rfl,rB,oB⟩:=h';obtain ⟨res,hres2⟩:=eX (if d.op=0 then some d.value else if x.isSome=true/\(2<d.op\/y.isSome=true) then opF d.op (rsM x) (rsM y) else none);have V:doR d x y=Zke res:=by rw[hres2];rfl
 rw[V];have ae:I64 (rsM x).rows/\I64 (rsM x).cols:=oA;have af:I64 (rsM y).rows/\I64 (rsM y).cols:=oB;clear V oA oB;generalize rsM x=A at *;generalize rsM y=B at *;obtain ⟨bx,X⟩:=eX x.isSome;obtain ⟨yb,Y⟩:=eX y.isSome;rw[←X, ←Y] at hres2 ⊢;clear X Y x y;obtain ⟨w1,hw1,hG,bD,bA,bB,bZ,ao⟩:=al4 w #[.string d.name,Yv Yi d.op, .string d.a, .string d.b,Yv Yi d.value.rows,Yv Yi d.value.cols, .slice da dn dc] 39 #[Yv Yi A.rows,Yv Yi A.cols, .slice aa A.cells.length ca, .bool bx] 41 #[Yv Yi B.rows,Yv Yi B.cols, .slice ab B.cells.length cb, .bool yb] 41 #[Yv Yi 0,Yv Yi 0, .slice none 0 0, .bool false] 41;have d1:w1.cell? ⟨w.heap.size,1,none⟩=some (Yv Yi d.op):=bD.cell 1;have d4:w1.cell? ⟨w.heap.size,4,none⟩=some (Yv Yi d.value.rows):=bD.cell 4;have d5:w1.cell? ⟨w.heap.size,5,none⟩=some (Yv Yi d.value.cols):=bD.cell 5;have d6:w1.cell? ⟨w.heap.size,6,none⟩=some (.slice da dn dc):=bD.cell 6;have hltD:=bD.lt;have Hw1:=hid hw1;by_cases h0:d.op=0
 ·have HE:=hid (show res=some d.value by rw[hres2,if_pos h0]);have vD:VM w1 U (.agg #[Yv Yi d.value.rows,Yv Yi d.value.cols, .slice da dn dc]) d.value:=⟨da,dn,dc,rfl,rD.grow hG,oD.2.2.2.2.1,oD.2.2.2.2.2⟩;rw[h0] at d1;rw[Hw1.out] at d1 d4 d5 d6 hltD;clear bA bB bD hw1 hres2 h0;go_enter Lv,Lw;go_wp2_with fail;rw[←Hw1.out];refine (Zic vD Bq).mono ?_;rintro e w2 ⟨rv,rfl,⟨l,m,o,rfl,t,z,C,D,E⟩,L⟩;have hV:VRs w2 (fun q=>w1.heap.size<=q) (.agg #[Yv Yi d.value.rows,Yv Yi d.value.cols, .slice l m o, .bool true]) (rsS d.value):=VM.vrs ⟨l,m,o,rfl,t.rdI (fun q F=>(C q F).1) z,D,E⟩;replace bZ:=bZ.grow L;replace hG:=hG.trans L;clear d1 d4 d5 d6 hltD;have i:w.heap.size<=w.heap.size+1+1+1:=I
  obtain ⟨⟨z0,z1,z2,z3⟩,ah⟩:=bZ.four';have ai:=bZ.free 0;have aj:=bZ.free 1;have ak:=bZ.free 2;have Z:=bZ.lt;have G: ∀ (W:World) p q r s,Keep (fun g=>g≠w.heap.size+1+1+1) W ((((W.setCell ⟨w.heap.size+1+1+1,0,none⟩ p).setCell ⟨w.heap.size+1+1+1,1,none⟩ q).setCell ⟨w.heap.size+1+1+1,2,none⟩ r).setCell ⟨w.heap.size+1+1+1,3,none⟩ s):=fun W p q r s=>
   kS
  have N:=hid G;clear G;go_wp2;exact Zx Zk4 rfl rfl rfl ((((bZ.set 0 _).set 1 _).set 2 _).set 3 _) ⟨_,rfl,by rw[HE.out];exact (VRs.keep hV (N.out _ _ _ _ _) (fun g _ hg=>I)).weak fun q _ F=>I,(((hG.setCell i _).setCell i _).setCell i _).setCell i _⟩
 ·rw[if_neg h0] at hres2;have al:1<=d.op:=I
  obtain ⟨⟨a0,a1,a2,a3⟩, -⟩:=bA.four';obtain ⟨⟨b0,b1,b2,b3⟩, -⟩:=bB.four';have hltA:=bA.lt;have hltB:=bB.lt;have am:=hop.2;clear hop h0 bD d4 d5 d6 rD oD;obtain ⟨op,ad⟩:=eX d.op;rw[←ad] at al am d1 hres2 hw1 Hw1 ⊢;clear ad;cases bx with
  |false=>have HE:=hid (show res=none by rw[hres2,if_neg (fun h=>by cases h.1)]);exact H6
  |true=>
   by_cases hn:yb=false/\op<=2
   ·obtain ⟨rfl,h2⟩:=hn;have HE:=hid (show res=none by rw[hres2,if_neg Ψ]);exact H6
   ·have hf:2<op\/yb=true:=by
     cases yb with
     | false => exact .inl (by
       rcases Int.lt_or_le 2 op with h|h
       ·exact h
       ·exact (hn ⟨rfl,h⟩).elim)
     |true=>exact .inr rfl
    rw[if_pos ⟨rfl,hf⟩] at hres2;have O:=hid hres2;obtain ⟨w2,ag,L, -, -⟩:=al1 w1 #[Yv Yi 0,Yv Yi 0, .slice none 0 0] 37;have M:Blk w2 (w.heap.size+1+1+1+1) #[Yv Yi 0,Yv Yi 0, .slice none 0 0] 37:=(by rw[ag];exact Blk.newAt _ _ _ ao.symm);have k:=hid ag;rw[Hw1.out] at k;replace bZ:=bZ.grow L;replace hG:=hG.trans L;have R:VM w2 S (.agg #[Yv Yi A.rows,Yv Yi A.cols, .slice aa A.cells.length ca]) A:=⟨aa,_,ca,rfl,rA.grow hG,ae.1,ae.2⟩;have vB:VM w2 T (.agg #[Yv Yi B.rows,Yv Yi B.cols, .slice ab B.cells.length cb]) B:=⟨ab,_,cb,rfl,rB.grow hG,af.1,af.2⟩;have H:bdM A<=1048576:=hbx;have ap:bdM B<=1048576:=hby;rw[Hw1.out] at a0 a1 a2 a3 b0 b1 b2 b3 hltA hltB d1 hltD;clear hres2 ag hw1 hn rA rB ae af hbx hby L bA bB;have hc:op=1\/op=2\/op=4\/op=3\/op=5\/op=6\/op=7\/op=8\/op=9:=I;rcases hc with rfl|rfl|rfl|rfl|rfl|rfl|rfl|rfl|rfl
    case' inl=>
     obtain rfl:yb=true:=(by rcases hf with h|h;omega;exact h);clear hf;go_enter Lv,Lw;go_wp2_with fail;rw[←k.out];refine (ZvV R vB H ap).mono ?_;rintro e w3 ⟨rv,rfl,⟨l,m,o,rfl,t,z,C,D,E⟩,f⟩;have HO:=hid (show res=okF (ZfK A B) (amB A B) by rw[O.out];rfl);cases hok:ZfK A B
     case' false=>have HE:=hid (show res=none by rw[HO.out,hok];rfl);have hV:=VRs.zero (w:=w3) (S:=fun q=>w2.heap.size<=q)
     case' true=>have HE:=hid (show res=some (amB A B) by rw[HO.out,hok];rfl);have hV:VRs w3 (fun q=>w2.heap.size<=q) (.agg #[Yv Yi (amB A B).rows,Yv Yi (amB A B).cols, .slice l m o, .bool true]) (rsS (amB A B)):=VM.vrs ⟨l,m,o,rfl,t.rdI (fun q F=>(C q F).1) z,D,E⟩
     all_goals clear hok HO t z C D E;generalize amB A B=P at *
    case' inr.inl=>
     obtain rfl:yb=true:=(by rcases hf with h|h;omega;exact h);clear hf;go_enter Lv,Lw;go_wp2_with fail;rw[←k.out];refine (Zmi R vB I I).mono ?_;rintro e w3 ⟨rv,rfl,⟨l,m,o,rfl,t,z,C,D,E⟩,f⟩;have HO:=hid (show res=okF (ZC A B) (Zq A B) by rw[O.out];rfl);cases hok:ZC A B
     case' false=>have HE:=hid (show res=none by rw[HO.out,hok];rfl);have hV:=VRs.zero (w:=w3) (S:=fun q=>w2.heap.size<=q)
     case' true=>have HE:=hid (show res=some (Zq A B) by rw[HO.out,hok];rfl);have hV:VRs w3 (fun q=>w2.heap.size<=q) (.agg #[Yv Yi (Zq A B).rows,Yv Yi (Zq A B).cols, .slice l m o, .bool true]) (rsS (Zq A B)):=VM.vrs ⟨l,m,o,rfl,t.rdI (fun q F=>(C q F).1) z,D,E⟩
     all_goals clear hok HO t z C D E;generalize Zq A B=P at *
    case inr.inr.inl=>
     go_enter Lv,Lw;go_wp2_with fail;rw[←k.out];refine (Zto R H).mono ?_;rintro e w3 ⟨rfl,f⟩;have HO:=hid (show res=okF (ZdS A) {rows:=1,cols:=1,cells:=[dtV A]} by rw[O.out];rfl);have aq:w.heap.size+1+1+1+1<w2.heap.size:=M.lt;replace bZ:=bZ.grow f;replace M:=M.grow f;replace hG:=hG.trans f;clear a0 a1 a2 a3 b0 b1 b2 b3 hltA hltB d1 hltD;have ar:=Zwa A;cases hok:ZdS A
     case' false=>have HE:=hid (show res=none by rw[HO.out,hok];rfl)
     case' true=>have HE:=hid (show res=some {rows:=1,cols:=1,cells:=[dtV A]} by rw[HO.out,hok];rfl)
     all_goals
      clear hok HO;generalize dtV A=dv at *;have i:w.heap.size<=w.heap.size+1+1+1:=I;have j:w.heap.size<=w.heap.size+1+1+1+1:=I;have J:w.heap.size+1+1+1≠w.heap.size+1+1+1+1:=I;obtain ⟨⟨z0,z1,z2,z3⟩,ah⟩:=bZ.four';obtain ⟨⟨t0,t1,t2⟩,av,aw,ax⟩:=M.three;have ai:=bZ.free 0;have aj:=bZ.free 1;have ak:=bZ.free 2;have Z:=bZ.lt;have an:=M.lt;have G: ∀ (W:World) a b c p q r s,Keep (fun g=>g≠w.heap.size+1+1+1+1/\g≠w.heap.size+1+1+1) W (((((((W.setCell ⟨w.heap.size+1+1+1+1,0,none⟩ a).setCell ⟨w.heap.size+1+1+1+1,1,none⟩ b).setCell ⟨w.heap.size+1+1+1+1,2,none⟩ c).setCell ⟨w.heap.size+1+1+1,0,none⟩ p).setCell ⟨w.heap.size+1+1+1,1,none⟩ q).setCell ⟨w.heap.size+1+1+1,2,none⟩ r).setCell ⟨w.heap.size+1+1+1,3,none⟩ s):=fun W a b c p q r s=>
       kS
      have N:=hid G;clear G;go_wp2;have ay: ∀ W:World,VRs W (fun q=>w.heap.size<=q) (.agg #[Yv Yi 0,Yv Yi 0, .slice none 0 0, .bool false]) rs0:=fun _=>VRs.zero;have az: ∀ W:World,W.heap.size=w3.heap.size->VRs (W.alloc (.cells #[Yv Yi dv] 3)) (fun q=>w.heap.size<=q) (.agg #[Yv Yi 1,Yv Yi 1, .slice (some ⟨w3.heap.size,0,none⟩) 1 1, .bool true]) (rsS {rows:=1,cols:=1,cells:=[dv]}):=fun W hW=>
       VM.vrs ⟨some ⟨w3.heap.size,0,none⟩,1,1,rfl,(Own.freshAt (cs:= #[Yv Yi dv]) (n:=1) (sz:=1) hW.symm Γ rfl:Own (W.alloc (.cells #[Yv Yi dv] 3)) 3 1 (some ⟨w3.heap.size,0,none⟩) 1 1 (ints [dv])).rdI (fun q F=>by have:=Option.some.inj F;simp only at this;have:=f.size;omega) (fun x hx=>by rw[List.mem_singleton.1 hx];exact ar),by show I64 1;unfold I64;simp,by show I64 1;unfold I64;simp⟩
      exact Zx Zk4 rfl rfl rfl ((((((((bZ.other J _).other J _).other J _).set 0 _).set 1 _).set 2 _).set 3 _).alloc _) ⟨_,rfl,by rw[HE.out];(first |exact ay _|exact az _ Θ),(((((((hG.setCell j _).setCell j _).setCell j _).setCell i _).setCell i _).setCell i _).setCell i _).alloc _ _⟩
    case' inr.inr.inr.inl=>
     go_enter Lv,Lw;go_wp2_with fail;rw[←k.out];refine (Zuh R H).mono ?_;rintro e w3 ⟨rv,rfl,⟨l,m,o,rfl,t,z,C,D,E⟩,f⟩;have HO:=hid (show res=okF (Zd A) (trB A) by rw[O.out];rfl);cases hok:Zd A
     case' false=>have HE:=hid (show res=none by rw[HO.out,hok];rfl);have hV:=VRs.zero (w:=w3) (S:=fun q=>w2.heap.size<=q)
     case' true=>have HE:=hid (show res=some (trB A) by rw[HO.out,hok];rfl);have hV:VRs w3 (fun q=>w2.heap.size<=q) (.agg #[Yv Yi (trB A).rows,Yv Yi (trB A).cols, .slice l m o, .bool true]) (rsS (trB A)):=VM.vrs ⟨l,m,o,rfl,t.rdI (fun q F=>(C q F).1) z,D,E⟩
     all_goals clear hok HO t z C D E;generalize trB A=P at *
    case' inr.inr.inr.inr.inl=>
     go_enter Lv,Lw;go_wp2_with fail;rw[←k.out];refine (Zvc R H).mono ?_;rintro e w3 ⟨x1,x2,x3,x4,x5,y1,y2,y3,y4,y5,rfl,hr,f⟩;have HO:=hid (show res=Zdb A from O.out);obtain ⟨rr,hrr⟩:=eX (Zdb A);rw[←hrr] at hr HO ⊢;clear hrr;cases rr
     case' none=>have HE:=hid (show res=none from HO.out);have hV:=VRs.zero (w:=w3) (S:=fun q=>w2.heap.size<=q)
     case' some r=>
      have HE:=hid (show res=some r from HO.out);have hV:=VM.vrs (hr r rfl)
     all_goals clear HO hr
    case' inr.inr.inr.inr.inr.inl=>
     go_enter Lv,Lw;go_wp2_with fail;rw[←k.out];refine (Zub R H).mono ?_;rintro e w3 ⟨x1,x2,x3,x4,x5,y1,y2,y3,y4,y5,k1,k2,k3,k4,k5,rfl,hr,f⟩;have HO:=hid (show res=Zdf A from O.out);obtain ⟨rr,hrr⟩:=eX (Zdf A);rw[←hrr] at hr HO ⊢;clear hrr;cases rr
     case' none=>have HE:=hid (show res=none from HO.out);have hV:=VRs.zero (w:=w3) (S:=fun q=>w2.heap.size<=q)
     case' some r=>
      have HE:=hid (show res=some r from HO.out);have hV:=VM.vrs (hr r rfl)
     all_goals clear HO hr
    case' inr.inr.inr.inr.inr.inr.inl=>
     go_enter Lv,Lw;go_wp2_with fail;rw[←k.out];refine (Zpf R H).mono ?_;rintro e w3 ⟨rv,rfl,⟨l,m,o,rfl,t,z,C,D,E⟩,f⟩;have HO:=hid (show res=okF (Zdh A) (Zcv A) by rw[O.out];rfl);cases hok:Zdh A
     case' false=>have HE:=hid (show res=none by rw[HO.out,hok];rfl);have hV:=VRs.zero (w:=w3) (S:=fun q=>w2.heap.size<=q)
     case' true=>have HE:=hid (show res=some (Zcv A) by rw[HO.out,hok];rfl);have hV:VRs w3 (fun q=>w2.heap.size<=q) (.agg #[Yv Yi (Zcv A).rows,Yv Yi (Zcv A).cols, .slice l m o, .bool true]) (rsS (Zcv A)):=VM.vrs ⟨l,m,o,rfl,t.rdI (fun q F=>(C q F).1) z,D,E⟩
     all_goals clear hok HO t z C D E;generalize Zcv A=P at *
    case' inr.inr.inr.inr.inr.inr.inr.inl=>
     go_enter Lv,Lw;go_wp2_with fail;rw[←k.out];refine (Zmd R H).mono ?_;rintro e w3 ⟨rv,rfl,⟨l,m,o,rfl,t,z,C,D,E⟩,f⟩;have HO:=hid (show res=okF (ZaO A) (ZaD A) by rw[O.out];rfl);cases hok:ZaO A
     case' false=>have HE:=hid (show res=none by rw[HO.out,hok];rfl);have hV:=VRs.zero (w:=w3) (S:=fun q=>w2.heap.size<=q)
     case' true=>have HE:=hid (show res=some (ZaD A) by rw[HO.out,hok];rfl);have hV:VRs w3 (fun q=>w2.heap.size<=q) (.agg #[Yv Yi (ZaD A).rows,Yv Yi (ZaD A).cols, .slice l m o, .bool true]) (rsS (ZaD A)):=VM.vrs ⟨l,m,o,rfl,t.rdI (fun q F=>(C q F).1) z,D,E⟩
     all_goals clear hok HO t z C D E;generalize ZaD A=P at *
    case' inr.inr.inr.inr.inr.inr.inr.inr=>
     go_enter Lv,Lw;go_wp2_with fail;rw[←k.out];refine (ZuS R H).mono ?_;rintro e w3 ⟨rv,y1,y2,y3,y4,y5,rfl,⟨l,m,o,rfl,t,z,C,D,E⟩,f⟩;have HO:=hid (show res=okF (ZbH A) (Zbe A) by rw[O.out];rfl);cases hok:ZbH A
     case' false=>have HE:=hid (show res=none by rw[HO.out,hok];rfl);have hV:=VRs.zero (w:=w3) (S:=fun q=>w2.heap.size<=q)
     case' true=>have HE:=hid (show res=some (Zbe A) by rw[HO.out,hok];rfl);have hV:VRs w3 (fun q=>w2.heap.size<=q) (.agg #[Yv Yi (Zbe A).rows,Yv Yi (Zbe A).cols, .slice l m o, .bool true]) (rsS (Zbe A)):=VM.vrs ⟨l,m,o,rfl,t.rdI (fun q F=>(C q F).1) z,D,E⟩
     all_goals clear hok HO t z C D E;generalize Zbe A=P at *
    all_goals
     have aq:w.heap.size+1+1+1+1<w2.heap.size:=M.lt;replace bZ:=bZ.grow f;replace M:=M.grow f;replace hG:=hG.trans f;clear a0 a1 a2 a3 b0 b1 b2 b3 hltA hltB d1 hltD;have i:w.heap.size<=w.heap.size+1+1+1:=I;have j:w.heap.size<=w.heap.size+1+1+1+1:=I;have J:w.heap.size+1+1+1≠w.heap.size+1+1+1+1:=I;obtain ⟨⟨z0,z1,z2,z3⟩,ah⟩:=bZ.four';obtain ⟨⟨t0,t1,t2⟩,av,aw,ax⟩:=M.three;have ai:=bZ.free 0;have aj:=bZ.free 1;have ak:=bZ.free 2;have Z:=bZ.lt;have an:=M.lt;have G: ∀ (W:World) a b c p q r s,Keep (fun g=>g≠w.heap.size+1+1+1+1/\g≠w.heap.size+1+1+1) W (((((((W.setCell ⟨w.heap.size+1+1+1+1,0,none⟩ a).setCell ⟨w.heap.size+1+1+1+1,1,none⟩ b).setCell ⟨w.heap.size+1+1+1+1,2,none⟩ c).setCell ⟨w.heap.size+1+1+1,0,none⟩ p).setCell ⟨w.heap.size+1+1+1,1,none⟩ q).setCell ⟨w.heap.size+1+1+1,2,none⟩ r).setCell ⟨w.heap.size+1+1+1,3,none⟩ s):=fun W a b c p q r s=>
      kS
     have N:=hid G;clear G;go_wp2;exact Zx Zk4 rfl rfl rfl (((((((bZ.other J _).other J _).other J _).set 0 _).set 1 _).set 2 _).set 3 _) ⟨_,rfl,by rw[HE.out];exact (VRs.keep hV (N.out _ _ _ _ _ _ _ _) (fun g _ hg=>⟨I,I⟩)).weak fun q _ F=>I,((((((hG.setCell j _).setCell j _).setCell j _).setCell i _).setCell i _).setCell i _).setCell i _⟩

end Go.Proofs.YtgjefeiddfjjnaaGreatDoor
