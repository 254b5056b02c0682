/- The program's TransposeOf. -/
import Derived.Test.YtgjefeiddfjjnaaGreatDoorZSmith
import Derived.Test.YtgjefeiddfjjnaaGreatDoorZHermY
import Derived.Test.YtgjefeiddfjjnaaGreatDoorZSmithR
set_option maxHeartbeats 8000000
set_option maxRecDepth 100000
namespace Go.Proofs.YtgjefeiddfjjnaaGreatDoor
open Go.RowKit
open Lib (hid)
open Go.Value renaming int->Yv
open Go.IntKind renaming i64->Yi
open Grow renaming refl->JH
open List renaming getElem?_cons_succ->Kx,getElem?_cons_zero->Ku,getElem?_toArray->Kt
open Nat renaming le_refl->JM,mul_le_mul->JL,zero_le->JI
open Go.Proofs.Tryz renaming prog->JG
open Go.Proofs.Tryz
variable {B C R c ca cr cu i j:Nat} {aa ar au:Option Addr} {b:Bool} {m:List Int} {w:World}
def trP (m:List Int) (R C i j:Nat):List Int:=tab C R fun c r=>if r<i\/(r=i/\c<j) then cell m C r c else 0
theorem Ze1 (m:List Int) (R C i j:Nat):(trP m R C i j).length=C*R:=Zc8 _ _ _
theorem Ze3 {r:Nat} (hr:r<R) (hc:c<C):cell (trP m R C i j) R c r=if r<i\/(r=i/\c<j) then cell m C r c else 0:=Zcq hc hr
theorem Zuj (m:List Int) (R C:Nat):trP m R C 0 0=List.replicate (C*R) 0:=
 Zbj (Ze1 _ _ _ _ _) Θ fun c r a b=>by rw[Ze3 b a,if_neg I];unfold cell;simp[List.getD_eq_getElem?_getD,List.getElem?_replicate];split<;>rfl
theorem ZvF (hi:i<R) (hj:j<C):(trP m R C i j).set (j*R+i) (cell m C i j)=trP m R C i (j+1):=
 Zbj (by rw[List.length_set,Ze1]) (Ze1 _ _ _ _ _) fun c r b a=>by
  rw[ZhS (Ze1 _ _ _ _ _) hj hi a,Ze3 a b,Ze3 a b];by_cases e:c=j/\r=i
  ·obtain ⟨rfl,rfl⟩:=e;rw[if_pos ⟨rfl,rfl⟩,if_pos (.inr ⟨rfl,I⟩)]
  ·rw[if_neg e];by_cases d:r<i\/(r=i/\c<j)
   ·rw[if_pos d,if_pos I]
   ·rw[if_neg d,if_neg I]
theorem Zt8 (m:List Int) (R C i:Nat):trP m R C i C=trP m R C (i+1) 0:=
 Zbj (Ze1 _ _ _ _ _) (Ze1 _ _ _ _ _) fun c r a b=>by
  rw[Ze3 b a,Ze3 b a];by_cases d:r<i\/(r=i/\c<C)
  ·rw[if_pos d,if_pos I]
  ·rw[if_neg d,if_neg I]
theorem ZvC (m:List Int) (R C:Nat):trP m R C R 0=trL m R C:=
 Zbj (Ze1 _ _ _ _ _) (Zbg _ _ _) fun c r b a=>by rw[Ze3 a b,if_pos (.inl a),ZbV a b]
theorem Zce {S:Nat->Prop} {a:Option Addr} {n:Nat} (h:RdI w S a n c m) (hl:m.length=R*C) (hnum:NumL m) (hR:R<=24) (hC:C<=24):
  Calls JG 218 #[.agg #[Yv Yi R,Yv Yi C, .slice a n c]] w fun e w'=> ∃ oa,e= .returned (.tuple #[.agg #[Yv Yi C,Yv Yi R, .slice oa (C*R) (C*R)], .bool true])/\Own w' 3 1 oa (C*R) (C*R) (ints (trL m R C))/\(∀ q,blk oa=some q->w.heap.size<=q)/\Grow w w':=by
 have ar:R*C<=24*24:=JL hR hC;have av:C*R<=24*24:=JL hC hR;have hB:=Zay hR hC hl hnum;have Y:VM w S (.agg #[Yv Yi R,Yv Yi C, .slice a n c]) {rows:=(R:Int),cols:=(C:Int),cells:=m}:=⟨a,n,c,rfl,h,δ,η⟩;obtain ⟨w2,z,o,bM,bR, -⟩:=al2 w #[Yv Yi (R:Int),Yv Yi (C:Int), .slice a n c] 37 #[Yv Yi 0,Yv Yi 0, .slice none 0 0] 37;have Z:=hid z;clear z;have HB:=hid hB;clear hB;have A:=h.len;have aa:=hid (show R*C=n by rw[←A,hl]);clear A;have ab:n<=576:=by have:=aa.out;omega
 have Hl:=hid hl;clear hl;have B:RdI w2 (fun g=>g<w.heap.size) a n c m:=(h.weak (T:=fun g=>g<w.heap.size) (fun _ hb _=>hb)).grow o;go_enter func218,ntmps218;go_wp2_with fail;rw[←Z.out];refine (ZG (Y.grow o) (by unfold bdM;simp only;rw[Hl.out];omega)).mono ?_;rintro e w3 ⟨rfl,r⟩;rw[HB.out];have D:=bM.grow r;obtain ⟨⟨E,F,G⟩, -⟩:=D.three;have d:=D.lt;go_wp2_with fail;refine (Zc9 C R _ I I).mono ?_;rintro e w4 ⟨oa,rfl,hO,hlo,H⟩;clear E F G d;obtain ⟨w5,J,L,bO, -⟩:=al1 w4 #[Yv Yi (C:Int),Yv Yi (R:Int), .slice oa (C*R) (C*R)] 37;have f:=(r.trans H).trans L;have M:=bM.grow f;have ad:=bR.grow f;have s:=hO.grow L;rw[←Zuj m R C] at s;have ae:=B.grow f;have aw:=o.size;have ax:=r.size;have ay:=H.size;have ao:=bR.lt;have nM:blk oa≠some w.heap.size:=fun e=>ε
 have nR:blk oa≠some (w.heap.size+1):=fun e=>ε
 have nO:blk oa≠some w4.heap.size:=fun e=>Dg
 have nD: ∀ g,g<w.heap.size->blk oa≠some g:=fun g X e=>ε
 have af:=hid J;clear J hO B;go_wp2;rw[←af.out];go_loopw [5] (fun q wr=>Keep (fun g=>blk oa≠some g) w5 wr/\ ∃ i:Nat,i<=R/\q=Yv Yi i/\Own wr 3 1 oa (C*R) (C*R) (ints (trP m R C i 0))) (fun q _=>R-(intOf q).toNat);case atStart=>exact ⟨Keep.refl _ _,0,JI _,rfl,s⟩
 case round=>
  obtain ⟨wo,rfl⟩:=eX wr;clear s;obtain ⟨b,i,hi,rfl,hO⟩:=hrel;have k:=M.keep b nM;obtain ⟨⟨E,F,G⟩, -⟩:=k.three;have d:=k.lt;by_cases t:i<R
  ·go_wp2;clear E F G d k;go_loopw [6] (fun q u=>Keep (fun g=>blk oa≠some g) w5 u/\ ∃ j:Nat,j<=C/\q=Yv Yi j/\Own u 3 1 oa (C*R) (C*R) (ints (trP m R C i j))) (fun q _=>C-(intOf q).toNat);case atStart=>exact ⟨b,0,JI _,rfl,hO⟩
   case round=>
    clear b hO;obtain ⟨b,j,hj,rfl,hO⟩:=hrel;have k:=M.keep b nM;have v:=bO.keep b nO;have ag:=ae.keep b (fun g _ X=>nD g X);obtain ⟨⟨E,F,G⟩, -⟩:=k.three;have d:=k.lt;by_cases x:j<C
    ·have hni:i*C+j<R*C:=Zf x t;have N:j*R+i<C*R:=Zf t x;have O:=hid (show m[i*C+j]? =some (cell m C i j) from ZU Ej);have P:=hid (ZvF (m:=m) t x);clear hni;go_wp2;refine Zcr (fun g=>blk oa≠some g) [([0,1,2,3,4,5],some 6),([],some 7)] ?_;refine ZR ?_;intro K hK;refine (ZaA a n c C i j (i*C+j) (R:Int) _ m _ (ag.grow (JH _).drew) rfl O.out I I I I).mono ?_;rintro e w8 ⟨rfl,ah⟩;have l:=(JH wr).drew.trans ah;go_wp2_with fail;refine hK _ _ (l.any) ?_;clear hK K;refine ZR ?_;intro K hK;refine (Zjp oa _ _ R j i (j*R+i) (C:Int) (cell m C i j) _ _ (hO.grow l) rfl N I I I I).mono ?_;rintro e w9 ⟨rfl,V,ai⟩;rw[P.out] at V;have p:=l.any.trans ai;go_wp2_with fail;refine hK _ _ (p) ?_;clear hK K;refine Ze ?_;clear E F G d N;go_wp2;go_roundw;case rel=>exact ⟨b.trans p,j+1,I,Δ,V⟩
     case measure=>exact FN
    ·have aj:C=j:=I;subst aj;rw[Zt8] at hO;go_wp2;go_roundw;case rel=>exact ⟨b,i+1,I,Δ,hO⟩
     case measure=>exact FN
  ·have ak:R=i:=I;subst ak;rw[ZvC] at hO;have y:=ad.keep b nR;have v:=bO.keep b nO;obtain ⟨⟨z0,z1,z2⟩,g0,g1,g2⟩:=y.three;obtain ⟨⟨o0,o1,o2⟩, -⟩:=v.three;have ap:=y.lt;have aq:=v.lt;have W:Keep (fun q=>q≠w.heap.size+1) wo (((wo.setCell ⟨w.heap.size+1,0,none⟩ (Yv Yi (C:Int))).setCell ⟨w.heap.size+1,1,none⟩ (Yv Yi (R:Int))).setCell ⟨w.heap.size+1,2,none⟩ (.slice oa (C*R) (C*R))):=
    kS
   have al:=hO.keep W (fun g X _ e=>nR (by rw[X,e]));have am:Grow w wo:=Grow.keep (S:=fun g=>blk oa≠some g) (o.trans f) b nD;have an:=am.keep W (fun q hq=>I);go_wp2;exact Zb Zc rfl rfl rfl (((y.set 0 _).set 1 _).set 2 _) ⟨oa,rfl,al,(fun q hq=>by have:=hlo q hq;omega),an⟩
structure WkP (w:World) (B g R C:Nat) (aa au ar:Option Addr) (ca cu cr:Nat) (b:Bool) (s:SS):Prop where
 wk:Wk w g R C aa au ar ca cu cr b
 th:Thr w aa au ar (R*C) (R*R) (C*C) ca cu cr s
 na:blk aa≠some g
 nu:blk au≠some g
 nr:blk ar≠some g
 la: ∀ q,blk aa=some q->B<=q
 lu: ∀ q,blk au=some q->B<=q
 lr: ∀ q,blk ar=some q->B<=q
 lg:B<=g
def WkS (w:World) (B g R C:Nat) (b:Bool) (s:SS):Prop:= ∃ aa au ar ca cu cr,WkP w B g R C aa au ar ca cu cr b s
theorem WkP.s {g:Nat} {s:SS} (h:WkP w B g R C aa au ar ca cu cr b s):WkS w B g R C b s:=⟨_,_,_,_,_,_,h⟩
theorem WkP.grow {w':World} {g:Nat} {s:SS} (h:WkP w B g R C aa au ar ca cu cr b s) (hk:Grow w w'):WkP w' B g R C aa au ar ca cu cr b s:=
 ⟨h.wk.grow hk,h.th.grow hk,h.na,h.nu,h.nr,h.la,h.lu,h.lr,h.lg⟩
def To3 (f:Option SS) (b:Bool) (s':SS):Prop:=(b=false/\f=some s')\/(b=true/\f=none)
structure WkG (w:World) (g R C:Nat) (aa au ar:Option Addr) (ca cu cr:Nat) (bad:Bool):Prop where
 c0:w.cell? ⟨g,0,none⟩=some (Yv Yi R)
 c1:w.cell? ⟨g,1,none⟩=some (Yv Yi C)
 c2:w.cell? ⟨g,2,none⟩=some (.slice aa (R*C) ca)
 c6:w.cell? ⟨g,6,none⟩=some (Yv Yi C)
 c7:w.cell? ⟨g,7,none⟩=some (Yv Yi C)
 c8:w.cell? ⟨g,8,none⟩=some (.slice ar (C*C) cr)
 c9:w.cell? ⟨g,9,none⟩=some (.bool bad)
 f0:w.frozen? ⟨g,0,none⟩=false
 f1:w.frozen? ⟨g,1,none⟩=false
 f2:w.frozen? ⟨g,2,none⟩=false
 f6:w.frozen? ⟨g,6,none⟩=false
 f7:w.frozen? ⟨g,7,none⟩=false
 f8:w.frozen? ⟨g,8,none⟩=false
 f9:w.frozen? ⟨g,9,none⟩=false
theorem Wk.g {g:Nat} {bad:Bool} (h:Wk w g R C aa au ar ca cu cr bad):WkG w g R C aa au ar ca cu cr bad:=
 ⟨h.cell 0,h.cell 1,h.cell 2,h.cell 6,h.cell 7,h.cell 8,h.cell 9,h.free 0,h.free 1,h.free 2,h.free 6,h.free 7,h.free 8,h.free 9⟩
theorem Ss.hs {s:SS} (h:Ss C R s):Hs C R (s.1,s.2.1):=⟨h.la,h.lu,h.na,h.nu⟩
theorem ZnR (B g R C i p:Nat) (t:Int) (s:SS) (w:World) (hW:WkS w B g R C false s) (hs:Ss C R s) (hi:i<R) (hp:p<R) (hip:i≠p) (ht: -400000000<=t/\t<=400000000) (hR:R<=24) (hC:C<=24):
  Calls JG 227 #[.pointer (some ⟨g,0,none⟩),Yv Yi i,Yv Yi p,Yv Yi t] w fun e w'=>e= .returned (.tuple #[])/\ ∃ b s',WkS w' B g R C b s'/\To3 (ZaP C R i p t s) b s'/\Keep (fun q=>q<B) w w':=by
 obtain ⟨d,f,j,k,l,m,h⟩:=hW;refine (Zlj g R C i p t d f j k l m (s.1,s.2.1) w h.wk h.th.two h.na h.nu hs.hs hi hp hip ht hR hC).mono ?_;rintro e w' ⟨rfl,b,s',r,n,a,o⟩;refine ⟨rfl,b,(s'.1,s'.2,s.2.2),⟨d,f,j,k,l,m,r,⟨n.oa,n.ou,h.th.ov.keep o (fun q hq _=>⟨fun e=>h.th.nav q e hq,fun e=>h.th.nuv q e hq,fun e=>h.nr Fl⟩),h.th.nau,h.th.nav,h.th.nuv⟩,h.na,h.nu,h.nr,h.la,h.lu,h.lr,h.lg⟩, ?_,o.mono fun q _ hq=>⟨fun e=>CT,fun e=>CS,fun e=>by have:=h.lg;omega⟩⟩;unfold ZmX Zde at a;unfold To3 ZaP;rcases a with ⟨rfl,a⟩|⟨rfl,a⟩
 ·refine .inl ⟨rfl, ?_⟩;split at a
  ·rename_i c;obtain rfl:=Option.some.inj a;rw[if_pos c]
  ·cases a
 ·refine .inr ⟨rfl, ?_⟩;split at a
  ·cases a
  ·rename_i c;rw[if_neg c]
theorem ZuE (B g R C i p:Nat) (s:SS) (w:World) (hW:WkS w B g R C false s) (hs:Ss C R s) (hi:i<R) (hp:p<R) (hip:i≠p) (hR:R<=24) (hC:C<=24):
  Calls JG 167 #[.pointer (some ⟨g,0,none⟩), .agg #[Yv Yi 0,Yv Yi i,Yv Yi p,Yv Yi 0]] w fun e w'=>e= .returned (.tuple #[])/\WkS w' B g R C false (ZbZ C R i p s)/\Keep (fun q=>q<B) w w':=by
 obtain ⟨aa,au,ar,ca,cu,cr,h⟩:=hW;refine (Zj0 g R C i p aa au ar ca cu cr (s.1,s.2.1) w h.wk h.th.two h.na h.nu hs.hs hi hp hip hR hC).mono ?_;exact GD
theorem Zua (B g R C i:Nat) (s:SS) (w:World) (hW:WkS w B g R C false s) (hs:Ss C R s) (hi:i<R) (hR:R<=24) (hC:C<=24):
  Calls JG 167 #[.pointer (some ⟨g,0,none⟩), .agg #[Yv Yi 1,Yv Yi i,Yv Yi i,Yv Yi 0]] w fun e w'=>e= .returned (.tuple #[])/\WkS w' B g R C false (Zgy C R i s)/\Keep (fun q=>q<B) w w':=by
 obtain ⟨aa,au,ar,ca,cu,cr,h⟩:=hW;refine (ZpH g R C i aa au ar ca cu cr (s.1,s.2.1) w h.wk h.th.two h.na h.nu hs.hs hi hR hC).mono ?_;exact GD
theorem Zns (B g R C:Nat) (aa au ar:Option Addr) (ca cu cr:Nat) (kd i p t:Int) (s:SS) (fa fv:List Int) (b1 b2:Bool) (w:World) (h:WkP w B g R C aa au ar ca cu cr false s) (hs:Ss C R s) (hR:R<=24) (hC:C<=24)
  (h0: ∀ w,Calls JG 228 #[.agg #[Yv Yi kd,Yv Yi i,Yv Yi p,Yv Yi t],Yv Yi C] w fun e w'=>e= .returned (.bool true)/\Grow w w')
  (h1: ∀ (w:World) (a:Option Addr),Own w 3 1 a (C*R) (C*R) (ints (trL s.1 R C))->Calls JG 161 #[.agg #[Yv Yi C,Yv Yi R, .slice a (C*R) (C*R)], .agg #[Yv Yi kd,Yv Yi i,Yv Yi p,Yv Yi t]] w fun e w'=> ∃ m',e= .returned (.bool b1)/\Own w' 3 1 a (C*R) (C*R) (ints m')/\Keep (fun q=>blk a≠some q) w w'/\(b1=true->m'=fa))
  (h2: ∀ (w:World) (a:Option Addr),Own w 3 1 a (C*C) (C*C) (ints (trL s.2.2 C C))->Calls JG 161 #[.agg #[Yv Yi C,Yv Yi C, .slice a (C*C) (C*C)], .agg #[Yv Yi kd,Yv Yi i,Yv Yi p,Yv Yi t]] w fun e w'=> ∃ m',e= .returned (.bool b2)/\Own w' 3 1 a (C*C) (C*C) (ints m')/\Keep (fun q=>blk a≠some q) w w'/\(b2=true->m'=fv))
  (hfa:b1=true->fa.length=C*R/\NumL fa) (hfv:b2=true->fv.length=C*C/\NumL fv):
  Calls JG 225 #[.pointer (some ⟨g,0,none⟩), .agg #[Yv Yi kd,Yv Yi i,Yv Yi p,Yv Yi t]] w fun e w'=>e= .returned (.tuple #[])/\ ∃ s',WkS w' B g R C (!(b1&&b2)) s'/\((b1&&b2)=true->s'=(trL fa C R,s.2.1,trL fv C C))/\Keep (fun q=>q<B) w w':=by
 have a0:R*C<=24*24:=JL hR hC;have a1:C*R<=24*24:=JL hC hR;have a2:C*C<=24*24:=JL hC hC;have P:=(JH w).alloc #[Yv Yi kd,Yv Yi i,Yv Yi p,Yv Yi t] 169;have bX:=Blk.new w #[Yv Yi kd,Yv Yi i,Yv Yi p,Yv Yi t] 169;have a3:g<w.heap.size:=Blk.lt h.wk;have P2:=h.grow P;have a4:=h.lg;have y: ∀ q,blk aa=some q->q<w.heap.size:=fun q hq=>h.th.oa.lt hq;have hUlt: ∀ q,blk au=some q->q<w.heap.size:=fun q hq=>h.th.ou.lt hq;have z: ∀ q,blk ar=some q->q<w.heap.size:=fun q hq=>h.th.ov.lt hq;clear h;generalize V:w.alloc (.cells #[Yv Yi kd,Yv Yi i,Yv Yi p,Yv Yi t] 169)=w2 at *;have ap:=hid V;clear V;have wf:=P2.wk.g;go_enter func225,ntmps225;go_wp2;rw[ap.out];refine ZaH [([0,1,2,3,4,5,6,7,8,9,10],some 11),([12,13],none)] ?_;refine Zuu wf.c9 wf.c1 ?_;intro K hK;refine (h0 _).mono ?_;rintro e w3 ⟨rfl,aq⟩;have c:=(JH w2).drew.trans aq;go_wp2_with fail;refine hK _ _ (c) ?_;clear hK K;refine Zux wf.c9 wf.c1 ?_;refine Ze ?_;have W:=P2.grow c;have G:=bX.grow c;clear P2 wf;obtain ⟨c0,c1,c2,c6,c7,c8,c9, -, -, -, -, -, -, -⟩:=W.wk.g;have a5:g<w3.heap.size:=Blk.lt W.wk;have rA:=W.th.oa.rdI (S:=fun _=>True) (fun _ _=>trivial) (Zp hs.na);go_wp2_with fail;refine (Zce rA hs.la hs.na hR hC).mono ?_;rintro e A ⟨D,rfl,oTa,av,o⟩;have P4:=W.grow o;have X:=(JH A).alloc #[Yv Yi (C:Int),Yv Yi (R:Int), .slice D (C*R) (C*R)] 37;have Y:=Blk.new A #[Yv Yi (C:Int),Yv Yi (R:Int), .slice D (C*R) (C*R)] 37;have P5:=P4.grow X;clear c0 c1 c2 c6 c7 c8 c9;obtain ⟨c0,c1,c2,c6,c7,c8,c9, -, -, -, -, -, -, -⟩:=P5.wk.g;have a6:g<A.heap.size:=Blk.lt P4.wk;have rV:=P5.th.ov.rdI (S:=fun _=>True) (fun _ _=>trivial) (Zp hs.nv);go_wp2_with fail;refine (Zce rV hs.lv hs.nv hC hC).mono ?_;rintro e w6 ⟨H,rfl,J,aw,r⟩;obtain ⟨w7,v,x,Z, -⟩:=al1 w6 #[Yv Yi (C:Int),Yv Yi (C:Int), .slice H (C*C) (C*C)] 37;have l:Grow A w7:=(X.trans r).trans x;have n:=(P5.grow r).grow x;have f:=(G.grow o).grow l;have m:=(Y.grow r).grow x;have ab:=oTa.grow l;have E:=J.grow x;have a7:w.heap.size<w3.heap.size:=by have:=(G).lt;omega
 have a8:=o.size;have hs6:=r.size;have ay:A.heap.size<w6.heap.size:=D4
 have hgT: ∀ q,blk D=some q->w.heap.size<q:=fun q hq=>by have:=av q hq;omega
 have hgV: ∀ q,blk H=some q->A.heap.size<q:=fun q hq=>by have:=aw q hq;simp at this;omega
 have ad: ∀ q,blk D=some q->blk H≠some q:=fun q hq e=>by have:=oTa.lt hq;have:=hgV q e;omega
 have ae:blk D≠some A.heap.size:=fun e=>El
 have af:blk D≠some w6.heap.size:=fun e=>El
 have ag:blk H≠some A.heap.size:=fun e=>Bo
 have ah:blk H≠some w6.heap.size:=fun e=>by have:=J.lt e;omega
 have ai:blk D≠some w.heap.size:=fun e=>Cn
 have az:blk H≠some w.heap.size:=fun e=>Bo
 clear c0 c1 c2 c6 c7 c8 c9 W P4 P5 Y G oTa J rA rV;obtain ⟨⟨t0,t1,t2⟩, -⟩:=m.three;rw[v] at t0 t1 t2;have L:=f.cell 0;have M:=f.cell 1;have N:=f.cell 2;have O:=f.cell 3;simp only[Kt,Ku,Kx] at L M N O;rw[v] at L M N O;have a9:w.heap.size<w6.heap.size:=I
 have ax:=hid v;clear v;go_wp2_with fail;rw[←ax.out];refine (h1 _ D ab).mono ?_;rintro e w8 ⟨m1,rfl,aj,b,ak⟩;have al:Keep (fun q=>q<=w.heap.size) w8 w8:=Keep.refl _ _;have P8:WkP w8 B g R C aa au ar ca cu cr false s:=⟨n.wk.keep b (fun e=>Cn),n.th.keep b (fun q hq e=>by have:=hgT _ e;have:=y q hq;omega) (fun q hq e=>by have:=hgT _ e;have:=hUlt q hq;omega) (fun q hq e=>by have:=hgT _ e;have:=z q hq;omega),n.na,n.nu,n.nr,n.la,n.lu,n.lr,n.lg⟩;have hKB8:Keep (fun q=>q<B) w w8:=(((((P.trans c).trans o).trans l).any).on b (fun q _ hq e=>Cn));have j:=f.keep b ai;have d:=Z.keep b af;have F:=m.keep b ae;have am:=E.keep b (fun q hq _ e=>ad q e hq);clear L M N O t0 t1 t2 al n f m E Z;cases b1 with
 |false=>exact Gs
 |true=>
  have an:=hid (ak rfl);obtain ⟨hfl,hfn⟩:=hfa rfl;obtain rfl:=an.out;clear ak an;obtain ⟨⟨t0,t1,t2⟩, -⟩:=d.three;have L:=j.cell 0;have M:=j.cell 1;have N:=j.cell 2;have O:=j.cell 3;simp only[Kt,Ku,Kx] at L M N O;have hltV:=d.lt;have ao:=j.lt;go_wp2_with fail;refine (h2 _ H am).mono ?_;rintro e w9 ⟨m2,rfl,oV9,k,hb2⟩;have P9:WkP w9 B g R C aa au ar ca cu cr false s:=⟨P8.wk.keep k (fun e=>Bo),P8.th.keep k (fun q hq e=>by have:=hgV _ e;have:=y q hq;omega) (fun q hq e=>by have:=hgV _ e;have:=hUlt q hq;omega) (fun q hq e=>by have:=hgV _ e;have:=z q hq;omega),P8.na,P8.nu,P8.nr,P8.la,P8.lu,P8.lr,P8.lg⟩;have hKB9:Keep (fun q=>q<B) w w9:=hKB8.on k (fun q _ hq e=>Bo);have bTv9:=d.keep k ah;have bTa9:=F.keep k ag;have oA9:=aj.keep k (fun q hq _ e=>ad q hq e);clear L M N O t0 t1 t2 P8 j F d hltV ao aj;have ba:g<w9.heap.size:=Blk.lt P9.wk;cases b2 with
  |false=>exact Gw
  |true=>
   exact FI
theorem Zrb (B g R C i p:Nat) (t:Int) (s:SS) (w:World) (hW:WkS w B g R C false s) (hs:Ss C R s) (hi:i<C) (hp:p<C) (hip:i≠p) (ht: -400000000<=t/\t<=400000000) (hR:R<=24) (hC:C<=24):
  Calls JG 225 #[.pointer (some ⟨g,0,none⟩), .agg #[Yv Yi 2,Yv Yi i,Yv Yi p,Yv Yi t]] w fun e w'=>e= .returned (.tuple #[])/\ ∃ b s',WkS w' B g R C b s'/\To3 (Zbn C R i p t s) b s'/\Keep (fun q=>q<B) w w':=by
 obtain ⟨j,k,l,m,n,o,h⟩:=hW;have c:=Zep (R:=R) (C:=C) hs.na;have d:=Zep (R:=C) (C:=C) hs.nv
 refine (Zns B g R C j k l m n o 2 i p t s (addR (trL s.1 R C) R i p t) (addR (trL s.2.2 C C) C i p t) (Zae (trL s.1 R C) R i p t) (Zae (trL s.2.2 C C) C i p t) w h hs hR hC (fun w=>ZcO 2 t i p C w hi hp hC ht (.inr (.inr ⟨rfl,hip⟩)))
  (fun w a f=>Zci a _ _ R i p C t _ w f (Zal rfl hi) (Zal rfl hp) hip c ht I I I)
  (fun w a f=>Zci a _ _ C i p C t _ w f (Zal rfl hi) (Zal rfl hp) hip d ht I I I)
  (fun h1=>⟨EL,ZdF c h1⟩) (fun h1=>⟨EL,ZdF d h1⟩)).mono ?_
 exact GM
theorem Zsk (B g R C i p:Nat) (s:SS) (w:World) (hW:WkS w B g R C false s) (hs:Ss C R s) (hi:i<C) (hp:p<C) (hip:i≠p) (hR:R<=24) (hC:C<=24):
  Calls JG 225 #[.pointer (some ⟨g,0,none⟩), .agg #[Yv Yi 0,Yv Yi i,Yv Yi p,Yv Yi 0]] w fun e w'=>e= .returned (.tuple #[])/\WkS w' B g R C false (Zgr C R i p s)/\Keep (fun q=>q<B) w w':=by
 obtain ⟨f,j,k,l,m,n,h⟩:=hW;have b:=Zep (R:=R) (C:=C) hs.na;have c:=Zep (R:=C) (C:=C) hs.nv
 refine (Zns B g R C f j k l m n 0 i p 0 s (swR (trL s.1 R C) R i p) (swR (trL s.2.2 C C) C i p) true true w h hs hR hC (fun w=>ZcO 0 0 i p C w hi hp hC I (.inl ⟨rfl,hip,rfl⟩))
  (fun w a d=>(Zcp a _ _ R i p C 0 _ w d (Zbg _ _ _) hi hp hip I I I).mono fun e w' ⟨h1,h2,h3⟩=>⟨_,h1,h2,h3,fun _=>rfl⟩)
  (fun w a d=>(Zcp a _ _ C i p C 0 _ w d (Zbg _ _ _) hi hp hip I I I).mono fun e w' ⟨h1,h2,h3⟩=>⟨_,h1,h2,h3,fun _=>rfl⟩)
  (fun _=>⟨EK,Zda b _⟩) (fun _=>⟨EK,Zda c _⟩)).mono ?_
 exact II
theorem Zil (B g R C t:Nat) (aa au ar:Option Addr) (ca cu cr:Nat) (bad:Bool) (s:SS) (w:World) (h:WkP w B g R C aa au ar ca cu cr bad s) (hs:Ss C R s) (ht:t<=R) (htC:t<=C) (hR:R<=24) (hC:C<=24):
  Calls JG 165 #[.pointer (some ⟨g,0,none⟩),Yv Yi t] w fun e w'=>e= .returned (.tuple #[Yv Yi (Z4 s.1 C R t).1,Yv Yi (Z4 s.1 C R t).2, .bool (decide (0<=(Z4 s.1 C R t).1))])/\Grow w w':=by
 have ad:R*C<=24*24:=JL hR hC;have E:=h.th.oa.rdI (S:=fun _=>True) (fun _ _=>trivial) (Zp hs.na);have hW:=h.wk;have O:=hs.la;have P:=hs.na;obtain ⟨a,f⟩:=eX s.1;rw[←f] at E O P ⊢;have Hl:=hid O;clear O h hs f;go_enter func165,ntmps165;go_wp2;go_loopw [7,8,9] (fun x y q wr=>Grow w wr/\ ∃ i:Nat,t<=i/\i<=R/\q=Yv Yi i/\x=Yv Yi (lsI a C t (i-t)).1/\y=Yv Yi (lsI a C t (i-t)).2) (fun _ _ q _=>R-(intOf q).toNat);case atStart=>exact ⟨JH _,t,JM _,ht,rfl,AC,AC⟩
 case round=>
  obtain ⟨wo,rfl⟩:=eX wr;obtain ⟨n,i,ae,hi,rfl,rfl,rfl⟩:=hrel;have Wr:=hW.grow n;obtain ⟨z,A,D, -⟩:=Wr.g;have T:=Znr (m:=a) (R:=R) htC (i-t) I;by_cases F:i<R
  ·have hE:=hid (show lsJ a C t i (C-t) (lsI a C t (i-t))=lsI a C t (i+1-t) by rw[show i+1-t=(i-t)+1 by omega];simp only[lsI];rw[show t+(i-t)=i by omega]);generalize lsI a C t (i-t)=o at *;go_wp2;go_loopw [7,8,10] (fun x y q v=>Grow w v/\ ∃ j:Nat,t<=j/\j<=C/\q=Yv Yi j/\x=Yv Yi (lsJ a C t i (j-t) o).1/\y=Yv Yi (lsJ a C t i (j-t) o).2) (fun _ _ q _=>C-(intOf q).toNat);case atStart=>exact ⟨n,t,JM _,htC,rfl,AC,AC⟩
   case round=>
    clear z A D Wr n;obtain ⟨n,j,af,hj,rfl,rfl,rfl⟩:=hrel;have Wr:=hW.grow n;have N:=E.grow n;obtain ⟨z,A,D, -⟩:=Wr.g;have G:=ZkO (m:=a) (t:=t) F T (j-t) I;have d:=hid (show lsJ a C t i (j+1-t) o=if ZcA a C (lsJ a C t i (j-t) o) i j=true then ((i:Int),(j:Int)) else lsJ a C t i (j-t) o by rw[show j+1-t=(j-t)+1 by omega];simp only[lsJ];rw[show t+(j-t)=j by omega]);by_cases V:j<C
    ·have hni:i*C+j<R*C:=Zf V F;have hx:=Zk P C i j;have H:=hid (show a[i*C+j]? =some (cell a C i j) from ZU Ej);go_wp2_with fail;refine (ZaA aa _ ca C i j (i*C+j) (R:Int) _ a _ N rfl H.out I I I I).mono ?_;rintro e w3 ⟨rfl,p⟩;clear hni H;go_wp2_with fail;refine (Zd9 _ _ I).mono ?_;rintro e _ ⟨rfl,rfl⟩;replace N:=N.grow p;replace Wr:=Wr.grow p;have k:=n.trans p;clear z A D n p;obtain ⟨z,A,D, -⟩:=Wr.g;generalize lsJ a C t i (j-t) o=b at *;by_cases l:cell a C i j=0
     ·have HL:=hid (show lsJ a C t i (j+1-t) o=b by rw[d.out,ZkE l];rfl);rw[l];clear d hx l;clear z A D;go_wp2;go_roundw;case rel=>exact ⟨k,j+1,I,I,Δ,ζ,ζ⟩
      case measure=>exact FN
     ·rcases G with rfl|⟨r,c,rfl,W,X⟩
      ·have HL:=hid (show lsJ a C t i (j+1-t) o=((i:Int),(j:Int)) by rw[d.out,ZjE l,if_pos rfl]);have q1:(((cell a C i j).natAbs:Int)!=0)=true:=Ψ;clear d;generalize cell a C i j=x at *;clear z A D;go_wp2;go_roundw;case rel=>exact ⟨k,j+1,I,I,Δ,ζ,ζ⟩
       case measure=>exact FN
      ·have J:=Zn5 (r:=r) (c:=c) l;have L:r*C+c<R*C:=Zf X W;have hy:=Zk P C r c;have M:=hid (show a[r*C+c]? =some (cell a C r c) from ZU (by rw[Hl.out];exact L));have q1:(((cell a C i j).natAbs:Int)!=0)=true:=Ψ;have q2:decide ((r:Int)<0)=false:=decide_eq_false I;rw[J] at d;clear J;generalize cell a C i j=x at *;go_wp2_with fail;refine (ZaA aa _ ca C r c (r*C+c) (R:Int) _ a _ N rfl M.out I I I I).mono ?_;rintro e w4 ⟨rfl,Y⟩;clear L M;generalize cell a C r c=y at *;go_wp2_with fail;refine (Zd9 _ _ I).mono ?_;rintro e _ ⟨rfl,rfl⟩;replace k:=k.trans Y;by_cases hc:x.natAbs<y.natAbs
       ·have HL:=hid (show lsJ a C t i (j+1-t) o=((i:Int),(j:Int)) by rw[d.out,decide_eq_true hc,if_pos rfl]);clear d;clear z A D;go_wp2;go_roundw;case rel=>exact ⟨k,j+1,I,I,Δ,ζ,ζ⟩
        case measure=>exact FN
       ·have HL:=hid (show lsJ a C t i (j+1-t) o=((r:Int),(c:Int)) by rw[d.out,decide_eq_false hc];rfl);clear d;clear z A D;go_wp2;go_roundw;case rel=>exact ⟨k,j+1,I,I,Δ,ζ,ζ⟩
        case measure=>exact FN
    ·have Z:j=C:=I;subst Z;clear d G;go_wp2;go_roundw;case rel=>exact ⟨n,i+1,I,I,Δ,Fx,Fx⟩
     case measure=>exact FN
  ·have ab:i=R:=I;subst ab;go_wp2
   go_ret3
   exact ⟨rfl,n⟩

end Go.Proofs.YtgjefeiddfjjnaaGreatDoor
