/- A step of the reduction: in order, or not. -/
import Derived.Test.YtgjefeiddfjjnaaGreatDoorZRedP
import Derived.Test.YtgjefeiddfjjnaaGreatDoorZWkN
set_option maxHeartbeats 8000000
set_option maxRecDepth 100000
namespace Go.Proofs.YtgjefeiddfjjnaaGreatDoor
open Go.RowKit
open Lib (hid)
open Go.Value renaming int->Yv
open Go.IntKind renaming i64->Yi
open Blk renaming lt->Ke,new->JP
open Grow renaming refl->JH
open List renaming getElem?_cons_succ->Kx,getElem?_cons_zero->Ku,getElem?_toArray->Kt
open Nat renaming mul_le_mul->JL
open Option.some renaming inj->JJ,injEq->L7
open Go.Proofs.Tryz renaming func313->Oq,func317->Qv,ntmps317->Qw,prog->JG
open Go.Proofs.Tryz
variable {S:Nat->Prop} {a:Option Addr} {cap g k n:Nat} {w:World}
theorem RdT.pair {l:List Rt} (h:RdT w S a n cap l) (hk:k<n):
  ∃ b off,a=some ⟨b,off,none⟩/\b<w.heap.size/\w.cell? ⟨b,off+k*2,none⟩=some (Yv Yi (rAt l k).1)/\w.cell? ⟨b,off+k*2+1,none⟩=some (Yv Yi (rAt l k).2):=by
 obtain ⟨b,off,r,e,hr, -,c,d,f⟩:=h.at hk;have g:rAt l k=r:=AB
 rw[g];exact ⟨b,off,e,c,d,f⟩
theorem RdTT.pair {l:List (List Rt)} (h:RdTT w S a n cap l) {j:Nat} (hj:j<n) (hk:k<(l.getD j []).length):
  ∃ b off b1 o1 c1,a=some ⟨b,off,none⟩/\b<w.heap.size/\w.cell? ⟨b,off+j,none⟩=some (.slice (some ⟨b1,o1,none⟩) (l.getD j []).length c1)/\b1<w.heap.size/\w.cell? ⟨b1,o1+k*2,none⟩=some (Yv Yi (rAt (l.getD j []) k).1)/\w.cell? ⟨b1,o1+k*2+1,none⟩=some (Yv Yi (rAt (l.getD j []) k).2):=by
 obtain ⟨b,off,d,b1,c1,e,hx, -,f,g,i⟩:=h.at hj;have m:l.getD j []=d:=Dx
 rw[m] at hk ⊢;obtain ⟨o,p,rfl,c,q,r⟩:=i.pair hk;exact ⟨b,off,o,p,c1,e,f,g,c,q,r⟩
def OrdPost (z:Nat) (m x:Rt):Nat->Value->World->Prop
 |0,v,_=>v=RV (3,4)
 |3,v,_=>v=RV (ZA m m)
 |4,v,_=>v=RV (ZdQ (3,4) (ZA m m))
 |11,v,_=>v=RV (ZA (ZdQ (3,4) (ZA m m)) x)
 |12,v,w=> ∃ g,v= .pointer (some ⟨g,0,none⟩)/\z<=g/\Blk w g #[Yv Yi 0,Yv Yi 0] 207
 |_,_,_=>True
theorem OrdPost.stays {z:Nat} {m x:Rt}: ∀ i v w w',Grow w w'->OrdPost z m x i v w->OrdPost z m x i v w':=fun i v w w' hG h=>by
 unfold OrdPost at *;split at h
 ·exact h
 ·exact h
 ·exact h
 ·exact h
 ·exact Gy
 ·trivial
theorem Zqu (v:Value) (o:List (List Rt)×List Rt) (k n:Nat) (w:World) (h:AcM w S v o) (h1:o.1.length=n) (h2:o.2.length=n) (h3: ∀ (j:Nat) (row:List Rt),o.1[j]? =some row->row.length=j) (hk:1<=k) (hkn:k<n) (hn:n<=24):
  Calls JG 318 #[v,Yv Yi k] w fun e w'=>e= .returned (.tuple #[.bool (decide (ZV (rAt o.2 k) (Zc1 o k)=0\/ZV (rAt o.2 k) (Zc1 o k)=1)), .bool (!decide (ZV (rAt o.2 k) (Zc1 o k)=2))])/\Grow w w':=by
 obtain ⟨ma,mn,mc,sa,J,sc,rfl,hM,hS⟩:=h;obtain rfl:mn=n:=by have:=hM.len;omega
 obtain rfl:J=mn:=by have:=hS.len;omega
 obtain ⟨w1,r,A,bO, -⟩:=al1 w #[.slice ma J mc, .slice sa J sc] 261;have M:=hM.grow A;have B:=hS.grow A;clear hM hS;obtain ⟨j,hj⟩: ∃ j,j+1=k:=⟨k-1,I⟩;have N:(o.1.getD k []).length=k:=by
  exact I9
 obtain ⟨b,ab,b2,o2,c2,rfl,hb,u0,av,u1,u2⟩:=M.pair (j:=k) (k:=j) hkn I;obtain ⟨b3,o3,rfl,aw,s0,s1⟩:=B.pair (k:=j) I;obtain ⟨b4,o4,e4,ax,t0,t1⟩:=B.pair (k:=k) hkn;injection e4 with e4;injection e4 with e5 e6;subst e5 e6;have hl:Zc1 o k=ZA (ZdQ (3,4) (ZA (rAt (o.1.getD k []) j) (rAt (o.1.getD k []) j))) (rAt o.2 j):=by unfold Zc1 muAt;rw[show k-1=j by omega];rfl
 rw[hl];rw[N] at u0;have ay:j<k:=I
 have q1:((k:Int))-1=j:=I
 obtain ⟨⟨o0,o1⟩, -⟩:=bO.two;have O:=bO.lt;clear hl hj N M B h1 h2 h3;generalize rAt (o.1.getD k []) j=mm at *;generalize rAt o.2 j=sj at *;generalize rAt o.2 k=sk at *;obtain ⟨d,f⟩:=mm;obtain ⟨E,F⟩:=sj;obtain ⟨y1,y2⟩:=sk;simp only at u1 u2 s0 s1 t0 t1;obtain ⟨w2,P,l,bM, -⟩:=al1 w1 #[Yv Yi d,Yv Yi f] 207;have ad:=bO.grow l;have R:=A.trans l;obtain ⟨⟨v0,v1⟩, -⟩:=ad.two;have az:=l.cell s0;have a0:=l.cell s1;have ae:=l.cell t0;have af:=l.cell t1;have ag:=hid P;clear P s0 s1 t0 t1;subst r;go_enter func318,ntmps318;go_wp2_with fail;rw[←ag.out];clear o0 o1 O u0 u1 u2;generalize r:w.alloc (.cells #[.slice (some ⟨b,ab,none⟩) J mc, .slice (some ⟨b3,o3,none⟩) J sc] 261)=w1 at *;have ah:w1.heap.size=w.heap.size+1:=by rw[←r];simp
 rw[ah] at bM;clear r;refine Zai (S:=Grow w2) (T:=fun _=>True) [1,2,5,6,7,8,9,10] [0,3,4,11,12] [] [([],some 13)] ZaB Ξ (fun _ _ _ _ _ h=>h) (JH _).drew ?_;refine Zh ?_;refine ⟨Ξ,OrdPost w2.heap.size (d,f) (E,F),fun _ _=>none,OrdPost.stays,(fun _ _ _ _ _ h=>Ω),(fun _ _ _=>rfl), ?_,(fun _ h=>Ω), ?_⟩
 ·intro i hi o' V a C ai hSw m D K hK;have aj:=hSw.size;simp only[List.mem_cons,List.not_mem_nil,or_false] at hi;rcases hi with rfl|rfl|rfl|rfl|rfl
  ·obtain rfl:=oI V;go_wp2_with fail;exact hK _ _ (JH _) hSw rfl (fun _ h=>Ω)
  ·obtain rfl:=oI V;have ak:a.tmps.getD 19 undef=RV (d,f):=D 19 Φ;have al:a.tmps.getD 20 undef=RV (d,f):=D 20 Φ;refine Zbr (x:= .tmp 19) (y:= .tmp 20) rfl Oq rfl rfl ak al ?_;refine (Zhr (d,f) (d,f) _).mono ?_;exact Ij
  ·obtain rfl:=oI V;have am:a.tmps.getD 18 undef=RV (3,4):=m 0 Φ ⟨⟨0, .data⟩,Θ,rfl,rfl⟩ 18 rfl;have an:a.tmps.getD 21 undef=RV (ZA (d,f) (d,f)):=m 3 Φ ⟨⟨3, .data⟩,Θ,rfl,rfl⟩ 21 rfl;refine Zbr (x:= .tmp 18) (y:= .tmp 21) rfl func312 rfl rfl am an ?_;refine (Zou (3,4) (ZA (d,f) (d,f)) _).mono ?_;exact Ij
  ·obtain rfl:=oI V;have ao:a.tmps.getD 28 undef=RV (E,F):=D 28 Φ;have ap:a.tmps.getD 22 undef=RV (ZdQ (3,4) (ZA (d,f) (d,f))):=m 4 Φ ⟨⟨4, .data⟩,Θ,rfl,rfl⟩ 22 rfl;refine Zbr (x:= .tmp 22) (y:= .tmp 28) rfl Oq rfl rfl ap ao ?_;refine (Zhr (ZdQ (3,4) (ZA (d,f) (d,f))) (E,F) _).mono ?_;exact Ij
  ·obtain rfl:=oI V;refine Zbu (z:= .agg #[Yv Yi 0,Yv Yi 0]) rfl DN ?_;exact hK _ _ ((JH _).alloc _ _) (hSw.alloc _ _) ⟨C.heap.size,rfl,aj,JP _ _ _⟩ (fun _ h=>Ω)
 ·intro vs C ai hSw hP _;apply ZbU
  ·show _=([some 18,some 21,some 22,some 29,some 7]:List (Option Tmp))
   kernel_rfl
  simp only[Zdm,List.cons_append,List.nil_append,List.map_cons,List.map_nil,List.zip_cons_cons,List.zip_nil_right,Act.put,List.setIfInBounds_toArray,List.set_cons_succ,List.set_cons_zero];refine ⟨?_⟩;have W:vs 11=RV (ZA (ZdQ (3,4) (ZA (d,f) (d,f))) (E,F)):=hP 11 Φ;obtain ⟨g,X,a1,s⟩: ∃ g,vs 12= .pointer (some ⟨g,0,none⟩)/\w2.heap.size<=g/\Blk C g #[Yv Yi 0,Yv Yi 0] 207:=hP 12 Φ;obtain ⟨L,hL⟩:=eX (ZA (ZdQ (3,4) (ZA (d,f) (d,f))) (E,F));rw[W,X, ←hL];obtain ⟨G,H⟩:=L;have HL:=hid hL;clear hL W X hP;show wpQuiet _ _ _ _ [] _;apply wpQuiet_nil;apply Zu rfl;intro K hK;obtain ⟨⟨z0,z1⟩,g0,g1⟩:=s.two;have Y:=s.lt;go_wp2_with fail;have Z:Keep (fun q=>q≠g) C ((C.setCell ⟨g,0,none⟩ (Yv Yi G)).setCell ⟨g,1,none⟩ (Yv Yi H)):=kS;have p:=hSw.keep Z fun q hq=>I
  have bL:Blk ((C.setCell ⟨g,0,none⟩ (Yv Yi G)).setCell ⟨g,1,none⟩ (Yv Yi H)) g #[Yv Yi G,Yv Yi H] 207:=(s.set 0 _).set 1 _;refine hK _ _ p ?_;clear hK K;generalize aq:(C.setCell ⟨g,0,none⟩ (Yv Yi G)).setCell ⟨g,1,none⟩ (Yv Yi H)=w4 at *;clear aq Z z0 z1 g0 g1 Y s;refine Ze ?_;have a2:=p.cell v1;have a3:=p.cell ae;have a4:=p.cell af;go_wp2;refine ZaH [([0,1,2,3,4,5],some 6),([7],none)] ?_;refine ZR ?_;intro K hK;refine (Zt2 (y1,y2) (G,H) _).mono ?_;rintro e w5 ⟨rfl,ar⟩;have aa:=(JH w4).drew.trans ar;have t:=(R.trans p).trans aa;obtain ⟨c,hc⟩:=eX (ZV (y1,y2) (G,H));rw[←hc];have HC:=hid (show ZV (y1,y2) (ZA (ZdQ (3,4) (ZA (d,f) (d,f))) (E,F))=c by rw[←HL.out];exact hc.symm);clear hc;go_wp2_with fail;refine hK _ _ (aa) ?_;clear hK K;refine Zh ?_;refine Ze ?_;by_cases c0:c=0
  ·subst c0;go_wp2
   go_ret2
   exact ⟨F3,t⟩
  ·by_cases c1:c=1
   ·subst c1;go_wp2
    go_ret2
    exact ⟨F3,t⟩
   ·by_cases c2:c=2
    ·subst c2;go_wp2
     go_ret2
     exact ⟨F3,t⟩
    ·have q2:(c==0)=false:=(by simp[c0]);have q3:(c==1)=false:=(by simp[c1]);have q4:(c !=2)=true:=(by simp[c2]);have q5:decide (c=0\/c=1)=false:=(by simp[c0,c1]);have q6:decide (c=2)=false:=(by simp[c2]);go_wp2
     go_ret2
     exact ⟨by rw[HC.out,q5,q6];rfl,t⟩
theorem Zph (B g R C i p:Nat) (t:Int) (aa au ar:Option Addr) (ca cu cr:Nat) (s:SS) (w:World) (h:WkP w B g R C aa au ar ca cu cr false s) (hs:Ss C R s) (hi:i<R) (hp:p<R) (hip:i≠p) (ht: -400000000<=t/\t<=400000000) (hR:R<=24) (hC:C<=24):
  Calls JG 167 #[.pointer (some ⟨g,0,none⟩), .agg #[Yv Yi 2,Yv Yi i,Yv Yi p,Yv Yi t]] w fun e w'=>e= .returned (.tuple #[])/\ ∃ b s',WkP w' B g R C aa au ar ca cu cr b s'/\To3 (ZaP C R i p t s) b s'/\Keep (fun q=>blk aa≠some q/\blk au≠some q/\q≠g) w w':=by
 refine (ZhG g R C aa au ar ca cu cr 2 i p t (s.1,s.2.1) (addR s.1 C i p t) (addR s.2.1 R i p t) (Zae s.1 C i p t) (Zae s.2.1 R i p t) w h.wk h.th.two h.na h.nu (fun w=>ZcO 2 t i p R w hi hp hR ht (.inr (.inr ⟨rfl,hip⟩)))
  (fun w a=>Zci aa _ ca C i p R t s.1 w a (Zal rfl hi) (Zal rfl hp) hip hs.hs.na ht I I I)
  (fun w a=>Zci au _ cu R i p R t s.2.1 w a (Zal rfl hi) (Zal rfl hp) hip hs.hs.nu ht I I I)).mono ?_
 rintro e w' ⟨rfl,s',f,c,j,d⟩;refine ⟨rfl,_,(s'.1,s'.2,s.2.2),⟨f,⟨c.oa,c.ou,h.th.ov.keep d (fun q hq _=>⟨fun e=>h.th.nav q e hq,fun e=>h.th.nuv q e hq,fun e=>h.nr Fl⟩),h.th.nau,h.th.nav,h.th.nuv⟩,h.na,h.nu,h.nr,h.la,h.lu,h.lr,h.lg⟩, ?_,d⟩;unfold To3 ZaP;cases k:(Zae s.1 C i p t&&Zae s.2.1 R i p t) with
 |true=>exact .inl ⟨rfl,by rw[if_pos rfl,j k]⟩
 |false=>exact .inr ⟨rfl,Eh⟩
theorem Blk.four {x y z u:Value} {t:TypeId} (h:Blk w g #[x,y,z,u] t):
  w.cell? ⟨g,0,none⟩=some x/\w.cell? ⟨g,1,none⟩=some y/\w.cell? ⟨g,2,none⟩=some z/\w.cell? ⟨g,3,none⟩=some u:=
 ⟨Fz,Fz,Fz,Fz⟩
theorem ZqQ (B g R C i p:Nat) (aa au ar:Option Addr) (ca cu cr:Nat) (s:SS) (w:World) (h:WkP w B g R C aa au ar ca cu cr false s) (hs:Ss C R s) (hi:i<R) (hp:p<R) (hip:i≠p) (hR:R<=24) (hC:C<=24):
  Calls JG 167 #[.pointer (some ⟨g,0,none⟩), .agg #[Yv Yi 0,Yv Yi i,Yv Yi p,Yv Yi 0]] w fun e w'=>e= .returned (.tuple #[])/\WkP w' B g R C aa au ar ca cu cr false (ZbZ C R i p s)/\Keep (fun q=>blk aa≠some q/\blk au≠some q/\q≠g) w w':=by
 refine (Zj0 g R C i p aa au ar ca cu cr (s.1,s.2.1) w h.wk h.th.two h.na h.nu hs.hs hi hp hip hR hC).mono ?_;rintro e w' ⟨rfl,c,a,b⟩;exact ⟨rfl,⟨c,⟨a.oa,a.ou,h.th.ov.keep b (fun q hq _=>⟨fun e=>h.th.nav q e hq,fun e=>h.th.nuv q e hq,fun e=>h.nr Fl⟩),h.th.nau,h.th.nav,h.th.nuv⟩,h.na,h.nu,h.nr,h.la,h.lu,h.lr,h.lg⟩,b⟩
theorem Znm (B g R C:Nat) (aa au ar:Option Addr) (ca cu cr:Nat) (kd i p t:Int) (s:SS) (fa fv:List Int) (b1 b2:Bool) (w:World) (h:WkP w B g R C aa au ar ca cu cr false s) (hs:Ss C R s) (hR:R<=24) (hC:C<=24)
  (h0: ∀ w,Calls JG 228 #[.agg #[Yv Yi kd,Yv Yi i,Yv Yi p,Yv Yi t],Yv Yi C] w fun e w'=>e= .returned (.bool true)/\Grow w w')
  (h1: ∀ (w:World) (a:Option Addr),Own w 3 1 a (C*R) (C*R) (ints (trL s.1 R C))->Calls JG 161 #[.agg #[Yv Yi C,Yv Yi R, .slice a (C*R) (C*R)], .agg #[Yv Yi kd,Yv Yi i,Yv Yi p,Yv Yi t]] w fun e w'=> ∃ m',e= .returned (.bool b1)/\Own w' 3 1 a (C*R) (C*R) (ints m')/\Keep (fun q=>blk a≠some q) w w'/\(b1=true->m'=fa))
  (h2: ∀ (w:World) (a:Option Addr),Own w 3 1 a (C*C) (C*C) (ints (trL s.2.2 C C))->Calls JG 161 #[.agg #[Yv Yi C,Yv Yi C, .slice a (C*C) (C*C)], .agg #[Yv Yi kd,Yv Yi i,Yv Yi p,Yv Yi t]] w fun e w'=> ∃ m',e= .returned (.bool b2)/\Own w' 3 1 a (C*C) (C*C) (ints m')/\Keep (fun q=>blk a≠some q) w w'/\(b2=true->m'=fv))
  (hfa:b1=true->fa.length=C*R/\NumL fa) (hfv:b2=true->fv.length=C*C/\NumL fv):
  Calls JG 225 #[.pointer (some ⟨g,0,none⟩), .agg #[Yv Yi kd,Yv Yi i,Yv Yi p,Yv Yi t]] w fun e w'=>e= .returned (.tuple #[])/\ ∃ s',WkS w' B g R C (!(b1&&b2)) s'/\((b1&&b2)=true->s'=(trL fa C R,s.2.1,trL fv C C))/\Keep (fun q=>q<w.heap.size/\q≠g) w w':=by
 have a0:R*C<=24*24:=JL hR hC;have a1:C*R<=24*24:=JL hC hR;have a2:C*C<=24*24:=JL hC hC;have P:=(JH w).alloc #[Yv Yi kd,Yv Yi i,Yv Yi p,Yv Yi t] 169;have bX:=JP w #[Yv Yi kd,Yv Yi i,Yv Yi p,Yv Yi t] 169;have a3:g<w.heap.size:=Ke h.wk;have P2:=h.grow P;have a4:=h.lg;have y: ∀ q,blk aa=some q->q<w.heap.size:=fun q hq=>h.th.oa.lt hq;have hUlt: ∀ q,blk au=some q->q<w.heap.size:=fun q hq=>h.th.ou.lt hq;have z: ∀ q,blk ar=some q->q<w.heap.size:=fun q hq=>h.th.ov.lt hq;clear h;generalize V:w.alloc (.cells #[Yv Yi kd,Yv Yi i,Yv Yi p,Yv Yi t] 169)=w2 at *;have ap:=hid V;clear V;have wf:=P2.wk.g;go_enter func225,ntmps225;go_wp2;rw[ap.out];refine ZaH [([0,1,2,3,4,5,6,7,8,9,10],some 11),([12,13],none)] ?_;refine Zuu wf.c9 wf.c1 ?_;intro K hK;refine (h0 _).mono ?_;rintro e w3 ⟨rfl,aq⟩;have c:=(JH w2).drew.trans aq;go_wp2_with fail;refine hK _ _ (c) ?_;clear hK K;refine Zux wf.c9 wf.c1 ?_;refine Ze ?_;have W:=P2.grow c;have G:=bX.grow c;clear P2 wf;obtain ⟨c0,c1,c2,c6,c7,c8,c9, -, -, -, -, -, -, -⟩:=W.wk.g;have a5:g<w3.heap.size:=Ke W.wk;have rA:=W.th.oa.rdI (S:=fun _=>True) (fun _ _=>trivial) (Zp hs.na);go_wp2_with fail;refine (Zce rA hs.la hs.na hR hC).mono ?_;rintro e A ⟨D,rfl,oTa,av,o⟩;have P4:=W.grow o;have X:=(JH A).alloc #[Yv Yi (C:Int),Yv Yi (R:Int), .slice D (C*R) (C*R)] 37;have Y:=JP A #[Yv Yi (C:Int),Yv Yi (R:Int), .slice D (C*R) (C*R)] 37;have P5:=P4.grow X;clear c0 c1 c2 c6 c7 c8 c9;obtain ⟨c0,c1,c2,c6,c7,c8,c9, -, -, -, -, -, -, -⟩:=P5.wk.g;have a6:g<A.heap.size:=Ke P4.wk;have rV:=P5.th.ov.rdI (S:=fun _=>True) (fun _ _=>trivial) (Zp hs.nv);go_wp2_with fail;refine (Zce rV hs.lv hs.nv hC hC).mono ?_;rintro e w6 ⟨H,rfl,J,aw,r⟩;obtain ⟨w7,v,x,Z, -⟩:=al1 w6 #[Yv Yi (C:Int),Yv Yi (C:Int), .slice H (C*C) (C*C)] 37;have l:Grow A w7:=(X.trans r).trans x;have n:=(P5.grow r).grow x;have f:=(G.grow o).grow l;have m:=(Y.grow r).grow x;have ab:=oTa.grow l;have E:=J.grow x;have a7:w.heap.size<w3.heap.size:=by have:=(G).lt;omega
 have a8:=o.size;have hs6:=r.size;have ay:A.heap.size<w6.heap.size:=D4
 have hgT: ∀ q,blk D=some q->w.heap.size<q:=fun q hq=>by have:=av q hq;omega
 have hgV: ∀ q,blk H=some q->A.heap.size<q:=fun q hq=>by have:=aw q hq;simp at this;omega
 have ad: ∀ q,blk D=some q->blk H≠some q:=fun q hq e=>by have:=oTa.lt hq;have:=hgV q e;omega
 have ae:blk D≠some A.heap.size:=fun e=>El
 have af:blk D≠some w6.heap.size:=fun e=>El
 have ag:blk H≠some A.heap.size:=fun e=>Bo
 have ah:blk H≠some w6.heap.size:=fun e=>by have:=J.lt e;omega
 have ai:blk D≠some w.heap.size:=fun e=>Cn
 have az:blk H≠some w.heap.size:=fun e=>Bo
 clear c0 c1 c2 c6 c7 c8 c9 W P4 P5 Y G oTa J rA rV;obtain ⟨⟨t0,t1,t2⟩, -⟩:=m.three;rw[v] at t0 t1 t2;have L:=f.cell 0;have M:=f.cell 1;have N:=f.cell 2;have O:=f.cell 3;simp only[Kt,Ku,Kx] at L M N O;rw[v] at L M N O;have a9:w.heap.size<w6.heap.size:=I
 have ax:=hid v;clear v;go_wp2_with fail;rw[←ax.out];refine (h1 _ D ab).mono ?_;rintro e w8 ⟨m1,rfl,aj,b,ak⟩;have al:Keep (fun q=>q<=w.heap.size) w8 w8:=Keep.refl _ _;have P8:WkP w8 B g R C aa au ar ca cu cr false s:=⟨n.wk.keep b (fun e=>Cn),n.th.keep b (fun q hq e=>by have:=hgT _ e;have:=y q hq;omega) (fun q hq e=>by have:=hgT _ e;have:=hUlt q hq;omega) (fun q hq e=>by have:=hgT _ e;have:=z q hq;omega),n.na,n.nu,n.nr,n.la,n.lu,n.lr,n.lg⟩;have hKB8:Keep (fun q=>q<w.heap.size/\q≠g) w w8:=(((((P.trans c).trans o).trans l).any).on b (fun q _ hq e=>Cn));have j:=f.keep b ai;have d:=Z.keep b af;have F:=m.keep b ae;have am:=E.keep b (fun q hq _ e=>ad q e hq);clear L M N O t0 t1 t2 al n f m E Z;cases b1 with
 |false=>exact Gs
 |true=>
  have an:=hid (ak rfl);obtain ⟨hfl,hfn⟩:=hfa rfl;obtain rfl:=an.out;clear ak an;obtain ⟨⟨t0,t1,t2⟩, -⟩:=d.three;have L:=j.cell 0;have M:=j.cell 1;have N:=j.cell 2;have O:=j.cell 3;simp only[Kt,Ku,Kx] at L M N O;have hltV:=d.lt;have ao:=j.lt;go_wp2_with fail;refine (h2 _ H am).mono ?_;rintro e w9 ⟨m2,rfl,oV9,k,hb2⟩;have P9:WkP w9 B g R C aa au ar ca cu cr false s:=⟨P8.wk.keep k (fun e=>Bo),P8.th.keep k (fun q hq e=>by have:=hgV _ e;have:=y q hq;omega) (fun q hq e=>by have:=hgV _ e;have:=hUlt q hq;omega) (fun q hq e=>by have:=hgV _ e;have:=z q hq;omega),P8.na,P8.nu,P8.nr,P8.la,P8.lu,P8.lr,P8.lg⟩;have hKB9:Keep (fun q=>q<w.heap.size/\q≠g) w w9:=hKB8.on k (fun q _ hq e=>Bo);have bTv9:=d.keep k ah;have bTa9:=F.keep k ag;have oA9:=aj.keep k (fun q hq _ e=>ad q hq e);clear L M N O t0 t1 t2 P8 j F d hltV ao aj;have ba:g<w9.heap.size:=Ke P9.wk;cases b2 with
  |false=>exact Gw
  |true=>
   exact FI
theorem ZqC (B g R C i p:Nat) (t:Int) (s:SS) (w:World) (hW:WkS w B g R C false s) (hs:Ss C R s) (hi:i<C) (hp:p<C) (hip:i≠p) (ht: -400000000<=t/\t<=400000000) (hR:R<=24) (hC:C<=24):
  Calls JG 225 #[.pointer (some ⟨g,0,none⟩), .agg #[Yv Yi 2,Yv Yi i,Yv Yi p,Yv Yi t]] w fun e w'=>e= .returned (.tuple #[])/\ ∃ b s',WkS w' B g R C b s'/\To3 (Zbn C R i p t s) b s'/\Keep (fun q=>q<w.heap.size/\q≠g) w w':=by
 obtain ⟨j,k,l,m,n,o,h⟩:=hW;have c:=Zep (R:=R) (C:=C) hs.na;have d:=Zep (R:=C) (C:=C) hs.nv
 refine (Znm B g R C j k l m n o 2 i p t s (addR (trL s.1 R C) R i p t) (addR (trL s.2.2 C C) C i p t) (Zae (trL s.1 R C) R i p t) (Zae (trL s.2.2 C C) C i p t) w h hs hR hC (fun w=>ZcO 2 t i p C w hi hp hC ht (.inr (.inr ⟨rfl,hip⟩)))
  (fun w a f=>Zci a _ _ R i p C t _ w f (Zal rfl hi) (Zal rfl hp) hip c ht I I I)
  (fun w a f=>Zci a _ _ C i p C t _ w f (Zal rfl hi) (Zal rfl hp) hip d ht I I I)
  (fun h1=>⟨EL,ZdF c h1⟩) (fun h1=>⟨EL,ZdF d h1⟩)).mono ?_
 exact GM
theorem Zro (B g R C i p:Nat) (s:SS) (w:World) (hW:WkS w B g R C false s) (hs:Ss C R s) (hi:i<C) (hp:p<C) (hip:i≠p) (hR:R<=24) (hC:C<=24):
  Calls JG 225 #[.pointer (some ⟨g,0,none⟩), .agg #[Yv Yi 0,Yv Yi i,Yv Yi p,Yv Yi 0]] w fun e w'=>e= .returned (.tuple #[])/\WkS w' B g R C false (Zgr C R i p s)/\Keep (fun q=>q<w.heap.size/\q≠g) w w':=by
 obtain ⟨f,j,k,l,m,n,h⟩:=hW;have b:=Zep (R:=R) (C:=C) hs.na;have c:=Zep (R:=C) (C:=C) hs.nv
 refine (Znm B g R C f j k l m n 0 i p 0 s (swR (trL s.1 R C) R i p) (swR (trL s.2.2 C C) C i p) true true w h hs hR hC (fun w=>ZcO 0 0 i p C w hi hp hC I (.inl ⟨rfl,hip,rfl⟩))
  (fun w a d=>(Zcp a _ _ R i p C 0 _ w d (Zbg _ _ _) hi hp hip I I I).mono fun e w' ⟨h1,h2,h3⟩=>⟨_,h1,h2,h3,fun _=>rfl⟩)
  (fun w a d=>(Zcp a _ _ C i p C 0 _ w d (Zbg _ _ _) hi hp hip I I I).mono fun e w' ⟨h1,h2,h3⟩=>⟨_,h1,h2,h3,fun _=>rfl⟩)
  (fun _=>⟨EK,Zda b _⟩) (fun _=>⟨EK,Zda c _⟩)).mono ?_
 exact II
theorem ZqN (B g n k j:Nat) (t:Int) (aa au ar:Option Addr) (ca cu cr:Nat) (S:SS) (w:World) (h:WkP w B g n n aa au ar ca cu cr false S) (hs:Ss n n S) (hk:k<n) (hj:j<n) (hkj:k≠j) (ht: -400000000<=t/\t<=400000000) (hn:n<=24):
  Calls JG 317 #[.pointer (some ⟨g,0,none⟩), .agg #[Yv Yi 2,Yv Yi k,Yv Yi j,Yv Yi t]] w fun e w'=>e= .returned (.tuple #[])/\ ∃ b S',WkS w' B g n n b S'/\To3 (Zcb n k j t S) b S'/\Keep (fun q=>q<w.heap.size/\blk aa≠some q/\blk au≠some q/\q≠g) w w':=by
 have c:=(JH w).alloc #[Yv Yi 2,Yv Yi k,Yv Yi j,Yv Yi t] 169;have p:=JP w #[Yv Yi 2,Yv Yi k,Yv Yi j,Yv Yi t] 169;have L:g<w.heap.size:=Ke h.wk;have m: ∀ q,blk aa=some q->q<w.heap.size:=fun q d=>h.th.oa.lt d;have o: ∀ q,blk au=some q->q<w.heap.size:=fun q d=>h.th.ou.lt d;have M:=h.lg;have C:=h.grow c;have N:=h.la;have O:=h.lu;clear h;have a:=p.lt;obtain ⟨D,E,F,G⟩:=p.four;go_enter Qv,Qw;go_wp2_with fail;clear D E F G a;refine (Zph B g n n k j t aa au ar ca cu cr S _ C hs hk hj hkj ht hn hn).mono ?_;rintro e H ⟨rfl,b,r,v,J,f⟩;have i:=p.keep f ⟨fun e=>by have:=m _ e;omega,fun e=>by have:=o _ e;omega,I⟩;have l:Keep (fun q=>q<w.heap.size/\blk aa≠some q/\blk au≠some q/\q≠g) w H:=(c.any.mono fun _ _ _=>trivial).trans (f.mono fun q _ (d:q<w.heap.size/\blk aa≠some q/\blk au≠some q/\q≠g)=>d.2);have P:=l.size;obtain ⟨D,E,F,G⟩:=i.four;have a:=i.lt;obtain ⟨R,T,V,W,X,Y,c9, -, -, -, -, -, -, -⟩:=v.wk.g;have Z:g<H.heap.size:=Ke v.wk;clear R T V W X Y C p i f c;cases b with
 |true=>
  have x:Zcb n k j t S=none:=by
   unfold Zcb;rcases J with ⟨h, -⟩|⟨-,h⟩
   ·cases h
   ·rw[h];rfl
  go_wp2;exact bodyPost_end (results_none rfl _ _ _) rfl ⟨rfl,true,r,v.s, .inr ⟨rfl,x⟩,l⟩
 |false=>
  have x:ZaP n n k j t S=some r:=by
   rcases J with ⟨-,h⟩|⟨h, -⟩
   ·exact h
   ·cases h
  have y:Ss n n r:=(Zdv hs x).1;go_wp2_with fail;refine (ZqC B g n n k j t r _ v.s y hk hj hkj ht hn hn).mono ?_;rintro e w2 ⟨rfl,b,S2,W2,z,A⟩;go_wp2;refine bodyPost_end (results_none rfl _ _ _) rfl ⟨rfl,b,S2,W2, ?_,l.trans (A.mono fun q _ d=>⟨I,d.2.2.2⟩)⟩;unfold Zcb;rw[x,Option.bind_some];exact z
theorem Zsr (B g n k j:Nat) (aa au ar:Option Addr) (ca cu cr:Nat) (S:SS) (w:World) (h:WkP w B g n n aa au ar ca cu cr false S) (hs:Ss n n S) (hk:k<n) (hj:j<n) (hkj:k≠j) (hn:n<=24):
  Calls JG 317 #[.pointer (some ⟨g,0,none⟩), .agg #[Yv Yi 0,Yv Yi k,Yv Yi j,Yv Yi 0]] w fun e w'=>e= .returned (.tuple #[])/\WkS w' B g n n false (ZdZ n k j S)/\Keep (fun q=>q<w.heap.size/\blk aa≠some q/\blk au≠some q/\q≠g) w w':=by
 have b:=(JH w).alloc #[Yv Yi 0,Yv Yi k,Yv Yi j,Yv Yi 0] 169;have o:=JP w #[Yv Yi 0,Yv Yi k,Yv Yi j,Yv Yi 0] 169;have C:g<w.heap.size:=Ke h.wk;have i: ∀ q,blk aa=some q->q<w.heap.size:=fun q c=>h.th.oa.lt c;have l: ∀ q,blk au=some q->q<w.heap.size:=fun q c=>h.th.ou.lt c;have D:=h.lg;have t:=h.grow b;have E:=h.la;have F:=h.lu;clear h;have a:=o.lt;obtain ⟨v,x,y,z⟩:=o.four;go_enter Qv,Qw;go_wp2_with fail;clear v x y z a;refine (ZqQ B g n n k j aa au ar ca cu cr S _ t hs hk hj hkj hn hn).mono ?_;rintro e A ⟨rfl,p,d⟩;have f:=o.keep d ⟨fun e=>by have:=i _ e;omega,fun e=>by have:=l _ e;omega,I⟩;have m:Keep (fun q=>q<w.heap.size/\blk aa≠some q/\blk au≠some q/\q≠g) w A:=(b.any.mono fun _ _ _=>trivial).trans (d.mono fun q _ (c:q<w.heap.size/\blk aa≠some q/\blk au≠some q/\q≠g)=>c.2);have G:=m.size;obtain ⟨v,x,y,z⟩:=f.four;have a:=f.lt;obtain ⟨H,J,L,M,N,O,T, -, -, -, -, -, -, -⟩:=p.wk.g;have P:g<A.heap.size:=Ke p.wk;clear H J L M N O t o f d b;go_wp2_with fail;refine (Zro B g n n k j (ZbZ n n k j S) _ p.s (Ze8 hs) hk hj hkj hn hn).mono ?_;rintro e V ⟨rfl,R,r⟩;go_wp2;exact bodyPost_end (results_none rfl _ _ _) rfl ⟨rfl,R,m.trans (r.mono fun q _ c=>⟨I,c.2.2.2⟩)⟩
theorem AcM.grow {w':World} {v:Value} {o:List (List Rt)×List Rt} (h:AcM w S v o) (k:Grow w w'):AcM w' S v o:=by
 obtain ⟨c,d,e,f,g,i,rfl,a,b⟩:=h;exact ⟨_,_,_,_,_,_,rfl,a.grow k,b.grow k⟩
theorem WkP.beside {B R C kb:Nat} {aa au ar:Option Addr} {ca cu cr:Nat} {b:Bool} {s:SS} (h:WkP w B g R C aa au ar ca cu cr b s) (hkg:kb≠g) (hka:blk aa≠some kb) (hku:blk au≠some kb) (hkr:blk ar≠some kb) (v:Value):WkP (w.setCell ⟨kb,0,none⟩ v) B g R C aa au ar ca cu cr b s:=
 have k:Keep (fun q=>q≠kb) w (w.setCell ⟨kb,0,none⟩ v):=kS
 ⟨h.wk.keep k (fun e=>hkg e.symm),h.th.keep k (fun _ a e=>hka (e▸a)) (fun _ a e=>hku (e▸a)) (fun _ a e=>hkr (e▸a)),h.na,h.nu,h.nr,h.la,h.lu,h.lr,h.lg⟩
theorem Zs1 (a b:Rt):ZV a b= -1\/ZV a b=0\/ZV a b=1\/ZV a b=2:=by
 unfold ZV;split
 ·split
  ·simp
  ·split<;>simp
 ·simp
theorem Zvb {T:Nat->Prop} (B g n k kb:Nat) (aa au ar:Option Addr) (ca cu cr:Nat) (S:SS) (v:Value) (o:List (List Rt)×List Rt) (w:World) (h:WkP w B g n n aa au ar ca cu cr false S) (hs:Ss n n S) (ho:AcM w T v o) (h1:o.1.length=n) (h2:o.2.length=n) (h3: ∀ (j:Nat) (row:List Rt),o.1[j]? =some row->row.length=j)
  (hk:1<=k) (hkn:k<n) (hn:n<=24) (hb:Blk w kb #[Yv Yi (k:Int)] 3) (hBk:B<=kb) (hkg:kb≠g) (hka:blk aa≠some kb) (hku:blk au≠some kb) (hkr:blk ar≠some kb):
  Calls JG 298 #[.pointer (some ⟨g,0,none⟩),v, .pointer (some ⟨kb,0,none⟩)] w fun e w'=>e= .returned (.bool (Zba n k o S).isSome)/\(∀ r,Zba n k o S=some r->WkS w' B g n n false r.1/\Blk w' kb #[Yv Yi (r.2:Int)] 3)/\Keep (fun q=>q<B) w w':=by
 have ap:=ho;obtain ⟨R,mn,V,W,X,Y,rfl,hM,hS⟩:=ho;obtain rfl:n=mn:=by have:=hM.len;omega
 have m:Grow w (w.alloc (.cells #[.slice R n V, .slice W X Y] 261)):=(JH w).alloc _ _;have bO:Blk (w.alloc (.cells #[.slice R n V, .slice W X Y] 261)) w.heap.size #[.slice R n V, .slice W X Y] 261:=JP _ _ _;have bb:=h.lg;have P1:=h.grow m;have Z:=hb.grow m;have ae:=hM.grow m;have bc:=ap;have aq:(o.1.getD k []).length=k:=by
  exact I9
 have k0:(w.alloc (.cells #[.slice R n V, .slice W X Y] 261)).cell? ⟨kb,0,none⟩=some (Yv Yi (k:Int)):=by rw[Z.cell];rfl
 have d:=Z.lt;obtain ⟨y,af⟩: ∃ j,j+1=k:=⟨k-1,I⟩;have q1:((k:Int))-1=y:=I
 go_enter func298,ntmps298;go_wp2_with fail;clear k0 d;generalize ag:w.alloc (.cells #[.slice R n V, .slice W X Y] 261)=w1 at *;have bd:=hid ag;have Hk:=hid af;clear ag af;go_loopw [7] (fun jv wr=>Grow w1 wr/\ ∃ jj:Nat,jj<=k/\jv=Yv Yi ((jj:Int)-1)/\ZdR (o.1.getD k []) k=ZdR (o.1.getD k []) jj) (fun jv _=>(intOf jv+1).toNat);case atStart=>exact ⟨JH _,k,Nat.le_refl _,by rw[q1],rfl⟩
 case round=>
  obtain ⟨f,jj,be,rfl,hF⟩:=hrel;have HF:=hid hF;clear hF;have Pr:=P1.grow f;have F:=Z.grow f;have k0:wr.cell? ⟨kb,0,none⟩=some (Yv Yi (k:Int)):=by rw[F.cell];rfl
  have d:=F.lt;have ah:=bO.grow f;obtain ⟨⟨o0,o1⟩, -⟩:=ah.two;have L:=ah.lt;cases jj with
  |zero=>
   have av:AcM wr T (.agg #[.slice R n V, .slice W X Y]) o:=⟨R,n,V,W,X,Y,rfl,ae.grow f,(hS.grow m).grow f⟩;go_wp2_with fail;clear o0 o1 L;refine ZaH [([0,1,2,3],some 4),([5,6,7,8,9],none)] ?_;refine ZR ?_;intro K hK;refine (Zqu _ o k n _ (av.grow (JH wr).drew) h1 h2 h3 hk hkn hn).mono ?_;rintro e z ⟨rfl,G⟩;have H:=(JH wr).drew.trans G;have i:Grow w z:=(m.trans f).trans H;have aw:=Zs1 (rAt o.2 k) (Zc1 o k);have HS:=hid (show Zba n k o S=(if ZV (rAt o.2 k) (Zc1 o k)=2 then none else if ZV (rAt o.2 k) (Zc1 o k)= -1 then some (ZdZ n k (k-1) S,max 1 (k-1)) else some (S,k+1)) by unfold Zba;rw[HF.out];rfl);generalize ZV (rAt o.2 k) (Zc1 o k)=c at *;clear HF k0 d;go_wp2_with fail;refine hK _ _ (H) ?_;clear hK K;refine Zh ?_;refine Ze ?_;have P2:=Pr.grow H;have hb2:=F.grow H;have k0:z.cell? ⟨kb,0,none⟩=some (Yv Yi (k:Int)):=(by rw[hb2.cell];rfl);have f0:=hb2.free 0;have d:=hb2.lt;have bf:=i.size;have ax:=hb.lt;have hcase: ∀ u:Value,Keep (fun q=>q<B) w (z.setCell ⟨kb,0,none⟩ u):=fun u=>(i.any.mono fun _ _ _=>trivial).setCell (p:=⟨kb,0,none⟩) (fun _ (e:kb<B)=>I) _;rcases aw with rfl|rfl|rfl|rfl
   ·have HN:=hid (show Zba n k o S=some (ZdZ n k (k-1) S,max 1 (k-1)) from HS.out);go_wp2;refine ZeC 9 [([0,1,2,3,4,5,6,7],some 8),([],some 9)] ?_;refine Zct ?_;intro K hK;refine hK _ _ ((fun _=>(JH z).drew)) ?_;clear hK K;refine Zct ?_;intro K hK;have ay:k-1=y:=(by have:=Hk.out;omega);rw[ay] at HN;refine (Zsr B g n k y aa au ar ca cu cr S _ (P2.grow (JH z).drew) hs hkn I I hn).mono ?_;rintro e w3 ⟨rfl,W3,ai⟩;have x:=(hb2.grow (JH z).drew).keep ai ⟨(hb2.grow (JH z).drew).lt,hka,hku,hkg⟩;have bg:=W3;have A:Keep (fun q=>q<B) w w3:=((i.drew).any.mono fun _ _ _=>trivial).trans (ai.mono fun q _ (M:q<B)=>⟨by show q<z.drew.heap.size;simp;omega,fun e=>CT,fun e=>CS,I⟩);go_wp2_with fail;refine hK _ _ ((fun h=>(h rfl).elim)) ?_;clear hK K;refine Z8 ?_;obtain ⟨az,a0,a1,a2,a3,a4,P3⟩:=W3;have bh:2<=n*n:=Nat.le_trans I (JL (show 1<=n by omega) (show 2<=n by omega));have ab: ∀ (a:Option Addr) (c:Nat) (l:List Int),Own w3 3 1 a (n*n) c (ints l)->blk a≠some kb:=fun a c l hO e=>by
     obtain ⟨q,rfl⟩: ∃ q,a=some q:=by cases a with
      |none=>cases e
      |some q=>exact ⟨q,rfl⟩
     obtain ⟨a5,bi,k1,k2,k3⟩:=hO.block _ rfl;rw[show q.block=kb from JJ e] at k1;have k4:=x.symm.trans k1;simp only[L7,Obj.cells.injEq] at k4;have k5:=hO.le;rw[←k4.1] at k2;simp at k2;omega
    have P4:=fun u=>P3.beside hkg (ab _ _ _ P3.th.oa) (ab _ _ _ P3.th.ou) (ab _ _ _ P3.th.ov) u;have bj:((max 1 y:Nat):Int)=max 1 (y:Int):=I;have bk:w3.cell? ⟨kb,0,none⟩=some (Yv Yi (k:Int)):=(by rw[x.cell];rfl);have f3:=x.free 0;have a9:=x.lt;clear k0 f0 d;have P5:=(P4 (Yv Yi y)).wk.g.c9;have P6:=(P4 (Yv Yi 1)).wk.g.c9;have ba:=P3.lg;have bl:g<w3.heap.size:=Ke P3.wk;rcases Nat.lt_or_ge 1 y with hz|hz
    ·go_wp2;go_ret;refine ⟨Ah,fun r hr=> ?_,A.setCell (p:=⟨kb,0,none⟩) (fun _ (e:kb<B)=>I) _⟩;rw[HN.out] at hr;obtain rfl:=JJ hr;exact ⟨(P4 _).s,by show Blk _ kb #[Yv Yi ((max 1 y:Nat):Int)] _;rw[show max 1 y=y by omega];exact x.set 0 _⟩
    ·go_wp2;go_ret;refine ⟨Ah,fun r hr=> ?_,A.setCell (p:=⟨kb,0,none⟩) (fun _ (e:kb<B)=>I) _⟩;rw[HN.out] at hr;obtain rfl:=JJ hr;exact ⟨(P4 _).s,by show Blk _ kb #[Yv Yi ((max 1 y:Nat):Int)] _;rw[show max 1 y=1 by omega];exact x.set 0 _⟩
   ·exact GZ
   ·exact GZ
   ·have HN:=hid (show Zba n k o S=none from HS.out);go_wp2;go_ret;exact ⟨Ah,(by intros;rename_i hr;rw[HN.out] at hr;cases hr),i.any.mono fun _ _ _=>trivial⟩
  |succ j=>
   have q2:(((j+1:Nat):Int))-1=j:=I;rw[q2];have bm:j<k:=I;obtain ⟨b,a5,b2,o2,c2,rfl,bn,u0,hb2,u1,u2⟩:=(ae.grow f).pair (j:=k) (k:=j) hkn I;rw[aq] at u0;have HS:=hid (show ZdR (o.1.getD k []) k=if isR (rAt (o.1.getD k []) j) then (if Zap (rAt (o.1.getD k []) j)=0 then ZdR (o.1.getD k []) j else some (some (j,Zap (rAt (o.1.getD k []) j)))) else none from HF.out);have bo:=Zp2 (rAt (o.1.getD k []) j);clear HF;generalize rAt (o.1.getD k []) j=rj at *;obtain ⟨N,O⟩:=rj;simp only at u1 u2;go_wp2_with fail;go_region;obtain ⟨z,J⟩:=eX ((wr.alloc (.cells #[Yv Yi N,Yv Yi O] 207)).drew);have G:Grow wr z:=(by rw[J];exact ((JH _).alloc _ _).drew);have bR:Blk z wr.heap.size #[Yv Yi N,Yv Yi O] 207:=(by rw[J];exact (JP wr _ _).grow (JH _).drew);rw[←J];clear J k0 d o0 o1 L u0 u1 u2;obtain ⟨⟨m0,m1⟩, -⟩:=bR.two;have C:=bR.lt;go_wp2_with fail;refine (ZbJ (N,O) _).mono ?_;rintro e w3 ⟨rfl,ad⟩;have aj:=bR.grow ad;have i:Grow w w3:=((m.trans f).trans G).trans ad;clear m0 m1 C;cases M:isR (N,O) with
   |false=>have HN:=hid (show Zba n k o S=none by unfold Zba;rw[HS.out,M];rfl);clear M;go_wp2;go_ret;exact ⟨Ah,fun r hr=>(by rw[HN.out] at hr;cases hr),i.any.mono fun _ _ _=>trivial⟩
   |true=>
    obtain ⟨⟨n0,n1⟩, -⟩:=aj.two;have C:=aj.lt;go_wp2_with fail;refine (Zs6 (N,O) _).mono ?_;rintro e w4 ⟨rfl,ak⟩;have D:Grow wr w4:=(G.trans ad).trans ak;clear n0 n1 C;by_cases hz:Zap (N,O)=0
    ·have al:ZdR (o.1.getD k []) k=ZdR (o.1.getD k []) j:=(by rw[HS.out,M,if_pos rfl,if_pos hz]);have a6:=hid al;clear al M;go_wp2;go_roundw;case rel=>exact ⟨f.trans D,j,I,rfl,a6.out⟩
     case measure=>simp[intOf]
    ·have HR:=hid (show Zba n k o S=(Zcb n k j (-Zap (N,O)) S).map fun S'=>(S',k) by unfold Zba;rw[HS.out,M,if_pos rfl,if_neg hz];rfl);have a7:=Pr.grow D;have E:=F.grow D;have P:Grow w w4:=i.trans ak;have k0:w4.cell? ⟨kb,0,none⟩=some (Yv Yi (k:Int)):=(by rw[E.cell];rfl);have d:=E.lt;clear M HS;generalize Zap (N,O)=t at *;have q3:(t !=0)=true:=(by simp[hz]);have q4:IntKind.i64.wrap (-t)= -t:=IntWalk.i64_in _ I;go_wp2_with fail;refine (ZqN B g n k j (-t) aa au ar ca cu cr S _ a7 hs hkn I I I hn).mono ?_;rintro e w5 ⟨rfl,b,S',am,hT,an⟩;have ao:=am;obtain ⟨az,a0,a1,a2,a3,a4,P5⟩:=am;obtain ⟨c0,c1,c2,c6,c7,c8,c9, -, -, -, -, -, -, -⟩:=P5.wk.g;have bp:g<w5.heap.size:=Ke P5.wk;clear c0 c1 c2 c6 c7 c8;have a8:=E.keep an ⟨d,hka,hku,hkg⟩;have ax:=hb.lt;have bq:=P.size;have A:Keep (fun q=>q<B) w w5:=(P.any.mono fun _ _ _=>trivial).trans (an.mono fun q _ (M:q<B)=>⟨I,fun e=>CT,fun e=>CS,I⟩);cases b with
     |true=>
      have HN:=hid (show Zba n k o S=none by
       rw[HR.out];rcases hT with ⟨e, -⟩|⟨-,e⟩
       ·cases e
       ·rw[e];rfl)
      clear hT;go_wp2;go_ret;exact ⟨Ah,fun r hr=>(by rw[HN.out] at hr;cases hr),A⟩
     |false=>
      have HN:=hid (show Zba n k o S=some (S',k) by
       rw[HR.out];rcases hT with ⟨-,e⟩|⟨e, -⟩
       ·rw[e];rfl
       ·cases e)
      clear hT;go_wp2;go_ret;refine ⟨Ah,fun r hr=> ?_,A⟩;rw[HN.out] at hr;obtain rfl:=JJ hr;exact ⟨ao,a8⟩

end Go.Proofs.YtgjefeiddfjjnaaGreatDoor
