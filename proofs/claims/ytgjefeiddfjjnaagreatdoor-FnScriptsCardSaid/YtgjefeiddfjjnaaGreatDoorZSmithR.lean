/- The reference's round. -/
import Derived.Test.YtgjefeiddfjjnaaGreatDoorZSmith
import Derived.Test.YtgjefeiddfjjnaaGreatDoorZHermW
set_option maxHeartbeats 8000000
set_option maxRecDepth 100000
namespace Go.Proofs.YtgjefeiddfjjnaaGreatDoor
open Go.RowKit
open Lib (hid)
open Go.Value renaming int->Yv
open Go.IntKind renaming i64->Yi
open List renaming all_append->Mw,getElem?_cons_succ->Kx,getElem?_cons_zero->Ku,getElem?_toArray->Kt,mem_range->JW,range->JN,range_eq_range'->Mu,range_succ->KV
open Nat renaming mul_le_mul->JL,sub_self->LF
variable {C R ca cu cv i j na nu nv t:Nat} {a u v:Option Addr} {f g k:SS->Option (SS×Bool)} {m:List Int} {p q:Int} {res:Option (SS×Bool)} {s:SS} {w w':World}
structure Thr (w:World) (a u v:Option Addr) (na nu nv ca cu cv:Nat) (s:SS):Prop where
 oa:Own w 3 1 a na ca (ints s.1)
 ou:Own w 3 1 u nu cu (ints s.2.1)
 ov:Own w 3 1 v nv cv (ints s.2.2)
 nau: ∀ q,blk a=some q->blk u≠some q
 nav: ∀ q,blk a=some q->blk v≠some q
 nuv: ∀ q,blk u=some q->blk v≠some q
def Off (a u v:Option Addr) (q:Nat):Prop:=blk a≠some q/\blk u≠some q/\blk v≠some q
theorem Thr.keep {T:Nat->Prop} (h:Thr w a u v na nu nv ca cu cv s) (hk:Keep T w w') (h1: ∀ g,blk a=some g->T g) (h2: ∀ g,blk u=some g->T g) (h3: ∀ g,blk v=some g->T g):Thr w' a u v na nu nv ca cu cv s:=
 ⟨h.oa.keep hk (fun g b _=>h1 g b),h.ou.keep hk (fun g b _=>h2 g b),h.ov.keep hk (fun g b _=>h3 g b),h.nau,h.nav,h.nuv⟩
theorem Thr.grow (h:Thr w a u v na nu nv ca cu cv s) (hk:Grow w w'):Thr w' a u v na nu nv ca cu cv s:=h.keep hk (fun _ _=>trivial) (fun _ _=>trivial) (fun _ _=>trivial)
theorem Thr.two (h:Thr w a u v na nu nv ca cu cv s):Two w a u na nu ca cu (s.1,s.2.1):=⟨h.oa,h.ou,h.nau⟩
theorem ZoC (a u v:Option Addr) (ca cu cv R C i p:Nat) (t:Int) (s:SS) (w:World) (h:Thr w a u v (R*C) (R*R) (C*C) ca cu cv s) (hs:Hm3 C R s) (hi:i<R) (hp:p<R) (hip:i≠p) (ht:NumS t) (hR:R<=24) (hC:C<=24):
  Calls Tryz.prog 201 #[.agg #[Yv Yi R,Yv Yi C, .slice a (R*C) ca], .agg #[Yv Yi R,Yv Yi R, .slice u (R*R) cu], .agg #[Yv Yi 2,Yv Yi i,Yv Yi p,Yv Yi t]] w fun e w'=>e= .returned (.tuple #[])/\Thr w' a u v (R*C) (R*R) (C*C) ca cu cv (Zb7 C R i p t s)/\Keep (Off a u v) w w':=by
 refine (ZhF a u ca cu R C i p t (s.1,s.2.1) w h.two ⟨hs.la,hs.lu,hs.na,hs.nu⟩ hi hp hip ht hR hC).mono ?_;exact G6
def Md (C R t:Nat) (p:Int) (rest:SS->Option (SS×Bool)) (res:Option (SS×Bool)) (s:SS):Prop:=(Ss C R s/\rest s=res/\cell s.1 C t t=p)\/(res=none/\Mk3 s)
theorem Md.next (h:Md C R t p f res s) (hg:Ss C R s->cell s.1 C t t=p->f s=g s):Md C R t p g res s:=by
 rcases h with ⟨a,c,b⟩|h
 ·exact .inl ⟨a,by rw[←hg a b];exact c,b⟩
 ·exact .inr h
def Zcn (C R t:Nat) (k:SS->Option (SS×Bool)) (i:Nat) (s:SS):Option (SS×Bool):=(Zfi C R t (R-i) i s).bind k
def ZaC (C R t:Nat) (k:SS->Option (SS×Bool)) (j:Nat) (s:SS):Option (SS×Bool):=(Zfk C R t (C-j) j s).bind k
def Zan (C R t:Nat) (s2:SS):Option (SS×Bool):=
 if (ZN s2.1 C R t&&Zao s2.1 C t)=true then (match ZdW s2.1 C R t with
  |some d=>(ZaP C R t (t+1+d) 1 s2).map fun x=>(x,false)
  |none=>some (s2,true)) else some (s2,false)
theorem ZkU (hi:i<R) (h:cell s.1 C i t=0):Zcn C R t k i s=Zcn C R t k (i+1) s:=by
 unfold Zcn;rw[show R-i=(R-(i+1))+1 by omega];simp only[Zfi];rw[if_neg Ey]
theorem ZoA (hi:i<R) (h:cell s.1 C i t≠0):Zcn C R t k i s=(ZaP C R i t (-(cell s.1 C i t/cell s.1 C t t)) s).bind (Zcn C R t k (i+1)):=by
 unfold Zcn;rw[show R-i=(R-(i+1))+1 by omega];simp only[Zfi];rw[if_pos h,Option.bind_assoc]
theorem Zmj:Zcn C R t k R s=k s:=by unfold Zcn;rw[LF];rfl
theorem ZkA (hj:j<C) (h:cell s.1 C t j=0):ZaC C R t k j s=ZaC C R t k (j+1) s:=by
 unfold ZaC;rw[show C-j=(C-(j+1))+1 by omega];simp only[Zfk];rw[if_neg Ey]
theorem Zne (hj:j<C) (h:cell s.1 C t j≠0):ZaC C R t k j s=(Zbn C R j t (-(cell s.1 C t j/cell s.1 C t t)) s).bind (ZaC C R t k (j+1)):=by
 unfold ZaC;rw[show C-j=(C-(j+1))+1 by omega];simp only[Zfk];rw[if_pos h,Option.bind_assoc]
theorem ZlT:ZaC C R t k C s=k s:=by unfold ZaC;rw[LF];rfl
theorem Md.addR (hm:Hm3 C R s) (h:Md C R t p f res s) (htC:t<C) (hi:i<R) (hit:i≠t) (hq: -400000000<=q/\q<=400000000) (hf:Ss C R s->cell s.1 C t t=p->f s=(ZaP C R i t q s).bind g):Md C R t p g res (Zb7 C R i t q s):=by
 rcases h with ⟨h1,a,h3⟩|⟨h1,a⟩
 ·rcases Zgh (i:=i) (p:=t) h1 hi hq with e|⟨e,b⟩
  ·have h4:=Zdv h1 e;refine .inl ⟨h4.1, ?_, ?_⟩
   ·rw[hf h1 h3,e] at a;exact a
   ·exact Jz
  ·exact .inr ⟨by rw[←a,hf h1 h3,e];rfl,b⟩
 ·exact .inr ⟨h1,ZlP hm hi a⟩
theorem Md.addC (hm:Hm3 C R s) (h:Md C R t p f res s) (ht:t<R) (htC:t<C) (hj:j<C) (hjt:j≠t) (hq: -400000000<=q/\q<=400000000) (hf:Ss C R s->cell s.1 C t t=p->f s=(Zbn C R j t q s).bind g):Md C R t p g res (Zfw C R j t q s):=by
 rcases h with ⟨a,b,h3⟩|⟨a,b⟩
 ·rcases ZoL (i:=j) (p:=t) a hj hq with e|⟨e,c⟩
  ·have h4:=Zgi a e;refine .inl ⟨h4.1, ?_, ?_⟩
   ·rw[hf a h3,e] at b;exact b
   ·exact JC
  ·exact .inr ⟨by rw[←b,hf a h3,e];rfl,c⟩
 ·exact .inr ⟨a,Zsq hm b⟩
def Zck (m:List Int) (C t:Nat) (n:Nat):Bool:=(JN n).all fun d=>cell m C (t+1+d) t==0
def ZbM (m:List Int) (C t:Nat) (n:Nat):Bool:=(JN n).all fun d=>cell m C t (t+1+d)==0
theorem ZkL (m:List Int) (C t n:Nat):Zck m C t (n+1)=(Zck m C t n&&cell m C (t+1+n) t==0):=by unfold Zck;rw[KV,Mw];simp
theorem Zlg (m:List Int) (C t n:Nat):ZbM m C t (n+1)=(ZbM m C t n&&cell m C t (t+1+n)==0):=by unfold ZbM;rw[KV,Mw];simp
def Fnd (res:Option (SS×Bool)) (s:SS) (b:Bool):Prop:=res=some (s,b)\/(res=none/\Mk3 s)
theorem Zmk (hi:t<i/\i<R) (hj:t<j/\j<C) (hb: ∀ i',t<i'->i'<i->Zg6 m C t i'=false) (h:(cell m C i j).tmod (cell m C t t)≠0):ZdW m C R t=some (i-(t+1)):=by
 unfold ZdW;rw[List.find?_eq_some_iff_append];refine ⟨by rw[show t+1+(i-(t+1))=i by omega];exact Zh2.2 ⟨j,hj.1,hj.2,h⟩,JN (i-(t+1)),List.range' (i-(t+1)+1) (R-(t+1)-(i-(t+1))-1), ?_,fun d a=> ?_⟩
 ·rw[Mu,Mu, ←List.range'_succ,show i-(t+1)=0+1*(i-(t+1)) by omega];have:=List.range'_append (s:=0) (m:=i-(t+1)) (n:=R-(t+1)-(i-(t+1))) (step:=1);rw[show R-(t+1)-(0+1*(i-(t+1)))-1+1=R-(t+1)-(i-(t+1)) by omega];simp only[Nat.zero_add,Nat.one_mul] at this ⊢;rw[this];congr 1;omega
 ·have:=JW.1 a;rw[hb (t+1+d) I I];rfl
theorem ZoV (hb: ∀ i',t<i'->i'<R->Zg6 m C t i'=false):ZdW m C R t=none:=by
 unfold ZdW;rw[List.find?_eq_none];intro d a;have:=JW.1 a;rw[hb (t+1+d) I I];simp
theorem Ziw (h: ∀ j,t<j->j<C->(cell m C i j).tmod (cell m C t t)=0):Zg6 m C t i=false:=by
 rw[Bool.eq_false_iff];intro e;obtain ⟨j,a,b,c⟩:=Zh2.1 e;exact c (h j a b)
theorem Zpr (h:Md C R t p (Zan C R t) res s) (hc:(ZN s.1 C R t&&Zao s.1 C t)=false):Fnd res s false:=by
 rcases h with ⟨b,a,c⟩|h
 ·refine .inl ?_;rw[←a];unfold Zan;rw[hc];rfl
 ·exact .inr h
theorem Zu0 (hm:Hm3 C R s) (h:Md C R t p (Zan C R t) res s) (hc:(ZN s.1 C R t&&Zao s.1 C t)=true) (hi:t<i/\i<R) (hj:t<j/\j<C) (hb: ∀ i',t<i'->i'<i-> ∀ j',t<j'->j'<C->cell s.1 C i' j'=ZS\/(cell s.1 C i' j').tmod p=0)
  (hx:(cell s.1 C i j).tmod p≠0):Fnd res (Zb7 C R t i 1 s) false:=by
 rcases h with ⟨a,h2,b⟩|⟨a,h2⟩
 ·have hd:ZdW s.1 C R t=some (i-(t+1)):=Zmk hi hj (fun i' d f=>Ziw fun j' g k=>by
   rw[b];exact (hb i' d f j' g k).resolve_left (Zaz (Zk a.na C i' j'))) (by rw[b];exact hx)
  have c:res=(ZaP C R t i 1 s).map fun x=>(x,false):=CY
  rcases Zgh (i:=t) (p:=i) (t:=1) a I I with e|⟨e,l⟩
  ·exact .inl (by rw[c,e];rfl)
  ·exact .inr ⟨by rw[c,e];rfl,l⟩
 ·exact .inr ⟨a,ZlP hm I h2⟩
theorem Znp (h:Md C R t p (Zan C R t) res s) (hc:(ZN s.1 C R t&&Zao s.1 C t)=true) (hb: ∀ i',t<i'->i'<R-> ∀ j',t<j'->j'<C->cell s.1 C i' j'=ZS\/(cell s.1 C i' j').tmod p=0):Fnd res s true:=by
 rcases h with ⟨a,b,c⟩|h
 ·refine .inl ?_;rw[←b];unfold Zan;rw[hc,if_pos rfl,ZoV (fun i' d e=>Ziw fun j' f g=>by rw[c];exact (hb i' d e j' f g).resolve_left (Zaz (Zk a.na C i' j')))]
 ·exact .inr h
theorem ZqM (aa au av:Option Addr) (ca cu cv R C t:Nat) (s0:SS) (w:World) (hT0:Thr w aa au av (R*C) (R*R) (C*C) ca cu cv s0) (hs0:Ss C R s0) (ht:t<R) (htC:t<C) (hne:cell s0.1 C t t≠0) (hR:R<=24) (hC:C<=24):
  Calls Tryz.prog 205 #[.agg #[Yv Yi R,Yv Yi C, .slice aa (R*C) ca], .agg #[Yv Yi R,Yv Yi R, .slice au (R*R) cu], .agg #[Yv Yi C,Yv Yi C, .slice av (C*C) cv],Yv Yi t] w fun e w'=> ∃ b s',e= .returned (.bool b)/\Thr w' aa au av (R*C) (R*R) (C*C) ca cu cv s'/\Hm3 C R s'/\Keep (Off aa au av) w w'/\Fnd (ZgZ C R t s0) s' b:=by
 obtain ⟨w2,bg,aq,bA,bU,bV, -⟩:=al3 w #[Yv Yi (R:Int),Yv Yi (C:Int), .slice aa (R*C) ca] 37 #[Yv Yi (R:Int),Yv Yi (R:Int), .slice au (R*R) cu] 37 #[Yv Yi (C:Int),Yv Yi (C:Int), .slice av (C*C) cv] 37;have b4:=hid bg;clear bg;have a3:=hT0.grow aq;have oA:Off aa au av w.heap.size:=⟨fun e=>AR,fun e=>AQ,fun e=>BR⟩;have oU:Off aa au av (w.heap.size+1):=⟨fun e=>AR,fun e=>AQ,fun e=>BR⟩;have oV:Off aa au av (w.heap.size+1+1):=⟨fun e=>AR,fun e=>AQ,fun e=>BR⟩;have cp:R*C<=24*24:=JL hR hC;have cq:R*R<=24*24:=JL hR hR;have cr:C*C<=24*24:=JL hC hC;obtain ⟨x,ad⟩:=eX (ZgZ C R t s0);rw[←ad];have bh:Md C R t (cell s0.1 C t t) (Zcn C R t (ZaC C R t (Zan C R t) (t+1)) (t+1)) x s0:= .inl ⟨hs0,ad.symm,rfl⟩;have b5:=Zk hs0.na C t t;have bi:=hs0.hm;have bj:=a3.oa.rdI (S:=fun _=>True) (fun _ _=>trivial) (Zp hs0.na);obtain ⟨⟨l,m,n⟩, -⟩:=bA.three;clear ad hT0 hs0;go_enter Tryz.func205,Tryz.ntmps205;go_wp2_with fail;rw[←b4.out];refine (ZO aa _ ca C t t (R:Int) s0.1 _ bj (Zf htC ht) I I I).mono ?_;rintro e w3 ⟨rfl,a4⟩;have bk:=a3.grow a4;have bl:Keep (Off aa au av) w2 w3:=a4.any;generalize cell s0.1 C t t=p at *;have bm:=hid (ZB.2 b5);have a5:=hid hne;clear l m n bj a3 a4;go_wp2;go_loopw [11] (fun E wr=>Keep (Off aa au av) w2 wr/\ ∃ (i:Nat) (s:SS),t<i/\i<=R/\E=Yv Yi i/\Thr wr aa au av (R*C) (R*R) (C*C) ca cu cv s/\Hm3 C R s/\Md C R t p (Zcn C R t (ZaC C R t (Zan C R t) (t+1)) i) x s) (fun E _=>R-(intOf E).toNat);case atStart=>exact ⟨bl,t+1,s0,I,ht,Δ,bk,bi,bh⟩
 case round=>
  clear bl bk bi bh;obtain ⟨hK,i,s,a6,hi,rfl,f,k,T⟩:=hrel;have c:=bA.keep hK oA;obtain ⟨⟨l,m,n⟩, -⟩:=c.three;have a:=c.lt;by_cases y:i<R
  ·have o:i*C+t<R*C:=Zf htC y;have r:=f.oa.rdI (S:=fun _=>True) (fun _ _=>trivial) (Zb4 k.na);go_wp2_with fail;refine (ZO aa _ ca C i t (R:Int) s.1 _ r o I I I).mono ?_;rintro e w4 ⟨rfl,d⟩;have M:=f.grow d;have F:=hK.trans d.any;have B:=c.grow d;have b6:=bU.keep F oU;clear l m n a;obtain ⟨⟨l,m,n⟩, -⟩:=B.three;have a:=B.lt;by_cases hx0:cell s.1 C i t=0
   ·have a7:Md C R t p (Zcn C R t (ZaC C R t (Zan C R t) (t+1)) (i+1)) x s:=T.next fun _ _=>ZkU y hx0;rw[hx0];clear hx0 T f;go_wp2;go_roundw;case rel=>exact ⟨F,i+1,s,I,I,Δ,M,k,a7⟩
    case measure=>exact FN
   ·have q3:(cell s.1 C i t !=0)=true:=Bv;have a8:=hid hx0;clear hx0;go_wp2_with fail;refine (ZO aa _ ca C i t (R:Int) s.1 _ (r.grow d) o I I I).mono ?_;rintro e w5 ⟨rfl,v⟩;go_wp2_with fail;refine (ZdL _ _ _).mono ?_;rintro e _ ⟨q,qr,qb,rfl,hq,ae,rfl⟩;have G:=B.grow v;have af:=b6.grow v;clear l m n a q3;obtain ⟨⟨l,m,n⟩, -⟩:=G.three;obtain ⟨⟨b0,b1,b2⟩, -⟩:=af.three;have a:=G.lt;have ag:=af.lt;have a9:Md C R t p (Zcn C R t (ZaC C R t (Zan C R t) (t+1)) (i+1)) x (Zb7 C R i t (-q) s):=T.addR k htC y I I (fun Y h2=>by
     have e:=ae (ZB.2 (Zk Y.na C i t)) bm.out a5.out;rw[ZoA y a8.out,h2, ←e])
    have b7:=ZlS (i:=i) (p:=t) (t:= -q) k;clear ae;go_wp2_with fail;refine (ZoC aa au av ca cu cv R C i t (-q) s _ (M.grow v) k y ht I (.inl I) hR hC).mono ?_;rintro e w6 ⟨rfl,N,Z⟩;clear l m n b0 b1 b2 a ag T f;go_wp2;go_roundw;case rel=>exact ⟨(F.trans v.any).trans Z,i+1,_,I,I,Δ,N,b7,a9⟩
    case measure=>exact FN
  ·have V:R=i:=I;subst V;have bn:Md C R t p (ZaC C R t (Zan C R t) (t+1)) x s:=T.next fun _ _=>Zmj;have bo:=hK;have bp:=f;have bq:=k;obtain ⟨s1,b8⟩:=eX s;subst b8;clear hK f k T;go_wp2;clear l m n a c;go_loopw [15] (fun E wr=>Keep (Off aa au av) w2 wr/\ ∃ (j:Nat) (s:SS),t<j/\j<=C/\E=Yv Yi j/\Thr wr aa au av (R*C) (R*R) (C*C) ca cu cv s/\Hm3 C R s/\Md C R t p (ZaC C R t (Zan C R t) j) x s) (fun E _=>C-(intOf E).toNat);case atStart=>exact ⟨bo,t+1,s1,I,htC,Δ,bp,bq,bn⟩
   case round=>
    clear bo bp bq bn;obtain ⟨hK,j,s,ba,hj,rfl,f,k,T⟩:=hrel;have c:=bA.keep hK oA;obtain ⟨⟨l,m,n⟩, -⟩:=c.three;have a:=c.lt;by_cases z:j<C
    ·have o:t*C+j<R*C:=Zf z ht;have r:=f.oa.rdI (S:=fun _=>True) (fun _ _=>trivial) (Zb4 k.na);go_wp2_with fail;refine (ZO aa _ ca C t j (R:Int) s.1 _ r o I I I).mono ?_;rintro e w4 ⟨rfl,d⟩;have M:=f.grow d;have F:=hK.trans d.any;have B:=c.grow d;clear l m n a;obtain ⟨⟨l,m,n⟩, -⟩:=B.three;have a:=B.lt;by_cases hx0:cell s.1 C t j=0
     ·have a7:Md C R t p (ZaC C R t (Zan C R t) (j+1)) x s:=T.next fun _ _=>ZkA z hx0;rw[hx0];clear hx0 T f;go_wp2;go_roundw;case rel=>exact ⟨F,j+1,s,I,I,Δ,M,k,a7⟩
      case measure=>exact FN
     ·have q3:(cell s.1 C t j !=0)=true:=Bv;have a8:=hid hx0;clear hx0;go_wp2_with fail;refine (ZO aa _ ca C t j (R:Int) s.1 _ (r.grow d) o I I I).mono ?_;rintro e w5 ⟨rfl,v⟩;have ab:=F.trans v.any;have ah:=M.grow v;have G:=B.grow v;clear l m n a q3;obtain ⟨⟨l,m,n⟩, -⟩:=G.three;have a:=G.lt;by_cases A:cell s.1 C t j= -4611686018427387904
      ·have a9:Md C R t p (ZaC C R t (Zan C R t) (j+1)) x s:=T.next fun Y _=>(Zaz (Zk Y.na C t j) A).elim;rw[A];clear A T f;go_wp2;go_roundw;case rel=>exact ⟨ab,j+1,s,I,I,Δ,ah,k,a9⟩
       case measure=>exact FN
      ·have q4:(cell s.1 C t j != -4611686018427387904)=true:=(by simpa using A);go_wp2_with fail;refine (ZO aa _ ca C t j (R:Int) s.1 _ ((r.grow d).grow v) o I I I).mono ?_;rintro e w6 ⟨rfl,bb⟩;go_wp2_with fail;refine (ZdL _ _ _).mono ?_;rintro e _ ⟨q,qr,qb,rfl,hq,ae,rfl⟩;have br:=G.grow bb;clear l m n a q4 A;have Z:=ab.trans bb.any;have N:=ah.grow bb;obtain ⟨w7,bc,ar,bX, -⟩:=al1 w6 #[Yv Yi 2,Yv Yi (j:Int),Yv Yi (t:Int),Yv Yi (-q)] 169;have b9:=br.grow ar;have D:=N.grow ar;have nX:Off aa au av w6.heap.size:=⟨fun e=>by have:=N.oa.lt e;omega,fun e=>by have:=N.ou.lt e;omega,fun e=>by have:=N.ov.lt e;omega⟩;obtain ⟨⟨l,m,n⟩, -⟩:=b9.three;have x0:=bX.cell 0;have x1:=bX.cell 1;have x2:=bX.cell 2;have x3:=bX.cell 3;simp only[Kt,Ku,Kx] at x0 x1 x2 x3;rw[bc] at l m n x0 x1 x2 x3;have a:=br.lt;have cb:=hid bc;clear bc;have cc:Md C R t p (ZaC C R t (Zan C R t) (j+1)) x (Zfw C R j t (-q) s):=T.addC k ht htC z I I (fun Y h2=>by
        have e:=ae (ZB.2 (Zk Y.na C t j)) bm.out a5.out;rw[Zne z a8.out,h2, ←e])
       have cd:=Zsj (i:=j) (p:=t) (t:= -q) k;clear ae;go_wp2_with fail;rw[←cb.out];refine (Zj3 aa _ ca C R j t (-q) s.1 _ D.oa k.la z htC I k.na (.inl I) hR hC).mono ?_;rintro e w8 ⟨rfl,ce,bd⟩;have ai:Keep (Off aa au av) w7 w8:=bd.mono fun q _ hq=>hq.1;have bs:=(bV.keep (Z.trans ar.any) oV).keep ai oV;have aj:=bX.keep ai nX;have cf:=D.ou.keep bd (fun g hg _ e=>D.nau g e hg);have cg:=D.ov.keep bd (fun g hg _ e=>D.nav g e hg);obtain ⟨⟨v0,v1,v2⟩, -⟩:=bs.three;clear x0 x1 x2 x3 l m n;have x0:=aj.cell 0;have x1:=aj.cell 1;have x2:=aj.cell 2;have x3:=aj.cell 3;simp only[Kt,Ku,Kx] at x0 x1 x2 x3;have bt:=bs.lt;have bw:=aj.lt;go_wp2_with fail;refine (Zj3 av _ cv C C j t (-q) s.2.2 _ cg k.lv z htC I k.nv (.inl I) hC hC).mono ?_;rintro e w9 ⟨rfl,ch,be⟩;have ci:Thr w9 aa au av (R*C) (R*R) (C*C) ca cu cv (Zfw C R j t (-q) s):=⟨ce.keep be (fun g hg _ e=>D.nav g hg e),cf.keep be (fun g hg _ e=>D.nuv g hg e),ch,D.nau,D.nav,D.nuv⟩;have cj:Keep (Off aa au av) w2 w9:=((Z.trans ar.any).trans ai).trans (be.mono fun q _ hq=>hq.2.2);clear x0 x1 x2 x3 v0 v1 v2 bt bw T f;go_wp2;go_roundw;case rel=>exact ⟨cj,j+1,_,I,I,Δ,ci,cd,cc⟩
       case measure=>exact FN
    ·have W:C=j:=I;subst W;have aw:Md C R t p (Zan C R t) x s:=T.next fun _ _=>ZlT;obtain ⟨h,ck⟩:=eX s;have O:=hK;have H:=f;have ak:=k;subst ck;clear hK f k T;have cm:=H.oa.rdI (S:=fun _=>True) (fun _ _=>trivial) (Zb4 ak.na);go_wp2;clear l m n a c;go_loopw [10,20] (fun cl E wr=>Keep (Off aa au av) w2 wr/\Thr wr aa au av (R*C) (R*R) (C*C) ca cu cv h/\ ∃ i:Nat,t<i/\i<=R/\E=Yv Yi i/\cl= .bool (Zck h.1 C t (i-(t+1)))) (fun _ E _=>R-(intOf E).toNat);case atStart=>exact ⟨O,H,t+1,I,ht,Δ,AC⟩
     case round=>
      clear O H cm;obtain ⟨hK,f,i,a6,hi,rfl,rfl⟩:=hrel;have c:=bA.keep hK oA;obtain ⟨⟨l,m,n⟩, -⟩:=c.three;have a:=c.lt;by_cases y:i<R
      ·have o:i*C+t<R*C:=Zf htC y;have r:=f.oa.rdI (S:=fun _=>True) (fun _ _=>trivial) (Zb4 ak.na);have J:=hid (show Zck h.1 C t (i+1-(t+1))=(Zck h.1 C t (i-(t+1))&&cell h.1 C i t==0) by rw[show i+1-(t+1)=(i-(t+1))+1 by omega,ZkL,show t+1+(i-(t+1))=i by omega]);cases hb:Zck h.1 C t (i-(t+1)) with
       |false=>
        have X:=hid (show Zck h.1 C t (i+1-(t+1))=false by rw[J.out,hb];rfl);clear hb J;go_wp2;go_roundw;case rel=>exact ⟨hK,f,i+1,I,I,Δ,by rw[X.out]⟩
        case measure=>exact FN
       |true=>
        go_wp2_with fail;refine (ZO aa _ ca C i t (R:Int) h.1 _ r o I I I).mono ?_;rintro e w4 ⟨rfl,d⟩;have X:=hid (show Zck h.1 C t (i+1-(t+1))=(cell h.1 C i t==0) by rw[J.out,hb];rfl);clear hb J l m n a;go_wp2;go_roundw;case rel=>exact ⟨hK.trans d.any,f.grow d,i+1,I,I,Δ,by rw[X.out]<;>try go_num⟩
        case measure=>exact FN
      ·have V:R=i:=I;subst V;have O:=hK;have H:=f;have al:Zck h.1 C t (R-(t+1))=ZN h.1 C R t:=rfl;rw[al];clear hK f al;go_wp2;clear l m n a c;go_loopw [10,21] (fun cl E wr=>Keep (Off aa au av) w2 wr/\Thr wr aa au av (R*C) (R*R) (C*C) ca cu cv h/\ ∃ j:Nat,t<j/\j<=C/\E=Yv Yi j/\cl= .bool (ZN h.1 C R t&&ZbM h.1 C t (j-(t+1)))) (fun _ E _=>C-(intOf E).toNat);case atStart=>exact ⟨O,H,t+1,I,htC,Δ,by rw[LF,show ZbM h.1 C t 0=true from rfl,Bool.and_true]⟩
       case round=>
        clear O H;obtain ⟨hK,f,j,ba,hj,rfl,rfl⟩:=hrel;have c:=bA.keep hK oA;obtain ⟨⟨l,m,n⟩, -⟩:=c.three;have a:=c.lt;by_cases z:j<C
        ·have o:t*C+j<R*C:=Zf z ht;have r:=f.oa.rdI (S:=fun _=>True) (fun _ _=>trivial) (Zb4 ak.na);have J:=hid (show (ZN h.1 C R t&&ZbM h.1 C t (j+1-(t+1)))=((ZN h.1 C R t&&ZbM h.1 C t (j-(t+1)))&&cell h.1 C t j==0) by rw[show j+1-(t+1)=(j-(t+1))+1 by omega,Zlg,show t+1+(j-(t+1))=j by omega,Bool.and_assoc]);cases hb:(ZN h.1 C R t&&ZbM h.1 C t (j-(t+1))) with
         |false=>
          have X:=hid (show (ZN h.1 C R t&&ZbM h.1 C t (j+1-(t+1)))=false by rw[J.out,hb];rfl);clear hb J;go_wp2;go_roundw;case rel=>exact ⟨hK,f,j+1,I,I,Δ,by rw[X.out]⟩
          case measure=>exact FN
         |true=>
          go_wp2_with fail;refine (ZO aa _ ca C t j (R:Int) h.1 _ r o I I I).mono ?_;rintro e w4 ⟨rfl,d⟩;have X:=hid (show (ZN h.1 C R t&&ZbM h.1 C t (j+1-(t+1)))=(cell h.1 C t j==0) by rw[J.out,hb];rfl);clear hb J l m n a;go_wp2;go_roundw;case rel=>exact ⟨hK.trans d.any,f.grow d,j+1,I,I,Δ,by rw[X.out]<;>try go_num⟩
          case measure=>exact FN
        ·have W:C=j:=I;subst W;have O:=hK;have H:=f;have al:ZbM h.1 C t (C-(t+1))=Zao h.1 C t:=rfl;rw[al];clear hK f al;have ax:=Zpr aw;have ay:=fun i j=>Zu0 (i:=i) (j:=j) ak aw;have az:=Znp aw;generalize am:(ZN h.1 C R t&&Zao h.1 C t)=cl at *;clear am;have bx:=hid ax;have bz:=hid ay;have b3:=hid az;clear ax ay az aw;go_wp2;clear l m n a c;go_loopw [10,22] (fun bv E wr=>Keep (Off aa au av) w2 wr/\ ∃ (i:Nat) (b:Bool) (s:SS),t<i/\i<=R/\E=Yv Yi i/\bv= .bool b/\Thr wr aa au av (R*C) (R*R) (C*C) ca cu cv s/\Hm3 C R s/\((b=true/\cl=true/\s=h/\ ∀ i',t<i'->i'<i-> ∀ L,t<L->L<C->cell h.1 C i' L=ZS\/(cell h.1 C i' L).tmod p=0)\/(b=false/\Fnd x s false))) (fun _ E _=>R-(intOf E).toNat);case atStart=>
          refine ⟨O,t+1,cl,h,I,ht,Δ,rfl,H,ak, ?_⟩;cases cl with
          |true=>exact .inl ⟨rfl,rfl,rfl,fun i' Y h2=>I⟩
          |false=>exact .inr ⟨rfl,bx.out rfl⟩
         case round=>
          clear O H;obtain ⟨hK,i,b,s,a6,hi,rfl,rfl,f,k,bf⟩:=hrel;have c:=bA.keep hK oA;obtain ⟨⟨l,m,n⟩, -⟩:=c.three;have a:=c.lt;rcases bf with ⟨rfl,am,rfl,P⟩|⟨rfl,hF⟩
          ·have an:=hid P;clear P;by_cases y:i<R
           ·go_wp2;clear l m n a;go_loopw [10,23] (fun bv jv wr=>Keep (Off aa au av) w2 wr/\ ∃ (j:Nat) (b:Bool) (s':SS),t<j/\j<=C/\jv=Yv Yi j/\bv= .bool b/\Thr wr aa au av (R*C) (R*R) (C*C) ca cu cv s'/\Hm3 C R s'/\((b=true/\s'=s/\ ∀ L,t<L->L<j->cell s.1 C i L=ZS\/(cell s.1 C i L).tmod p=0)\/(b=false/\Fnd x s' false))) (fun _ jv _=>C-(intOf jv).toNat);case atStart=>exact ⟨hK,t+1,true,s,I,htC,Δ,rfl,f,k, .inl ⟨rfl,rfl,fun L Y h2=>I⟩⟩
            case round=>
             clear hK f k c;obtain ⟨hK,j,b,s',ba,hj,rfl,rfl,f,k,bf⟩:=hrel;have c:=bA.keep hK oA;obtain ⟨⟨l,m,n⟩, -⟩:=c.three;have a:=c.lt;rcases bf with ⟨rfl,rfl,P⟩|⟨rfl,hF⟩
             ·have ao:=hid P;clear P;by_cases z:j<C
              ·have o:i*C+j<R*C:=Zf z y;have r:=f.oa.rdI (S:=fun _=>True) (fun _ _=>trivial) (Zb4 k.na);go_wp2_with fail;refine (ZO aa _ ca C i j (R:Int) s'.1 _ r o I I I).mono ?_;rintro e w4 ⟨rfl,d⟩;have M:=f.grow d;have F:=hK.trans d.any;have B:=c.grow d;clear l m n a;obtain ⟨⟨l,m,n⟩, -⟩:=B.three;have a:=B.lt;by_cases A:cell s'.1 C i j= -4611686018427387904
               ·have Hb:=hid A;rw[A];clear A f;go_wp2;go_roundw;case rel=>exact ⟨F,j+1,true,s',I,I,Δ,rfl,M,k, .inl ⟨rfl,rfl,fun L Y h2=>by
                 by_cases e:L=j
                 ·subst e;exact .inl Hb.out
                 ·exact ao.out L Y I⟩⟩
                case measure=>exact FN
               ·have q4:(cell s'.1 C i j != -4611686018427387904)=true:=(by simpa using A);have cs: -400000000<=cell s'.1 C i j/\cell s'.1 C i j<=400000000:=(k.na.getD _).resolve_right A;go_wp2_with fail;refine (ZO aa _ ca C i j (R:Int) s'.1 _ (r.grow d) o I I I).mono ?_;rintro e w5 ⟨rfl,v⟩;have ah:=M.grow v;have ab:=F.trans v.any;have G:=B.grow v;have af:=bU.keep ab oU;clear l m n a q4 A;obtain ⟨⟨l,m,n⟩, -⟩:=G.three;obtain ⟨⟨b0,b1,b2⟩, -⟩:=af.three;have a:=G.lt;have ag:=af.lt;have ct:=a5.out;by_cases ap:(cell s'.1 C i j).tmod p=0
                ·have q5:((cell s'.1 C i j).tmod p !=0)=false:=(by simp[ap]);have cn:=hid ap;go_wp2;go_roundw;case rel=>exact ⟨ab,j+1,true,s',I,I,Δ,rfl,ah,k, .inl ⟨rfl,rfl,fun L Y h2=>by
                  by_cases e:L=j
                  ·subst e;exact .inr cn.out
                  ·exact ao.out L Y I⟩⟩
                 case measure=>exact FN
                ·have q5:((cell s'.1 C i j).tmod p !=0)=true:=(by simpa using ap);have HF:=hid (bz.out i j am ⟨a6,y⟩ ⟨ba,z⟩ an.out ap);have co:=ZlS (i:=t) (p:=i) (t:=1) k;clear ap;go_wp2_with fail;refine (ZoC aa au av ca cu cv R C t i 1 s' _ ah k ht y I (.inl I) hR hC).mono ?_;rintro e w6 ⟨rfl,N,Z⟩;clear l m n b0 b1 b2 a ag q5;go_wp2;go_roundw;case rel=>exact ⟨ab.trans Z,j+1,false,_,I,I,Δ,rfl,N,co, .inr ⟨rfl,HF.out⟩⟩
                 case measure=>exact FN
              ·have W:C=j:=I;subst W;go_wp2;go_roundw;case rel=>exact ⟨hK,i+1,true,s',I,I,Δ,rfl,f,k, .inl ⟨rfl,am,rfl,fun i' Y h2=>by
                by_cases e:i'=i
                ·subst e;exact fun L h3 h4=>ao.out L h3 h4
                ·exact an.out i' Y I⟩⟩
               case measure=>exact FN
             ·by_cases z:j<C
              ·go_wp2;go_roundw;case rel=>exact ⟨hK,i+1,false,s',I,I,Δ,rfl,f,k, .inr ⟨rfl,hF⟩⟩
               case measure=>exact FN
              ·have W:C=j:=I;subst W;go_wp2;go_roundw;case rel=>exact ⟨hK,i+1,false,s',I,I,Δ,rfl,f,k, .inr ⟨rfl,hF⟩⟩
               case measure=>exact FN
           ·have V:R=i:=I;subst V;have HN:=hid (b3.out am an.out);go_wp2;go_ret;exact ⟨true,s,rfl,f,k,aq.any.trans hK,HN.out⟩
          ·by_cases y:i<R
           ·go_wp2;go_ret;exact ⟨false,s,rfl,f,k,aq.any.trans hK,hF⟩
           ·have V:R=i:=I;subst V;go_wp2;go_ret;exact ⟨false,s,rfl,f,k,aq.any.trans hK,hF⟩

end Go.Proofs.YtgjefeiddfjjnaaGreatDoor
