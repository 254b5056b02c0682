/- The reference's round. -/
import Derived.Test.YtgeoehnbpkediaaGreatZSmith
import Derived.Test.YtgeoehnbpkediaaGreatZHermW
set_option maxHeartbeats 8000000
set_option maxRecDepth 100000
namespace Go.Proofs.YtgeoehnbpkediaaGreat
open Go.RowKit
open Lib (hid)
open Go.Value renaming int->Yv
open Go.IntKind renaming i64->Yi
variable {C R ca cu cv i j na nu nv t:Nat} {a u v:Option Addr} {f g k:SS->Option (SS×Bool)} {m:List Int} {p q:Int} {res:Option (SS×Bool)} {s:SS} {w w':World}
structure Thr (w:World) (a u v:Option Addr) (na nu nv ca cu cv:Nat) (s:SS):Prop where
 oa:Own w 3 1 a na ca (ints s.1)
 ou:Own w 3 1 u nu cu (ints s.2.1)
 ov:Own w 3 1 v nv cv (ints s.2.2)
 nau: ∀ q,blk a=some q->blk u≠some q
 nav: ∀ q,blk a=some q->blk v≠some q
 nuv: ∀ q,blk u=some q->blk v≠some q
def Off (a u v:Option Addr) (q:Nat):Prop:=blk a≠some q/\blk u≠some q/\blk v≠some q
theorem Thr.keep {T:Nat->Prop} (h:Thr w a u v na nu nv ca cu cv s) (hk:Keep T w w') (h1: ∀ g,blk a=some g->T g) (h2: ∀ g,blk u=some g->T g) (h3: ∀ g,blk v=some g->T g):Thr w' a u v na nu nv ca cu cv s:=
 ⟨h.oa.keep hk (fun g hg _=>h1 g hg),h.ou.keep hk (fun g hg _=>h2 g hg),h.ov.keep hk (fun g hg _=>h3 g hg),h.nau,h.nav,h.nuv⟩
theorem Thr.grow (h:Thr w a u v na nu nv ca cu cv s) (hk:Grow w w'):Thr w' a u v na nu nv ca cu cv s:=h.keep hk (fun _ _=>trivial) (fun _ _=>trivial) (fun _ _=>trivial)
theorem Thr.two (h:Thr w a u v na nu nv ca cu cv s):Two w a u na nu ca cu (s.1,s.2.1):=⟨h.oa,h.ou,h.nau⟩
theorem ZjU (a u v:Option Addr) (ca cu cv R C i p:Nat) (t:Int) (s:SS) (w:World) (h:Thr w a u v (R*C) (R*R) (C*C) ca cu cv s) (hs:Hm3 C R s) (hi:i<R) (hp:p<R) (hip:i≠p) (ht:NumS t) (hR:R<=24) (hC:C<=24):
  Calls Tryz.prog 149 #[.agg #[Yv Yi R,Yv Yi C, .slice a (R*C) ca], .agg #[Yv Yi R,Yv Yi R, .slice u (R*R) cu], .agg #[Yv Yi 2,Yv Yi i,Yv Yi p,Yv Yi t]] w fun e w'=>e= .returned (.tuple #[])/\Thr w' a u v (R*C) (R*R) (C*C) ca cu cv (ZbT C R i p t s)/\Keep (Off a u v) w w':=by
 refine (Zgr a u ca cu R C i p t (s.1,s.2.1) w h.two ⟨hs.la,hs.lu,hs.na,hs.nu⟩ hi hp hip ht hR hC).mono ?_;rintro e w' ⟨rfl,hT,hK⟩;exact ⟨rfl,⟨hT.oa,hT.ou,h.ov.keep hK (fun g hg _=>⟨fun e=>h.nav g e hg,fun e=>h.nuv g e hg⟩),h.nau,h.nav,h.nuv⟩,hK.mono fun q _ hq=>⟨hq.1,hq.2.1⟩⟩
def Md (C R t:Nat) (p:Int) (rest:SS->Option (SS×Bool)) (res:Option (SS×Bool)) (s:SS):Prop:=(Ss C R s/\rest s=res/\cell s.1 C t t=p)\/(res=none/\Mk3 s)
theorem Md.next (h:Md C R t p f res s) (hg:Ss C R s->cell s.1 C t t=p->f s=g s):Md C R t p g res s:=by
 rcases h with ⟨h1,h2,h3⟩|h
 ·exact .inl ⟨h1,by rw[←hg h1 h3];exact h2,h3⟩
 ·exact .inr h
def Zb1 (C R t:Nat) (k:SS->Option (SS×Bool)) (i:Nat) (s:SS):Option (SS×Bool):=(Zei C R t (R-i) i s).bind k
def ZaE (C R t:Nat) (k:SS->Option (SS×Bool)) (j:Nat) (s:SS):Option (SS×Bool):=(Zeo C R t (C-j) j s).bind k
def Zat (C R t:Nat) (s2:SS):Option (SS×Bool):=
 if (ZJ s2.1 C R t&&Zau s2.1 C t)=true then (match Zdi s2.1 C R t with
  |some d=>(ZaP C R t (t+1+d) 1 s2).map fun x=>(x,false)
  |none=>some (s2,true)) else some (s2,false)
theorem Ziz (hi:i<R) (h:cell s.1 C i t=0):Zb1 C R t k i s=Zb1 C R t k (i+1) s:=by
 unfold Zb1;rw[show R-i=(R-(i+1))+1 by omega];simp only[Zei];rw[if_neg (by simp[h])]
theorem ZkS (hi:i<R) (h:cell s.1 C i t≠0):Zb1 C R t k i s=(ZaP C R i t (-(cell s.1 C i t/cell s.1 C t t)) s).bind (Zb1 C R t k (i+1)):=by
 unfold Zb1;rw[show R-i=(R-(i+1))+1 by omega];simp only[Zei];rw[if_pos h,Option.bind_assoc]
theorem Zjk:Zb1 C R t k R s=k s:=by unfold Zb1;rw[Nat.sub_self];rfl
theorem Ziw (hj:j<C) (h:cell s.1 C t j=0):ZaE C R t k j s=ZaE C R t k (j+1) s:=by
 unfold ZaE;rw[show C-j=(C-(j+1))+1 by omega];simp only[Zeo];rw[if_neg (by simp[h])]
theorem ZkY (hj:j<C) (h:cell s.1 C t j≠0):ZaE C R t k j s=(Zbp C R j t (-(cell s.1 C t j/cell s.1 C t t)) s).bind (ZaE C R t k (j+1)):=by
 unfold ZaE;rw[show C-j=(C-(j+1))+1 by omega];simp only[Zeo];rw[if_pos h,Option.bind_assoc]
theorem Zjr:ZaE C R t k C s=k s:=by unfold ZaE;rw[Nat.sub_self];rfl
theorem Md.addR (hm:Hm3 C R s) (h:Md C R t p f res s) (htC:t<C) (hi:i<R) (hit:i≠t) (hq: -400000000<=q/\q<=400000000) (hf:Ss C R s->cell s.1 C t t=p->f s=(ZaP C R i t q s).bind g):Md C R t p g res (ZbT C R i t q s):=by
 rcases h with ⟨h1,h2,h3⟩|⟨h1,h2⟩
 ·rcases Ze1 (i:=i) (p:=t) h1 hi hq with e|⟨e,hk⟩
  ·have h4:=ZcZ h1 e;refine .inl ⟨h4.1, ?_, ?_⟩
   ·rw[hf h1 h3,e] at h2;exact h2
   ·rw[h4.2];simp only;rw[Zbt h1.la hi htC,if_neg (fun e=>hit e.symm)];exact h3
  ·exact .inr ⟨by rw[←h2,hf h1 h3,e];rfl,hk⟩
 ·exact .inr ⟨h1,ZjB hm hi h2⟩
theorem Md.addC (hm:Hm3 C R s) (h:Md C R t p f res s) (ht:t<R) (htC:t<C) (hj:j<C) (hjt:j≠t) (hq: -400000000<=q/\q<=400000000) (hf:Ss C R s->cell s.1 C t t=p->f s=(Zbp C R j t q s).bind g):Md C R t p g res (ZeC C R j t q s):=by
 rcases h with ⟨h1,h2,h3⟩|⟨h1,h2⟩
 ·rcases Zkz (i:=j) (p:=t) h1 hj hq with e|⟨e,hk⟩
  ·have h4:=Ze7 h1 e;refine .inl ⟨h4.1, ?_, ?_⟩
   ·rw[hf h1 h3,e] at h2;exact h2
   ·rw[h4.2];simp only;rw[Zey ht htC,if_neg (fun e=>hjt e.symm)];exact h3
  ·exact .inr ⟨by rw[←h2,hf h1 h3,e];rfl,hk⟩
 ·exact .inr ⟨h1,ZnF hm h2⟩
def Zca (m:List Int) (C t:Nat) (n:Nat):Bool:=(List.range n).all fun d=>cell m C (t+1+d) t==0
def ZbH (m:List Int) (C t:Nat) (n:Nat):Bool:=(List.range n).all fun d=>cell m C t (t+1+d)==0
theorem Zin (m:List Int) (C t n:Nat):Zca m C t (n+1)=(Zca m C t n&&cell m C (t+1+n) t==0):=by unfold Zca;rw[List.range_succ,List.all_append];simp
theorem Zir (m:List Int) (C t n:Nat):ZbH m C t (n+1)=(ZbH m C t n&&cell m C t (t+1+n)==0):=by unfold ZbH;rw[List.range_succ,List.all_append];simp
def Fnd (res:Option (SS×Bool)) (s:SS) (b:Bool):Prop:=res=some (s,b)\/(res=none/\Mk3 s)
theorem Zjm (hi:t<i/\i<R) (hj:t<j/\j<C) (hb: ∀ i',t<i'->i'<i->ZfT m C t i'=false) (h:(cell m C i j).tmod (cell m C t t)≠0):Zdi m C R t=some (i-(t+1)):=by
 unfold Zdi;rw[List.find?_eq_some_iff_append];refine ⟨by rw[show t+1+(i-(t+1))=i by omega];exact Zgj.2 ⟨j,hj.1,hj.2,h⟩,List.range (i-(t+1)),List.range' (i-(t+1)+1) (R-(t+1)-(i-(t+1))-1), ?_,fun d hd=> ?_⟩
 ·rw[List.range_eq_range',List.range_eq_range', ←List.range'_succ,show i-(t+1)=0+1*(i-(t+1)) by omega];have:=List.range'_append (s:=0) (m:=i-(t+1)) (n:=R-(t+1)-(i-(t+1))) (step:=1);rw[show R-(t+1)-(0+1*(i-(t+1)))-1+1=R-(t+1)-(i-(t+1)) by omega];simp only[Nat.zero_add,Nat.one_mul] at this ⊢;rw[this];congr 1;omega
 ·have:=List.mem_range.1 hd;rw[hb (t+1+d) (by omega) (by omega)];rfl
theorem Zlf (hb: ∀ i',t<i'->i'<R->ZfT m C t i'=false):Zdi m C R t=none:=by
 unfold Zdi;rw[List.find?_eq_none];intro d hd;have:=List.mem_range.1 hd;rw[hb (t+1+d) (by omega) (by omega)];simp
theorem Zha (h: ∀ j,t<j->j<C->(cell m C i j).tmod (cell m C t t)=0):ZfT m C t i=false:=by
 rw[Bool.eq_false_iff];intro e;obtain ⟨j,h1,h2,h3⟩:=Zgj.1 e;exact h3 (h j h1 h2)
theorem ZlY (h:Md C R t p (Zat C R t) res s) (hc:(ZJ s.1 C R t&&Zau s.1 C t)=false):Fnd res s false:=by
 rcases h with ⟨h1,h2,h3⟩|h
 ·refine .inl ?_;rw[←h2];unfold Zat;rw[hc];rfl
 ·exact .inr h
theorem ZpD (hm:Hm3 C R s) (h:Md C R t p (Zat C R t) res s) (hc:(ZJ s.1 C R t&&Zau s.1 C t)=true) (hi:t<i/\i<R) (hj:t<j/\j<C) (hb: ∀ i',t<i'->i'<i-> ∀ j',t<j'->j'<C->cell s.1 C i' j'=ZO\/(cell s.1 C i' j').tmod p=0)
  (hx:(cell s.1 C i j).tmod p≠0):Fnd res (ZbT C R t i 1 s) false:=by
 rcases h with ⟨h1,h2,h3⟩|⟨h1,h2⟩
 ·have hd:Zdi s.1 C R t=some (i-(t+1)):=Zjm hi hj (fun i' q1 q2=>Zha fun j' q3 q4=>by
   rw[h3];exact (hb i' q1 q2 j' q3 q4).resolve_left (ZaM (Zr h1.na C i' j'))) (by rw[h3];exact hx)
  have hr:res=(ZaP C R t i 1 s).map fun x=>(x,false):=by rw[←h2];unfold Zat;rw[hc,if_pos rfl,hd];simp only;rw[show t+1+(i-(t+1))=i by omega]
  rcases Ze1 (i:=t) (p:=i) (t:=1) h1 (by omega) (by omega) with e|⟨e,hk⟩
  ·exact .inl (by rw[hr,e];rfl)
  ·exact .inr ⟨by rw[hr,e];rfl,hk⟩
 ·exact .inr ⟨h1,ZjB hm (by omega) h2⟩
theorem Zk0 (h:Md C R t p (Zat C R t) res s) (hc:(ZJ s.1 C R t&&Zau s.1 C t)=true) (hb: ∀ i',t<i'->i'<R-> ∀ j',t<j'->j'<C->cell s.1 C i' j'=ZO\/(cell s.1 C i' j').tmod p=0):Fnd res s true:=by
 rcases h with ⟨h1,h2,h3⟩|h
 ·refine .inl ?_;rw[←h2];unfold Zat;rw[hc,if_pos rfl,Zlf (fun i' q1 q2=>Zha fun j' q3 q4=>by rw[h3];exact (hb i' q1 q2 j' q3 q4).resolve_left (ZaM (Zr h1.na C i' j')))]
 ·exact .inr h
theorem Zml (aa au av:Option Addr) (ca cu cv R C t:Nat) (s0:SS) (w:World) (hT0:Thr w aa au av (R*C) (R*R) (C*C) ca cu cv s0) (hs0:Ss C R s0) (ht:t<R) (htC:t<C) (hne:cell s0.1 C t t≠0) (hR:R<=24) (hC:C<=24):
  Calls Tryz.prog 153 #[.agg #[Yv Yi R,Yv Yi C, .slice aa (R*C) ca], .agg #[Yv Yi R,Yv Yi R, .slice au (R*R) cu], .agg #[Yv Yi C,Yv Yi C, .slice av (C*C) cv],Yv Yi t] w fun e w'=> ∃ b s',e= .returned (.bool b)/\Thr w' aa au av (R*C) (R*R) (C*C) ca cu cv s'/\Hm3 C R s'/\Keep (Off aa au av) w w'/\Fnd (ZfK C R t s0) s' b:=by
 obtain ⟨w2,hw2,hG2,bA,bU,bV, -⟩:=al3 w #[Yv Yi (R:Int),Yv Yi (C:Int), .slice aa (R*C) ca] 28 #[Yv Yi (R:Int),Yv Yi (R:Int), .slice au (R*R) cu] 28 #[Yv Yi (C:Int),Yv Yi (C:Int), .slice av (C*C) cv] 28;have Hw2:=hid hw2;clear hw2;have hTT:=hT0.grow hG2;have oA:Off aa au av w.heap.size:=⟨fun e=>by have:=hT0.oa.lt e;omega,fun e=>by have:=hT0.ou.lt e;omega,fun e=>by have:=hT0.ov.lt e;omega⟩;have oU:Off aa au av (w.heap.size+1):=⟨fun e=>by have:=hT0.oa.lt e;omega,fun e=>by have:=hT0.ou.lt e;omega,fun e=>by have:=hT0.ov.lt e;omega⟩;have oV:Off aa au av (w.heap.size+1+1):=⟨fun e=>by have:=hT0.oa.lt e;omega,fun e=>by have:=hT0.ou.lt e;omega,fun e=>by have:=hT0.ov.lt e;omega⟩;have hRC:R*C<=24*24:=Nat.mul_le_mul hR hC;have hRR:R*R<=24*24:=Nat.mul_le_mul hR hR;have hCC:C*C<=24*24:=Nat.mul_le_mul hC hC;obtain ⟨res,hres⟩: ∃ res,res=ZfK C R t s0:=⟨_,rfl⟩;rw[←hres];have hM0:Md C R t (cell s0.1 C t t) (Zb1 C R t (ZaE C R t (Zat C R t) (t+1)) (t+1)) res s0:= .inl ⟨hs0,hres.symm,rfl⟩;have hpn:=Zr hs0.na C t t;have hm0:=hs0.hm;have hr0:=hTT.oa.rdI (S:=fun _=>True) (fun _ _=>trivial) (ZA hs0.na);obtain ⟨⟨a0,a1,a2⟩, -⟩:=bA.three;clear hres hT0 hs0;go_enter Tryz.func153,Tryz.ntmps153;go_wp2_with fail;rw[←Hw2.out];refine (ZK aa _ ca C t t (R:Int) s0.1 _ hr0 (Zl htC ht) (by omega) (by omega) (by omega)).mono ?_;rintro e w3 ⟨rfl,hG3⟩;have hT3:=hTT.grow hG3;have hK3:Keep (Off aa au av) w2 w3:=hG3.any;generalize cell s0.1 C t t=p at *;have Hpb:=hid (ZT.2 hpn);have Hp0:=hid hne;clear a0 a1 a2 hr0 hTT hG3;go_wp2;go_loopw [11] (fun iv wr=>Keep (Off aa au av) w2 wr/\ ∃ (i:Nat) (s:SS),t<i/\i<=R/\iv=Yv Yi i/\Thr wr aa au av (R*C) (R*R) (C*C) ca cu cv s/\Hm3 C R s/\Md C R t p (Zb1 C R t (ZaE C R t (Zat C R t) (t+1)) i) res s) (fun iv _=>R-(intOf iv).toNat);case atStart=>exact ⟨hK3,t+1,s0,by omega,ht,by go_num,hT3,hm0,hM0⟩
 case round=>
  clear hK3 hT3 hm0 hM0;obtain ⟨hK,i,s,hti,hi,rfl,hT,hm,hM⟩:=hrel;have bAr:=bA.keep hK oA;obtain ⟨⟨a0,a1,a2⟩, -⟩:=bAr.three;have hltA:=bAr.lt;by_cases hiR:i<R
  ·have hni:i*C+t<R*C:=Zl htC hiR;have hrA:=hT.oa.rdI (S:=fun _=>True) (fun _ _=>trivial) (ZbN hm.na);go_wp2_with fail;refine (ZK aa _ ca C i t (R:Int) s.1 _ hrA hni (by omega) (by omega) (by omega)).mono ?_;rintro e w4 ⟨rfl,hG4⟩;have hT4:=hT.grow hG4;have hK4:=hK.trans hG4.any;have bA4:=bAr.grow hG4;have bU4:=bU.keep hK4 oU;clear a0 a1 a2 hltA;obtain ⟨⟨a0,a1,a2⟩, -⟩:=bA4.three;have hltA:=bA4.lt;by_cases hx0:cell s.1 C i t=0
   ·have hM4:Md C R t p (Zb1 C R t (ZaE C R t (Zat C R t) (t+1)) (i+1)) res s:=hM.next fun _ _=>Ziz hiR hx0;rw[hx0];clear hx0 hM hT;go_wp2;go_roundw;case rel=>exact ⟨hK4,i+1,s,by omega,by omega,by go_num,hT4,hm,hM4⟩
    case measure=>simp[intOf];omega
   ·have q3:(cell s.1 C i t !=0)=true:=(by simpa using hx0);have Hx0:=hid hx0;clear hx0;go_wp2_with fail;refine (ZK aa _ ca C i t (R:Int) s.1 _ (hrA.grow hG4) hni (by omega) (by omega) (by omega)).mono ?_;rintro e w5 ⟨rfl,hG5⟩;go_wp2_with fail;refine (Zc5 _ _ _).mono ?_;rintro e _ ⟨q,qr,qb,rfl,hq,hqe,rfl⟩;have bA5:=bA4.grow hG5;have bU5:=bU4.grow hG5;clear a0 a1 a2 hltA q3;obtain ⟨⟨a0,a1,a2⟩, -⟩:=bA5.three;obtain ⟨⟨b0,b1,b2⟩, -⟩:=bU5.three;have hltA:=bA5.lt;have hltU:=bU5.lt;have hM5:Md C R t p (Zb1 C R t (ZaE C R t (Zat C R t) (t+1)) (i+1)) res (ZbT C R i t (-q) s):=hM.addR hm htC hiR (by omega) (by omega) (fun h1 h2=>by
     have e:=hqe (ZT.2 (Zr h1.na C i t)) Hpb.out Hp0.out;rw[ZkS hiR Hx0.out,h2, ←e])
    have hm5:=Zjn (i:=i) (p:=t) (t:= -q) hm;clear hqe;go_wp2_with fail;refine (ZjU aa au av ca cu cv R C i t (-q) s _ (hT4.grow hG5) hm hiR ht (by omega) (.inl (by omega)) hR hC).mono ?_;rintro e w6 ⟨rfl,hT6,hK6⟩;clear a0 a1 a2 b0 b1 b2 hltA hltU hM hT;go_wp2;go_roundw;case rel=>exact ⟨(hK4.trans hG5.any).trans hK6,i+1,_,by omega,by omega,by go_num,hT6,hm5,hM5⟩
    case measure=>simp[intOf];omega
  ·have hiE:R=i:=(by omega);subst hiE;have hM1:Md C R t p (ZaE C R t (Zat C R t) (t+1)) res s:=hM.next fun _ _=>Zjk;have hK1:=hK;have hT1:=hT;have hm1:=hm;obtain ⟨s1,hs1⟩: ∃ s1,s1=s:=⟨_,rfl⟩;subst hs1;clear hK hT hm hM;go_wp2;clear a0 a1 a2 hltA bAr;go_loopw [15] (fun iv wr=>Keep (Off aa au av) w2 wr/\ ∃ (j:Nat) (s:SS),t<j/\j<=C/\iv=Yv Yi j/\Thr wr aa au av (R*C) (R*R) (C*C) ca cu cv s/\Hm3 C R s/\Md C R t p (ZaE C R t (Zat C R t) j) res s) (fun iv _=>C-(intOf iv).toNat);case atStart=>exact ⟨hK1,t+1,s1,by omega,htC,by go_num,hT1,hm1,hM1⟩
   case round=>
    clear hK1 hT1 hm1 hM1;obtain ⟨hK,j,s,htj,hj,rfl,hT,hm,hM⟩:=hrel;have bAr:=bA.keep hK oA;obtain ⟨⟨a0,a1,a2⟩, -⟩:=bAr.three;have hltA:=bAr.lt;by_cases hjC:j<C
    ·have hni:t*C+j<R*C:=Zl hjC ht;have hrA:=hT.oa.rdI (S:=fun _=>True) (fun _ _=>trivial) (ZbN hm.na);go_wp2_with fail;refine (ZK aa _ ca C t j (R:Int) s.1 _ hrA hni (by omega) (by omega) (by omega)).mono ?_;rintro e w4 ⟨rfl,hG4⟩;have hT4:=hT.grow hG4;have hK4:=hK.trans hG4.any;have bA4:=bAr.grow hG4;clear a0 a1 a2 hltA;obtain ⟨⟨a0,a1,a2⟩, -⟩:=bA4.three;have hltA:=bA4.lt;by_cases hx0:cell s.1 C t j=0
     ·have hM4:Md C R t p (ZaE C R t (Zat C R t) (j+1)) res s:=hM.next fun _ _=>Ziw hjC hx0;rw[hx0];clear hx0 hM hT;go_wp2;go_roundw;case rel=>exact ⟨hK4,j+1,s,by omega,by omega,by go_num,hT4,hm,hM4⟩
      case measure=>simp[intOf];omega
     ·have q3:(cell s.1 C t j !=0)=true:=(by simpa using hx0);have Hx0:=hid hx0;clear hx0;go_wp2_with fail;refine (ZK aa _ ca C t j (R:Int) s.1 _ (hrA.grow hG4) hni (by omega) (by omega) (by omega)).mono ?_;rintro e w5 ⟨rfl,hG5⟩;have hK5:=hK4.trans hG5.any;have hT5:=hT4.grow hG5;have bA5:=bA4.grow hG5;clear a0 a1 a2 hltA q3;obtain ⟨⟨a0,a1,a2⟩, -⟩:=bA5.three;have hltA:=bA5.lt;by_cases hxb:cell s.1 C t j= -4611686018427387904
      ·have hM5:Md C R t p (ZaE C R t (Zat C R t) (j+1)) res s:=hM.next fun h1 _=>(ZaM (Zr h1.na C t j) hxb).elim;rw[hxb];clear hxb hM hT;go_wp2;go_roundw;case rel=>exact ⟨hK5,j+1,s,by omega,by omega,by go_num,hT5,hm,hM5⟩
       case measure=>simp[intOf];omega
      ·have q4:(cell s.1 C t j != -4611686018427387904)=true:=(by simpa using hxb);go_wp2_with fail;refine (ZK aa _ ca C t j (R:Int) s.1 _ ((hrA.grow hG4).grow hG5) hni (by omega) (by omega) (by omega)).mono ?_;rintro e w6 ⟨rfl,hG6⟩;go_wp2_with fail;refine (Zc5 _ _ _).mono ?_;rintro e _ ⟨q,qr,qb,rfl,hq,hqe,rfl⟩;have bA6:=bA5.grow hG6;clear a0 a1 a2 hltA q4 hxb;have hK6:=hK5.trans hG6.any;have hT6:=hT5.grow hG6;obtain ⟨w7,hw7,hG7,bX, -⟩:=al1 w6 #[Yv Yi 2,Yv Yi (j:Int),Yv Yi (t:Int),Yv Yi (-q)] 131;have bA7:=bA6.grow hG7;have hT7:=hT6.grow hG7;have nX:Off aa au av w6.heap.size:=⟨fun e=>by have:=hT6.oa.lt e;omega,fun e=>by have:=hT6.ou.lt e;omega,fun e=>by have:=hT6.ov.lt e;omega⟩;obtain ⟨⟨a0,a1,a2⟩, -⟩:=bA7.three;have x0:=bX.cell 0;have x1:=bX.cell 1;have x2:=bX.cell 2;have x3:=bX.cell 3;simp only[List.getElem?_toArray,List.getElem?_cons_zero,List.getElem?_cons_succ] at x0 x1 x2 x3;rw[hw7] at a0 a1 a2 x0 x1 x2 x3;have hltA:=bA6.lt;have Hw7:=hid hw7;clear hw7;have hM6:Md C R t p (ZaE C R t (Zat C R t) (j+1)) res (ZeC C R j t (-q) s):=hM.addC hm ht htC hjC (by omega) (by omega) (fun h1 h2=>by
        have e:=hqe (ZT.2 (Zr h1.na C t j)) Hpb.out Hp0.out;rw[ZkY hjC Hx0.out,h2, ←e])
       have hm6:=Znb (i:=j) (p:=t) (t:= -q) hm;clear hqe;go_wp2_with fail;rw[←Hw7.out];refine (Zh0 aa _ ca C R j t (-q) s.1 _ hT7.oa hm.la hjC htC (by omega) hm.na (.inl (by omega)) hR hC).mono ?_;rintro e w8 ⟨rfl,oA8,hK8⟩;have hK8':Keep (Off aa au av) w7 w8:=hK8.mono fun q _ hq=>hq.1;have bV8:=(bV.keep (hK6.trans hG7.any) oV).keep hK8' oV;have bX8:=bX.keep hK8' nX;have oU8:=hT7.ou.keep hK8 (fun g hg _ e=>hT7.nau g e hg);have oV8:=hT7.ov.keep hK8 (fun g hg _ e=>hT7.nav g e hg);obtain ⟨⟨v0,v1,v2⟩, -⟩:=bV8.three;clear x0 x1 x2 x3 a0 a1 a2;have x0:=bX8.cell 0;have x1:=bX8.cell 1;have x2:=bX8.cell 2;have x3:=bX8.cell 3;simp only[List.getElem?_toArray,List.getElem?_cons_zero,List.getElem?_cons_succ] at x0 x1 x2 x3;have hltV:=bV8.lt;have hltX:=bX8.lt;go_wp2_with fail;refine (Zh0 av _ cv C C j t (-q) s.2.2 _ oV8 hm.lv hjC htC (by omega) hm.nv (.inl (by omega)) hC hC).mono ?_;rintro e w9 ⟨rfl,oV9,hK9⟩;have hT9:Thr w9 aa au av (R*C) (R*R) (C*C) ca cu cv (ZeC C R j t (-q) s):=⟨oA8.keep hK9 (fun g hg _ e=>hT7.nav g hg e),oU8.keep hK9 (fun g hg _ e=>hT7.nuv g hg e),oV9,hT7.nau,hT7.nav,hT7.nuv⟩;have hKf:Keep (Off aa au av) w2 w9:=((hK6.trans hG7.any).trans hK8').trans (hK9.mono fun q _ hq=>hq.2.2);clear x0 x1 x2 x3 v0 v1 v2 hltV hltX hM hT;go_wp2;go_roundw;case rel=>exact ⟨hKf,j+1,_,by omega,by omega,by go_num,hT9,hm6,hM6⟩
       case measure=>simp[intOf];omega
    ·have hjE:C=j:=(by omega);subst hjE;have hM2:Md C R t p (Zat C R t) res s:=hM.next fun _ _=>Zjr;obtain ⟨s2,hs2⟩: ∃ s2,s2=s:=⟨_,rfl⟩;have hK2:=hK;have hT2:=hT;have hm2:=hm;subst hs2;clear hK hT hm hM;have hr2:=hT2.oa.rdI (S:=fun _=>True) (fun _ _=>trivial) (ZbN hm2.na);go_wp2;clear a0 a1 a2 hltA bAr;go_loopw [10,20] (fun cl iv wr=>Keep (Off aa au av) w2 wr/\Thr wr aa au av (R*C) (R*R) (C*C) ca cu cv s2/\ ∃ i:Nat,t<i/\i<=R/\iv=Yv Yi i/\cl= .bool (Zca s2.1 C t (i-(t+1)))) (fun _ iv _=>R-(intOf iv).toNat);case atStart=>exact ⟨hK2,hT2,t+1,by omega,ht,by go_num,by rw[Nat.sub_self];rfl⟩
     case round=>
      clear hK2 hT2 hr2;obtain ⟨hK,hT,i,hti,hi,rfl,rfl⟩:=hrel;have bAr:=bA.keep hK oA;obtain ⟨⟨a0,a1,a2⟩, -⟩:=bAr.three;have hltA:=bAr.lt;by_cases hiR:i<R
      ·have hni:i*C+t<R*C:=Zl htC hiR;have hrA:=hT.oa.rdI (S:=fun _=>True) (fun _ _=>trivial) (ZbN hm2.na);have hcs:=hid (show Zca s2.1 C t (i+1-(t+1))=(Zca s2.1 C t (i-(t+1))&&cell s2.1 C i t==0) by rw[show i+1-(t+1)=(i-(t+1))+1 by omega,Zin,show t+1+(i-(t+1))=i by omega]);cases hb:Zca s2.1 C t (i-(t+1)) with
       |false=>
        have Hcs:=hid (show Zca s2.1 C t (i+1-(t+1))=false by rw[hcs.out,hb];rfl);clear hb hcs;go_wp2;go_roundw;case rel=>exact ⟨hK,hT,i+1,by omega,by omega,by go_num,by rw[Hcs.out]⟩
        case measure=>simp[intOf];omega
       |true=>
        go_wp2_with fail;refine (ZK aa _ ca C i t (R:Int) s2.1 _ hrA hni (by omega) (by omega) (by omega)).mono ?_;rintro e w4 ⟨rfl,hG4⟩;have Hcs:=hid (show Zca s2.1 C t (i+1-(t+1))=(cell s2.1 C i t==0) by rw[hcs.out,hb];rfl);clear hb hcs a0 a1 a2 hltA;go_wp2;go_roundw;case rel=>exact ⟨hK.trans hG4.any,hT.grow hG4,i+1,by omega,by omega,by go_num,by rw[Hcs.out]<;>try go_num⟩
        case measure=>simp[intOf];omega
      ·have hiE:R=i:=(by omega);subst hiE;have hK2:=hK;have hT2:=hT;have hcc:Zca s2.1 C t (R-(t+1))=ZJ s2.1 C R t:=rfl;rw[hcc];clear hK hT hcc;go_wp2;clear a0 a1 a2 hltA bAr;go_loopw [10,21] (fun cl iv wr=>Keep (Off aa au av) w2 wr/\Thr wr aa au av (R*C) (R*R) (C*C) ca cu cv s2/\ ∃ j:Nat,t<j/\j<=C/\iv=Yv Yi j/\cl= .bool (ZJ s2.1 C R t&&ZbH s2.1 C t (j-(t+1)))) (fun _ iv _=>C-(intOf iv).toNat);case atStart=>exact ⟨hK2,hT2,t+1,by omega,htC,by go_num,by rw[Nat.sub_self,show ZbH s2.1 C t 0=true from rfl,Bool.and_true]⟩
       case round=>
        clear hK2 hT2;obtain ⟨hK,hT,j,htj,hj,rfl,rfl⟩:=hrel;have bAr:=bA.keep hK oA;obtain ⟨⟨a0,a1,a2⟩, -⟩:=bAr.three;have hltA:=bAr.lt;by_cases hjC:j<C
        ·have hni:t*C+j<R*C:=Zl hjC ht;have hrA:=hT.oa.rdI (S:=fun _=>True) (fun _ _=>trivial) (ZbN hm2.na);have hcs:=hid (show (ZJ s2.1 C R t&&ZbH s2.1 C t (j+1-(t+1)))=((ZJ s2.1 C R t&&ZbH s2.1 C t (j-(t+1)))&&cell s2.1 C t j==0) by rw[show j+1-(t+1)=(j-(t+1))+1 by omega,Zir,show t+1+(j-(t+1))=j by omega,Bool.and_assoc]);cases hb:(ZJ s2.1 C R t&&ZbH s2.1 C t (j-(t+1))) with
         |false=>
          have Hcs:=hid (show (ZJ s2.1 C R t&&ZbH s2.1 C t (j+1-(t+1)))=false by rw[hcs.out,hb];rfl);clear hb hcs;go_wp2;go_roundw;case rel=>exact ⟨hK,hT,j+1,by omega,by omega,by go_num,by rw[Hcs.out]⟩
          case measure=>simp[intOf];omega
         |true=>
          go_wp2_with fail;refine (ZK aa _ ca C t j (R:Int) s2.1 _ hrA hni (by omega) (by omega) (by omega)).mono ?_;rintro e w4 ⟨rfl,hG4⟩;have Hcs:=hid (show (ZJ s2.1 C R t&&ZbH s2.1 C t (j+1-(t+1)))=(cell s2.1 C t j==0) by rw[hcs.out,hb];rfl);clear hb hcs a0 a1 a2 hltA;go_wp2;go_roundw;case rel=>exact ⟨hK.trans hG4.any,hT.grow hG4,j+1,by omega,by omega,by go_num,by rw[Hcs.out]<;>try go_num⟩
          case measure=>simp[intOf];omega
        ·have hjE:C=j:=(by omega);subst hjE;have hK2:=hK;have hT2:=hT;have hcc:ZbH s2.1 C t (C-(t+1))=Zau s2.1 C t:=rfl;rw[hcc];clear hK hT hcc;have hoff:=ZlY hM2;have hhit:=fun i j=>ZpD (i:=i) (j:=j) hm2 hM2;have hnon:=Zk0 hM2;generalize hcl:(ZJ s2.1 C R t&&Zau s2.1 C t)=cl at *;clear hcl;have Hoff:=hid hoff;have Hhit:=hid hhit;have Hnon:=hid hnon;clear hoff hhit hnon hM2;go_wp2;clear a0 a1 a2 hltA bAr;go_loopw [10,22] (fun bv iv wr=>Keep (Off aa au av) w2 wr/\ ∃ (i:Nat) (b:Bool) (s:SS),t<i/\i<=R/\iv=Yv Yi i/\bv= .bool b/\Thr wr aa au av (R*C) (R*R) (C*C) ca cu cv s/\Hm3 C R s/\((b=true/\cl=true/\s=s2/\ ∀ i',t<i'->i'<i-> ∀ j',t<j'->j'<C->cell s2.1 C i' j'=ZO\/(cell s2.1 C i' j').tmod p=0)\/(b=false/\Fnd res s false))) (fun _ iv _=>R-(intOf iv).toNat);case atStart=>
          refine ⟨hK2,t+1,cl,s2,by omega,ht,by go_num,rfl,hT2,hm2, ?_⟩;cases cl with
          |true=>exact .inl ⟨rfl,rfl,rfl,fun i' h1 h2=>by omega⟩
          |false=>exact .inr ⟨rfl,Hoff.out rfl⟩
         case round=>
          clear hK2 hT2;obtain ⟨hK,i,b,s,hti,hi,rfl,rfl,hT,hm,hst⟩:=hrel;have bAr:=bA.keep hK oA;obtain ⟨⟨a0,a1,a2⟩, -⟩:=bAr.three;have hltA:=bAr.lt;rcases hst with ⟨rfl,hcl,rfl,hall⟩|⟨rfl,hF⟩
          ·have Hall:=hid hall;clear hall;by_cases hiR:i<R
           ·go_wp2;clear a0 a1 a2 hltA;go_loopw [10,23] (fun bv jv wr=>Keep (Off aa au av) w2 wr/\ ∃ (j:Nat) (b:Bool) (s':SS),t<j/\j<=C/\jv=Yv Yi j/\bv= .bool b/\Thr wr aa au av (R*C) (R*R) (C*C) ca cu cv s'/\Hm3 C R s'/\((b=true/\s'=s/\ ∀ j',t<j'->j'<j->cell s.1 C i j'=ZO\/(cell s.1 C i j').tmod p=0)\/(b=false/\Fnd res s' false))) (fun _ jv _=>C-(intOf jv).toNat);case atStart=>exact ⟨hK,t+1,true,s,by omega,htC,by go_num,rfl,hT,hm, .inl ⟨rfl,rfl,fun j' h1 h2=>by omega⟩⟩
            case round=>
             clear hK hT hm bAr;obtain ⟨hK,j,b,s',htj,hj,rfl,rfl,hT,hm,hst⟩:=hrel;have bAr:=bA.keep hK oA;obtain ⟨⟨a0,a1,a2⟩, -⟩:=bAr.three;have hltA:=bAr.lt;rcases hst with ⟨rfl,rfl,hall⟩|⟨rfl,hF⟩
             ·have Hal2:=hid hall;clear hall;by_cases hjC:j<C
              ·have hni:i*C+j<R*C:=Zl hjC hiR;have hrA:=hT.oa.rdI (S:=fun _=>True) (fun _ _=>trivial) (ZbN hm.na);go_wp2_with fail;refine (ZK aa _ ca C i j (R:Int) s'.1 _ hrA hni (by omega) (by omega) (by omega)).mono ?_;rintro e w4 ⟨rfl,hG4⟩;have hT4:=hT.grow hG4;have hK4:=hK.trans hG4.any;have bA4:=bAr.grow hG4;clear a0 a1 a2 hltA;obtain ⟨⟨a0,a1,a2⟩, -⟩:=bA4.three;have hltA:=bA4.lt;by_cases hxb:cell s'.1 C i j= -4611686018427387904
               ·have Hb:=hid hxb;rw[hxb];clear hxb hT;go_wp2;go_roundw;case rel=>exact ⟨hK4,j+1,true,s',by omega,by omega,by go_num,rfl,hT4,hm, .inl ⟨rfl,rfl,fun j' h1 h2=>by
                 by_cases e:j'=j
                 ·subst e;exact .inl Hb.out
                 ·exact Hal2.out j' h1 (by omega)⟩⟩
                case measure=>simp[intOf];omega
               ·have q4:(cell s'.1 C i j != -4611686018427387904)=true:=(by simpa using hxb);have hxn: -400000000<=cell s'.1 C i j/\cell s'.1 C i j<=400000000:=(hm.na.getD _).resolve_right hxb;go_wp2_with fail;refine (ZK aa _ ca C i j (R:Int) s'.1 _ (hrA.grow hG4) hni (by omega) (by omega) (by omega)).mono ?_;rintro e w5 ⟨rfl,hG5⟩;have hT5:=hT4.grow hG5;have hK5:=hK4.trans hG5.any;have bA5:=bA4.grow hG5;have bU5:=bU.keep hK5 oU;clear a0 a1 a2 hltA q4 hxb;obtain ⟨⟨a0,a1,a2⟩, -⟩:=bA5.three;obtain ⟨⟨b0,b1,b2⟩, -⟩:=bU5.three;have hltA:=bA5.lt;have hltU:=bU5.lt;have hp0:=Hp0.out;by_cases hdv:(cell s'.1 C i j).tmod p=0
                ·have q5:((cell s'.1 C i j).tmod p !=0)=false:=(by simp[hdv]);have Hdv:=hid hdv;go_wp2;go_roundw;case rel=>exact ⟨hK5,j+1,true,s',by omega,by omega,by go_num,rfl,hT5,hm, .inl ⟨rfl,rfl,fun j' h1 h2=>by
                  by_cases e:j'=j
                  ·subst e;exact .inr Hdv.out
                  ·exact Hal2.out j' h1 (by omega)⟩⟩
                 case measure=>simp[intOf];omega
                ·have q5:((cell s'.1 C i j).tmod p !=0)=true:=(by simpa using hdv);have HF:=hid (Hhit.out i j hcl ⟨hti,hiR⟩ ⟨htj,hjC⟩ Hall.out hdv);have hmF:=Zjn (i:=t) (p:=i) (t:=1) hm;clear hdv;go_wp2_with fail;refine (ZjU aa au av ca cu cv R C t i 1 s' _ hT5 hm ht hiR (by omega) (.inl (by omega)) hR hC).mono ?_;rintro e w6 ⟨rfl,hT6,hK6⟩;clear a0 a1 a2 b0 b1 b2 hltA hltU q5;go_wp2;go_roundw;case rel=>exact ⟨hK5.trans hK6,j+1,false,_,by omega,by omega,by go_num,rfl,hT6,hmF, .inr ⟨rfl,HF.out⟩⟩
                 case measure=>simp[intOf];omega
              ·have hjE:C=j:=(by omega);subst hjE;go_wp2;go_roundw;case rel=>exact ⟨hK,i+1,true,s',by omega,by omega,by go_num,rfl,hT,hm, .inl ⟨rfl,hcl,rfl,fun i' h1 h2=>by
                by_cases e:i'=i
                ·subst e;exact fun j' h3 h4=>Hal2.out j' h3 h4
                ·exact Hall.out i' h1 (by omega)⟩⟩
               case measure=>simp[intOf];omega
             ·by_cases hjC:j<C
              ·go_wp2;go_roundw;case rel=>exact ⟨hK,i+1,false,s',by omega,by omega,by go_num,rfl,hT,hm, .inr ⟨rfl,hF⟩⟩
               case measure=>simp[intOf];omega
              ·have hjE:C=j:=(by omega);subst hjE;go_wp2;go_roundw;case rel=>exact ⟨hK,i+1,false,s',by omega,by omega,by go_num,rfl,hT,hm, .inr ⟨rfl,hF⟩⟩
               case measure=>simp[intOf];omega
           ·have hiE:R=i:=(by omega);subst hiE;have HN:=hid (Hnon.out hcl Hall.out);go_wp2;go_ret;exact ⟨true,s,rfl,hT,hm,hG2.any.trans hK,HN.out⟩
          ·by_cases hiR:i<R
           ·go_wp2;go_ret;exact ⟨false,s,rfl,hT,hm,hG2.any.trans hK,hF⟩
           ·have hiE:R=i:=(by omega);subst hiE;go_wp2;go_ret;exact ⟨false,s,rfl,hT,hm,hG2.any.trans hK,hF⟩

end Go.Proofs.YtgeoehnbpkediaaGreat
