/- The reference's Smith form in place: the walk. -/
import Derived.Test.YtgjefeiddfjjnaaGreatDoorZSmithR
import Derived.Test.YtgjefeiddfjjnaaGreatDoorZBasI
set_option maxHeartbeats 8000000
set_option maxRecDepth 100000
namespace Go.Proofs.YtgjefeiddfjjnaaGreatDoor
open Go.RowKit
open Lib (hid)
open Go.Value renaming int->Yv
open Go.IntKind renaming i64->Yi
open Nat renaming mul_le_mul->JL
open Go.Proofs.Tryz renaming func91->Q0,ntmps91->Q1,prog->JG
variable {C R c n t:Nat} {P:Program} {S:Nat->Prop} {a:Option Addr} {cells:List Int} {m:Mat} {s:SS} {w:World}
theorem Zcc {ops:Array Oper} {rest:List Oper} {o:Oper} {A:Act} {Q:Exit->Act->World->Prop} {x y:Operand} {t:TypeId} {m n v:Int} (hgd:o.guard=none)
  (ho:o.op= .call {callee:= .builtin .min,args:= #[x,y],argTypes:= #[t,t]}) (hx:A.eval x=Yv Yi m) (hy:A.eval y=Yv Yi n) (hv:(if n<m then n else m)=v)
  (h:wpList P ops Q rest (A.put o.dst (Yv Yi v)) w):wpList P ops Q (o::rest) A w:=by
 refine wpList_plain hgd fun K hK=> ?_;subst hv;unfold Oper.wp execOp;simp only[ho,resolve,invoke,builtin,Sem.run_bind,Sem.run_pure,Result.andThen_ok,List.map_toArray,List.map_cons,List.map_nil,hx,hy,run_min_int2];exact hK _ _ h
def ZkX (v:Value):Nat:=match v with
 | .bool true=>0
 |_=>1
theorem Zkn (h:t<R) (h2:t<C):ZcQ C R (min R C-t) t s=if (Z4 s.1 C R t).1<0 then some s else (sA C R t s).bind fun s'=>ZcQ C R (min R C-(t+1)) (t+1) (Zec C R t s'):=by
 rw[show min R C-t=(min R C-(t+1))+1 by omega];rfl
theorem ZnU (h: ¬ (t<R/\t<C)):ZcQ C R (min R C-t) t s=some s:=by
 rw[show min R C-t=0 by omega];rfl
theorem ZuP (a u v:Option Addr) (ca cu cv R C i p:Nat) (s:SS) (w:World) (h:Thr w a u v (R*C) (R*R) (C*C) ca cu cv s) (hs:Ss C R s) (hi:i<R) (hp:p<R) (hip:i≠p) (hR:R<=24) (hC:C<=24):
  Calls JG 201 #[.agg #[Yv Yi R,Yv Yi C, .slice a (R*C) ca], .agg #[Yv Yi R,Yv Yi R, .slice u (R*R) cu], .agg #[Yv Yi 0,Yv Yi i,Yv Yi p,Yv Yi 0]] w fun e w'=>e= .returned (.tuple #[])/\Thr w' a u v (R*C) (R*R) (C*C) ca cu cv (ZbZ C R i p s)/\Keep (Off a u v) w w':=by
 refine (ZiE a u ca cu R C i p (s.1,s.2.1) w h.two ⟨hs.la,hs.lu,hs.na,hs.nu⟩ hi hp hip hR hC).mono ?_;exact G6
theorem ZtM (a u v:Option Addr) (ca cu cv R C i:Nat) (s:SS) (w:World) (h:Thr w a u v (R*C) (R*R) (C*C) ca cu cv s) (hs:Ss C R s) (hi:i<R) (hR:R<=24) (hC:C<=24):
  Calls JG 201 #[.agg #[Yv Yi R,Yv Yi C, .slice a (R*C) ca], .agg #[Yv Yi R,Yv Yi R, .slice u (R*R) cu], .agg #[Yv Yi 1,Yv Yi i,Yv Yi i,Yv Yi 0]] w fun e w'=>e= .returned (.tuple #[])/\Thr w' a u v (R*C) (R*R) (C*C) ca cu cv (Zgy C R i s)/\Keep (Off a u v) w w':=by
 refine (Zof a u ca cu R C i (s.1,s.2.1) w h.two ⟨hs.la,hs.lu,hs.na,hs.nu⟩ hi hR hC).mono ?_;exact G6
theorem Znf {m:List Int} (ht:t<=R) (htC:t<=C) (h:0<=(Z4 m C R t).1): ∃ r c:Nat,(Z4 m C R t).1=(r:Int)/\(Z4 m C R t).2=(c:Int)/\t<=r/\r<R/\t<=c/\c<C/\cell m C r c≠0/\lsR m C R t=r/\lsC m C R t=c:=by
 rcases ZiI m (C:=C) (R:=R) (t:=t) ht htC with ⟨b,_⟩|⟨r,c,a,d,e,f,g,i,_,_⟩
 ·rw[b] at h;simp at h
 ·exact ⟨r,c,by rw[a],by rw[a],d,e,f,g,i,by unfold lsR;rw[a];simp,by unfold lsC;rw[a];simp⟩
theorem Zq9 (aa au av:Option Addr) (ca cu cv R C:Nat) (s0:SS) (w:World) (hT0:Thr w aa au av (R*C) (R*R) (C*C) ca cu cv s0) (hs0:Ss C R s0) (hR:R<=24) (hC:C<=24):
  Calls JG 146 #[.agg #[Yv Yi R,Yv Yi C, .slice aa (R*C) ca], .agg #[Yv Yi R,Yv Yi R, .slice au (R*R) cu], .agg #[Yv Yi C,Yv Yi C, .slice av (C*C) cv]] w fun e w'=> ∃ b s',e= .returned (.bool b)/\Thr w' aa au av (R*C) (R*R) (C*C) ca cu cv s'/\Keep (Off aa au av) w w'/\(b=true->ZcQ C R (min R C) 0 s0=some s')/\(b=false->ZcQ C R (min R C) 0 s0=none):=by
 obtain ⟨w2,br,hG2,bA,bU,bV, -⟩:=al3 w #[Yv Yi (R:Int),Yv Yi (C:Int), .slice aa (R*C) ca] 37 #[Yv Yi (R:Int),Yv Yi (R:Int), .slice au (R*R) cu] 37 #[Yv Yi (C:Int),Yv Yi (C:Int), .slice av (C*C) cv] 37;have cn:=hid br;clear br;have bs:=hT0.grow hG2;have oA:Off aa au av w.heap.size:=⟨fun e=>AR,fun e=>AQ,fun e=>BR⟩;have oU:Off aa au av (w.heap.size+1):=⟨fun e=>AR,fun e=>AQ,fun e=>BR⟩;have oV:Off aa au av (w.heap.size+1+1):=⟨fun e=>AR,fun e=>AQ,fun e=>BR⟩;have c3:R*C<=24*24:=JL hR hC;have c4:R*R<=24*24:=JL hR hR;have c5:C*C<=24*24:=JL hC hC;obtain ⟨ag,ah⟩:=eX (ZcQ C R (min R C) 0 s0);rw[←ah];clear hT0;obtain ⟨M,hM⟩:=eX (min R C);have HM:=hid hM;have a4:(if (C:Int)<(R:Int) then (C:Int) else (R:Int))=(M:Int):=CK
 clear hM;go_enter Tryz.func146,Tryz.ntmps146;go_wp2;rw[←cn.out];go_loopw [7] (fun tv wr=>Keep (Off aa au av) w2 wr/\ ∃ (t:Nat) (s:SS),t<=24/\tv=Yv Yi t/\Thr wr aa au av (R*C) (R*R) (C*C) ca cu cv s/\Ss C R s/\ZcQ C R (min R C-t) t s=ag) (fun tv _=>24-(intOf tv).toNat);case atStart=>exact ⟨Keep.refl _ _,0,s0,I,rfl,bs,hs0,ah.symm⟩
 case round=>
  clear bs hs0 ah;obtain ⟨hK,t,s,c2,rfl,hT,F,hh⟩:=hrel;have Hh:=hid hh;clear hh;have z:=bA.keep hK oA;obtain ⟨⟨T,V,W⟩, -⟩:=z.three;have a:=z.lt;by_cases bg:t<R/\t<C
  ·obtain ⟨ht,x⟩:=bg;have co:t<M:=EE;go_wp2_with (refine Zcc (o:=⟨some 16,_,_,_,_,_⟩) rfl rfl rfl rfl a4 ?_);clear T V W a z;go_loopw [8] (fun dv wr=>Keep (Off aa au av) w2 wr/\ ∃ (b:Bool) (s:SS),dv= .bool b/\Thr wr aa au av (R*C) (R*R) (C*C) ca cu cv s/\Ss C R s/\((b=false/\ZcQ C R (min R C-t) t s=ag)\/(b=true/\ZcQ C R (min R C-(t+1)) (t+1) (Zec C R t s)=ag))) (fun dv wr=>ZkX dv*(mu3 (rdL wr aa (R*C)) C R t+1));case atStart=>exact ⟨hK,false,s,rfl,hT,F, .inl ⟨rfl,Hh.out⟩⟩
   case round=>
    clear hK hT F Hh;obtain ⟨hK,b,s,rfl,hT,F,cp⟩:=hrel;have z:=bA.keep hK oA;obtain ⟨⟨T,V,W⟩, -⟩:=z.three;have a:=z.lt;have bh:=hT.oa.rdI (S:=fun _=>True) (fun _ _=>trivial) (Zp F.na);have cq:=hid (ZeV hT.oa);rcases cp with ⟨rfl,hh⟩|⟨rfl,hh⟩
    ·rw[Zkn ht x] at hh;go_wp2_with fail;refine (Zq7 aa _ ca C R t s.1 _ bh F.la F.na I I hR hC).mono ?_;rintro e w3 ⟨rfl,ai⟩;have k:=hK.trans ai.any;have A:=hT.grow ai;clear T V W a bh z;by_cases ax:(Z4 s.1 C R t).1<0
     ·rw[if_pos ax] at hh;have Hh:=hid hh;clear hh;have q1:decide ((Z4 s.1 C R t).1<0)=true:=decide_eq_true ax;go_wp2;go_ret;exact ⟨true,s,rfl,A,hG2.any.trans k,(fun _=>Hh.out.symm),fun h=>Ω⟩
     ·rw[if_neg ax] at hh;have Hh:=hid hh;clear hh;obtain ⟨r,c,bt,bv,c6,bw,c7,bi,bj,bx,bz⟩:=Znf (m:=s.1) (C:=C) (R:=R) (t:=t) I I I;have a5:rnd C R t s=ZgZ C R t (ZbR C R t r c s):=(by unfold rnd;rw[bx,bz]);have G:=fun s' b' (h0:rnd C R t s=some (s',b'))=>Zgf ht x F I h0;have H:=fun s' (h0:rnd C R t s=some (s',true))=>ZpQ h0;have J:=fun s' (h0:rnd C R t s=some (s',false))=>Zpl ht x F I h0;have L:=fun (h0:rnd C R t s=none)=>ZpD h0;rw[a5] at G H J L;have b3:=ZhN F bw bi ht x;have cr:=ZnF (t:=t) (r:=r) (c:=c) F;rw[←b3] at bj;rw[bt,bv];have aj:=hid G;have ak:=hid H;have al:=hid J;have am:=hid L;have b4:=hid bj;have q0:decide ((r:Int)<0)=false:=decide_eq_false I;clear G H J L a5 bx bz bt bv ax b3 bj cr hT hK;by_cases ab:r=t
      case' pos=>have q1:((r:Int)!=(t:Int))=false:=(by simp[ab]);have y:=hid (show s=if r=t then s else ZbZ C R r t s by rw[if_pos ab]);have d:=A;have B:=k;have l:=F;obtain ⟨w5,b5⟩:=eX w3;rw[←b5] at d B ⊢;clear b5;obtain ⟨s5,n⟩:=eX s;rw[show s=s5 from n.symm] at d l;replace y:=hid (show s5=if r=t then s else ZbZ C R r t s by rw[n];exact y.out);clear n A k ab
      case' neg=>have q1:((r:Int)!=(t:Int))=true:=Ψ;have ad:=bA.keep k oA;have ae:=bU.keep k oU;obtain ⟨⟨T,V,W⟩, -⟩:=ad.three;obtain ⟨⟨b0,b1,b2⟩, -⟩:=ae.three;have a:=ad.lt;have j:=ae.lt;go_wp2_with fail;refine (ZuP aa au av ca cu cv R C r t s _ A F bw ht ab hR hC).mono ?_;rintro e w5 ⟨rfl,d,X⟩;have B:=k.trans X;have l:=Ze8 (p:=r) (t:=t) F;have y:=hid (show ZbZ C R r t s=if r=t then s else ZbZ C R r t s by rw[if_neg ab]);clear T V W b0 b1 b2 a j A k ad ae X ab;generalize n:ZbZ C R r t s=s5 at d l;replace y:=hid (show s5=if r=t then s else ZbZ C R r t s by rw[←n];exact y.out);clear n
      all_goals
       by_cases N:c=t
       case' pos=>have q2:((c:Int)!=(t:Int))=false:=(by simp[N]);have ay:=d;have af:=B;have bk:=l;have D:=hid (show ZbR C R t r c s=s5 by rw[y.out];unfold ZbR;rw[if_pos N]);clear d B l;obtain ⟨w6,b6⟩:=eX w5;rw[←b6] at ay af ⊢;clear b6;obtain ⟨s6,a6⟩:=eX s5;rw[←a6] at ay bk D;clear a6 y N
       case' neg=>have q2:((c:Int)!=(t:Int))=true:=Ψ;have D:=hid (show ZbR C R t r c s=Zgr C R c t s5 by rw[y.out];unfold ZbR;rw[if_neg N]);have b7:=bA.keep B oA;obtain ⟨⟨T,V,W⟩, -⟩:=b7.three;have a:=b7.lt;go_wp2_with fail;refine (ZiX aa _ ca C R c t 0 s5.1 _ d.oa l.la bi x N hR hC).mono ?_;rintro e w7 ⟨rfl,b8,bl⟩;have a7:Keep (Off aa au av) w5 w7:=bl.mono fun q _ hq=>hq.1;have b9:=(bV.keep B oV).keep a7 oV;have cb:=d.ou.keep bl (fun g hg _ e=>d.nau g e hg);have cc:=d.ov.keep bl (fun g hg _ e=>d.nav g e hg);clear T V W a;obtain ⟨⟨v0,v1,v2⟩, -⟩:=b9.three;have v:=b9.lt;go_wp2_with fail;refine (ZiX av _ cv C C c t 0 s5.2.2 _ cc l.lv bi x N hC hC).mono ?_;rintro e w6 ⟨rfl,cd,an⟩;have ay:Thr w6 aa au av (R*C) (R*R) (C*C) ca cu cv (Zgr C R c t s5):=⟨b8.keep an (fun g hg _ e=>d.nav g hg e),cb.keep an (fun g hg _ e=>d.nuv g hg e),cd,d.nau,d.nav,d.nuv⟩;have af:Keep (Off aa au av) w2 w6:=(B.trans a7).trans (an.mono fun q _ hq=>hq.2.2);have bk:=Zhq (i:=c) (p:=t) l;clear v0 v1 v2 v d B cb cc b8 cd;generalize Zgr C R c t s5=s6 at *;clear l y N
       all_goals
        have ce:cell s6.1 C t t≠0:=(by have:=b4.out;rwa [D.out] at this);have a8: ∀ s' b',ZgZ C R t s6=some (s',b')->Ss C R s'/\(b'=false->0<=(Z4 s'.1 C R t).1/\mu3 s'.1 C R t<mu3 s.1 C R t):=(by have:=aj.out;rwa [D.out] at this);have a9: ∀ s',ZgZ C R t s6=some (s',true)->sA C R t s=some s':=(by have:=ak.out;rwa [D.out] at this);have ba: ∀ s',ZgZ C R t s6=some (s',false)->sA C R t s=sA C R t s':=(by have:=al.out;rwa [D.out] at this);have bb:ZgZ C R t s6=none->sA C R t s=none:=(by have:=am.out;rwa [D.out] at this);have ao:=hid a8;have ap:=hid a9;have aq:=hid ba;have ar:=hid bb;clear a8 a9 ba bb aj ak al am b4 D;have bm:=bA.keep af oA;have bn:=bU.keep af oU;have bo:=bV.keep af oV;obtain ⟨⟨T,V,W⟩, -⟩:=bm.three;obtain ⟨⟨b0,b1,b2⟩, -⟩:=bn.three;obtain ⟨⟨v0,v1,v2⟩, -⟩:=bo.three;have a:=bm.lt;have j:=bn.lt;have v:=bo.lt;go_wp2_with fail;refine (ZqM aa au av ca cu cv R C t s6 _ ay bk ht x ce hR hC).mono ?_;rintro e w8 ⟨b',s',rfl,O,bp,cf,hF⟩;have P:=af.trans cf;clear T V W b0 b1 b2 v0 v1 v2 a j v bm bn bo;have cg:=bA.keep P oA;have ch:=bU.keep P oU;have az:=bV.keep P oV;have cs:=O.oa.rdI (S:=fun _=>True) (fun _ _=>trivial) (Zb4 bp.na);have ci:=O.ou.rdI (S:=fun _=>True) (fun _ _=>trivial) (Zb4 bp.nu);have cj:=O.ov.rdI (S:=fun _=>True) (fun _ _=>trivial) (Zb4 bp.nv);obtain ⟨⟨T,V,W⟩, -⟩:=cg.three;have a:=cg.lt;go_wp2_with fail;refine (ZT aa _ ca s'.1 _ cs I).mono ?_;rintro e w9 ⟨rfl,ct⟩;have E:=ct.grow;clear T V W a;obtain ⟨⟨b0,b1,b2⟩, -⟩:=(ch.grow E).three;have j:=(ch.grow E).lt;rcases hF with hF|⟨hF,cw⟩
        ·obtain ⟨a3,bc⟩:=ao.out s' b' hF;have cx:=hid (fun h:b'=true=>ap.out s' (by rw[hF,h]));have cy:=hid (fun h:b'=false=>aq.out s' (by rw[hF,h]));have bd:=hid bc;rw[Zac a3.na];clear hF bc ao ap aq ar;go_wp2_with fail;refine (ZT au _ cu s'.2.1 _ (ci.grow E) I).mono ?_;rintro e cz ⟨rfl,aw⟩;rw[Zac a3.nu];have f:=E.trans aw.grow;clear b0 b1 b2 j;obtain ⟨⟨v0,v1,v2⟩, -⟩:=(az.grow f).three;have v:=(az.grow f).lt;go_wp2_with fail;refine (ZT av _ cv s'.2.2 _ (cj.grow f) I).mono ?_;rintro e ck ⟨rfl,Y⟩;rw[Zac a3.nv];have be:=f.trans Y.grow;clear v0 v1 v2 v;have bf:=O.grow be;have bq:=hid (ZeV bf.oa);go_wp2;go_roundw;case rel=>
          refine ⟨P.trans be.any,b',s',rfl,bf,a3, ?_⟩;cases b' with
          |true=>exact .inr ⟨rfl,by rw[←Hh.out,cx.out rfl];rfl⟩
          |false=>exact .inl ⟨rfl,by rw[Zkn ht x,if_neg (by have:=(bd.out rfl).1;omega), ←cy.out rfl];exact Hh.out⟩
         case measure=>
          show ZkX (.bool b')*(mu3 (rdL ck aa (R*C)) C R t+1)<ZkX (.bool false)*(mu3 (rdL wr aa (R*C)) C R t+1);rw[bq.out,cq.out];cases b' with
          |true=>simp[ZkX]
          |false=>have:=(bd.out rfl).2;simp only[ZkX,Nat.one_mul];omega
        ·have HN:=hid (show ag=none by rw[←Hh.out,ar.out hF];rfl);clear ao ap aq ar hF;cases cl:Zb1 s'.1 with
         |true=>have hTo:=O.grow E;have hKo:=P.trans E.any;go_wp2;exact Js
         |false=>
          have c0:ZS∈s'.2.1\/ZS∈s'.2.2:=cw.resolve_left fun h=>(by rw[ZaS.2 h] at cl;cases cl);go_wp2_with fail;refine (ZT au _ cu s'.2.1 _ (ci.grow E) I).mono ?_;rintro e cz ⟨rfl,aw⟩;have f:=E.trans aw.grow;clear b0 b1 b2 j;obtain ⟨⟨v0,v1,v2⟩, -⟩:=(az.grow f).three;have v:=(az.grow f).lt;cases cm:Zb1 s'.2.1 with
          |true=>have hTo:=O.grow f;have hKo:=P.trans f.any;go_wp2;exact Js
          |false=>have c1:Zb1 s'.2.2=true:=ZaS.2 (c0.resolve_left fun h=>by rw[ZaS.2 h] at cm;cases cm);go_wp2_with fail;refine (ZT av _ cv s'.2.2 _ (cj.grow f) I).mono ?_;rintro e ck ⟨rfl,Y⟩;rw[c1];have hTo:=O.grow (f.trans Y.grow);have hKo:=P.trans (f.trans Y.grow).any;go_wp2;go_ret;exact ⟨false,s',rfl,hTo,(hG2.any.trans hKo),(fun h=>Ω),fun _=>HN.out⟩
    ·have Hh:=hid hh;clear hh;go_wp2_with fail;refine (ZO aa _ ca C t t (R:Int) s.1 _ bh (Zf x ht) I I I).mono ?_;rintro e w3 ⟨rfl,ai⟩;have k:=hK.trans ai.any;have A:=hT.grow ai;clear T V W a z;by_cases Z:cell s.1 C t t<0
     ·have Hn:=hid (show Zec C R t s=Zgy C R t s by unfold Zec;rw[if_pos Z]);have ad:=bA.keep k oA;have ae:=bU.keep k oU;obtain ⟨⟨T,V,W⟩, -⟩:=ad.three;obtain ⟨⟨b0,b1,b2⟩, -⟩:=ae.three;have a:=ad.lt;have j:=ae.lt;have q1:decide (cell s.1 C t t<0)=true:=decide_eq_true Z;go_wp2_with fail;refine (ZtM aa au av ca cu cv R C t s _ A F ht hR hC).mono ?_;rintro e w5 ⟨rfl,d,X⟩;have l:=Zj4 (t:=t) F;clear T V W b0 b1 b2 a j;go_wp2;go_roundw;case rel=>exact ⟨k.trans X,t+1,_,I,Δ,d,l,by rw[←Hn.out];exact Hh.out⟩
      case measure=>exact FN
     ·have Hn:=hid (show Zec C R t s=s by unfold Zec;rw[if_neg Z]);have q1:decide (cell s.1 C t t<0)=false:=decide_eq_false Z;go_wp2;go_roundw;case rel=>exact ⟨k,t+1,s,I,Δ,A,F,by rw[←Hh.out,Hn.out]⟩
      case measure=>exact FN
  ·have co: ¬ t<M:=EE;have He:=hid (show some s=ag by rw[←Hh.out,ZnU bg]);clear bg;go_wp2_with (refine Zcc (o:=⟨some 16,_,_,_,_,_⟩) rfl rfl rfl rfl a4 ?_);go_ret;exact ⟨true,s,rfl,hT,hG2.any.trans hK,(fun _=>He.out.symm),fun h=>Ω⟩
theorem ZbT {fn:Func} {R:Ending->World->Prop} {a:Act} {ty:TypeId} {cs ds es:Array Value} {p q r u:Tmp} {g g' g'':Nat} {t:TypeId} (hT:StT P ty cs.size) (hT':StT P ty ds.size) (hT'':StT P ty es.size) (h:fn.results= #[.cell p ty, .cell q ty, .cell r ty, .tmp u]) (hd:a.defers=[]) (hp:a.tmps.getD p undef= .pointer (some ⟨g,0,none⟩)) (hq:a.tmps.getD q undef= .pointer (some ⟨g',0,none⟩)) (hr:a.tmps.getD r undef= .pointer (some ⟨g'',0,none⟩))
  (hb:Blk w g cs t) (hb':Blk w g' ds t) (hb'':Blk w g'' es t) (hR:R (.returned (.tuple #[.agg cs, .agg ds, .agg es,a.tmps.getD u undef])) w):bodyPost P fn R .ret a w:=by
 have hp':a.tmps[p]?.getD undef= .pointer (some ⟨g,0,none⟩):=Et
 have hq':a.tmps[q]?.getD undef= .pointer (some ⟨g',0,none⟩):=by simpa using hq
 have hr':a.tmps[r]?.getD undef= .pointer (some ⟨g'',0,none⟩):=by simpa using hr
 refine bodyPost_ret (v:= .tuple #[.agg cs, .agg ds, .agg es,a.tmps.getD u undef]) ?_ hd hR;exact J4
abbrev zM:Value:= .agg #[Yv Yi 0,Yv Yi 0, .slice none 0 0]
theorem Zru {mr mc:Int} (hVM:VM w S (.agg #[Yv Yi mr,Yv Yi mc, .slice a n c]) m) (hb:bdM m<=1048576) (hB:Zd m=false):
  Calls JG 91 #[.agg #[Yv Yi mr,Yv Yi mc, .slice a n c]] w fun e w'=>e= .returned (.tuple #[zM,zM,zM, .bool false])/\Grow w w':=by
 obtain ⟨f,b,hG,g,bR1,bR2,bR3, -⟩:=al4 w #[Yv Yi mr,Yv Yi mc, .slice a n c] 37 #[Yv Yi 0,Yv Yi 0, .slice none 0 0] 37 #[Yv Yi 0,Yv Yi 0, .slice none 0 0] 37 #[Yv Yi 0,Yv Yi 0, .slice none 0 0] 37;have d:=hid b;clear b;have HB:=hid hB;clear hB;go_enter Q0,Q1;go_wp2_with fail;rw[←d.out];refine (ZL (hVM.grow hG) I).mono ?_;exact FX
theorem Zqp (h:RdI w S a n c cells) (hl:cells.length=R*C) (hnum:NumL cells) (hR:R<=24) (hC:C<=24):
  Calls JG 91 #[.agg #[Yv Yi R,Yv Yi C, .slice a n c]] w fun e w'=>Grow w w'/\((Zcz cells R C=none/\e= .returned (.tuple #[zM,zM,zM, .bool false]))\/
   ∃ s aa ca ub un uc vb vn vc,Zcz cells R C=some s/\e= .returned (.tuple #[.agg #[Yv Yi R,Yv Yi C, .slice aa (R*C) ca], .agg #[Yv Yi R,Yv Yi R, .slice ub un uc], .agg #[Yv Yi C,Yv Yi C, .slice vb vn vc], .bool true])/\RdI w' (fun q=>w.heap.size<=q) aa (R*C) ca s.1):=by
 have bq:R*C<=24*24:=JL hR hC;have br:R*R<=24*24:=JL hR hR;have bs:C*C<=24*24:=JL hC hC;have hB:=Zay hR hC hl hnum;obtain ⟨mr,af⟩: ∃ mr:Int,mr=R:=⟨_,rfl⟩;obtain ⟨mc,ag⟩: ∃ mc:Int,mc=C:=⟨_,rfl⟩;have L:VM w S (.agg #[Yv Yi R,Yv Yi C, .slice a n c]) {rows:=(R:Int),cols:=(C:Int),cells:=cells}:=⟨a,n,c,rfl,h,δ,η⟩;rw[←af, ←ag] at L hB ⊢;obtain ⟨w3,ah,hG,bM,bR1,bR2,bR3, -⟩:=al4 w #[Yv Yi mr,Yv Yi mc, .slice a n c] 37 #[Yv Yi 0,Yv Yi 0, .slice none 0 0] 37 #[Yv Yi 0,Yv Yi 0, .slice none 0 0] 37 #[Yv Yi 0,Yv Yi 0, .slice none 0 0] 37;have ar:=hid ah;clear ah;subst af;subst ag;have HB:=hid hB;clear hB;go_enter Q0,Q1;go_wp2_with fail;rw[←ar.out];refine (ZL (L.grow hG) Ar).mono ?_;rintro e w4 ⟨rfl,D⟩;rw[HB.out];have M:=bM.grow D;obtain ⟨⟨a0,a1,a2⟩, -⟩:=M.three;go_wp2_with fail;refine (Zic ((L.grow hG).grow D) Ar).mono ?_;rintro e v ⟨va,rfl,hA,N⟩;obtain ⟨aa,na,ca,rfl,oA,rA,fA,aw,ax⟩:=hA;replace oA:Own v 3 1 aa na ca (ints cells):=oA;have ay:na=R*C:=BG
 subst ay;clear aw ax a0 a1 a2;have bX:=Blk.new v #[Yv Yi (R:Int),Yv Yi (C:Int), .slice aa (R*C) ca] 37;have O:=(Grow.refl v).alloc #[Yv Yi (R:Int),Yv Yi (C:Int), .slice aa (R*C) ca] 37;have m:=(D.trans N).trans O;have oA5:=oA.grow O;have E:=bM.grow m;obtain ⟨⟨a0,a1,a2⟩, -⟩:=E.three;have bm:w.heap.size<v.heap.size:=(M.grow N).lt;have bt:w.heap.size+1+1+1<w4.heap.size:=(bR3.grow D).lt;have bn:=N.size;have fA': ∀ q,blk aa=some q->w.heap.size+1+1+1<q:=fun q hq=>Fs
 have az:blk aa≠some v.heap.size:=fun e=>by have:=oA.lt e;omega
 clear oA M bM fA;go_wp2_with fail;refine (Zfh R _ hR).mono ?_;rintro e x ⟨o,rfl,oU,fU,f⟩;have P:=oA5.grow f;have T:=bX.grow f;have hs6:=f.size;have bo:v.heap.size<x.heap.size:=D4
 have fU': ∀ q,blk o=some q->v.heap.size<q:=fun q hq=>B6
 have g:=(Grow.refl x).alloc #[Yv Yi (R:Int),Yv Yi (R:Int), .slice o (R*R) (R*R)] 37;have bU:=Blk.new x #[Yv Yi (R:Int),Yv Yi (R:Int), .slice o (R*R) (R*R)] 37;have a3: ∀ q,blk aa=some q->blk o≠some q:=fun q hq e=>DJ
 have a4:blk o≠some v.heap.size:=fun e=>BN
 have a5:blk aa≠some x.heap.size:=fun e=>by have:=P.lt e;omega
 have a6:blk o≠some x.heap.size:=fun e=>by have:=oU.lt e;omega
 have ai:=(E.grow f).grow g;clear a0 a1 a2;obtain ⟨⟨a0,a1,a2⟩, -⟩:=ai.three;have V:=(E.grow f).lt;have F:=P.grow g;have G:=oU.grow g;go_wp2_with fail;refine (Zfh C _ hC).mono ?_;rintro e B ⟨p,rfl,oV,fV,d⟩;have a7:=d.size;have bp:x.heap.size<B.heap.size:=by simp at a7;omega
 have W: ∀ q,blk p=some q->x.heap.size<q:=fun q hq=>by have:=fV q hq;simp at this;omega
 have i:=(Grow.refl B).alloc #[Yv Yi (C:Int),Yv Yi (C:Int), .slice p (C*C) (C*C)] 37;have bV:=Blk.new B #[Yv Yi (C:Int),Yv Yi (C:Int), .slice p (C*C) (C*C)] 37;have aj: ∀ q,blk aa=some q->blk p≠some q:=fun q hq e=>by have:=F.lt hq;have:=fV q e;omega
 have ak: ∀ q,blk o=some q->blk p≠some q:=fun q hq e=>by have:=G.lt hq;have:=fV q e;omega
 have J:Thr (B.alloc (.cells #[Yv Yi (C:Int),Yv Yi (C:Int), .slice p (C*C) (C*C)] 37)) aa o p (R*C) (R*R) (C*C) ca (R*R) (C*C) (cells,idL R,idL C):=⟨(F.grow d).grow i,(G.grow d).grow i,oV.grow i,a3,aj,ak⟩;have al:Ss C R (cells,idL R,idL C):=⟨hl,Zbl R,Zbl C,hnum,Zbi R,Zbi C⟩;have X:=((T.grow g).grow d).grow i;have Y:=(bU.grow d).grow i;clear a0 a1 a2;obtain ⟨⟨a0,a1,a2⟩, -⟩:=X.three;obtain ⟨⟨b0,b1,b2⟩, -⟩:=Y.three;obtain ⟨⟨v0,v1,v2⟩, -⟩:=bV.three;have a8:blk p≠some v.heap.size:=fun e=>by have:=W _ e;omega
 have a9:blk p≠some x.heap.size:=fun e=>by have:=W _ e;omega
 have ba:blk aa≠some B.heap.size:=fun e=>by have:=(F.grow d).lt e;omega
 have bb:blk o≠some B.heap.size:=fun e=>by have:=(G.grow d).lt e;omega
 have bc:blk p≠some B.heap.size:=fun e=>by have:=oV.lt e;omega
 have Z:=((T.grow g).grow d).lt;have ab:=(bU.grow d).lt;clear oA5 P oU fU O bX T oV fV F G E ai V;go_wp2_with fail;refine (Zq9 aa o p ca (R*R) (C*C) R C (cells,idL R,idL C) _ J al hR hC).mono ?_;rintro e w9 ⟨b,s',rfl,bd,j,y,ad⟩;have am:=(((((hG.trans m).trans f).trans g).trans d).trans i);have r: ∀ q,q<=w.heap.size+1+1+1->Off aa o p q:=fun q hq=>⟨fun e=>by have:=fA' q e;omega,fun e=>by have:=fU' q e;omega,fun e=>by have:=W q e;omega⟩;have an:Grow w w9:=am.keep j (fun q hq=>r q I);have H:=(((m.trans f).trans g).trans d).trans i;replace bR1:=(bR1.grow H).keep j (r _ I);replace bR2:=(bR2.grow H).keep j (r _ I);replace bR3:=(bR3.grow H).keep j (r _ I);have bv:=X.keep j ⟨az,a4,a8⟩;have bw:=Y.keep j ⟨a5,a6,a9⟩;have bx:=bV.keep j ⟨ba,bb,bc⟩;clear hG J al g bU m f j am a0 a1 a2 b0 b1 b2 v0 v1 v2 X Y bV H Z ab d i;cases b with
 |false=>
  have Hn:=hid (ad rfl);clear ad y;have hG:=an;have h1:w.heap.size<=w.heap.size+1:=I
  have h2:w.heap.size<=w.heap.size+1+1:=I
  have h3:w.heap.size<=w.heap.size+1+1+1:=I
  have n12:w.heap.size+1≠w.heap.size+1+1:=I
  have n13:w.heap.size+1≠w.heap.size+1+1+1:=I
  have n23:w.heap.size+1+1≠w.heap.size+1+1+1:=I
  exact Gc
 |true=>
  have Hy:=hid (y rfl);clear y ad;have n5:v.heap.size≠w.heap.size+1/\v.heap.size≠w.heap.size+1+1/\v.heap.size≠w.heap.size+1+1+1:=⟨I,I,I⟩;have n6:x.heap.size≠w.heap.size+1/\x.heap.size≠w.heap.size+1+1/\x.heap.size≠w.heap.size+1+1+1:=⟨I,I,I⟩;have n7:B.heap.size≠w.heap.size+1/\B.heap.size≠w.heap.size+1+1/\B.heap.size≠w.heap.size+1+1+1:=⟨I,I,I⟩;have n12:w.heap.size+1≠w.heap.size+1+1:=I
  have n13:w.heap.size+1≠w.heap.size+1+1+1:=I
  have n23:w.heap.size+1+1≠w.heap.size+1+1+1:=I
  go_wp2;refine Zcr (fun q=>q≠w.heap.size+1/\q≠w.heap.size+1+1/\q≠w.heap.size+1+1+1) [([0,1,2],some 3),([],some 4),([],some 5),([6],none)] ?_;refine Zh ?_;obtain ⟨wa,hwa⟩:=eX w9.drew;rw[←hwa];have k:Grow w9 wa:=Bz
  clear hwa;have rA:=bR1.grow k;have rB:=bR2.grow k;have rC:=bR3.grow k;refine Zu rfl (fun K hK=> ?_);obtain ⟨⟨a0,a1,a2⟩,f0,f1,f2⟩:=rA.three;go_wp2_with fail;have l:Keep (fun q=>q≠w.heap.size+1) wa (((wa.setCell ⟨w.heap.size+1,0,none⟩ (Yv Yi (R:Int))).setCell ⟨w.heap.size+1,1,none⟩ (Yv Yi (C:Int))).setCell ⟨w.heap.size+1,2,none⟩ (.slice aa (R*C) ca)):=
   kS
  have ao:=((rA.set 0 (Yv Yi (R:Int))).set 1 (Yv Yi (C:Int))).set 2 (.slice aa (R*C) ca);have ae:=rB.keep l n12.symm;have ap:=rC.keep l n13.symm;refine hK _ _ (((k.mono fun _ _ _=>trivial).trans (l.mono fun q _ z=>z.1))) ?_;clear hK K;generalize (((wa.setCell ⟨w.heap.size+1,0,none⟩ (Yv Yi (R:Int))).setCell ⟨w.heap.size+1,1,none⟩ (Yv Yi (C:Int))).setCell ⟨w.heap.size+1,2,none⟩ (.slice aa (R*C) ca))=wb at *;clear a0 a1 a2 f0 f1 f2 rA rB rC;refine Zh ?_;refine Zu rfl (fun K hK=> ?_);obtain ⟨⟨b0,b1,b2⟩,g0,g1,g2⟩:=ae.three;go_wp2_with fail;have t:Keep (fun q=>q≠w.heap.size+1+1) wb (((wb.setCell ⟨w.heap.size+1+1,0,none⟩ (Yv Yi (R:Int))).setCell ⟨w.heap.size+1+1,1,none⟩ (Yv Yi (R:Int))).setCell ⟨w.heap.size+1+1,2,none⟩ (.slice o (R*R) (R*R))):=
   kS
  have be:=((ae.set 0 (Yv Yi (R:Int))).set 1 (Yv Yi (R:Int))).set 2 (.slice o (R*R) (R*R));have bf:=ao.keep t n12;have aq:=ap.keep t n23.symm;refine hK _ _ ((((k.mono fun _ _ _=>trivial).trans (l.mono fun q _ z=>z.1)).trans (t.mono fun q _ z=>z.2.1))) ?_;clear hK K;generalize (((wb.setCell ⟨w.heap.size+1+1,0,none⟩ (Yv Yi (R:Int))).setCell ⟨w.heap.size+1+1,1,none⟩ (Yv Yi (R:Int))).setCell ⟨w.heap.size+1+1,2,none⟩ (.slice o (R*R) (R*R)))=wc at *;clear b0 b1 b2 g0 g1 g2 ao ae ap;refine Zh ?_;refine Zu rfl (fun K hK=> ?_);obtain ⟨⟨c0,c1,c2⟩,k0,k1,k2⟩:=aq.three;go_wp2_with fail;have A:Keep (fun q=>q≠w.heap.size+1+1+1) wc (((wc.setCell ⟨w.heap.size+1+1+1,0,none⟩ (Yv Yi (C:Int))).setCell ⟨w.heap.size+1+1+1,1,none⟩ (Yv Yi (C:Int))).setCell ⟨w.heap.size+1+1+1,2,none⟩ (.slice p (C*C) (C*C))):=
   kS
  have bg:=((aq.set 0 (Yv Yi (C:Int))).set 1 (Yv Yi (C:Int))).set 2 (.slice p (C*C) (C*C));have bh:=bf.keep A n13;have bi:=be.keep A n23;refine hK _ _ (((((k.mono fun _ _ _=>trivial).trans (l.mono fun q _ z=>z.1)).trans (t.mono fun q _ z=>z.2.1)).trans (A.mono fun q _ z=>z.2.2))) ?_;clear hK K;refine Zh ?_;refine Ze ?_;have bj:=(((an.trans k).keep l (fun q hq=>I)).keep t (fun q hq=>I)).keep A (fun q hq=>I);have bk:=Zhu hl hnum Hy.out;have bl:=(((bd.oa.grow k).keep l (fun q hq _ e=>σ)).keep t (fun q hq _ e=>σ)).keep A (fun q hq _ e=>σ);go_wp2;exact ZbT Zc Zc Zc rfl rfl rfl rfl rfl bh bi bg ⟨bj, .inr ⟨s',aa,ca,_,_,_,_,_,_,Hy.out,rfl,bl.rdI (fun q hq=>σ) (Zp bk.na)⟩⟩
def Zdg (m:List Int) (C n:Nat):List Int:=((List.range n).map fun i=>cell m C i i).filter fun x=>x !=0
theorem Ztn {m:List Int} (h:cell m C n n≠0):Zdg m C (n+1)=Zdg m C n++[cell m C n n]:=by
 exact J3
theorem Zvp {m:List Int} (h:cell m C n n=0):Zdg m C (n+1)=Zdg m C n:=by
 exact J3
theorem Zt0 {m:List Int} (h:NumL m):NumL (Zdg m C n):=fun x a=>by
 have:=(List.mem_filter.1 a).1;obtain ⟨i,_,rfl⟩:=List.mem_map.1 this;exact Zk h C i i
def ZfH (m:Mat):Option (List Int):=if Zd m=true then (Zcz m.cells m.rows.toNat m.cols.toNat).map fun s=>Zdg s.1 m.cols.toNat (min m.rows.toNat m.cols.toNat) else none
def Zf0 (m:Mat):Bool:=(ZfH m).isSome
def ZfO (m:Mat):List Int:=(ZfH m).getD []
theorem ZhP (h:ZfH m=none):Zf0 m=false/\ZfO m=[]:=by unfold Zf0 ZfO;rw[h];exact ⟨rfl,rfl⟩
theorem Zom {x:List Int} (h:ZfH m=some x):Zf0 m=true/\ZfO m=x:=by unfold Zf0 ZfO;rw[h];exact ⟨rfl,rfl⟩
theorem ZpS (h:Zd m=false):ZfH m=none:=by unfold ZfH;rw[h];rfl
theorem ZoH (hB:Zd {rows:=(R:Int),cols:=(C:Int),cells:=cells}=true):ZfH {rows:=(R:Int),cols:=(C:Int),cells:=cells}=(Zcz cells R C).map fun s=>Zdg s.1 C (min R C):=by
 unfold ZfH;rw[hB];rfl
structure FacPk (w:World) (S:Nat->Prop) (m:Mat) (D E:Nat) (aa:Option Addr) (na ca:Nat) (L:List Int) (b:Bool):Prop where
 rd:RdI w S aa na ca L
 len:L.length=D*E
 num:NumL L
 hD:D<=24
 hE:E<=24
 ok:Zf0 m=b
 fac:ZfO m=Zdg L E (min D E)
theorem FacPk.zero (h:ZfH m=none):FacPk w S m 0 0 none 0 0 [] false:=
 ⟨RdI.nilw w,Θ,(fun x hx=>AO),I,I,(ZhP h).1,by rw[(ZhP h).2];rfl⟩

end Go.Proofs.YtgjefeiddfjjnaaGreatDoor
