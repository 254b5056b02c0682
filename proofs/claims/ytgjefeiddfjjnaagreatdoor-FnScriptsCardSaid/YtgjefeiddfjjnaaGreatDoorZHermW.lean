/- The reference's Hermite form: the walk. -/
import Derived.Test.YtgjefeiddfjjnaaGreatDoorZHermF
set_option maxHeartbeats 8000000
set_option maxRecDepth 100000
namespace Go.Proofs.YtgjefeiddfjjnaaGreatDoor
open Go.RowKit
open Lib (hid)
open List renaming getElem?_eq_getElem->JR,getElem?_eq_none->K3,getElem?_map->KG
open Nat renaming mul_le_mul->JL,sub_self->LF,zero_le->JI
variable {C R i j p:Nat} {d:Int} {l:List Int} {res:Option HS} {rest rest':HS->Option HS} {s:HS}
def rdL (w:World) (a:Option Addr) (n:Nat):List Int:=(List.range n).map fun k=>match a with
 |some p=>(match w.cell? ⟨p.block,k,none⟩ with |some (.int _ z)=>z|_=>0)
 |none=>0
theorem ZeV {w:World} {e:TypeId} {a:Option Addr} {n cap:Nat} {xs:List Int} (h:Own w e 1 a n cap (ints xs)):rdL w a n=xs:=by
 have f:xs.length=n:=Ao
 refine List.ext_getElem? fun k=> ?_;unfold rdL;rw[KG];rcases Nat.lt_or_ge k n with b|b
 ·rw[List.getElem?_range b,JR I];cases a with
  |none=>have:=h.nil rfl;have:=h.le;omega
  |some p=>have d:=h.cell (j:=k) (c:= .int .i64 xs[k]) (by rw[KG,JR I];rfl);simp[d]
 ·rw[K3 Ψ,K3 I];rfl
theorem Zac (h:NumL l):Zb1 l=false:=by
 rw[Bool.eq_false_iff];intro e;exact Zaz (h _ (ZaS.1 e)) rfl
def Mid (C R:Nat) (rest:HS->Option HS) (res:Option HS) (d:Int) (p j:Nat) (s:HS):Prop:=(Hs C R s/\rest s=res/\cell s.1 C p j=d)\/(res=none/\Mk s)
theorem Mid.add {q:Int} (hm:Hm C R s) (h:Mid C R rest res d p j s) (hi:i<R) (hj:j<C) (hip:p≠i) (hd:d≠0) (_hdn: -400000000<=d/\d<=400000000) (hq: -400000000<=q/\q<=400000000)
  (he:Zi (cell s.1 C i j)=true->Zi (cell s.1 C p j)=true->cell s.1 C p j≠0->q=cell s.1 C i j/cell s.1 C p j)
  (hr:Hs C R s->rest s=(Zde C R i p (-(cell s.1 C i j/cell s.1 C p j)) s).bind rest'):Mid C R rest' res d p j (Zfr C R i p (-q) s):=by
 rcases h with ⟨a,c,e⟩|⟨c,e⟩
 ·have g:=he (ZB.2 (Zk a.na C i j)) (ZB.2 (Zk a.na C p j)) (by rw[e];exact hd);have b:=hr a;rw[←g] at b;rcases ZoR a hi (t:= -q) (p:=p) I with f|⟨f,k⟩
  ·rw[f] at b;obtain ⟨l,m⟩:=Zha a f;refine .inl ⟨l,by rw[←c,b];rfl, ?_⟩;rw[m];show cell (addR s.1 C i p (-q)) C p j=d;rw[Zbt a.la hi hj,if_neg hip];exact e
  ·rw[f] at b;exact .inr ⟨by rw[←c,b];rfl,k⟩
 ·exact .inr ⟨c,Ztw hm hi e⟩
theorem Zp (h:NumL l): ∀ x∈l,I64 x:=fun x a=>by have:=h x a;unfold I64;omega
theorem Zb4 (h:NumBL l): ∀ x∈l,I64 x:=fun x a=>(h x a).i64
theorem Mid.skip (h:Mid C R rest res d p j s) (hr:rest s=rest' s):Mid C R rest' res d p j s:=by
 rcases h with ⟨a,b,c⟩|h
 ·exact .inl ⟨a,by rw[←hr];exact b,c⟩
 ·exact .inr h
theorem Zpn {t:Nat} (h:i<t) (s:HS):red C R j t (t-i) i s=(Zde C R i t (-(cell s.1 C i j/cell s.1 C t j)) s).bind (red C R j t (t-(i+1)) (i+1)):=by
 rw[show t-i=(t-(i+1))+1 by omega];rfl
theorem Zow (h:i<R) (s:HS):pass C R j p (R-i) i s=if i≠p/\cell s.1 C i j≠0 then (Zde C R i p (-(cell s.1 C i j/cell s.1 C p j)) s).bind (pass C R j p (R-(i+1)) (i+1)) else pass C R j p (R-(i+1)) (i+1) s:=by
 rw[show R-i=(R-(i+1))+1 by omega];rfl
theorem Znh (aa au:Option Addr) (ca cu R C:Nat) (s0:HS) (w:World) (hT0:Two w aa au (R*C) (R*R) ca cu s0) (hs0:Hs C R s0) (hR:R<=24) (hC:C<=24):
  Calls Tryz.prog 145 #[.agg #[.int .i64 R, .int .i64 C, .slice aa (R*C) ca], .agg #[.int .i64 R, .int .i64 R, .slice au (R*R) cu]] w fun e w'=> ∃ b s',e= .returned (.bool b)/\Two w' aa au (R*C) (R*R) ca cu s'/\Keep (fun q=>blk aa≠some q/\blk au≠some q) w w'/\(b=true->ZW C R C 0 0 s0=some s')/\(b=false->ZW C R C 0 0 s0=none):=by
 obtain ⟨w2,bk,hG2,bA,bU, -⟩:=al2 w #[.int .i64 (R:Int), .int .i64 (C:Int), .slice aa (R*C) ca] 37 #[.int .i64 (R:Int), .int .i64 (R:Int), .slice au (R*R) cu] 37;have bw:=hid bk;clear bk;have bl:=hT0.grow hG2;have nA:blk aa≠some w.heap.size/\blk au≠some w.heap.size:=⟨fun e=>AR,fun e=>AQ⟩;have nU:blk aa≠some (w.heap.size+1)/\blk au≠some (w.heap.size+1):=⟨fun e=>AR,fun e=>AQ⟩;have b9:R*C<=24*24:=JL hR hC;have cb:R*R<=24*24:=JL hR hR;obtain ⟨l,Y⟩:=eX (ZW C R C 0 0 s0);rw[←Y];clear hT0;go_enter Tryz.func145,Tryz.ntmps145;go_wp2;rw[←bw.out];go_loopw [5,6] (fun tv jv wr=>Keep (fun q=>blk aa≠some q/\blk au≠some q) w2 wr/\ ∃ (t j:Nat) (s:HS),t<=R/\j<=C/\tv= .int .i64 t/\jv= .int .i64 j/\Two wr aa au (R*C) (R*R) ca cu s/\Hs C R s/\ZW C R (C-j) j t s=l) (fun _ jv _=>C-(intOf jv).toNat);case atStart=>exact ⟨Keep.refl _ _,0,0,s0,JI _,JI _,rfl,rfl,bl,hs0,Y.symm⟩
 case round=>
  clear bl hs0 Y;obtain ⟨hK,t,j,s,ht,hj,rfl,rfl,hT,hs,hh⟩:=hrel;have Hh:=hid hh;clear hh;have f:=bA.keep hK nA;obtain ⟨⟨M,N,O⟩, -⟩:=f.three;by_cases hjC:j<C
  ·by_cases htR:t<R
   ·have a:ZW C R (C-j) j t s=if Zr s.1 C j t (R-t)<0 then ZW C R (C-(j+1)) (j+1) t s else (Zeg C R j t s (Zr s.1 C j t (R-t)).toNat).bind fun r=>(ZiR C R j t r.2 r.1).bind (ZW C R (C-(j+1)) (j+1) (t+1)):=Ev;have k:=hT.oa.rdI (S:=fun _=>True) (fun _ _=>trivial) (Zp hs.na);go_wp2_with fail;refine (ZkB aa _ ca C R t j s.1 _ k hs.la hs.na ht hjC hR hC).mono ?_;rintro e w3 ⟨rfl,a3⟩;have a4:=hK.trans a3.any;have a5:=hT.grow a3;by_cases Z:Zr s.1 C j t (R-t)<0
    ·have Hn:=hid (show ZW C R (C-(j+1)) (j+1) t s=l by rw[←Hh.out,a,if_pos Z]);clear a;go_wp2;go_roundw;case rel=>exact ⟨a4,t,j+1,s,ht,I,rfl,Δ,a5,hs,Hn.out⟩
     case measure=>exact FN
    ·have hv:=Piv.of (m:=s.1) (C:=C) (R:=R) (j:=j) (t:=t) ht I;rw[if_neg Z] at a;have ab:((Zr s.1 C j t (R-t)).toNat:Int)=Zr s.1 C j t (R-t):=I;rw[←ab];generalize (Zr s.1 C j t (R-t)).toNat=p0 at *;obtain ⟨g,hg⟩:=eX (Zeg C R j t s p0);have Hr:=hid (show l=g.bind fun r=>(ZiR C R j t r.2 r.1).bind (ZW C R (C-(j+1)) (j+1) (t+1)) by rw[←Hh.out,a,hg]);clear a Z ab f M N O hT hK k a3;go_wp2;go_loopw [7] (fun pv wr=>Keep (fun q=>blk aa≠some q/\blk au≠some q) w2 wr/\ ∃ (p:Nat) (s:HS),pv= .int .i64 p/\Two wr aa au (R*C) (R*R) ca cu s/\Hs C R s/\Piv s.1 C R j p t/\Zeg C R j t s p=g) (fun pv wr=>mu (rdL wr aa (R*C)) C R j (intOf pv).toNat t);case atStart=>exact ⟨a4,p0,s,rfl,a5,hs,hv,hg.symm⟩
     case round=>
      clear a4 a5 hs hv hg;obtain ⟨hK,p,s,rfl,hT,hs,hv,hg⟩:=hrel;have Hg:=hid hg;clear hg;have hpR:=hv.hi;have cc:=hv.lo;have f:=bA.keep hK nA;have o:=bU.keep hK nU;obtain ⟨⟨M,N,O⟩, -⟩:=f.three;obtain ⟨⟨b0,b1,b2⟩, -⟩:=o.three;have k:=hT.oa.rdI (S:=fun _=>True) (fun _ _=>trivial) (Zp hs.na);have a6:=hid (ZeV hT.oa);go_wp2_with fail;refine (Zqw aa _ ca C R t j p s.1 _ k hs.la hs.na ht hjC hR hC I).mono ?_;rintro e w4 ⟨rfl,E⟩;have P:=hK.trans E.any;have T:=hT.grow E;cases V:ZaW s.1 C R j p t with
      |true=>
       have bm:g=some (s,p):=(by rw[←Hg.out,Zmp V]);have aw:=hid (show l=(red C R j t t 0 (Zdc C R j t (Zcy C R p t s))).bind (ZW C R (C-(j+1)) (j+1) (t+1)) by rw[Hr.out,bm];rfl);clear bm Hr Hg;by_cases hpe:p=t
       case' pos=>have ad:=hid (show l=(red C R j t t 0 (Zdc C R j t s)).bind (ZW C R (C-(j+1)) (j+1) (t+1)) by rw[aw.out];unfold Zcy;rw[if_pos hpe]);have L:cell s.1 C t j≠0:=(by rw[←hpe];exact hv.ne);have q1:((p:Int)!=(t:Int))=false:=(by rw[hpe];simp);have W:=P;have ae:=T;have hs1:=hs;obtain ⟨s1,bn⟩:=eX s;subst bn;clear P T hs hv V aw a6 k hT hK E f o hpe
       case' neg=>have ad:=hid (show l=(red C R j t t 0 (Zdc C R j t (sw2 C R p t s))).bind (ZW C R (C-(j+1)) (j+1) (t+1)) by rw[aw.out];unfold Zcy;rw[if_neg hpe]);have L:cell (sw2 C R p t s).1 C t j≠0:=Cm;have q1:((p:Int)!=(t:Int))=true:=Ψ;have hs1:=ZnP (p:=p) (t:=t) hs;obtain ⟨⟨M,N,O⟩, -⟩:=(f.grow E).three;obtain ⟨⟨b0,b1,b2⟩, -⟩:=(o.grow E).three;go_wp2_with fail;refine (ZiE aa au ca cu R C p t s _ T hs hpR htR hpe hR hC).mono ?_;rintro e w5 ⟨rfl,ae,n⟩;have W:=P.trans n;clear P T hs hv V aw a6 k hT hK E f o hpe n;generalize sw2 C R p t s=s1 at *
       all_goals
        have bx:=bA.keep W nA;have cd:=bU.keep W nU;obtain ⟨⟨M,N,O⟩, -⟩:=bx.three;have a7:=ae.oa.rdI (S:=fun _=>True) (fun _ _=>trivial) (Zp hs1.na);go_wp2_with fail;refine (ZO aa _ ca C t j (R:Int) s1.1 _ a7 (Zf hjC htR) I I I).mono ?_;rintro e w5 ⟨rfl,B⟩;have n:=W.trans B.any;have F:=ae.grow B;by_cases D:cell s1.1 C t j<0
        case' pos=>have af:=ZlI (t:=t) hs1;have ag:cell (ZeQ C R t s1).1 C t j≠0:=D6;have a8:=hid (show l=(red C R j t t 0 (ZeQ C R t s1)).bind (ZW C R (C-(j+1)) (j+1) (t+1)) by rw[ad.out];unfold Zdc;rw[if_pos D]);have bz:=bA.keep n nA;have b3:=bU.keep n nU;obtain ⟨⟨M,N,O⟩, -⟩:=bz.three;obtain ⟨⟨b0,b1,b2⟩, -⟩:=b3.three;go_wp2_with fail;refine (Zof aa au ca cu R C t s1 _ F hs1 htR hR hC).mono ?_;rintro e w6 ⟨rfl,ah,b4⟩;have ai:=n.trans b4;clear D F n ae hs1 L W ad a7;generalize ZeQ C R t s1=v at *
        case' neg=>have a8:=hid (show l=(red C R j t t 0 s1).bind (ZW C R (C-(j+1)) (j+1) (t+1)) by rw[ad.out];unfold Zdc;rw[if_neg D]);have ai:=n;have ah:=F;have ag:=L;have af:=hs1;have ce:=hid D;obtain ⟨v,bo⟩:=eX s1;subst bo;have b8:0<=cell v.1 C t j:=I;clear D F n ae hs1 L W ad a7
        all_goals
         have bp:=hid ag;have aj:=Zk af.na C t j;obtain ⟨d,hd⟩:=eX (cell v.1 C t j);obtain ⟨rr,a9⟩:=eX (red C R j t t 0 v);have bq:=hid (show l=rr.bind (ZW C R (C-(j+1)) (j+1) (t+1)) by rw[a9];exact a8.out);have ak:d≠0:=(by rw[hd];exact bp.out);rw[←hd] at aj;have al:Mid C R (red C R j t (t-0) 0) rr d t j v:= .inl ⟨af,a9.symm,hd.symm⟩;have am:=af.hm;clear hd a9 bp ag af a8;go_wp2;go_loopw [12] (fun iv wr=>Keep (fun q=>blk aa≠some q/\blk au≠some q) w2 wr/\ ∃ (i:Nat) (s:HS),i<=t/\iv= .int .i64 i/\Two wr aa au (R*C) (R*R) ca cu s/\Hm C R s/\Mid C R (red C R j t (t-i) i) rr d t j s) (fun iv _=>t-(intOf iv).toNat);case atStart=>exact ⟨ai,0,v,JI _,rfl,ah,am,al⟩
         case round=>
          clear al am ah ai;obtain ⟨hK,i,v,hi,rfl,hT,G,X⟩:=hrel;have f:=bA.keep hK nA;have o:=bU.keep hK nU;obtain ⟨⟨M,N,O⟩, -⟩:=f.three;by_cases b5:i<t
          ·have ax:i*C+j<R*C:=Zf hjC I;have ba:t*C+j<R*C:=Zf hjC htR;have k:=hT.oa.rdI (S:=fun _=>True) (fun _ _=>trivial) (Zb4 G.na);go_wp2;refine ZaH [([0,1,2,4,5,6],some 3),([],some 7),([],some 8),([9,10,11,12,13,14,15],none)] ?_;refine ZR ?_;intro K hK;refine (ZO aa _ ca C i j (R:Int) v.1 _ (k.grow (Grow.refl _).drew) ax I I I).mono ?_;rintro e w6 ⟨rfl,bb⟩;have x:=(Grow.refl wr).drew.trans bb;go_wp2_with fail;refine hK _ _ (x) ?_;clear hK K;refine ZR ?_;intro K hK;refine (ZO aa _ ca C t j (R:Int) v.1 _ (k.grow x) ba I I I).mono ?_;rintro e w7 ⟨rfl,bc⟩;have c:=x.trans bc;go_wp2_with fail;refine hK _ _ (c) ?_;clear hK K;refine ZR ?_;intro K hK;refine (ZdL _ _ _).mono ?_;rintro e _ ⟨q,qr,qb,rfl,hq,an,rfl⟩;go_wp2_with fail;refine hK _ _ (c) ?_;clear hK K;refine Zh ?_;refine Ze ?_;have bd:=f.grow c;have be:=o.grow c;obtain ⟨⟨M,N,O⟩, -⟩:=bd.three;obtain ⟨⟨b0,b1,b2⟩, -⟩:=be.three;go_wp2_with fail;refine (ZhF aa au ca cu R C i t (-q) v _ (hT.grow c) G I htR I (.inl ⟨I,I⟩) hR hC).mono ?_;rintro e w8 ⟨rfl,bf,bg⟩;have H:=Mid.add (rest':=red C R j t (t-(i+1)) (i+1)) G X I hjC I ak aj hq an (fun _=>Zpn b5 v);have bh:=Znu (i:=i) (p:=t) (t:= -q) G;clear X an;go_wp2;go_roundw;case rel=>exact ⟨(hK.trans c.any).trans bg,i+1,_,I,Δ,bf,bh,H⟩
           case measure=>exact FN
          ·have bi:i=t:=I;subst bi;have hTb:=hT;have ao:=G;have ap:=X;have hKb:=hK;obtain ⟨sb,aq⟩:=eX v;subst aq;clear hT G X hK;rw[LF] at ap;have ay:=bA.keep hKb nA;have bUb:=bU.keep hKb nU;obtain ⟨⟨M,N,O⟩, -⟩:=ay.three;obtain ⟨⟨b0,b1,b2⟩, -⟩:=bUb.three;have rAb:=hTb.oa.rdI (S:=fun _=>True) (fun _ _=>trivial) (Zb4 ao.na);have rUb:=hTb.ou.rdI (S:=fun _=>True) (fun _ _=>trivial) (Zb4 ao.nu);rcases ap with ⟨A,y,hMb2⟩|⟨y,hMb2⟩
           ·have Hn:=hid (show ZW C R (C-(j+1)) (j+1) (i+1) sb=l by rw[bq.out, ←y];rfl);go_wp2_with fail;refine (ZT aa _ ca sb.1 _ rAb I).mono ?_;rintro e w9 ⟨rfl,hQ9⟩;rw[Zac A.na];have hG9:=hQ9.grow;obtain ⟨⟨b0,b1,b2⟩, -⟩:=(bUb.grow hG9).three;go_wp2_with fail;refine (ZT au _ cu sb.2 _ (rUb.grow hG9) I).mono ?_;rintro e w10 ⟨rfl,hQ10⟩;rw[Zac A.nu];have z:=hG9.trans hQ10.grow;go_wp2;go_roundw;case rel=>exact ⟨hKb.trans z.any,i+1,j+1,sb,I,I,Δ,Δ,hTb.grow z,A,Hn.out⟩
            case measure=>exact FN
           ·have Hno:=hid (show l=none by rw[bq.out,y];rfl);exact Gb
      |false=>
       obtain ⟨ps,bj⟩:=eX (pass C R j p (R-t) t s);obtain ⟨d,hd⟩:=eX (cell s.1 C p j);have ak:d≠0:=(by rw[hd];exact hv.ne);have aj:=Zk hs.na C p j;rw[←hd] at aj;have al:Mid C R (pass C R j p (R-t) t) ps d p j s:= .inl ⟨hs,bj.symm,hd.symm⟩;have am:=hs.hm;have br:=hid bj;clear hd bj;go_wp2;go_loopw [8] (fun iv wr=>Keep (fun q=>blk aa≠some q/\blk au≠some q) w2 wr/\ ∃ (i:Nat) (s:HS),t<=i/\i<=R/\iv= .int .i64 i/\Two wr aa au (R*C) (R*R) ca cu s/\Hm C R s/\Mid C R (pass C R j p (R-i) i) ps d p j s) (fun iv _=>R-(intOf iv).toNat);case atStart=>exact ⟨P,t,s,Nat.le_refl _,ht,rfl,T,am,al⟩
       case round=>
        clear al am T P E k f o hT hK;obtain ⟨hK,i,v,cf,hi,rfl,hT,G,X⟩:=hrel;have f:=bA.keep hK nA;have o:=bU.keep hK nU;obtain ⟨⟨M,N,O⟩, -⟩:=f.three;by_cases az:i<R
        ·have a:=Zow (C:=C) (R:=R) (j:=j) (p:=p) az v;by_cases J:i=p
         ·have H:=Mid.skip (rest':=pass C R j p (R-(i+1)) (i+1)) X (by rw[a,if_neg (fun h=>h.1 J)]);have q1:((i:Int)!=(p:Int))=false:=(by rw[J];simp);clear J a X;go_wp2;go_roundw;case rel=>exact ⟨hK,i+1,v,I,I,Δ,hT,G,H⟩
          case measure=>exact FN
         ·have q1:((i:Int)!=(p:Int))=true:=Ψ;have ax:i*C+j<R*C:=Zf hjC az;have ba:p*C+j<R*C:=Zf hjC hpR;have k:=hT.oa.rdI (S:=fun _=>True) (fun _ _=>trivial) (Zb4 G.na);go_wp2_with fail;refine (ZO aa _ ca C i j (R:Int) v.1 _ k ax I I I).mono ?_;rintro e w5 ⟨rfl,B⟩;have n:=hK.trans B.any;have F:=hT.grow B;by_cases ar:cell v.1 C i j=0
          ·have H:=Mid.skip (rest':=pass C R j p (R-(i+1)) (i+1)) X (by rw[a,if_neg (fun h=>h.2 ar)]);rw[ar];clear J a X ar;go_wp2;go_roundw;case rel=>exact ⟨n,i+1,v,I,I,Δ,F,G,H⟩
           case measure=>exact FN
          ·have q3:(cell v.1 C i j !=0)=true:=(by simpa using ar);rw[if_pos ⟨J,ar⟩] at a;have bs:=hid a;clear a;obtain ⟨wr,rfl⟩:=eX w5;have f:=f.grow B;have o:=o.grow B;have k:=k.grow B;obtain ⟨⟨M,N,O⟩, -⟩:=f.three;go_wp2;refine ZaH [([0,1,2,4,5,6],some 3),([],some 7),([],some 8),([9,10,11,12,13,14,15],none)] ?_;refine ZR ?_;intro K hK;refine (ZO aa _ ca C i j (R:Int) v.1 _ (k.grow (Grow.refl _).drew) ax I I I).mono ?_;rintro e w6 ⟨rfl,bb⟩;have x:=(Grow.refl wr).drew.trans bb;go_wp2_with fail;refine hK _ _ (x) ?_;clear hK K;refine ZR ?_;intro K hK;refine (ZO aa _ ca C p j (R:Int) v.1 _ (k.grow x) ba I I I).mono ?_;rintro e w7 ⟨rfl,bc⟩;have c:=x.trans bc;go_wp2_with fail;refine hK _ _ (c) ?_;clear hK K;refine ZR ?_;intro K hK;refine (ZdL _ _ _).mono ?_;rintro e _ ⟨q,qr,qb,rfl,hq,an,rfl⟩;go_wp2_with fail;refine hK _ _ (c) ?_;clear hK K;refine Zh ?_;refine Ze ?_;have bd:=f.grow c;have be:=o.grow c;obtain ⟨⟨M,N,O⟩, -⟩:=bd.three;obtain ⟨⟨b0,b1,b2⟩, -⟩:=be.three;go_wp2_with fail;refine (ZhF aa au ca cu R C i p (-q) v _ (F.grow c) G az hpR J (.inl ⟨I,I⟩) hR hC).mono ?_;rintro e w8 ⟨rfl,bf,bg⟩;have H:=Mid.add (rest':=pass C R j p (R-(i+1)) (i+1)) G X az hjC (fun h=>J h.symm) ak aj hq an (fun _=>bs.out);have bh:=Znu (i:=i) (p:=p) (t:= -q) G;clear X an;go_wp2;go_roundw;case rel=>exact ⟨(n.trans c.any).trans bg,i+1,_,I,I,Δ,bf,bh,H⟩
           case measure=>exact FN
        ·have bi:i=R:=I;subst bi;have hTb:=hT;have ao:=G;have ap:=X;have hKb:=hK;obtain ⟨sb,aq⟩:=eX v;subst aq;clear hT G X hK;rw[LF] at ap;have ay:=bA.keep hKb nA;have bUb:=bU.keep hKb nU;obtain ⟨⟨M,N,O⟩, -⟩:=ay.three;obtain ⟨⟨b0,b1,b2⟩, -⟩:=bUb.three;have rAb:=hTb.oa.rdI (S:=fun _=>True) (fun _ _=>trivial) (Zb4 ao.na);have rUb:=hTb.ou.rdI (S:=fun _=>True) (fun _ _=>trivial) (Zb4 ao.nu);rcases ap with ⟨A,y,hMb2⟩|⟨y,hMb2⟩
         ·have hpe:pass C i j p (i-t) t s=some sb:=(by rw[←br.out, ←y];rfl);obtain ⟨g1,g2,g3,g4,_,_⟩:=Zgb hjC hs hv V hpe;have bt:=ZmH hjC hs hv V hpe;rw[Hg.out] at bt;go_wp2_with fail;refine (ZT aa _ ca sb.1 _ rAb I).mono ?_;rintro e w9 ⟨rfl,hQ9⟩;rw[Zac A.na];have hG9:=hQ9.grow;obtain ⟨⟨b0,b1,b2⟩, -⟩:=(bUb.grow hG9).three;go_wp2_with fail;refine (ZT au _ cu sb.2 _ (rUb.grow hG9) I).mono ?_;rintro e w10 ⟨rfl,hQ10⟩;rw[Zac A.nu];have z:=hG9.trans hQ10.grow;obtain ⟨⟨M,N,O⟩, -⟩:=(ay.grow z).three;go_wp2_with fail;refine (ZkB aa _ ca C i t j sb.1 _ (rAb.grow z) A.la A.na ht hjC hR hC).mono ?_;rintro e cg ⟨rfl,bv⟩;have av:=z.trans bv;have ab:((Zr sb.1 C j t (i-t)).toNat:Int)=Zr sb.1 C j t (i-t):=I;have b6:=hid (ZeV (hTb.grow av).oa);rw[←ab];generalize (Zr sb.1 C j t (i-t)).toNat=p1 at *;have b7:=hid g4;clear ab g2 g4 hpe;go_wp2;go_roundw;case rel=>exact ⟨hKb.trans av.any,p1,sb,rfl,hTb.grow av,A,g3,bt.symm⟩
          case measure=>rw[b6.out,a6.out];simpa [intOf] using b7.out
         ·have Hno:=hid (show l=none by rw[Hr.out, ←Hg.out,Zmr V (by rw[←br.out,y])];rfl);exact Gb
   ·have Hn:=hid (show l=some s by rw[←Hh.out,ZlZ I]);go_wp2;exact J7
  ·have Hn:=hid (show l=some s by rw[←Hh.out,show C-j=0 by omega];rfl);go_wp2;exact J7

end Go.Proofs.YtgjefeiddfjjnaaGreatDoor
