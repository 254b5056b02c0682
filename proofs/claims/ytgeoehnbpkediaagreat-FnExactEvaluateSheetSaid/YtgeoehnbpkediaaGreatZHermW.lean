/- The reference's Hermite form: the walk. -/
import Derived.Test.YtgeoehnbpkediaaGreatZHermF
set_option maxHeartbeats 8000000
set_option maxRecDepth 100000
namespace Go.Proofs.YtgeoehnbpkediaaGreat
open Go.RowKit
open Lib (hid)
variable {C R i j p:Nat} {d:Int} {l:List Int} {res:Option HS} {rest rest':HS->Option HS} {s:HS}
def rdL (w:World) (a:Option Addr) (n:Nat):List Int:=(List.range n).map fun k=>match a with
 |some p=>(match w.cell? ⟨p.block,k,none⟩ with |some (.int _ z)=>z|_=>0)
 |none=>0
theorem Zdx {w:World} {e:TypeId} {a:Option Addr} {n cap:Nat} {xs:List Int} (h:Own w e 1 a n cap (ints xs)):rdL w a n=xs:=by
 have hl:xs.length=n:=by simpa using h.len
 refine List.ext_getElem? fun k=> ?_
 unfold rdL
 rw[List.getElem?_map]
 rcases Nat.lt_or_ge k n with hk|hk
 ·rw[List.getElem?_range hk,List.getElem?_eq_getElem (by omega)]
  cases a with
  |none=>have:=h.nil rfl;have:=h.le;omega
  |some p=>
   have hc:=h.cell (j:=k) (c:= .int .i64 xs[k]) (by rw[List.getElem?_map,List.getElem?_eq_getElem (by omega)];rfl)
   simp[hc]
 ·rw[List.getElem?_eq_none (by simp;omega),List.getElem?_eq_none (by omega)];rfl
theorem Zaa (h:NumL l):ZbF l=false:=by
 rw[Bool.eq_false_iff];intro e
 exact ZaL (h _ (ZaR.1 e)) rfl
def Mid (C R:Nat) (rest:HS->Option HS) (res:Option HS) (d:Int) (p j:Nat) (s:HS):Prop:=(Hs C R s/\rest s=res/\cell s.1 C p j=d)\/(res=none/\Mk s)
theorem Mid.add {q:Int} (hm:Hm C R s) (h:Mid C R rest res d p j s) (hi:i<R) (hj:j<C) (hip:p≠i) (hd:d≠0) (_hdn: -400000000<=d/\d<=400000000) (hq: -400000000<=q/\q<=400000000)
  (he:Zq (cell s.1 C i j)=true->Zq (cell s.1 C p j)=true->cell s.1 C p j≠0->q=cell s.1 C i j/cell s.1 C p j)
  (hr:Hs C R s->rest s=(Zcu C R i p (-(cell s.1 C i j/cell s.1 C p j)) s).bind rest'):Mid C R rest' res d p j (Zd2 C R i p (-q) s):=by
 rcases h with ⟨hs,h1,h2⟩|⟨h1,h2⟩
 ·have hq2:=he (ZS.2 (Zt hs.na C i j)) (ZS.2 (Zt hs.na C p j)) (by rw[h2];exact hd)
  have h3:=hr hs
  rw[←hq2] at h3
  rcases ZkG hs hi (t:= -q) (p:=p) (by omega) with h4|⟨h4,h5⟩
  ·rw[h4] at h3
   obtain ⟨g1,g2⟩:=Zfh hs h4
   refine .inl ⟨g1,by rw[←h1,h3];rfl, ?_⟩
   rw[g2]
   show cell (addR s.1 C i p (-q)) C p j=d
   rw[Zbi hs.la hi hj,if_neg hip];exact h2
  ·rw[h4] at h3
   exact .inr ⟨by rw[←h1,h3];rfl,h5⟩
 ·exact .inr ⟨h1,Znj hm hi h2⟩
theorem ZC (h:NumL l): ∀ x∈l,I64 x:=fun x hx=>by have:=h x hx;unfold I64;omega
theorem ZbA (h:NumBL l): ∀ x∈l,I64 x:=fun x hx=>(h x hx).i64
theorem Mid.skip (h:Mid C R rest res d p j s) (hr:rest s=rest' s):Mid C R rest' res d p j s:=by
 rcases h with ⟨hs,h1,h2⟩|h
 ·exact .inl ⟨hs,by rw[←hr];exact h1,h2⟩
 ·exact .inr h
theorem Zla {t:Nat} (h:i<t) (s:HS):red C R j t (t-i) i s=(Zcu C R i t (-(cell s.1 C i j/cell s.1 C t j)) s).bind (red C R j t (t-(i+1)) (i+1)):=by
 rw[show t-i=(t-(i+1))+1 by omega];rfl
theorem ZjW (h:i<R) (s:HS):pass C R j p (R-i) i s=if i≠p/\cell s.1 C i j≠0 then (Zcu C R i p (-(cell s.1 C i j/cell s.1 C p j)) s).bind (pass C R j p (R-(i+1)) (i+1)) else pass C R j p (R-(i+1)) (i+1) s:=by
 rw[show R-i=(R-(i+1))+1 by omega];rfl
theorem Zkj (aa au:Option Addr) (ca cu R C:Nat) (s0:HS) (w:World) (hT0:Two w aa au (R*C) (R*R) ca cu s0) (hs0:Hs C R s0) (hR:R<=24) (hC:C<=24):
  Calls Tryz.prog 125 #[.agg #[.int .i64 R, .int .i64 C, .slice aa (R*C) ca], .agg #[.int .i64 R, .int .i64 R, .slice au (R*R) cu]] w fun e w'=> ∃ b s',e= .returned (.bool b)/\Two w' aa au (R*C) (R*R) ca cu s'/\Keep (fun q=>blk aa≠some q/\blk au≠some q) w w'/\(b=true->Z0 C R C 0 0 s0=some s')/\(b=false->Z0 C R C 0 0 s0=none):=by
 obtain ⟨w2,hw2⟩: ∃ w2,w2=(w.alloc (.cells #[.int .i64 (R:Int), .int .i64 (C:Int), .slice aa (R*C) ca] 28)).alloc (.cells #[.int .i64 (R:Int), .int .i64 (R:Int), .slice au (R*R) cu] 28):=⟨_,rfl⟩
 have hG2:Grow w w2:=by rw[hw2];exact ((Grow.refl w).alloc _ _).alloc _ _
 have bA:Blk w2 w.heap.size #[.int .i64 (R:Int), .int .i64 (C:Int), .slice aa (R*C) ca] 28:=by rw[hw2];exact (Blk.new w _ _).alloc _
 have bU:Blk w2 (w.heap.size+1) #[.int .i64 (R:Int), .int .i64 (R:Int), .slice au (R*R) cu] 28:=by rw[hw2];exact Blk.newAt _ _ _ (by simp)
 have Hw2:=hid hw2;clear hw2
 have hTT:=hT0.grow hG2
 have nA:blk aa≠some w.heap.size/\blk au≠some w.heap.size:=⟨fun e=>by have:=hT0.oa.lt e;omega,fun e=>by have:=hT0.ou.lt e;omega⟩
 have nU:blk aa≠some (w.heap.size+1)/\blk au≠some (w.heap.size+1):=⟨fun e=>by have:=hT0.oa.lt e;omega,fun e=>by have:=hT0.ou.lt e;omega⟩
 have hRC:R*C<=24*24:=Nat.mul_le_mul hR hC
 have hRR:R*R<=24*24:=Nat.mul_le_mul hR hR
 obtain ⟨res,hres⟩: ∃ res,res=Z0 C R C 0 0 s0:=⟨_,rfl⟩
 rw[←hres]
 clear hT0
 go_enter Tryz.func125,Tryz.ntmps125
 go_wp2
 rw[←Hw2.out]
 go_loopw [5,6] (fun tv jv wr=>Keep (fun q=>blk aa≠some q/\blk au≠some q) w2 wr/\ ∃ (t j:Nat) (s:HS),t<=R/\j<=C/\tv= .int .i64 t/\jv= .int .i64 j/\Two wr aa au (R*C) (R*R) ca cu s/\Hs C R s/\Z0 C R (C-j) j t s=res) (fun _ jv _=>C-(intOf jv).toNat)
 case atStart=>exact ⟨Keep.refl _ _,0,0,s0,Nat.zero_le _,Nat.zero_le _,rfl,rfl,hTT,hs0,hres.symm⟩
 case round=>
  clear hTT hs0 hres
  obtain ⟨hK,t,j,s,ht,hj,rfl,rfl,hT,hs,hh⟩:=hrel
  have Hh:=hid hh;clear hh
  have bAr:=bA.keep hK nA
  obtain ⟨⟨a0,a1,a2⟩, -⟩:=bAr.three
  by_cases hjC:j<C
  ·by_cases htR:t<R
   ·have hunf:Z0 C R (C-j) j t s=if Zu s.1 C j t (R-t)<0 then Z0 C R (C-(j+1)) (j+1) t s else (Zdc C R j t s (Zu s.1 C j t (R-t)).toNat).bind fun r=>(ZgN C R j t r.2 r.1).bind (Z0 C R (C-(j+1)) (j+1) (t+1)):=by
     rw[show C-j=(C-(j+1))+1 by omega]
     simp only[Z0]
     rw[if_pos htR]
    have hrA:=hT.oa.rdI (S:=fun _=>True) (fun _ _=>trivial) (ZC hs.na)
    go_wp2_with fail
    refine (ZhU aa _ ca C R t j s.1 _ hrA hs.la hs.na ht hjC hR hC).mono ?_
    rintro e w3 ⟨rfl,hG3⟩
    have hK3:=hK.trans hG3.any
    have hT3:=hT.grow hG3
    by_cases hlt0:Zu s.1 C j t (R-t)<0
    ·have Hn:=hid (show Z0 C R (C-(j+1)) (j+1) t s=res by rw[←Hh.out,hunf,if_pos hlt0])
     clear hunf
     go_wp2
     go_roundw
     case rel=>exact ⟨hK3,t,j+1,s,ht,by omega,rfl,by go_num,hT3,hs,Hn.out⟩
     case measure=>simp[intOf];omega
    ·have hv:=Piv.of (m:=s.1) (C:=C) (R:=R) (j:=j) (t:=t) ht (by omega)
     rw[if_neg hlt0] at hunf
     have hp0:((Zu s.1 C j t (R-t)).toNat:Int)=Zu s.1 C j t (R-t):=by omega
     rw[←hp0]
     generalize (Zu s.1 C j t (R-t)).toNat=p0 at *
     obtain ⟨g,hg⟩: ∃ g,g=Zdc C R j t s p0:=⟨_,rfl⟩
     have Hr:=hid (show res=g.bind fun r=>(ZgN C R j t r.2 r.1).bind (Z0 C R (C-(j+1)) (j+1) (t+1)) by rw[←Hh.out,hunf,hg])
     clear hunf hlt0 hp0 bAr a0 a1 a2 hT hK hrA hG3
     go_wp2
     go_loopw [7] (fun pv wr=>Keep (fun q=>blk aa≠some q/\blk au≠some q) w2 wr/\ ∃ (p:Nat) (s:HS),pv= .int .i64 p/\Two wr aa au (R*C) (R*R) ca cu s/\Hs C R s/\Piv s.1 C R j p t/\Zdc C R j t s p=g) (fun pv wr=>mu (rdL wr aa (R*C)) C R j (intOf pv).toNat t)
     case atStart=>exact ⟨hK3,p0,s,rfl,hT3,hs,hv,hg.symm⟩
     case round=>
      clear hK3 hT3 hs hv hg
      obtain ⟨hK,p,s,rfl,hT,hs,hv,hg⟩:=hrel
      have Hg:=hid hg;clear hg
      have hpR:=hv.hi
      have hpt:=hv.lo
      have bAr:=bA.keep hK nA
      have bUr:=bU.keep hK nU
      obtain ⟨⟨a0,a1,a2⟩, -⟩:=bAr.three
      obtain ⟨⟨b0,b1,b2⟩, -⟩:=bUr.three
      have hrA:=hT.oa.rdI (S:=fun _=>True) (fun _ _=>trivial) (ZC hs.na)
      have Hmu:=hid (Zdx hT.oa)
      go_wp2_with fail
      refine (Zlt aa _ ca C R t j p s.1 _ hrA hs.la hs.na ht hjC hR hC (by omega)).mono ?_
      rintro e w4 ⟨rfl,hG4⟩
      have hK4:=hK.trans hG4.any
      have hT4:=hT.grow hG4
      cases hal:ZaT s.1 C R j p t with
      |true=>
       have hgd:g=some (s,p):=by rw[←Hg.out,ZiA hal]
       have Hra:=hid (show res=(red C R j t t 0 (Zct C R j t (ZbZ C R p t s))).bind (Z0 C R (C-(j+1)) (j+1) (t+1)) by rw[Hr.out,hgd];rfl)
       clear hgd Hr Hg
       by_cases hpe:p=t
       case' pos=>
        have Hr1:=hid (show res=(red C R j t t 0 (Zct C R j t s)).bind (Z0 C R (C-(j+1)) (j+1) (t+1)) by rw[Hra.out];unfold ZbZ;rw[if_pos hpe])
        have hne1:cell s.1 C t j≠0:=by rw[←hpe];exact hv.ne
        have q1:((p:Int)!=(t:Int))=false:=by rw[hpe];simp
        have hK1:=hK4;have hT1:=hT4;have hs1:=hs
        obtain ⟨s1,hs10⟩: ∃ s1,s1=s:=⟨_,rfl⟩
        subst hs10
        clear hK4 hT4 hs hv hal Hra Hmu hrA hT hK hG4 bAr bUr hpe
       case' neg=>
        have Hr1:=hid (show res=(red C R j t t 0 (Zct C R j t (sw2 C R p t s))).bind (Z0 C R (C-(j+1)) (j+1) (t+1)) by rw[Hra.out];unfold ZbZ;rw[if_neg hpe])
        have hne1:cell (sw2 C R p t s).1 C t j≠0:=by
         show cell (swR s.1 C p t) C t j≠0
         rw[ZdK hs.la hpR htR hpe hjC,if_neg (by omega),if_pos rfl];exact hv.ne
        have q1:((p:Int)!=(t:Int))=true:=by simp;omega
        have hs1:=Zj9 (p:=p) (t:=t) hs
        obtain ⟨⟨a0,a1,a2⟩, -⟩:=(bAr.grow hG4).three
        obtain ⟨⟨b0,b1,b2⟩, -⟩:=(bUr.grow hG4).three
        go_wp2_with fail
        refine (Zgc aa au ca cu R C p t s _ hT4 hs hpR htR hpe hR hC).mono ?_
        rintro e w5 ⟨rfl,hT1,hK5⟩
        have hK1:=hK4.trans hK5
        clear hK4 hT4 hs hv hal Hra Hmu hrA hT hK hG4 bAr bUr hpe hK5
        generalize sw2 C R p t s=s1 at *
       all_goals
        have bA1:=bA.keep hK1 nA
        have bU1:=bU.keep hK1 nU
        obtain ⟨⟨a0,a1,a2⟩, -⟩:=bA1.three
        have hr1:=hT1.oa.rdI (S:=fun _=>True) (fun _ _=>trivial) (ZC hs1.na)
        go_wp2_with fail
        refine (ZO aa _ ca C t j (R:Int) s1.1 _ hr1 (Zl hjC htR) (by omega) (by omega) (by omega)).mono ?_
        rintro e w5 ⟨rfl,hG5⟩
        have hK5:=hK1.trans hG5.any
        have hT5:=hT1.grow hG5
        by_cases hneg:cell s1.1 C t j<0
        case' pos=>
         have hs2:=Zin (t:=t) hs1
         have hne2:cell (ZdM C R t s1).1 C t j≠0:=by
          show cell (ZcS s1.1 C t) C t j≠0
          rw[Zgr hs1.la htR hjC,if_pos rfl];omega
         have Hr2:=hid (show res=(red C R j t t 0 (ZdM C R t s1)).bind (Z0 C R (C-(j+1)) (j+1) (t+1)) by rw[Hr1.out];unfold Zct;rw[if_pos hneg])
         have bA5:=bA.keep hK5 nA
         have bU5:=bU.keep hK5 nU
         obtain ⟨⟨a0,a1,a2⟩, -⟩:=bA5.three
         obtain ⟨⟨b0,b1,b2⟩, -⟩:=bU5.three
         go_wp2_with fail
         refine (ZjX aa au ca cu R C t s1 _ hT5 hs1 htR hR hC).mono ?_
         rintro e w6 ⟨rfl,hTs2,hK6⟩
         have hKs2:=hK5.trans hK6
         clear hneg hT5 hK5 hT1 hs1 hne1 hK1 Hr1 hr1
         generalize ZdM C R t s1=s2 at *
        case' neg=>
         have Hr2:=hid (show res=(red C R j t t 0 s1).bind (Z0 C R (C-(j+1)) (j+1) (t+1)) by rw[Hr1.out];unfold Zct;rw[if_neg hneg])
         have hKs2:=hK5;have hTs2:=hT5;have hne2:=hne1;have hs2:=hs1
         have Hng:=hid hneg
         obtain ⟨s2,hs20⟩: ∃ s2,s2=s1:=⟨_,rfl⟩
         subst hs20
         have hngi:0<=cell s2.1 C t j:=by omega
         clear hneg hT5 hK5 hT1 hs1 hne1 hK1 Hr1 hr1
        all_goals
         have hd0:=hid hne2
         have hdn:=Zt hs2.na C t j
         obtain ⟨d,hd⟩: ∃ d,d=cell s2.1 C t j:=⟨_,rfl⟩
         obtain ⟨rr,hrr⟩: ∃ rr,rr=red C R j t t 0 s2:=⟨_,rfl⟩
         have Hr3:=hid (show res=rr.bind (Z0 C R (C-(j+1)) (j+1) (t+1)) by rw[hrr];exact Hr2.out)
         have hdne:d≠0:=by rw[hd];exact hd0.out
         rw[←hd] at hdn
         have hM0:Mid C R (red C R j t (t-0) 0) rr d t j s2:= .inl ⟨hs2,hrr.symm,hd.symm⟩
         have hm0:=hs2.hm
         clear hd hrr hd0 hne2 hs2 Hr2
         go_wp2
         go_loopw [12] (fun iv wr=>Keep (fun q=>blk aa≠some q/\blk au≠some q) w2 wr/\ ∃ (i:Nat) (s:HS),i<=t/\iv= .int .i64 i/\Two wr aa au (R*C) (R*R) ca cu s/\Hm C R s/\Mid C R (red C R j t (t-i) i) rr d t j s) (fun iv _=>t-(intOf iv).toNat)
         case atStart=>exact ⟨hKs2,0,s2,Nat.zero_le _,rfl,hTs2,hm0,hM0⟩
         case round=>
          clear hM0 hm0 hTs2 hKs2
          obtain ⟨hK,i,s2,hi,rfl,hT,hm,hM⟩:=hrel
          have bAr:=bA.keep hK nA
          have bUr:=bU.keep hK nU
          obtain ⟨⟨a0,a1,a2⟩, -⟩:=bAr.three
          by_cases hit:i<t
          ·have hni:i*C+j<R*C:=Zl hjC (by omega)
           have hnp:t*C+j<R*C:=Zl hjC htR
           have hrA:=hT.oa.rdI (S:=fun _=>True) (fun _ _=>trivial) (ZbA hm.na)
           go_wp2
           refine Zj (S:=Grow wr) [([0,1,2,4,5,6],some 3),([],some 7),([],some 8),([9,10,11,12,13,14,15],none)] Zn (by kernel_rfl) (fun _ _ _ _ _ h=>h) (Grow.refl _).drew ?_
           show wpQuiet _ _ _ _ [_,_,_,_,_,_] _
           repeat (first |go_big_quiet_skip|(go_big_quiet_want;first |(apply Ze Za;rfl;rfl;exact (fun w' hG=>bAr.grow hG);go_big_quiet_on;simp only[putP])|(go_big_quiet_op;first |go_big_quiet_on|(refine ⟨_,(fun _ _=>rfl), ?_⟩;go_big_quiet_on))))
           refine wpQuiet_nil ?_
           refine Zk rfl (fun K hK=> ?_)
           go_wp2_with fail
           refine (ZO aa _ ca C i j (R:Int) s2.1 _ (hrA.grow (Grow.refl _).drew) hni (by omega) (by omega) (by omega)).mono ?_
           rintro e w6 ⟨rfl,hG6⟩
           have hG06:=(Grow.refl wr).drew.trans hG6
           go_wp2_with fail
           refine hK _ _ (hG06) ?_
           clear hK K
           show wpQuiet _ _ _ _ [] _
           try (conv=>arg 6;simp only[putP])
           refine wpQuiet_nil ?_
           refine Zk rfl (fun K hK=> ?_)
           go_wp2_with fail
           refine (ZO aa _ ca C t j (R:Int) s2.1 _ (hrA.grow hG06) hnp (by omega) (by omega) (by omega)).mono ?_
           rintro e w7 ⟨rfl,hG7⟩
           have hG07:=hG06.trans hG7
           go_wp2_with fail
           refine hK _ _ (hG07) ?_
           clear hK K
           show wpQuiet _ _ _ _ [] _
           try (conv=>arg 6;simp only[putP])
           refine wpQuiet_nil ?_
           refine Zk rfl (fun K hK=> ?_)
           go_wp2_with fail
           refine (ZcJ _ _ _).mono ?_
           rintro e _ ⟨q,qr,qb,rfl,hq,hqe,rfl⟩
           go_wp2_with fail
           refine hK _ _ (hG07) ?_
           clear hK K
           show wpQuiet _ _ _ _ [_,_,_,_,_,_,_] _
           try (conv=>arg 6;simp only[putP])
           repeat (first |go_big_quiet_skip|(go_big_quiet_want;first |(apply Ze Za;rfl;rfl;exact (fun w' hG=>bAr.grow hG);go_big_quiet_on;simp only[putP])|(go_big_quiet_op;first |go_big_quiet_on|(refine ⟨_,(fun _ _=>rfl), ?_⟩;go_big_quiet_on))))
           refine wpQuiet_nil ?_
           refine Zm ?_
           have bA7:=bAr.grow hG07
           have bU7:=bUr.grow hG07
           obtain ⟨⟨a0,a1,a2⟩, -⟩:=bA7.three
           obtain ⟨⟨b0,b1,b2⟩, -⟩:=bU7.three
           go_wp2_with fail
           refine (ZfN aa au ca cu R C i t (-q) s2 _ (hT.grow hG07) hm (by omega) htR (by omega) (.inl ⟨by omega,by omega⟩) hR hC).mono ?_
           rintro e w8 ⟨rfl,hT8,hK8⟩
           have hM8:=Mid.add (rest':=red C R j t (t-(i+1)) (i+1)) hm hM (by omega) hjC (by omega) hdne hdn hq hqe (fun _=>Zla hit s2)
           have hm8:=ZjQ (i:=i) (p:=t) (t:= -q) hm
           clear hM hqe
           go_wp2
           go_roundw
           case rel=>exact ⟨(hK.trans hG07.any).trans hK8,i+1,_,by omega,by go_num,hT8,hm8,hM8⟩
           case measure=>simp[intOf];omega
          ·have hei:i=t:=by omega
           subst hei
           have hTb:=hT;have hmb:=hm;have hMb:=hM;have hKb:=hK
           obtain ⟨sb,hsb0⟩: ∃ sb,sb=s2:=⟨_,rfl⟩
           subst hsb0
           clear hT hm hM hK
           rw[Nat.sub_self] at hMb
           have bAb:=bA.keep hKb nA
           have bUb:=bU.keep hKb nU
           obtain ⟨⟨a0,a1,a2⟩, -⟩:=bAb.three
           obtain ⟨⟨b0,b1,b2⟩, -⟩:=bUb.three
           have rAb:=hTb.oa.rdI (S:=fun _=>True) (fun _ _=>trivial) (ZbA hmb.na)
           have rUb:=hTb.ou.rdI (S:=fun _=>True) (fun _ _=>trivial) (ZbA hmb.nu)
           rcases hMb with ⟨hsb,hMb1,hMb2⟩|⟨hMb1,hMb2⟩
           ·have Hn:=hid (show Z0 C R (C-(j+1)) (j+1) (i+1) sb=res by rw[Hr3.out, ←hMb1];rfl)
            go_wp2_with fail
            refine (ZU aa _ ca sb.1 _ rAb (by omega)).mono ?_
            rintro e w9 ⟨rfl,hQ9⟩
            rw[Zaa hsb.na]
            have hG9:=hQ9.grow
            obtain ⟨⟨b0,b1,b2⟩, -⟩:=(bUb.grow hG9).three
            go_wp2_with fail
            refine (ZU au _ cu sb.2 _ (rUb.grow hG9) (by omega)).mono ?_
            rintro e w10 ⟨rfl,hQ10⟩
            rw[Zaa hsb.nu]
            have hG10:=hG9.trans hQ10.grow
            go_wp2
            go_roundw
            case rel=>exact ⟨hKb.trans hG10.any,i+1,j+1,sb,by omega,by omega,by go_num,by go_num,hTb.grow hG10,hsb,Hn.out⟩
            case measure=>simp[intOf];omega
           ·have Hno:=hid (show res=none by rw[Hr3.out,hMb1];rfl)
            cases hbd:ZbF sb.1 with
            |true=>
             go_wp2_with fail
             refine (ZU aa _ ca sb.1 _ rAb (by omega)).mono ?_
             rintro e w9 ⟨rfl,hQ9⟩
             rw[hbd]
             go_wp2
             go_ret
             exact ⟨false,sb,rfl,hTb.grow hQ9.grow,(hG2.any.trans hKb).trans hQ9.grow.any,(fun h=>by cases h),fun _=>Hno.out⟩
            |false=>
             have hbu:ZbF sb.2=true:=ZaR.2 (hMb2.resolve_left fun h=>by rw[ZaR.2 h] at hbd;cases hbd)
             go_wp2_with fail
             refine (ZU aa _ ca sb.1 _ rAb (by omega)).mono ?_
             rintro e w9 ⟨rfl,hQ9⟩
             rw[hbd]
             have hG9:=hQ9.grow
             obtain ⟨⟨b0,b1,b2⟩, -⟩:=(bUb.grow hG9).three
             go_wp2_with fail
             refine (ZU au _ cu sb.2 _ (rUb.grow hG9) (by omega)).mono ?_
             rintro e w10 ⟨rfl,hQ10⟩
             rw[hbu]
             go_wp2
             go_ret
             exact ⟨false,sb,rfl,(hTb.grow hG9).grow hQ10.grow,((hG2.any.trans hKb).trans hG9.any).trans hQ10.grow.any,(fun h=>by cases h),fun _=>Hno.out⟩
      |false=>
       obtain ⟨ps,hps⟩: ∃ ps,ps=pass C R j p (R-t) t s:=⟨_,rfl⟩
       obtain ⟨d,hd⟩: ∃ d,d=cell s.1 C p j:=⟨_,rfl⟩
       have hdne:d≠0:=by rw[hd];exact hv.ne
       have hdn:=Zt hs.na C p j
       rw[←hd] at hdn
       have hM0:Mid C R (pass C R j p (R-t) t) ps d p j s:= .inl ⟨hs,hps.symm,hd.symm⟩
       have hm0:=hs.hm
       have Hps:=hid hps
       clear hd hps
       go_wp2
       go_loopw [8] (fun iv wr=>Keep (fun q=>blk aa≠some q/\blk au≠some q) w2 wr/\ ∃ (i:Nat) (s:HS),t<=i/\i<=R/\iv= .int .i64 i/\Two wr aa au (R*C) (R*R) ca cu s/\Hm C R s/\Mid C R (pass C R j p (R-i) i) ps d p j s) (fun iv _=>R-(intOf iv).toNat)
       case atStart=>exact ⟨hK4,t,s,Nat.le_refl _,ht,rfl,hT4,hm0,hM0⟩
       case round=>
        clear hM0 hm0 hT4 hK4 hG4 hrA bAr bUr hT hK
        obtain ⟨hK,i,s2,hti,hi,rfl,hT,hm,hM⟩:=hrel
        have bAr:=bA.keep hK nA
        have bUr:=bU.keep hK nU
        obtain ⟨⟨a0,a1,a2⟩, -⟩:=bAr.three
        by_cases hiR:i<R
        ·have hunf:=ZjW (C:=C) (R:=R) (j:=j) (p:=p) hiR s2
         by_cases hip:i=p
         ·have hM8:=Mid.skip (rest':=pass C R j p (R-(i+1)) (i+1)) hM (by rw[hunf,if_neg (fun h=>h.1 hip)])
          have q1:((i:Int)!=(p:Int))=false:=by rw[hip];simp
          clear hip hunf hM
          go_wp2
          go_roundw
          case rel=>exact ⟨hK,i+1,s2,by omega,by omega,by go_num,hT,hm,hM8⟩
          case measure=>simp[intOf];omega
         ·have q1:((i:Int)!=(p:Int))=true:=by simp;omega
          have hni:i*C+j<R*C:=Zl hjC hiR
          have hnp:p*C+j<R*C:=Zl hjC hpR
          have hrA:=hT.oa.rdI (S:=fun _=>True) (fun _ _=>trivial) (ZbA hm.na)
          go_wp2_with fail
          refine (ZO aa _ ca C i j (R:Int) s2.1 _ hrA hni (by omega) (by omega) (by omega)).mono ?_
          rintro e w5 ⟨rfl,hG5⟩
          have hK5:=hK.trans hG5.any
          have hT5:=hT.grow hG5
          by_cases hc0:cell s2.1 C i j=0
          ·have hM8:=Mid.skip (rest':=pass C R j p (R-(i+1)) (i+1)) hM (by rw[hunf,if_neg (fun h=>h.2 hc0)])
           rw[hc0]
           clear hip hunf hM hc0
           go_wp2
           go_roundw
           case rel=>exact ⟨hK5,i+1,s2,by omega,by omega,by go_num,hT5,hm,hM8⟩
           case measure=>simp[intOf];omega
          ·have q3:(cell s2.1 C i j !=0)=true:=by simpa using hc0
           rw[if_pos ⟨hip,hc0⟩] at hunf
           have Hunf:=hid hunf
           clear hunf
           obtain ⟨wr,rfl⟩: ∃ wr,wr=w5:=⟨_,rfl⟩
           have bAr:=bAr.grow hG5
           have bUr:=bUr.grow hG5
           have hrA:=hrA.grow hG5
           obtain ⟨⟨a0,a1,a2⟩, -⟩:=bAr.three
           go_wp2
           refine Zj (S:=Grow wr) [([0,1,2,4,5,6],some 3),([],some 7),([],some 8),([9,10,11,12,13,14,15],none)] Zn (by kernel_rfl) (fun _ _ _ _ _ h=>h) (Grow.refl _).drew ?_
           show wpQuiet _ _ _ _ [_,_,_,_,_,_] _
           repeat (first |go_big_quiet_skip|(go_big_quiet_want;first |(apply Ze Za;rfl;rfl;exact (fun w' hG=>bAr.grow hG);go_big_quiet_on;simp only[putP])|(go_big_quiet_op;first |go_big_quiet_on|(refine ⟨_,(fun _ _=>rfl), ?_⟩;go_big_quiet_on))))
           refine wpQuiet_nil ?_
           refine Zk rfl (fun K hK=> ?_)
           go_wp2_with fail
           refine (ZO aa _ ca C i j (R:Int) s2.1 _ (hrA.grow (Grow.refl _).drew) hni (by omega) (by omega) (by omega)).mono ?_
           rintro e w6 ⟨rfl,hG6⟩
           have hG06:=(Grow.refl wr).drew.trans hG6
           go_wp2_with fail
           refine hK _ _ (hG06) ?_
           clear hK K
           show wpQuiet _ _ _ _ [] _
           try (conv=>arg 6;simp only[putP])
           refine wpQuiet_nil ?_
           refine Zk rfl (fun K hK=> ?_)
           go_wp2_with fail
           refine (ZO aa _ ca C p j (R:Int) s2.1 _ (hrA.grow hG06) hnp (by omega) (by omega) (by omega)).mono ?_
           rintro e w7 ⟨rfl,hG7⟩
           have hG07:=hG06.trans hG7
           go_wp2_with fail
           refine hK _ _ (hG07) ?_
           clear hK K
           show wpQuiet _ _ _ _ [] _
           try (conv=>arg 6;simp only[putP])
           refine wpQuiet_nil ?_
           refine Zk rfl (fun K hK=> ?_)
           go_wp2_with fail
           refine (ZcJ _ _ _).mono ?_
           rintro e _ ⟨q,qr,qb,rfl,hq,hqe,rfl⟩
           go_wp2_with fail
           refine hK _ _ (hG07) ?_
           clear hK K
           show wpQuiet _ _ _ _ [_,_,_,_,_,_,_] _
           try (conv=>arg 6;simp only[putP])
           repeat (first |go_big_quiet_skip|(go_big_quiet_want;first |(apply Ze Za;rfl;rfl;exact (fun w' hG=>bAr.grow hG);go_big_quiet_on;simp only[putP])|(go_big_quiet_op;first |go_big_quiet_on|(refine ⟨_,(fun _ _=>rfl), ?_⟩;go_big_quiet_on))))
           refine wpQuiet_nil ?_
           refine Zm ?_
           have bA7:=bAr.grow hG07
           have bU7:=bUr.grow hG07
           obtain ⟨⟨a0,a1,a2⟩, -⟩:=bA7.three
           obtain ⟨⟨b0,b1,b2⟩, -⟩:=bU7.three
           go_wp2_with fail
           refine (ZfN aa au ca cu R C i p (-q) s2 _ (hT5.grow hG07) hm hiR hpR hip (.inl ⟨by omega,by omega⟩) hR hC).mono ?_
           rintro e w8 ⟨rfl,hT8,hK8⟩
           have hM8:=Mid.add (rest':=pass C R j p (R-(i+1)) (i+1)) hm hM hiR hjC (fun h=>hip h.symm) hdne hdn hq hqe (fun _=>Hunf.out)
           have hm8:=ZjQ (i:=i) (p:=p) (t:= -q) hm
           clear hM hqe
           go_wp2
           go_roundw
           case rel=>exact ⟨(hK5.trans hG07.any).trans hK8,i+1,_,by omega,by omega,by go_num,hT8,hm8,hM8⟩
           case measure=>simp[intOf];omega
        ·have hei:i=R:=by omega
         subst hei
         have hTb:=hT;have hmb:=hm;have hMb:=hM;have hKb:=hK
         obtain ⟨sb,hsb0⟩: ∃ sb,sb=s2:=⟨_,rfl⟩
         subst hsb0
         clear hT hm hM hK
         rw[Nat.sub_self] at hMb
         have bAb:=bA.keep hKb nA
         have bUb:=bU.keep hKb nU
         obtain ⟨⟨a0,a1,a2⟩, -⟩:=bAb.three
         obtain ⟨⟨b0,b1,b2⟩, -⟩:=bUb.three
         have rAb:=hTb.oa.rdI (S:=fun _=>True) (fun _ _=>trivial) (ZbA hmb.na)
         have rUb:=hTb.ou.rdI (S:=fun _=>True) (fun _ _=>trivial) (ZbA hmb.nu)
         rcases hMb with ⟨hsb,hMb1,hMb2⟩|⟨hMb1,hMb2⟩
         ·have hpe:pass C i j p (i-t) t s=some sb:=by rw[←Hps.out, ←hMb1];rfl
          obtain ⟨g1,g2,g3,g4,_,_⟩:=ZeE hjC hs hv hal hpe
          have hgs:=Zjc hjC hs hv hal hpe
          rw[Hg.out] at hgs
          go_wp2_with fail
          refine (ZU aa _ ca sb.1 _ rAb (by omega)).mono ?_
          rintro e w9 ⟨rfl,hQ9⟩
          rw[Zaa hsb.na]
          have hG9:=hQ9.grow
          obtain ⟨⟨b0,b1,b2⟩, -⟩:=(bUb.grow hG9).three
          go_wp2_with fail
          refine (ZU au _ cu sb.2 _ (rUb.grow hG9) (by omega)).mono ?_
          rintro e w10 ⟨rfl,hQ10⟩
          rw[Zaa hsb.nu]
          have hG10:=hG9.trans hQ10.grow
          obtain ⟨⟨a0,a1,a2⟩, -⟩:=(bAb.grow hG10).three
          go_wp2_with fail
          refine (ZhU aa _ ca C i t j sb.1 _ (rAb.grow hG10) hsb.la hsb.na ht hjC hR hC).mono ?_
          rintro e w11 ⟨rfl,hG11⟩
          have hG12:=hG10.trans hG11
          have hp0:((Zu sb.1 C j t (i-t)).toNat:Int)=Zu sb.1 C j t (i-t):=by omega
          have Hm2:=hid (Zdx (hTb.grow hG12).oa)
          rw[←hp0]
          generalize (Zu sb.1 C j t (i-t)).toNat=p1 at *
          have Hg4:=hid g4
          clear hp0 g2 g4 hpe
          go_wp2
          go_roundw
          case rel=>exact ⟨hKb.trans hG12.any,p1,sb,rfl,hTb.grow hG12,hsb,g3,hgs.symm⟩
          case measure=>
           rw[Hm2.out,Hmu.out]
           simpa [intOf] using Hg4.out
         ·have Hno:=hid (show res=none by rw[Hr.out, ←Hg.out,Zi3 hal (by rw[←Hps.out,hMb1])];rfl)
          cases hbd:ZbF sb.1 with
          |true=>
           go_wp2_with fail
           refine (ZU aa _ ca sb.1 _ rAb (by omega)).mono ?_
           rintro e w9 ⟨rfl,hQ9⟩
           rw[hbd]
           go_wp2
           go_ret
           exact ⟨false,sb,rfl,hTb.grow hQ9.grow,(hG2.any.trans hKb).trans hQ9.grow.any,(fun h=>by cases h),fun _=>Hno.out⟩
          |false=>
           have hbu:ZbF sb.2=true:=ZaR.2 (hMb2.resolve_left fun h=>by rw[ZaR.2 h] at hbd;cases hbd)
           go_wp2_with fail
           refine (ZU aa _ ca sb.1 _ rAb (by omega)).mono ?_
           rintro e w9 ⟨rfl,hQ9⟩
           rw[hbd]
           have hG9:=hQ9.grow
           obtain ⟨⟨b0,b1,b2⟩, -⟩:=(bUb.grow hG9).three
           go_wp2_with fail
           refine (ZU au _ cu sb.2 _ (rUb.grow hG9) (by omega)).mono ?_
           rintro e w10 ⟨rfl,hQ10⟩
           rw[hbu]
           go_wp2
           go_ret
           exact ⟨false,sb,rfl,(hTb.grow hG9).grow hQ10.grow,((hG2.any.trans hKb).trans hG9.any).trans hQ10.grow.any,(fun h=>by cases h),fun _=>Hno.out⟩
   ·have Hn:=hid (show res=some s by rw[←Hh.out,Ziy (by omega)])
    go_wp2
    go_ret
    exact ⟨true,s,rfl,hT,hG2.any.trans hK,fun _=>Hn.out,fun h=>by cases h⟩
  ·have Hn:=hid (show res=some s by rw[←Hh.out,show C-j=0 by omega];rfl)
   go_wp2
   go_ret
   exact ⟨true,s,rfl,hT,hG2.any.trans hK,fun _=>Hn.out,fun h=>by cases h⟩

end Go.Proofs.YtgeoehnbpkediaaGreat
