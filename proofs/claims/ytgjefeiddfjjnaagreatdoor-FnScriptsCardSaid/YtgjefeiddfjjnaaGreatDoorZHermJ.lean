/- The program's HermiteForm. -/
import Derived.Test.YtgjefeiddfjjnaaGreatDoorZHermY
import Derived.Deep.CutRange
import Derived.Deep.CutBlock
set_option maxHeartbeats 8000000
set_option maxRecDepth 100000
namespace Go.Proofs.YtgjefeiddfjjnaaGreatDoor
open Go.RowKit
open Lib (hid)
open Go.Value renaming int->Yv
open Go.IntKind renaming i64->Yi
open Nat renaming mul_le_mul->JL,sub_self->LF,zero_le->JI
open Go.Proofs.Tryz renaming func219->Qf,ntmps219->Qg,prog->JG
variable {C R c n:Nat} {S:Nat->Prop} {a:Option Addr} {cells:List Int} {w:World}
def bdW (w:World) (g:Nat):Bool:=match w.cell? ⟨g,9,none⟩ with |some (.bool b)=>b|_=>false
theorem Zla {g:Nat} {aa au ar:Option Addr} {ca cu cr:Nat} {b:Bool} (h:Wk w g R C aa au ar ca cu cr b):bdW w g=b:=by unfold bdW;rw[h.f.c9]
theorem Zg3 {m:Mat} {mr mc:Int} (hVM:VM w S (.agg #[Yv Yi mr,Yv Yi mc, .slice a n c]) m) (hb:bdM m<=1048576) (hB:Zd m=false):
  Calls JG 219 #[.agg #[Yv Yi mr,Yv Yi mc, .slice a n c]] w fun e w'=>e= .returned (.tuple #[.agg #[Yv Yi 0,Yv Yi 0, .slice none 0 0], .agg #[Yv Yi 0,Yv Yi 0, .slice none 0 0], .bool false])/\Grow w w':=by
 obtain ⟨f,b,hG,g,bR1,bR2, -⟩:=al3 w #[Yv Yi mr,Yv Yi mc, .slice a n c] 37 #[Yv Yi 0,Yv Yi 0, .slice none 0 0] 37 #[Yv Yi 0,Yv Yi 0, .slice none 0 0] 37;have d:=hid b;clear b;have HB:=hid hB;clear hB;go_enter Qf,Qg;go_wp2_with fail;rw[←d.out];refine (ZG (hVM.grow hG) I).mono ?_;exact Gh
theorem ZiF (h:RdI w S a n c cells) (hl:cells.length=R*C) (hnum:NumL cells) (hR:R<=24) (hC:C<=24):
  Calls JG 219 #[.agg #[Yv Yi R,Yv Yi C, .slice a n c]] w fun e w'=>Grow w w'/\((ZbP cells R C=none/\e= .returned (.tuple #[.agg #[Yv Yi 0,Yv Yi 0, .slice none 0 0], .agg #[Yv Yi 0,Yv Yi 0, .slice none 0 0], .bool false]))\/
   ∃ s aa ca au cu,ZbP cells R C=some s/\e= .returned (.tuple #[.agg #[Yv Yi R,Yv Yi C, .slice aa (R*C) ca], .agg #[Yv Yi R,Yv Yi R, .slice au (R*R) cu], .bool true])/\(Own w' 3 1 aa (R*C) ca (ints s.1)/\(∀ q,blk aa=some q->w.heap.size<=q)/\NumL s.1)/\RdI w' (fun q=>w.heap.size<=q) au (R*R) cu s.2):=by
 have d4:R*C<=24*24:=JL hR hC;have d5:R*R<=24*24:=JL hR hR;have hB:=Zay hR hC hl hnum;obtain ⟨mr,cs⟩: ∃ mr:Int,mr=R:=⟨_,rfl⟩;obtain ⟨mc,ct⟩: ∃ mc:Int,mc=C:=⟨_,rfl⟩;have b3:VM w S (.agg #[Yv Yi R,Yv Yi C, .slice a n c]) {rows:=(R:Int),cols:=(C:Int),cells:=cells}:=⟨a,n,c,rfl,h,δ,η⟩;rw[←cs, ←ct] at b3 hB ⊢;obtain ⟨w3,cv,hG,bM,cw,b4, -⟩:=al3 w #[Yv Yi mr,Yv Yi mc, .slice a n c] 37 #[Yv Yi 0,Yv Yi 0, .slice none 0 0] 37 #[Yv Yi 0,Yv Yi 0, .slice none 0 0] 37;have cx:=hid cv;clear cv;subst cs;subst ct;have HB:=hid hB;clear hB;obtain ⟨v,ap⟩:=eX (ZbP cells R C);rw[←ap];have aq:ZW C R C 0 0 (cells,idL R)=v:=ap.symm;have av:=hid aq;clear ap aq;go_enter Qf,Qg;go_wp2_with fail;rw[←cx.out];refine (ZG (b3.grow hG) Ar).mono ?_;rintro e w4 ⟨rfl,O⟩;rw[HB.out];have b5:=bM.grow O;obtain ⟨⟨a0,a1,a2⟩, -⟩:=b5.three;have dq:=(hG.trans O).size;have d6:w.heap.size+1+1<w4.heap.size:=(b4.grow O).lt;go_wp2_with fail;refine (ZrF ((h.grow hG).grow O) hl hR hC).mono ?_;rintro e w5 ⟨g,aa,au,ar,ca,rfl,b6,b7,hg,fA,fU,aw⟩;have b8:Hs C R (cells,idL R):=⟨hl,Zbl R,hnum,Zbi R⟩;have b9:=b5.grow aw;have cy:=(cw.grow O).grow aw;have cz:=(b4.grow O).grow aw;have c6:=(hG.trans O).trans aw;have cb: ∀ q,blk aa=some q->w.heap.size<=q/\q≠w.heap.size+1/\q≠w.heap.size+1+1:=fun q G=>by have:=fA q G;omega
 have cc: ∀ q,blk au=some q->w.heap.size<=q/\q≠w.heap.size+1/\q≠w.heap.size+1+1:=fun q G=>by have:=fU q G;omega
 have c7: ∀ q,q<w.heap.size->blk aa≠some q/\blk au≠some q/\q≠g:=fun q G=>⟨fun e=>by have:=fA q e;omega,fun e=>by have:=fU q e;omega,I⟩;have nM:blk aa≠some w.heap.size/\blk au≠some w.heap.size/\w.heap.size≠g:=⟨fun e=>by have:=fA _ e;omega,fun e=>by have:=fU _ e;omega,I⟩;have c8:blk aa≠some (w.heap.size+1)/\blk au≠some (w.heap.size+1)/\w.heap.size+1≠g:=⟨fun e=>by have:=fA _ e;omega,fun e=>by have:=fU _ e;omega,I⟩;have da:blk aa≠some (w.heap.size+1+1)/\blk au≠some (w.heap.size+1+1)/\w.heap.size+1+1≠g:=⟨fun e=>by have:=fA _ e;omega,fun e=>by have:=fU _ e;omega,I⟩;have d7:g≠w.heap.size+1/\g≠w.heap.size+1+1:=⟨I,I⟩;have bl:blk aa≠some g:=fun e=>(fA g e).2 rfl;have bm:blk au≠some g:=fun e=>(fU g e).2 rfl;clear hG O aw bM b5 cw b4 a0 a1 a2 cx b3 fA fU dq HB h
 go_upto_block 0 with fail
 go_cut [] from 6 (fun wx=>Keep (fun q=>blk aa≠some q/\blk au≠some q/\q≠g) w5 wx/\ ∃ (b:Bool) (s:HS),Wk wx g R C aa au ar ca (R*R) (C*C) b/\Two wx aa au (R*C) (R*R) ca (R*R) s/\((b=false/\Hs C R s/\v=some s)\/(b=true/\v=none)))
 case rest=>as_aux_lemma=>
  clear b6 b7 b8 av;obtain ⟨aj,bx,sx,Wx,Tx,H⟩:=hcut;rcases H with ⟨rfl,db,hn⟩|⟨rfl,hn⟩
  ·have Hn:=hid hn;clear hn;have bn:=cy.keep aj c8;have bo:=cz.keep aj da;obtain ⟨c0,c1,c2,c3,c4,c5,c9,f9⟩:=Wx.f;have cd:=c6.keep aj c7;go_wp2;refine Zcr (fun q=>q≠w.heap.size+1/\q≠w.heap.size+1+1) [([0,1,2,3,4,5,6,7],some 8),([],some 9),([10],none)] ?_;refine Zh ?_;obtain ⟨w8,hw8⟩:=eX wc.drew;rw[←hw8];have ak:Grow wc w8:=Ct;clear hw8;have dc:=bn.grow ak;have dr:=bo.grow ak;refine Zu rfl (fun K hK=> ?_);obtain ⟨⟨a0,a1,a2⟩,f0,f1,f2⟩:=dc.three;go_wp2_with fail;have ae:Keep (fun q=>q≠w.heap.size+1) w8 (((w8.setCell ⟨w.heap.size+1,0,none⟩ (Yv Yi (R:Int))).setCell ⟨w.heap.size+1,1,none⟩ (Yv Yi (C:Int))).setCell ⟨w.heap.size+1,2,none⟩ (.slice aa (R*C) ca)):=
    kS
   have ds:=((dc.set 0 (Yv Yi (R:Int))).set 1 (Yv Yi (C:Int))).set 2 (.slice aa (R*C) ca);have dd:=dr.keep ae I;refine hK _ _ (((ak.mono fun _ _ _=>trivial).trans (ae.mono fun q _ hb=>hb.1))) ?_;clear hK K;generalize (((w8.setCell ⟨w.heap.size+1,0,none⟩ (Yv Yi (R:Int))).setCell ⟨w.heap.size+1,1,none⟩ (Yv Yi (C:Int))).setCell ⟨w.heap.size+1,2,none⟩ (.slice aa (R*C) ca))=w9 at *;clear a0 a1 a2 f0 f1 f2;refine Zh ?_;refine Zu rfl (fun K hK=> ?_);obtain ⟨⟨b0,b1,b2⟩,g0,g1,g2⟩:=dd.three;go_wp2_with fail;have J:Keep (fun q=>q≠w.heap.size+1+1) w9 (((w9.setCell ⟨w.heap.size+1+1,0,none⟩ (Yv Yi (R:Int))).setCell ⟨w.heap.size+1+1,1,none⟩ (Yv Yi (R:Int))).setCell ⟨w.heap.size+1+1,2,none⟩ (.slice au (R*R) (R*R))):=
    kS
   have dt:=((dd.set 0 (Yv Yi (R:Int))).set 1 (Yv Yi (R:Int))).set 2 (.slice au (R*R) (R*R));have dv:=ds.keep J I;refine hK _ _ ((((ak.mono fun _ _ _=>trivial).trans (ae.mono fun q _ hb=>hb.1)).trans (J.mono fun q _ hb=>hb.2))) ?_;clear hK K;refine Zh ?_;refine Ze ?_;have dw:=((cd.trans ak).keep ae (fun q G=>I)).keep J (fun q G=>I);have de:=(((Tx.grow ak).keep ae (fun q G=>(cb q G).2.1) (fun q G=>(cc q G).2.1))).keep J (fun q G=>(cb q G).2.2) (fun q G=>(cc q G).2.2);go_wp2;exact Zv Zc Zc rfl rfl rfl rfl dv dt ⟨dw, .inr ⟨sx,aa,ca,au,R*R,Hn.out,rfl,⟨de.oa,fun q G=>(cb q G).1,db.na⟩,de.ou.rdI (fun q G=>(cc q G).1) (Zp db.nu)⟩⟩
  ·have Hn:=hid hn;clear hn;have bn:=cy.keep aj c8;have bo:=cz.keep aj da;obtain ⟨⟨a0,a1,a2⟩,f0,f1,f2⟩:=bn.three;obtain ⟨⟨b0,b1,b2⟩,g0,g1,g2⟩:=bo.three;obtain ⟨_,_,_,_,_,_,c9,_⟩:=Wx.f;have cd:=c6.keep aj c7;go_wp2;have h1:w.heap.size<=w.heap.size+1:=I;have h2:w.heap.size<=w.heap.size+1+1:=I;exact Zv Zc Zc rfl rfl rfl rfl ((((((bn.set 0 _).set 1 _).set 2 _).other Θ _).other Θ _).other Θ _) ((((((bo.other Θ _).other Θ _).other Θ _).set 0 _).set 1 _).set 2 _) ⟨(((((cd.setCell h1 _).setCell h1 _).setCell h1 _).setCell h2 _).setCell h2 _).setCell h2 _, .inl ⟨Hn.out,rfl⟩⟩
 go_wp2;go_loopw [6,7] (fun tv jv wr=>Keep (fun q=>blk aa≠some q/\blk au≠some q/\q≠g) w5 wr/\ ∃ (t j:Nat) (b:Bool) (s:HS),t<=R/\j<=C/\tv=Yv Yi t/\jv=Yv Yi j/\Wk wr g R C aa au ar ca (R*R) (C*C) b/\Two wr aa au (R*C) (R*R) ca (R*R) s/\((b=false/\Hs C R s/\ZW C R (C-j) j t s=v)\/(b=true/\v=none))) (fun _ jv _=>C-(intOf jv).toNat);case atStart=>exact ⟨Keep.refl _ _,0,0,false,_,JI _,JI _,rfl,rfl,b6,b7, .inl ⟨rfl,b8,av.out⟩⟩
 case round=>
  clear b6 b7 b8 av;obtain ⟨hK,t,j,b,s,ht,hj,rfl,rfl,hW,hT,H⟩:=hrel;have P:=b9.keep hK nM;obtain ⟨⟨m0,m1,m2⟩, -⟩:=P.three;obtain ⟨c0,c1,c2,c3,c4,c5,c9,f9⟩:=hW.f;rcases H with ⟨rfl,hs,hh⟩|⟨rfl,hn⟩
  ·have Hh:=hid hh;clear hh;by_cases hjC:j<C
   ·by_cases htR:t<R
    ·have o:ZW C R (C-j) j t s=if Zr s.1 C j t (R-t)<0 then ZW C R (C-(j+1)) (j+1) t s else (Zeg C R j t s (Zr s.1 C j t (R-t)).toNat).bind fun r=>(ZiR C R j t r.2 r.1).bind (ZW C R (C-(j+1)) (j+1) (t+1)):=Ev;go_wp2_with fail;refine (Zmf g R C t j aa au ar ca _ _ s _ hW hT hs ht hjC hR hC).mono ?_;rintro e w6 ⟨rfl,bp⟩;have ce:=hK.trans bp.any;have cf:=hT.grow bp;have cg:=hW.grow bp;by_cases ax:Zr s.1 C j t (R-t)<0
     ·have Hn:=hid (show ZW C R (C-(j+1)) (j+1) t s=v by rw[←Hh.out,o,if_pos ax]);clear o;go_wp2;go_roundw;case rel=>exact ⟨ce,t,j+1,false,s,ht,I,rfl,Δ,cg,cf, .inl ⟨rfl,hs,Hn.out⟩⟩
      case measure=>exact FN
     ·have hv:=Piv.of (m:=s.1) (C:=C) (R:=R) (j:=j) (t:=t) ht I;rw[if_neg ax] at o;have ay:((Zr s.1 C j t (R-t)).toNat:Int)=Zr s.1 C j t (R-t):=I;rw[←ay];generalize (Zr s.1 C j t (R-t)).toNat=p0 at *;obtain ⟨gr,ch⟩:=eX (Zeg C R j t s p0);have Hr:=hid (show v=gr.bind fun r=>(ZiR C R j t r.2 r.1).bind (ZW C R (C-(j+1)) (j+1) (t+1)) by rw[←Hh.out,o,ch]);clear o ax ay P m0 m1 m2 c0 c1 c2 c3 c4 c5 c9 f9 hT hK hW bp Hh;go_wp2;go_loopw [8] (fun pv wr=>Keep (fun q=>blk aa≠some q/\blk au≠some q/\q≠g) w5 wr/\ ∃ (p:Nat) (b:Bool) (s:HS),pv=Yv Yi p/\Wk wr g R C aa au ar ca (R*R) (C*C) b/\Two wr aa au (R*C) (R*R) ca (R*R) s/\((b=false/\Hs C R s/\Piv s.1 C R j p t/\Zeg C R j t s p=gr)\/(b=true/\gr=none))) (fun pv wr=>if bdW wr g=true then 0 else mu (rdL wr aa (R*C)) C R j (intOf pv).toNat t+1);case atStart=>exact ⟨ce,p0,false,s,rfl,cg,cf, .inl ⟨rfl,hs,hv,ch.symm⟩⟩
      case round=>
       clear ce cf cg hs hv ch;obtain ⟨hK,p,b,s,rfl,hW,hT,H⟩:=hrel;have Hbd:=hid (Zla hW);obtain ⟨c0,c1,c2,c3,c4,c5,c9,f9⟩:=hW.f;have P:=b9.keep hK nM;obtain ⟨⟨m0,m1,m2⟩, -⟩:=P.three;rcases H with ⟨rfl,hs,hv,bq⟩|⟨rfl,bq⟩
       ·have Hg:=hid bq;clear bq;have hpR:=hv.hi;have d8:=hv.lo;have df:=hid (ZeV hT.oa);go_wp2_with fail;refine (ZqU g R C t p j aa au ar ca _ _ s _ hW hT hs ht hjC hR hC).mono ?_;rintro e w7 ⟨rfl,br⟩;have az:=hK.trans br.any;have a3:=hT.grow br;have al:=hW.grow br;clear c0 c1 c2 c3 c4 c5 c9 f9 m0 m1 m2 P hK hT hW br;cases a4:ZaW s.1 C R j p t with
        |true=>as_aux_lemma=>
         have dg:gr=some (s,p):=(by rw[←Hg.out,Zmp a4]);have ci:=hid (show v=(red C R j t t 0 (Zdc C R j t (Zcy C R p t s))).bind (ZW C R (C-(j+1)) (j+1) (t+1)) by rw[Hr.out,dg];rfl);clear dg Hr Hg;obtain ⟨c0,c1,c2,c3,c4,c5,c9,f9⟩:=al.f
         go_upto_if 128 with fail
         go_cut [] from 24 to 185 (fun wx=>Keep (fun q=>blk aa≠some q/\blk au≠some q/\q≠g) w5 wx/\ ∃ s1,Wk wx g R C aa au ar ca (R*R) (C*C) false/\Two wx aa au (R*C) (R*R) ca (R*R) s1/\Hs C R s1/\cell s1.1 C t j≠0/\v=(red C R j t t 0 (Zdc C R j t s1)).bind (ZW C R (C-(j+1)) (j+1) (t+1)))
         case first=>as_aux_lemma=>
          by_cases hpe:p=t
          ·have T:=hid (show v=(red C R j t t 0 (Zdc C R j t s)).bind (ZW C R (C-(j+1)) (j+1) (t+1)) by rw[ci.out];unfold Zcy;rw[if_pos hpe]);have A:cell s.1 C t j≠0:=(by rw[←hpe];exact hv.ne);have q1:((p:Int)!=(t:Int))=false:=(by rw[hpe];simp);have cj:=hid A;clear hpe A;go_wp2
           go_meet
           exact ⟨az,s,al,a3,hs,cj.out,T.out⟩
          ·have T:=hid (show v=(red C R j t t 0 (Zdc C R j t (sw2 C R p t s))).bind (ZW C R (C-(j+1)) (j+1) (t+1)) by rw[ci.out];unfold Zcy;rw[if_neg hpe]);have A:cell (sw2 C R p t s).1 C t j≠0:=Cm;have q1:((p:Int)!=(t:Int))=true:=Ψ;have hs1:=ZnP (p:=p) (t:=t) hs;go_wp2_with fail;refine (Zj0 g R C p t aa au ar ca _ _ s _ al a3 bl bm hs hpR htR hpe hR hC).mono ?_;rintro e w8 ⟨rfl,am,an,ae⟩;have cj:=hid A;clear hpe A;go_wp2
           go_meet
           exact ⟨az.trans ae,_,am,an,hs1,cj.out,T.out⟩
         case rest=>as_aux_lemma=>
          clear az a3 hs hv a4 ci df al Hbd c0 c1 c2 c3 c4 c5 c9 f9;obtain ⟨ck,s1,am,an,hs1,A,a5⟩:=hcut;have T:=hid a5;clear a5;obtain ⟨c0,c1,c2,c3,c4,c5,c9,f9⟩:=am.f;have a5:=an.oa.rdI (S:=fun _=>True) (fun _ _=>trivial) (Zp hs1.na);have dh:=hid (show s1.1[t*C+j]? =some (cell s1.1 C t j) from ZU (by rw[hs1.la];exact Zf hjC htR));go_wp2_with fail;refine (ZaA aa _ ca C t j (t*C+j) (R:Int) _ s1.1 _ a5 rfl dh.out I I I I).mono ?_;rintro e d9 ⟨rfl,a6⟩;have bs:=ck.trans a6.any;have bt:=an.grow a6;have bv:=am.grow a6;clear dh a5 c0 c1 c2 c3 c4 c5 c9 f9;by_cases ai:cell s1.1 C t j<0
          case' pos=>have k:=ZlI (t:=t) hs1;have a7:cell (ZeQ C R t s1).1 C t j≠0:=D6;have cl:=hid (show v=(red C R j t t 0 (ZeQ C R t s1)).bind (ZW C R (C-(j+1)) (j+1) (t+1)) by rw[T.out];unfold Zdc;rw[if_pos ai]);go_wp2_with fail;refine (ZpH g R C t aa au ar ca _ _ s1 _ bv bt bl bm hs1 htR hR hC).mono ?_;rintro e ea ⟨rfl,a8,a9,bz⟩;have ba:=bs.trans bz;clear ai bt bs bv an hs1 A ck am T bz;generalize ZeQ C R t s1=s2 at *
          case' neg=>have cl:=hid (show v=(red C R j t t 0 s1).bind (ZW C R (C-(j+1)) (j+1) (t+1)) by rw[T.out];unfold Zdc;rw[if_neg ai]);have ba:=bs;have a9:=bt;have a7:=A;have k:=hs1;have a8:=bv;obtain ⟨s2,di⟩:=eX s1;subst di;have d3:0<=cell s2.1 C t j:=I;clear ai bt bs bv an hs1 A ck am T
          all_goals
           as_aux_lemma=>
            obtain ⟨d,hd⟩:=eX (cell s2.1 C t j);obtain ⟨rr,cm⟩:=eX (red C R j t t 0 s2);have dj:=hid (show v=rr.bind (ZW C R (C-(j+1)) (j+1) (t+1)) by rw[cm];exact cl.out);have bb:d≠0:=(by rw[hd];exact a7);have dk:=hid (show red C R j t (t-0) 0 s2=rr from cm.symm);have Hd:=hid hd.symm;clear hd cm a7 cl;go_wp2;go_loopw [13] (fun iv wr=>Keep (fun q=>blk aa≠some q/\blk au≠some q/\q≠g) w5 wr/\ ∃ (i:Nat) (b:Bool) (s:HS),i<=t/\iv=Yv Yi i/\Wk wr g R C aa au ar ca (R*R) (C*C) b/\Two wr aa au (R*C) (R*R) ca (R*R) s/\((b=false/\Hs C R s/\red C R j t (t-i) i s=rr/\cell s.1 C t j=d)\/(b=true/\rr=none))) (fun iv _=>t-(intOf iv).toNat);case atStart=>exact ⟨ba,0,false,s2,JI _,rfl,a8,a9, .inl ⟨rfl,k,dk.out,Hd.out⟩⟩
            case round=>
             clear ba a8 a9 k dk Hd;obtain ⟨hK,i,b,s2,hi,rfl,hW,hT,H⟩:=hrel;obtain ⟨c0,c1,c2,c3,c4,c5,c9,f9⟩:=hW.f;rcases H with ⟨rfl,k,x,F⟩|⟨rfl,x⟩
             ·by_cases dl:i<t
              ·have bc:i*C+j<R*C:=Zf hjC I;have bd:t*C+j<R*C:=Zf hjC htR;have V:=hT.oa.rdI (S:=fun _=>True) (fun _ _=>trivial) (Zp k.na);have bw:=hid (show s2.1[i*C+j]? =some (cell s2.1 C i j) from ZU (by rw[k.la];exact bc));have cn:=hid (show s2.1[t*C+j]? =some (cell s2.1 C t j) from ZU (by rw[k.la];exact bd));have E:=Zk k.na C i j;have af:=Zk k.na C t j;have B:cell s2.1 C t j≠0:=(by rw[F];exact bb);have G:=Ze9 E B;have W:=hid (show rr=(Zde C R i t (-(cell s2.1 C i j/cell s2.1 C t j)) s2).bind (red C R j t (t-(i+1)) (i+1)) by rw[←x,Zpn dl]);have ag:=hid F;have D:=hW.f;clear bc bd x F c3 c4 c5 f9;obtain ⟨w9,dx⟩:=eX wr;subst dx;go_wp2;refine ZaH [([0,1,2,3,4,5,7,8,9,10,11,12],some 6),([],some 13),([],some 14),([15,16,17,18,19,20,21],none)] ?_;refine Zjm D.c0 D.c1 D.c2 ?_;intro K hK;refine (ZaA aa _ ca C i j (i*C+j) (R:Int) _ s2.1 _ (V.grow (Grow.refl _).drew) rfl bw.out I I I I).mono ?_;rintro e co ⟨rfl,be⟩;have z:Grow w9 co:=(Grow.refl w9).drew.trans be;go_wp2_with fail;refine hK _ _ (z) ?_;clear hK K;refine Zjm D.c0 D.c1 D.c2 ?_;intro K hK;refine (ZaA aa _ ca C t j (t*C+j) (R:Int) _ s2.1 _ (V.grow z) rfl cn.out I I I I).mono ?_;rintro e dy ⟨rfl,bf⟩;have y:=z.trans bf;go_wp2_with fail;refine hK _ _ (y) ?_;clear hK K;refine Zjm D.c0 D.c1 D.c2 ?_;intro K hK;refine (ZdH _ _ _ E af B).mono ?_;rintro e _ ⟨rfl,rfl⟩;go_wp2_with fail;refine hK _ _ (y) ?_;clear hK K;refine ZuD D.c0 D.c1 D.c2 ?_;refine Ze ?_;go_wp2_with fail;refine (Zlj g R C i t (-(cell s2.1 C i j/cell s2.1 C t j)) aa au ar ca _ _ s2 _ (hW.grow y) (hT.grow y) bl bm k I htR I I hR hC).mono ?_;rintro e dz ⟨rfl,d0,L,X,Y,l,bg⟩;have Z:=(hK.trans y.any).trans bg;rcases l with ⟨rfl,l⟩|⟨rfl,l⟩
               ·obtain ⟨bh,ab⟩:=Zha k l;have M:=hid (show red C R j t (t-(i+1)) (i+1) L=rr by rw[W.out,l];rfl);have cp:=hid (show cell L.1 C t j=d by
                 rw[ab];show cell (addR s2.1 C i t _) C t j=d;rw[Zbt k.la I hjC,if_neg I];exact ag.out)
                clear l ab B;go_wp2;go_roundw;case rel=>exact ⟨Z,i+1,false,L,I,Δ,X,Y, .inl ⟨rfl,bh,M.out,cp.out⟩⟩
                case measure=>exact FN
               ·have M:=hid (show rr=none by rw[W.out,l];rfl);clear l B;go_wp2;go_roundw;case rel=>exact ⟨Z,i+1,true,L,I,Δ,X,Y, .inr ⟨rfl,M.out⟩⟩
                case measure=>exact FN
              ·have cq:i=t:=I;subst cq;rw[LF] at x;have Hn:=hid (show ZW C R (C-(j+1)) (j+1) (i+1) s2=v by rw[dj.out, ←x];rfl);clear x F;go_wp2;go_roundw;case rel=>exact ⟨hK,i+1,j+1,false,s2,I,I,Δ,Δ,hW,hT, .inl ⟨rfl,k,Hn.out⟩⟩
               case measure=>exact FN
             ·have Hn:=hid (show v=none by rw[dj.out,x];rfl);clear x;by_cases dl:i<t
              ·go_wp2;go_roundw;case rel=>exact ⟨hK,t+1,j+1,true,s2,I,I,Δ,Δ,hW,hT, .inr ⟨rfl,Hn.out⟩⟩
               case measure=>exact FN
              ·go_wp2;go_roundw;case rel=>exact ⟨hK,t+1,j+1,true,s2,I,I,Δ,Δ,hW,hT, .inr ⟨rfl,Hn.out⟩⟩
               case measure=>exact FN
        |false=>as_aux_lemma=>
         obtain ⟨ps,dm⟩:=eX (pass C R j p (R-t) t s);obtain ⟨d,hd⟩:=eX (cell s.1 C p j);have bb:d≠0:=(by rw[hd];exact hv.ne);have cr:=hid dm;have Hd:=hid hd;clear hd dm;go_wp2;go_loopw [9] (fun iv wr=>Keep (fun q=>blk aa≠some q/\blk au≠some q/\q≠g) w5 wr/\ ∃ (i:Nat) (b:Bool) (s:HS),t<=i/\i<=R/\iv=Yv Yi i/\Wk wr g R C aa au ar ca (R*R) (C*C) b/\Two wr aa au (R*C) (R*R) ca (R*R) s/\((b=false/\Hs C R s/\pass C R j p (R-i) i s=ps/\cell s.1 C p j=d)\/(b=true/\ps=none))) (fun iv _=>R-(intOf iv).toNat);case atStart=>exact ⟨az,t,false,s,Nat.le_refl _,ht,rfl,al,a3, .inl ⟨rfl,hs,cr.out.symm,Hd.out.symm⟩⟩
         case round=>
          clear az a3 al Hd;obtain ⟨hK,i,b,s2,eb,hi,rfl,hW,hT,H⟩:=hrel;have P:=b9.keep hK nM;obtain ⟨⟨m0,m1,m2⟩, -⟩:=P.three;have D:=hW.f;obtain ⟨c0,c1,c2,c3,c4,c5,c9,f9⟩:=hW.f;rcases H with ⟨rfl,k,x,F⟩|⟨rfl,x⟩
          ·by_cases bi:i<R
           ·have o:=Zow (C:=C) (R:=R) (j:=j) (p:=p) bi s2;have bc:i*C+j<R*C:=Zf hjC bi;have bd:p*C+j<R*C:=Zf hjC hpR;have dn:=hT.oa.rdI (S:=fun _=>True) (fun _ _=>trivial) (Zp k.na);have bw:=hid (show s2.1[i*C+j]? =some (cell s2.1 C i j) from ZU (by rw[k.la];exact bc));have cn:=hid (show s2.1[p*C+j]? =some (cell s2.1 C p j) from ZU (by rw[k.la];exact bd));have E:=Zk k.na C i j;have af:=Zk k.na C p j;clear bc bd;by_cases N:i=p
            ·rw[if_neg (fun h=>h.1 N)] at o;have bj:=hid (show pass C R j p (R-(i+1)) (i+1) s2=ps by rw[←o];exact x);have ag:=hid F;have q1:((i:Int)!=(p:Int))=false:=(by rw[N];simp);clear N o x F;go_wp2;go_roundw;case rel=>exact ⟨hK,i+1,false,s2,I,I,Δ,hW,hT, .inl ⟨rfl,k,bj.out,ag.out⟩⟩
             case measure=>exact FN
            ·have q1:((i:Int)!=(p:Int))=true:=Ψ;have bj:=hid x;have ag:=hid F;clear x F;go_wp2_with fail;refine (ZaA aa _ ca C i j (i*C+j) (R:Int) _ s2.1 _ dn rfl bw.out I I I I).mono ?_;rintro e w9 ⟨rfl,ad⟩;have J:=hK.trans ad.any;have bk:=hT.grow ad;have ao:=hW.grow ad;by_cases ah:cell s2.1 C i j=0
             ·have M:=hid (show pass C R j p (R-(i+1)) (i+1) s2=ps by rw[←bj.out,o,if_neg (fun h=>h.2 ah)]);rw[ah];clear N o ah;go_wp2;go_roundw;case rel=>exact ⟨J,i+1,false,s2,I,I,Δ,ao,bk, .inl ⟨rfl,k,M.out,ag.out⟩⟩
              case measure=>exact FN
             ·as_aux_lemma=>
              have q3:(cell s2.1 C i j !=0)=true:=(by simpa using ah);rw[if_pos ⟨N,ah⟩] at o;have W:=hid (show ps=(Zde C R i p (-(cell s2.1 C i j/cell s2.1 C p j)) s2).bind (pass C R j p (R-(i+1)) (i+1)) by rw[←bj.out,o]);have B:cell s2.1 C p j≠0:=(by rw[ag.out];exact bb);have G:=Ze9 E B;clear o bj hW hK hT D c0 c1 c2 c3 c4 c5 c9 f9 m0 m1 m2 P;have D:=ao.f;have V:=dn.grow ad;go_wp2;refine ZaH [([0,1,2,3,4,5,7,8,9,10,11,12],some 6),([],some 13),([],some 14),([15,16,17,18,19,20,21],none)] ?_;refine Zjm D.c0 D.c1 D.c2 ?_;intro K hK;refine (ZaA aa _ ca C i j (i*C+j) (R:Int) _ s2.1 _ (V.grow (Grow.refl _).drew) rfl bw.out I I I I).mono ?_;rintro e co ⟨rfl,be⟩;have z:Grow w9 co:=(Grow.refl w9).drew.trans be;go_wp2_with fail;refine hK _ _ (z) ?_;clear hK K;refine Zjm D.c0 D.c1 D.c2 ?_;intro K hK;refine (ZaA aa _ ca C p j (p*C+j) (R:Int) _ s2.1 _ (V.grow z) rfl cn.out I I I I).mono ?_;rintro e dy ⟨rfl,bf⟩;have y:=z.trans bf;go_wp2_with fail;refine hK _ _ (y) ?_;clear hK K;refine Zjm D.c0 D.c1 D.c2 ?_;intro K hK;refine (ZdH _ _ _ E af B).mono ?_;rintro e _ ⟨rfl,rfl⟩;go_wp2_with fail;refine hK _ _ (y) ?_;clear hK K;refine ZuD D.c0 D.c1 D.c2 ?_;refine Ze ?_;go_wp2_with fail;refine (Zlj g R C i p (-(cell s2.1 C i j/cell s2.1 C p j)) aa au ar ca _ _ s2 _ (ao.grow y) (bk.grow y) bl bm k bi hpR N I hR hC).mono ?_;rintro e dz ⟨rfl,d0,L,X,Y,l,bg⟩;have Z:=(J.trans y.any).trans bg;rcases l with ⟨rfl,l⟩|⟨rfl,l⟩
              ·obtain ⟨bh,ab⟩:=Zha k l;have M:=hid (show pass C R j p (R-(i+1)) (i+1) L=ps by rw[W.out,l];rfl);have cp:=hid (show cell L.1 C p j=d by
                rw[ab];show cell (addR s2.1 C i p _) C p j=d;rw[Zbt k.la bi hjC,if_neg (fun h=>N h.symm)];exact ag.out)
               clear l ab N ah B;go_wp2;go_roundw;case rel=>exact ⟨Z,i+1,false,L,I,I,Δ,X,Y, .inl ⟨rfl,bh,M.out,cp.out⟩⟩
               case measure=>exact FN
              ·have M:=hid (show ps=none by rw[W.out,l];rfl);clear l N ah B;go_wp2;go_roundw;case rel=>exact ⟨Z,i+1,true,L,I,I,Δ,X,Y, .inr ⟨rfl,M.out⟩⟩
               case measure=>exact FN
           ·have cq:i=R:=I;subst cq;rw[LF] at x;have hpe:pass C i j p (i-t) t s=some s2:=(by rw[←cr.out, ←x];rfl);obtain ⟨g1,g2,g3,g4,_,_⟩:=Zgb hjC hs hv a4 hpe;have dp:=ZmH hjC hs hv a4 hpe;rw[Hg.out] at dp;clear x F;go_wp2_with fail;refine (Zmf g i C t j aa au ar ca _ _ s2 _ hW hT k ht hjC hR hC).mono ?_;rintro e w9 ⟨rfl,ad⟩;have J:=hK.trans ad.any;have bk:=hT.grow ad;have ao:=hW.grow ad;have ay:((Zr s2.1 C j t (i-t)).toNat:Int)=Zr s2.1 C j t (i-t):=I;have d1:=hid (ZeV bk.oa);have Hb2:=hid (Zla ao);rw[←ay];generalize (Zr s2.1 C j t (i-t)).toNat=p1 at *;have d2:=hid g4;clear ay g2 g4 hpe;go_wp2;go_roundw;case rel=>exact ⟨J,p1,false,s2,rfl,ao,bk, .inl ⟨rfl,k,g3,dp.symm⟩⟩
            case measure=>rw[d1.out,df.out,Hb2.out,Hbd.out];simpa [intOf] using d2.out
          ·have Hgn:=hid (show gr=none by rw[←Hg.out,Zmr a4 (by rw[←cr.out,x])]);have Hb2:=hid (Zla hW);clear x;by_cases bi:i<R
           ·go_wp2;exact IK
           ·go_wp2;exact IK
       ·have Hn:=hid (show v=none by rw[Hr.out,bq];rfl);go_wp2
        exact Ir
    ·have Hn:=hid (show v=some s by rw[←Hh.out,ZlZ I]);go_wp2
     go_meet
     exact ⟨hK,false,s,hW,hT, .inl ⟨rfl,hs,Hn.out⟩⟩
   ·have Hn:=hid (show v=some s by rw[←Hh.out,show C-j=0 by omega];rfl);go_wp2
    go_meet
    exact ⟨hK,false,s,hW,hT, .inl ⟨rfl,hs,Hn.out⟩⟩
  ·have Hn:=hid hn;by_cases hjC:j<C
   ·by_cases htR:t<R
    ·go_wp2
     exact Ir
    ·go_wp2
     exact Ir
   ·go_wp2
    exact Ir
theorem Zja (h:RdI w S a n c cells) (hl:cells.length=R*C) (hnum:NumL cells) (hR:R<=24) (hC:C<=24):
  Calls JG 219 #[.agg #[Yv Yi R,Yv Yi C, .slice a n c]] w fun e w'=>Grow w w'/\((ZbP cells R C=none/\e= .returned (.tuple #[.agg #[Yv Yi 0,Yv Yi 0, .slice none 0 0], .agg #[Yv Yi 0,Yv Yi 0, .slice none 0 0], .bool false]))\/
   ∃ s aa ca au cu,ZbP cells R C=some s/\e= .returned (.tuple #[.agg #[Yv Yi R,Yv Yi C, .slice aa (R*C) ca], .agg #[Yv Yi R,Yv Yi R, .slice au (R*R) cu], .bool true])/\RdI w' (fun q=>w.heap.size<=q) aa (R*C) ca s.1/\RdI w' (fun q=>w.heap.size<=q) au (R*R) cu s.2):=by
 refine (ZiF h hl hnum hR hC).mono ?_;rintro e w' ⟨d,b⟩;refine ⟨d, ?_⟩;rcases b with b|⟨s,aa,ca,au,cu,f,g,⟨i,j,k⟩,l⟩
 ·exact .inl b
 ·exact .inr ⟨s,aa,ca,au,cu,f,g,i.rdI j (Zp k),l⟩

end Go.Proofs.YtgjefeiddfjjnaaGreatDoor
