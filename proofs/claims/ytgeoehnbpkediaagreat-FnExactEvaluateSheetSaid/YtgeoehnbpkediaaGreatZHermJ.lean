/- The program's HermiteForm. -/
import Derived.Test.YtgeoehnbpkediaaGreatZHermY
import Derived.Deep.Cut
import Derived.Deep.CutRange
import Derived.Deep.CutBlock
set_option maxHeartbeats 8000000
set_option maxRecDepth 100000
namespace Go.Proofs.YtgeoehnbpkediaaGreat
open Go.RowKit
open Lib (hid)
open Go.Value renaming int->Yv
open Go.IntKind renaming i64->Yi
variable {C R c n:Nat} {S:Nat->Prop} {a:Option Addr} {cells:List Int} {w:World}
def bdW (w:World) (g:Nat):Bool:=match w.cell? ⟨g,9,none⟩ with |some (.bool b)=>b|_=>false
theorem ZhG {g:Nat} {aa au ar:Option Addr} {ca cu cr:Nat} {b:Bool} (h:Wk w g R C aa au ar ca cu cr b):bdW w g=b:=by unfold bdW;rw[h.f.c9]
theorem Zfc {m:Mat} {mr mc:Int} (hVM:VM w S (.agg #[Yv Yi mr,Yv Yi mc, .slice a n c]) m) (hb:bdM m<=1048576) (hB:Zg m=false):
  Calls Tryz.prog 85 #[.agg #[Yv Yi mr,Yv Yi mc, .slice a n c]] w fun e w'=>e= .returned (.tuple #[.agg #[Yv Yi 0,Yv Yi 0, .slice none 0 0], .agg #[Yv Yi 0,Yv Yi 0, .slice none 0 0], .bool false])/\Grow w w':=by
 obtain ⟨w3,hw3⟩: ∃ w3,w3=((w.alloc (.cells #[Yv Yi mr,Yv Yi mc, .slice a n c] 28)).alloc (.cells #[Yv Yi 0,Yv Yi 0, .slice none 0 0] 28)).alloc (.cells #[Yv Yi 0,Yv Yi 0, .slice none 0 0] 28):=⟨_,rfl⟩
 have hG:Grow w w3:=by rw[hw3];exact (((Grow.refl w).alloc _ _).alloc _ _).alloc _ _
 have bM:Blk w3 w.heap.size #[Yv Yi mr,Yv Yi mc, .slice a n c] 28:=by rw[hw3];exact ((Blk.new w _ _).alloc _).alloc _
 have bR1:Blk w3 (w.heap.size+1) #[Yv Yi 0,Yv Yi 0, .slice none 0 0] 28:=by rw[hw3];exact (Blk.newAt _ _ _ (by simp)).alloc _
 have bR2:Blk w3 (w.heap.size+1+1) #[Yv Yi 0,Yv Yi 0, .slice none 0 0] 28:=by rw[hw3];exact Blk.newAt _ _ _ (by simp)
 have Hw3:=hid hw3;clear hw3
 have HB:=hid hB;clear hB
 go_enter Tryz.func85,Tryz.ntmps85
 go_wp2_with fail
 rw[←Hw3.out]
 refine (ZV (hVM.grow hG) (by omega)).mono ?_
 rintro e w4 ⟨rfl,hG4⟩
 rw[HB.out]
 replace bR1:=bR1.grow hG4
 replace bR2:=bR2.grow hG4
 replace hG:=hG.trans hG4
 obtain ⟨⟨a0,a1,a2⟩,f0,f1,f2⟩:=bR1.three
 obtain ⟨⟨b0,b1,b2⟩,g0,g1,g2⟩:=bR2.three
 go_wp2
 have h1:w.heap.size<=w.heap.size+1:=by omega
 have h2:w.heap.size<=w.heap.size+1+1:=by omega
 refine Zw Za Za rfl rfl rfl rfl ((((((bR1.set 0 _).set 1 _).set 2 _).other (by simp) _).other (by simp) _).other (by simp) _) ((((((bR2.other (by simp) _).other (by simp) _).other (by simp) _).set 0 _).set 1 _).set 2 _) ?_
 exact ⟨rfl,(((((hG.setCell h1 _).setCell h1 _).setCell h1 _).setCell h2 _).setCell h2 _).setCell h2 _⟩
theorem ZgE (h:RdI w S a n c cells) (hl:cells.length=R*C) (hnum:NumL cells) (hR:R<=24) (hC:C<=24):
  Calls Tryz.prog 85 #[.agg #[Yv Yi R,Yv Yi C, .slice a n c]] w fun e w'=>Grow w w'/\((Zbv cells R C=none/\e= .returned (.tuple #[.agg #[Yv Yi 0,Yv Yi 0, .slice none 0 0], .agg #[Yv Yi 0,Yv Yi 0, .slice none 0 0], .bool false]))\/
   ∃ s aa ca au cu,Zbv cells R C=some s/\e= .returned (.tuple #[.agg #[Yv Yi R,Yv Yi C, .slice aa (R*C) ca], .agg #[Yv Yi R,Yv Yi R, .slice au (R*R) cu], .bool true])/\(Own w' 3 1 aa (R*C) ca (ints s.1)/\(∀ q,blk aa=some q->w.heap.size<=q)/\NumL s.1)/\RdI w' (fun q=>w.heap.size<=q) au (R*R) cu s.2):=by
 have hRC:R*C<=24*24:=Nat.mul_le_mul hR hC
 have hRR:R*R<=24*24:=Nat.mul_le_mul hR hR
 have hB:=ZaF hR hC hl hnum
 obtain ⟨mr,hmr⟩: ∃ mr:Int,mr=R:=⟨_,rfl⟩
 obtain ⟨mc,hmc⟩: ∃ mc:Int,mc=C:=⟨_,rfl⟩
 have hVM:VM w S (.agg #[Yv Yi R,Yv Yi C, .slice a n c]) {rows:=(R:Int),cols:=(C:Int),cells:=cells}:=⟨a,n,c,rfl,h,by show I64 (R:Int);unfold I64;omega,by show I64 (C:Int);unfold I64;omega⟩
 rw[←hmr, ←hmc] at hVM hB ⊢
 obtain ⟨w3,hw3⟩: ∃ w3,w3=((w.alloc (.cells #[Yv Yi mr,Yv Yi mc, .slice a n c] 28)).alloc (.cells #[Yv Yi 0,Yv Yi 0, .slice none 0 0] 28)).alloc (.cells #[Yv Yi 0,Yv Yi 0, .slice none 0 0] 28):=⟨_,rfl⟩
 have hG:Grow w w3:=by rw[hw3];exact (((Grow.refl w).alloc _ _).alloc _ _).alloc _ _
 have bM:Blk w3 w.heap.size #[Yv Yi mr,Yv Yi mc, .slice a n c] 28:=by rw[hw3];exact ((Blk.new w _ _).alloc _).alloc _
 have bR1:Blk w3 (w.heap.size+1) #[Yv Yi 0,Yv Yi 0, .slice none 0 0] 28:=by rw[hw3];exact (Blk.newAt _ _ _ (by simp)).alloc _
 have bR2:Blk w3 (w.heap.size+1+1) #[Yv Yi 0,Yv Yi 0, .slice none 0 0] 28:=by rw[hw3];exact Blk.newAt _ _ _ (by simp)
 have Hw3:=hid hw3;clear hw3
 subst hmr
 subst hmc
 have HB:=hid hB;clear hB
 obtain ⟨res,hres⟩: ∃ res,res=Zbv cells R C:=⟨_,rfl⟩
 rw[←hres]
 have hres':Z0 C R C 0 0 (cells,idL R)=res:=hres.symm
 have Hres:=hid hres'
 clear hres hres'
 go_enter Tryz.func85,Tryz.ntmps85
 go_wp2_with fail
 rw[←Hw3.out]
 refine (ZV (hVM.grow hG) (by unfold bdM;simp;omega)).mono ?_
 rintro e w4 ⟨rfl,hG4⟩
 rw[HB.out]
 have bM4:=bM.grow hG4
 obtain ⟨⟨a0,a1,a2⟩, -⟩:=bM4.three
 have hs4:=(hG.trans hG4).size
 have hlR:w.heap.size+1+1<w4.heap.size:=(bR2.grow hG4).lt
 go_wp2_with fail
 refine (Zl7 ((h.grow hG).grow hG4) hl hR hC).mono ?_
 rintro e w5 ⟨g,aa,au,ar,ca,rfl,hW0,hT0,hg,fA,fU,hG5⟩
 have hs0:Hs C R (cells,idL R):=⟨hl,Zba R,hnum,Za9 R⟩
 have bM5:=bM4.grow hG5
 have bRa:=(bR1.grow hG4).grow hG5
 have bRb:=(bR2.grow hG4).grow hG5
 have hGo:=(hG.trans hG4).trans hG5
 have fA': ∀ q,blk aa=some q->w.heap.size<=q/\q≠w.heap.size+1/\q≠w.heap.size+1+1:=fun q hq=>by have:=fA q hq;omega
 have fU': ∀ q,blk au=some q->w.heap.size<=q/\q≠w.heap.size+1/\q≠w.heap.size+1+1:=fun q hq=>by have:=fU q hq;omega
 have hTo: ∀ q,q<w.heap.size->blk aa≠some q/\blk au≠some q/\q≠g:=fun q hq=>⟨fun e=>by have:=fA q e;omega,fun e=>by have:=fU q e;omega,by omega⟩
 have nM:blk aa≠some w.heap.size/\blk au≠some w.heap.size/\w.heap.size≠g:=⟨fun e=>by have:=fA _ e;omega,fun e=>by have:=fU _ e;omega,by omega⟩
 have nR1:blk aa≠some (w.heap.size+1)/\blk au≠some (w.heap.size+1)/\w.heap.size+1≠g:=⟨fun e=>by have:=fA _ e;omega,fun e=>by have:=fU _ e;omega,by omega⟩
 have nR2:blk aa≠some (w.heap.size+1+1)/\blk au≠some (w.heap.size+1+1)/\w.heap.size+1+1≠g:=⟨fun e=>by have:=fA _ e;omega,fun e=>by have:=fU _ e;omega,by omega⟩
 have ngR:g≠w.heap.size+1/\g≠w.heap.size+1+1:=⟨by omega,by omega⟩
 have ngA:blk aa≠some g:=fun e=>(fA g e).2 rfl
 have ngU:blk au≠some g:=fun e=>(fU g e).2 rfl
 clear hG hG4 hG5 bM bM4 bR1 bR2 a0 a1 a2 Hw3 hVM fA fU hs4 HB h
 go_upto_block 0 with fail
 go_cut [] from 6 (fun wx=>Keep (fun q=>blk aa≠some q/\blk au≠some q/\q≠g) w5 wx/\ ∃ (b:Bool) (s:HS),Wk wx g R C aa au ar ca (R*R) (C*C) b/\Two wx aa au (R*C) (R*R) ca (R*R) s/\((b=false/\Hs C R s/\res=some s)\/(b=true/\res=none)))
 case rest=>as_aux_lemma=>
  clear hW0 hT0 hs0 Hres
  obtain ⟨hKx,bx,sx,Wx,Tx,hst⟩:=hcut
  rcases hst with ⟨rfl,hsx,hn⟩|⟨rfl,hn⟩
  ·have Hn:=hid hn
   clear hn
   have bRx:=bRa.keep hKx nR1
   have bRy:=bRb.keep hKx nR2
   obtain ⟨c0,c1,c2,c3,c4,c5,c9,f9⟩:=Wx.f
   have hGx:=hGo.keep hKx hTo
   go_wp2
   refine Zj (S:=(Keep (fun q=>q≠w.heap.size+1/\q≠w.heap.size+1+1) wc)) [([0,1,2,3,4,5,6,7],some 8),([],some 9),([10],none)] Zn (by kernel_rfl) (fun _ _ _ _ _ h=>h) (Keep.refl _ _).drew ?_
   show wpQuiet _ _ _ _ [_,_,_,_,_,_,_,_] _
   repeat (first |go_big_quiet_skip|(go_big_quiet_want;first |(apply Zi Za;rfl;rfl;exact (fun w' hG=>⟨hG.cell ngR c0,hG.cell ngR c1,hG.cell ngR c2⟩);go_big_quiet_on;simp only[putP])|(apply Zi Za;rfl;rfl;exact (fun w' hG=>⟨hG.cell ngR c3,hG.cell ngR c4,hG.cell ngR c5⟩);go_big_quiet_on;simp only[putP])|(go_big_quiet_op;first |go_big_quiet_on|(refine ⟨_,(fun _ _=>rfl), ?_⟩;go_big_quiet_on))))
   refine wpQuiet_nil ?_
   obtain ⟨w8,hw8⟩: ∃ w8,w8=wc.drew:=⟨_,rfl⟩
   rw[←hw8]
   have hG8:Grow wc w8:=by rw[hw8];exact (Grow.refl _).drew
   clear hw8
   have bR8:=bRx.grow hG8
   have bS8:=bRy.grow hG8
   refine Zk rfl (fun K hK=> ?_)
   obtain ⟨⟨a0,a1,a2⟩,f0,f1,f2⟩:=bR8.three
   go_wp2_with fail
   have hK8:Keep (fun q=>q≠w.heap.size+1) w8 (((w8.setCell ⟨w.heap.size+1,0,none⟩ (Yv Yi (R:Int))).setCell ⟨w.heap.size+1,1,none⟩ (Yv Yi (C:Int))).setCell ⟨w.heap.size+1,2,none⟩ (.slice aa (R*C) ca)):=
    (((Keep.refl _ w8).setCell (fun _ e=>e rfl) _).setCell (fun _ e=>e rfl) _).setCell (fun _ e=>e rfl) _
   have bR9:=((bR8.set 0 (Yv Yi (R:Int))).set 1 (Yv Yi (C:Int))).set 2 (.slice aa (R*C) ca)
   have bS9:=bS8.keep hK8 (by omega)
   refine hK _ _ (((hG8.mono fun _ _ _=>trivial).trans (hK8.mono fun q _ hb=>hb.1))) ?_
   clear hK K
   generalize (((w8.setCell ⟨w.heap.size+1,0,none⟩ (Yv Yi (R:Int))).setCell ⟨w.heap.size+1,1,none⟩ (Yv Yi (C:Int))).setCell ⟨w.heap.size+1,2,none⟩ (.slice aa (R*C) ca))=w9 at *
   clear a0 a1 a2 f0 f1 f2
   show wpQuiet _ _ _ _ [] _
   try (conv=>arg 6;simp only[putP])
   refine wpQuiet_nil ?_
   refine Zk rfl (fun K hK=> ?_)
   obtain ⟨⟨b0,b1,b2⟩,g0,g1,g2⟩:=bS9.three
   go_wp2_with fail
   have hK9:Keep (fun q=>q≠w.heap.size+1+1) w9 (((w9.setCell ⟨w.heap.size+1+1,0,none⟩ (Yv Yi (R:Int))).setCell ⟨w.heap.size+1+1,1,none⟩ (Yv Yi (R:Int))).setCell ⟨w.heap.size+1+1,2,none⟩ (.slice au (R*R) (R*R))):=
    (((Keep.refl _ w9).setCell (fun _ e=>e rfl) _).setCell (fun _ e=>e rfl) _).setCell (fun _ e=>e rfl) _
   have bSA:=((bS9.set 0 (Yv Yi (R:Int))).set 1 (Yv Yi (R:Int))).set 2 (.slice au (R*R) (R*R))
   have bRA:=bR9.keep hK9 (by omega)
   refine hK _ _ ((((hG8.mono fun _ _ _=>trivial).trans (hK8.mono fun q _ hb=>hb.1)).trans (hK9.mono fun q _ hb=>hb.2))) ?_
   clear hK K
   show wpQuiet _ _ _ _ [_] _
   try (conv=>arg 6;simp only[putP])
   repeat (first |go_big_quiet_skip|(go_big_quiet_want;first |(apply Zi Za;rfl;rfl;exact (fun w' hG=>⟨hG.cell ngR c0,hG.cell ngR c1,hG.cell ngR c2⟩);go_big_quiet_on;simp only[putP])|(apply Zi Za;rfl;rfl;exact (fun w' hG=>⟨hG.cell ngR c3,hG.cell ngR c4,hG.cell ngR c5⟩);go_big_quiet_on;simp only[putP])|(go_big_quiet_op;first |go_big_quiet_on|(refine ⟨_,(fun _ _=>rfl), ?_⟩;go_big_quiet_on))))
   refine wpQuiet_nil ?_
   refine Zm ?_
   have hGe:=((hGx.trans hG8).keep hK8 (fun q hq=>by omega)).keep hK9 (fun q hq=>by omega)
   have hTe:=(((Tx.grow hG8).keep hK8 (fun q hq=>(fA' q hq).2.1) (fun q hq=>(fU' q hq).2.1))).keep hK9 (fun q hq=>(fA' q hq).2.2) (fun q hq=>(fU' q hq).2.2)
   go_wp2
   exact Zw Za Za rfl rfl rfl rfl bRA bSA ⟨hGe, .inr ⟨sx,aa,ca,au,R*R,Hn.out,rfl,⟨hTe.oa,fun q hq=>(fA' q hq).1,hsx.na⟩,hTe.ou.rdI (fun q hq=>(fU' q hq).1) (ZC hsx.nu)⟩⟩
  ·have Hn:=hid hn
   clear hn
   have bRx:=bRa.keep hKx nR1
   have bRy:=bRb.keep hKx nR2
   obtain ⟨⟨a0,a1,a2⟩,f0,f1,f2⟩:=bRx.three
   obtain ⟨⟨b0,b1,b2⟩,g0,g1,g2⟩:=bRy.three
   obtain ⟨_,_,_,_,_,_,c9,_⟩:=Wx.f
   have hGx:=hGo.keep hKx hTo
   go_wp2
   have h1:w.heap.size<=w.heap.size+1:=by omega
   have h2:w.heap.size<=w.heap.size+1+1:=by omega
   exact Zw Za Za rfl rfl rfl rfl ((((((bRx.set 0 _).set 1 _).set 2 _).other (by simp) _).other (by simp) _).other (by simp) _) ((((((bRy.other (by simp) _).other (by simp) _).other (by simp) _).set 0 _).set 1 _).set 2 _) ⟨(((((hGx.setCell h1 _).setCell h1 _).setCell h1 _).setCell h2 _).setCell h2 _).setCell h2 _, .inl ⟨Hn.out,rfl⟩⟩
 go_wp2
 go_loopw [6,7] (fun tv jv wr=>Keep (fun q=>blk aa≠some q/\blk au≠some q/\q≠g) w5 wr/\ ∃ (t j:Nat) (b:Bool) (s:HS),t<=R/\j<=C/\tv=Yv Yi t/\jv=Yv Yi j/\Wk wr g R C aa au ar ca (R*R) (C*C) b/\Two wr aa au (R*C) (R*R) ca (R*R) s/\((b=false/\Hs C R s/\Z0 C R (C-j) j t s=res)\/(b=true/\res=none))) (fun _ jv _=>C-(intOf jv).toNat)
 case atStart=>exact ⟨Keep.refl _ _,0,0,false,_,Nat.zero_le _,Nat.zero_le _,rfl,rfl,hW0,hT0, .inl ⟨rfl,hs0,Hres.out⟩⟩
 case round=>
  clear hW0 hT0 hs0 Hres
  obtain ⟨hK,t,j,b,s,ht,hj,rfl,rfl,hW,hT,hst⟩:=hrel
  have bMr:=bM5.keep hK nM
  obtain ⟨⟨m0,m1,m2⟩, -⟩:=bMr.three
  obtain ⟨c0,c1,c2,c3,c4,c5,c9,f9⟩:=hW.f
  rcases hst with ⟨rfl,hs,hh⟩|⟨rfl,hn⟩
  ·have Hh:=hid hh;clear hh
   by_cases hjC:j<C
   ·by_cases htR:t<R
    ·have hunf:Z0 C R (C-j) j t s=if Zu s.1 C j t (R-t)<0 then Z0 C R (C-(j+1)) (j+1) t s else (Zdc C R j t s (Zu s.1 C j t (R-t)).toNat).bind fun r=>(ZgN C R j t r.2 r.1).bind (Z0 C R (C-(j+1)) (j+1) (t+1)):=by
      rw[show C-j=(C-(j+1))+1 by omega]
      simp only[Z0]
      rw[if_pos htR]
     go_wp2_with fail
     refine (ZiZ g R C t j aa au ar ca _ _ s _ hW hT hs ht hjC hR hC).mono ?_
     rintro e w6 ⟨rfl,hG6⟩
     have hK6:=hK.trans hG6.any
     have hT6:=hT.grow hG6
     have hW6:=hW.grow hG6
     by_cases hlt0:Zu s.1 C j t (R-t)<0
     ·have Hn:=hid (show Z0 C R (C-(j+1)) (j+1) t s=res by rw[←Hh.out,hunf,if_pos hlt0])
      clear hunf
      go_wp2
      go_roundw
      case rel=>exact ⟨hK6,t,j+1,false,s,ht,by omega,rfl,by go_num,hW6,hT6, .inl ⟨rfl,hs,Hn.out⟩⟩
      case measure=>simp[intOf];omega
     ·have hv:=Piv.of (m:=s.1) (C:=C) (R:=R) (j:=j) (t:=t) ht (by omega)
      rw[if_neg hlt0] at hunf
      have hp0:((Zu s.1 C j t (R-t)).toNat:Int)=Zu s.1 C j t (R-t):=by omega
      rw[←hp0]
      generalize (Zu s.1 C j t (R-t)).toNat=p0 at *
      obtain ⟨gr,hgr⟩: ∃ gr,gr=Zdc C R j t s p0:=⟨_,rfl⟩
      have Hr:=hid (show res=gr.bind fun r=>(ZgN C R j t r.2 r.1).bind (Z0 C R (C-(j+1)) (j+1) (t+1)) by rw[←Hh.out,hunf,hgr])
      clear hunf hlt0 hp0 bMr m0 m1 m2 c0 c1 c2 c3 c4 c5 c9 f9 hT hK hW hG6 Hh
      go_wp2
      go_loopw [8] (fun pv wr=>Keep (fun q=>blk aa≠some q/\blk au≠some q/\q≠g) w5 wr/\ ∃ (p:Nat) (b:Bool) (s:HS),pv=Yv Yi p/\Wk wr g R C aa au ar ca (R*R) (C*C) b/\Two wr aa au (R*C) (R*R) ca (R*R) s/\((b=false/\Hs C R s/\Piv s.1 C R j p t/\Zdc C R j t s p=gr)\/(b=true/\gr=none))) (fun pv wr=>if bdW wr g=true then 0 else mu (rdL wr aa (R*C)) C R j (intOf pv).toNat t+1)
      case atStart=>exact ⟨hK6,p0,false,s,rfl,hW6,hT6, .inl ⟨rfl,hs,hv,hgr.symm⟩⟩
      case round=>
       clear hK6 hT6 hW6 hs hv hgr
       obtain ⟨hK,p,b,s,rfl,hW,hT,hst⟩:=hrel
       have Hbd:=hid (ZhG hW)
       obtain ⟨c0,c1,c2,c3,c4,c5,c9,f9⟩:=hW.f
       have bMr:=bM5.keep hK nM
       obtain ⟨⟨m0,m1,m2⟩, -⟩:=bMr.three
       rcases hst with ⟨rfl,hs,hv,hg1⟩|⟨rfl,hg1⟩
       ·have Hg:=hid hg1;clear hg1
        have hpR:=hv.hi
        have hpt:=hv.lo
        have Hmu:=hid (Zdx hT.oa)
        go_wp2_with fail
        refine (ZlQ g R C t p j aa au ar ca _ _ s _ hW hT hs ht hjC hR hC).mono ?_
        rintro e w7 ⟨rfl,hG7⟩
        have hK7:=hK.trans hG7.any
        have hT7:=hT.grow hG7
        have hW7:=hW.grow hG7
        clear c0 c1 c2 c3 c4 c5 c9 f9 m0 m1 m2 bMr hK hT hW hG7
        cases hal:ZaT s.1 C R j p t with
        |true=>as_aux_lemma=>
         have hgd:gr=some (s,p):=by rw[←Hg.out,ZiA hal]
         have Hra:=hid (show res=(red C R j t t 0 (Zct C R j t (ZbZ C R p t s))).bind (Z0 C R (C-(j+1)) (j+1) (t+1)) by rw[Hr.out,hgd];rfl)
         clear hgd Hr Hg
         obtain ⟨c0,c1,c2,c3,c4,c5,c9,f9⟩:=hW7.f
         go_upto_if 128 with fail
         go_cut [] from 24 to 185 (fun wx=>Keep (fun q=>blk aa≠some q/\blk au≠some q/\q≠g) w5 wx/\ ∃ s1,Wk wx g R C aa au ar ca (R*R) (C*C) false/\Two wx aa au (R*C) (R*R) ca (R*R) s1/\Hs C R s1/\cell s1.1 C t j≠0/\res=(red C R j t t 0 (Zct C R j t s1)).bind (Z0 C R (C-(j+1)) (j+1) (t+1)))
         case first=>as_aux_lemma=>
          by_cases hpe:p=t
          ·have Hr1:=hid (show res=(red C R j t t 0 (Zct C R j t s)).bind (Z0 C R (C-(j+1)) (j+1) (t+1)) by rw[Hra.out];unfold ZbZ;rw[if_pos hpe])
           have hne1:cell s.1 C t j≠0:=by rw[←hpe];exact hv.ne
           have q1:((p:Int)!=(t:Int))=false:=by rw[hpe];simp
           have Hne:=hid hne1
           clear hpe hne1
           go_wp2
           go_meet
           exact ⟨hK7,s,hW7,hT7,hs,Hne.out,Hr1.out⟩
          ·have Hr1:=hid (show res=(red C R j t t 0 (Zct C R j t (sw2 C R p t s))).bind (Z0 C R (C-(j+1)) (j+1) (t+1)) by rw[Hra.out];unfold ZbZ;rw[if_neg hpe])
           have hne1:cell (sw2 C R p t s).1 C t j≠0:=by
            show cell (swR s.1 C p t) C t j≠0
            rw[ZdK hs.la hpR htR hpe hjC,if_neg (by omega),if_pos rfl];exact hv.ne
           have q1:((p:Int)!=(t:Int))=true:=by simp;omega
           have hs1:=Zj9 (p:=p) (t:=t) hs
           go_wp2_with fail
           refine (Zhm g R C p t aa au ar ca _ _ s _ hW7 hT7 ngA ngU hs hpR htR hpe hR hC).mono ?_
           rintro e w8 ⟨rfl,hW1,hT1,hK8⟩
           have Hne:=hid hne1
           clear hpe hne1
           go_wp2
           go_meet
           exact ⟨hK7.trans hK8,_,hW1,hT1,hs1,Hne.out,Hr1.out⟩
         case rest=>as_aux_lemma=>
          clear hK7 hT7 hs hv hal Hra Hmu hW7 Hbd c0 c1 c2 c3 c4 c5 c9 f9
          obtain ⟨hK1,s1,hW1,hT1,hs1,hne1,hr1⟩:=hcut
          have Hr1:=hid hr1
          clear hr1
          obtain ⟨c0,c1,c2,c3,c4,c5,c9,f9⟩:=hW1.f
          have hr1:=hT1.oa.rdI (S:=fun _=>True) (fun _ _=>trivial) (ZC hs1.na)
          have Hgt:=hid (show s1.1[t*C+j]? =some (cell s1.1 C t j) from Zai (by rw[hs1.la];exact Zl hjC htR))
          go_wp2_with fail
          refine (ZaZ aa _ ca C t j (t*C+j) (R:Int) _ s1.1 _ hr1 rfl Hgt.out (by omega) (by omega) (by omega) (by omega)).mono ?_
          rintro e w15 ⟨rfl,hG15⟩
          have hK5:=hK1.trans hG15.any
          have hT5:=hT1.grow hG15
          have hW5:=hW1.grow hG15
          clear Hgt hr1 c0 c1 c2 c3 c4 c5 c9 f9
          by_cases hneg:cell s1.1 C t j<0
          case' pos=>
           have hs2:=Zin (t:=t) hs1
           have hne2:cell (ZdM C R t s1).1 C t j≠0:=by
            show cell (ZcS s1.1 C t) C t j≠0
            rw[Zgr hs1.la htR hjC,if_pos rfl];omega
           have Hr2:=hid (show res=(red C R j t t 0 (ZdM C R t s1)).bind (Z0 C R (C-(j+1)) (j+1) (t+1)) by rw[Hr1.out];unfold Zct;rw[if_pos hneg])
           go_wp2_with fail
           refine (Zli g R C t aa au ar ca _ _ s1 _ hW5 hT5 ngA ngU hs1 htR hR hC).mono ?_
           rintro e w16 ⟨rfl,hWs2,hTs2,hK16⟩
           have hKs2:=hK5.trans hK16
           clear hneg hT5 hK5 hW5 hT1 hs1 hne1 hK1 hW1 Hr1 hK16
           generalize ZdM C R t s1=s2 at *
          case' neg=>
           have Hr2:=hid (show res=(red C R j t t 0 s1).bind (Z0 C R (C-(j+1)) (j+1) (t+1)) by rw[Hr1.out];unfold Zct;rw[if_neg hneg])
           have hKs2:=hK5;have hTs2:=hT5;have hne2:=hne1;have hs2:=hs1;have hWs2:=hW5
           obtain ⟨s2,hs20⟩: ∃ s2,s2=s1:=⟨_,rfl⟩
           subst hs20
           have hngi:0<=cell s2.1 C t j:=by omega
           clear hneg hT5 hK5 hW5 hT1 hs1 hne1 hK1 hW1 Hr1
          all_goals
           as_aux_lemma=>
            obtain ⟨d,hd⟩: ∃ d,d=cell s2.1 C t j:=⟨_,rfl⟩
            obtain ⟨rr,hrr⟩: ∃ rr,rr=red C R j t t 0 s2:=⟨_,rfl⟩
            have Hr3:=hid (show res=rr.bind (Z0 C R (C-(j+1)) (j+1) (t+1)) by rw[hrr];exact Hr2.out)
            have hdne:d≠0:=by rw[hd];exact hne2
            have Hrr:=hid (show red C R j t (t-0) 0 s2=rr from hrr.symm)
            have Hd:=hid hd.symm
            clear hd hrr hne2 Hr2
            go_wp2
            go_loopw [13] (fun iv wr=>Keep (fun q=>blk aa≠some q/\blk au≠some q/\q≠g) w5 wr/\ ∃ (i:Nat) (b:Bool) (s:HS),i<=t/\iv=Yv Yi i/\Wk wr g R C aa au ar ca (R*R) (C*C) b/\Two wr aa au (R*C) (R*R) ca (R*R) s/\((b=false/\Hs C R s/\red C R j t (t-i) i s=rr/\cell s.1 C t j=d)\/(b=true/\rr=none))) (fun iv _=>t-(intOf iv).toNat)
            case atStart=>exact ⟨hKs2,0,false,s2,Nat.zero_le _,rfl,hWs2,hTs2, .inl ⟨rfl,hs2,Hrr.out,Hd.out⟩⟩
            case round=>
             clear hKs2 hWs2 hTs2 hs2 Hrr Hd
             obtain ⟨hK,i,b,s2,hi,rfl,hW,hT,hst⟩:=hrel
             obtain ⟨c0,c1,c2,c3,c4,c5,c9,f9⟩:=hW.f
             rcases hst with ⟨rfl,hs2,hpp,hpd⟩|⟨rfl,hpp⟩
             ·by_cases hit:i<t
              ·have hni:i*C+j<R*C:=Zl hjC (by omega)
               have hnp:t*C+j<R*C:=Zl hjC htR
               have hrA9:=hT.oa.rdI (S:=fun _=>True) (fun _ _=>trivial) (ZC hs2.na)
               have Hgi:=hid (show s2.1[i*C+j]? =some (cell s2.1 C i j) from Zai (by rw[hs2.la];exact hni))
               have Hgp:=hid (show s2.1[t*C+j]? =some (cell s2.1 C t j) from Zai (by rw[hs2.la];exact hnp))
               have hnumi:=Zt hs2.na C i j
               have hnump:=Zt hs2.na C t j
               have hpne:cell s2.1 C t j≠0:=by rw[hpd];exact hdne
               have hq:=ZdG hnumi hpne
               have Hunf:=hid (show rr=(Zcu C R i t (-(cell s2.1 C i j/cell s2.1 C t j)) s2).bind (red C R j t (t-(i+1)) (i+1)) by rw[←hpp,Zla hit])
               have Hpd:=hid hpd
               have wf:=hW.f
               clear hni hnp hpp hpd c3 c4 c5 f9
               obtain ⟨w9,hw9⟩: ∃ w9,w9=wr:=⟨_,rfl⟩
               subst hw9
               go_wp2
               refine Zj (S:=Grow w9) [([0,1,2,3,4,5,7,8,9,10,11,12],some 6),([],some 13),([],some 14),([15,16,17,18,19,20,21],none)] Zn (by kernel_rfl) (fun _ _ _ _ _ h=>h) (Grow.refl _).drew ?_
               show wpQuiet _ _ _ _ [_,_,_,_,_,_,_,_,_,_,_,_] _
               repeat (first |go_big_quiet_skip|(go_big_quiet_want;first |(apply Zi Za;rfl;rfl;exact (fun w' hG=>⟨hG.cell wf.c0,hG.cell wf.c1,hG.cell wf.c2⟩);go_big_quiet_on;simp only[putP])|(go_big_quiet_op;first |go_big_quiet_on|(refine ⟨_,(fun _ _=>rfl), ?_⟩;go_big_quiet_on))))
               refine wpQuiet_nil ?_
               refine Zk rfl (fun K hK=> ?_)
               go_wp2_with fail
               refine (ZaZ aa _ ca C i j (i*C+j) (R:Int) _ s2.1 _ (hrA9.grow (Grow.refl _).drew) rfl Hgi.out (by omega) (by omega) (by omega) (by omega)).mono ?_
               rintro e w11 ⟨rfl,hG11⟩
               have hG11':Grow w9 w11:=(Grow.refl w9).drew.trans hG11
               go_wp2_with fail
               refine hK _ _ (hG11') ?_
               clear hK K
               show wpQuiet _ _ _ _ [] _
               try (conv=>arg 6;simp only[putP])
               refine wpQuiet_nil ?_
               refine Zk rfl (fun K hK=> ?_)
               go_wp2_with fail
               refine (ZaZ aa _ ca C t j (t*C+j) (R:Int) _ s2.1 _ (hrA9.grow hG11') rfl Hgp.out (by omega) (by omega) (by omega) (by omega)).mono ?_
               rintro e w12 ⟨rfl,hG12⟩
               have hG13:=hG11'.trans hG12
               go_wp2_with fail
               refine hK _ _ (hG13) ?_
               clear hK K
               show wpQuiet _ _ _ _ [] _
               try (conv=>arg 6;simp only[putP])
               refine wpQuiet_nil ?_
               refine Zk rfl (fun K hK=> ?_)
               go_wp2_with fail
               refine (ZcL _ _ _ hnumi hnump hpne).mono ?_
               rintro e _ ⟨rfl,rfl⟩
               go_wp2_with fail
               refine hK _ _ (hG13) ?_
               clear hK K
               show wpQuiet _ _ _ _ [_,_,_,_,_,_,_] _
               try (conv=>arg 6;simp only[putP])
               repeat (first |go_big_quiet_skip|(go_big_quiet_want;first |(apply Zi Za;rfl;rfl;exact (fun w' hG=>⟨hG.cell wf.c0,hG.cell wf.c1,hG.cell wf.c2⟩);go_big_quiet_on;simp only[putP])|(go_big_quiet_op;first |go_big_quiet_on|(refine ⟨_,(fun _ _=>rfl), ?_⟩;go_big_quiet_on))))
               refine wpQuiet_nil ?_
               refine Zm ?_
               go_wp2_with fail
               refine (Zic g R C i t (-(cell s2.1 C i j/cell s2.1 C t j)) aa au ar ca _ _ s2 _ (hW.grow hG13) (hT.grow hG13) ngA ngU hs2 (by omega) htR (by omega) (by omega) hR hC).mono ?_
               rintro e w14 ⟨rfl,b14,s14,hW14,hT14,hA14,hK14⟩
               have hK15:=(hK.trans hG13.any).trans hK14
               rcases hA14 with ⟨rfl,hA14⟩|⟨rfl,hA14⟩
               ·obtain ⟨hs14,he14⟩:=Zfh hs2 hA14
                have Hp2:=hid (show red C R j t (t-(i+1)) (i+1) s14=rr by rw[Hunf.out,hA14];rfl)
                have Hd2:=hid (show cell s14.1 C t j=d by
                 rw[he14]
                 show cell (addR s2.1 C i t _) C t j=d
                 rw[Zbi hs2.la (by omega) hjC,if_neg (by omega)];exact Hpd.out)
                clear hA14 he14 hpne
                go_wp2
                go_roundw
                case rel=>exact ⟨hK15,i+1,false,s14,by omega,by go_num,hW14,hT14, .inl ⟨rfl,hs14,Hp2.out,Hd2.out⟩⟩
                case measure=>simp[intOf];omega
               ·have Hp2:=hid (show rr=none by rw[Hunf.out,hA14];rfl)
                clear hA14 hpne
                go_wp2
                go_roundw
                case rel=>exact ⟨hK15,i+1,true,s14,by omega,by go_num,hW14,hT14, .inr ⟨rfl,Hp2.out⟩⟩
                case measure=>simp[intOf];omega
              ·have hei:i=t:=by omega
               subst hei
               rw[Nat.sub_self] at hpp
               have Hn:=hid (show Z0 C R (C-(j+1)) (j+1) (i+1) s2=res by rw[Hr3.out, ←hpp];rfl)
               clear hpp hpd
               go_wp2
               go_roundw
               case rel=>exact ⟨hK,i+1,j+1,false,s2,by omega,by omega,by go_num,by go_num,hW,hT, .inl ⟨rfl,hs2,Hn.out⟩⟩
               case measure=>simp[intOf];omega
             ·have Hn:=hid (show res=none by rw[Hr3.out,hpp];rfl)
              clear hpp
              by_cases hit:i<t
              ·go_wp2
               go_roundw
               case rel=>exact ⟨hK,t+1,j+1,true,s2,by omega,by omega,by go_num,by go_num,hW,hT, .inr ⟨rfl,Hn.out⟩⟩
               case measure=>simp[intOf];omega
              ·go_wp2
               go_roundw
               case rel=>exact ⟨hK,t+1,j+1,true,s2,by omega,by omega,by go_num,by go_num,hW,hT, .inr ⟨rfl,Hn.out⟩⟩
               case measure=>simp[intOf];omega
        |false=>as_aux_lemma=>
         obtain ⟨ps,hps⟩: ∃ ps,ps=pass C R j p (R-t) t s:=⟨_,rfl⟩
         obtain ⟨d,hd⟩: ∃ d,d=cell s.1 C p j:=⟨_,rfl⟩
         have hdne:d≠0:=by rw[hd];exact hv.ne
         have Hps:=hid hps
         have Hd:=hid hd
         clear hd hps
         go_wp2
         go_loopw [9] (fun iv wr=>Keep (fun q=>blk aa≠some q/\blk au≠some q/\q≠g) w5 wr/\ ∃ (i:Nat) (b:Bool) (s:HS),t<=i/\i<=R/\iv=Yv Yi i/\Wk wr g R C aa au ar ca (R*R) (C*C) b/\Two wr aa au (R*C) (R*R) ca (R*R) s/\((b=false/\Hs C R s/\pass C R j p (R-i) i s=ps/\cell s.1 C p j=d)\/(b=true/\ps=none))) (fun iv _=>R-(intOf iv).toNat)
         case atStart=>exact ⟨hK7,t,false,s,Nat.le_refl _,ht,rfl,hW7,hT7, .inl ⟨rfl,hs,Hps.out.symm,Hd.out.symm⟩⟩
         case round=>
          clear hK7 hT7 hW7 Hd
          obtain ⟨hK,i,b,s2,hti,hi,rfl,hW,hT,hst⟩:=hrel
          have bMr:=bM5.keep hK nM
          obtain ⟨⟨m0,m1,m2⟩, -⟩:=bMr.three
          have wf:=hW.f
          obtain ⟨c0,c1,c2,c3,c4,c5,c9,f9⟩:=hW.f
          rcases hst with ⟨rfl,hs2,hpp,hpd⟩|⟨rfl,hpp⟩
          ·by_cases hiR:i<R
           ·have hunf:=ZjW (C:=C) (R:=R) (j:=j) (p:=p) hiR s2
            have hni:i*C+j<R*C:=Zl hjC hiR
            have hnp:p*C+j<R*C:=Zl hjC hpR
            have hrA:=hT.oa.rdI (S:=fun _=>True) (fun _ _=>trivial) (ZC hs2.na)
            have Hgi:=hid (show s2.1[i*C+j]? =some (cell s2.1 C i j) from Zai (by rw[hs2.la];exact hni))
            have Hgp:=hid (show s2.1[p*C+j]? =some (cell s2.1 C p j) from Zai (by rw[hs2.la];exact hnp))
            have hnumi:=Zt hs2.na C i j
            have hnump:=Zt hs2.na C p j
            clear hni hnp
            by_cases hip:i=p
            ·rw[if_neg (fun h=>h.1 hip)] at hunf
             have Hpp:=hid (show pass C R j p (R-(i+1)) (i+1) s2=ps by rw[←hunf];exact hpp)
             have Hpd:=hid hpd
             have q1:((i:Int)!=(p:Int))=false:=by rw[hip];simp
             clear hip hunf hpp hpd
             go_wp2
             go_roundw
             case rel=>exact ⟨hK,i+1,false,s2,by omega,by omega,by go_num,hW,hT, .inl ⟨rfl,hs2,Hpp.out,Hpd.out⟩⟩
             case measure=>simp[intOf];omega
            ·have q1:((i:Int)!=(p:Int))=true:=by simp;omega
             have Hpp:=hid hpp
             have Hpd:=hid hpd
             clear hpp hpd
             go_wp2_with fail
             refine (ZaZ aa _ ca C i j (i*C+j) (R:Int) _ s2.1 _ hrA rfl Hgi.out (by omega) (by omega) (by omega) (by omega)).mono ?_
             rintro e w9 ⟨rfl,hG9⟩
             have hK9:=hK.trans hG9.any
             have hT9:=hT.grow hG9
             have hW9:=hW.grow hG9
             by_cases hc0:cell s2.1 C i j=0
             ·have Hp2:=hid (show pass C R j p (R-(i+1)) (i+1) s2=ps by rw[←Hpp.out,hunf,if_neg (fun h=>h.2 hc0)])
              rw[hc0]
              clear hip hunf hc0
              go_wp2
              go_roundw
              case rel=>exact ⟨hK9,i+1,false,s2,by omega,by omega,by go_num,hW9,hT9, .inl ⟨rfl,hs2,Hp2.out,Hpd.out⟩⟩
              case measure=>simp[intOf];omega
             ·as_aux_lemma=>
              have q3:(cell s2.1 C i j !=0)=true:=by simpa using hc0
              rw[if_pos ⟨hip,hc0⟩] at hunf
              have Hunf:=hid (show ps=(Zcu C R i p (-(cell s2.1 C i j/cell s2.1 C p j)) s2).bind (pass C R j p (R-(i+1)) (i+1)) by rw[←Hpp.out,hunf])
              have hpne:cell s2.1 C p j≠0:=by rw[Hpd.out];exact hdne
              have hq:=ZdG hnumi hpne
              clear hunf Hpp hW hK hT wf c0 c1 c2 c3 c4 c5 c9 f9 m0 m1 m2 bMr
              have wf:=hW9.f
              have hrA9:=hrA.grow hG9
              go_wp2
              refine Zj (S:=Grow w9) [([0,1,2,3,4,5,7,8,9,10,11,12],some 6),([],some 13),([],some 14),([15,16,17,18,19,20,21],none)] Zn (by kernel_rfl) (fun _ _ _ _ _ h=>h) (Grow.refl _).drew ?_
              show wpQuiet _ _ _ _ [_,_,_,_,_,_,_,_,_,_,_,_] _
              repeat (first |go_big_quiet_skip|(go_big_quiet_want;first |(apply Zi Za;rfl;rfl;exact (fun w' hG=>⟨hG.cell wf.c0,hG.cell wf.c1,hG.cell wf.c2⟩);go_big_quiet_on;simp only[putP])|(go_big_quiet_op;first |go_big_quiet_on|(refine ⟨_,(fun _ _=>rfl), ?_⟩;go_big_quiet_on))))
              refine wpQuiet_nil ?_
              refine Zk rfl (fun K hK=> ?_)
              go_wp2_with fail
              refine (ZaZ aa _ ca C i j (i*C+j) (R:Int) _ s2.1 _ (hrA9.grow (Grow.refl _).drew) rfl Hgi.out (by omega) (by omega) (by omega) (by omega)).mono ?_
              rintro e w11 ⟨rfl,hG11⟩
              have hG11':Grow w9 w11:=(Grow.refl w9).drew.trans hG11
              go_wp2_with fail
              refine hK _ _ (hG11') ?_
              clear hK K
              show wpQuiet _ _ _ _ [] _
              try (conv=>arg 6;simp only[putP])
              refine wpQuiet_nil ?_
              refine Zk rfl (fun K hK=> ?_)
              go_wp2_with fail
              refine (ZaZ aa _ ca C p j (p*C+j) (R:Int) _ s2.1 _ (hrA9.grow hG11') rfl Hgp.out (by omega) (by omega) (by omega) (by omega)).mono ?_
              rintro e w12 ⟨rfl,hG12⟩
              have hG13:=hG11'.trans hG12
              go_wp2_with fail
              refine hK _ _ (hG13) ?_
              clear hK K
              show wpQuiet _ _ _ _ [] _
              try (conv=>arg 6;simp only[putP])
              refine wpQuiet_nil ?_
              refine Zk rfl (fun K hK=> ?_)
              go_wp2_with fail
              refine (ZcL _ _ _ hnumi hnump hpne).mono ?_
              rintro e _ ⟨rfl,rfl⟩
              go_wp2_with fail
              refine hK _ _ (hG13) ?_
              clear hK K
              show wpQuiet _ _ _ _ [_,_,_,_,_,_,_] _
              try (conv=>arg 6;simp only[putP])
              repeat (first |go_big_quiet_skip|(go_big_quiet_want;first |(apply Zi Za;rfl;rfl;exact (fun w' hG=>⟨hG.cell wf.c0,hG.cell wf.c1,hG.cell wf.c2⟩);go_big_quiet_on;simp only[putP])|(go_big_quiet_op;first |go_big_quiet_on|(refine ⟨_,(fun _ _=>rfl), ?_⟩;go_big_quiet_on))))
              refine wpQuiet_nil ?_
              refine Zm ?_
              go_wp2_with fail
              refine (Zic g R C i p (-(cell s2.1 C i j/cell s2.1 C p j)) aa au ar ca _ _ s2 _ (hW9.grow hG13) (hT9.grow hG13) ngA ngU hs2 hiR hpR hip (by omega) hR hC).mono ?_
              rintro e w14 ⟨rfl,b14,s14,hW14,hT14,hA14,hK14⟩
              have hK15:=(hK9.trans hG13.any).trans hK14
              rcases hA14 with ⟨rfl,hA14⟩|⟨rfl,hA14⟩
              ·obtain ⟨hs14,he14⟩:=Zfh hs2 hA14
               have Hp2:=hid (show pass C R j p (R-(i+1)) (i+1) s14=ps by rw[Hunf.out,hA14];rfl)
               have Hd2:=hid (show cell s14.1 C p j=d by
                rw[he14]
                show cell (addR s2.1 C i p _) C p j=d
                rw[Zbi hs2.la hiR hjC,if_neg (fun h=>hip h.symm)];exact Hpd.out)
               clear hA14 he14 hip hc0 hpne
               go_wp2
               go_roundw
               case rel=>exact ⟨hK15,i+1,false,s14,by omega,by omega,by go_num,hW14,hT14, .inl ⟨rfl,hs14,Hp2.out,Hd2.out⟩⟩
               case measure=>simp[intOf];omega
              ·have Hp2:=hid (show ps=none by rw[Hunf.out,hA14];rfl)
               clear hA14 hip hc0 hpne
               go_wp2
               go_roundw
               case rel=>exact ⟨hK15,i+1,true,s14,by omega,by omega,by go_num,hW14,hT14, .inr ⟨rfl,Hp2.out⟩⟩
               case measure=>simp[intOf];omega
           ·have hei:i=R:=by omega
            subst hei
            rw[Nat.sub_self] at hpp
            have hpe:pass C i j p (i-t) t s=some s2:=by rw[←Hps.out, ←hpp];rfl
            obtain ⟨g1,g2,g3,g4,_,_⟩:=ZeE hjC hs hv hal hpe
            have hgs:=Zjc hjC hs hv hal hpe
            rw[Hg.out] at hgs
            clear hpp hpd
            go_wp2_with fail
            refine (ZiZ g i C t j aa au ar ca _ _ s2 _ hW hT hs2 ht hjC hR hC).mono ?_
            rintro e w9 ⟨rfl,hG9⟩
            have hK9:=hK.trans hG9.any
            have hT9:=hT.grow hG9
            have hW9:=hW.grow hG9
            have hp0:((Zu s2.1 C j t (i-t)).toNat:Int)=Zu s2.1 C j t (i-t):=by omega
            have Hm2:=hid (Zdx hT9.oa)
            have Hb2:=hid (ZhG hW9)
            rw[←hp0]
            generalize (Zu s2.1 C j t (i-t)).toNat=p1 at *
            have Hg4:=hid g4
            clear hp0 g2 g4 hpe
            go_wp2
            go_roundw
            case rel=>exact ⟨hK9,p1,false,s2,rfl,hW9,hT9, .inl ⟨rfl,hs2,g3,hgs.symm⟩⟩
            case measure=>
             rw[Hm2.out,Hmu.out,Hb2.out,Hbd.out]
             simpa [intOf] using Hg4.out
          ·have Hgn:=hid (show gr=none by rw[←Hg.out,Zi3 hal (by rw[←Hps.out,hpp])])
           have Hb2:=hid (ZhG hW)
           clear hpp
           by_cases hiR:i<R
           ·go_wp2
            go_roundw
            case rel=>exact ⟨hK,p,true,s2,rfl,hW,hT, .inr ⟨rfl,Hgn.out⟩⟩
            case measure=>
             rw[Hb2.out,Hbd.out]
             simp
           ·go_wp2
            go_roundw
            case rel=>exact ⟨hK,p,true,s2,rfl,hW,hT, .inr ⟨rfl,Hgn.out⟩⟩
            case measure=>
             rw[Hb2.out,Hbd.out]
             simp
       ·have Hn:=hid (show res=none by rw[Hr.out,hg1];rfl)
        go_wp2
        go_meet
        exact ⟨hK,true,s,hW,hT, .inr ⟨rfl,Hn.out⟩⟩
    ·have Hn:=hid (show res=some s by rw[←Hh.out,Ziy (by omega)])
     go_wp2
     go_meet
     exact ⟨hK,false,s,hW,hT, .inl ⟨rfl,hs,Hn.out⟩⟩
   ·have Hn:=hid (show res=some s by rw[←Hh.out,show C-j=0 by omega];rfl)
    go_wp2
    go_meet
    exact ⟨hK,false,s,hW,hT, .inl ⟨rfl,hs,Hn.out⟩⟩
  ·have Hn:=hid hn
   by_cases hjC:j<C
   ·by_cases htR:t<R
    ·go_wp2
     go_meet
     exact ⟨hK,true,s,hW,hT, .inr ⟨rfl,Hn.out⟩⟩
    ·go_wp2
     go_meet
     exact ⟨hK,true,s,hW,hT, .inr ⟨rfl,Hn.out⟩⟩
   ·go_wp2
    go_meet
    exact ⟨hK,true,s,hW,hT, .inr ⟨rfl,Hn.out⟩⟩
theorem Zgj (h:RdI w S a n c cells) (hl:cells.length=R*C) (hnum:NumL cells) (hR:R<=24) (hC:C<=24):
  Calls Tryz.prog 85 #[.agg #[Yv Yi R,Yv Yi C, .slice a n c]] w fun e w'=>Grow w w'/\((Zbv cells R C=none/\e= .returned (.tuple #[.agg #[Yv Yi 0,Yv Yi 0, .slice none 0 0], .agg #[Yv Yi 0,Yv Yi 0, .slice none 0 0], .bool false]))\/
   ∃ s aa ca au cu,Zbv cells R C=some s/\e= .returned (.tuple #[.agg #[Yv Yi R,Yv Yi C, .slice aa (R*C) ca], .agg #[Yv Yi R,Yv Yi R, .slice au (R*R) cu], .bool true])/\RdI w' (fun q=>w.heap.size<=q) aa (R*C) ca s.1/\RdI w' (fun q=>w.heap.size<=q) au (R*R) cu s.2):=by
 refine (ZgE h hl hnum hR hC).mono ?_
 rintro e w' ⟨hG,hr⟩
 refine ⟨hG, ?_⟩
 rcases hr with hr|⟨s,aa,ca,au,cu,h1,h2,⟨h3,h4,h5⟩,h6⟩
 ·exact .inl hr
 ·exact .inr ⟨s,aa,ca,au,cu,h1,h2,h3.rdI h4 (ZC h5),h6⟩

end Go.Proofs.YtgeoehnbpkediaaGreat
