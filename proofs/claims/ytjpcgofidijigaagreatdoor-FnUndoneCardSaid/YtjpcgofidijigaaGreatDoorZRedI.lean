/- The program's ReduceGram: what it returns for every form. -/
import Derived.Test.YtjpcgofidijigaaGreatDoorZStepI
import Derived.Test.YtjpcgofidijigaaGreatDoorZAddM
set_option maxHeartbeats 8000000
set_option maxRecDepth 100000
namespace Go.Proofs.YtjpcgofidijigaaGreatDoor
open Go.RowKit
open Lib (hid)
open Go.Value renaming int->Yv
open Go.IntKind renaming i64->Yi
variable {R c f k kb n:Nat} {S:Nat->Prop} {T:TypeId} {a:Option Addr} {b m:Mat} {s:SS} {v:Value} {w:World}
theorem Zmn (hb:Blk w kb #[v] T) (hn:2<=n) {l:List Int} (hO:Own w 3 1 a (n*n) c (ints l)):blk a≠some kb:=fun e=>by
 obtain ⟨q,rfl⟩: ∃ q,a=some q:=by cases a with
  |none=>cases e
  |some q=>exact ⟨q,rfl⟩
 obtain ⟨off,cur,k1,k2,k3⟩:=hO.block _ rfl;rw[show q.block=kb from Option.some.inj e] at k1;have k4:=hb.symm.trans k1;simp only[Option.some.injEq,Obj.cells.injEq] at k4;have k5:=hO.le;rw[←k4.1] at k2;simp at k2;have:2*2<=n*n:=Nat.mul_le_mul hn hn;omega
theorem Zhv {S:SS} (h: ¬ k<n):Zc6 n f k S=some S:=by
 cases f with
 |zero=>unfold Zc6;rw[if_neg h]
 |succ f=>unfold Zc6;rw[if_neg h]
theorem ZiC {S:SS} (h:k<n):Zc6 n 0 k S=none:=by unfold Zc6;rw[if_pos h]
theorem Zhg {S:SS} (h:k<n):Zc6 n (f+1) k S=(Za1 S.1 n n).bind fun o=>(Zbv n k o S).bind fun r=>Zc6 n f r.2 r.1:=by
 show (if k<n then _ else _)=_;rw[if_pos h]
theorem Zik (h:ZcE m=true): ∃ R:Nat,m.rows=R/\m.cols=R/\R<=6/\m.cells.length=R*R/\NumL m.cells:=by
 have h1:Zas m=true:=by unfold ZcE ZbP at h;simp only[Bool.and_eq_true] at h;exact h.1.1
 unfold Zas at h1;simp only[Bool.and_eq_true,decide_eq_true_eq] at h1;obtain ⟨R,C,hmr,hmc,hR,hC,hl,hnum⟩:=Zn h1.1;obtain ⟨-,h2,h3⟩:=h1;have:R=C:=by omega
 subst this;exact ⟨R,hmr,hmc,by omega,hl,hnum⟩
theorem ZpU {mr mc:Int} (hVM:VM w S (.agg #[Yv Yi mr,Yv Yi mc, .slice a n c]) m) (hb:bdM m<=1048576) (hB:ZcE m=false):
  Calls Tryz.prog 172 #[.agg #[Yv Yi mr,Yv Yi mc, .slice a n c]] w fun e w'=>e= .returned (.tuple #[zM,zM, .bool false])/\Grow w w':=by
 obtain ⟨w3,hw3,hG,bM,bR1,bR2, -⟩:=al3 w #[Yv Yi mr,Yv Yi mc, .slice a n c] 34 #[Yv Yi 0,Yv Yi 0, .slice none 0 0] 34 #[Yv Yi 0,Yv Yi 0, .slice none 0 0] 34;have Hw3:=hid hw3;clear hw3;have HB:=hid hB;clear hB;go_enter Tryz.func172,Tryz.ntmps172;go_wp2_with fail;rw[←Hw3.out];refine (Zem (hVM.grow hG) (by omega)).mono ?_;rintro e w4 ⟨rfl,hG4⟩;rw[HB.out];replace bR1:=bR1.grow hG4;replace bR2:=bR2.grow hG4;replace hG:=hG.trans hG4;have h1:w.heap.size<=w.heap.size+1:=by omega
 have h2:w.heap.size<=w.heap.size+1+1:=by omega
 have n12:w.heap.size+1≠w.heap.size+1+1:=by omega
 obtain ⟨⟨a0,a1,a2⟩,f0,f1,f2⟩:=bR1.three;obtain ⟨⟨b0,b1,b2⟩,g0,g1,g2⟩:=bR2.three;have hltA:=bR1.lt;have hltB:=bR2.lt;go_wp2
 refine Z5 Zc Zc rfl rfl rfl rfl
  ((((((bR1.set 0 _).set 1 _).set 2 _).other n12 _).other n12 _).other n12 _)
  ((((((bR2.other n12.symm _).other n12.symm _).other n12.symm _).set 0 _).set 1 _).set 2 _) ?_
 exact ⟨rfl,(((((hG.setCell h1 _).setCell h1 _).setCell h1 _).setCell h2 _).setCell h2 _).setCell h2 _⟩
theorem Zsw {B g C:Nat} {aa au ar:Option Addr} {ca cu cr:Nat} {b:Bool} (hb:Blk w kb #[v] T) (h:WkP w B g R C aa au ar ca cu cr b s):kb≠g:=fun e=>by
 have h1:=h.wk.g.c6;rw[←e,hb.cell 6] at h1;simp at h1
theorem ZoW {cells:List Int} (h:RdI w S a n c cells) (hl:cells.length=R*R) (hnum:NumL cells) (hR:R<=6) (hD:ZcE {rows:=(R:Int),cols:=(R:Int),cells:=cells}=true):
  Calls Tryz.prog 172 #[.agg #[Yv Yi R,Yv Yi R, .slice a n c]] w fun e w'=>Grow w w'/\((Zdy {rows:=(R:Int),cols:=(R:Int),cells:=cells}=none/\e= .returned (.tuple #[zM,zM, .bool false]))\/
   ∃ s aa ca au cu,Zdy {rows:=(R:Int),cols:=(R:Int),cells:=cells}=some s/\e= .returned (.tuple #[.agg #[Yv Yi R,Yv Yi R, .slice aa (R*R) ca], .agg #[Yv Yi R,Yv Yi R, .slice au (R*R) cu], .bool true])/\RdI w' (fun q=>w.heap.size<=q) aa (R*R) ca s.1/\RdI w' (fun q=>w.heap.size<=q) au (R*R) cu s.2.1):=by
 have hRR:R*R<=6*6:=Nat.mul_le_mul hR hR;obtain ⟨mr,hmr⟩: ∃ mr:Int,mr=R:=⟨_,rfl⟩;obtain ⟨mc,hmc⟩: ∃ mc:Int,mc=R:=⟨_,rfl⟩;have hVM:VM w S (.agg #[Yv Yi R,Yv Yi R, .slice a n c]) {rows:=(R:Int),cols:=(R:Int),cells:=cells}:=⟨a,n,c,rfl,h,by show I64 (R:Int);unfold I64;omega,by show I64 (R:Int);unfold I64;omega⟩;have hV2:VM w S (.agg #[Yv Yi mr,Yv Yi mc, .slice a n c]) {rows:=(R:Int),cols:=(R:Int),cells:=cells}:=by rw[hmr,hmc];exact hVM
 obtain ⟨res,hres⟩: ∃ res,res=Zdy {rows:=(R:Int),cols:=(R:Int),cells:=cells}:=⟨_,rfl⟩;rw[←hres];have Hres:=hid (show Zc6 R 200 1 (cells,idL R,idL R)=res by rw[hres];unfold Zdy;rw[if_pos hD];simp);have HD:=hid hD;have e0:(.agg #[Yv Yi (R:Int),Yv Yi (R:Int), .slice a n c]:Value)= .agg #[Yv Yi mr,Yv Yi mc, .slice a n c]:=by rw[hmr,hmc]
 rw[e0];clear e0 hres hD hVM;obtain ⟨w3,hw3,hG,bM,bR1,bR2, -⟩:=al3 w #[Yv Yi mr,Yv Yi mc, .slice a n c] 34 #[Yv Yi 0,Yv Yi 0, .slice none 0 0] 34 #[Yv Yi 0,Yv Yi 0, .slice none 0 0] 34;have Hw3:=hid hw3;clear hw3;subst hmr;subst hmc;go_enter Tryz.func172,Tryz.ntmps172;go_wp2_with fail;rw[←Hw3.out];refine (Zem (hV2.grow hG) (by unfold bdM;simp;omega)).mono ?_;rintro e w4 ⟨rfl,hG4⟩;rw[HD.out];have bM4:=bM.grow hG4;obtain ⟨⟨a0,a1,a2⟩, -⟩:=bM4.three;have hlR:w.heap.size+1+1<w4.heap.size:=(bR2.grow hG4).lt;go_wp2_with fail;refine (ZiM ((h.grow hG).grow hG4) hl (by omega) (by omega)).mono ?_;rintro e w5 ⟨g,aa,au,ar,ca,rfl,hP0,hG5⟩;obtain ⟨B,hB⟩: ∃ B,B=w4.heap.size:=⟨_,rfl⟩;rw[←hB] at hP0 hlR;have hs0:Ss R R (cells,idL R,idL R):=⟨hl,Zb2 R,Zb2 R,hnum,ZbZ R,ZbZ R⟩;obtain ⟨kb,hkb⟩: ∃ kb,kb=w5.heap.size:=⟨_,rfl⟩;obtain ⟨w6,hw6,hG6, -, -⟩:=al1 w5 #[Yv Yi 1] 3;have hbk0:Blk w6 kb #[Yv Yi 1] 3:=by rw[hw6];exact Blk.newAt _ _ _ hkb
 have hBk:B<=kb:=by have:=hG5.size;omega
 have hW0:WkS w6 B g R R false (cells,idL R,idL R):=(hP0.grow hG6).s;have bM5:=(bM4.grow hG5).grow hG6;have bRa:=((bR1.grow hG4).grow hG5).grow hG6;have bRb:=((bR2.grow hG4).grow hG5).grow hG6;have hGo:=((hG.trans hG4).trans hG5).trans hG6;have hTo: ∀ q,q<w.heap.size->q<B:=fun q hq=>by omega
 have nM:w.heap.size<B:=by omega
 have nR1:w.heap.size+1<B:=by omega
 have nR2:w.heap.size+1+1<B:=by omega
 have Hw6:=hid hw6;have Hkb:=hid hkb;clear hG hG4 hG5 hG6 bM bM4 bR1 bR2 a0 a1 a2 Hw3 hV2 HD h hP0 hB hw6 hkb;go_wp2;rw[←Hw6.out, ←Hkb.out];go_loopw [7] (fun tv wr=>Keep (fun q=>q<B) w6 wr/\ ∃ (f k:Nat) (s:SS),f<=200/\tv=Yv Yi f/\WkS wr B g R R false s/\Ss R R s/\Blk wr kb #[Yv Yi k] 3/\1<=k/\Zc6 R (200-f) k s=res) (fun tv _=>200-(intOf tv).toNat);case atStart=>exact ⟨Keep.refl _ _,0,1,_,by omega,rfl,hW0,hs0,hbk0,by omega,Hres.out⟩
 case round=>as_aux_lemma=>
  clear hW0 hs0 Hres hbk0;obtain ⟨hK,f,k,s,hf,rfl,hW,hs,hbk,hk1,hh⟩:=hrel;have bMr:=bM5.keep hK nM;obtain ⟨⟨m0,m1,m2⟩, -⟩:=bMr.three;obtain ⟨aa,au,ar,ca,cu,cr,hP⟩:=hW;obtain ⟨c0,c1,c2, -, -, -,c9, -⟩:=hP.wk.g;have hgl:g<wr.heap.size:=Blk.lt hP.wk;have k0:wr.cell? ⟨kb,0,none⟩=some (Yv Yi (k:Int)):=by rw[hbk.cell];rfl
  have hltk:=hbk.lt;have hltM:=bMr.lt;have Hh:=hid hh;clear hh;by_cases hlt:k<R
  ·have rA:=hP.th.oa.rdI (S:=fun _=>True) (fun _ _=>trivial) (Zy hs.na);go_wp2_with fail;refine (ZnG aa _ ca R s.1 _ rA hs.la (by omega) hs.na).mono ?_;rintro e w7 ⟨xa,xn,xc,ya,yn,yc,rfl,hAc,hG7⟩;obtain ⟨w8,hw8,hG78,bO, -⟩:=al1 w7 #[.slice xa xn xc, .slice ya yn yc] 221;have Hw8:=hid hw8;have hG8:=hG7.trans hG78;have hK8:Keep (fun q=>q<B) w6 w8:=hK.trans (hG8.any.mono fun _ _ _=>trivial);obtain ⟨⟨o0,o1⟩, -⟩:=bO.two;have hltO:=bO.lt;have hk8:=hbk.grow hG8;clear m0 m1 m2 c0 c1 c2 c9 k0 hltk hltM hw8 hgl bMr;cases hac:Za1 s.1 R R with
   |none=>
    have Hac:=hid hac;clear hac;have Hn:=hid (show res=none by (rw[←Hh.out];cases (200-f) with |zero=>exact ZiC hlt|succ q=>rw[Zhg hlt,Hac.out];rfl));replace hG:=hGo.keep hK8 hTo;replace bR1:=bRa.keep hK8 nR1;replace bR2:=bRb.keep hK8 nR2;rw[Hw8.out] at bR1 bR2 hG;have h1:w.heap.size<=w.heap.size+1:=(by omega);have h2:w.heap.size<=w.heap.size+1+1:=(by omega);have n12:w.heap.size+1≠w.heap.size+1+1:=(by omega);obtain ⟨⟨a0,a1,a2⟩,f0,f1,f2⟩:=bR1.three;obtain ⟨⟨b0,b1,b2⟩,g0,g1,g2⟩:=bR2.three;have hltA:=bR1.lt;have hltB:=bR2.lt;go_wp2
    refine Z5 Zc Zc rfl rfl rfl rfl
     ((((((bR1.set 0 _).set 1 _).set 2 _).other n12 _).other n12 _).other n12 _)
     ((((((bR2.other n12.symm _).other n12.symm _).other n12.symm _).set 0 _).set 1 _).set 2 _) ?_
    exact ⟨(((((hG.setCell h1 _).setCell h1 _).setCell h1 _).setCell h2 _).setCell h2 _).setCell h2 _, .inl ⟨Hn.out,rfl⟩⟩
   |some o=>
    have Hac:=hid hac;have hA8:=(hAc o hac).grow hG78;clear hac hAc;by_cases hf2:f=200
    ·have q1:((f:Int)==200)=true:=(by simp;omega);have Hn:=hid (show res=none by (rw[←Hh.out,show 200-f=0 by omega];exact ZiC hlt));replace hG:=hGo.keep hK8 hTo;replace bR1:=bRa.keep hK8 nR1;replace bR2:=bRb.keep hK8 nR2;rw[Hw8.out] at bR1 bR2 hG;have h1:w.heap.size<=w.heap.size+1:=(by omega);have h2:w.heap.size<=w.heap.size+1+1:=(by omega);have n12:w.heap.size+1≠w.heap.size+1+1:=(by omega);obtain ⟨⟨a0,a1,a2⟩,f0,f1,f2⟩:=bR1.three;obtain ⟨⟨b0,b1,b2⟩,g0,g1,g2⟩:=bR2.three;have hltA:=bR1.lt;have hltB:=bR2.lt;go_wp2
     refine Z5 Zc Zc rfl rfl rfl rfl
      ((((((bR1.set 0 _).set 1 _).set 2 _).other n12 _).other n12 _).other n12 _)
      ((((((bR2.other n12.symm _).other n12.symm _).other n12.symm _).set 0 _).set 1 _).set 2 _) ?_
     exact ⟨(((((hG.setCell h1 _).setCell h1 _).setCell h1 _).setCell h2 _).setCell h2 _).setCell h2 _, .inl ⟨Hn.out,rfl⟩⟩
    ·have q1:((f:Int)==200)=false:=(by rw[beq_eq_false_iff_ne];omega);have Hl:=hid (Zgb Hac.out);have P8:=hP.grow hG8;go_wp2_with fail;rw[←Hw8.out];refine (ZrH B g R k kb aa au ar ca cu cr s _ o _ P8 hs hA8 Hl.out.1 Hl.out.2.1 Hl.out.2.2 hk1 hlt (by omega) hk8 hBk (Zsw hk8 P8) (Zmn hk8 (by omega) P8.th.oa) (Zmn hk8 (by omega) P8.th.ou) (Zmn hk8 (by omega) P8.th.ov)).mono ?_;rintro e w9 ⟨rfl,hst,hK9⟩;have hK19:=hK8.trans hK9;have Hst:=hid hst;have Hss:=hid (fun r=>Zm7 (k:=k) (o:=o) (r:=r) hs hk1);have Hh2:=hid (show Zc6 R (200-f) k s=(Zbv R k o s).bind fun r=>Zc6 R (200-(f+1)) r.2 r.1 by
      rw[show 200-f=(200-(f+1))+1 by omega,Zhg hlt,Hac.out,Option.bind_some])
     clear hst o0 o1 hltO hs;cases hrs:Zbv R k o s with
     |none=>
      have Hrs:=hid hrs;clear hrs;have Hn:=hid (show res=none by (rw[←Hh.out,Hh2.out,Hrs.out];rfl));replace hG:=hGo.keep hK19 hTo;replace bR1:=bRa.keep hK19 nR1;replace bR2:=bRb.keep hK19 nR2
      skip
      have h1:w.heap.size<=w.heap.size+1:=(by omega);have h2:w.heap.size<=w.heap.size+1+1:=(by omega);have n12:w.heap.size+1≠w.heap.size+1+1:=(by omega);obtain ⟨⟨a0,a1,a2⟩,f0,f1,f2⟩:=bR1.three;obtain ⟨⟨b0,b1,b2⟩,g0,g1,g2⟩:=bR2.three;have hltA:=bR1.lt;have hltB:=bR2.lt;go_wp2
      refine Z5 Zc Zc rfl rfl rfl rfl
       ((((((bR1.set 0 _).set 1 _).set 2 _).other n12 _).other n12 _).other n12 _)
       ((((((bR2.other n12.symm _).other n12.symm _).other n12.symm _).set 0 _).set 1 _).set 2 _) ?_
      exact ⟨(((((hG.setCell h1 _).setCell h1 _).setCell h1 _).setCell h2 _).setCell h2 _).setCell h2 _, .inl ⟨Hn.out,rfl⟩⟩
     |some r=>
      have Hn:=hid (show Zc6 R (200-(f+1)) r.2 r.1=res by rw[←Hh.out,Hh2.out,hrs,Option.bind_some]);obtain ⟨s9,k9,hk9⟩:=Hss.out r hrs;obtain ⟨W9,b9⟩:=Hst.out r hrs;clear hrs Hst Hss;go_wp2;go_roundw;case rel=>exact ⟨hK19,f+1,r.2,r.1,by omega,by go_num,W9,s9,b9,k9,Hn.out⟩
      case measure=>simp[intOf];omega
  ·have Hn:=hid (show res=some s by rw[←Hh.out];exact Zhv hlt);have hGx:=hGo.keep hK hTo;have bRx:=bRa.keep hK nR1;have bRy:=bRb.keep hK nR2;have ngR:g≠w.heap.size+1/\g≠w.heap.size+1+1:=⟨by have:=hP.lg;omega,by have:=hP.lg;omega⟩;have fA': ∀ q,blk aa=some q->w.heap.size+1+1<q:=fun q hq=>(by have:=hP.la q hq;omega);have fU': ∀ q,blk au=some q->w.heap.size+1+1<q:=fun q hq=>(by have:=hP.lu q hq;omega);have c3:=hP.wk.cell 3;have c4:=hP.wk.cell 4;have c5:=hP.wk.cell 5;simp only[WkC,List.getElem?_toArray,List.getElem?_cons_zero,List.getElem?_cons_succ] at c3 c4 c5;go_wp2;refine Zg (S:=(Keep (fun q=>q≠w.heap.size+1/\q≠w.heap.size+1+1) wr)) [([0,1,2,3,4,5,6,7],some 8),([],some 9),([10],none)] Zm (by kernel_rfl) (fun _ _ _ _ _ h=>h) (Keep.refl _ _).drew ?_;show wpQuiet _ _ _ _ [_,_,_,_,_,_,_,_] _;(repeat (first |(go_big_quiet_want;(first |refine Zi Zc rfl rfl (fun w' hG=>⟨hG.cell ngR c0,hG.cell ngR c1,hG.cell ngR c2⟩) ?_|refine Zi Zc rfl rfl (fun w' hG=>⟨hG.cell ngR c3,hG.cell ngR c4,hG.cell ngR c5⟩) ?_);go_big_quiet_on;simp only[putP])|go_big_quiet_step (exact fun _=>rfl)));refine wpQuiet_nil ?_;obtain ⟨w8,hw8⟩: ∃ w8,w8=wr.drew:=⟨_,rfl⟩;rw[←hw8];have hG8:Grow wr w8:=(by rw[hw8];exact (Grow.refl _).drew);clear hw8;have bR8:=bRx.grow hG8;have bS8:=bRy.grow hG8;refine Zf rfl (fun K hK=> ?_);obtain ⟨⟨a0,a1,a2⟩,f0,f1,f2⟩:=bR8.three;go_wp2_with fail;have hK8:Keep (fun q=>q≠w.heap.size+1) w8 (((w8.setCell ⟨w.heap.size+1,0,none⟩ (Yv Yi (R:Int))).setCell ⟨w.heap.size+1,1,none⟩ (Yv Yi (R:Int))).setCell ⟨w.heap.size+1,2,none⟩ (.slice aa (R*R) ca)):=
    (((Keep.refl _ w8).setCell (fun _ e=>e rfl) _).setCell (fun _ e=>e rfl) _).setCell (fun _ e=>e rfl) _
   have bR9:=((bR8.set 0 (Yv Yi (R:Int))).set 1 (Yv Yi (R:Int))).set 2 (.slice aa (R*R) ca);have bS9:=bS8.keep hK8 (by omega);refine hK _ _ (((hG8.mono fun _ _ _=>trivial).trans (hK8.mono fun q _ hb=>hb.1))) ?_;clear hK K;generalize (((w8.setCell ⟨w.heap.size+1,0,none⟩ (Yv Yi (R:Int))).setCell ⟨w.heap.size+1,1,none⟩ (Yv Yi (R:Int))).setCell ⟨w.heap.size+1,2,none⟩ (.slice aa (R*R) ca))=w9 at *;clear a0 a1 a2 f0 f1 f2;refine wpQuiet_nil ?_;refine Zf rfl (fun K hK=> ?_);obtain ⟨⟨b0,b1,b2⟩,g0,g1,g2⟩:=bS9.three;go_wp2_with fail;have hK9:Keep (fun q=>q≠w.heap.size+1+1) w9 (((w9.setCell ⟨w.heap.size+1+1,0,none⟩ (Yv Yi (R:Int))).setCell ⟨w.heap.size+1+1,1,none⟩ (Yv Yi (R:Int))).setCell ⟨w.heap.size+1+1,2,none⟩ (.slice au (R*R) cu)):=
    (((Keep.refl _ w9).setCell (fun _ e=>e rfl) _).setCell (fun _ e=>e rfl) _).setCell (fun _ e=>e rfl) _
   have bSA:=((bS9.set 0 (Yv Yi (R:Int))).set 1 (Yv Yi (R:Int))).set 2 (.slice au (R*R) cu);have bRA:=bR9.keep hK9 (by omega);refine hK _ _ ((((hG8.mono fun _ _ _=>trivial).trans (hK8.mono fun q _ hb=>hb.1)).trans (hK9.mono fun q _ hb=>hb.2))) ?_;clear hK K;show wpQuiet _ _ _ _ [_] _;(try (conv=>arg 6;simp only[putP]));(repeat (first |(go_big_quiet_want;(first |refine Zi Zc rfl rfl (fun w' hG=>⟨hG.cell ngR c0,hG.cell ngR c1,hG.cell ngR c2⟩) ?_|refine Zi Zc rfl rfl (fun w' hG=>⟨hG.cell ngR c3,hG.cell ngR c4,hG.cell ngR c5⟩) ?_);go_big_quiet_on;simp only[putP])|go_big_quiet_step (exact fun _=>rfl)));refine wpQuiet_nil ?_;refine Zk ?_;have hGe:=((hGx.trans hG8).keep hK8 (fun q hq=>by omega)).keep hK9 (fun q hq=>by omega);have hoA:=((hP.th.oa.grow hG8).keep hK8 (fun q hq _ e=>by have:=fA' q hq;omega)).keep hK9 (fun q hq _ e=>by have:=fA' q hq;omega);have hoU:=((hP.th.ou.grow hG8).keep hK8 (fun q hq _ e=>by have:=fU' q hq;omega)).keep hK9 (fun q hq _ e=>by have:=fU' q hq;omega);go_wp2;exact Z5 Zc Zc rfl rfl rfl rfl bRA bSA ⟨hGe, .inr ⟨s,aa,ca,au,cu,Hn.out,rfl,hoA.rdI (fun q hq=>by have:=fA' q hq;omega) (Zy hs.na),hoU.rdI (fun q hq=>by have:=fU' q hq;omega) (Zy hs.nu)⟩⟩
theorem Zrv (h:VM w S v m) (hb:bdM m<=1048576):
  Calls Tryz.prog 172 #[v] w fun e w'=> ∃ x1 x2 x3 x4 x5 y1 y2 y3 y4 y5,e= .returned (.tuple #[.agg #[Yv Yi x1,Yv Yi x2, .slice x3 x4 x5], .agg #[Yv Yi y1,Yv Yi y2, .slice y3 y4 y5], .bool (Zdy m).isSome])/\(∀ s,Zdy m=some s->y1=m.rows/\y2=m.rows/\RdI w' (fun _=>True) y3 y4 y5 s.2.1)/\Grow w w':=by
 have hV:=h;obtain ⟨a,n,c,rfl,h,ir,ic⟩:=h;cases hB:ZcE m with
 |false=>
  refine (ZpU hV hb hB).mono ?_;rintro e w' ⟨rfl,hG⟩;have hn:Zdy m=none:=by unfold Zdy;rw[hB];rfl
  exact ⟨_,_,_,_,_,_,_,_,_,_,by rw[hn];rfl,(fun s hs=>by rw[hn] at hs;cases hs),hG⟩
 |true=>
  obtain ⟨R,hmr,hmc,hR,hl,hnum⟩:=Zik hB;obtain ⟨mr,mc,cells⟩:=m;simp only at hmr hmc hl hnum h;subst hmr;subst hmc;refine (ZoW h hl hnum hR hB).mono ?_;rintro e w' ⟨hG,hr⟩;rcases hr with ⟨hn,rfl⟩|⟨s,aa,ca,au,cu,hn,rfl,h1,h2⟩
  ·exact ⟨_,_,_,_,_,_,_,_,_,_,by rw[hn];rfl,(fun s hs=>by rw[hn] at hs;cases hs),hG⟩
  ·refine ⟨_,_,_,_,_,_,_,_,_,_,by rw[hn];rfl,fun s' hs=> ?_,hG⟩;rw[hn] at hs;obtain rfl:=Option.some.inj hs;exact ⟨rfl,rfl,h2.weak fun _ _ _=>trivial⟩
theorem ZnJ (h:ZbI b=true):(ZbO b).rows=b.rows:=by
 unfold ZbI at h;rw[Bool.and_eq_true] at h;unfold ZbO;rw[if_pos h.1];have h2:=h.2;unfold ZB at h2;unfold Zu;split
 ·rename_i hf;rw[hf] at h2;unfold okM;rw[if_pos (by simpa using h2)];rfl
 ·rename_i hf;simp[hf] at h2
theorem Zgn (A B:Mat):bdM (Zu A B)<=1048576:=by
 unfold Zu;by_cases hF:Zbi A B=true
 ·rw[if_pos hF];have:=ZmZ hF;unfold okM;split
  ·omega
  ·simp[bdM]
 ·rw[if_neg hF];simp[bdM]
theorem Zl8 (b:Mat):bdM (ZbO b)<=1048576:=by
 unfold ZbO;split
 ·exact Zgn _ _
 ·simp[bdM]
theorem Zql (h:Zdy m=some s): ∃ R:Nat,m.rows=R/\R<=6/\Ss R R s:=by
 unfold Zdy at h;split at h
 ·rename_i hd;obtain ⟨R,hmr,hmc,hR,hl,hnum⟩:=Zik hd;refine ⟨R,hmr,hR, ?_⟩;rw[hmr,Int.toNat_natCast] at h;have hs0:Ss R R (m.cells,idL R,idL R):=⟨hl,Zb2 R,Zb2 R,hnum,ZbZ R,ZbZ R⟩;have key: ∀ f k (S:SS),Ss R R S->1<=k->Zc6 R f k S=some s->Ss R R s:=by
   intro f;induction f with
   |zero=>
    intro k S hS _ he;by_cases hk:k<R
    ·rw[ZiC hk] at he;cases he
    ·rw[Zhv hk] at he;rw[←Option.some.inj he];exact hS
   |succ f ih=>
    intro k S hS hk1 he;by_cases hk:k<R
    ·rw[Zhg hk] at he;cases ha:Za1 S.1 R R with
     |none=>rw[ha] at he;cases he
     |some o=>
      rw[ha,Option.bind_some] at he;cases hr:Zbv R k o S with
      |none=>rw[hr] at he;cases he
      |some r=>rw[hr,Option.bind_some] at he;obtain ⟨g1,g2,g3⟩:=Zm7 hS hk1 hr;exact ih r.2 r.1 g1 g2 he
    ·rw[Zhv hk] at he;rw[←Option.some.inj he];exact hS
  exact key 200 1 _ hs0 (Nat.le_refl _) h
 ·cases h
theorem Zr8 (h:ZjM b=none):Zcj b=false/\ZcF b={rows:=0,cols:=0,cells:=[]}:=by
 unfold Zcj ZcF;rw[h];exact ⟨rfl,rfl⟩
theorem Zqm {u:Mat} (h:ZjM b=some u):Zcj b=ZB u b/\ZcF b=if ZB u b then Zu u b else {rows:=0,cols:=0,cells:=[]}:=by
 unfold Zcj ZcF;rw[h];exact ⟨rfl,rfl⟩
theorem ZrY (h:VM w S v m) (hb:bdM m<=1048576):
  Calls Tryz.prog 140 #[v] w fun e w'=> ∃ r y1 y2 y3 y4 y5,e= .returned (.tuple #[r, .agg #[Yv Yi y1,Yv Yi y2, .slice y3 y4 y5], .bool (Zcj m)])/\OM w' (New w w') r (ZcF m)/\Grow w w':=by
 have hV:=h;obtain ⟨a,n,c,rfl,h,ir,ic⟩:=h;obtain ⟨mr,hmr⟩: ∃ x,x=m.rows:=⟨_,rfl⟩;obtain ⟨mc,hmc⟩: ∃ x,x=m.cols:=⟨_,rfl⟩;rw[←hmr, ←hmc] at hV ⊢;obtain ⟨w3,hw3,hG,bM,bR1,bR2, -⟩:=al3 w #[Yv Yi mr,Yv Yi mc, .slice a n c] 34 #[Yv Yi 0,Yv Yi 0, .slice none 0 0] 34 #[Yv Yi 0,Yv Yi 0, .slice none 0 0] 34;have Hw3:=hid hw3;clear hw3;have Hmr:=hid hmr;have hno:=hid (fun h=>Zr8 (b:=m) h);have hyes:=hid (fun u h=>Zqm (b:=m) (u:=u) h);have HU:=hid (show ZjM m=if ZbI m then (Zdy (ZbO m)).map fun S=>{rows:=m.rows,cols:=m.rows,cells:=S.2.1} else none from rfl);have Hgr:=hid (fun h=>ZnJ (b:=m) h);clear h ir ic hmr hmc;go_enter Tryz.func140,Tryz.ntmps140;go_wp2_with fail;rw[←Hw3.out];refine (ZkF (hV.grow hG) hb).mono ?_;rintro e w4 ⟨rv,rfl,⟨ga,gn,gc,rfl,oG,rG,fG,i1,i2⟩,hG4⟩;have hgb:=Zl8 m;obtain ⟨gm,hgm⟩: ∃ x,x=ZbO m:=⟨_,rfl⟩;rw[←hgm] at oG rG i1 i2 hgb HU Hgr ⊢;clear hgm;obtain ⟨w5,hw5,hGa,bG, -⟩:=al1 w4 #[Yv Yi gm.rows,Yv Yi gm.cols, .slice ga gn gc] 34;have Hw5:=hid hw5;clear hw5;replace bM:=(bM.grow hG4).grow hGa;replace bR1:=(bR1.grow hG4).grow hGa;replace bR2:=(bR2.grow hG4).grow hGa;replace hV:=((hV.grow hG).grow hG4).grow hGa;have vG:VM w5 (fun _=>True) (.agg #[Yv Yi gm.rows,Yv Yi gm.cols, .slice ga gn gc]) gm:=⟨ga,gn,gc,rfl,(oG.grow hGa).rdI (fun _ _=>trivial) rG,i1,i2⟩;replace hG:=(hG.trans hG4).trans hGa;have hlt5:=bR2.lt;clear hG4 hGa oG rG fG i1 i2 Hw3;cases hgo:ZbI m with
 |false=>
  have Hn:=hid (hno.out (by rw[HU.out,hgo];rfl));clear hgo;rw[Hw5.out] at bR1 bR2 hG;have h1:w.heap.size<=w.heap.size+1:=by omega
  have h2:w.heap.size<=w.heap.size+1+1:=by omega
  have n12:w.heap.size+1≠w.heap.size+1+1:=by omega
  obtain ⟨⟨a0,a1,a2⟩,f0,f1,f2⟩:=bR1.three;obtain ⟨⟨b0,b1,b2⟩,g0,g1,g2⟩:=bR2.three;have hltA:=bR1.lt;have hltB:=bR2.lt;go_wp2
  refine Z5 Zc Zc rfl rfl rfl rfl
   ((((((bR1.set 0 _).set 1 _).set 2 _).other n12 _).other n12 _).other n12 _)
   ((((((bR2.other n12.symm _).other n12.symm _).other n12.symm _).set 0 _).set 1 _).set 2 _)
   ⟨_,_,_,_,_,_,by rw[Hn.out.1];rfl,by rw[Hn.out.2];exact OM.zero,(((((hG.setCell h1 _).setCell h1 _).setCell h1 _).setCell h2 _).setCell h2 _).setCell h2 _⟩
 |true=>
  have Hg1:=hid (Hgr.out hgo);replace HU:=hid (show ZjM m=(Zdy gm).map fun S=>{rows:=m.rows,cols:=m.rows,cells:=S.2.1} by rw[HU.out,hgo];rfl);have hnum:=fun s=>Zql (m:=gm) (s:=s);clear hgo Hgr;obtain ⟨⟨q0,q1,q2⟩, -⟩:=bG.three;have hltG:=bG.lt;rw[Hw5.out] at q0 q1 q2 hltG;go_wp2_with fail;rw[←Hw5.out];refine (Zrv vG hgb).mono ?_;rintro e w6 ⟨x1,x2,x3,x4,x5,y1,y2,y3,y4,y5,rfl,hy,hG6⟩;obtain ⟨w7,hw7,hGa, -,bU, -⟩:=al2 w6 #[Yv Yi x1,Yv Yi x2, .slice x3 x4 x5] 34 #[Yv Yi y1,Yv Yi y2, .slice y3 y4 y5] 34;have Hw7:=hid hw7;have hltR6:w.heap.size+1+1<w6.heap.size:=by have:=hG6.size;omega
  clear hw7 q0 q1 q2 hltG;replace bM:=(bM.grow hG6).grow hGa;replace bR1:=(bR1.grow hG6).grow hGa;replace bR2:=(bR2.grow hG6).grow hGa;replace hV:=(hV.grow hG6).grow hGa;replace hG:=(hG.trans hG6).trans hGa;obtain ⟨rg,hrg⟩: ∃ x,x=Zdy gm:=⟨_,rfl⟩;rw[←hrg] at HU hy hnum ⊢;clear hrg;cases rg with
  |none=>
   have Hn:=hid (hno.out (by rw[HU.out];rfl));clear hy hnum;rw[Hw7.out] at bR1 bR2 hG;have h1:w.heap.size<=w.heap.size+1:=(by omega);have h2:w.heap.size<=w.heap.size+1+1:=(by omega);have n12:w.heap.size+1≠w.heap.size+1+1:=(by omega);obtain ⟨⟨a0,a1,a2⟩,f0,f1,f2⟩:=bR1.three;obtain ⟨⟨b0,b1,b2⟩,g0,g1,g2⟩:=bR2.three;have hltA:=bR1.lt;have hltB:=bR2.lt;go_wp2
   refine Z5 Zc Zc rfl rfl rfl rfl
    ((((((bR1.set 0 _).set 1 _).set 2 _).other n12 _).other n12 _).other n12 _)
    ((((((bR2.other n12.symm _).other n12.symm _).other n12.symm _).set 0 _).set 1 _).set 2 _)
    ⟨_,_,_,_,_,_,by rw[Hn.out.1];rfl,by rw[Hn.out.2];exact OM.zero,(((((hG.setCell h1 _).setCell h1 _).setCell h1 _).setCell h2 _).setCell h2 _).setCell h2 _⟩
  |some s=>
   obtain ⟨hy1,hy2,ry⟩:=hy s rfl;obtain ⟨R,hR1,hR2,hs⟩:=hnum s rfl;have hUU:=HU.out;rw[Option.map_some] at hUU;have Hy:=hid (hyes.out _ hUU);have hyr:y1=m.rows:=(by rw[hy1,Hg1.out]);have hyr2:y2=m.rows:=(by rw[hy2,Hg1.out]);have vU:VM w7 (fun _=>True) (.agg #[Yv Yi y1,Yv Yi y2, .slice y3 y4 y5]) {rows:=m.rows,cols:=m.rows,cells:=s.2.1}:=(by rw[hyr,hyr2];exact ⟨y3,y4,y5,rfl,ry.grow hGa,by show I64 m.rows;rw[←Hg1.out,hR1];unfold I64;omega,by show I64 m.rows;rw[←Hg1.out,hR1];unfold I64;omega⟩);have hub:bdM {rows:=m.rows,cols:=m.rows,cells:=s.2.1}<=2097152:=(by unfold bdM;have h1:=hs.lu;have h2:R*R<=6*6:=Nat.mul_le_mul hR2 hR2;have h3:m.rows=R:=(by rw[←Hg1.out];exact hR1);simp only;omega);obtain ⟨um,hum⟩: ∃ x:Mat,x={rows:=m.rows,cols:=m.rows,cells:=s.2.1}:=⟨_,rfl⟩;rw[←hum] at Hy vU hub;clear hum hUU HU hno hyes hy hnum hs ry hy1 hy2 hyr hyr2 hR1 hR2 Hg1;obtain ⟨⟨q0,q1,q2⟩, -⟩:=bU.three;have hltU:=bU.lt;obtain ⟨⟨m0,m1,m2⟩, -⟩:=bM.three;have hltM:=bM.lt;rw[Hw7.out] at q0 q1 q2 hltU m0 m1 m2 hltM;go_wp2_with fail;rw[←Hw7.out];refine (Zcl vU hV hub (by omega)).mono ?_;rintro e w8 ⟨rv,rfl,⟨pa,pn,pc,rfl,oP,rP,fP,j1,j2⟩,hG8⟩;have hpb:=Zgn um m;obtain ⟨pm,hpm⟩: ∃ x,x=Zu um m:=⟨_,rfl⟩;rw[←hpm] at oP rP j1 j2 hpb Hy ⊢;clear hpm;obtain ⟨w9,hw9,hGa,bP, -⟩:=al1 w8 #[Yv Yi pm.rows,Yv Yi pm.cols, .slice pa pn pc] 34;have Hw9:=hid hw9;have hlt78:w.heap.size+1+1<w7.heap.size:=bR2.lt;have hltU7:w6.heap.size+1<w8.heap.size:=(bU.grow hG8).lt;clear hw9 q0 q1 q2 hltU m0 m1 m2 hltM;replace bU:=(bU.grow hG8).grow hGa;replace bR1:=(bR1.grow hG8).grow hGa;replace bR2:=(bR2.grow hG8).grow hGa;replace hG:=(hG.trans hG8).trans hGa;cases hmo:ZB um m with
   |false=>
    have Hn:=hid (show Zcj m=false/\ZcF m={rows:=0,cols:=0,cells:=[]} by rw[Hy.out.1,Hy.out.2,hmo];exact ⟨rfl,rfl⟩);clear hmo;rw[Hw9.out] at bR1 bR2 hG;have h1:w.heap.size<=w.heap.size+1:=(by omega);have h2:w.heap.size<=w.heap.size+1+1:=(by omega);have n12:w.heap.size+1≠w.heap.size+1+1:=(by omega);obtain ⟨⟨a0,a1,a2⟩,f0,f1,f2⟩:=bR1.three;obtain ⟨⟨b0,b1,b2⟩,g0,g1,g2⟩:=bR2.three;have hltA:=bR1.lt;have hltB:=bR2.lt;go_wp2
    refine Z5 Zc Zc rfl rfl rfl rfl
     ((((((bR1.set 0 _).set 1 _).set 2 _).other n12 _).other n12 _).other n12 _)
     ((((((bR2.other n12.symm _).other n12.symm _).other n12.symm _).set 0 _).set 1 _).set 2 _)
     ⟨_,_,_,_,_,_,by rw[Hn.out.1];rfl,by rw[Hn.out.2];exact OM.zero,(((((hG.setCell h1 _).setCell h1 _).setCell h1 _).setCell h2 _).setCell h2 _).setCell h2 _⟩
   |true=>
    have Hn:=hid (show Zcj m=true/\ZcF m=pm by rw[Hy.out.1,Hy.out.2,hmo];exact ⟨rfl,rfl⟩);clear hmo Hy;go_wp2;rw[←Hw9.out];have nP:w8.heap.size≠w.heap.size+1/\w8.heap.size≠w.heap.size+1+1:=⟨by omega,by omega⟩;have nU:w6.heap.size+1≠w.heap.size+1/\w6.heap.size+1≠w.heap.size+1+1:=⟨by omega,by omega⟩;refine Zg (S:=(Keep (fun q=>q≠w.heap.size+1/\q≠w.heap.size+1+1) w9)) [([0,1],some 2),([],some 3),([4],none)] Zm (by kernel_rfl) (fun _ _ _ _ _ h=>h) (Keep.refl _ _).drew ?_;show wpQuiet _ _ _ _ [_,_] _;(repeat (first |(go_big_quiet_want;(first |refine Zh Zc rfl rfl (fun w' hG=>bP.keep hG nP) ?_|refine Zh Zc rfl rfl (fun w' hG=>bU.keep hG nU) ?_);go_big_quiet_on;simp only[putP])|go_big_quiet_step (exact fun _=>rfl)));refine wpQuiet_nil ?_;obtain ⟨wa,hwa⟩: ∃ wa,wa=w9.drew:=⟨_,rfl⟩;rw[←hwa];have hGb:Grow w9 wa:=(by rw[hwa];exact (Grow.refl _).drew);clear hwa;have bR8:=bR1.grow hGb;have bS8:=bR2.grow hGb;refine Zf rfl (fun K hK=> ?_);obtain ⟨⟨a0,a1,a2⟩,f0,f1,f2⟩:=bR8.three;have hltA:=bR8.lt;go_wp2_with fail;have hK8:Keep (fun q=>q≠w.heap.size+1) wa (((wa.setCell ⟨w.heap.size+1,0,none⟩ (Yv Yi pm.rows)).setCell ⟨w.heap.size+1,1,none⟩ (Yv Yi pm.cols)).setCell ⟨w.heap.size+1,2,none⟩ (.slice pa pn pc)):=
     (((Keep.refl _ wa).setCell (fun _ e=>e rfl) _).setCell (fun _ e=>e rfl) _).setCell (fun _ e=>e rfl) _
    have bR9:=((bR8.set 0 (Yv Yi pm.rows)).set 1 (Yv Yi pm.cols)).set 2 (.slice pa pn pc);have bS9:=bS8.keep hK8 (by omega);refine hK _ _ (((hGb.mono fun _ _ _=>trivial).trans (hK8.mono fun q _ hb=>hb.1))) ?_;clear hK K;generalize (((wa.setCell ⟨w.heap.size+1,0,none⟩ (Yv Yi pm.rows)).setCell ⟨w.heap.size+1,1,none⟩ (Yv Yi pm.cols)).setCell ⟨w.heap.size+1,2,none⟩ (.slice pa pn pc))=wb at *;clear a0 a1 a2 f0 f1 f2 hltA;refine wpQuiet_nil ?_;refine Zf rfl (fun K hK=> ?_);obtain ⟨⟨b0,b1,b2⟩,g0,g1,g2⟩:=bS9.three;have hltB:=bS9.lt;go_wp2_with fail;have hK9:Keep (fun q=>q≠w.heap.size+1+1) wb (((wb.setCell ⟨w.heap.size+1+1,0,none⟩ (Yv Yi y1)).setCell ⟨w.heap.size+1+1,1,none⟩ (Yv Yi y2)).setCell ⟨w.heap.size+1+1,2,none⟩ (.slice y3 y4 y5)):=
     (((Keep.refl _ wb).setCell (fun _ e=>e rfl) _).setCell (fun _ e=>e rfl) _).setCell (fun _ e=>e rfl) _
    have bSA:=((bS9.set 0 (Yv Yi y1)).set 1 (Yv Yi y2)).set 2 (.slice y3 y4 y5);have bRA:=bR9.keep hK9 (by omega);refine hK _ _ ((((hGb.mono fun _ _ _=>trivial).trans (hK8.mono fun q _ hb=>hb.1)).trans (hK9.mono fun q _ hb=>hb.2))) ?_;clear hK K;show wpQuiet _ _ _ _ [_] _;(try (conv=>arg 6;simp only[putP]));(repeat (first |(go_big_quiet_want;(first |refine Zh Zc rfl rfl (fun w' hG=>bP.keep hG nP) ?_|refine Zh Zc rfl rfl (fun w' hG=>bU.keep hG nU) ?_);go_big_quiet_on;simp only[putP])|go_big_quiet_step (exact fun _=>rfl)));refine wpQuiet_nil ?_;refine Zk ?_;have hGe:=((hG.trans hGb).keep hK8 (fun q hq=>by omega)).keep hK9 (fun q hq=>by omega);have hs7:=hG8.size;have hoP:=(((oP.grow hGa).grow hGb).keep hK8 (fun q hq _ e=>by have:=(fP q hq).1;omega)).keep hK9 (fun q hq _ e=>by have:=(fP q hq).1;omega);go_wp2;exact Z5 Zc Zc rfl rfl rfl rfl bRA bSA ⟨_,_,_,_,_,_,by rw[Hn.out.1];rfl,by rw[Hn.out.2];exact ⟨pa,pn,pc,rfl,hoP,rP,fun q hq=>⟨by have:=(fP q hq).1;omega,hoP.lt hq⟩,j1,j2⟩,hGe⟩

end Go.Proofs.YtjpcgofidijigaaGreatDoor
