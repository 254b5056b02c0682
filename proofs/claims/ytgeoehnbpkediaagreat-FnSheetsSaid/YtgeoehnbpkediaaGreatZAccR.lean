/- The account of a form: the reference's, its lists. -/
import Derived.Test.YtgeoehnbpkediaaGreatZAccJ
import Derived.Test.YtgeoehnbpkediaaGreatZRedP
set_option maxHeartbeats 8000000
set_option maxRecDepth 100000
namespace Go.Proofs.YtgeoehnbpkediaaGreat
open Go.RowKit
open Lib (hid)
open Go.Value renaming int->Yv
open Go.IntKind renaming i64->Yi
variable {O i k mc rc sc:Nat} {ma ra sa:Option Addr} {mu:List (List Rt)} {r:Rt} {s:List Rt} {vs:List Value} {w w':World}
structure AcR (O:Nat) (w:World) (ma:Option Addr) (i mc:Nat) (vs:List Value) (mu:List (List Rt)) (sa:Option Addr) (sc:Nat) (s:List Rt) (ra:Option Addr) (rc:Nat) (row:List Rt):Prop where
 oM:Own w 148 1 ma i mc vs
 oS:Own w 166 2 sa s.length sc (rts s)
 oR:Own w 166 2 ra row.length rc (rts row)
 rr:RdRows w (fun q=>O<=q/\blk sa≠some q/\blk ma≠some q/\blk ra≠some q) vs mu
 lM: ∀ q,blk ma=some q->O<=q
 lS: ∀ q,blk sa=some q->O<=q
 lR: ∀ q,blk ra=some q->O<=q
 nMS: ∀ q,blk ma=some q->blk sa≠some q
 nMR: ∀ q,blk ma=some q->blk ra≠some q
 nSR: ∀ q,blk sa=some q->blk ra≠some q
theorem AcR.keep {row:List Rt} (h:AcR O w ma i mc vs mu sa sc s ra rc row) (k:Keep (fun q=>q<w.heap.size) w w'):AcR O w' ma i mc vs mu sa sc s ra rc row:=
 ⟨h.oM.keep k fun _ _ h=>h,h.oS.keep k fun _ _ h=>h,h.oR.keep k fun _ _ h=>h,h.rr.keep k fun _ hb _=>hb,h.lM,h.lS,h.lR,h.nMS,h.nMR,h.nSR⟩
theorem AcR.grow {row:List Rt} (h:AcR O w ma i mc vs mu sa sc s ra rc row) (k:Grow w w'):AcR O w' ma i mc vs mu sa sc s ra rc row:=h.keep (k.any.mono fun _ _ _=>trivial)
theorem AcR.start (w:World):AcR w.heap.size ((w.alloc (.cells #[] 148)).alloc (.cells #[] 166)) (some ⟨w.heap.size,0,none⟩) 0 0 [] [] (some ⟨w.heap.size+1,0,none⟩) 0 [] none 0 []:=
 ⟨(Own.freshAt (cs:= #[]) rfl (by unfold maxLen;omega) rfl).grow ((Grow.refl _).alloc _ _),Own.freshAt (cs:= #[]) (by simp) (by simp[maxLen]) rfl,Own.nilw,RdRows.nilw,fun q hq=>by simp at hq;omega,fun q hq=>by simp at hq;omega,fun q hq=>by simp at hq,fun q hq e=>by simp at hq e;omega,fun q _ e=>by simp at e,fun q _ e=>by simp at e⟩
theorem AcR.fresh {g:Nat} (h:AcR O w ma i mc vs mu sa sc s none 0 []) (hg:g=w.heap.size) (hO:O<=w.heap.size):AcR O (w.alloc (.cells #[] 166)) ma i mc vs mu sa sc s (some ⟨g,0,none⟩) 0 []:=by
 have hG:Grow w (w.alloc (.cells #[] 166)):=(Grow.refl _).alloc _ _;subst hg;refine ⟨h.oM.grow hG,h.oS.grow hG,Own.freshAt (cs:= #[]) rfl (by simp[maxLen]) rfl,(h.rr.weak (T:=fun q=>O<=q/\blk sa≠some q/\blk ma≠some q/\blk (some (⟨w.heap.size,0,none⟩:Addr))≠some q) fun b hb hS=>⟨hS.1,hS.2.1,hS.2.2.1,fun e=>by simp at e;omega⟩).keep hG fun _ _ _=>trivial,h.lM,h.lS,fun q hq=>by simp at hq;omega,h.nMS,fun q hq e=> ?_,fun q hq e=> ?_⟩
 ·have:=h.oM.lt hq;simp at e;omega
 ·have:=h.oS.lt hq;simp at e;omega
theorem AcR.row {rc':Nat} {ra':Option Addr} {row:List Rt} (h:AcR O w ma i mc vs mu sa sc s ra rc row) (hO:O<=w.heap.size) (hA:Apped w w' 166 2 ra ra' (row.length+1) rc' (rts row++[Yv Yi r.1,Yv Yi r.2])):AcR O w' ma i mc vs mu sa sc s ra' rc' (row++[r]):=by
 have k:=hA.keep;have hnew: ∀ q,q<w.heap.size->blk ra≠some q->blk ra'≠some q:=fun q hq hne=>by
  rcases hA.new with e|⟨g,e,hge⟩
  ·rw[e];exact hne
  ·rw[e];intro e2;have:=Option.some.inj e2;omega
 refine ⟨h.oM.keep k fun g hg _=>h.nMR g hg,h.oS.keep k fun g hg _=>h.nSR g hg, ?_,(h.rr.weak (T:=fun q=>(O<=q/\blk sa≠some q/\blk ma≠some q/\blk ra'≠some q)/\blk ra≠some q) fun b hb hS=>⟨⟨hS.1,hS.2.1,hS.2.2.1,hnew b hb hS.2.2.2⟩,hS.2.2.2⟩).keep k (fun _ _ hS=>hS.2) |>.weak fun _ _ hS=>hS.1,h.lM,h.lS,hA.lo hO h.lR,h.nMS,fun q hq=>hnew q (h.oM.lt hq) (h.nMR q hq),fun q hq=>hnew q (h.oS.lt hq) (h.nSR q hq)⟩;have:=hA.own;rw[ZfW,List.length_append];exact this
theorem AcR.sq {sc':Nat} {sa':Option Addr} {row:List Rt} (h:AcR O w ma i mc vs mu sa sc s ra rc row) (hO:O<=w.heap.size) (hA:Apped w w' 166 2 sa sa' (s.length+1) sc' (rts s++[Yv Yi r.1,Yv Yi r.2])):AcR O w' ma i mc vs mu sa' sc' (s++[r]) ra rc row:=by
 have k:=hA.keep;have hnew: ∀ q,q<w.heap.size->blk sa≠some q->blk sa'≠some q:=fun q hq hne=>by
  rcases hA.new with e|⟨g,e,hge⟩
  ·rw[e];exact hne
  ·rw[e];intro e2;have:=Option.some.inj e2;omega
 refine ⟨h.oM.keep k fun g hg _=>h.nMS g hg, ?_,h.oR.keep k fun g hg _ e=>h.nSR g e hg,(h.rr.weak (T:=fun q=>(O<=q/\blk sa'≠some q/\blk ma≠some q/\blk ra≠some q)/\blk sa≠some q) fun b hb hS=>⟨⟨hS.1,hnew b hb hS.2.1,hS.2.2⟩,hS.2.1⟩).keep k (fun _ _ hS=>hS.2) |>.weak fun _ _ hS=>hS.1,h.lM,hA.lo hO h.lS,h.lR,fun q hq=>hnew q (h.oM.lt hq) (h.nMS q hq),h.nMR,fun q hq e=> ?_⟩
 ·have h1:=hA.own;rw[ZfW,List.length_append];exact h1
 ·exact hnew q (h.oR.lt e) (fun e2=>h.nSR q e2 e) hq
theorem AcR.put {mc':Nat} {ma':Option Addr} {row:List Rt} (hv:vs.length=mu.length) (hO:O<=w.heap.size) (h:AcR O w ma i mc vs mu sa sc s ra rc row) (hA:Apped w w' 148 1 ma ma' (i+1) mc' (vs++[.slice ra row.length rc])):AcR O w' ma' (i+1) mc' (vs++[.slice ra row.length rc]) (mu++[row]) sa sc s none 0 []:=by
 have k:=hA.keep;have hnew: ∀ q,q<w.heap.size->blk ma≠some q->blk ma'≠some q:=fun q hq hne=>by
  rcases hA.new with e|⟨g,e,hge⟩
  ·rw[e];exact hne
  ·rw[e];intro e2;have:=Option.some.inj e2;omega
 have hrow:RdT w (fun q=>O<=q/\blk sa≠some q/\blk ma≠some q) ra row.length rc row:=⟨h.oR.row fun q hq=>⟨h.lR q hq,fun e=>h.nSR q e hq,fun e=>h.nMR q e hq⟩,rfl⟩;have hrr:=((h.rr.weak (T:=fun q=>O<=q/\blk sa≠some q/\blk ma≠some q) fun b _ hS=>⟨hS.1,hS.2.1,hS.2.2.1⟩).snoc hv hrow).weak (T:=fun q=>(O<=q/\blk sa≠some q/\blk ma'≠some q/\blk none≠some q)/\blk ma≠some q) fun b hb hS=>⟨⟨hS.1,hS.2.1,hnew b hb hS.2.2,by simp⟩,hS.2.2⟩;exact ⟨hA.own,h.oS.keep k fun g hg _ e=>h.nMS g e hg,Own.nilw,(hrr.keep k fun _ _ hS=>hS.2).weak fun _ _ hS=>hS.1,hA.lo hO h.lM,h.lS,fun q hq=>by simp at hq,fun q hq e=>hnew q (h.oS.lt e) (fun e2=>h.nMS q e2 e) hq,fun q _ e=>by simp at e,fun q _ e=>by simp at e⟩
theorem AcR.rowC {row:List Rt} (h:AcR O w ma i mc vs mu sa sc s ra rc row) (hk:k<row.length):
  ∃ b off,ra=some ⟨b,off,none⟩/\b<w.heap.size/\w.cell? ⟨b,off+k*2,none⟩=some (Yv Yi (rAt row k).1)/\w.cell? ⟨b,off+k*2+1,none⟩=some (Yv Yi (rAt row k).2):=by
 obtain ⟨b,off,r,e,hr, -,hb,c0,c1⟩:=(show RdT w (fun _=>True) ra row.length rc row from ⟨h.oR.row fun _ _=>trivial,rfl⟩).at hk;have e2:rAt row k=r:=by unfold rAt;rw[List.getD_eq_getElem?_getD,hr];rfl
 rw[e2];exact ⟨b,off,e,hb,c0,c1⟩
theorem AcR.sqC {row:List Rt} (h:AcR O w ma i mc vs mu sa sc s ra rc row) (hk:k<s.length):
  ∃ b off,sa=some ⟨b,off,none⟩/\b<w.heap.size/\w.cell? ⟨b,off+k*2,none⟩=some (Yv Yi (rAt s k).1)/\w.cell? ⟨b,off+k*2+1,none⟩=some (Yv Yi (rAt s k).2):=by
 obtain ⟨b,off,r,e,hr, -,hb,c0,c1⟩:=(show RdT w (fun _=>True) sa s.length sc s from ⟨h.oS.row fun _ _=>trivial,rfl⟩).at hk;have e2:rAt s k=r:=by unfold rAt;rw[List.getD_eq_getElem?_getD,hr];rfl
 rw[e2];exact ⟨b,off,e,hb,c0,c1⟩
theorem AcR.muC {row:List Rt} (h:AcR O w ma i mc vs mu sa sc s ra rc row) (hv:mu.length=i) {j:Nat} (hj:j<i) (hk:k<(mu.getD j []).length):
  ∃ b off b1 o1 c1,ma=some ⟨b,off,none⟩/\b<w.heap.size/\w.cell? ⟨b,off+j,none⟩=some (.slice (some ⟨b1,o1,none⟩) (mu.getD j []).length c1)/\b1<w.heap.size/\w.cell? ⟨b1,o1+k*2,none⟩=some (Yv Yi (rAt (mu.getD j []) k).1)/\w.cell? ⟨b1,o1+k*2+1,none⟩=some (Yv Yi (rAt (mu.getD j []) k).2):=by
 have hvl:vs.length=i:=by have:=h.oM.len;omega
 obtain ⟨b,off,xs,b1,c1,e,hx, -,hb,c0,hr⟩:=(show RdTT w (fun _=>True) ma i mc mu from ⟨⟨vs,by omega,h.oM.row fun _ _=>trivial,h.rr.weak fun _ _ _=>trivial⟩,hv⟩).at hj;have e2:mu.getD j []=xs:=by rw[List.getD_eq_getElem?_getD,hx];rfl
 rw[e2] at hk ⊢;obtain ⟨b2,o2,r,rfl,hr2, -,hb2,d0,d1⟩:=hr.at hk;have e3:rAt xs k=r:=by unfold rAt;rw[List.getD_eq_getElem?_getD,hr2];rfl
 rw[e3];exact ⟨b,off,b2,o2,c1,e,hb,c0,hb2,d0,d1⟩
theorem Zqq {S:Nat->Prop} (a:Option Addr) (n cp N:Nat) (g:List Int) (w:World) (h:RdI w S a n cp g) (hl:g.length=N*N) (hN:N<=24) (hm:NumL g):
  Calls Tryz.prog 155 #[.agg #[Yv Yi N,Yv Yi N, .slice a n cp]] w fun e w'=> ∃ xa xn xc ya yn yc,e= .returned (.tuple #[.slice xa xn xc, .slice ya yn yc, .bool (Zax g N N).isSome])/\(∀ o,Zax g N N=some o->RdTT w' (fun q=>w.heap.size<=q) xa xn xc o.1/\RdT w' (fun q=>w.heap.size<=q) ya yn yc o.2)/\Grow w w':=by
 have hln:=h.len;have hNN:N*N<=24*24:=Nat.mul_le_mul hN hN;obtain ⟨w0,hw0,hG0,bM0,hs0⟩:=al1 w #[Yv Yi (N:Int),Yv Yi (N:Int), .slice a n cp] 28;obtain ⟨w1,hw1,hG01, -, -, -⟩:=al2 w0 #[] 148 #[] 166;have hG1:Grow w w1:=hG0.trans hG01;have bM:=bM0.grow hG01;have hA0:AcR (w.heap.size+1) w1 (some ⟨w.heap.size+1,0,none⟩) 0 0 [] [] (some ⟨w.heap.size+1+1,0,none⟩) 0 [] none 0 []:=by have:=AcR.start w0;rw[hs0] at this;rw[hw1];exact this
 have rd1:RdI w1 (fun q=>q<w.heap.size) a n cp g:=(h.weak (T:=fun q=>q<w.heap.size) (fun _ hb _=>hb)).grow hG1;have hs1:w1.heap.size=w.heap.size+1+1+1:=by rw[hw1];simp[hs0]
 have Hw1:=hid (show w1=((w.alloc (.cells #[Yv Yi (N:Int),Yv Yi (N:Int), .slice a n cp] 28)).alloc (.cells #[] 148)).alloc (.cells #[] 166) by rw[hw1,hw0]);have HS1:=hid hs1;clear hw1 hw0 h bM0 hG0 hG01 hs0 hs1;go_enter Tryz.func155,Tryz.ntmps155;go_wp2_with fail;rw[←Hw1.out];go_loopw [5,6,7] (fun mv sv iv wr=>Keep (fun q=>q<w.heap.size+1) w1 wr/\ ∃ (i mc sc:Nat) (ma sa:Option Addr) (vs:List Value) (mu:List (List Rt)) (s:List Rt),i<=N/\iv=Yv Yi i/\mv= .slice ma i mc/\sv= .slice sa s.length sc/\Zax g N i=some (mu,s)/\AcR (w.heap.size+1) wr ma i mc vs mu sa sc s none 0 []) (fun _ _ i _=>N-(intOf i).toNat);case atStart=>exact ⟨Keep.refl _ _,0,0,0,_,_,_,_,[],Nat.zero_le _,rfl,rfl,rfl,rfl,hA0⟩
 case round=>
  clear hA0;obtain ⟨hK0,i,mc,sc,ma,sa,vs,mu,s,hi,rfl,rfl,rfl,hI,hA⟩:=hrel;have bMr:=bM.keep hK0 (by omega);obtain ⟨⟨m0,m1,m2⟩, -⟩:=bMr.three;have hltM:=bMr.lt;by_cases hlt:i<N
  ·have hAf:=hA.fresh rfl (by omega);have HI:=hid hI;have HLn:=hid (Zdx hI);clear hI;go_wp2;obtain ⟨wo,rfl⟩: ∃ wo,wo=wr:=⟨_,rfl⟩;go_loopw [6,8,9] (fun sv rv jv wr=>Keep (fun q=>q<w.heap.size+1) w1 wr/\ ∃ (j rc sc':Nat) (ra sa':Option Addr) (row s':List Rt),j<=i+1/\jv=Yv Yi j/\rv= .slice ra row.length rc/\sv= .slice sa' s'.length sc'/\AcR (w.heap.size+1) wr ma i mc vs mu sa' sc' s' ra rc row/\(j<=i->s'=s/\Zbx g N mu s i j=some row)/\(j=i+1->Zax g N (i+1)=some (mu++[row],s'))) (fun _ _ j _=>i+1-(intOf j).toNat);case atStart=>exact ⟨hK0.alloc _ _,0,0,sc,_,sa,[],s,Nat.zero_le _,rfl,rfl,rfl,hAf,fun _=>⟨rfl,rfl⟩,fun e=>by omega⟩
   case round=>
    clear hAf hA hK0 m0 m1 m2 hltM bMr;obtain ⟨hKj,j,rc,sc',ra,sa',row,s',hj,rfl,rfl,rfl,hA,hJ1,hJ2⟩:=hrel;have bMr:=bM.keep hKj (by omega);obtain ⟨⟨m0,m1,m2⟩, -⟩:=bMr.three;have hltM:=bMr.lt;by_cases hle:j<=i
    ·obtain ⟨rfl,hJ⟩:=hJ1 hle;have Hrl:=hid (Zf1 hJ);have HJ:=hid hJ;clear hJ1 hJ2 hJ;have rdr:RdI wr (fun q=>q<w.heap.size) a n cp g:=rd1.keep hKj (fun q _ hq=>by omega);have hpl:=Zl (C:=N) (R:=N) (show j<N by omega) hlt;have hpn:i*N+j<n:=(by rw[←hln,hl];exact hpl);have hcn: -400000000<=cell g N i j/\cell g N i j<=400000000:=Zr hm N i j;obtain ⟨c,hc⟩: ∃ c,cell g N i j=c:=⟨_,rfl⟩;go_wp2_with fail;refine (ZK a n cp N i j (N:Int) g _ rdr hpn (by omega) (by omega) (by omega)).mono ?_;rintro e w3 ⟨rfl,hG3⟩;rw[hc] at hcn ⊢;have HC:=hid hc;clear hc hpn hpl;obtain ⟨w4,hw4,hG4,bR, -⟩:=al1 w3 #[Yv Yi c,Yv Yi 1] 166;have hGm:Grow wr w4:=hG3.trans hG4;have hs3:=hG3.size;have Hw4:=hid hw4;clear hw4 m0 m1 m2 hltM;go_wp2;rw[←Hw4.out];obtain ⟨wm,rfl⟩: ∃ wm,wm=wr:=⟨_,rfl⟩;go_loopw [11,12] (fun kv _ wr=>Keep (fun q=>q<w3.heap.size) w4 wr/\ ∃ (k:Nat) (r1 r2:Int),k<=j/\kv=Yv Yi k/\Blk wr w3.heap.size #[Yv Yi r1,Yv Yi r2] 166/\Zcq mu s' row i j k (c,1)=(r1,r2)) (fun k _ _=>j-(intOf k).toNat);case atStart=>exact ⟨Keep.refl _ _,0,c,1,Nat.zero_le _,rfl,bR,rfl⟩
     case round=>
      clear bR;obtain ⟨hKk,k,r1,r2,hk,rfl,bR,hac⟩:=hrel;have hAr:=hA.keep ((hGm.any.mono fun _ _ _=>trivial).trans (hKk.mono fun q _ (hq:q<wm.heap.size)=>by omega));have Hac:=hid hac;clear hac;by_cases hltk:k<j
      ·have hkr:k<row.length:=(by rw[Hrl.out];exact hltk);have hks:k<s'.length:=(by rw[HLn.out.2.1];omega);obtain ⟨rb,ro,era,hrb,p0,p1⟩:=hAr.rowC hkr;obtain ⟨sb,so,esa,hsb,s0,s1⟩:=hAr.sqC hks;subst era esa;by_cases hji:j=i
       case' pos=>
        have hji2: ¬ (j:Int)<(i:Int):=(by omega);have Hji:=hid hji;clear hji;go_wp2_with fail;obtain ⟨ot,hot⟩: ∃ z,z=rAt row k:=⟨_,rfl⟩;have Hstep:=hid (show Zcq mu s' row i j (k+1) (c,1)=Za4 (r1,r2) (ZaJ (Zz (Zz (rAt row k) ot) (rAt s' k))) by
         simp only[Zcq];rw[Hac.out,if_pos Hji.out,hot])
        obtain ⟨w7,hw7⟩: ∃ z,z=wr.alloc (.cells #[Yv Yi (rAt row k).1,Yv Yi (rAt row k).2] 166):=⟨_,rfl⟩;rw[←hw7];rw[←hot] at hw7;clear hot
       case' neg=>
        have hkm:k<(mu.getD j []).length:=(by have hjm:j<mu.length:=(by rw[HLn.out.1];omega);have e:mu[j]? =some mu[j]:=List.getElem?_eq_getElem hjm;rw[List.getD_eq_getElem?_getD,e];have:=HLn.out.2.2 j _ e;show k<mu[j].length;omega);obtain ⟨b2,o2,b3,o3,c3,ema,hb2,u0,hb3,u1,u2⟩:=hAr.muC HLn.out.1 (show j<i by omega) hkm;subst ema;obtain ⟨mr,hmr⟩: ∃ z,z=mu.getD j []:=⟨_,rfl⟩;rw[←hmr] at u0 u1 u2 hkm;have Hmr:=hid hmr;clear hmr;have hji2:(j:Int)<(i:Int):=(by omega);go_wp2_with fail;obtain ⟨ot,hot⟩: ∃ z,z=rAt mr k:=⟨_,rfl⟩;have Hstep:=hid (show Zcq mu s' row i j (k+1) (c,1)=Za4 (r1,r2) (ZaJ (Zz (Zz (rAt row k) ot) (rAt s' k))) by
         simp only[Zcq];rw[Hac.out,if_neg hji, ←Hmr.out,hot])
        obtain ⟨w7,hw7⟩: ∃ z,z=wr.alloc (.cells #[Yv Yi (rAt mr k).1,Yv Yi (rAt mr k).2] 166):=⟨_,rfl⟩;rw[←hw7];rw[←hot] at hw7;clear hot
       all_goals
        have hG7:Grow wr w7:=(by rw[hw7];exact (Grow.refl _).alloc _ _);have bT:Blk w7 wr.heap.size #[Yv Yi ot.1,Yv Yi ot.2] 166:=(by rw[hw7];exact Blk.new _ _ _);have bR7:=bR.grow hG7;replace p0:=hG7.cell p0;replace p1:=hG7.cell p1;replace s0:=hG7.cell s0;replace s1:=hG7.cell s1;clear hw7;generalize rAt row k=rk at *;generalize rAt s' k=sk at *;obtain ⟨t1,t2⟩:=ot;obtain ⟨x1,x2⟩:=rk;obtain ⟨y1,y2⟩:=sk;simp only at p0 p1 s0 s1 bT;refine ZF (S:=(Grow w7)) (last:=14) [([0,1,2,3,4,5,7,8,9,10],some 6),([],some 11),([],some 12),([],some 13),([],some 14)] Zm (by kernel_rfl) (fun _ _ _ _ _ h=>h) (Grow.refl _).drew ?_;show wpQuiet _ _ _ _ [_,_,_,_,_,_,_,_,_,_] _;(repeat (first |(go_big_quiet_want;(first |refine ZQ ZG rfl rfl (fun w' hG=>bR7.grow hG) ?_|refine ZI ZG rfl rfl (fun w' hG=>⟨hG.cell p0,hG.cell p1⟩) ?_|refine ZQ ZG rfl rfl (fun w' hG=>bT.grow hG) ?_|refine ZI ZG rfl rfl (fun w' hG=>⟨hG.cell s0,hG.cell s1⟩) ?_);go_big_quiet_on;simp only[putP])|go_big_quiet_step (exact fun _=>rfl)));refine wpQuiet_nil ?_;refine Zx rfl (fun K hK=> ?_);go_wp2_with fail;refine (Zga (x1,x2) (t1,t2) _).mono ?_;rintro e w8 ⟨rfl,hG8⟩;have hGa:=(Grow.refl w7).drew.trans hG8;go_wp2_with fail;refine hK _ _ ((fun _=>hGa)) ?_;clear hK K;refine wpQuiet_nil ?_;refine Zx rfl (fun K hK=> ?_);go_wp2_with fail;refine (Zga (Zz (x1,x2) (t1,t2)) (y1,y2) _).mono ?_;rintro e w9 ⟨rfl,hG9⟩;have hGb:=hGa.trans hG9;go_wp2_with fail;refine hK _ _ ((fun _=>hGb)) ?_;clear hK K;refine wpQuiet_nil ?_;refine Zx rfl (fun K hK=> ?_);go_wp2_with fail;refine (Zk4 (Zz (Zz (x1,x2) (t1,t2)) (y1,y2)) _).mono ?_;rintro e wb ⟨rfl,hGb2⟩;have hGd:=hGb.trans hGb2;go_wp2_with fail;refine hK _ _ ((fun _=>hGd)) ?_;clear hK K;refine wpQuiet_nil ?_;refine Zx rfl (fun K hK=> ?_);go_wp2_with fail;refine (Zkp (r1,r2) (ZaJ (Zz (Zz (x1,x2) (t1,t2)) (y1,y2))) _).mono ?_;rintro e wa ⟨rfl,hGa2⟩;have hGc:=hGd.trans hGa2;go_wp2_with fail;refine hK _ _ ((fun _=>hGc)) ?_;clear hK K;refine wpQuiet_nil ?_;refine Zx rfl (fun K hK=> ?_);generalize Za4 (r1,r2) (ZaJ (Zz (Zz (x1,x2) (t1,t2)) (y1,y2)))=rn at *;obtain ⟨n1,n2⟩:=rn;have bRa:=bR7.grow hGc;obtain ⟨⟨ra0,ra1⟩,rf0,rf1⟩:=bRa.two;have hltR:=bRa.lt;have bRb:=(bRa.set 0 (Yv Yi n1)).set 1 (Yv Yi n2);have hKs:Keep (fun q=>q≠w3.heap.size) wa ((wa.setCell ⟨w3.heap.size,0,none⟩ (Yv Yi n1)).setCell ⟨w3.heap.size,1,none⟩ (Yv Yi n2)):=((Keep.refl _ wa).setCell (fun _ e=>e rfl) _).setCell (fun _ e=>e rfl) _;have hKf:Keep (fun q=>q<w3.heap.size) w4 ((wa.setCell ⟨w3.heap.size,0,none⟩ (Yv Yi n1)).setCell ⟨w3.heap.size,1,none⟩ (Yv Yi n2)):=(hKk.trans (hG7.trans hGc).any).trans (hKs.mono fun q _ hq=>by omega);clear p0 p1 s0 s1 bT bR7 bRa;go_wp2_with fail;refine hK _ _ ((fun h=>(h rfl).elim)) ?_;clear hK K;refine Z7 ?_;go_wp2;go_roundw;case rel=>exact ⟨hKf,k+1,n1,n2,by omega,by go_num,bRb,Hstep.out⟩
        case measure=>simp[intOf];omega
      ·have Hr:=hid (show Zcq mu s' row i j j (cell g N i j,1)=(r1,r2) by
        rw[HC.out];have ek:k=j:=(by omega);have:=Hac.out;rw[ek] at this;exact this)
       obtain ⟨⟨c0,c1⟩,cf0,cf1⟩:=bR.two;have hltR:=bR.lt;have hKw:Keep (fun q=>q<w.heap.size+1) wm wr:=(hGm.any.mono fun _ _ _=>trivial).trans (hKk.mono fun q _ (hq:q<w.heap.size+1)=>by have:=HS1.out;have:=hKj.size;omega);go_wp2_with fail;refine (Za9 (r1,r2) _).mono ?_;rintro e w5 ⟨rfl,hG5⟩;have hA5:=hAr.grow hG5;have bR5:=bR.grow hG5;have hK5:Keep (fun q=>q<w.heap.size+1) w1 w5:=hKj.trans (hKw.trans (hG5.any.mono fun _ _ _=>trivial));have hGf:Grow w w5:=hG1.keep hK5 fun q hq=>(by omega);clear c0 c1 cf0 cf1 hltR hAr bR hKk;cases hq:isR (r1,r2) with
       |false=>
        have HN:=hid (show Zax g N N=none by
         have e1:Zbx g N mu s' i (j+1)=none:=(by show ((Zbx g N mu s' i j).bind _)=none;rw[HJ.out,Option.bind_some,Hr.out,hq];rfl);have e2:Zax g N (i+1)=none:=by
          show ((Zax g N i).bind _)=none;rw[HI.out,Option.bind_some];by_cases hji:j=i
          ·have:=HJ.out;rw[hji] at this;have hr2:=Hr.out;rw[hji] at hr2;show ((Zbx g N mu s' i i).bind _)=none;rw[this,Option.bind_some,hr2,hq];rfl
          ·have e3:=Zhc e1 (i-(j+1));rw[show j+1+(i-(j+1))=i by omega] at e3;show ((Zbx g N mu s' i i).bind _)=none;rw[e3];rfl
         have e3:=ZeA e2 (N-(i+1));rw[show i+1+(N-(i+1))=N by omega] at e3;exact e3)
        go_wp2
        go_ret3
        exact ⟨_,_,_,_,_,_,by rw[HN.out];rfl,fun o ho=>(by rw[HN.out] at ho;cases ho),hGf⟩
       |true=>
        obtain ⟨⟨c0,c1⟩,cf0,cf1⟩:=bR5.two;have hltR:=bR5.lt;by_cases hji:j<i
        ·have hjs:j<s'.length:=(by rw[HLn.out.2.1];exact hji);have q1:((j:Int)==(i:Int))=false:=(by rw[beq_eq_false_iff_ne];omega);obtain ⟨sb,so,esa,hsb,s0,s1⟩:=hA5.sqC hjs;subst esa;have hnR:blk ra≠some w3.heap.size:=fun e=>(by have:=hA.oR.lt e;omega);have hnS:blk ra≠some sb:=hA5.nSR sb rfl;have Hstep:=hid (show Zbx g N mu s' i (j+1)=some (row++[ZcE (r1,r2) (rAt s' j)]) by
          show ((Zbx g N mu s' i j).bind _)=_;rw[HJ.out,Option.bind_some,Hr.out,if_pos hq])
         generalize rAt s' j=sk at *;obtain ⟨y1,y2⟩:=sk;simp only at s0 s1;go_wp2_with fail;clear c0 c1 cf0 cf1 hltR hsb;refine Zd (S:=(Keep (fun q=>blk ra≠some q) w5)) [([0,1,2,3,4,5],some 6),([],some 7),([],some 8),([9],none)] Zm (by kernel_rfl) (fun _ _ _ _ _ h=>h) (Keep.refl _ _).drew ?_;show wpQuiet _ _ _ _ [_,_,_,_,_,_] _;(repeat (first |(go_big_quiet_want;(first |refine ZQ ZG rfl rfl (fun w' hG=>bR5.keep hG hnR) ?_|refine ZI ZG rfl rfl (fun w' hG=>⟨hG.cell hnS s0,hG.cell hnS s1⟩) ?_);go_big_quiet_on;simp only[putP])|go_big_quiet_step (exact fun _=>rfl)));refine wpQuiet_nil ?_;obtain ⟨w7,hw7⟩: ∃ w7,w7=w5.drew:=⟨_,rfl⟩;rw[←hw7];have hG7:Grow w5 w7:=(by rw[hw7];exact (Grow.refl _).drew);clear hw7;refine Zh rfl (fun K hK=> ?_);go_wp2_with fail;refine (Zn4 (r1,r2) (y1,y2) _).mono ?_;rintro e w8 ⟨rfl,hG8⟩;have hGa:=hG7.trans hG8;go_wp2_with fail;refine hK _ _ (hGa.any) ?_;clear hK K;generalize ZcE (r1,r2) (y1,y2)=dv at *;obtain ⟨d1,d2⟩:=dv;refine wpQuiet_nil ?_;refine Zh rfl (fun K hK=> ?_);go_wp2_with fail;have hGb:=hGa.alloc #[Yv Yi d1,Yv Yi d2] 166;refine hK _ _ (hGb.any) ?_;clear hK K;refine wpQuiet_nil ?_;refine Zh rfl (fun K hK=> ?_);have hAb:=hA5.grow hGb;have hrl:row.length<=24:=(by rw[Hrl.out];omega);refine Zg9 (.tmp 87) (.tmp 94) _ rfl Zii rfl hAb.oR rfl (Row.built (S:=fun _=>True) 1 (by unfold maxLen;omega) rfl trivial) (by simp[Value.oneCell']) (by omega) (by unfold maxLen;omega) ?_;intro a9 c9 w9 hA9;have hK9:Keep (fun q=>blk ra≠some q) w5 w9:=hGb.any.trans hA9.keep;have hAf:=hAb.row (r:=(d1,d2)) (by have:=HS1.out;have:=hG1.size;have:=hK5.size;have:=hGb.size;omega) hA9;refine hK _ _ (hK9) ?_;clear hK K;simp only[putP];show wpQuiet _ _ _ _ [_] _;(try (conv=>arg 6;simp only[putP]));(repeat (first |(go_big_quiet_want;(first |refine ZQ ZG rfl rfl (fun w' hG=>bR5.keep hG hnR) ?_|refine ZI ZG rfl rfl (fun w' hG=>⟨hG.cell hnS s0,hG.cell hnS s1⟩) ?_);go_big_quiet_on;simp only[putP])|go_big_quiet_step (exact fun _=>rfl)));refine wpQuiet_nil ?_;refine Zi ?_;go_wp2;go_roundw;case rel=>exact ⟨hK5.trans (hK9.mono fun q _ (hq:q<w.heap.size+1) e=>by have:=hA5.lR _ e;omega),j+1,c9,sc',a9,_,row++[(d1,d2)],s',by omega,by go_num,by simp,rfl,hAf,fun _=>⟨rfl,Hstep.out⟩,fun e=>by omega⟩
         case measure=>simp[intOf];omega
        ·have eji:j=i:=(by omega);have q1:((j:Int)==(i:Int))=true:=(by simp[eji]);have HJi:=hid (show Zbx g N mu s' i i=some row by have:=HJ.out;rw[eji] at this;exact this);have Hri:=hid (show Zcq mu s' row i i i (cell g N i i,1)=(r1,r2) by have:=Hr.out;rw[eji] at this;exact this);clear eji;by_cases hpos:r1<=0
         ·have HN:=hid (show Zax g N N=none by
           have e2:Zax g N (i+1)=none:=(by simp only[Zax,HI.out,Option.bind_some,HJi.out,Hri.out,hq,Bool.true_and];rw[if_neg (by simp;omega)]);have e3:=ZeA e2 (N-(i+1));rw[show i+1+(N-(i+1))=N by omega] at e3;exact e3)
          go_wp2
          go_ret3
          exact ⟨_,_,_,_,_,_,by rw[HN.out];rfl,fun o ho=>(by rw[HN.out] at ho;cases ho),hGf⟩
         ·have HI1:=hid (show Zax g N (i+1)=some (mu++[row],s'++[(r1,r2)]) by
           simp only[Zax,HI.out,Option.bind_some,HJi.out,Hri.out,hq,Bool.true_and];rw[if_pos (by simp;omega)])
          have hsl:s'.length<=24:=(by rw[HLn.out.2.1];omega);have hGb:Grow w5 (w5.alloc (.cells #[Yv Yi r1,Yv Yi r2] 166)):=(Grow.refl w5).alloc _ _;have hAb:=hA5.grow hGb;have hSb:=hAb.oS;go_wp2_with (at_builtin;refine ZS rfl (.tmp 83) (.tmp 85) _ rfl Zii rfl hSb rfl (Row.bAt6 (S:=fun _=>True) 1 rfl (by unfold maxLen;omega) rfl (fun _=>trivial)) (by simp[Value.oneCell']) (by omega) (by unfold maxLen;omega) ?_;intro a9 c9 w9 hA9);have hK9:Keep (fun q=>blk sa'≠some q) w5 w9:=hGb.any.trans hA9.keep;have hAf:=hAb.sq (r:=(r1,r2)) (by have:=HS1.out;have:=hG1.size;have:=hK5.size;have:=hGb.size;omega) hA9;have hKf:Keep (fun q=>q<w.heap.size+1) w1 w9:=hK5.trans (hK9.mono fun q _ (hq:q<w.heap.size+1) e=>by have:=hA5.lS _ e;omega);go_wp2;go_roundw;case rel=>exact ⟨hKf,j+1,rc,c9,_,a9,row,s'++[(r1,r2)],by omega,by go_num,rfl,by simp,hAf,fun e=>by omega,fun _=>HI1.out⟩
          case measure=>simp[intOf];omega
    ·have HI1:=hid (hJ2 (by omega));have hvl:vs.length=mu.length:=(by have:=hA.oM.len;have:=HLn.out.1;omega);clear hJ1 hJ2 m0 m1 m2 hltM;have hGb:Grow wr (wr.alloc (.cells #[.slice ra row.length rc] 148)):=(Grow.refl wr).alloc _ _;have hAb:=hA.grow hGb;have hMb:=hAb.oM;go_wp2_with (at_builtin;refine ZS rfl (.tmp 96) (.tmp 98) _ rfl ZlC rfl hMb rfl (Row.bAt6 (S:=fun _=>True) 1 rfl (by unfold maxLen;omega) rfl (fun _=>trivial)) (by simp[Value.oneCell']) (by omega) (by unfold maxLen;omega) ?_;intro a9 c9 w9 hA9);have hK9:Keep (fun q=>blk ma≠some q) wr w9:=hGb.any.trans hA9.keep;have hAf:=AcR.put hvl (by have:=HS1.out;have:=hG1.size;have:=hKj.size;have:=hGb.size;omega) hAb hA9;have hKf:Keep (fun q=>q<w.heap.size+1) w1 w9:=hKj.trans (hK9.mono fun q _ (hq:q<w.heap.size+1) e=>by have:=hA.lM _ e;omega);go_wp2;go_roundw;case rel=>exact ⟨hKf,i+1,c9,sc',a9,_,_,mu++[row],s',by omega,by go_num,rfl,rfl,HI1.out,hAf⟩
     case measure=>simp[intOf];omega
  ·have hNv:Zax g N N=some (mu,s):=(by have ein:i=N:=(by omega);have:=hI;rw[ein] at this;exact this);have HN:=hid hNv;clear hNv;have HLn:=hid (Zdx hI);clear hI;have hGf:Grow w wr:=hG1.keep hK0 fun q hq=>(by omega);go_wp2
   go_ret3
   refine ⟨_,_,_,_,_,_,by rw[HN.out];rfl,fun o1 o2 ho=> ?_,hGf⟩;rw[HN.out] at ho;obtain ⟨rfl,rfl⟩:=Prod.mk.inj (Option.some.inj ho);have hvl:vs.length=mu.length:=(by have:=hA.oM.len;have:=HLn.out.1;omega);refine ⟨?_, ?_⟩
   ·exact RdTT.weak (S:=fun q=>w.heap.size+1<=q) ⟨⟨vs,hvl,hA.oM.row hA.lM,hA.rr.weak fun _ _ h=>h.1⟩,HLn.out.1⟩ fun b _ hb=>by omega
   ·exact RdT.weak (S:=fun q=>w.heap.size+1<=q) ⟨hA.oS.row hA.lS,rfl⟩ fun b _ hb=>by omega

end Go.Proofs.YtgeoehnbpkediaaGreat
