/- A step of a reduction: the reference's operation on rows and columns. -/
import Derived.Test.YtgeoehnbpkediaaGreatZSymP
import Derived.Test.YtgeoehnbpkediaaGreatZAccR
import Derived.Test.YtgeoehnbpkediaaGreatZRedI
set_option maxHeartbeats 8000000
set_option maxRecDepth 100000
namespace Go.Proofs.YtgeoehnbpkediaaGreat
open Go.RowKit
open Lib (hid)
open Go.Value renaming int->Yv
open Go.IntKind renaming i64->Yi
variable {S:Nat->Prop} {a:Option Addr} {c n:Nat} {m:Mat} {v:Value} {w:World}
theorem Zk2 (a u:Option Addr) (ca cu N:Nat) (kd i p t:Int) (s:HS) (s1:HS) (fa:List Int) (w:World) (h:Two w a u (N*N) (N*N) ca cu s)
  (h1: ∀ w,Two w a u (N*N) (N*N) ca cu s->Calls Tryz.prog 149 #[.agg #[Yv Yi N,Yv Yi N, .slice a (N*N) ca], .agg #[Yv Yi N,Yv Yi N, .slice u (N*N) cu], .agg #[Yv Yi kd,Yv Yi i,Yv Yi p,Yv Yi t]] w fun e w'=>e= .returned (.tuple #[])/\Two w' a u (N*N) (N*N) ca cu s1/\Keep (fun q=>blk a≠some q/\blk u≠some q) w w')
  (h2: ∀ w,Own w 3 1 a (N*N) ca (ints s1.1)->Calls Tryz.prog 152 #[.agg #[Yv Yi N,Yv Yi N, .slice a (N*N) ca], .agg #[Yv Yi kd,Yv Yi i,Yv Yi p,Yv Yi t]] w fun e w'=>e= .returned (.tuple #[])/\Own w' 3 1 a (N*N) ca (ints fa)/\Keep (fun q=>blk a≠some q) w w'):
  Calls Tryz.prog 158 #[.agg #[Yv Yi N,Yv Yi N, .slice a (N*N) ca], .agg #[Yv Yi N,Yv Yi N, .slice u (N*N) cu], .agg #[Yv Yi kd,Yv Yi i,Yv Yi p,Yv Yi t]] w fun e w'=>e= .returned (.tuple #[])/\Two w' a u (N*N) (N*N) ca cu (fa,s1.2)/\Keep (fun q=>blk a≠some q/\blk u≠some q) w w':=by
 obtain ⟨w2,hw2⟩: ∃ w2,w2=((w.alloc (.cells #[Yv Yi N,Yv Yi N, .slice a (N*N) ca] 28)).alloc (.cells #[Yv Yi N,Yv Yi N, .slice u (N*N) cu] 28)).alloc (.cells #[Yv Yi kd,Yv Yi i,Yv Yi p,Yv Yi t] 131):=⟨_,rfl⟩
 have hG2:Grow w w2:=by rw[hw2];exact (((Grow.refl w).alloc _ _).alloc _ _).alloc _ _
 have bA:Blk w2 w.heap.size #[Yv Yi N,Yv Yi N, .slice a (N*N) ca] 28:=by rw[hw2];exact ((Blk.new _ _ _).alloc _).alloc _
 have bX:Blk w2 (w.heap.size+2) #[Yv Yi kd,Yv Yi i,Yv Yi p,Yv Yi t] 131:=by rw[hw2];exact Blk.newAt _ _ _ (by simp)
 have Hw2:=hid hw2;clear hw2
 have ht:=h.grow hG2
 have nA:blk a≠some w.heap.size/\blk u≠some w.heap.size:=⟨fun e=>by have:=h.oa.lt e;omega,fun e=>by have:=h.ou.lt e;omega⟩
 have nX:blk a≠some (w.heap.size+2)/\blk u≠some (w.heap.size+2):=⟨fun e=>by have:=h.oa.lt e;omega,fun e=>by have:=h.ou.lt e;omega⟩
 go_enter Tryz.func158,Tryz.ntmps158
 go_wp2_with fail
 rw[←Hw2.out]
 refine (h1 _ ht).mono ?_
 rintro e w3 ⟨rfl,hT3,hK3⟩
 have bA3:=bA.keep hK3 nA
 have bX3:=bX.keep hK3 nX
 obtain ⟨⟨a0,a1,a2⟩, -⟩:=bA3.three
 have x0:=bX3.cell 0
 have x1:=bX3.cell 1
 have x2:=bX3.cell 2
 have x3:=bX3.cell 3
 simp only[List.getElem?_toArray,List.getElem?_cons_zero,List.getElem?_cons_succ] at x0 x1 x2 x3
 go_wp2_with fail
 refine (h2 _ hT3.oa).mono ?_
 rintro e w4 ⟨rfl,hO4,hK4⟩
 go_wp2
 refine bodyPost_end (results_none rfl _ _ _) rfl ⟨rfl,⟨hO4,hT3.ou.keep hK4 (fun g hg _ e=>h.ne g e hg),h.ne⟩, ?_⟩
 exact ((hG2.any).trans hK3).trans (hK4.mono (fun q _ hb=>hb.1))
theorem ZnG (a u:Option Addr) (ca cu N k j:Nat) (t:Int) (s:HS) (w:World) (h:Two w a u (N*N) (N*N) ca cu s) (hs:Hm N N s) (hk:k<N) (hj:j<N) (hkj:k≠j) (ht:NumS t) (hN:N<=24):
  Calls Tryz.prog 158 #[.agg #[Yv Yi N,Yv Yi N, .slice a (N*N) ca], .agg #[Yv Yi N,Yv Yi N, .slice u (N*N) cu], .agg #[Yv Yi 2,Yv Yi k,Yv Yi j,Yv Yi t]] w fun e w'=>e= .returned (.tuple #[])/\Two w' a u (N*N) (N*N) ca cu (ZfZ N k j t s)/\Keep (fun q=>blk a≠some q/\blk u≠some q) w w':=
 Zk2 a u ca cu N 2 k j t s (Zd2 N N k j t s) _ w h (fun w hw=>ZfN a u ca cu N N k j t s w hw hs hk hj hkj ht hN hN)
  (fun w hw=>Zhv a _ ca N N k j t _ w hw (by show (ZaV s.1 N k j t).length=_;rw[ZcD];exact hs.la) hk hj hkj (Zc8 hs.na) ht hN hN)
theorem ZnL (a u:Option Addr) (ca cu N k j:Nat) (S:SS) (w:World) (h:Two w a u (N*N) (N*N) ca cu (S.1,S.2.1)) (hs:Ss N N S) (hk:k<N) (hj:j<N) (hkj:k≠j) (hN:N<=24):
  Calls Tryz.prog 158 #[.agg #[Yv Yi N,Yv Yi N, .slice a (N*N) ca], .agg #[Yv Yi N,Yv Yi N, .slice u (N*N) cu], .agg #[Yv Yi 0,Yv Yi k,Yv Yi j,Yv Yi 0]] w fun e w'=>e= .returned (.tuple #[])/\Two w' a u (N*N) (N*N) ca cu ((Zc3 N k j S).1,(Zc3 N k j S).2.1)/\Keep (fun q=>blk a≠some q/\blk u≠some q) w w':=
 Zk2 a u ca cu N 0 k j 0 (S.1,S.2.1) (sw2 N N k j (S.1,S.2.1)) _ w h (fun w hw=>Zgc a u ca cu N N k j (S.1,S.2.1) w hw ⟨hs.la,hs.lu,hs.na,hs.nu⟩ hk hj hkj hN hN)
  (fun w hw=>Zgo a _ ca N N k j 0 _ w hw (Zdv (p:=k) (t:=j) hs).la hk hj hkj hN hN)
theorem Znk {mr mc:Int} (hVM:VM w S (.agg #[Yv Yi mr,Yv Yi mc, .slice a n c]) m) (hb:bdM m<=1048576) (hB:Zb1 m=false):
  Calls Tryz.prog 129 #[.agg #[Yv Yi mr,Yv Yi mc, .slice a n c]] w fun e w'=>e= .returned (.tuple #[zM,zM, .bool false])/\Grow w w':=by
 obtain ⟨w3,hw3⟩: ∃ w3,w3=((w.alloc (.cells #[Yv Yi mr,Yv Yi mc, .slice a n c] 28)).alloc (.cells #[Yv Yi 0,Yv Yi 0, .slice none 0 0] 28)).alloc (.cells #[Yv Yi 0,Yv Yi 0, .slice none 0 0] 28):=⟨_,rfl⟩
 have hG:Grow w w3:=by rw[hw3];exact (((Grow.refl w).alloc _ _).alloc _ _).alloc _ _
 have bM:Blk w3 w.heap.size #[Yv Yi mr,Yv Yi mc, .slice a n c] 28:=by rw[hw3];exact ((Blk.new w _ _).alloc _).alloc _
 have bR1:Blk w3 (w.heap.size+1) #[Yv Yi 0,Yv Yi 0, .slice none 0 0] 28:=by rw[hw3];exact (Blk.newAt _ _ _ (by simp)).alloc _
 have bR2:Blk w3 (w.heap.size+1+1) #[Yv Yi 0,Yv Yi 0, .slice none 0 0] 28:=by rw[hw3];exact Blk.newAt _ _ _ (by simp)
 have Hw3:=hid hw3;clear hw3
 have HB:=hid hB;clear hB
 go_enter Tryz.func129,Tryz.ntmps129
 go_wp2_with fail
 rw[←Hw3.out]
 refine (Zf1 (hVM.grow hG) (by omega)).mono ?_
 rintro e w4 ⟨rfl,hG4⟩
 rw[HB.out]
 replace bR1:=bR1.grow hG4
 replace bR2:=bR2.grow hG4
 replace hG:=hG.trans hG4
 have h1:w.heap.size<=w.heap.size+1:=by omega
 have h2:w.heap.size<=w.heap.size+1+1:=by omega
 have n12:w.heap.size+1≠w.heap.size+1+1:=by omega
 obtain ⟨⟨a0,a1,a2⟩,f0,f1,f2⟩:=bR1.three
 obtain ⟨⟨b0,b1,b2⟩,g0,g1,g2⟩:=bR2.three
 have hltA:=bR1.lt
 have hltB:=bR2.lt
 go_wp2
 refine Zw Za Za rfl rfl rfl rfl
  ((((((bR1.set 0 _).set 1 _).set 2 _).other n12 _).other n12 _).other n12 _)
  ((((((bR2.other n12.symm _).other n12.symm _).other n12.symm _).set 0 _).set 1 _).set 2 _) ?_
 exact ⟨rfl,(((((hG.setCell h1 _).setCell h1 _).setCell h1 _).setCell h2 _).setCell h2 _).setCell h2 _⟩
theorem ZmR {R:Nat} {cells:List Int} (h:RdI w S a n c cells) (hl:cells.length=R*R) (hnum:NumL cells) (hR:R<=6) (hD:Zb1 {rows:=(R:Int),cols:=(R:Int),cells:=cells}=true):
  Calls Tryz.prog 129 #[.agg #[Yv Yi R,Yv Yi R, .slice a n c]] w fun e w'=>Grow w w'/\((Zbn {rows:=(R:Int),cols:=(R:Int),cells:=cells}=none/\e= .returned (.tuple #[zM,zM, .bool false]))\/
   ∃ s aa ca au cu,Zbn {rows:=(R:Int),cols:=(R:Int),cells:=cells}=some s/\e= .returned (.tuple #[.agg #[Yv Yi R,Yv Yi R, .slice aa (R*R) ca], .agg #[Yv Yi R,Yv Yi R, .slice au (R*R) cu], .bool true])/\RdI w' (fun q=>w.heap.size<=q) aa (R*R) ca s.1/\RdI w' (fun q=>w.heap.size<=q) au (R*R) cu s.2.1):=by
 have hRR:R*R<=6*6:=Nat.mul_le_mul hR hR
 obtain ⟨mr,hmr⟩: ∃ mr:Int,mr=R:=⟨_,rfl⟩
 obtain ⟨mc,hmc⟩: ∃ mc:Int,mc=R:=⟨_,rfl⟩
 have hVM:VM w S (.agg #[Yv Yi R,Yv Yi R, .slice a n c]) {rows:=(R:Int),cols:=(R:Int),cells:=cells}:=⟨a,n,c,rfl,h,by show I64 (R:Int);unfold I64;omega,by show I64 (R:Int);unfold I64;omega⟩
 have hV2:VM w S (.agg #[Yv Yi mr,Yv Yi mc, .slice a n c]) {rows:=(R:Int),cols:=(R:Int),cells:=cells}:=by rw[hmr,hmc];exact hVM
 obtain ⟨res,hres⟩: ∃ res,res=Zbn {rows:=(R:Int),cols:=(R:Int),cells:=cells}:=⟨_,rfl⟩
 rw[←hres]
 have Hres:=hid (show ZbC R 200 1 (cells,idL R,idL R)=res by rw[hres];unfold Zbn;rw[if_pos hD];simp)
 have HD:=hid hD
 have e0:(.agg #[Yv Yi (R:Int),Yv Yi (R:Int), .slice a n c]:Value)= .agg #[Yv Yi mr,Yv Yi mc, .slice a n c]:=by rw[hmr,hmc]
 rw[e0]
 clear e0 hres hD
 obtain ⟨w3,hw3⟩: ∃ w3,w3=((w.alloc (.cells #[Yv Yi mr,Yv Yi mc, .slice a n c] 28)).alloc (.cells #[Yv Yi 0,Yv Yi 0, .slice none 0 0] 28)).alloc (.cells #[Yv Yi 0,Yv Yi 0, .slice none 0 0] 28):=⟨_,rfl⟩
 have hG:Grow w w3:=by rw[hw3];exact (((Grow.refl w).alloc _ _).alloc _ _).alloc _ _
 have bM:Blk w3 w.heap.size #[Yv Yi mr,Yv Yi mc, .slice a n c] 28:=by rw[hw3];exact ((Blk.new w _ _).alloc _).alloc _
 have bR1:Blk w3 (w.heap.size+1) #[Yv Yi 0,Yv Yi 0, .slice none 0 0] 28:=by rw[hw3];exact (Blk.newAt _ _ _ (by simp)).alloc _
 have bR2:Blk w3 (w.heap.size+1+1) #[Yv Yi 0,Yv Yi 0, .slice none 0 0] 28:=by rw[hw3];exact Blk.newAt _ _ _ (by simp)
 have Hw3:=hid hw3;clear hw3
 subst hmr
 subst hmc
 have hV3:=hV2.grow hG
 go_enter Tryz.func129,Tryz.ntmps129
 go_wp2_with fail
 rw[←Hw3.out]
 refine (Zf1 hV3 (by unfold bdM;simp;omega)).mono ?_
 rintro e w4 ⟨rfl,hG4⟩
 rw[HD.out]
 have bM4:=bM.grow hG4
 obtain ⟨⟨a0,a1,a2⟩, -⟩:=bM4.three
 have hlM:=bM4.lt
 go_wp2_with fail
 refine (Zfy (hV3.grow hG4) (by unfold bdM;simp;omega)).mono ?_
 rintro e w5 ⟨va,rfl,hA,hG5⟩
 obtain ⟨aa,na,ca,rfl,oA,rA,fA,iA1,iA2⟩:=hA
 replace oA:Own w5 3 1 aa na ca (ints cells):=oA
 have hna:na=R*R:=by have:=oA.len;simp at this;omega
 subst hna
 clear iA1 iA2 a0 a1 a2 hlM hVM hV2 hV3
 have bX:=Blk.new w5 #[Yv Yi (R:Int),Yv Yi (R:Int), .slice aa (R*R) ca] 28
 have hGX:=(Grow.refl w5).alloc #[Yv Yi (R:Int),Yv Yi (R:Int), .slice aa (R*R) ca] 28
 have hG45:=(hG4.trans hG5).trans hGX
 have oA5:=oA.grow hGX
 have bM5:=bM.grow hG45
 obtain ⟨⟨a0,a1,a2⟩, -⟩:=bM5.three
 have hlM:=bM5.lt
 have hlt5:w.heap.size<w5.heap.size:=(bM4.grow hG5).lt
 have hlR:w.heap.size+1+1<w4.heap.size:=(bR2.grow hG4).lt
 have hs45:=hG5.size
 have fA': ∀ q,blk aa=some q->w.heap.size+1+1<q:=fun q hq=>by have:=(fA q hq).1;omega
 have naX:blk aa≠some w5.heap.size:=fun e=>by have:=oA.lt e;omega
 clear oA bM4 bM fA
 go_wp2_with fail
 refine (Zd4 R _ (by omega)).mono ?_
 rintro e w6 ⟨au,rfl,oU,fU,hG6⟩
 have oA6:=oA5.grow hG6
 have bX6:=bX.grow hG6
 have hs6:=hG6.size
 have hs6':w5.heap.size<w6.heap.size:=by simp at hs6;omega
 have fU': ∀ q,blk au=some q->w5.heap.size<q:=fun q hq=>by have:=fU q hq;simp at this;omega
 obtain ⟨w7,hw7⟩: ∃ z,z=w6.alloc (.cells #[Yv Yi (R:Int),Yv Yi (R:Int), .slice au (R*R) (R*R)] 28):=⟨_,rfl⟩
 have hGU:Grow w6 w7:=by rw[hw7];exact (Grow.refl w6).alloc _ _
 have bU:Blk w7 w6.heap.size #[Yv Yi (R:Int),Yv Yi (R:Int), .slice au (R*R) (R*R)] 28:=by rw[hw7];exact Blk.new w6 _ _
 have hne: ∀ q,blk aa=some q->blk au≠some q:=fun q hq e=>by have:=oA5.lt hq;have:=fU q e;omega
 have nuX:blk au≠some w5.heap.size:=fun e=>by have:=fU' _ e;omega
 have naU:blk aa≠some w6.heap.size:=fun e=>by have:=oA6.lt e;omega
 have nuU:blk au≠some w6.heap.size:=fun e=>by have:=oU.lt e;omega
 have hTwo:Two w7 aa au (R*R) (R*R) ca (R*R) (cells,idL R):=⟨oA6.grow hGU,oU.grow hGU,hne⟩
 have hs0:Ss R R (cells,idL R,idL R):=⟨hl,Zba R,Zba R,hnum,Za9 R,Za9 R⟩
 have hT0:=Zmh R cells
 have bX7:=bX6.grow hGU
 have hGo:=((hG.trans hG45).trans hG6).trans hGU
 have bRa:=((bR1.grow hG45).grow hG6).grow hGU
 have bRb:=((bR2.grow hG45).grow hG6).grow hGU
 obtain ⟨Off2,hOff⟩: ∃ P:Nat->Prop,P=fun q=>blk aa≠some q/\blk au≠some q:=⟨_,rfl⟩
 have hTo: ∀ q,q<w.heap.size->Off2 q:=fun q hq=>by rw[hOff];exact ⟨fun e=>by have:=fA' q e;omega,fun e=>by have:=fU' q e;omega⟩
 have nR1:Off2 (w.heap.size+1):=by rw[hOff];exact ⟨fun e=>by have:=fA' _ e;omega,fun e=>by have:=fU' _ e;omega⟩
 have nR2:Off2 (w.heap.size+1+1):=by rw[hOff];exact ⟨fun e=>by have:=fA' _ e;omega,fun e=>by have:=fU' _ e;omega⟩
 have nX:Off2 w5.heap.size:=by rw[hOff];exact ⟨naX,nuX⟩
 have nU:Off2 w6.heap.size:=by rw[hOff];exact ⟨naU,nuU⟩
 have hl5:w.heap.size+1+1<w5.heap.size:=by omega
 have Hw7:=hid hw7
 have HO:=hid hOff
 clear hw7 hOff h hG hG4 hG5 hG45 hGX hG6 hGU bR1 bR2 bX bX6 bM5 oA5 oA6 oU fU a0 a1 a2 hlM Hw3 HD naX nuX naU nuU hs6 hs45 hl hnum
 go_wp2
 rw[←Hw7.out]
 go_loopw [8,9] (fun kv tv wr=>Keep Off2 w7 wr/\ ∃ (f k:Nat) (s:SS),f<=200/\tv=Yv Yi f/\kv=Yv Yi k/\Two wr aa au (R*R) (R*R) ca (R*R) (s.1,s.2.1)/\Ss R R s/\Trp R s/\1<=k/\k<=R+1/\ZbC R (200-f) k s=res) (fun _ tv _=>200-(intOf tv).toNat)
 case atStart=>exact ⟨Keep.refl _ _,0,1,_,by omega,rfl,rfl,hTwo,hs0,hT0,by omega,by omega,Hres.out⟩
 case round=>
  clear hTwo hs0 hT0 Hres
  obtain ⟨hK,f,k,s,hf,rfl,rfl,hT,hs,hTr,hk1,hkR,hh⟩:=hrel
  have bXr:=bX7.keep hK nX
  have bUr:=bU.keep hK nU
  obtain ⟨⟨m0,m1,m2⟩, -⟩:=bXr.three
  have hltX:=bXr.lt
  have Hh:=hid hh
  clear hh
  by_cases hlt:k<R
  ·have rA:=hT.oa.rdI (S:=fun _=>True) (fun _ _=>trivial) (ZC hs.na)
   go_wp2_with fail
   refine (ZpB aa _ ca R s.1 _ rA hs.la (by omega) hs.na).mono ?_
   rintro e w8 ⟨xa,xn,xc,ya,yn,yc,rfl,hAc,hG8⟩
   have hK8:Keep Off2 w7 w8:=hK.trans (hG8.any.mono fun _ _ _=>trivial)
   clear m0 m1 m2 hltX rA
   cases hac:Zay s.1 R R with
   |none=>
    have Hac:=hid hac
    clear hac hAc
    have Hn:=hid (show res=none by (rw[←Hh.out];cases (200-f) with |zero=>exact Zex hlt|succ q=>rw[Zd5 hlt,Hac.out];rfl))
    have hKd:Keep Off2 w7 w8:=hK8
    have hG:=hGo.keep hKd hTo
    have bR1:=bRa.keep hKd nR1
    have bR2:=bRb.keep hKd nR2
    have h1:w.heap.size<=w.heap.size+1:=by omega
    have h2:w.heap.size<=w.heap.size+1+1:=by omega
    have n12:w.heap.size+1≠w.heap.size+1+1:=by omega
    obtain ⟨⟨a0,a1,a2⟩,f0,f1,f2⟩:=bR1.three
    obtain ⟨⟨b0,b1,b2⟩,g0,g1,g2⟩:=bR2.three
    have hltA:=bR1.lt
    have hltB:=bR2.lt
    go_wp2
    refine Zw Za Za rfl rfl rfl rfl
     ((((((bR1.set 0 _).set 1 _).set 2 _).other n12 _).other n12 _).other n12 _)
     ((((((bR2.other n12.symm _).other n12.symm _).other n12.symm _).set 0 _).set 1 _).set 2 _) ?_
    exact ⟨(((((hG.setCell h1 _).setCell h1 _).setCell h1 _).setCell h2 _).setCell h2 _).setCell h2 _, .inl ⟨Hn.out,rfl⟩⟩
   |some o=>
    have Hac:=hid hac
    obtain ⟨hM,hQ⟩:=hAc o hac
    clear hac hAc
    by_cases hf2:f=200
    ·have q0:(200:Int)<=(f:Int):=by omega
     have Hn:=hid (show res=none by (rw[←Hh.out,show 200-f=0 by omega];exact Zex hlt))
     have hKd:Keep Off2 w7 w8:=hK8
     have hG:=hGo.keep hKd hTo
     have bR1:=bRa.keep hKd nR1
     have bR2:=bRb.keep hKd nR2
     have h1:w.heap.size<=w.heap.size+1:=by omega
     have h2:w.heap.size<=w.heap.size+1+1:=by omega
     have n12:w.heap.size+1≠w.heap.size+1+1:=by omega
     obtain ⟨⟨a0,a1,a2⟩,f0,f1,f2⟩:=bR1.three
     obtain ⟨⟨b0,b1,b2⟩,g0,g1,g2⟩:=bR2.three
     have hltA:=bR1.lt
     have hltB:=bR2.lt
     go_wp2
     refine Zw Za Za rfl rfl rfl rfl
      ((((((bR1.set 0 _).set 1 _).set 2 _).other n12 _).other n12 _).other n12 _)
      ((((((bR2.other n12.symm _).other n12.symm _).other n12.symm _).set 0 _).set 1 _).set 2 _) ?_
     exact ⟨(((((hG.setCell h1 _).setCell h1 _).setCell h1 _).setCell h2 _).setCell h2 _).setCell h2 _, .inl ⟨Hn.out,rfl⟩⟩
    ·have hf3:f<200:=by omega
     have Hl:=hid (Zc9 Hac.out)
     have hmn:R=xn:=by rw[←hM.len];exact Hl.out.1.symm
     have hqn:R=yn:=by rw[←hQ.len];exact Hl.out.2.1.symm
     subst hmn
     subst hqn
     have hrl:(o.1.getD k []).length=k:=by
      have hlt2:k<o.1.length:=by rw[Hl.out.1];exact hlt
      have e:o.1[k]? =some o.1[k]:=List.getElem?_eq_getElem hlt2
      rw[List.getD_eq_getElem?_getD,e]
      exact Hl.out.2.2 _ _ e
     have Hh2:=hid (show ZbC R (200-f) k s=(Za6 R k o s).bind fun r=>ZbC R (200-(f+1)) r.2 r.1 by
      rw[show 200-f=(200-(f+1))+1 by omega,Zd5 hlt,Hac.out,Option.bind_some])
     obtain ⟨k1,hk1'⟩: ∃ j,j+1=k:=⟨k-1,by omega⟩
     have q1:(k:Int)-1=(k1:Int):=by omega
     have Hk1:=hid hk1'
     clear hf2 hk1'
     have bX8:=bXr.grow hG8
     have bU8:=bUr.grow hG8
     have hT8:=hT.grow hG8
     have HT8:=hid hT8
     clear hT8 hT bXr bUr
     go_wp2
     obtain ⟨wo,rfl⟩: ∃ wo,wo=wr:=⟨_,rfl⟩
     go_loopw [13] (fun jv wr=>Grow w8 wr/\ ∃ jj:Nat,jj<=k/\jv=Yv Yi ((jj:Int)-1)/\ZcV (o.1.getD k []) k=ZcV (o.1.getD k []) jj) (fun jv _=>(intOf jv+1).toNat)
     case atStart=>exact ⟨Grow.refl _,k,Nat.le_refl _,by rw[q1],rfl⟩
     case round=>
      obtain ⟨hGr,jj,hjj,rfl,hF⟩:=hrel
      have HF:=hid hF
      clear hF
      have hMr:=hM.grow hGr
      have hQr:=hQ.grow hGr
      have hKr:Keep Off2 w7 wr:=hK8.trans (hGr.any.mono fun _ _ _=>trivial)
      cases jj with
      |zero=>
       have hk1k:k1<k:=by have:=Hk1.out;omega
       obtain ⟨xb,xo,yb,yo,yc',exa,hxb,u0,hyb,u1,u2⟩:=hMr.pair hlt (show k1<(o.1.getD k []).length by rw[hrl];exact hk1k)
       obtain ⟨zb,zo,eza,hzb,v1,v2⟩:=hQr.pair (show k1<R by omega)
       obtain ⟨zb',zo',eza', -,v3,v4⟩:=hQr.pair hlt
       subst exa
       subst eza
       obtain ⟨rfl,rfl⟩:zb=zb'/\zo=zo':=by
        injection eza' with e
        injection e with e1 e2
        exact ⟨e1,e2⟩
       have hkk:k-1=k1:=by have:=Hk1.out;omega
       have HS:=hid (show Za6 R k o s=(if ZY (rAt o.2 k) (Zo (Zar (3,4) (Zav (Zo (rAt (o.1.getD k []) k1) (rAt (o.1.getD k []) k1)))) (rAt o.2 k1))=2 then none else if ZY (rAt o.2 k) (Zo (Zar (3,4) (Zav (Zo (rAt (o.1.getD k []) k1) (rAt (o.1.getD k []) k1)))) (rAt o.2 k1))= -1 then some (Zc3 R k k1 s,max 1 k1) else some (s,k+1)) by
        unfold Za6 Zcl muAt
        rw[HF.out,hkk]
        rfl)
       rw[hrl] at u0
       generalize rAt (o.1.getD k []) k1=m at *
       generalize rAt o.2 k1=l1 at *
       generalize rAt o.2 k=l2 at *
       obtain ⟨m1,m2⟩:=m
       obtain ⟨p1,p2⟩:=l1
       obtain ⟨s1,s2⟩:=l2
       simp only at u1 u2 v1 v2 v3 v4
       clear hkk eza'
       go_wp2_with fail
       refine Zj (S:=Grow wr) [([0,1,2,3,4,5,6,7,8,9,10,11,12,13,14,15,16],some 17),([18,19,20,21,22],none)] Zn (by kernel_rfl) (fun _ _ _ _ _ h=>h) (Grow.refl _).drew ?_
       show wpQuiet _ _ _ _ [_,_,_,_,_,_,_,_,_,_,_,_,_,_,_,_,_] _
       repeat (first |go_big_quiet_skip|(go_big_quiet_want;first |(apply Zc Zb9;rfl;rfl;exact (fun w' hG=>hG.cell u0);go_big_quiet_on;simp only[putP])|(apply ZE Zr;rfl;rfl;exact (fun w' hG=>⟨hG.cell u1,hG.cell u2⟩);go_big_quiet_on;simp only[putP])|(apply ZE Zr;rfl;rfl;exact (fun w' hG=>⟨hG.cell v1,hG.cell v2⟩);go_big_quiet_on;simp only[putP])|(apply ZE Zr;rfl;rfl;exact (fun w' hG=>⟨hG.cell v3,hG.cell v4⟩);go_big_quiet_on;simp only[putP])|(go_big_quiet_op;first |go_big_quiet_on|(refine ⟨_,(fun _ _=>rfl), ?_⟩;go_big_quiet_on))))
       refine wpQuiet_nil ?_
       refine Zk rfl (fun K hK=> ?_)
       go_wp2_with fail
       refine (ZoE (m1,m2) (p1,p2) (s1,s2) _).mono ?_
       rintro e w9 ⟨rfl,hG9⟩
       have hGa:=(Grow.refl wr).drew.trans hG9
       have hGra:=hGr.trans hGa
       have hKa:Keep Off2 w7 w9:=hK8.trans (hGra.any.mono fun _ _ _=>trivial)
       go_wp2_with fail
       refine hK _ _ (hGa) ?_
       clear hK K
       show wpQuiet _ _ _ _ [_,_,_,_,_] _
       try (conv=>arg 6;simp only[putP])
       repeat (first |go_big_quiet_skip|(go_big_quiet_want;first |(apply Zc Zb9;rfl;rfl;exact (fun w' hG=>hG.cell u0);go_big_quiet_on;simp only[putP])|(apply ZE Zr;rfl;rfl;exact (fun w' hG=>⟨hG.cell u1,hG.cell u2⟩);go_big_quiet_on;simp only[putP])|(apply ZE Zr;rfl;rfl;exact (fun w' hG=>⟨hG.cell v1,hG.cell v2⟩);go_big_quiet_on;simp only[putP])|(apply ZE Zr;rfl;rfl;exact (fun w' hG=>⟨hG.cell v3,hG.cell v4⟩);go_big_quiet_on;simp only[putP])|(go_big_quiet_op;first |go_big_quiet_on|(refine ⟨_,(fun _ _=>rfl), ?_⟩;go_big_quiet_on))))
       refine wpQuiet_nil ?_
       refine Zm ?_
       have hcv:=Ziu (s1,s2) (Zo (Zar (3,4) (Zav (Zo (m1,m2) (m1,m2)))) (p1,p2))
       generalize ZY (s1,s2) (Zo (Zar (3,4) (Zav (Zo (m1,m2) (m1,m2)))) (p1,p2))=c at *
       have hTa:=HT8.out.grow hGra
       have bXa:=bX8.grow hGra
       have bUa:=bU8.grow hGra
       clear u0 u1 u2 v1 v2 v3 v4 hGa hG9 hKr
       rcases hcv with rfl|rfl|rfl|rfl
       ·have HN:=hid (show res=none by rw[←Hh.out,Hh2.out,HS.out];rfl)
        rw[show Zh1 2=false from rfl,show (!decide ((2:Int)=2))=false from rfl]
        have Hn:=hid (show res=none by (exact HN.out))
        have hKd:Keep Off2 w7 w9:=hKa
        have hG:=hGo.keep hKd hTo
        have bR1:=bRa.keep hKd nR1
        have bR2:=bRb.keep hKd nR2
        have h1:w.heap.size<=w.heap.size+1:=by omega
        have h2:w.heap.size<=w.heap.size+1+1:=by omega
        have n12:w.heap.size+1≠w.heap.size+1+1:=by omega
        obtain ⟨⟨a0,a1,a2⟩,f0,f1,f2⟩:=bR1.three
        obtain ⟨⟨b0,b1,b2⟩,g0,g1,g2⟩:=bR2.three
        have hltA:=bR1.lt
        have hltB:=bR2.lt
        go_wp2
        refine Zw Za Za rfl rfl rfl rfl
         ((((((bR1.set 0 _).set 1 _).set 2 _).other n12 _).other n12 _).other n12 _)
         ((((((bR2.other n12.symm _).other n12.symm _).other n12.symm _).set 0 _).set 1 _).set 2 _) ?_
        exact ⟨(((((hG.setCell h1 _).setCell h1 _).setCell h1 _).setCell h2 _).setCell h2 _).setCell h2 _, .inl ⟨Hn.out,rfl⟩⟩
       ·have HNx:=hid (show ZbC R (200-(f+1)) (max 1 k1) (Zc3 R k k1 s)=res by rw[←Hh.out,Hh2.out,HS.out];rfl)
        rw[show Zh1 (-1)=false from rfl,show (!decide ((-1:Int)=2))=true from rfl]
        obtain ⟨⟨x0,x1,x2⟩, -⟩:=bXa.three
        obtain ⟨⟨y0,y1,y2⟩, -⟩:=bUa.three
        have hlx:=bXa.lt
        have hly:=bUa.lt
        clear HS Hh Hh2
        go_wp2_with fail
        refine (ZnL aa au ca _ R k k1 s _ hTa hs hlt (by omega) (by omega) (by omega)).mono ?_
        rintro e wd ⟨rfl,hTd,hKad⟩
        have hKd:Keep Off2 w7 wd:=hKa.trans (by rw[HO.out];exact hKad)
        have hs':=Zki (k:=k) (j:=k1) hs
        have hT':=Zns hs hTr hlt (show k1<R by omega) (show k≠k1 by omega)
        generalize Zc3 R k k1 s=S' at *
        clear hTa hKa hs hTr bXa bUa x0 x1 x2 y0 y1 y2 hlx hly
        rcases Nat.lt_or_ge 1 k1 with hz|hz
        ·have HN2:=HNx.out
         rw[show max 1 k1=k1 by omega] at HN2
         replace HNx:=hid HN2
         clear HN2
         have bXd:=bX7.keep hKd nX
         have bUd:=bU.keep hKd nU
         obtain ⟨⟨x0,x1,x2⟩, -⟩:=bXd.three
         have hlxd:=bXd.lt
         have rdA:=hTd.oa.rdI (S:=fun _=>True) (fun _ _=>trivial) fun x hx=>(hs'.na.bl x hx).i64
         have rdU:=hTd.ou.rdI (S:=fun _=>True) (fun _ _=>trivial) fun x hx=>(hs'.nu.bl x hx).i64
         have Hh1:=hid (Zaa hs'.na)
         have Hh2':=hid (Zaa hs'.nu)
         go_wp2_with fail
         refine (ZU aa _ ca S'.1 _ rdA (by omega)).mono ?_
         rintro e we ⟨rfl,hQe⟩
         have hGe:=hQe.grow
         rw[Hh1.out]
         have bUe:=bUd.grow hGe
         obtain ⟨⟨y0,y1,y2⟩, -⟩:=bUe.three
         have hlye:=bUe.lt
         go_wp2_with fail
         refine (ZU au _ _ S'.2.1 _ (rdU.grow hGe) (by omega)).mono ?_
         rintro e wf ⟨rfl,hQf⟩
         have hGf:=hQf.grow
         rw[Hh2'.out]
         go_wp2
         go_roundw
         case rel=>exact ⟨hKd.trans ((hGe.trans hGf).any.mono fun _ _ _=>trivial),f+1,k1,S',by omega,by go_num,by go_num,(hTd.grow hGe).grow hGf,hs',hT',by omega,by omega,HNx.out⟩
         case measure=>simp[intOf];omega
        ·have HN2:=HNx.out
         rw[show max 1 k1=1 by omega] at HN2
         replace HNx:=hid HN2
         clear HN2
         rcases Nat.lt_or_ge 0 k1 with hz2|hz2
         ·have hz3:(1:Int)<=(k1:Int):=by omega
          have hz4:(k1:Int)<=1:=by omega
          have bXd:=bX7.keep hKd nX
          have bUd:=bU.keep hKd nU
          obtain ⟨⟨x0,x1,x2⟩, -⟩:=bXd.three
          have hlxd:=bXd.lt
          have rdA:=hTd.oa.rdI (S:=fun _=>True) (fun _ _=>trivial) fun x hx=>(hs'.na.bl x hx).i64
          have rdU:=hTd.ou.rdI (S:=fun _=>True) (fun _ _=>trivial) fun x hx=>(hs'.nu.bl x hx).i64
          have Hh1:=hid (Zaa hs'.na)
          have Hh2':=hid (Zaa hs'.nu)
          go_wp2_with fail
          refine (ZU aa _ ca S'.1 _ rdA (by omega)).mono ?_
          rintro e we ⟨rfl,hQe⟩
          have hGe:=hQe.grow
          rw[Hh1.out]
          have bUe:=bUd.grow hGe
          obtain ⟨⟨y0,y1,y2⟩, -⟩:=bUe.three
          have hlye:=bUe.lt
          go_wp2_with fail
          refine (ZU au _ _ S'.2.1 _ (rdU.grow hGe) (by omega)).mono ?_
          rintro e wf ⟨rfl,hQf⟩
          have hGf:=hQf.grow
          rw[Hh2'.out]
          go_wp2
          go_roundw
          case rel=>exact ⟨hKd.trans ((hGe.trans hGf).any.mono fun _ _ _=>trivial),f+1,1,S',by omega,by go_num,by go_num,(hTd.grow hGe).grow hGf,hs',hT',by omega,by omega,HNx.out⟩
          case measure=>simp[intOf];omega
         ·have hz3: ¬ (1:Int)<=(k1:Int):=by omega
          have hz4:(k1:Int)<=1:=by omega
          have bXd:=bX7.keep hKd nX
          have bUd:=bU.keep hKd nU
          obtain ⟨⟨x0,x1,x2⟩, -⟩:=bXd.three
          have hlxd:=bXd.lt
          have rdA:=hTd.oa.rdI (S:=fun _=>True) (fun _ _=>trivial) fun x hx=>(hs'.na.bl x hx).i64
          have rdU:=hTd.ou.rdI (S:=fun _=>True) (fun _ _=>trivial) fun x hx=>(hs'.nu.bl x hx).i64
          have Hh1:=hid (Zaa hs'.na)
          have Hh2':=hid (Zaa hs'.nu)
          go_wp2_with fail
          refine (ZU aa _ ca S'.1 _ rdA (by omega)).mono ?_
          rintro e we ⟨rfl,hQe⟩
          have hGe:=hQe.grow
          rw[Hh1.out]
          have bUe:=bUd.grow hGe
          obtain ⟨⟨y0,y1,y2⟩, -⟩:=bUe.three
          have hlye:=bUe.lt
          go_wp2_with fail
          refine (ZU au _ _ S'.2.1 _ (rdU.grow hGe) (by omega)).mono ?_
          rintro e wf ⟨rfl,hQf⟩
          have hGf:=hQf.grow
          rw[Hh2'.out]
          go_wp2
          go_roundw
          case rel=>exact ⟨hKd.trans ((hGe.trans hGf).any.mono fun _ _ _=>trivial),f+1,1,S',by omega,by go_num,by go_num,(hTd.grow hGe).grow hGf,hs',hT',by omega,by omega,HNx.out⟩
          case measure=>simp[intOf];omega
       ·have HNx:=hid (show ZbC R (200-(f+1)) (k+1) s=res by rw[←Hh.out,Hh2.out,HS.out];rfl)
        rw[show Zh1 0=true from rfl,show (!decide ((0:Int)=2))=true from rfl]
        obtain ⟨wd,rfl⟩: ∃ wd,wd=w9:=⟨_,rfl⟩
        obtain ⟨S',rfl⟩: ∃ S',S'=s:=⟨_,rfl⟩
        have hTd:=hTa
        have hKd:=hKa
        have hs':=hs
        have hT':=hTr
        clear hTa hKa hs hTr HS Hh Hh2 bXa bUa
        have bXd:=bX7.keep hKd nX
        have bUd:=bU.keep hKd nU
        obtain ⟨⟨x0,x1,x2⟩, -⟩:=bXd.three
        have hlxd:=bXd.lt
        have rdA:=hTd.oa.rdI (S:=fun _=>True) (fun _ _=>trivial) fun x hx=>(hs'.na.bl x hx).i64
        have rdU:=hTd.ou.rdI (S:=fun _=>True) (fun _ _=>trivial) fun x hx=>(hs'.nu.bl x hx).i64
        have Hh1:=hid (Zaa hs'.na)
        have Hh2':=hid (Zaa hs'.nu)
        go_wp2_with fail
        refine (ZU aa _ ca S'.1 _ rdA (by omega)).mono ?_
        rintro e we ⟨rfl,hQe⟩
        have hGe:=hQe.grow
        rw[Hh1.out]
        have bUe:=bUd.grow hGe
        obtain ⟨⟨y0,y1,y2⟩, -⟩:=bUe.three
        have hlye:=bUe.lt
        go_wp2_with fail
        refine (ZU au _ _ S'.2.1 _ (rdU.grow hGe) (by omega)).mono ?_
        rintro e wf ⟨rfl,hQf⟩
        have hGf:=hQf.grow
        rw[Hh2'.out]
        go_wp2
        go_roundw
        case rel=>exact ⟨hKd.trans ((hGe.trans hGf).any.mono fun _ _ _=>trivial),f+1,(k+1),S',by omega,by go_num,by go_num,(hTd.grow hGe).grow hGf,hs',hT',by omega,by omega,HNx.out⟩
        case measure=>simp[intOf];omega
       ·have HNx:=hid (show ZbC R (200-(f+1)) (k+1) s=res by rw[←Hh.out,Hh2.out,HS.out];rfl)
        rw[show Zh1 1=true from rfl,show (!decide ((1:Int)=2))=true from rfl]
        obtain ⟨wd,rfl⟩: ∃ wd,wd=w9:=⟨_,rfl⟩
        obtain ⟨S',rfl⟩: ∃ S',S'=s:=⟨_,rfl⟩
        have hTd:=hTa
        have hKd:=hKa
        have hs':=hs
        have hT':=hTr
        clear hTa hKa hs hTr HS Hh Hh2 bXa bUa
        have bXd:=bX7.keep hKd nX
        have bUd:=bU.keep hKd nU
        obtain ⟨⟨x0,x1,x2⟩, -⟩:=bXd.three
        have hlxd:=bXd.lt
        have rdA:=hTd.oa.rdI (S:=fun _=>True) (fun _ _=>trivial) fun x hx=>(hs'.na.bl x hx).i64
        have rdU:=hTd.ou.rdI (S:=fun _=>True) (fun _ _=>trivial) fun x hx=>(hs'.nu.bl x hx).i64
        have Hh1:=hid (Zaa hs'.na)
        have Hh2':=hid (Zaa hs'.nu)
        go_wp2_with fail
        refine (ZU aa _ ca S'.1 _ rdA (by omega)).mono ?_
        rintro e we ⟨rfl,hQe⟩
        have hGe:=hQe.grow
        rw[Hh1.out]
        have bUe:=bUd.grow hGe
        obtain ⟨⟨y0,y1,y2⟩, -⟩:=bUe.three
        have hlye:=bUe.lt
        go_wp2_with fail
        refine (ZU au _ _ S'.2.1 _ (rdU.grow hGe) (by omega)).mono ?_
        rintro e wf ⟨rfl,hQf⟩
        have hGf:=hQf.grow
        rw[Hh2'.out]
        go_wp2
        go_roundw
        case rel=>exact ⟨hKd.trans ((hGe.trans hGf).any.mono fun _ _ _=>trivial),f+1,(k+1),S',by omega,by go_num,by go_num,(hTd.grow hGe).grow hGf,hs',hT',by omega,by omega,HNx.out⟩
        case measure=>simp[intOf];omega
      |succ i=>
       have hi1:((i+1:Nat):Int)-1=(i:Int):=by omega
       rw[hi1]
       have hik:i<k:=by omega
       obtain ⟨xb,xo,yb,yo,yc',exa,hxb,u0,hyb,u1,u2⟩:=hMr.pair hlt (show i<(o.1.getD k []).length by rw[hrl];exact hik)
       subst exa
       have hstep:=show ZcV (o.1.getD k []) (i+1)=(if isR (rAt (o.1.getD k []) i) then (if Zat (rAt (o.1.getD k []) i)=0 then ZcV (o.1.getD k []) i else some (some (i,Zat (rAt (o.1.getD k []) i)))) else none) from rfl
       have Hst:=hid hstep
       have hrn:=ZkU (rAt (o.1.getD k []) i)
       generalize rAt (o.1.getD k []) i=r at *
       obtain ⟨r1,r2⟩:=r
       simp only at u1 u2
       rw[hrl] at u0
       clear hstep hi1
       go_wp2_with fail
       refine (Zag (r1,r2) _).mono ?_
       rintro e w9 ⟨rfl,hG9⟩
       replace u0:=hG9.cell u0
       replace u1:=hG9.cell u1
       replace u2:=hG9.cell u2
       cases hq:isR (r1,r2) with
       |false=>
        have HN:=hid (show res=none by
         have e1:Za6 R k o s=none:=by unfold Za6;rw[HF.out,Hst.out,hq];rfl
         rw[←Hh.out,Hh2.out,e1];rfl)
        have Hq:=hid hq
        clear hq
        go_wp2_with fail
        refine (Zag (r1,r2) _).mono ?_
        rintro e wa ⟨rfl,hGa⟩
        rw[Hq.out]
        have Hn:=hid (show res=none by (exact HN.out))
        have hKd:Keep Off2 w7 wa:=(hKr.trans ((hG9.trans hGa).any.mono fun _ _ _=>trivial))
        have hG:=hGo.keep hKd hTo
        have bR1:=bRa.keep hKd nR1
        have bR2:=bRb.keep hKd nR2
        have h1:w.heap.size<=w.heap.size+1:=by omega
        have h2:w.heap.size<=w.heap.size+1+1:=by omega
        have n12:w.heap.size+1≠w.heap.size+1+1:=by omega
        obtain ⟨⟨a0,a1,a2⟩,f0,f1,f2⟩:=bR1.three
        obtain ⟨⟨b0,b1,b2⟩,g0,g1,g2⟩:=bR2.three
        have hltA:=bR1.lt
        have hltB:=bR2.lt
        go_wp2
        refine Zw Za Za rfl rfl rfl rfl
         ((((((bR1.set 0 _).set 1 _).set 2 _).other n12 _).other n12 _).other n12 _)
         ((((((bR2.other n12.symm _).other n12.symm _).other n12.symm _).set 0 _).set 1 _).set 2 _) ?_
        exact ⟨(((((hG.setCell h1 _).setCell h1 _).setCell h1 _).setCell h2 _).setCell h2 _).setCell h2 _, .inl ⟨Hn.out,rfl⟩⟩
       |true=>
        have Hq:=hid hq
        clear hq
        go_wp2_with fail
        refine (ZjO (r1,r2) _).mono ?_
        rintro e wa ⟨rfl,hGa⟩
        replace u0:=hGa.cell u0
        replace u1:=hGa.cell u1
        replace u2:=hGa.cell u2
        have hGra:=(hGr.trans hG9).trans hGa
        by_cases h0:Zat (r1,r2)=0
        ·have Hs2:=hid (show ZcV (o.1.getD k []) k=ZcV (o.1.getD k []) i by rw[HF.out,Hst.out,Hq.out,h0];rfl)
         rw[h0]
         clear h0
         go_wp2
         go_roundw
         case rel=>exact ⟨hGra,i,by omega,by go_num,Hs2.out⟩
         case measure=>simp[intOf]
        ·have q3:(Zat (r1,r2)==0)=false:=by rw[beq_eq_false_iff_ne];exact h0
         have HR:=hid (show ZcV (o.1.getD k []) k=some (some (i,Zat (r1,r2))) by rw[HF.out,Hst.out,Hq.out,if_neg h0];rfl)
         clear h0
         go_wp2_with fail
         refine (Zag (r1,r2) _).mono ?_
         rintro e wb ⟨rfl,hGb⟩
         rw[Hq.out]
         replace u0:=hGb.cell u0
         replace u1:=hGb.cell u1
         replace u2:=hGb.cell u2
         have hGrb:=hGra.trans hGb
         have hKb:Keep Off2 w7 wb:=hK8.trans (hGrb.any.mono fun _ _ _=>trivial)
         have bXb:=bX8.grow hGrb
         have bUb:=bU8.grow hGrb
         go_wp2_with fail
         refine ZN (S:=(Grow wb)) (last:=14) [([0,1,2,3,4,5,6,7,8,9,10],some 11),([12],some 13),([],some 14)] Zn (by kernel_rfl) (fun _ _ _ _ _ h=>h) (Grow.refl _).drew ?_
         show wpQuiet _ _ _ _ [_,_,_,_,_,_,_,_,_,_,_] _
         repeat (first |go_big_quiet_skip|(go_big_quiet_want;first |(apply Ze Za;rfl;rfl;exact (fun w' hG=>bXb.grow hG);go_big_quiet_on;simp only[putP])|(apply Ze Za;rfl;rfl;exact (fun w' hG=>bUb.grow hG);go_big_quiet_on;simp only[putP])|(apply Zc Zb9;rfl;rfl;exact (fun w' hG=>hG.cell u0);go_big_quiet_on;simp only[putP])|(apply ZE Zr;rfl;rfl;exact (fun w' hG=>⟨hG.cell u1,hG.cell u2⟩);go_big_quiet_on;simp only[putP])|(go_big_quiet_op;first |go_big_quiet_on|(refine ⟨_,(fun _ _=>rfl), ?_⟩;go_big_quiet_on))))
         refine wpQuiet_nil ?_
         refine Zx rfl (fun K hK=> ?_)
         go_wp2_with fail
         refine (ZjO (r1,r2) _).mono ?_
         rintro e wc ⟨rfl,hGc⟩
         have hGd:=(Grow.refl wb).drew.trans hGc
         go_wp2_with fail
         refine hK _ _ ((fun _=>hGd)) ?_
         clear hK K
         show wpQuiet _ _ _ _ [_] _
         try (conv=>arg 6;simp only[putP])
         repeat (first |go_big_quiet_skip|(go_big_quiet_want;first |(apply Ze Za;rfl;rfl;exact (fun w' hG=>bXb.grow hG);go_big_quiet_on;simp only[putP])|(apply Ze Za;rfl;rfl;exact (fun w' hG=>bUb.grow hG);go_big_quiet_on;simp only[putP])|(apply Zc Zb9;rfl;rfl;exact (fun w' hG=>hG.cell u0);go_big_quiet_on;simp only[putP])|(apply ZE Zr;rfl;rfl;exact (fun w' hG=>⟨hG.cell u1,hG.cell u2⟩);go_big_quiet_on;simp only[putP])|(go_big_quiet_op;first |go_big_quiet_on|(refine ⟨_,(fun _ _=>rfl), ?_⟩;go_big_quiet_on))))
         refine wpQuiet_nil ?_
         refine Zx rfl (fun K hK=> ?_)
         have ht: -400000000<= -Zat (r1,r2)/\ -Zat (r1,r2)<=400000000:=by omega
         have wn:wrap64 (-Zat (r1,r2))= -Zat (r1,r2):=ZD (by omega)
         go_wp2_with fail
         refine hK _ _ ((fun _=>hGd)) ?_
         clear hK K
         show wpQuiet _ _ _ _ [] _
         try (conv=>arg 6;simp only[putP])
         refine wpQuiet_nil ?_
         refine Zx rfl (fun K hK=> ?_)
         have HS:=hid (show Za6 R k o s=(ZbO R k i (-Zat (r1,r2)) s).map fun S'=>(S',k) by unfold Za6;rw[HR.out];rfl)
         obtain ⟨t,ht0⟩: ∃ t,t= -Zat (r1,r2):=⟨_,rfl⟩
         rw[←ht0] at HS ht ⊢
         clear ht0 wn HR
         have hTc:=(HT8.out.grow hGrb).grow hGd
         have hmc:Hm R R (s.1,s.2.1):=⟨hs.la,hs.lu,hs.na.bl,hs.nu.bl⟩
         have hcs:=ZkN hs hTr hlt (show i<R by omega) (show k≠i by omega) ht
         have hmd:=ZnB (k:=k) (j:=i) (t:=t) hmc
         have Hcs:=hid hcs
         clear hcs
         go_wp2_with fail
         refine (ZnG aa au ca _ R k i t (s.1,s.2.1) _ hTc hmc hlt (by omega) (by omega) (.inl ht) (by omega)).mono ?_
         rintro e wd ⟨rfl,hTd,hKcd⟩
         have hKd:Keep Off2 w7 wd:=(hKb.trans (hGd.any.mono fun _ _ _=>trivial)).trans (by rw[HO.out];exact hKcd)
         go_wp2_with fail
         refine hK _ _ ((fun h=>(h rfl).elim)) ?_
         clear hK K
         refine Z8 ?_
         clear u0 u1 u2 bXb bUb hTc hmc hGd hGc hGb hGa hG9 hKb hKr
         rcases Hcs.out with ⟨S',hb,he,hs',hT'⟩|⟨hb,hbad⟩
         ·rw[←he] at hTd
          have HNx:=hid (show ZbC R (200-(f+1)) k S'=res by rw[←Hh.out,Hh2.out,HS.out,hb];rfl)
          clear hb he Hcs HS hmd
          have bXd:=bX7.keep hKd nX
          have bUd:=bU.keep hKd nU
          obtain ⟨⟨x0,x1,x2⟩, -⟩:=bXd.three
          have hlxd:=bXd.lt
          have rdA:=hTd.oa.rdI (S:=fun _=>True) (fun _ _=>trivial) fun x hx=>(hs'.na.bl x hx).i64
          have rdU:=hTd.ou.rdI (S:=fun _=>True) (fun _ _=>trivial) fun x hx=>(hs'.nu.bl x hx).i64
          have Hh1:=hid (Zaa hs'.na)
          have Hh2':=hid (Zaa hs'.nu)
          go_wp2_with fail
          refine (ZU aa _ ca S'.1 _ rdA (by omega)).mono ?_
          rintro e we ⟨rfl,hQe⟩
          have hGe:=hQe.grow
          rw[Hh1.out]
          have bUe:=bUd.grow hGe
          obtain ⟨⟨y0,y1,y2⟩, -⟩:=bUe.three
          have hlye:=bUe.lt
          go_wp2_with fail
          refine (ZU au _ _ S'.2.1 _ (rdU.grow hGe) (by omega)).mono ?_
          rintro e wf ⟨rfl,hQf⟩
          have hGf:=hQf.grow
          rw[Hh2'.out]
          go_wp2
          go_roundw
          case rel=>exact ⟨hKd.trans ((hGe.trans hGf).any.mono fun _ _ _=>trivial),f+1,k,S',by omega,by go_num,by go_num,(hTd.grow hGe).grow hGf,hs',hT',by omega,by omega,HNx.out⟩
          case measure=>simp[intOf];omega
         ·have HN:=hid (show res=none by rw[←Hh.out,Hh2.out,HS.out,hb];rfl)
          generalize ZfZ R k i t (s.1,s.2.1)=s2 at *
          have HB:=hid hbad
          clear hb hbad Hcs HS
          have bXd:=bX7.keep hKd nX
          have bUd:=bU.keep hKd nU
          obtain ⟨⟨x0,x1,x2⟩, -⟩:=bXd.three
          have hlxd:=bXd.lt
          have rdA:=hTd.oa.rdI (S:=fun _=>True) (fun _ _=>trivial) fun x hx=>(hmd.na x hx).i64
          have rdU:=hTd.ou.rdI (S:=fun _=>True) (fun _ _=>trivial) fun x hx=>(hmd.nu x hx).i64
          obtain ⟨t1,t2⟩:=s2
          simp only at rdA rdU HB
          have HB2:=hid (show ZbF t1=false->ZbF t2=true from fun h=>by
           rcases HB.out with h1|h1
           ·rw[ZaR.2 h1] at h;cases h
           ·exact ZaR.2 h1)
          obtain ⟨b1,hb1⟩: ∃ b,b=ZbF t1:=⟨_,rfl⟩
          have Hb1:=hid hb1
          clear hb1
          go_wp2_with fail
          refine (ZU aa _ ca t1 _ rdA (by omega)).mono ?_
          rintro e we ⟨rfl,hQe⟩
          have hGe:=hQe.grow
          rw[←Hb1.out]
          cases b1 with
          |true=>
           have Hn:=hid (show res=none by (exact HN.out))
           have hKd:Keep Off2 w7 we:=(hKd.trans (hGe.any.mono fun _ _ _=>trivial))
           have hG:=hGo.keep hKd hTo
           have bR1:=bRa.keep hKd nR1
           have bR2:=bRb.keep hKd nR2
           have h1:w.heap.size<=w.heap.size+1:=by omega
           have h2:w.heap.size<=w.heap.size+1+1:=by omega
           have n12:w.heap.size+1≠w.heap.size+1+1:=by omega
           obtain ⟨⟨a0,a1,a2⟩,f0,f1,f2⟩:=bR1.three
           obtain ⟨⟨b0,b1,b2⟩,g0,g1,g2⟩:=bR2.three
           have hltA:=bR1.lt
           have hltB:=bR2.lt
           go_wp2
           refine Zw Za Za rfl rfl rfl rfl
            ((((((bR1.set 0 _).set 1 _).set 2 _).other n12 _).other n12 _).other n12 _)
            ((((((bR2.other n12.symm _).other n12.symm _).other n12.symm _).set 0 _).set 1 _).set 2 _) ?_
           exact ⟨(((((hG.setCell h1 _).setCell h1 _).setCell h1 _).setCell h2 _).setCell h2 _).setCell h2 _, .inl ⟨Hn.out,rfl⟩⟩
          |false=>
           have hb2:=HB2.out Hb1.out.symm
           have bUe:=bUd.grow hGe
           obtain ⟨⟨y0,y1,y2⟩, -⟩:=bUe.three
           have hlye:=bUe.lt
           go_wp2_with fail
           refine (ZU au _ _ t2 _ (rdU.grow hGe) (by omega)).mono ?_
           rintro e wf ⟨rfl,hQf⟩
           have hGf:=hQf.grow
           rw[hb2]
           clear hb2
           have Hn:=hid (show res=none by (exact HN.out))
           have hKd:Keep Off2 w7 wf:=(hKd.trans ((hGe.trans hGf).any.mono fun _ _ _=>trivial))
           have hG:=hGo.keep hKd hTo
           have bR1:=bRa.keep hKd nR1
           have bR2:=bRb.keep hKd nR2
           have h1:w.heap.size<=w.heap.size+1:=by omega
           have h2:w.heap.size<=w.heap.size+1+1:=by omega
           have n12:w.heap.size+1≠w.heap.size+1+1:=by omega
           obtain ⟨⟨a0,a1,a2⟩,f0,f1,f2⟩:=bR1.three
           obtain ⟨⟨b0,b1,b2⟩,g0,g1,g2⟩:=bR2.three
           have hltA:=bR1.lt
           have hltB:=bR2.lt
           go_wp2
           refine Zw Za Za rfl rfl rfl rfl
            ((((((bR1.set 0 _).set 1 _).set 2 _).other n12 _).other n12 _).other n12 _)
            ((((((bR2.other n12.symm _).other n12.symm _).other n12.symm _).set 0 _).set 1 _).set 2 _) ?_
           exact ⟨(((((hG.setCell h1 _).setCell h1 _).setCell h1 _).setCell h2 _).setCell h2 _).setCell h2 _, .inl ⟨Hn.out,rfl⟩⟩
  ·have Hn:=hid (show res=some s by rw[←Hh.out];exact ZeP hlt)
   have hGx:=hGo.keep hK hTo
   have bRx:=bRa.keep hK nR1
   have bRy:=bRb.keep hK nR2
   have n5:w5.heap.size≠w.heap.size+1/\w5.heap.size≠w.heap.size+1+1:=⟨by omega,by omega⟩
   have n6:w6.heap.size≠w.heap.size+1/\w6.heap.size≠w.heap.size+1+1:=⟨by omega,by omega⟩
   go_wp2
   refine Zj (S:=(Keep (fun q=>q≠w.heap.size+1/\q≠w.heap.size+1+1) wr)) [([0,1],some 2),([],some 3),([4],none)] Zn (by kernel_rfl) (fun _ _ _ _ _ h=>h) (Keep.refl _ _).drew ?_
   show wpQuiet _ _ _ _ [_,_] _
   repeat (first |go_big_quiet_skip|(go_big_quiet_want;first |(apply Ze Za;rfl;rfl;exact (fun w' hG=>bXr.keep hG n5);go_big_quiet_on;simp only[putP])|(apply Ze Za;rfl;rfl;exact (fun w' hG=>bUr.keep hG n6);go_big_quiet_on;simp only[putP])|(go_big_quiet_op;first |go_big_quiet_on|(refine ⟨_,(fun _ _=>rfl), ?_⟩;go_big_quiet_on))))
   refine wpQuiet_nil ?_
   obtain ⟨w8,hw8⟩: ∃ w8,w8=wr.drew:=⟨_,rfl⟩
   rw[←hw8]
   have hG8:Grow wr w8:=by rw[hw8];exact (Grow.refl _).drew
   clear hw8 m0 m1 m2 hltX
   have bR8:=bRx.grow hG8
   have bS8:=bRy.grow hG8
   refine Zk rfl (fun K hK=> ?_)
   obtain ⟨⟨a0,a1,a2⟩,f0,f1,f2⟩:=bR8.three
   go_wp2_with fail
   have hK8:Keep (fun q=>q≠w.heap.size+1) w8 (((w8.setCell ⟨w.heap.size+1,0,none⟩ (Yv Yi (R:Int))).setCell ⟨w.heap.size+1,1,none⟩ (Yv Yi (R:Int))).setCell ⟨w.heap.size+1,2,none⟩ (.slice aa (R*R) ca)):=
    (((Keep.refl _ w8).setCell (fun _ e=>e rfl) _).setCell (fun _ e=>e rfl) _).setCell (fun _ e=>e rfl) _
   have bR9:=((bR8.set 0 (Yv Yi (R:Int))).set 1 (Yv Yi (R:Int))).set 2 (.slice aa (R*R) ca)
   have bS9:=bS8.keep hK8 (by omega)
   refine hK _ _ (((hG8.mono fun _ _ _=>trivial).trans (hK8.mono fun q _ hb=>hb.1))) ?_
   clear hK K
   generalize (((w8.setCell ⟨w.heap.size+1,0,none⟩ (Yv Yi (R:Int))).setCell ⟨w.heap.size+1,1,none⟩ (Yv Yi (R:Int))).setCell ⟨w.heap.size+1,2,none⟩ (.slice aa (R*R) ca))=w9 at *
   clear a0 a1 a2 f0 f1 f2
   show wpQuiet _ _ _ _ [] _
   try (conv=>arg 6;simp only[putP])
   refine wpQuiet_nil ?_
   refine Zk rfl (fun K hK=> ?_)
   obtain ⟨⟨b0,b1,b2⟩,g0,g1,g2⟩:=bS9.three
   go_wp2_with fail
   have hK9:Keep (fun q=>q≠w.heap.size+1+1) w9 (((w9.setCell ⟨w.heap.size+1+1,0,none⟩ (Yv Yi (R:Int))).setCell ⟨w.heap.size+1+1,1,none⟩ (Yv Yi (R:Int))).setCell ⟨w.heap.size+1+1,2,none⟩ (.slice au (R*R) (R*R))):=
    (((Keep.refl _ w9).setCell (fun _ e=>e rfl) _).setCell (fun _ e=>e rfl) _).setCell (fun _ e=>e rfl) _
   have bSA:=((bS9.set 0 (Yv Yi (R:Int))).set 1 (Yv Yi (R:Int))).set 2 (.slice au (R*R) (R*R))
   have bRA:=bR9.keep hK9 (by omega)
   refine hK _ _ ((((hG8.mono fun _ _ _=>trivial).trans (hK8.mono fun q _ hb=>hb.1)).trans (hK9.mono fun q _ hb=>hb.2))) ?_
   clear hK K
   show wpQuiet _ _ _ _ [_] _
   try (conv=>arg 6;simp only[putP])
   repeat (first |go_big_quiet_skip|(go_big_quiet_want;first |(apply Ze Za;rfl;rfl;exact (fun w' hG=>bXr.keep hG n5);go_big_quiet_on;simp only[putP])|(apply Ze Za;rfl;rfl;exact (fun w' hG=>bUr.keep hG n6);go_big_quiet_on;simp only[putP])|(go_big_quiet_op;first |go_big_quiet_on|(refine ⟨_,(fun _ _=>rfl), ?_⟩;go_big_quiet_on))))
   refine wpQuiet_nil ?_
   refine Zm ?_
   have hGe:=((hGx.trans hG8).keep hK8 (fun q hq=>by omega)).keep hK9 (fun q hq=>by omega)
   have hTe:=(((hT.grow hG8).keep hK8 (fun q hq=>by have:=fA' q hq;omega) (fun q hq=>by have:=fU' q hq;omega))).keep hK9 (fun q hq=>by have:=fA' q hq;omega) (fun q hq=>by have:=fU' q hq;omega)
   go_wp2
   exact Zw Za Za rfl rfl rfl rfl bRA bSA ⟨hGe, .inr ⟨s,aa,ca,au,R*R,Hn.out,rfl,hTe.oa.rdI (fun q hq=>by have:=fA' q hq;omega) (ZC hs.na),hTe.ou.rdI (fun q hq=>by have:=fU' q hq;omega) (ZC hs.nu)⟩⟩
theorem ZoJ (h:VM w S v m) (hb:bdM m<=1048576):
  Calls Tryz.prog 129 #[v] w fun e w'=> ∃ x1 x2 x3 x4 x5 y1 y2 y3 y4 y5,e= .returned (.tuple #[.agg #[Yv Yi x1,Yv Yi x2, .slice x3 x4 x5], .agg #[Yv Yi y1,Yv Yi y2, .slice y3 y4 y5], .bool (Zbn m).isSome])/\(∀ s,Zbn m=some s->y1=m.rows/\y2=m.rows/\RdI w' (fun _=>True) y3 y4 y5 s.2.1)/\Grow w w':=by
 have hV:=h
 obtain ⟨a,n,c,rfl,h,ir,ic⟩:=h
 cases hB:Zb1 m with
 |false=>
  refine (Znk hV hb hB).mono ?_
  rintro e w' ⟨rfl,hG⟩
  have hn:Zbn m=none:=by unfold Zbn;rw[hB];rfl
  exact ⟨_,_,_,_,_,_,_,_,_,_,by rw[hn];rfl,(fun s hs=>by rw[hn] at hs;cases hs),hG⟩
 |true=>
  obtain ⟨R,hmr,hmc,hR,hl,hnum⟩:=Ze9 hB
  obtain ⟨mr,mc,cells⟩:=m
  simp only at hmr hmc hl hnum h
  subst hmr
  subst hmc
  refine (ZmR h hl hnum hR hB).mono ?_
  rintro e w' ⟨hG,hr⟩
  rcases hr with ⟨hn,rfl⟩|⟨s,aa,ca,au,cu,hn,rfl,h1,h2⟩
  ·exact ⟨_,_,_,_,_,_,_,_,_,_,by rw[hn];rfl,(fun s hs=>by rw[hn] at hs;cases hs),hG⟩
  ·refine ⟨_,_,_,_,_,_,_,_,_,_,by rw[hn];rfl,fun s' hs=> ?_,hG⟩
   rw[hn] at hs
   obtain rfl:=Option.some.inj hs
   exact ⟨rfl,rfl,h2.weak fun _ _ _=>trivial⟩
theorem ZoN (h:VM w S v m) (hb:bdM m<=1048576):
  Calls Tryz.prog 98 #[v] w fun e w'=> ∃ r y1 y2 y3 y4 y5,e= .returned (.tuple #[r, .agg #[Yv Yi y1,Yv Yi y2, .slice y3 y4 y5], .bool (Zbh m)])/\OM w' (New w w') r (Za1 m)/\Grow w w':=by
 have hV:=h
 obtain ⟨a,n,c,rfl,h,ir,ic⟩:=h
 obtain ⟨mr,hmr⟩: ∃ x,x=m.rows:=⟨_,rfl⟩
 obtain ⟨mc,hmc⟩: ∃ x,x=m.cols:=⟨_,rfl⟩
 rw[←hmr, ←hmc] at hV ⊢
 obtain ⟨w3,hw3⟩: ∃ w3,w3=((w.alloc (.cells #[Yv Yi mr,Yv Yi mc, .slice a n c] 28)).alloc (.cells #[Yv Yi 0,Yv Yi 0, .slice none 0 0] 28)).alloc (.cells #[Yv Yi 0,Yv Yi 0, .slice none 0 0] 28):=⟨_,rfl⟩
 have hG:Grow w w3:=by rw[hw3];exact (((Grow.refl w).alloc _ _).alloc _ _).alloc _ _
 have bM:Blk w3 w.heap.size #[Yv Yi mr,Yv Yi mc, .slice a n c] 28:=by rw[hw3];exact ((Blk.new w _ _).alloc _).alloc _
 have bR1:Blk w3 (w.heap.size+1) #[Yv Yi 0,Yv Yi 0, .slice none 0 0] 28:=by rw[hw3];exact (Blk.newAt _ _ _ (by simp)).alloc _
 have bR2:Blk w3 (w.heap.size+1+1) #[Yv Yi 0,Yv Yi 0, .slice none 0 0] 28:=by rw[hw3];exact Blk.newAt _ _ _ (by simp)
 have Hw3:=hid hw3;clear hw3
 have Hmr:=hid hmr
 have hno:=hid (fun h=>ZkQ (b:=m) h)
 have hyes:=hid (fun u h=>Zkg (b:=m) (u:=u) h)
 have HU:=hid (show Zgm m=if ZaK m then (Zbn (ZaE m)).map fun S=>{rows:=m.rows,cols:=m.rows,cells:=S.2.1} else none from rfl)
 have Hgr:=hid (fun h=>ZhW (b:=m) h)
 clear h ir ic hmr hmc
 go_enter Tryz.func98,Tryz.ntmps98
 go_wp2_with fail
 rw[←Hw3.out]
 refine (Zit (hV.grow hG) hb).mono ?_
 rintro e w4 ⟨rv,rfl,⟨ga,gn,gc,rfl,oG,rG,fG,i1,i2⟩,hG4⟩
 have hgb:=Zhl m
 obtain ⟨gm,hgm⟩: ∃ x,x=ZaE m:=⟨_,rfl⟩
 rw[←hgm] at oG rG i1 i2 hgb HU Hgr ⊢
 clear hgm
 obtain ⟨w5,hw5⟩: ∃ z,z=w4.alloc (.cells #[Yv Yi gm.rows,Yv Yi gm.cols, .slice ga gn gc] 28):=⟨_,rfl⟩
 have hGa:Grow w4 w5:=by rw[hw5];exact (Grow.refl _).alloc _ _
 have bG:Blk w5 w4.heap.size #[Yv Yi gm.rows,Yv Yi gm.cols, .slice ga gn gc] 28:=by rw[hw5];exact Blk.new _ _ _
 have Hw5:=hid hw5
 clear hw5
 replace bM:=(bM.grow hG4).grow hGa
 replace bR1:=(bR1.grow hG4).grow hGa
 replace bR2:=(bR2.grow hG4).grow hGa
 replace hV:=((hV.grow hG).grow hG4).grow hGa
 have vG:VM w5 (fun _=>True) (.agg #[Yv Yi gm.rows,Yv Yi gm.cols, .slice ga gn gc]) gm:=⟨ga,gn,gc,rfl,(oG.grow hGa).rdI (fun _ _=>trivial) rG,i1,i2⟩
 replace hG:=(hG.trans hG4).trans hGa
 have hlt5:=bR2.lt
 clear hG4 hGa oG rG fG i1 i2 Hw3
 cases hgo:ZaK m with
 |false=>
  have Hn:=hid (hno.out (by rw[HU.out,hgo];rfl))
  clear hgo
  rw[Hw5.out] at bR1 bR2 hG
  have h1:w.heap.size<=w.heap.size+1:=by omega
  have h2:w.heap.size<=w.heap.size+1+1:=by omega
  have n12:w.heap.size+1≠w.heap.size+1+1:=by omega
  obtain ⟨⟨a0,a1,a2⟩,f0,f1,f2⟩:=bR1.three
  obtain ⟨⟨b0,b1,b2⟩,g0,g1,g2⟩:=bR2.three
  have hltA:=bR1.lt
  have hltB:=bR2.lt
  go_wp2
  refine Zw Za Za rfl rfl rfl rfl
   ((((((bR1.set 0 _).set 1 _).set 2 _).other n12 _).other n12 _).other n12 _)
   ((((((bR2.other n12.symm _).other n12.symm _).other n12.symm _).set 0 _).set 1 _).set 2 _)
   ⟨_,_,_,_,_,_,by rw[Hn.out.1];rfl,by rw[Hn.out.2];exact OM.zero,(((((hG.setCell h1 _).setCell h1 _).setCell h1 _).setCell h2 _).setCell h2 _).setCell h2 _⟩
 |true=>
  have Hg1:=hid (Hgr.out hgo)
  replace HU:=hid (show Zgm m=(Zbn gm).map fun S=>{rows:=m.rows,cols:=m.rows,cells:=S.2.1} by rw[HU.out,hgo];rfl)
  have hnum:=fun s=>ZjZ (m:=gm) (s:=s)
  clear hgo Hgr
  obtain ⟨⟨q0,q1,q2⟩, -⟩:=bG.three
  have hltG:=bG.lt
  rw[Hw5.out] at q0 q1 q2 hltG
  go_wp2_with fail
  rw[←Hw5.out]
  refine (ZoJ vG hgb).mono ?_
  rintro e w6 ⟨x1,x2,x3,x4,x5,y1,y2,y3,y4,y5,rfl,hy,hG6⟩
  obtain ⟨w7,hw7⟩: ∃ z,z=(w6.alloc (.cells #[Yv Yi x1,Yv Yi x2, .slice x3 x4 x5] 28)).alloc (.cells #[Yv Yi y1,Yv Yi y2, .slice y3 y4 y5] 28):=⟨_,rfl⟩
  have hGa:Grow w6 w7:=by rw[hw7];exact ((Grow.refl _).alloc _ _).alloc _ _
  have bU:Blk w7 (w6.heap.size+1) #[Yv Yi y1,Yv Yi y2, .slice y3 y4 y5] 28:=by rw[hw7];exact Blk.newAt _ _ _ (by simp)
  have Hw7:=hid hw7
  have hltR6:w.heap.size+1+1<w6.heap.size:=by have:=hG6.size;omega
  clear hw7 q0 q1 q2 hltG
  replace bM:=(bM.grow hG6).grow hGa
  replace bR1:=(bR1.grow hG6).grow hGa
  replace bR2:=(bR2.grow hG6).grow hGa
  replace hV:=(hV.grow hG6).grow hGa
  replace hG:=(hG.trans hG6).trans hGa
  obtain ⟨rg,hrg⟩: ∃ x,x=Zbn gm:=⟨_,rfl⟩
  rw[←hrg] at HU hy hnum ⊢
  clear hrg
  cases rg with
  |none=>
   have Hn:=hid (hno.out (by rw[HU.out];rfl))
   clear hy hnum
   rw[Hw7.out] at bR1 bR2 hG
   have h1:w.heap.size<=w.heap.size+1:=by omega
   have h2:w.heap.size<=w.heap.size+1+1:=by omega
   have n12:w.heap.size+1≠w.heap.size+1+1:=by omega
   obtain ⟨⟨a0,a1,a2⟩,f0,f1,f2⟩:=bR1.three
   obtain ⟨⟨b0,b1,b2⟩,g0,g1,g2⟩:=bR2.three
   have hltA:=bR1.lt
   have hltB:=bR2.lt
   go_wp2
   refine Zw Za Za rfl rfl rfl rfl
    ((((((bR1.set 0 _).set 1 _).set 2 _).other n12 _).other n12 _).other n12 _)
    ((((((bR2.other n12.symm _).other n12.symm _).other n12.symm _).set 0 _).set 1 _).set 2 _)
    ⟨_,_,_,_,_,_,by rw[Hn.out.1];rfl,by rw[Hn.out.2];exact OM.zero,(((((hG.setCell h1 _).setCell h1 _).setCell h1 _).setCell h2 _).setCell h2 _).setCell h2 _⟩
  |some s=>
   obtain ⟨hy1,hy2,ry⟩:=hy s rfl
   obtain ⟨R,hR1,hR2,hs⟩:=hnum s rfl
   have hUU:=HU.out
   rw[Option.map_some] at hUU
   have Hy:=hid (hyes.out _ hUU)
   have hyr:y1=m.rows:=by rw[hy1,Hg1.out]
   have hyr2:y2=m.rows:=by rw[hy2,Hg1.out]
   have vU:VM w7 (fun _=>True) (.agg #[Yv Yi y1,Yv Yi y2, .slice y3 y4 y5]) {rows:=m.rows,cols:=m.rows,cells:=s.2.1}:=by
    rw[hyr,hyr2]
    exact ⟨y3,y4,y5,rfl,ry.grow hGa,by show I64 m.rows;rw[←Hg1.out,hR1];unfold I64;omega,by show I64 m.rows;rw[←Hg1.out,hR1];unfold I64;omega⟩
   have hub:bdM {rows:=m.rows,cols:=m.rows,cells:=s.2.1}<=2097152:=by
    unfold bdM
    have h1:=hs.lu
    have h2:R*R<=6*6:=Nat.mul_le_mul hR2 hR2
    have h3:m.rows=R:=by rw[←Hg1.out];exact hR1
    simp only
    omega
   obtain ⟨um,hum⟩: ∃ x:Mat,x={rows:=m.rows,cols:=m.rows,cells:=s.2.1}:=⟨_,rfl⟩
   rw[←hum] at Hy vU hub
   clear hum hUU HU hno hyes hy hnum hs ry hy1 hy2 hyr hyr2 hR1 hR2 Hg1
   obtain ⟨⟨q0,q1,q2⟩, -⟩:=bU.three
   have hltU:=bU.lt
   obtain ⟨⟨m0,m1,m2⟩, -⟩:=bM.three
   have hltM:=bM.lt
   rw[Hw7.out] at q0 q1 q2 hltU m0 m1 m2 hltM
   go_wp2_with fail
   rw[←Hw7.out]
   refine (ZiM vU hV hub (by omega)).mono ?_
   rintro e w8 ⟨rv,rfl,⟨pa,pn,pc,rfl,oP,rP,fP,j1,j2⟩,hG8⟩
   have hpb:=ZeC um m
   obtain ⟨pm,hpm⟩: ∃ x,x=Zax um m:=⟨_,rfl⟩
   rw[←hpm] at oP rP j1 j2 hpb Hy ⊢
   clear hpm
   obtain ⟨w9,hw9⟩: ∃ z,z=w8.alloc (.cells #[Yv Yi pm.rows,Yv Yi pm.cols, .slice pa pn pc] 28):=⟨_,rfl⟩
   have hGa:Grow w8 w9:=by rw[hw9];exact (Grow.refl _).alloc _ _
   have bP:Blk w9 w8.heap.size #[Yv Yi pm.rows,Yv Yi pm.cols, .slice pa pn pc] 28:=by rw[hw9];exact Blk.new _ _ _
   have Hw9:=hid hw9
   have hlt78:w.heap.size+1+1<w7.heap.size:=bR2.lt
   have hltU7:w6.heap.size+1<w8.heap.size:=(bU.grow hG8).lt
   clear hw9 q0 q1 q2 hltU m0 m1 m2 hltM
   replace bU:=(bU.grow hG8).grow hGa
   replace bR1:=(bR1.grow hG8).grow hGa
   replace bR2:=(bR2.grow hG8).grow hGa
   replace hG:=(hG.trans hG8).trans hGa
   cases hmo:Zad um m with
   |false=>
    have Hn:=hid (show Zbh m=false/\Za1 m={rows:=0,cols:=0,cells:=[]} by rw[Hy.out.1,Hy.out.2,hmo];exact ⟨rfl,rfl⟩)
    clear hmo
    rw[Hw9.out] at bR1 bR2 hG
    have h1:w.heap.size<=w.heap.size+1:=by omega
    have h2:w.heap.size<=w.heap.size+1+1:=by omega
    have n12:w.heap.size+1≠w.heap.size+1+1:=by omega
    obtain ⟨⟨a0,a1,a2⟩,f0,f1,f2⟩:=bR1.three
    obtain ⟨⟨b0,b1,b2⟩,g0,g1,g2⟩:=bR2.three
    have hltA:=bR1.lt
    have hltB:=bR2.lt
    go_wp2
    refine Zw Za Za rfl rfl rfl rfl
     ((((((bR1.set 0 _).set 1 _).set 2 _).other n12 _).other n12 _).other n12 _)
     ((((((bR2.other n12.symm _).other n12.symm _).other n12.symm _).set 0 _).set 1 _).set 2 _)
     ⟨_,_,_,_,_,_,by rw[Hn.out.1];rfl,by rw[Hn.out.2];exact OM.zero,(((((hG.setCell h1 _).setCell h1 _).setCell h1 _).setCell h2 _).setCell h2 _).setCell h2 _⟩
   |true=>
    have Hn:=hid (show Zbh m=true/\Za1 m=pm by rw[Hy.out.1,Hy.out.2,hmo];exact ⟨rfl,rfl⟩)
    clear hmo Hy
    go_wp2
    rw[←Hw9.out]
    have nP:w8.heap.size≠w.heap.size+1/\w8.heap.size≠w.heap.size+1+1:=⟨by omega,by omega⟩
    have nU:w6.heap.size+1≠w.heap.size+1/\w6.heap.size+1≠w.heap.size+1+1:=⟨by omega,by omega⟩
    refine Zj (S:=(Keep (fun q=>q≠w.heap.size+1/\q≠w.heap.size+1+1) w9)) [([0,1],some 2),([],some 3),([4],none)] Zn (by kernel_rfl) (fun _ _ _ _ _ h=>h) (Keep.refl _ _).drew ?_
    show wpQuiet _ _ _ _ [_,_] _
    repeat (first |go_big_quiet_skip|(go_big_quiet_want;first |(apply Ze Za;rfl;rfl;exact (fun w' hG=>bP.keep hG nP);go_big_quiet_on;simp only[putP])|(apply Ze Za;rfl;rfl;exact (fun w' hG=>bU.keep hG nU);go_big_quiet_on;simp only[putP])|(go_big_quiet_op;first |go_big_quiet_on|(refine ⟨_,(fun _ _=>rfl), ?_⟩;go_big_quiet_on))))
    refine wpQuiet_nil ?_
    obtain ⟨wa,hwa⟩: ∃ wa,wa=w9.drew:=⟨_,rfl⟩
    rw[←hwa]
    have hGb:Grow w9 wa:=by rw[hwa];exact (Grow.refl _).drew
    clear hwa
    have bR8:=bR1.grow hGb
    have bS8:=bR2.grow hGb
    refine Zk rfl (fun K hK=> ?_)
    obtain ⟨⟨a0,a1,a2⟩,f0,f1,f2⟩:=bR8.three
    have hltA:=bR8.lt
    go_wp2_with fail
    have hK8:Keep (fun q=>q≠w.heap.size+1) wa (((wa.setCell ⟨w.heap.size+1,0,none⟩ (Yv Yi pm.rows)).setCell ⟨w.heap.size+1,1,none⟩ (Yv Yi pm.cols)).setCell ⟨w.heap.size+1,2,none⟩ (.slice pa pn pc)):=
     (((Keep.refl _ wa).setCell (fun _ e=>e rfl) _).setCell (fun _ e=>e rfl) _).setCell (fun _ e=>e rfl) _
    have bR9:=((bR8.set 0 (Yv Yi pm.rows)).set 1 (Yv Yi pm.cols)).set 2 (.slice pa pn pc)
    have bS9:=bS8.keep hK8 (by omega)
    refine hK _ _ (((hGb.mono fun _ _ _=>trivial).trans (hK8.mono fun q _ hb=>hb.1))) ?_
    clear hK K
    generalize (((wa.setCell ⟨w.heap.size+1,0,none⟩ (Yv Yi pm.rows)).setCell ⟨w.heap.size+1,1,none⟩ (Yv Yi pm.cols)).setCell ⟨w.heap.size+1,2,none⟩ (.slice pa pn pc))=wb at *
    clear a0 a1 a2 f0 f1 f2 hltA
    show wpQuiet _ _ _ _ [] _
    try (conv=>arg 6;simp only[putP])
    refine wpQuiet_nil ?_
    refine Zk rfl (fun K hK=> ?_)
    obtain ⟨⟨b0,b1,b2⟩,g0,g1,g2⟩:=bS9.three
    have hltB:=bS9.lt
    go_wp2_with fail
    have hK9:Keep (fun q=>q≠w.heap.size+1+1) wb (((wb.setCell ⟨w.heap.size+1+1,0,none⟩ (Yv Yi y1)).setCell ⟨w.heap.size+1+1,1,none⟩ (Yv Yi y2)).setCell ⟨w.heap.size+1+1,2,none⟩ (.slice y3 y4 y5)):=
     (((Keep.refl _ wb).setCell (fun _ e=>e rfl) _).setCell (fun _ e=>e rfl) _).setCell (fun _ e=>e rfl) _
    have bSA:=((bS9.set 0 (Yv Yi y1)).set 1 (Yv Yi y2)).set 2 (.slice y3 y4 y5)
    have bRA:=bR9.keep hK9 (by omega)
    refine hK _ _ ((((hGb.mono fun _ _ _=>trivial).trans (hK8.mono fun q _ hb=>hb.1)).trans (hK9.mono fun q _ hb=>hb.2))) ?_
    clear hK K
    show wpQuiet _ _ _ _ [_] _
    try (conv=>arg 6;simp only[putP])
    repeat (first |go_big_quiet_skip|(go_big_quiet_want;first |(apply Ze Za;rfl;rfl;exact (fun w' hG=>bP.keep hG nP);go_big_quiet_on;simp only[putP])|(apply Ze Za;rfl;rfl;exact (fun w' hG=>bU.keep hG nU);go_big_quiet_on;simp only[putP])|(go_big_quiet_op;first |go_big_quiet_on|(refine ⟨_,(fun _ _=>rfl), ?_⟩;go_big_quiet_on))))
    refine wpQuiet_nil ?_
    refine Zm ?_
    have hGe:=((hG.trans hGb).keep hK8 (fun q hq=>by omega)).keep hK9 (fun q hq=>by omega)
    have hs7:=hG8.size
    have hoP:=(((oP.grow hGa).grow hGb).keep hK8 (fun q hq _ e=>by have:=(fP q hq).1;omega)).keep hK9 (fun q hq _ e=>by have:=(fP q hq).1;omega)
    go_wp2
    exact Zw Za Za rfl rfl rfl rfl bRA bSA ⟨_,_,_,_,_,_,by rw[Hn.out.1];rfl,by rw[Hn.out.2];exact ⟨pa,pn,pc,rfl,hoP,rP,fun q hq=>⟨by have:=(fP q hq).1;omega,hoP.lt hq⟩,j1,j2⟩,hGe⟩

end Go.Proofs.YtgeoehnbpkediaaGreat
