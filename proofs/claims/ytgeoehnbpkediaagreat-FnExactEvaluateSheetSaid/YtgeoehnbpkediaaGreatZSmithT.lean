/- The reference's Smith form in place: the walk. -/
import Derived.Test.YtgeoehnbpkediaaGreatZSmithR
import Derived.Test.YtgeoehnbpkediaaGreatZBasI
set_option maxHeartbeats 8000000
set_option maxRecDepth 100000
namespace Go.Proofs.YtgeoehnbpkediaaGreat
open Go.RowKit
open Lib (hid)
open Go.Value renaming int->Yv
open Go.IntKind renaming i64->Yi
variable {C R c n t:Nat} {P:Program} {S:Nat->Prop} {a:Option Addr} {s:SS} {w:World}
theorem ZcP {ops:Array Oper} {rest:List Oper} {o:Oper} {A:Act} {Q:Exit->Act->World->Prop} {x y:Operand} {t:TypeId} {m n v:Int} (hgd:o.guard=none)
  (ho:o.op= .call {callee:= .builtin .min,args:= #[x,y],argTypes:= #[t,t]}) (hx:A.eval x=Yv Yi m) (hy:A.eval y=Yv Yi n) (hv:(if n<m then n else m)=v)
  (h:wpList P ops Q rest (A.put o.dst (Yv Yi v)) w):wpList P ops Q (o::rest) A w:=by
 refine wpList_plain hgd fun K hK=> ?_
 subst hv
 unfold Oper.wp execOp
 simp only[ho,resolve,invoke,builtin,Sem.run_bind,Sem.run_pure,Result.andThen_ok,List.map_toArray,List.map_cons,List.map_nil,hx,hy,run_min_int2]
 exact hK _ _ h
def ZhN (v:Value):Nat:=match v with
 | .bool true=>0
 |_=>1
theorem Zhx (h:t<R) (h2:t<C):Zci C R (min R C-t) t s=if (Z6 s.1 C R t).1<0 then some s else (sA C R t s).bind fun s'=>Zci C R (min R C-(t+1)) (t+1) (Zc6 C R t s'):=by
 rw[show min R C-t=(min R C-(t+1))+1 by omega];rfl
theorem ZjA (h: ¬ (t<R/\t<C)):Zci C R (min R C-t) t s=some s:=by
 rw[show min R C-t=0 by omega];rfl
theorem ZoB (a u v:Option Addr) (ca cu cv R C i p:Nat) (s:SS) (w:World) (h:Thr w a u v (R*C) (R*R) (C*C) ca cu cv s) (hs:Ss C R s) (hi:i<R) (hp:p<R) (hip:i≠p) (hR:R<=24) (hC:C<=24):
  Calls Tryz.prog 149 #[.agg #[Yv Yi R,Yv Yi C, .slice a (R*C) ca], .agg #[Yv Yi R,Yv Yi R, .slice u (R*R) cu], .agg #[Yv Yi 0,Yv Yi i,Yv Yi p,Yv Yi 0]] w fun e w'=>e= .returned (.tuple #[])/\Thr w' a u v (R*C) (R*R) (C*C) ca cu cv (ZbJ C R i p s)/\Keep (Off a u v) w w':=by
 refine (Zgc a u ca cu R C i p (s.1,s.2.1) w h.two ⟨hs.la,hs.lu,hs.na,hs.nu⟩ hi hp hip hR hC).mono ?_
 rintro e w' ⟨rfl,hT,hK⟩
 exact ⟨rfl,⟨hT.oa,hT.ou,h.ov.keep hK (fun g hg _=>⟨fun e=>h.nav g e hg,fun e=>h.nuv g e hg⟩),h.nau,h.nav,h.nuv⟩,hK.mono fun q _ hq=>⟨hq.1,hq.2.1⟩⟩
theorem Znq (a u v:Option Addr) (ca cu cv R C i:Nat) (s:SS) (w:World) (h:Thr w a u v (R*C) (R*R) (C*C) ca cu cv s) (hs:Ss C R s) (hi:i<R) (hR:R<=24) (hC:C<=24):
  Calls Tryz.prog 149 #[.agg #[Yv Yi R,Yv Yi C, .slice a (R*C) ca], .agg #[Yv Yi R,Yv Yi R, .slice u (R*R) cu], .agg #[Yv Yi 1,Yv Yi i,Yv Yi i,Yv Yi 0]] w fun e w'=>e= .returned (.tuple #[])/\Thr w' a u v (R*C) (R*R) (C*C) ca cu cv (ZeO C R i s)/\Keep (Off a u v) w w':=by
 refine (ZjX a u ca cu R C i (s.1,s.2.1) w h.two ⟨hs.la,hs.lu,hs.na,hs.nu⟩ hi hR hC).mono ?_
 rintro e w' ⟨rfl,hT,hK⟩
 exact ⟨rfl,⟨hT.oa,hT.ou,h.ov.keep hK (fun g hg _=>⟨fun e=>h.nav g e hg,fun e=>h.nuv g e hg⟩),h.nau,h.nav,h.nuv⟩,hK.mono fun q _ hq=>⟨hq.1,hq.2.1⟩⟩
theorem Zkn {m:List Int} (ht:t<=R) (htC:t<=C) (h:0<=(Z6 m C R t).1): ∃ r c:Nat,(Z6 m C R t).1=(r:Int)/\(Z6 m C R t).2=(c:Int)/\t<=r/\r<R/\t<=c/\c<C/\cell m C r c≠0/\lsR m C R t=r/\lsC m C R t=c:=by
 rcases Zgf m (C:=C) (R:=R) (t:=t) ht htC with ⟨h0,_⟩|⟨r,c,h1,h2,h3,h4,h5,h6,_,_⟩
 ·rw[h0] at h;simp at h
 ·exact ⟨r,c,by rw[h1],by rw[h1],h2,h3,h4,h5,h6,by unfold lsR;rw[h1];simp,by unfold lsC;rw[h1];simp⟩
theorem Zl2 (aa au av:Option Addr) (ca cu cv R C:Nat) (s0:SS) (w:World) (hT0:Thr w aa au av (R*C) (R*R) (C*C) ca cu cv s0) (hs0:Ss C R s0) (hR:R<=24) (hC:C<=24):
  Calls Tryz.prog 126 #[.agg #[Yv Yi R,Yv Yi C, .slice aa (R*C) ca], .agg #[Yv Yi R,Yv Yi R, .slice au (R*R) cu], .agg #[Yv Yi C,Yv Yi C, .slice av (C*C) cv]] w fun e w'=> ∃ b s',e= .returned (.bool b)/\Thr w' aa au av (R*C) (R*R) (C*C) ca cu cv s'/\Keep (Off aa au av) w w'/\(b=true->Zci C R (min R C) 0 s0=some s')/\(b=false->Zci C R (min R C) 0 s0=none):=by
 obtain ⟨w2,hw2⟩: ∃ w2,w2=((w.alloc (.cells #[Yv Yi (R:Int),Yv Yi (C:Int), .slice aa (R*C) ca] 28)).alloc (.cells #[Yv Yi (R:Int),Yv Yi (R:Int), .slice au (R*R) cu] 28)).alloc (.cells #[Yv Yi (C:Int),Yv Yi (C:Int), .slice av (C*C) cv] 28):=⟨_,rfl⟩
 have hG2:Grow w w2:=by rw[hw2];exact (((Grow.refl w).alloc _ _).alloc _ _).alloc _ _
 have bA:Blk w2 w.heap.size #[Yv Yi (R:Int),Yv Yi (C:Int), .slice aa (R*C) ca] 28:=by rw[hw2];exact ((Blk.new w _ _).alloc _).alloc _
 have bU:Blk w2 (w.heap.size+1) #[Yv Yi (R:Int),Yv Yi (R:Int), .slice au (R*R) cu] 28:=by rw[hw2];exact (Blk.newAt _ _ _ (by simp)).alloc _
 have bV:Blk w2 (w.heap.size+1+1) #[Yv Yi (C:Int),Yv Yi (C:Int), .slice av (C*C) cv] 28:=by rw[hw2];exact Blk.newAt _ _ _ (by simp)
 have Hw2:=hid hw2;clear hw2
 have hTT:=hT0.grow hG2
 have oA:Off aa au av w.heap.size:=⟨fun e=>by have:=hT0.oa.lt e;omega,fun e=>by have:=hT0.ou.lt e;omega,fun e=>by have:=hT0.ov.lt e;omega⟩
 have oU:Off aa au av (w.heap.size+1):=⟨fun e=>by have:=hT0.oa.lt e;omega,fun e=>by have:=hT0.ou.lt e;omega,fun e=>by have:=hT0.ov.lt e;omega⟩
 have oV:Off aa au av (w.heap.size+1+1):=⟨fun e=>by have:=hT0.oa.lt e;omega,fun e=>by have:=hT0.ou.lt e;omega,fun e=>by have:=hT0.ov.lt e;omega⟩
 have hRC:R*C<=24*24:=Nat.mul_le_mul hR hC
 have hRR:R*R<=24*24:=Nat.mul_le_mul hR hR
 have hCC:C*C<=24*24:=Nat.mul_le_mul hC hC
 obtain ⟨res,hres⟩: ∃ res,res=Zci C R (min R C) 0 s0:=⟨_,rfl⟩
 rw[←hres]
 clear hT0
 obtain ⟨M,hM⟩: ∃ M,M=min R C:=⟨_,rfl⟩
 have HM:=hid hM
 have hmin:(if (C:Int)<(R:Int) then (C:Int) else (R:Int))=(M:Int):=by split<;>omega
 clear hM
 go_enter Tryz.func126,Tryz.ntmps126
 go_wp2
 rw[←Hw2.out]
 go_loopw [7] (fun tv wr=>Keep (Off aa au av) w2 wr/\ ∃ (t:Nat) (s:SS),t<=24/\tv=Yv Yi t/\Thr wr aa au av (R*C) (R*R) (C*C) ca cu cv s/\Ss C R s/\Zci C R (min R C-t) t s=res) (fun tv _=>24-(intOf tv).toNat)
 case atStart=>exact ⟨Keep.refl _ _,0,s0,by omega,rfl,hTT,hs0,hres.symm⟩
 case round=>
  clear hTT hs0 hres
  obtain ⟨hK,t,s,ht24,rfl,hT,hs,hh⟩:=hrel
  have Hh:=hid hh;clear hh
  have bAr:=bA.keep hK oA
  obtain ⟨⟨a0,a1,a2⟩, -⟩:=bAr.three
  have hltA:=bAr.lt
  by_cases hlt:t<R/\t<C
  ·obtain ⟨ht,htC⟩:=hlt
   have htM:t<M:=by have:=HM.out;omega
   go_wp2_with (refine ZcP (o:=⟨some 16,_,_,_,_,_⟩) rfl rfl rfl rfl hmin ?_)
   clear a0 a1 a2 hltA bAr
   go_loopw [8] (fun dv wr=>Keep (Off aa au av) w2 wr/\ ∃ (b:Bool) (s:SS),dv= .bool b/\Thr wr aa au av (R*C) (R*R) (C*C) ca cu cv s/\Ss C R s/\((b=false/\Zci C R (min R C-t) t s=res)\/(b=true/\Zci C R (min R C-(t+1)) (t+1) (Zc6 C R t s)=res))) (fun dv wr=>ZhN dv*(mu3 (rdL wr aa (R*C)) C R t+1))
   case atStart=>exact ⟨hK,false,s,rfl,hT,hs, .inl ⟨rfl,Hh.out⟩⟩
   case round=>
    clear hK hT hs Hh
    obtain ⟨hK,b,s,rfl,hT,hs,hst⟩:=hrel
    have bAr:=bA.keep hK oA
    obtain ⟨⟨a0,a1,a2⟩, -⟩:=bAr.three
    have hltA:=bAr.lt
    have hrA:=hT.oa.rdI (S:=fun _=>True) (fun _ _=>trivial) (ZC hs.na)
    have Hmu:=hid (Zdx hT.oa)
    rcases hst with ⟨rfl,hh⟩|⟨rfl,hh⟩
    ·rw[Zhx ht htC] at hh
     go_wp2_with fail
     refine (ZlP aa _ ca C R t s.1 _ hrA hs.la hs.na (by omega) (by omega) hR hC).mono ?_
     rintro e w3 ⟨rfl,hG3⟩
     have hK3:=hK.trans hG3.any
     have hT3:=hT.grow hG3
     clear a0 a1 a2 hltA hrA bAr
     by_cases hl0:(Z6 s.1 C R t).1<0
     ·rw[if_pos hl0] at hh
      have Hh:=hid hh;clear hh
      have q1:decide ((Z6 s.1 C R t).1<0)=true:=decide_eq_true hl0
      go_wp2
      go_ret
      exact ⟨true,s,rfl,hT3,hG2.any.trans hK3,(fun _=>Hh.out.symm),fun h=>by cases h⟩
     ·rw[if_neg hl0] at hh
      have Hh:=hid hh;clear hh
      obtain ⟨r,c,hr1,hc1,htr,hrR,htc,hcC,hne,hlr,hlc⟩:=Zkn (m:=s.1) (C:=C) (R:=R) (t:=t) (by omega) (by omega) (by omega)
      have hrnd:rnd C R t s=Ze6 C R t (Zbs C R t r c s):=by unfold rnd;rw[hlr,hlc]
      have hspec:=fun s' b' (h0:rnd C R t s=some (s',b'))=>ZeA ht htC hs (by omega) h0
      have hdone:=fun s' (h0:rnd C R t s=some (s',true))=>ZkY h0
      have hstep:=fun s' (h0:rnd C R t s=some (s',false))=>Zlp ht htC hs (by omega) h0
      have hnone:=fun (h0:rnd C R t s=none)=>Zk4 h0
      rw[hrnd] at hspec hdone hstep hnone
      have hpc:=ZfI hs hrR hcC ht htC
      have hp6:=ZjE (t:=t) (r:=r) (c:=c) hs
      rw[←hpc] at hne
      rw[hr1,hc1]
      have Hspec:=hid hspec;have Hdone:=hid hdone;have Hstep:=hid hstep;have Hnone:=hid hnone
      have Hne:=hid hne
      have q0:decide ((r:Int)<0)=false:=decide_eq_false (by omega)
      clear hspec hdone hstep hnone hrnd hlr hlc hr1 hc1 hl0 hpc hne hp6 hT hK
      by_cases hrt:r=t
      case' pos=>
       have q1:((r:Int)!=(t:Int))=false:=by simp[hrt]
       have Hs5:=hid (show s=if r=t then s else ZbJ C R r t s by rw[if_pos hrt])
       have hT5:=hT3;have hK5:=hK3;have hs5:=hs
       obtain ⟨w5,hw5⟩: ∃ w5,w5=w3:=⟨_,rfl⟩
       rw[←hw5] at hT5 hK5 ⊢
       clear hw5
       obtain ⟨s5,hs5e⟩: ∃ s5,s5=s:=⟨_,rfl⟩
       rw[show s=s5 from hs5e.symm] at hT5 hs5
       replace Hs5:=hid (show s5=if r=t then s else ZbJ C R r t s by rw[hs5e];exact Hs5.out)
       clear hs5e hT3 hK3 hrt
      case' neg=>
       have q1:((r:Int)!=(t:Int))=true:=by simp;omega
       have bA3:=bA.keep hK3 oA
       have bU3:=bU.keep hK3 oU
       obtain ⟨⟨a0,a1,a2⟩, -⟩:=bA3.three
       obtain ⟨⟨b0,b1,b2⟩, -⟩:=bU3.three
       have hltA:=bA3.lt
       have hltU:=bU3.lt
       go_wp2_with fail
       refine (ZoB aa au av ca cu cv R C r t s _ hT3 hs hrR ht hrt hR hC).mono ?_
       rintro e w5 ⟨rfl,hT5,hK35⟩
       have hK5:=hK3.trans hK35
       have hs5:=Zdv (p:=r) (t:=t) hs
       have Hs5:=hid (show ZbJ C R r t s=if r=t then s else ZbJ C R r t s by rw[if_neg hrt])
       clear a0 a1 a2 b0 b1 b2 hltA hltU hT3 hK3 bA3 bU3 hK35 hrt
       generalize hs5e:ZbJ C R r t s=s5 at hT5 hs5
       replace Hs5:=hid (show s5=if r=t then s else ZbJ C R r t s by rw[←hs5e];exact Hs5.out)
       clear hs5e
      all_goals
       by_cases hct:c=t
       case' pos=>
        have q2:((c:Int)!=(t:Int))=false:=by simp[hct]
        have hT6:=hT5;have hK6:=hK5;have hs6:=hs5
        have Hpv:=hid (show Zbs C R t r c s=s5 by rw[Hs5.out];unfold Zbs;rw[if_pos hct])
        clear hT5 hK5 hs5
        obtain ⟨w6,hw6⟩: ∃ w6,w6=w5:=⟨_,rfl⟩
        rw[←hw6] at hT6 hK6 ⊢
        clear hw6
        obtain ⟨s6,hs6e⟩: ∃ s6,s6=s5:=⟨_,rfl⟩
        rw[←hs6e] at hT6 hs6 Hpv
        clear hs6e Hs5 hct
       case' neg=>
        have q2:((c:Int)!=(t:Int))=true:=by simp;omega
        have Hpv:=hid (show Zbs C R t r c s=ZeD C R c t s5 by rw[Hs5.out];unfold Zbs;rw[if_neg hct])
        have bA5:=bA.keep hK5 oA
        obtain ⟨⟨a0,a1,a2⟩, -⟩:=bA5.three
        have hltA:=bA5.lt
        go_wp2_with fail
        refine (Zgo aa _ ca C R c t 0 s5.1 _ hT5.oa hs5.la hcC htC hct hR hC).mono ?_
        rintro e w7 ⟨rfl,oA7,hK7⟩
        have hK57:Keep (Off aa au av) w5 w7:=hK7.mono fun q _ hq=>hq.1
        have bV7:=(bV.keep hK5 oV).keep hK57 oV
        have oU7:=hT5.ou.keep hK7 (fun g hg _ e=>hT5.nau g e hg)
        have oV7:=hT5.ov.keep hK7 (fun g hg _ e=>hT5.nav g e hg)
        clear a0 a1 a2 hltA
        obtain ⟨⟨v0,v1,v2⟩, -⟩:=bV7.three
        have hltV:=bV7.lt
        go_wp2_with fail
        refine (Zgo av _ cv C C c t 0 s5.2.2 _ oV7 hs5.lv hcC htC hct hC hC).mono ?_
        rintro e w6 ⟨rfl,oV6,hK67⟩
        have hT6:Thr w6 aa au av (R*C) (R*R) (C*C) ca cu cv (ZeD C R c t s5):=⟨oA7.keep hK67 (fun g hg _ e=>hT5.nav g hg e),oU7.keep hK67 (fun g hg _ e=>hT5.nuv g hg e),oV6,hT5.nau,hT5.nav,hT5.nuv⟩
        have hK6:Keep (Off aa au av) w2 w6:=(hK5.trans hK57).trans (hK67.mono fun q _ hq=>hq.2.2)
        have hs6:=Zfo (i:=c) (p:=t) hs5
        clear v0 v1 v2 hltV hT5 hK5 oU7 oV7 oA7 oV6
        generalize ZeD C R c t s5=s6 at *
        clear hs5 Hs5 hct
       all_goals
        have hne6:cell s6.1 C t t≠0:=by have:=Hne.out;rwa [Hpv.out] at this
        have hsp6: ∀ s' b',Ze6 C R t s6=some (s',b')->Ss C R s'/\(b'=false->0<=(Z6 s'.1 C R t).1/\mu3 s'.1 C R t<mu3 s.1 C R t):=by have:=Hspec.out;rwa [Hpv.out] at this
        have hdn6: ∀ s',Ze6 C R t s6=some (s',true)->sA C R t s=some s':=by have:=Hdone.out;rwa [Hpv.out] at this
        have hst6: ∀ s',Ze6 C R t s6=some (s',false)->sA C R t s=sA C R t s':=by have:=Hstep.out;rwa [Hpv.out] at this
        have hno6:Ze6 C R t s6=none->sA C R t s=none:=by have:=Hnone.out;rwa [Hpv.out] at this
        have Hsp6:=hid hsp6;have Hdn6:=hid hdn6;have Hst6:=hid hst6;have Hno6:=hid hno6
        clear hsp6 hdn6 hst6 hno6 Hspec Hdone Hstep Hnone Hne Hpv
        have bA6:=bA.keep hK6 oA
        have bU6:=bU.keep hK6 oU
        have bV6:=bV.keep hK6 oV
        obtain ⟨⟨a0,a1,a2⟩, -⟩:=bA6.three
        obtain ⟨⟨b0,b1,b2⟩, -⟩:=bU6.three
        obtain ⟨⟨v0,v1,v2⟩, -⟩:=bV6.three
        have hltA:=bA6.lt
        have hltU:=bU6.lt
        have hltV:=bV6.lt
        go_wp2_with fail
        refine (ZlF aa au av ca cu cv R C t s6 _ hT6 hs6 ht htC hne6 hR hC).mono ?_
        rintro e w8 ⟨b',s',rfl,hT8,hm8,hK68,hF⟩
        have hK8:=hK6.trans hK68
        clear a0 a1 a2 b0 b1 b2 v0 v1 v2 hltA hltU hltV bA6 bU6 bV6
        have bA8:=bA.keep hK8 oA
        have bU8:=bU.keep hK8 oU
        have bV8:=bV.keep hK8 oV
        have rA8:=hT8.oa.rdI (S:=fun _=>True) (fun _ _=>trivial) (ZbA hm8.na)
        have rU8:=hT8.ou.rdI (S:=fun _=>True) (fun _ _=>trivial) (ZbA hm8.nu)
        have rV8:=hT8.ov.rdI (S:=fun _=>True) (fun _ _=>trivial) (ZbA hm8.nv)
        obtain ⟨⟨a0,a1,a2⟩, -⟩:=bA8.three
        have hltA:=bA8.lt
        go_wp2_with fail
        refine (ZU aa _ ca s'.1 _ rA8 (by omega)).mono ?_
        rintro e w9 ⟨rfl,hQ9⟩
        have hG9:=hQ9.grow
        clear a0 a1 a2 hltA
        obtain ⟨⟨b0,b1,b2⟩, -⟩:=(bU8.grow hG9).three
        have hltU:=(bU8.grow hG9).lt
        rcases hF with hF|⟨hF,hMk⟩
        ·obtain ⟨hs8,hmu8⟩:=Hsp6.out s' b' hF
         have Hdn:=hid (fun h:b'=true=>Hdn6.out s' (by rw[hF,h]))
         have Hst:=hid (fun h:b'=false=>Hst6.out s' (by rw[hF,h]))
         have Hmu8:=hid hmu8
         rw[Zaa hs8.na]
         clear hF hmu8 Hsp6 Hdn6 Hst6 Hno6
         go_wp2_with fail
         refine (ZU au _ cu s'.2.1 _ (rU8.grow hG9) (by omega)).mono ?_
         rintro e w10 ⟨rfl,hQ10⟩
         rw[Zaa hs8.nu]
         have hG10:=hG9.trans hQ10.grow
         clear b0 b1 b2 hltU
         obtain ⟨⟨v0,v1,v2⟩, -⟩:=(bV8.grow hG10).three
         have hltV:=(bV8.grow hG10).lt
         go_wp2_with fail
         refine (ZU av _ cv s'.2.2 _ (rV8.grow hG10) (by omega)).mono ?_
         rintro e w11 ⟨rfl,hQ11⟩
         rw[Zaa hs8.nv]
         have hG11:=hG10.trans hQ11.grow
         clear v0 v1 v2 hltV
         have hT11:=hT8.grow hG11
         have Hmu11:=hid (Zdx hT11.oa)
         go_wp2
         go_roundw
         case rel=>
          refine ⟨hK8.trans hG11.any,b',s',rfl,hT11,hs8, ?_⟩
          cases b' with
          |true=>exact .inr ⟨rfl,by rw[←Hh.out,Hdn.out rfl];rfl⟩
          |false=>exact .inl ⟨rfl,by rw[Zhx ht htC,if_neg (by have:=(Hmu8.out rfl).1;omega), ←Hst.out rfl];exact Hh.out⟩
         case measure=>
          show ZhN (.bool b')*(mu3 (rdL w11 aa (R*C)) C R t+1)<ZhN (.bool false)*(mu3 (rdL wr aa (R*C)) C R t+1)
          rw[Hmu11.out,Hmu.out]
          cases b' with
          |true=>simp[ZhN]
          |false=>
           have:=(Hmu8.out rfl).2
           simp only[ZhN,Nat.one_mul];omega
        ·have HN:=hid (show res=none by rw[←Hh.out,Hno6.out hF];rfl)
         clear Hsp6 Hdn6 Hst6 Hno6 hF
         cases hba:ZbF s'.1 with
         |true=>
          have hTo:=hT8.grow hG9
          have hKo:=hK8.trans hG9.any
          go_wp2
          go_ret
          exact ⟨false,s',rfl,hTo,(hG2.any.trans hKo),(fun h=>by cases h),fun _=>HN.out⟩
         |false=>
          have hm2:ZP∈s'.2.1\/ZP∈s'.2.2:=hMk.resolve_left fun h=>by rw[ZaR.2 h] at hba;cases hba
          go_wp2_with fail
          refine (ZU au _ cu s'.2.1 _ (rU8.grow hG9) (by omega)).mono ?_
          rintro e w10 ⟨rfl,hQ10⟩
          have hG10:=hG9.trans hQ10.grow
          clear b0 b1 b2 hltU
          obtain ⟨⟨v0,v1,v2⟩, -⟩:=(bV8.grow hG10).three
          have hltV:=(bV8.grow hG10).lt
          cases hbu:ZbF s'.2.1 with
          |true=>
           have hTo:=hT8.grow hG10
           have hKo:=hK8.trans hG10.any
           go_wp2
           go_ret
           exact ⟨false,s',rfl,hTo,(hG2.any.trans hKo),(fun h=>by cases h),fun _=>HN.out⟩
          |false=>
           have hbv:ZbF s'.2.2=true:=ZaR.2 (hm2.resolve_left fun h=>by rw[ZaR.2 h] at hbu;cases hbu)
           go_wp2_with fail
           refine (ZU av _ cv s'.2.2 _ (rV8.grow hG10) (by omega)).mono ?_
           rintro e w11 ⟨rfl,hQ11⟩
           rw[hbv]
           have hTo:=hT8.grow (hG10.trans hQ11.grow)
           have hKo:=hK8.trans (hG10.trans hQ11.grow).any
           go_wp2
           go_ret
           exact ⟨false,s',rfl,hTo,(hG2.any.trans hKo),(fun h=>by cases h),fun _=>HN.out⟩
    ·have Hh:=hid hh;clear hh
     go_wp2_with fail
     refine (ZO aa _ ca C t t (R:Int) s.1 _ hrA (Zl htC ht) (by omega) (by omega) (by omega)).mono ?_
     rintro e w3 ⟨rfl,hG3⟩
     have hK3:=hK.trans hG3.any
     have hT3:=hT.grow hG3
     clear a0 a1 a2 hltA bAr
     by_cases hneg:cell s.1 C t t<0
     ·have Hn:=hid (show Zc6 C R t s=ZeO C R t s by unfold Zc6;rw[if_pos hneg])
      have bA3:=bA.keep hK3 oA
      have bU3:=bU.keep hK3 oU
      obtain ⟨⟨a0,a1,a2⟩, -⟩:=bA3.three
      obtain ⟨⟨b0,b1,b2⟩, -⟩:=bU3.three
      have hltA:=bA3.lt
      have hltU:=bU3.lt
      have q1:decide (cell s.1 C t t<0)=true:=decide_eq_true hneg
      go_wp2_with fail
      refine (Znq aa au av ca cu cv R C t s _ hT3 hs ht hR hC).mono ?_
      rintro e w5 ⟨rfl,hT5,hK35⟩
      have hs5:=Zhp (t:=t) hs
      clear a0 a1 a2 b0 b1 b2 hltA hltU
      go_wp2
      go_roundw
      case rel=>exact ⟨hK3.trans hK35,t+1,_,by omega,by go_num,hT5,hs5,by rw[←Hn.out];exact Hh.out⟩
      case measure=>simp[intOf];omega
     ·have Hn:=hid (show Zc6 C R t s=s by unfold Zc6;rw[if_neg hneg])
      have q1:decide (cell s.1 C t t<0)=false:=decide_eq_false hneg
      go_wp2
      go_roundw
      case rel=>exact ⟨hK3,t+1,s,by omega,by go_num,hT3,hs,by rw[←Hh.out,Hn.out]⟩
      case measure=>simp[intOf];omega
  ·have htM: ¬ t<M:=by have:=HM.out;omega
   have He:=hid (show some s=res by rw[←Hh.out,ZjA hlt])
   clear hlt
   go_wp2_with (refine ZcP (o:=⟨some 16,_,_,_,_,_⟩) rfl rfl rfl rfl hmin ?_)
   go_ret
   exact ⟨true,s,rfl,hT,hG2.any.trans hK,(fun _=>He.out.symm),fun h=>by cases h⟩
theorem Zby {fn:Func} {R:Ending->World->Prop} {a:Act} {ty:TypeId} {cs ds es:Array Value} {p q r u:Tmp} {g g' g'':Nat} {t:TypeId} (hT:StT P ty cs.size) (hT':StT P ty ds.size) (hT'':StT P ty es.size) (h:fn.results= #[.cell p ty, .cell q ty, .cell r ty, .tmp u]) (hd:a.defers=[]) (hp:a.tmps.getD p undef= .pointer (some ⟨g,0,none⟩)) (hq:a.tmps.getD q undef= .pointer (some ⟨g',0,none⟩)) (hr:a.tmps.getD r undef= .pointer (some ⟨g'',0,none⟩))
  (hb:Blk w g cs t) (hb':Blk w g' ds t) (hb'':Blk w g'' es t) (hR:R (.returned (.tuple #[.agg cs, .agg ds, .agg es,a.tmps.getD u undef])) w):bodyPost P fn R .ret a w:=by
 have hp':a.tmps[p]?.getD undef= .pointer (some ⟨g,0,none⟩):=by simpa using hp
 have hq':a.tmps[q]?.getD undef= .pointer (some ⟨g',0,none⟩):=by simpa using hq
 have hr':a.tmps[r]?.getD undef= .pointer (some ⟨g'',0,none⟩):=by simpa using hr
 refine bodyPost_ret (v:= .tuple #[.agg cs, .agg ds, .agg es,a.tmps.getD u undef]) ?_ hd hR
 simp[results,h,hp',hq',hr',asAddr,hT.load hb,hT'.load hb',hT''.load hb'']
abbrev zM:Value:= .agg #[Yv Yi 0,Yv Yi 0, .slice none 0 0]
theorem Zm3 {m:Mat} {mr mc:Int} (hVM:VM w S (.agg #[Yv Yi mr,Yv Yi mc, .slice a n c]) m) (hb:bdM m<=1048576) (hB:Zg m=false):
  Calls Tryz.prog 95 #[.agg #[Yv Yi mr,Yv Yi mc, .slice a n c]] w fun e w'=>e= .returned (.tuple #[zM,zM,zM, .bool false])/\Grow w w':=by
 obtain ⟨w3,hw3⟩: ∃ w3,w3=(((w.alloc (.cells #[Yv Yi mr,Yv Yi mc, .slice a n c] 28)).alloc (.cells #[Yv Yi 0,Yv Yi 0, .slice none 0 0] 28)).alloc (.cells #[Yv Yi 0,Yv Yi 0, .slice none 0 0] 28)).alloc (.cells #[Yv Yi 0,Yv Yi 0, .slice none 0 0] 28):=⟨_,rfl⟩
 have hG:Grow w w3:=by rw[hw3];exact ((((Grow.refl w).alloc _ _).alloc _ _).alloc _ _).alloc _ _
 have bM:Blk w3 w.heap.size #[Yv Yi mr,Yv Yi mc, .slice a n c] 28:=by rw[hw3];exact (((Blk.new w _ _).alloc _).alloc _).alloc _
 have bR1:Blk w3 (w.heap.size+1) #[Yv Yi 0,Yv Yi 0, .slice none 0 0] 28:=by rw[hw3];exact ((Blk.newAt _ _ _ (by simp)).alloc _).alloc _
 have bR2:Blk w3 (w.heap.size+1+1) #[Yv Yi 0,Yv Yi 0, .slice none 0 0] 28:=by rw[hw3];exact (Blk.newAt _ _ _ (by simp)).alloc _
 have bR3:Blk w3 (w.heap.size+1+1+1) #[Yv Yi 0,Yv Yi 0, .slice none 0 0] 28:=by rw[hw3];exact Blk.newAt _ _ _ (by simp)
 have Hw3:=hid hw3;clear hw3
 have HB:=hid hB;clear hB
 go_enter Tryz.func95,Tryz.ntmps95
 go_wp2_with fail
 rw[←Hw3.out]
 refine (ZJ (hVM.grow hG) (by omega)).mono ?_
 rintro e w4 ⟨rfl,hG4⟩
 rw[HB.out]
 replace bR1:=bR1.grow hG4
 replace bR2:=bR2.grow hG4
 replace bR3:=bR3.grow hG4
 replace hG:=hG.trans hG4
 have h1:w.heap.size<=w.heap.size+1:=by omega
 have h2:w.heap.size<=w.heap.size+1+1:=by omega
 have h3:w.heap.size<=w.heap.size+1+1+1:=by omega
 have n12:w.heap.size+1≠w.heap.size+1+1:=by omega
 have n13:w.heap.size+1≠w.heap.size+1+1+1:=by omega
 have n23:w.heap.size+1+1≠w.heap.size+1+1+1:=by omega
 obtain ⟨⟨a0,a1,a2⟩,f0,f1,f2⟩:=bR1.three
 obtain ⟨⟨b0,b1,b2⟩,g0,g1,g2⟩:=bR2.three
 obtain ⟨⟨c0,c1,c2⟩,k0,k1,k2⟩:=bR3.three
 go_wp2
 refine Zby Za Za Za rfl rfl rfl rfl rfl
  (((((((((bR1.set 0 _).set 1 _).set 2 _).other n12 _).other n12 _).other n12 _).other n13 _).other n13 _).other n13 _)
  (((((((((bR2.other n12.symm _).other n12.symm _).other n12.symm _).set 0 _).set 1 _).set 2 _).other n23 _).other n23 _).other n23 _)
  (((((((((bR3.other n13.symm _).other n13.symm _).other n13.symm _).other n23.symm _).other n23.symm _).other n23.symm _).set 0 _).set 1 _).set 2 _) ?_
 exact ⟨rfl,((((((((hG.setCell h1 _).setCell h1 _).setCell h1 _).setCell h2 _).setCell h2 _).setCell h2 _).setCell h3 _).setCell h3 _).setCell h3 _⟩
theorem ZlM {cells:List Int} (h:RdI w S a n c cells) (hl:cells.length=R*C) (hnum:NumL cells) (hR:R<=24) (hC:C<=24):
  Calls Tryz.prog 95 #[.agg #[Yv Yi R,Yv Yi C, .slice a n c]] w fun e w'=>Grow w w'/\((Zd1 cells R C=none/\e= .returned (.tuple #[zM,zM,zM, .bool false]))\/
   ∃ s aa ca ub un uc vb vn vc,Zd1 cells R C=some s/\e= .returned (.tuple #[.agg #[Yv Yi R,Yv Yi C, .slice aa (R*C) ca], .agg #[Yv Yi R,Yv Yi R, .slice ub un uc], .agg #[Yv Yi C,Yv Yi C, .slice vb vn vc], .bool true])/\RdI w' (fun q=>w.heap.size<=q) aa (R*C) ca s.1):=by
 have hRC:R*C<=24*24:=Nat.mul_le_mul hR hC
 have hRR:R*R<=24*24:=Nat.mul_le_mul hR hR
 have hCC:C*C<=24*24:=Nat.mul_le_mul hC hC
 have hB:=ZaF hR hC hl hnum
 obtain ⟨mr,hmr⟩: ∃ mr:Int,mr=R:=⟨_,rfl⟩
 obtain ⟨mc,hmc⟩: ∃ mc:Int,mc=C:=⟨_,rfl⟩
 have hVM:VM w S (.agg #[Yv Yi R,Yv Yi C, .slice a n c]) {rows:=(R:Int),cols:=(C:Int),cells:=cells}:=⟨a,n,c,rfl,h,by show I64 (R:Int);unfold I64;omega,by show I64 (C:Int);unfold I64;omega⟩
 rw[←hmr, ←hmc] at hVM hB ⊢
 obtain ⟨w3,hw3⟩: ∃ w3,w3=(((w.alloc (.cells #[Yv Yi mr,Yv Yi mc, .slice a n c] 28)).alloc (.cells #[Yv Yi 0,Yv Yi 0, .slice none 0 0] 28)).alloc (.cells #[Yv Yi 0,Yv Yi 0, .slice none 0 0] 28)).alloc (.cells #[Yv Yi 0,Yv Yi 0, .slice none 0 0] 28):=⟨_,rfl⟩
 have hG:Grow w w3:=by rw[hw3];exact ((((Grow.refl w).alloc _ _).alloc _ _).alloc _ _).alloc _ _
 have bM:Blk w3 w.heap.size #[Yv Yi mr,Yv Yi mc, .slice a n c] 28:=by rw[hw3];exact (((Blk.new w _ _).alloc _).alloc _).alloc _
 have bR1:Blk w3 (w.heap.size+1) #[Yv Yi 0,Yv Yi 0, .slice none 0 0] 28:=by rw[hw3];exact ((Blk.newAt _ _ _ (by simp)).alloc _).alloc _
 have bR2:Blk w3 (w.heap.size+1+1) #[Yv Yi 0,Yv Yi 0, .slice none 0 0] 28:=by rw[hw3];exact (Blk.newAt _ _ _ (by simp)).alloc _
 have bR3:Blk w3 (w.heap.size+1+1+1) #[Yv Yi 0,Yv Yi 0, .slice none 0 0] 28:=by rw[hw3];exact Blk.newAt _ _ _ (by simp)
 have Hw3:=hid hw3;clear hw3
 subst hmr
 subst hmc
 have HB:=hid hB;clear hB
 go_enter Tryz.func95,Tryz.ntmps95
 go_wp2_with fail
 rw[←Hw3.out]
 refine (ZJ (hVM.grow hG) (by unfold bdM;simp;omega)).mono ?_
 rintro e w4 ⟨rfl,hG4⟩
 rw[HB.out]
 have bM4:=bM.grow hG4
 obtain ⟨⟨a0,a1,a2⟩, -⟩:=bM4.three
 go_wp2_with fail
 refine (Zfy ((hVM.grow hG).grow hG4) (by unfold bdM;simp;omega)).mono ?_
 rintro e w5 ⟨va,rfl,hA,hG5⟩
 obtain ⟨aa,na,ca,rfl,oA,rA,fA,iA1,iA2⟩:=hA
 replace oA:Own w5 3 1 aa na ca (ints cells):=oA
 have hna:na=R*C:=by have:=oA.len;simp at this;omega
 subst hna
 clear iA1 iA2 a0 a1 a2
 have bX:=Blk.new w5 #[Yv Yi (R:Int),Yv Yi (C:Int), .slice aa (R*C) ca] 28
 have hGX:=(Grow.refl w5).alloc #[Yv Yi (R:Int),Yv Yi (C:Int), .slice aa (R*C) ca] 28
 have hG45:=(hG4.trans hG5).trans hGX
 have oA5:=oA.grow hGX
 have bM5:=bM.grow hG45
 obtain ⟨⟨a0,a1,a2⟩, -⟩:=bM5.three
 have hlt5:w.heap.size<w5.heap.size:=(bM4.grow hG5).lt
 have hlR:w.heap.size+1+1+1<w4.heap.size:=(bR3.grow hG4).lt
 have hs45:=hG5.size
 have fA': ∀ q,blk aa=some q->w.heap.size+1+1+1<q:=fun q hq=>by have:=(fA q hq).1;omega
 have naX:blk aa≠some w5.heap.size:=fun e=>by have:=oA.lt e;omega
 clear oA bM4 bM fA
 go_wp2_with fail
 refine (Zd4 R _ hR).mono ?_
 rintro e w6 ⟨au,rfl,oU,fU,hG6⟩
 have oA6:=oA5.grow hG6
 have bX6:=bX.grow hG6
 have hs6:=hG6.size
 have hs6':w5.heap.size<w6.heap.size:=by simp at hs6;omega
 have fU': ∀ q,blk au=some q->w5.heap.size<q:=fun q hq=>by have:=fU q hq;simp at this;omega
 have hGU:=(Grow.refl w6).alloc #[Yv Yi (R:Int),Yv Yi (R:Int), .slice au (R*R) (R*R)] 28
 have bU:=Blk.new w6 #[Yv Yi (R:Int),Yv Yi (R:Int), .slice au (R*R) (R*R)] 28
 have hne: ∀ q,blk aa=some q->blk au≠some q:=fun q hq e=>by have:=oA5.lt hq;have:=fU q e;omega
 have nuX:blk au≠some w5.heap.size:=fun e=>by have:=fU' _ e;omega
 have naU:blk aa≠some w6.heap.size:=fun e=>by have:=oA6.lt e;omega
 have nuU:blk au≠some w6.heap.size:=fun e=>by have:=oU.lt e;omega
 have bM6:=(bM5.grow hG6).grow hGU
 clear a0 a1 a2
 obtain ⟨⟨a0,a1,a2⟩, -⟩:=bM6.three
 have hltM6:=(bM5.grow hG6).lt
 have oA7:=oA6.grow hGU
 have oU7:=oU.grow hGU
 go_wp2_with fail
 refine (Zd4 C _ hC).mono ?_
 rintro e w7 ⟨av,rfl,oV,fV,hG7⟩
 have hs7:=hG7.size
 have hs7':w6.heap.size<w7.heap.size:=by simp at hs7;omega
 have fV': ∀ q,blk av=some q->w6.heap.size<q:=fun q hq=>by have:=fV q hq;simp at this;omega
 have hGV:=(Grow.refl w7).alloc #[Yv Yi (C:Int),Yv Yi (C:Int), .slice av (C*C) (C*C)] 28
 have bV:=Blk.new w7 #[Yv Yi (C:Int),Yv Yi (C:Int), .slice av (C*C) (C*C)] 28
 have hnAV: ∀ q,blk aa=some q->blk av≠some q:=fun q hq e=>by have:=oA7.lt hq;have:=fV q e;omega
 have hnUV: ∀ q,blk au=some q->blk av≠some q:=fun q hq e=>by have:=oU7.lt hq;have:=fV q e;omega
 have hThr:Thr (w7.alloc (.cells #[Yv Yi (C:Int),Yv Yi (C:Int), .slice av (C*C) (C*C)] 28)) aa au av (R*C) (R*R) (C*C) ca (R*R) (C*C) (cells,idL R,idL C):=⟨(oA7.grow hG7).grow hGV,(oU7.grow hG7).grow hGV,oV.grow hGV,hne,hnAV,hnUV⟩
 have hs0:Ss C R (cells,idL R,idL C):=⟨hl,Zba R,Zba C,hnum,Za9 R,Za9 C⟩
 have bX8:=((bX6.grow hGU).grow hG7).grow hGV
 have bU8:=(bU.grow hG7).grow hGV
 clear a0 a1 a2
 obtain ⟨⟨a0,a1,a2⟩, -⟩:=bX8.three
 obtain ⟨⟨b0,b1,b2⟩, -⟩:=bU8.three
 obtain ⟨⟨v0,v1,v2⟩, -⟩:=bV.three
 have nvX:blk av≠some w5.heap.size:=fun e=>by have:=fV' _ e;omega
 have nvU:blk av≠some w6.heap.size:=fun e=>by have:=fV' _ e;omega
 have naV:blk aa≠some w7.heap.size:=fun e=>by have:=(oA7.grow hG7).lt e;omega
 have nuV:blk au≠some w7.heap.size:=fun e=>by have:=(oU7.grow hG7).lt e;omega
 have nvV:blk av≠some w7.heap.size:=fun e=>by have:=oV.lt e;omega
 have hltX8:=((bX6.grow hGU).grow hG7).lt
 have hltU8:=(bU.grow hG7).lt
 clear oA5 oA6 oU fU hGX bX bX6 oV fV oA7 oU7 bM5 bM6 hltM6
 go_wp2_with fail
 refine (Zl2 aa au av ca (R*R) (C*C) R C (cells,idL R,idL C) _ hThr hs0 hR hC).mono ?_
 rintro e w9 ⟨b,s',rfl,hT9,hK9,hyes,hno⟩
 have hGw:=(((((hG.trans hG45).trans hG6).trans hGU).trans hG7).trans hGV)
 have hoff: ∀ q,q<=w.heap.size+1+1+1->Off aa au av q:=fun q hq=>⟨fun e=>by have:=fA' q e;omega,fun e=>by have:=fU' q e;omega,fun e=>by have:=fV' q e;omega⟩
 have hG9:Grow w w9:=hGw.keep hK9 (fun q hq=>hoff q (by omega))
 have hGt:=(((hG45.trans hG6).trans hGU).trans hG7).trans hGV
 replace bR1:=(bR1.grow hGt).keep hK9 (hoff _ (by omega))
 replace bR2:=(bR2.grow hGt).keep hK9 (hoff _ (by omega))
 replace bR3:=(bR3.grow hGt).keep hK9 (hoff _ (by omega))
 have bX9:=bX8.keep hK9 ⟨naX,nuX,nvX⟩
 have bU9:=bU8.keep hK9 ⟨naU,nuU,nvU⟩
 have bV9:=bV.keep hK9 ⟨naV,nuV,nvV⟩
 clear hG hThr hs0 hGU bU hG45 hG6 hK9 hGw a0 a1 a2 b0 b1 b2 v0 v1 v2 bX8 bU8 bV hGt hltX8 hltU8 hG7 hGV
 cases b with
 |false=>
  have Hn:=hid (hno rfl)
  clear hno hyes
  have hG:=hG9
  have h1:w.heap.size<=w.heap.size+1:=by omega
  have h2:w.heap.size<=w.heap.size+1+1:=by omega
  have h3:w.heap.size<=w.heap.size+1+1+1:=by omega
  have n12:w.heap.size+1≠w.heap.size+1+1:=by omega
  have n13:w.heap.size+1≠w.heap.size+1+1+1:=by omega
  have n23:w.heap.size+1+1≠w.heap.size+1+1+1:=by omega
  obtain ⟨⟨a0,a1,a2⟩,f0,f1,f2⟩:=bR1.three
  obtain ⟨⟨b0,b1,b2⟩,g0,g1,g2⟩:=bR2.three
  obtain ⟨⟨c0,c1,c2⟩,k0,k1,k2⟩:=bR3.three
  go_wp2
  refine Zby Za Za Za rfl rfl rfl rfl rfl
   (((((((((bR1.set 0 _).set 1 _).set 2 _).other n12 _).other n12 _).other n12 _).other n13 _).other n13 _).other n13 _)
   (((((((((bR2.other n12.symm _).other n12.symm _).other n12.symm _).set 0 _).set 1 _).set 2 _).other n23 _).other n23 _).other n23 _)
   (((((((((bR3.other n13.symm _).other n13.symm _).other n13.symm _).other n23.symm _).other n23.symm _).other n23.symm _).set 0 _).set 1 _).set 2 _) ?_
  exact ⟨((((((((hG.setCell h1 _).setCell h1 _).setCell h1 _).setCell h2 _).setCell h2 _).setCell h2 _).setCell h3 _).setCell h3 _).setCell h3 _, .inl ⟨Hn.out,rfl⟩⟩
 |true=>
  have Hy:=hid (hyes rfl)
  clear hyes hno
  have n5:w5.heap.size≠w.heap.size+1/\w5.heap.size≠w.heap.size+1+1/\w5.heap.size≠w.heap.size+1+1+1:=⟨by omega,by omega,by omega⟩
  have n6:w6.heap.size≠w.heap.size+1/\w6.heap.size≠w.heap.size+1+1/\w6.heap.size≠w.heap.size+1+1+1:=⟨by omega,by omega,by omega⟩
  have n7:w7.heap.size≠w.heap.size+1/\w7.heap.size≠w.heap.size+1+1/\w7.heap.size≠w.heap.size+1+1+1:=⟨by omega,by omega,by omega⟩
  have n12:w.heap.size+1≠w.heap.size+1+1:=by omega
  have n13:w.heap.size+1≠w.heap.size+1+1+1:=by omega
  have n23:w.heap.size+1+1≠w.heap.size+1+1+1:=by omega
  go_wp2
  refine Zj (S:=(Keep (fun q=>q≠w.heap.size+1/\q≠w.heap.size+1+1/\q≠w.heap.size+1+1+1) w9)) [([0,1,2],some 3),([],some 4),([],some 5),([6],none)] Zn (by kernel_rfl) (fun _ _ _ _ _ h=>h) (Keep.refl _ _).drew ?_
  show wpQuiet _ _ _ _ [_,_,_] _
  repeat (first |go_big_quiet_skip|(go_big_quiet_want;first |(apply Ze Za;rfl;rfl;exact (fun w' hG=>bX9.keep hG n5);go_big_quiet_on;simp only[putP])|(apply Ze Za;rfl;rfl;exact (fun w' hG=>bU9.keep hG n6);go_big_quiet_on;simp only[putP])|(apply Ze Za;rfl;rfl;exact (fun w' hG=>bV9.keep hG n7);go_big_quiet_on;simp only[putP])|(go_big_quiet_op;first |go_big_quiet_on|(refine ⟨_,(fun _ _=>rfl), ?_⟩;go_big_quiet_on))))
  refine wpQuiet_nil ?_
  obtain ⟨wa,hwa⟩: ∃ wa,wa=w9.drew:=⟨_,rfl⟩
  rw[←hwa]
  have hGa:Grow w9 wa:=by rw[hwa];exact (Grow.refl _).drew
  clear hwa
  have rA:=bR1.grow hGa
  have rB:=bR2.grow hGa
  have rC:=bR3.grow hGa
  refine Zk rfl (fun K hK=> ?_)
  obtain ⟨⟨a0,a1,a2⟩,f0,f1,f2⟩:=rA.three
  go_wp2_with fail
  have hK1:Keep (fun q=>q≠w.heap.size+1) wa (((wa.setCell ⟨w.heap.size+1,0,none⟩ (Yv Yi (R:Int))).setCell ⟨w.heap.size+1,1,none⟩ (Yv Yi (C:Int))).setCell ⟨w.heap.size+1,2,none⟩ (.slice aa (R*C) ca)):=
   (((Keep.refl _ wa).setCell (fun _ e=>e rfl) _).setCell (fun _ e=>e rfl) _).setCell (fun _ e=>e rfl) _
  have rA1:=((rA.set 0 (Yv Yi (R:Int))).set 1 (Yv Yi (C:Int))).set 2 (.slice aa (R*C) ca)
  have rB1:=rB.keep hK1 n12.symm
  have rC1:=rC.keep hK1 n13.symm
  refine hK _ _ (((hGa.mono fun _ _ _=>trivial).trans (hK1.mono fun q _ hb=>hb.1))) ?_
  clear hK K
  generalize (((wa.setCell ⟨w.heap.size+1,0,none⟩ (Yv Yi (R:Int))).setCell ⟨w.heap.size+1,1,none⟩ (Yv Yi (C:Int))).setCell ⟨w.heap.size+1,2,none⟩ (.slice aa (R*C) ca))=wb at *
  clear a0 a1 a2 f0 f1 f2 rA rB rC
  show wpQuiet _ _ _ _ [] _
  try (conv=>arg 6;simp only[putP])
  refine wpQuiet_nil ?_
  refine Zk rfl (fun K hK=> ?_)
  obtain ⟨⟨b0,b1,b2⟩,g0,g1,g2⟩:=rB1.three
  go_wp2_with fail
  have hK2:Keep (fun q=>q≠w.heap.size+1+1) wb (((wb.setCell ⟨w.heap.size+1+1,0,none⟩ (Yv Yi (R:Int))).setCell ⟨w.heap.size+1+1,1,none⟩ (Yv Yi (R:Int))).setCell ⟨w.heap.size+1+1,2,none⟩ (.slice au (R*R) (R*R))):=
   (((Keep.refl _ wb).setCell (fun _ e=>e rfl) _).setCell (fun _ e=>e rfl) _).setCell (fun _ e=>e rfl) _
  have rB2:=((rB1.set 0 (Yv Yi (R:Int))).set 1 (Yv Yi (R:Int))).set 2 (.slice au (R*R) (R*R))
  have rA2:=rA1.keep hK2 n12
  have rC2:=rC1.keep hK2 n23.symm
  refine hK _ _ ((((hGa.mono fun _ _ _=>trivial).trans (hK1.mono fun q _ hb=>hb.1)).trans (hK2.mono fun q _ hb=>hb.2.1))) ?_
  clear hK K
  generalize (((wb.setCell ⟨w.heap.size+1+1,0,none⟩ (Yv Yi (R:Int))).setCell ⟨w.heap.size+1+1,1,none⟩ (Yv Yi (R:Int))).setCell ⟨w.heap.size+1+1,2,none⟩ (.slice au (R*R) (R*R)))=wc at *
  clear b0 b1 b2 g0 g1 g2 rA1 rB1 rC1
  show wpQuiet _ _ _ _ [] _
  try (conv=>arg 6;simp only[putP])
  refine wpQuiet_nil ?_
  refine Zk rfl (fun K hK=> ?_)
  obtain ⟨⟨c0,c1,c2⟩,k0,k1,k2⟩:=rC2.three
  go_wp2_with fail
  have hK3:Keep (fun q=>q≠w.heap.size+1+1+1) wc (((wc.setCell ⟨w.heap.size+1+1+1,0,none⟩ (Yv Yi (C:Int))).setCell ⟨w.heap.size+1+1+1,1,none⟩ (Yv Yi (C:Int))).setCell ⟨w.heap.size+1+1+1,2,none⟩ (.slice av (C*C) (C*C))):=
   (((Keep.refl _ wc).setCell (fun _ e=>e rfl) _).setCell (fun _ e=>e rfl) _).setCell (fun _ e=>e rfl) _
  have rC3:=((rC2.set 0 (Yv Yi (C:Int))).set 1 (Yv Yi (C:Int))).set 2 (.slice av (C*C) (C*C))
  have rA3:=rA2.keep hK3 n13
  have rB3:=rB2.keep hK3 n23
  refine hK _ _ (((((hGa.mono fun _ _ _=>trivial).trans (hK1.mono fun q _ hb=>hb.1)).trans (hK2.mono fun q _ hb=>hb.2.1)).trans (hK3.mono fun q _ hb=>hb.2.2))) ?_
  clear hK K
  show wpQuiet _ _ _ _ [_] _
  try (conv=>arg 6;simp only[putP])
  repeat (first |go_big_quiet_skip|(go_big_quiet_want;first |(apply Ze Za;rfl;rfl;exact (fun w' hG=>bX9.keep hG n5);go_big_quiet_on;simp only[putP])|(apply Ze Za;rfl;rfl;exact (fun w' hG=>bU9.keep hG n6);go_big_quiet_on;simp only[putP])|(apply Ze Za;rfl;rfl;exact (fun w' hG=>bV9.keep hG n7);go_big_quiet_on;simp only[putP])|(go_big_quiet_op;first |go_big_quiet_on|(refine ⟨_,(fun _ _=>rfl), ?_⟩;go_big_quiet_on))))
  refine wpQuiet_nil ?_
  refine Zm ?_
  have hGe:=(((hG9.trans hGa).keep hK1 (fun q hq=>by omega)).keep hK2 (fun q hq=>by omega)).keep hK3 (fun q hq=>by omega)
  have hHs:=Zh5 hl hnum Hy.out
  have hoA:=(((hT9.oa.grow hGa).keep hK1 (fun q hq _ e=>by have:=fA' q hq;omega)).keep hK2 (fun q hq _ e=>by have:=fA' q hq;omega)).keep hK3 (fun q hq _ e=>by have:=fA' q hq;omega)
  go_wp2
  exact Zby Za Za Za rfl rfl rfl rfl rfl rA3 rB3 rC3 ⟨hGe, .inr ⟨s',aa,ca,_,_,_,_,_,_,Hy.out,rfl,hoA.rdI (fun q hq=>by have:=fA' q hq;omega) (ZC hHs.na)⟩⟩

end Go.Proofs.YtgeoehnbpkediaaGreat
