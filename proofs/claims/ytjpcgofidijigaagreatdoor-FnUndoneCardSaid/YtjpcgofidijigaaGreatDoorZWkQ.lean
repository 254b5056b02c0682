/- The program's round: the walk. -/
import Derived.Test.YtjpcgofidijigaaGreatDoorZTr
set_option maxHeartbeats 8000000
set_option maxRecDepth 100000
namespace Go.Proofs.YtjpcgofidijigaaGreatDoor
open Go.RowKit
open Lib (hid)
variable {C R i j t:Nat} {b:Bool} {f g:SS->Option (SS×Bool)} {p q:Int} {res:Option (SS×Bool)} {s s':SS}
def MdI (C R t:Nat) (p:Int) (rest:SS->Option (SS×Bool)) (res:Option (SS×Bool)) (b:Bool) (s:SS):Prop:=(b=false/\Ss C R s/\rest s=res/\cell s.1 C t t=p)\/(b=true/\res=none)
theorem MdI.addR (h1:Ss C R s) (h2:f s=res) (h3:cell s.1 C t t=p) (htC:t<C) (hi:i<R) (hit:i≠t) (hf:f s=(ZaF C R i t q s).bind g) (ht:To3 (ZaF C R i t q s) b s'):MdI C R t p g res b s':=by
 rcases ht with ⟨rfl,e⟩|⟨rfl,e⟩
 ·have h4:=ZdR h1 e;refine .inl ⟨rfl,h4.1, ?_, ?_⟩
  ·rw[hf,e] at h2;exact h2
  ·rw[h4.2];simp only;rw[Za8 h1.la hi htC,if_neg (fun e=>hit e.symm)];exact h3
 ·exact .inr ⟨rfl,by rw[←h2,hf,e];rfl⟩
theorem MdI.addC (h1:Ss C R s) (h2:f s=res) (h3:cell s.1 C t t=p) (ht:t<R) (htC:t<C) (_hj:j<C) (hjt:j≠t) (hf:f s=(Zbm C R j t q s).bind g) (hto:To3 (Zbm C R j t q s) b s'):MdI C R t p g res b s':=by
 rcases hto with ⟨rfl,e⟩|⟨rfl,e⟩
 ·have h4:=ZgC h1 e;refine .inl ⟨rfl,h4.1, ?_, ?_⟩
  ·rw[hf,e] at h2;exact h2
  ·rw[h4.2];simp only;rw[Zfq ht htC,if_neg (fun e=>hjt e.symm)];exact h3
 ·exact .inr ⟨rfl,by rw[←h2,hf,e];rfl⟩
theorem Zrf {rest:SS->Option (SS×Bool)} (h1:Ss C R s) (h2:rest s=res) (h3:cell s.1 C t t=p):Md C R t p rest res s:= .inl ⟨h1,h2,h3⟩
theorem Zpg (h:Fnd res s b) (hs:Ss C R s):res=some (s,b):=h.resolve_right fun h=>hs.no h.2
theorem Zqb (_h1:Ss C R s) (h2:Za5 C R t s=res) (h3:cell s.1 C t t=p) (hc:(ZW s.1 C R t&&Zap s.1 C t)=true) (hi:t<i/\i<R) (hj:t<j/\j<C) (hb: ∀ i',t<i'->i'<i-> ∀ j',t<j'->j'<C->(cell s.1 C i' j').tmod p=0)
  (hx:(cell s.1 C i j).tmod p≠0) (ht:To3 (ZaF C R t i 1 s) b s'):(b=false/\res=some (s',false))\/(b=true/\res=none):=by
 have hd:ZdA s.1 C R t=some (i-(t+1)):=Zpi hi hj (fun i' q1 q2=>Zkt fun j' q3 q4=>by rw[h3];exact hb i' q1 q2 j' q3 q4) (by rw[h3];exact hx);have hr:res=(ZaF C R t i 1 s).map fun x=>(x,false):=by rw[←h2];unfold Za5;rw[hc,if_pos rfl,hd];simp only;rw[show t+1+(i-(t+1))=i by omega]
 rcases ht with ⟨rfl,e⟩|⟨rfl,e⟩
 ·exact .inl ⟨rfl,by rw[hr,e];rfl⟩
 ·exact .inr ⟨rfl,by rw[hr,e];rfl⟩
theorem Zow (B g R C t:Nat) (s0:SS) (w:World) (hW0:WkS w B g R C false s0) (hs0:Ss C R s0) (ht:t<R) (htC:t<C) (hp:0<=(Zab s0.1 C R t).1) (hR:R<=24) (hC:C<=24):
  Calls Tryz.prog 113 #[.pointer (some ⟨g,0,none⟩), .int .i64 t] w fun e w'=> ∃ ret b s',e= .returned (.bool ret)/\WkS w' B g R C b s'/\Keep (fun q=>q<B) w w'/\((b=false/\rnd C R t s0=some (s', !ret))\/(b=true/\rnd C R t s0=none)):=by
 have hRC:R*C<=24*24:=Nat.mul_le_mul hR hC;obtain ⟨r,c,hr1,hc1,htr,hrR,htc,hcC,hne,hlr,hlc⟩:=Zp5 (m:=s0.1) (C:=C) (R:=R) (t:=t) (by omega) (by omega) hp;have hrnd:rnd C R t s0=Zp3 C R t (Zcb C R t r c s0):=by unfold rnd;rw[hlr,hlc]
 obtain ⟨res,hres⟩: ∃ res,res=rnd C R t s0:=⟨_,rfl⟩;rw[←hres];rw[hrnd] at hres;have Hres:=hid hres;have hpc:=Zjl hs0 hrR hcC ht htC;rw[←hpc] at hne;have Hne:=hid hne;clear hres hrnd hlr hlc hpc hne;obtain ⟨aa,au,ar,ca,cu,cr,hP⟩:=hW0;go_enter Tryz.func113,Tryz.ntmps113;go_wp2_with fail;refine (ZgL B g R C t aa au ar ca cu cr false s0 w hP hs0 (by omega) (by omega) hR hC).mono ?_;rintro e w2 ⟨rfl,hG2⟩;rw[hr1,hc1];have hW2:WkS w2 B g R C false s0:=(hP.grow hG2).s;have hK2:Keep (fun q=>q<B) w w2:=hG2.any;clear hP hr1 hc1 hG2 hp
 go_upto_if 30 with fail
 go_cut [] from 21 (fun wx=>Keep (fun q=>q<B) w wx/\ ∃ s1,WkS wx B g R C false s1/\Ss C R s1/\s1=if r=t then s0 else Zc7 C R r t s0)
 case first=>
  by_cases hrt:r=t
  ·have q1:((r:Int)!=(t:Int))=false:=(by simp[hrt]);have He:=hid (show s0=if r=t then s0 else Zc7 C R r t s0 by rw[if_pos hrt]);clear hrt;go_wp2
   go_meet
   exact ⟨hK2,s0,hW2,hs0,He.out⟩
  ·have q1:((r:Int)!=(t:Int))=true:=(by simp;omega);have He:=hid (show Zc7 C R r t s0=if r=t then s0 else Zc7 C R r t s0 by rw[if_neg hrt]);go_wp2_with fail;refine (Zrq B g R C r t s0 _ hW2 hs0 hrR ht hrt hR hC).mono ?_;rintro e w3 ⟨rfl,hW3,hK3⟩;clear hrt;go_wp2
   go_meet
   exact ⟨hK2.trans hK3,_,hW3,ZfR hs0,He.out⟩
 case rest=>
  clear hK2 hW2;obtain ⟨hK2,s1,hW2,hs1,he1⟩:=hcut;have He1:=hid he1;clear he1
  go_upto_if 38 with fail
  go_cut [] from 21 (fun wx=>Keep (fun q=>q<B) w wx/\ ∃ s2,WkS wx B g R C false s2/\Ss C R s2/\s2=Zcb C R t r c s0)
  case first=>
   by_cases hct:c=t
   ·have q1:((c:Int)!=(t:Int))=false:=(by simp[hct]);have He:=hid (show s1=Zcb C R t r c s0 by unfold Zcb;rw[if_pos hct];exact He1.out);clear hct;go_wp2
    go_meet
    exact ⟨hK2,s1,hW2,hs1,He.out⟩
   ·have q1:((c:Int)!=(t:Int))=true:=(by simp;omega);have He:=hid (show ZiA C R c t s1=Zcb C R t r c s0 by unfold Zcb;rw[if_neg hct,He1.out]);go_wp2_with fail;refine (Zo2 B g R C c t s1 _ hW2 hs1 hcC htC hct hR hC).mono ?_;rintro e w3 ⟨rfl,hW3,hK3⟩;clear hct;go_wp2
    go_meet
    exact ⟨hK2.trans hK3,_,hW3,ZhS hs1,He.out⟩
  case rest=>
   clear hK2 hW2 hs1 He1 hs0;obtain ⟨hK2,s2,hW2,hs2,he2⟩:=hcut;rw[←he2] at Hne;have Hr:=hid (show Zcy C R t (Za6 C R t (Za5 C R t) (t+1)) (t+1) s2=res by rw[Hres.out, ←he2];rfl);clear he2 Hres;obtain ⟨p,hp⟩: ∃ p,p=cell s2.1 C t t:=⟨_,rfl⟩;have hpn:=Zo hs2.na C t t;rw[←hp] at hpn;have Hp0:=hid (show p≠0 by rw[hp];exact Hne.out);have Hp:=hid hp.symm;clear hp Hne
   go_upto_block 0 with fail
   go_cut [] from 9 (fun wx=>Keep (fun q=>q<B) w wx/\ ∃ (b:Bool) (s:SS),WkS wx B g R C b s/\MdI C R t p (Za6 C R t (Za5 C R t) (t+1)) res b s)
   case first=>
    go_wp2;go_loopw [9] (fun iv wr=>Keep (fun q=>q<B) w wr/\ ∃ (i:Nat) (b:Bool) (s:SS),t<i/\i<=R/\iv= .int .i64 i/\WkS wr B g R C b s/\MdI C R t p (Zcy C R t (Za6 C R t (Za5 C R t) (t+1)) i) res b s) (fun iv _=>R-(intOf iv).toNat);case atStart=>exact ⟨hK2,t+1,false,s2,by omega,ht,by go_num,hW2, .inl ⟨rfl,hs2,Hr.out,Hp.out⟩⟩
    case round=>as_aux_lemma=>
     clear hK2 hW2 hs2 Hr Hp;obtain ⟨hK,i,b,s,hti,hi,rfl,hW,hM⟩:=hrel;obtain ⟨aa,au,ar,ca,cu,cr,hP⟩:=hW;obtain ⟨c0,c1,c2, -, -, -,c9, -⟩:=hP.wk.g;have hgl:g<wr.heap.size:=Blk.lt hP.wk;by_cases hiR:i<R
     ·rcases hM with ⟨rfl,hs,hrs,hpt⟩|⟨rfl,hrs⟩
      ·have Hrs:=hid hrs;have Hpt:=hid hpt;clear hrs hpt;have rA:=hP.th.oa.rdI (S:=fun _=>True) (fun _ _=>trivial) (Zy hs.na);have hni:i*C+t<R*C:=Zr htC hiR;have hnt:t*C+t<R*C:=Zr htC ht;have Hg1:=hid (show s.1[i*C+t]? =some (cell s.1 C i t) from ZM (by rw[hs.la];exact hni));have Hg2:=hid (show s.1[t*C+t]? =some p by rw[←Hpt.out];exact ZM (by rw[hs.la];exact hnt));have hxn:=Zo hs.na C i t;clear hni hnt;go_wp2_with fail;refine (Zai aa _ ca C i t (i*C+t) (R:Int) _ s.1 _ rA rfl Hg1.out (by omega) (by omega) (by omega) (by omega)).mono ?_;rintro e w3 ⟨rfl,hG3⟩;have P3:=hP.grow hG3;have hK3:=hK.trans hG3.any;clear c0 c1 c2 c9 hgl;obtain ⟨c0,c1,c2, -, -, -,c9, -⟩:=P3.wk.g;have hgl:g<w3.heap.size:=Blk.lt P3.wk;by_cases hx0:cell s.1 C i t=0
       ·have hM3:MdI C R t p (Zcy C R t (Za6 C R t (Za5 C R t) (t+1)) (i+1)) res false s:= .inl ⟨rfl,hs,by rw[←Znp hiR hx0];exact Hrs.out,Hpt.out⟩;rw[hx0];clear hx0;go_wp2;go_roundw;case rel=>exact ⟨hK3,i+1,false,s,by omega,by omega,by go_num,P3.s,hM3⟩
        case measure=>simp[intOf];omega
       ·have q3:(cell s.1 C i t !=0)=true:=(by simpa using hx0);have Hx0:=hid hx0;clear hx0;go_wp2;refine Zg (S:=Grow w3) [([0,1,2,3,4,5,7,8,9,10,11,12],some 6),([],some 13),([],some 14),([15,16,17,18,19,20,21],none)] Zm (by kernel_rfl) (fun _ _ _ _ _ h=>h) (Grow.refl _).drew ?_;show wpQuiet _ _ _ _ [_,_,_,_,_,_,_,_,_,_,_,_] _;(repeat (first |(go_big_quiet_want;refine Zi Zc rfl rfl (fun w' hG=>⟨hG.cell c0,hG.cell c1,hG.cell c2⟩) ?_;go_big_quiet_on;simp only[putP])|go_big_quiet_step (exact fun _=>rfl)));refine wpQuiet_nil ?_;refine Zf rfl (fun K hK=> ?_);go_wp2_with fail;refine (Zai aa _ ca C i t (i*C+t) (R:Int) _ s.1 _ ((rA.grow hG3).grow (Grow.refl _).drew) rfl Hg1.out (by omega) (by omega) (by omega) (by omega)).mono ?_;rintro e w4 ⟨rfl,hG4⟩;have hG34:Grow w3 w4:=(Grow.refl w3).drew.trans hG4;go_wp2_with fail;refine hK _ _ (hG34) ?_;clear hK K;refine wpQuiet_nil ?_;refine Zf rfl (fun K hK=> ?_);go_wp2_with fail;refine (Zai aa _ ca C t t (t*C+t) (R:Int) _ s.1 _ ((rA.grow hG3).grow hG34) rfl Hg2.out (by omega) (by omega) (by omega) (by omega)).mono ?_;rintro e w5 ⟨rfl,hG5⟩;have hG35:=hG34.trans hG5;go_wp2_with fail;refine hK _ _ (hG35) ?_;clear hK K;refine wpQuiet_nil ?_;refine Zf rfl (fun K hK=> ?_);go_wp2_with fail;refine (ZcK _ _ _ hxn hpn Hp0.out).mono ?_;rintro e _ ⟨rfl,rfl⟩;go_wp2_with fail;refine hK _ _ (hG35) ?_;clear hK K;show wpQuiet _ _ _ _ [_,_,_,_,_,_,_] _;(try (conv=>arg 6;simp only[putP]));(repeat (first |(go_big_quiet_want;refine Zi Zc rfl rfl (fun w' hG=>⟨hG.cell c0,hG.cell c1,hG.cell c2⟩) ?_;go_big_quiet_on;simp only[putP])|go_big_quiet_step (exact fun _=>rfl)));refine wpQuiet_nil ?_;refine Zk ?_;have hqn:=ZfL (n:=cell s.1 C i t) (d:=p) hxn Hp0.out;have Hf:=hid (show Zcy C R t (Za6 C R t (Za5 C R t) (t+1)) i s=(ZaF C R i t (-(cell s.1 C i t/p)) s).bind (Zcy C R t (Za6 C R t (Za5 C R t) (t+1)) (i+1)) by rw[ZpN hiR Hx0.out,Hpt.out]);have W5:WkS w5 B g R C false s:=(P3.grow hG35).s;have hK5:=hK3.trans hG35.any;generalize cell s.1 C i t/p=q at *;clear c0 c1 c2 c9 hgl q3 rA hxn;go_wp2_with fail;refine (Zmi B g R C i t (-q) s _ W5 hs hiR ht (by omega) (by omega) hR hC).mono ?_;rintro e w6 ⟨rfl,b',s',hW6,hto,hK6⟩;have hM6:=MdI.addR hs Hrs.out Hpt.out htC hiR (by omega) Hf.out hto;clear W5;go_wp2;go_roundw;case rel=>exact ⟨hK5.trans hK6,i+1,b',s',by omega,by omega,by go_num,hW6,hM6⟩
        case measure=>simp[intOf];omega
      ·go_wp2
       go_meet
       exact ⟨hK,true,s,hP.s, .inr ⟨rfl,hrs⟩⟩
     ·have hiE:R=i:=(by omega);subst hiE;have hM2:MdI C R t p (Za6 C R t (Za5 C R t) (t+1)) res b s:=by
       rcases hM with ⟨h1,h2,h3,h4⟩|h
       ·exact .inl ⟨h1,h2,by rw[←h3,Zpf],h4⟩
       ·exact .inr h
      go_wp2
      go_meet
      exact ⟨hK,b,s,hP.s,hM2⟩
   case rest=>
    clear hK2 hW2 hs2 Hr Hp;obtain ⟨hK2,b1,s1,hW2,hM1⟩:=hcut
    go_upto_block 2 with fail
    go_cut [] from 9 (fun wx=>Keep (fun q=>q<B) w wx/\ ∃ (b:Bool) (s:SS),WkS wx B g R C b s/\MdI C R t p (Za5 C R t) res b s)
    case first=>
     go_wp2;go_loopw [13] (fun iv wr=>Keep (fun q=>q<B) w wr/\ ∃ (j:Nat) (b:Bool) (s:SS),t<j/\j<=C/\iv= .int .i64 j/\WkS wr B g R C b s/\MdI C R t p (Za6 C R t (Za5 C R t) j) res b s) (fun iv _=>C-(intOf iv).toNat);case atStart=>exact ⟨hK2,t+1,b1,s1,by omega,htC,by go_num,hW2,hM1⟩
     case round=>as_aux_lemma=>
      clear hK2 hW2 hM1;obtain ⟨hK,j,b,s,htj,hj,rfl,hW,hM⟩:=hrel;obtain ⟨aa,au,ar,ca,cu,cr,hP⟩:=hW;obtain ⟨c0,c1,c2, -, -, -,c9, -⟩:=hP.wk.g;have hgl:g<wr.heap.size:=Blk.lt hP.wk;by_cases hjC:j<C
      ·rcases hM with ⟨rfl,hs,hrs,hpt⟩|⟨rfl,hrs⟩
       ·have Hrs:=hid hrs;have Hpt:=hid hpt;clear hrs hpt;have rA:=hP.th.oa.rdI (S:=fun _=>True) (fun _ _=>trivial) (Zy hs.na);have hni:t*C+j<R*C:=Zr hjC ht;have hnt:t*C+t<R*C:=Zr htC ht;have Hg1:=hid (show s.1[t*C+j]? =some (cell s.1 C t j) from ZM (by rw[hs.la];exact hni));have Hg2:=hid (show s.1[t*C+t]? =some p by rw[←Hpt.out];exact ZM (by rw[hs.la];exact hnt));have hxn:=Zo hs.na C t j;clear hni hnt;go_wp2_with fail;refine (Zai aa _ ca C t j (t*C+j) (R:Int) _ s.1 _ rA rfl Hg1.out (by omega) (by omega) (by omega) (by omega)).mono ?_;rintro e w3 ⟨rfl,hG3⟩;have P3:=hP.grow hG3;have hK3:=hK.trans hG3.any;clear c0 c1 c2 c9 hgl;obtain ⟨c0,c1,c2, -, -, -,c9, -⟩:=P3.wk.g;have hgl:g<w3.heap.size:=Blk.lt P3.wk;by_cases hx0:cell s.1 C t j=0
        ·have hM3:MdI C R t p (Za6 C R t (Za5 C R t) (j+1)) res false s:= .inl ⟨rfl,hs,by rw[←ZnM hjC hx0];exact Hrs.out,Hpt.out⟩;rw[hx0];clear hx0;go_wp2;go_roundw;case rel=>exact ⟨hK3,j+1,false,s,by omega,by omega,by go_num,P3.s,hM3⟩
         case measure=>simp[intOf];omega
        ·have q3:(cell s.1 C t j !=0)=true:=(by simpa using hx0);have Hx0:=hid hx0;clear hx0;go_wp2;refine Zg (S:=Grow w3) [([0,1,2,3,4,5,7,8,9,10,11,12],some 6),([],some 13),([],some 14),([15,16,17,18,19,20,21],none)] Zm (by kernel_rfl) (fun _ _ _ _ _ h=>h) (Grow.refl _).drew ?_;show wpQuiet _ _ _ _ [_,_,_,_,_,_,_,_,_,_,_,_] _;(repeat (first |(go_big_quiet_want;refine Zi Zc rfl rfl (fun w' hG=>⟨hG.cell c0,hG.cell c1,hG.cell c2⟩) ?_;go_big_quiet_on;simp only[putP])|go_big_quiet_step (exact fun _=>rfl)));refine wpQuiet_nil ?_;refine Zf rfl (fun K hK=> ?_);go_wp2_with fail;refine (Zai aa _ ca C t j (t*C+j) (R:Int) _ s.1 _ ((rA.grow hG3).grow (Grow.refl _).drew) rfl Hg1.out (by omega) (by omega) (by omega) (by omega)).mono ?_;rintro e w4 ⟨rfl,hG4⟩;have hG34:Grow w3 w4:=(Grow.refl w3).drew.trans hG4;go_wp2_with fail;refine hK _ _ (hG34) ?_;clear hK K;refine wpQuiet_nil ?_;refine Zf rfl (fun K hK=> ?_);go_wp2_with fail;refine (Zai aa _ ca C t t (t*C+t) (R:Int) _ s.1 _ ((rA.grow hG3).grow hG34) rfl Hg2.out (by omega) (by omega) (by omega) (by omega)).mono ?_;rintro e w5 ⟨rfl,hG5⟩;have hG35:=hG34.trans hG5;go_wp2_with fail;refine hK _ _ (hG35) ?_;clear hK K;refine wpQuiet_nil ?_;refine Zf rfl (fun K hK=> ?_);go_wp2_with fail;refine (ZcK _ _ _ hxn hpn Hp0.out).mono ?_;rintro e _ ⟨rfl,rfl⟩;go_wp2_with fail;refine hK _ _ (hG35) ?_;clear hK K;show wpQuiet _ _ _ _ [_,_,_,_,_,_,_] _;(try (conv=>arg 6;simp only[putP]));(repeat (first |(go_big_quiet_want;refine Zi Zc rfl rfl (fun w' hG=>⟨hG.cell c0,hG.cell c1,hG.cell c2⟩) ?_;go_big_quiet_on;simp only[putP])|go_big_quiet_step (exact fun _=>rfl)));refine wpQuiet_nil ?_;refine Zk ?_;have hqn:=ZfL (n:=cell s.1 C t j) (d:=p) hxn Hp0.out;have Hf:=hid (show Za6 C R t (Za5 C R t) j s=(Zbm C R j t (-(cell s.1 C t j/p)) s).bind (Za6 C R t (Za5 C R t) (j+1)) by rw[ZqH hjC Hx0.out,Hpt.out]);have W5:WkS w5 B g R C false s:=(P3.grow hG35).s;have hK5:=hK3.trans hG35.any;generalize cell s.1 C t j/p=q at *;clear c0 c1 c2 c9 hgl q3 rA hxn;go_wp2_with fail;refine (ZnU B g R C j t (-q) s _ W5 hs hjC htC (by omega) (by omega) hR hC).mono ?_;rintro e w6 ⟨rfl,b',s',hW6,hto,hK6⟩;have hM6:=MdI.addC hs Hrs.out Hpt.out ht htC hjC (by omega) Hf.out hto;clear W5;go_wp2;go_roundw;case rel=>exact ⟨hK5.trans hK6,j+1,b',s',by omega,by omega,by go_num,hW6,hM6⟩
         case measure=>simp[intOf];omega
       ·go_wp2
        go_meet
        exact ⟨hK,true,s,hP.s, .inr ⟨rfl,hrs⟩⟩
      ·have hjE:C=j:=(by omega);subst hjE;have hM2:MdI C R t p (Za5 C R t) res b s:=by
        rcases hM with ⟨h1,h2,h3,h4⟩|h
        ·exact .inl ⟨h1,h2,by rw[←h3,Zpc],h4⟩
        ·exact .inr h
       go_wp2
       go_meet
       exact ⟨hK,b,s,hP.s,hM2⟩
    case rest=>
     clear hK2 hW2 hM1;obtain ⟨hK2,b2,s,hW2,hM2⟩:=hcut;obtain ⟨aa,au,ar,ca,cu,cr,hP⟩:=hW2;obtain ⟨c0,c1,c2, -, -, -,c9, -⟩:=hP.wk.g;have hgl:g<(World.heap _).size:=Blk.lt hP.wk;rcases hM2 with ⟨rfl,hs,hrs,hpt⟩|⟨rfl,hrs⟩
     ·have Hrs:=hid hrs;have Hpt:=hid hpt;clear hrs hpt;go_wp2;clear c0 c1 c2 c9 hgl;go_loopw [8,17] (fun lv iv wr=>Keep (fun q=>q<B) w wr/\WkP wr B g R C aa au ar ca cu cr false s/\ ∃ i:Nat,t<i/\i<=R/\iv= .int .i64 i/\lv= .bool (!(Zd4 s.1 C t (i-(t+1))))) (fun _ iv _=>R-(intOf iv).toNat);case atStart=>exact ⟨hK2,hP,t+1,by omega,ht,by go_num,by rw[Nat.sub_self];rfl⟩
      case round=>as_aux_lemma=>
       clear hK2 hP;obtain ⟨hK,hP,i,hti,hi,rfl,rfl⟩:=hrel;obtain ⟨c0,c1,c2, -, -, -,c9, -⟩:=hP.wk.g;have hgl:g<wr.heap.size:=Blk.lt hP.wk;by_cases hiR:i<R
       ·have hni:i*C+t<R*C:=Zr htC hiR;have rA:=hP.th.oa.rdI (S:=fun _=>True) (fun _ _=>trivial) (Zy hs.na);have Hg1:=hid (show s.1[i*C+t]? =some (cell s.1 C i t) from ZM (by rw[hs.la];exact hni));have hcs:=hid (show Zd4 s.1 C t (i+1-(t+1))=(Zd4 s.1 C t (i-(t+1))&&cell s.1 C i t==0) by rw[show i+1-(t+1)=(i-(t+1))+1 by omega,Znh,show t+1+(i-(t+1))=i by omega]);clear hni;cases hb:Zd4 s.1 C t (i-(t+1)) with
        |false=>
         have Hcs:=hid (show Zd4 s.1 C t (i+1-(t+1))=false by rw[hcs.out,hb];rfl);clear hb hcs;go_wp2;go_roundw;case rel=>exact ⟨hK,hP,i+1,by omega,by omega,by go_num,by rw[Hcs.out];rfl⟩
         case measure=>simp[intOf];omega
        |true=>
         have Hcs:=hid (show Zd4 s.1 C t (i+1-(t+1))=(cell s.1 C i t==0) by rw[hcs.out,hb];rfl);clear hb hcs;go_wp2_with fail;refine (Zai aa _ ca C i t (i*C+t) (R:Int) _ s.1 _ rA rfl Hg1.out (by omega) (by omega) (by omega) (by omega)).mono ?_;rintro e w4 ⟨rfl,hG4⟩;clear c0 c1 c2 c9 hgl;go_wp2;go_roundw;case rel=>exact ⟨hK.trans hG4.any,hP.grow hG4,i+1,by omega,by omega,by go_num,by rw[Hcs.out]<;>try rfl⟩
         case measure=>simp[intOf];omega
       ·have hiE:R=i:=(by omega);subst hiE;have hcc:Zd4 s.1 C t (R-(t+1))=ZW s.1 C R t:=rfl;rw[hcc];clear hcc;have hK2:=hK;have hP2:=hP;clear hK hP;go_wp2;clear c0 c1 c2 c9 hgl;go_loopw [8,18] (fun lv iv wr=>Keep (fun q=>q<B) w wr/\WkP wr B g R C aa au ar ca cu cr false s/\ ∃ j:Nat,t<j/\j<=C/\iv= .int .i64 j/\lv= .bool (!(ZW s.1 C R t&&Zdq s.1 C t (j-(t+1))))) (fun _ iv _=>C-(intOf iv).toNat);case atStart=>exact ⟨hK2,hP2,t+1,by omega,htC,by go_num,by rw[Nat.sub_self,show Zdq s.1 C t 0=true from rfl,Bool.and_true]⟩
        case round=>as_aux_lemma=>
         clear hK2 hP2;obtain ⟨hK,hP,j,htj,hj,rfl,rfl⟩:=hrel;obtain ⟨c0,c1,c2, -, -, -,c9, -⟩:=hP.wk.g;have hgl:g<wr.heap.size:=Blk.lt hP.wk;by_cases hjC:j<C
         ·have hni:t*C+j<R*C:=Zr hjC ht;have rA:=hP.th.oa.rdI (S:=fun _=>True) (fun _ _=>trivial) (Zy hs.na);have Hg1:=hid (show s.1[t*C+j]? =some (cell s.1 C t j) from ZM (by rw[hs.la];exact hni));have hcs:=hid (show (ZW s.1 C R t&&Zdq s.1 C t (j+1-(t+1)))=((ZW s.1 C R t&&Zdq s.1 C t (j-(t+1)))&&cell s.1 C t j==0) by rw[show j+1-(t+1)=(j-(t+1))+1 by omega,Zn8,show t+1+(j-(t+1))=j by omega,Bool.and_assoc]);clear hni;cases hb:(ZW s.1 C R t&&Zdq s.1 C t (j-(t+1))) with
          |false=>
           have Hcs:=hid (show (ZW s.1 C R t&&Zdq s.1 C t (j+1-(t+1)))=false by rw[hcs.out,hb];rfl);clear hb hcs;go_wp2;go_roundw;case rel=>exact ⟨hK,hP,j+1,by omega,by omega,by go_num,by rw[Hcs.out];rfl⟩
           case measure=>simp[intOf];omega
          |true=>
           have Hcs:=hid (show (ZW s.1 C R t&&Zdq s.1 C t (j+1-(t+1)))=(cell s.1 C t j==0) by rw[hcs.out,hb];rfl);clear hb hcs;go_wp2_with fail;refine (Zai aa _ ca C t j (t*C+j) (R:Int) _ s.1 _ rA rfl Hg1.out (by omega) (by omega) (by omega) (by omega)).mono ?_;rintro e w4 ⟨rfl,hG4⟩;clear c0 c1 c2 c9 hgl;go_wp2;go_roundw;case rel=>exact ⟨hK.trans hG4.any,hP.grow hG4,j+1,by omega,by omega,by go_num,by rw[Hcs.out]<;>try rfl⟩
           case measure=>simp[intOf];omega
         ·have hjE:C=j:=(by omega);subst hjE;have hcc:Zdq s.1 C t (C-(t+1))=Zap s.1 C t:=rfl;rw[hcc];clear hcc;have hK2:=hK;have hP2:=hP;clear hK hP;obtain ⟨lb,hlb⟩: ∃ lb,lb= !(ZW s.1 C R t&&Zap s.1 C t):=⟨_,rfl⟩;rw[←hlb];cases lb with
          |true=>have hcl:(ZW s.1 C R t&&Zap s.1 C t)=false:=(by revert hlb;cases (ZW s.1 C R t&&Zap s.1 C t)<;>simp);have Hf:=hid (Zpg (ZrZ (Zrf hs Hrs.out Hpt.out) hcl) hs);clear hcl hlb;go_wp2;go_ret;exact ⟨true,false,s,rfl,hP2.s,hK2, .inl ⟨rfl,Hf.out⟩⟩
          |false=>
           have hcl:(ZW s.1 C R t&&Zap s.1 C t)=true:=(by revert hlb;cases (ZW s.1 C R t&&Zap s.1 C t)<;>simp);have Hcl:=hid hcl;clear hcl hlb;go_wp2;clear c0 c1 c2 c9 hgl;go_loopw [19] (fun iv wr=>Keep (fun q=>q<B) w wr/\WkP wr B g R C aa au ar ca cu cr false s/\ ∃ i:Nat,t<i/\i<=R/\iv= .int .i64 i/\ ∀ i',t<i'->i'<i-> ∀ j',t<j'->j'<C->(cell s.1 C i' j').tmod p=0) (fun iv _=>R-(intOf iv).toNat);case atStart=>exact ⟨hK2,hP2,t+1,by omega,ht,by go_num,fun i' h1 h2=>by omega⟩
           case round=>as_aux_lemma=>
            clear hK2 hP2;obtain ⟨hK,hP,i,hti,hi,rfl,hall⟩:=hrel;have Hall:=hid hall;clear hall;obtain ⟨c0,c1,c2, -, -, -,c9, -⟩:=hP.wk.g;have hgl:g<wr.heap.size:=Blk.lt hP.wk;by_cases hiR:i<R
            ·go_wp2;clear c0 c1 c2 c9 hgl;obtain ⟨wo,rfl⟩: ∃ wo,wo=wr:=⟨_,rfl⟩;go_loopw [20] (fun jv wr=>Keep (fun q=>q<B) w wr/\WkP wr B g R C aa au ar ca cu cr false s/\ ∃ j:Nat,t<j/\j<=C/\jv= .int .i64 j/\ ∀ j',t<j'->j'<j->(cell s.1 C i j').tmod p=0) (fun jv _=>C-(intOf jv).toNat);case atStart=>exact ⟨hK,hP,t+1,by omega,htC,by go_num,fun j' h1 h2=>by omega⟩
             case round=>as_aux_lemma=>
              clear hK hP;obtain ⟨hK,hP,j,htj,hj,rfl,hall⟩:=hrel;have Hal2:=hid hall;clear hall;obtain ⟨c0,c1,c2, -, -, -,c9, -⟩:=hP.wk.g;have hgl:g<wr.heap.size:=Blk.lt hP.wk;by_cases hjC:j<C
              ·have hni:i*C+j<R*C:=Zr hjC hiR;have hnt:t*C+t<R*C:=Zr htC ht;have rA:=hP.th.oa.rdI (S:=fun _=>True) (fun _ _=>trivial) (Zy hs.na);have Hg1:=hid (show s.1[i*C+j]? =some (cell s.1 C i j) from ZM (by rw[hs.la];exact hni));have Hg2:=hid (show s.1[t*C+t]? =some p by rw[←Hpt.out];exact ZM (by rw[hs.la];exact hnt));have hxn:=Zo hs.na C i j;have hp0:=Hp0.out;have q1:(p==0)=false:=(by simpa using hp0);clear hni hnt;go_wp2;refine Zg (S:=Grow wr) [([0,1,2,3,4,5,7,8,9,10,11,12],some 6),([],some 13),([14,15],none)] Zm (by kernel_rfl) (fun _ _ _ _ _ h=>h) (Grow.refl _).drew ?_;show wpQuiet _ _ _ _ [_,_,_,_,_,_,_,_,_,_,_,_] _;(repeat (first |(go_big_quiet_want;refine Zi Zc rfl rfl (fun w' hG=>⟨hG.cell c0,hG.cell c1,hG.cell c2⟩) ?_;go_big_quiet_on;simp only[putP])|go_big_quiet_step (exact fun _=>rfl)));refine wpQuiet_nil ?_;refine Zf rfl (fun K hK=> ?_);go_wp2_with fail;refine (Zai aa _ ca C i j (i*C+j) (R:Int) _ s.1 _ (rA.grow (Grow.refl _).drew) rfl Hg1.out (by omega) (by omega) (by omega) (by omega)).mono ?_;rintro e w4 ⟨rfl,hG4⟩;have hG34:Grow wr w4:=(Grow.refl wr).drew.trans hG4;go_wp2_with fail;refine hK _ _ (hG34) ?_;clear hK K;refine wpQuiet_nil ?_;refine Zf rfl (fun K hK=> ?_);go_wp2_with fail;refine (Zai aa _ ca C t t (t*C+t) (R:Int) _ s.1 _ (rA.grow hG34) rfl Hg2.out (by omega) (by omega) (by omega) (by omega)).mono ?_;rintro e w5 ⟨rfl,hG5⟩;have hG35:=hG34.trans hG5;go_wp2_with fail;refine hK _ _ (hG35) ?_;clear hK K;show wpQuiet _ _ _ _ [_,_] _;(try (conv=>arg 6;simp only[putP]));(repeat (first |(go_big_quiet_want;refine Zi Zc rfl rfl (fun w' hG=>⟨hG.cell c0,hG.cell c1,hG.cell c2⟩) ?_;go_big_quiet_on;simp only[putP])|go_big_quiet_step (exact fun _=>rfl)));refine wpQuiet_nil ?_;refine Zk ?_;have P5:=hP.grow hG35;have hK5:=hK.trans hG35.any;clear c0 c1 c2 c9 hgl;by_cases hdv:(cell s.1 C i j).tmod p=0
               ·have Hdv:=hid hdv;have q5:((cell s.1 C i j).tmod p !=0)=false:=(by simp[hdv]);go_wp2;go_roundw;case rel=>exact ⟨hK5,P5,j+1,by omega,by omega,by go_num,fun j' h1 h2=>by
                 by_cases e:j'=j
                 ·subst e;exact Hdv.out
                 ·exact Hal2.out j' h1 (by omega)⟩
                case measure=>simp[intOf];omega
               ·have Hdv:=hid hdv;have q5:((cell s.1 C i j).tmod p !=0)=true:=(by simpa using hdv);clear hdv;go_wp2_with fail;refine (Zmi B g R C t i 1 s _ P5.s hs ht hiR (by omega) (by omega) hR hC).mono ?_;rintro e w6 ⟨rfl,b',s',hW6,hto,hK6⟩;have HF:=hid (Zqb hs Hrs.out Hpt.out Hcl.out ⟨hti,hiR⟩ ⟨htj,hjC⟩ Hall.out Hdv.out hto);clear P5 q5;go_wp2;go_ret;exact ⟨true,b',s',rfl,hW6,hK5.trans hK6,HF.out⟩
              ·have hjE:C=j:=(by omega);subst hjE;go_wp2;go_roundw;case rel=>exact ⟨hK,hP,i+1,by omega,by omega,by go_num,fun i' h1 h2=>by
                by_cases e:i'=i
                ·subst e;exact fun j' h3 h4=>Hal2.out j' h3 h4
                ·exact Hall.out i' h1 (by omega)⟩
               case measure=>simp[intOf];omega
            ·have hiE:R=i:=(by omega);subst hiE;have HN:=hid (Zpg (Zqh (Zrf hs Hrs.out Hpt.out) Hcl.out fun i' h1 h2 j' h3 h4=> .inr (Hall.out i' h1 h2 j' h3 h4)) hs);go_wp2;go_ret;exact ⟨false,false,s,rfl,hP.s,hK, .inl ⟨rfl,HN.out⟩⟩
     ·go_wp2;go_ret;exact ⟨false,true,s,rfl,hP.s,hK2, .inr ⟨rfl,hrs⟩⟩

end Go.Proofs.YtjpcgofidijigaaGreatDoor
