/- A step of the reduction: in order, or not. -/
import Derived.Test.YtjpcgofidijigaaGreatDoorZAccJ
import Derived.Test.YtjpcgofidijigaaGreatDoorZWkN
set_option maxHeartbeats 8000000
set_option maxRecDepth 100000
namespace Go.Proofs.YtjpcgofidijigaaGreatDoor
open Go.RowKit
open Lib (hid)
open Go.Value renaming int->Yv
open Go.IntKind renaming i64->Yi
variable {S:Nat->Prop} {a:Option Addr} {cap g k n:Nat} {w:World}
theorem RdT.pair {l:List Rt} (h:RdT w S a n cap l) (hk:k<n):
  ∃ b off,a=some ⟨b,off,none⟩/\b<w.heap.size/\w.cell? ⟨b,off+k*2,none⟩=some (Yv Yi (rAt l k).1)/\w.cell? ⟨b,off+k*2+1,none⟩=some (Yv Yi (rAt l k).2):=by
 obtain ⟨b,off,r,e,hr, -,hb,c0,c1⟩:=h.at hk;have e2:rAt l k=r:=by unfold rAt;rw[List.getD_eq_getElem?_getD,hr];rfl
 rw[e2];exact ⟨b,off,e,hb,c0,c1⟩
theorem RdTT.pair {l:List (List Rt)} (h:RdTT w S a n cap l) {j:Nat} (hj:j<n) (hk:k<(l.getD j []).length):
  ∃ b off b1 o1 c1,a=some ⟨b,off,none⟩/\b<w.heap.size/\w.cell? ⟨b,off+j,none⟩=some (.slice (some ⟨b1,o1,none⟩) (l.getD j []).length c1)/\b1<w.heap.size/\w.cell? ⟨b1,o1+k*2,none⟩=some (Yv Yi (rAt (l.getD j []) k).1)/\w.cell? ⟨b1,o1+k*2+1,none⟩=some (Yv Yi (rAt (l.getD j []) k).2):=by
 obtain ⟨b,off,xs,b1,c1,e,hx, -,hb,c0,hr⟩:=h.at hj;have e2:l.getD j []=xs:=by rw[List.getD_eq_getElem?_getD,hx];rfl
 rw[e2] at hk ⊢;obtain ⟨b2,o2,rfl,hb2,d0,d1⟩:=hr.pair hk;exact ⟨b,off,b2,o2,c1,e,hb,c0,hb2,d0,d1⟩
def OrdPost (z:Nat) (m x:Rt):Nat->Value->World->Prop
 |0,v,_=>v=RV (3,4)
 |3,v,_=>v=RV (ZY m m)
 |4,v,_=>v=RV (ZcG (3,4) (ZY m m))
 |11,v,_=>v=RV (ZY (ZcG (3,4) (ZY m m)) x)
 |12,v,w=> ∃ g,v= .pointer (some ⟨g,0,none⟩)/\z<=g/\Blk w g #[Yv Yi 0,Yv Yi 0] 240
 |_,_,_=>True
theorem OrdPost.stays {z:Nat} {m x:Rt}: ∀ i v w w',Grow w w'->OrdPost z m x i v w->OrdPost z m x i v w':=fun i v w w' hG h=>by
 unfold OrdPost at *;split at h
 ·exact h
 ·exact h
 ·exact h
 ·exact h
 ·obtain ⟨g,h1,h2,h3⟩:=h;exact ⟨g,h1,h2,h3.grow hG⟩
 ·trivial
theorem Zn2 (v:Value) (o:List (List Rt)×List Rt) (k n:Nat) (w:World) (h:AcM w S v o) (h1:o.1.length=n) (h2:o.2.length=n) (h3: ∀ (j:Nat) (row:List Rt),o.1[j]? =some row->row.length=j) (hk:1<=k) (hkn:k<n) (hn:n<=24):
  Calls Tryz.prog 218 #[v,Yv Yi k] w fun e w'=>e= .returned (.tuple #[.bool (decide (ZaN (rAt o.2 k) (Zct o k)=0\/ZaN (rAt o.2 k) (Zct o k)=1)), .bool (!decide (ZaN (rAt o.2 k) (Zct o k)=2))])/\Grow w w':=by
 obtain ⟨ma,mn,mc,sa,sn,sc,rfl,hM,hS⟩:=h;obtain rfl:mn=n:=by have:=hM.len;omega
 obtain rfl:sn=mn:=by have:=hS.len;omega
 obtain ⟨w1,hw1,hG1,bO, -⟩:=al1 w #[.slice ma sn mc, .slice sa sn sc] 221;have hM1:=hM.grow hG1;have hS1:=hS.grow hG1;clear hM hS;obtain ⟨j,hj⟩: ∃ j,j+1=k:=⟨k-1,by omega⟩;have hrl:(o.1.getD k []).length=k:=by
  have hlt:k<o.1.length:=by omega
  have e:o.1[k]? =some o.1[k]:=List.getElem?_eq_getElem hlt;rw[List.getD_eq_getElem?_getD,e];exact h3 _ _ e
 obtain ⟨b,off,b2,o2,c2,rfl,hb,u0,hb2,u1,u2⟩:=hM1.pair (j:=k) (k:=j) hkn (by omega);obtain ⟨b3,o3,rfl,hb3,s0,s1⟩:=hS1.pair (k:=j) (by omega);obtain ⟨b4,o4,e4,hb4,t0,t1⟩:=hS1.pair (k:=k) hkn;injection e4 with e4;injection e4 with e5 e6;subst e5 e6;have hl:Zct o k=ZY (ZcG (3,4) (ZY (rAt (o.1.getD k []) j) (rAt (o.1.getD k []) j))) (rAt o.2 j):=by unfold Zct muAt;rw[show k-1=j by omega];rfl
 rw[hl];rw[hrl] at u0;have hjk:j<k:=by omega
 have q1:((k:Int))-1=j:=by omega
 obtain ⟨⟨o0,o1⟩, -⟩:=bO.two;have hltO:=bO.lt;clear hl hj hrl hM1 hS1 h1 h2 h3;generalize rAt (o.1.getD k []) j=mm at *;generalize rAt o.2 j=sj at *;generalize rAt o.2 k=sk at *;obtain ⟨m1,m2⟩:=mm;obtain ⟨x1,x2⟩:=sj;obtain ⟨y1,y2⟩:=sk;simp only at u1 u2 s0 s1 t0 t1;obtain ⟨w2,hw2,hG2,bM, -⟩:=al1 w1 #[Yv Yi m1,Yv Yi m2] 240;have bO2:=bO.grow hG2;have hG12:=hG1.trans hG2;obtain ⟨⟨v0,v1⟩, -⟩:=bO2.two;have s0':=hG2.cell s0;have s1':=hG2.cell s1;have t0':=hG2.cell t0;have t1':=hG2.cell t1;have Hw2:=hid hw2;clear hw2 s0 s1 t0 t1;subst hw1;go_enter Tryz.func218,Tryz.ntmps218;go_wp2_with fail;rw[←Hw2.out];clear o0 o1 hltO u0 u1 u2;generalize hw1:w.alloc (.cells #[.slice (some ⟨b,off,none⟩) sn mc, .slice (some ⟨b3,o3,none⟩) sn sc] 221)=w1 at *;have hs1:w1.heap.size=w.heap.size+1:=by rw[←hw1];simp
 rw[hs1] at bM;clear hw1;refine Zam (S:=Grow w2) (T:=fun _=>True) [1,2,5,6,7,8,9,10] [0,3,4,11,12] [] [([],some 13)] Zm (by kernel_rfl) (fun _ _ _ _ _ h=>h) (Grow.refl _).drew ?_;show wpQuiet _ _ _ _ [_,_,_,_,_,_,_,_] _;repeat (first |(go_big_quiet_want;(first |refine ZA Zaj rfl rfl (fun w' hG=>bM.grow hG) ?_|refine Za ZeP rfl rfl (fun w' hG=>hG.cell v1) ?_|refine Za0 Zaj rfl rfl (fun w' hG=>⟨hG.cell s0',hG.cell s1'⟩) ?_);go_big_quiet_on;simp only[putP])|go_big_quiet_step (exact fun _=>rfl))
 refine wpQuiet_nil ?_;refine ⟨by kernel_rfl,OrdPost w2.heap.size (m1,m2) (x1,x2),fun _ _=>none,OrdPost.stays,(fun _ _ _ _ _ h=>by cases h),(fun _ _ _=>rfl), ?_,(fun _ h=>by cases h), ?_⟩
 ·intro i hi o' ho a w3 hGw hSw hdep hfr K hK;have hs2:=hSw.size;simp only[List.mem_cons,List.not_mem_nil,or_false] at hi;rcases hi with rfl|rfl|rfl|rfl|rfl
  ·obtain rfl:=Option.some.inj (show some _=some _ from ho);go_wp2_with fail;exact hK _ _ (Grow.refl _) hSw rfl (fun _ h=>by cases h)
  ·obtain rfl:=Option.some.inj (show some _=some _ from ho);have t19:a.tmps.getD 19 undef=RV (m1,m2):=hfr 19 (by decide);have t20:a.tmps.getD 20 undef=RV (m1,m2):=hfr 20 (by decide);refine Zba (x:= .tmp 19) (y:= .tmp 20) rfl Tryz.func213 rfl rfl t19 t20 ?_;refine (Zga (m1,m2) (m1,m2) _).mono ?_;rintro e w4 ⟨rfl,hG4⟩;exact ⟨_,rfl,hK _ w4 hG4 (hSw.trans hG4) rfl (fun _ h=>by cases h)⟩
  ·obtain rfl:=Option.some.inj (show some _=some _ from ho);have t18:a.tmps.getD 18 undef=RV (3,4):=hdep 0 (by decide) ⟨⟨0, .data⟩,by simp,rfl,rfl⟩ 18 rfl;have t21:a.tmps.getD 21 undef=RV (ZY (m1,m2) (m1,m2)):=hdep 3 (by decide) ⟨⟨3, .data⟩,by simp,rfl,rfl⟩ 21 rfl;refine Zba (x:= .tmp 18) (y:= .tmp 21) rfl Tryz.func212 rfl rfl t18 t21 ?_;refine (Zl9 (3,4) (ZY (m1,m2) (m1,m2)) _).mono ?_;rintro e w4 ⟨rfl,hG4⟩;exact ⟨_,rfl,hK _ w4 hG4 (hSw.trans hG4) rfl (fun _ h=>by cases h)⟩
  ·obtain rfl:=Option.some.inj (show some _=some _ from ho);have t28:a.tmps.getD 28 undef=RV (x1,x2):=hfr 28 (by decide);have t22:a.tmps.getD 22 undef=RV (ZcG (3,4) (ZY (m1,m2) (m1,m2))):=hdep 4 (by decide) ⟨⟨4, .data⟩,by simp,rfl,rfl⟩ 22 rfl;refine Zba (x:= .tmp 22) (y:= .tmp 28) rfl Tryz.func213 rfl rfl t22 t28 ?_;refine (Zga (ZcG (3,4) (ZY (m1,m2) (m1,m2))) (x1,x2) _).mono ?_;rintro e w4 ⟨rfl,hG4⟩;exact ⟨_,rfl,hK _ w4 hG4 (hSw.trans hG4) rfl (fun _ h=>by cases h)⟩
  ·obtain rfl:=Option.some.inj (show some _=some _ from ho);refine Zbn (z:= .agg #[Yv Yi 0,Yv Yi 0]) rfl (by rfl) ?_;exact hK _ _ ((Grow.refl _).alloc _ _) (hSw.alloc _ _) ⟨w3.heap.size,rfl,hs2,Blk.new _ _ _⟩ (fun _ h=>by cases h)
 ·intro vs w3 hGw hSw hP _;apply ZbK
  ·show _=([some 18,some 21,some 22,some 29,some 7]:List (Option Tmp))
   kernel_rfl
  simp only[Zc3,List.cons_append,List.nil_append,List.map_cons,List.map_nil,List.zip_cons_cons,List.zip_nil_right,Act.put,List.setIfInBounds_toArray,List.set_cons_succ,List.set_cons_zero];refine ⟨?_⟩;have p11:vs 11=RV (ZY (ZcG (3,4) (ZY (m1,m2) (m1,m2))) (x1,x2)):=hP 11 (by decide);obtain ⟨g,p12,hzg,hBg⟩: ∃ g,vs 12= .pointer (some ⟨g,0,none⟩)/\w2.heap.size<=g/\Blk w3 g #[Yv Yi 0,Yv Yi 0] 240:=hP 12 (by decide);obtain ⟨L,hL⟩: ∃ z,z=ZY (ZcG (3,4) (ZY (m1,m2) (m1,m2))) (x1,x2):=⟨_,rfl⟩;rw[p11,p12, ←hL];obtain ⟨l1,l2⟩:=L;have HL:=hid hL;clear hL p11 p12 hP;show wpQuiet _ _ _ _ [] _;apply wpQuiet_nil;apply Zf rfl;intro K hK;obtain ⟨⟨z0,z1⟩,g0,g1⟩:=hBg.two;have hltg:=hBg.lt;go_wp2_with fail;have hK3:Keep (fun q=>q≠g) w3 ((w3.setCell ⟨g,0,none⟩ (Yv Yi l1)).setCell ⟨g,1,none⟩ (Yv Yi l2)):=((Keep.refl _ w3).setCell (fun _ e=>e rfl) _).setCell (fun _ e=>e rfl) _;have hG3:=hSw.keep hK3 fun q hq=>by omega
  have bL:Blk ((w3.setCell ⟨g,0,none⟩ (Yv Yi l1)).setCell ⟨g,1,none⟩ (Yv Yi l2)) g #[Yv Yi l1,Yv Yi l2] 240:=(hBg.set 0 _).set 1 _;refine hK _ _ hG3 ?_;clear hK K;generalize hw4:(w3.setCell ⟨g,0,none⟩ (Yv Yi l1)).setCell ⟨g,1,none⟩ (Yv Yi l2)=w4 at *;clear hw4 hK3 z0 z1 g0 g1 hltg hBg;refine Zk ?_;have v1':=hG3.cell v1;have u0':=hG3.cell t0';have u1':=hG3.cell t1';go_wp2;refine Zg (S:=Grow w4) [([0,1,2,3,4,5],some 6),([7],none)] Zm (by kernel_rfl) (fun _ _ _ _ _ h=>h) (Grow.refl _).drew ?_;show wpQuiet _ _ _ _ [_,_,_,_,_,_] _;repeat (first |(go_big_quiet_want;(first |refine Za ZeP rfl rfl (fun w' hG=>hG.cell v1') ?_|refine Za0 Zaj rfl rfl (fun w' hG=>⟨hG.cell u0',hG.cell u1'⟩) ?_|refine ZA Zaj rfl rfl (fun w' hG=>bL.grow hG) ?_);go_big_quiet_on;simp only[putP])|go_big_quiet_step (exact fun _=>rfl))
  refine wpQuiet_nil ?_;refine Zf rfl (fun K hK=> ?_);go_wp2_with fail;refine (Zq1 (y1,y2) (l1,l2) _).mono ?_;rintro e w5 ⟨rfl,hG5⟩;have hGa:=(Grow.refl w4).drew.trans hG5;have hGz:=(hG12.trans hG3).trans hGa;obtain ⟨c,hc⟩: ∃ z,z=ZaN (y1,y2) (l1,l2):=⟨_,rfl⟩;rw[←hc];have HC:=hid (show ZaN (y1,y2) (ZY (ZcG (3,4) (ZY (m1,m2) (m1,m2))) (x1,x2))=c by rw[←HL.out];exact hc.symm);clear hc;go_wp2_with fail;refine hK _ _ (hGa) ?_;clear hK K;show wpQuiet _ _ _ _ [_] _;try (conv=>arg 6;simp only[putP])
  repeat (first |(go_big_quiet_want;(first |refine Za ZeP rfl rfl (fun w' hG=>hG.cell v1') ?_|refine Za0 Zaj rfl rfl (fun w' hG=>⟨hG.cell u0',hG.cell u1'⟩) ?_|refine ZA Zaj rfl rfl (fun w' hG=>bL.grow hG) ?_);go_big_quiet_on;simp only[putP])|go_big_quiet_step (exact fun _=>rfl))
  refine wpQuiet_nil ?_;refine Zk ?_;by_cases c0:c=0
  ·subst c0;go_wp2
   go_ret2
   exact ⟨by rw[HC.out];rfl,hGz⟩
  ·by_cases c1:c=1
   ·subst c1;go_wp2
    go_ret2
    exact ⟨by rw[HC.out];rfl,hGz⟩
   ·by_cases c2:c=2
    ·subst c2;go_wp2
     go_ret2
     exact ⟨by rw[HC.out];rfl,hGz⟩
    ·have q2:(c==0)=false:=(by simp[c0]);have q3:(c==1)=false:=(by simp[c1]);have q4:(c !=2)=true:=(by simp[c2]);have q5:decide (c=0\/c=1)=false:=(by simp[c0,c1]);have q6:decide (c=2)=false:=(by simp[c2]);go_wp2
     go_ret2
     exact ⟨by rw[HC.out,q5,q6];rfl,hGz⟩
theorem Zmy (B g R C i p:Nat) (t:Int) (aa au ar:Option Addr) (ca cu cr:Nat) (s:SS) (w:World) (h:WkP w B g R C aa au ar ca cu cr false s) (hs:Ss C R s) (hi:i<R) (hp:p<R) (hip:i≠p) (ht: -400000000<=t/\t<=400000000) (hR:R<=24) (hC:C<=24):
  Calls Tryz.prog 114 #[.pointer (some ⟨g,0,none⟩), .agg #[Yv Yi 2,Yv Yi i,Yv Yi p,Yv Yi t]] w fun e w'=>e= .returned (.tuple #[])/\ ∃ b s',WkP w' B g R C aa au ar ca cu cr b s'/\To3 (ZaF C R i p t s) b s'/\Keep (fun q=>blk aa≠some q/\blk au≠some q/\q≠g) w w':=by
 refine (Zgx g R C aa au ar ca cu cr 2 i p t (s.1,s.2.1) (addR s.1 C i p t) (addR s.2.1 R i p t) (Z8 s.1 C i p t) (Z8 s.2.1 R i p t) w h.wk h.th.two h.na h.nu (fun w=>ZbM 2 t i p R w hi hp hR ht (.inr (.inr ⟨rfl,hip⟩)))
  (fun w hw=>Zbq aa _ ca C i p R t s.1 w hw (ZaJ rfl hi) (ZaJ rfl hp) hip hs.hs.na ht (by omega) (by omega) (by omega))
  (fun w hw=>Zbq au _ cu R i p R t s.2.1 w hw (ZaJ rfl hi) (ZaJ rfl hp) hip hs.hs.nu ht (by omega) (by omega) (by omega))).mono ?_
 rintro e w' ⟨rfl,s',h1,h2,h3,h4⟩;refine ⟨rfl,_,(s'.1,s'.2,s.2.2),⟨h1,⟨h2.oa,h2.ou,h.th.ov.keep h4 (fun q hq _=>⟨fun e=>h.th.nav q e hq,fun e=>h.th.nuv q e hq,fun e=>h.nr (by rw[hq,e])⟩),h.th.nau,h.th.nav,h.th.nuv⟩,h.na,h.nu,h.nr,h.la,h.lu,h.lr,h.lg⟩, ?_,h4⟩;unfold To3 ZaF;cases hb:(Z8 s.1 C i p t&&Z8 s.2.1 R i p t) with
 |true=>exact .inl ⟨rfl,by rw[if_pos rfl,h3 hb]⟩
 |false=>exact .inr ⟨rfl,by rw[if_neg (by simp)]⟩
theorem Blk.four {x y z u:Value} {t:TypeId} (h:Blk w g #[x,y,z,u] t):
  w.cell? ⟨g,0,none⟩=some x/\w.cell? ⟨g,1,none⟩=some y/\w.cell? ⟨g,2,none⟩=some z/\w.cell? ⟨g,3,none⟩=some u:=
 ⟨by rw[h.cell];rfl,by rw[h.cell];rfl,by rw[h.cell];rfl,by rw[h.cell];rfl⟩
theorem Zof (B g R C i p:Nat) (aa au ar:Option Addr) (ca cu cr:Nat) (s:SS) (w:World) (h:WkP w B g R C aa au ar ca cu cr false s) (hs:Ss C R s) (hi:i<R) (hp:p<R) (hip:i≠p) (hR:R<=24) (hC:C<=24):
  Calls Tryz.prog 114 #[.pointer (some ⟨g,0,none⟩), .agg #[Yv Yi 0,Yv Yi i,Yv Yi p,Yv Yi 0]] w fun e w'=>e= .returned (.tuple #[])/\WkP w' B g R C aa au ar ca cu cr false (Zc7 C R i p s)/\Keep (fun q=>blk aa≠some q/\blk au≠some q/\q≠g) w w':=by
 refine (ZiE g R C i p aa au ar ca cu cr (s.1,s.2.1) w h.wk h.th.two h.na h.nu hs.hs hi hp hip hR hC).mono ?_;rintro e w' ⟨rfl,h1,h2,h4⟩;exact ⟨rfl,⟨h1,⟨h2.oa,h2.ou,h.th.ov.keep h4 (fun q hq _=>⟨fun e=>h.th.nav q e hq,fun e=>h.th.nuv q e hq,fun e=>h.nr (by rw[hq,e])⟩),h.th.nau,h.th.nav,h.th.nuv⟩,h.na,h.nu,h.nr,h.la,h.lu,h.lr,h.lg⟩,h4⟩
theorem Zlr (B g R C:Nat) (aa au ar:Option Addr) (ca cu cr:Nat) (kd i p t:Int) (s:SS) (fa fv:List Int) (b1 b2:Bool) (w:World) (h:WkP w B g R C aa au ar ca cu cr false s) (hs:Ss C R s) (hR:R<=24) (hC:C<=24)
  (h0: ∀ w,Calls Tryz.prog 149 #[.agg #[Yv Yi kd,Yv Yi i,Yv Yi p,Yv Yi t],Yv Yi C] w fun e w'=>e= .returned (.bool true)/\Grow w w')
  (h1: ∀ (w:World) (a:Option Addr),Own w 3 1 a (C*R) (C*R) (ints (trL s.1 R C))->Calls Tryz.prog 107 #[.agg #[Yv Yi C,Yv Yi R, .slice a (C*R) (C*R)], .agg #[Yv Yi kd,Yv Yi i,Yv Yi p,Yv Yi t]] w fun e w'=> ∃ m',e= .returned (.bool b1)/\Own w' 3 1 a (C*R) (C*R) (ints m')/\Keep (fun q=>blk a≠some q) w w'/\(b1=true->m'=fa))
  (h2: ∀ (w:World) (a:Option Addr),Own w 3 1 a (C*C) (C*C) (ints (trL s.2.2 C C))->Calls Tryz.prog 107 #[.agg #[Yv Yi C,Yv Yi C, .slice a (C*C) (C*C)], .agg #[Yv Yi kd,Yv Yi i,Yv Yi p,Yv Yi t]] w fun e w'=> ∃ m',e= .returned (.bool b2)/\Own w' 3 1 a (C*C) (C*C) (ints m')/\Keep (fun q=>blk a≠some q) w w'/\(b2=true->m'=fv))
  (hfa:b1=true->fa.length=C*R/\NumL fa) (hfv:b2=true->fv.length=C*C/\NumL fv):
  Calls Tryz.prog 146 #[.pointer (some ⟨g,0,none⟩), .agg #[Yv Yi kd,Yv Yi i,Yv Yi p,Yv Yi t]] w fun e w'=>e= .returned (.tuple #[])/\ ∃ s',WkS w' B g R C (!(b1&&b2)) s'/\((b1&&b2)=true->s'=(trL fa C R,s.2.1,trL fv C C))/\Keep (fun q=>q<w.heap.size/\q≠g) w w':=by
 have hRC:R*C<=24*24:=Nat.mul_le_mul hR hC;have hCR:C*R<=24*24:=Nat.mul_le_mul hC hR;have hCC:C*C<=24*24:=Nat.mul_le_mul hC hC;have hGz:=(Grow.refl w).alloc #[Yv Yi kd,Yv Yi i,Yv Yi p,Yv Yi t] 148;have bX:=Blk.new w #[Yv Yi kd,Yv Yi i,Yv Yi p,Yv Yi t] 148;have hgX:g<w.heap.size:=Blk.lt h.wk;have P2:=h.grow hGz;have hBg:=h.lg;have hAlt: ∀ q,blk aa=some q->q<w.heap.size:=fun q hq=>h.th.oa.lt hq;have hUlt: ∀ q,blk au=some q->q<w.heap.size:=fun q hq=>h.th.ou.lt hq;have hRlt: ∀ q,blk ar=some q->q<w.heap.size:=fun q hq=>h.th.ov.lt hq;clear h;generalize hw2:w.alloc (.cells #[Yv Yi kd,Yv Yi i,Yv Yi p,Yv Yi t] 148)=w2 at *;have Hw2:=hid hw2;clear hw2;have wf:=P2.wk.g;go_enter Tryz.func146,Tryz.ntmps146;go_wp2;rw[Hw2.out];refine Zg (S:=Grow w2) [([0,1,2,3,4,5,6,7,8,9,10],some 11),([12,13],none)] Zm (by kernel_rfl) (fun _ _ _ _ _ h=>h) (Grow.refl _).drew ?_;show wpQuiet _ _ _ _ [_,_,_,_,_,_,_,_,_,_,_] _;repeat (first |(go_big_quiet_want;(first |refine Za ZbF rfl rfl (fun w' hG=>hG.cell wf.c9) ?_|refine Za Zv rfl rfl (fun w' hG=>hG.cell wf.c1) ?_|refine Zag (cs:= #[Yv Yi kd,Yv Yi i,Yv Yi p,Yv Yi t]) ZbA rfl rfl (fun w' hG=>bX.grow hG) ?_);go_big_quiet_on;simp only[putP])|go_big_quiet_step (exact fun _=>rfl))
 refine wpQuiet_nil ?_;refine Zf rfl (fun K hK=> ?_);go_wp2_with fail;refine (h0 _).mono ?_;rintro e w3 ⟨rfl,hG3⟩;have hG23:=(Grow.refl w2).drew.trans hG3;go_wp2_with fail;refine hK _ _ (hG23) ?_;clear hK K;show wpQuiet _ _ _ _ [_,_] _;try (conv=>arg 6;simp only[putP])
 repeat (first |(go_big_quiet_want;(first |refine Za ZbF rfl rfl (fun w' hG=>hG.cell wf.c9) ?_|refine Za Zv rfl rfl (fun w' hG=>hG.cell wf.c1) ?_|refine Zag (cs:= #[Yv Yi kd,Yv Yi i,Yv Yi p,Yv Yi t]) ZbA rfl rfl (fun w' hG=>bX.grow hG) ?_);go_big_quiet_on;simp only[putP])|go_big_quiet_step (exact fun _=>rfl))
 refine wpQuiet_nil ?_;refine Zk ?_;have P3:=P2.grow hG23;have bX3:=bX.grow hG23;clear P2 wf;obtain ⟨c0,c1,c2,c6,c7,c8,c9, -, -, -, -, -, -, -⟩:=P3.wk.g;have hg3:g<w3.heap.size:=Blk.lt P3.wk;have rA:=P3.th.oa.rdI (S:=fun _=>True) (fun _ _=>trivial) (Zy hs.na);go_wp2_with fail;refine (Zbr rA hs.la hs.na hR hC).mono ?_;rintro e w4 ⟨ta,rfl,oTa,lTa,hG4⟩;have P4:=P3.grow hG4;have hGa:=(Grow.refl w4).alloc #[Yv Yi (C:Int),Yv Yi (R:Int), .slice ta (C*R) (C*R)] 34;have bTa:=Blk.new w4 #[Yv Yi (C:Int),Yv Yi (R:Int), .slice ta (C*R) (C*R)] 34;have P5:=P4.grow hGa;clear c0 c1 c2 c6 c7 c8 c9;obtain ⟨c0,c1,c2,c6,c7,c8,c9, -, -, -, -, -, -, -⟩:=P5.wk.g;have hg4:g<w4.heap.size:=Blk.lt P4.wk;have rV:=P5.th.ov.rdI (S:=fun _=>True) (fun _ _=>trivial) (Zy hs.nv);go_wp2_with fail;refine (Zbr rV hs.lv hs.nv hC hC).mono ?_;rintro e w6 ⟨tv,rfl,oTv,lTv,hG6⟩;obtain ⟨w7,hw7,hG7,bTv, -⟩:=al1 w6 #[Yv Yi (C:Int),Yv Yi (C:Int), .slice tv (C*C) (C*C)] 34;have hG47:Grow w4 w7:=(hGa.trans hG6).trans hG7;have P7:=(P5.grow hG6).grow hG7;have bX7:=(bX3.grow hG4).grow hG47;have bTa7:=(bTa.grow hG6).grow hG7;have oTa7:=oTa.grow hG47;have oTv7:=oTv.grow hG7;have hs3:w.heap.size<w3.heap.size:=by have:=(bX3).lt;omega
 have hs4:=hG4.size;have hs6:=hG6.size;have hs6':w4.heap.size<w6.heap.size:=by simp at hs6;omega
 have hgT: ∀ q,blk ta=some q->w.heap.size<q:=fun q hq=>by have:=lTa q hq;omega
 have hgV: ∀ q,blk tv=some q->w4.heap.size<q:=fun q hq=>by have:=lTv q hq;simp at this;omega
 have nTV: ∀ q,blk ta=some q->blk tv≠some q:=fun q hq e=>by have:=oTa.lt hq;have:=hgV q e;omega
 have nTaM:blk ta≠some w4.heap.size:=fun e=>by have:=oTa.lt e;omega
 have nTaN:blk ta≠some w6.heap.size:=fun e=>by have:=oTa.lt e;omega
 have nTvM:blk tv≠some w4.heap.size:=fun e=>by have:=hgV _ e;omega
 have nTvN:blk tv≠some w6.heap.size:=fun e=>by have:=oTv.lt e;omega
 have nTaX:blk ta≠some w.heap.size:=fun e=>by have:=hgT _ e;omega
 have nTvX:blk tv≠some w.heap.size:=fun e=>by have:=hgV _ e;omega
 clear c0 c1 c2 c6 c7 c8 c9 P3 P4 P5 bTa bX3 oTa oTv rA rV;obtain ⟨⟨t0,t1,t2⟩, -⟩:=bTa7.three;rw[hw7] at t0 t1 t2;have x0:=bX7.cell 0;have x1:=bX7.cell 1;have x2:=bX7.cell 2;have x3:=bX7.cell 3;simp only[List.getElem?_toArray,List.getElem?_cons_zero,List.getElem?_cons_succ] at x0 x1 x2 x3;rw[hw7] at x0 x1 x2 x3;have hX6:w.heap.size<w6.heap.size:=by omega
 have Hw7:=hid hw7;clear hw7;go_wp2_with fail;rw[←Hw7.out];refine (h1 _ ta oTa7).mono ?_;rintro e w8 ⟨m1,rfl,oA8,hK8,hb1⟩;have hK28:Keep (fun q=>q<=w.heap.size) w8 w8:=Keep.refl _ _;have P8:WkP w8 B g R C aa au ar ca cu cr false s:=⟨P7.wk.keep hK8 (fun e=>by have:=hgT _ e;omega),P7.th.keep hK8 (fun q hq e=>by have:=hgT _ e;have:=hAlt q hq;omega) (fun q hq e=>by have:=hgT _ e;have:=hUlt q hq;omega) (fun q hq e=>by have:=hgT _ e;have:=hRlt q hq;omega),P7.na,P7.nu,P7.nr,P7.la,P7.lu,P7.lr,P7.lg⟩;have hKB8:Keep (fun q=>q<w.heap.size/\q≠g) w w8:=(((((hGz.trans hG23).trans hG4).trans hG47).any).on hK8 (fun q _ hq e=>by have:=hgT _ e;omega));have bX8:=bX7.keep hK8 nTaX;have bTv8:=bTv.keep hK8 nTaN;have bTa8:=bTa7.keep hK8 nTaM;have oTv8:=oTv7.keep hK8 (fun q hq _ e=>nTV q e hq);clear x0 x1 x2 x3 t0 t1 t2 hK28 P7 bX7 bTa7 oTv7 bTv;cases b1 with
 |false=>have wf:=P8.wk.g;obtain ⟨_,_,_,_,_,_,c9,_,_,_,_,_,_,f9⟩:=wf;have hg8:g<w8.heap.size:=Blk.lt P8.wk;go_wp2;exact bodyPost_ret (results_none rfl _ _ _) rfl ⟨rfl,s,⟨aa,au,ar,ca,cu,cr,P8.wk.spoil,P8.th.keep (T:=fun q=>q≠g) ((Keep.refl _ w8).setCell (p:=⟨g,9,none⟩) (fun _ e=>e rfl) _) (fun q hq e=>P8.na (e▸hq)) (fun q hq e=>P8.nu (e▸hq)) (fun q hq e=>P8.nr (e▸hq)),P8.na,P8.nu,P8.nr,P8.la,P8.lu,P8.lr,P8.lg⟩,(fun h=>by cases h),hKB8.setCell (p:=⟨g,9,none⟩) (fun _ e=>by simp only at e;omega) _⟩
 |true=>
  have Hb1:=hid (hb1 rfl);obtain ⟨hfl,hfn⟩:=hfa rfl;obtain rfl:=Hb1.out;clear hb1 Hb1;obtain ⟨⟨t0,t1,t2⟩, -⟩:=bTv8.three;have x0:=bX8.cell 0;have x1:=bX8.cell 1;have x2:=bX8.cell 2;have x3:=bX8.cell 3;simp only[List.getElem?_toArray,List.getElem?_cons_zero,List.getElem?_cons_succ] at x0 x1 x2 x3;have hltV:=bTv8.lt;have hltX:=bX8.lt;go_wp2_with fail;refine (h2 _ tv oTv8).mono ?_;rintro e w9 ⟨m2,rfl,oV9,hK9,hb2⟩;have P9:WkP w9 B g R C aa au ar ca cu cr false s:=⟨P8.wk.keep hK9 (fun e=>by have:=hgV _ e;omega),P8.th.keep hK9 (fun q hq e=>by have:=hgV _ e;have:=hAlt q hq;omega) (fun q hq e=>by have:=hgV _ e;have:=hUlt q hq;omega) (fun q hq e=>by have:=hgV _ e;have:=hRlt q hq;omega),P8.na,P8.nu,P8.nr,P8.la,P8.lu,P8.lr,P8.lg⟩;have hKB9:Keep (fun q=>q<w.heap.size/\q≠g) w w9:=hKB8.on hK9 (fun q _ hq e=>by have:=hgV _ e;omega);have bTv9:=bTv8.keep hK9 nTvN;have bTa9:=bTa8.keep hK9 nTvM;have oA9:=oA8.keep hK9 (fun q hq _ e=>nTV q hq e);clear x0 x1 x2 x3 t0 t1 t2 P8 bX8 bTa8 bTv8 hltV hltX oA8;have hg9:g<w9.heap.size:=Blk.lt P9.wk;cases b2 with
  |false=>have wf:=P9.wk.g;obtain ⟨_,_,_,_,_,_,c9,_,_,_,_,_,_,f9⟩:=wf;go_wp2;exact bodyPost_ret (results_none rfl _ _ _) rfl ⟨rfl,s,⟨aa,au,ar,ca,cu,cr,P9.wk.spoil,P9.th.keep (T:=fun q=>q≠g) ((Keep.refl _ w9).setCell (p:=⟨g,9,none⟩) (fun _ e=>e rfl) _) (fun q hq e=>P9.na (e▸hq)) (fun q hq e=>P9.nu (e▸hq)) (fun q hq e=>P9.nr (e▸hq)),P9.na,P9.nu,P9.nr,P9.la,P9.lu,P9.lr,P9.lg⟩,(fun h=>by cases h),hKB9.setCell (p:=⟨g,9,none⟩) (fun _ e=>by simp only at e;omega) _⟩
  |true=>
   have Hb2:=hid (hb2 rfl);obtain ⟨hvl,hvn⟩:=hfv rfl;obtain rfl:=Hb2.out;clear hb2 Hb2;obtain ⟨⟨t0,t1,t2⟩, -⟩:=bTa9.three;have hltA:=bTa9.lt;go_wp2_with fail;refine (Zbr (oA9.rdI (S:=fun _=>True) (fun _ _=>trivial) (Zy hfn)) hfl hfn hC hR).mono ?_;rintro e w10 ⟨na,rfl,oN,lN,hG10⟩;have P10:=P9.grow hG10;have bTv10:=bTv9.grow hG10;have oV10:=oV9.grow hG10;have hg10:g<w10.heap.size:=Blk.lt P10.wk;have wf:=P10.wk.g;obtain ⟨c0,c1,c2, -, -, -, -,f0,f1,f2, -, -, -, -⟩:=wf;have hs9:=hKB9.size;have nNg:blk na≠some g:=fun e=>(by have:=lN _ e;omega);have hKw:Keep (fun q=>q≠g) w10 (((w10.setCell ⟨g,0,none⟩ (Yv Yi (R:Int))).setCell ⟨g,1,none⟩ (Yv Yi (C:Int))).setCell ⟨g,2,none⟩ (.slice na (R*C) (R*C))):=
    (((Keep.refl _ w10).setCell (p:=⟨g,0,none⟩) (fun _ e=>e rfl) _).setCell (p:=⟨g,1,none⟩) (fun _ e=>e rfl) _).setCell (p:=⟨g,2,none⟩) (fun _ e=>e rfl) _
   have hW11:Wk (((w10.setCell ⟨g,0,none⟩ (Yv Yi (R:Int))).setCell ⟨g,1,none⟩ (Yv Yi (C:Int))).setCell ⟨g,2,none⟩ (.slice na (R*C) (R*C))) g R C na au ar (R*C) cu cr false:=
    ((Blk.set P10.wk 0 (Yv Yi (R:Int))).set 1 (Yv Yi (C:Int))).set 2 (.slice na (R*C) (R*C))
   have nTvg:w6.heap.size≠g:=(by omega);have bTv11:=bTv10.keep hKw nTvg;have oV11:=oV10.keep hKw (fun q hq _ e=>by have:=hgV _ hq;omega);have oN11:=oN.keep hKw (fun q hq _ e=>by have:=lN _ hq;omega);have oU11:=P10.th.ou.keep hKw (fun q hq _ e=>P10.nu (e▸hq));have hKB11:=(hKB9.trans hG10.any).trans (hKw.mono fun q _ hq e=>by omega);clear t0 t1 t2 hltA bTa9 oA9 P9;obtain ⟨⟨t0,t1,t2⟩, -⟩:=bTv10.three;have hltV:=bTv10.lt;have nTvg': ¬ w6.heap.size=g:=nTvg;have nTvg2: ¬ g=w6.heap.size:=fun e=>nTvg e.symm;go_wp2_with fail;clear t0 t1 t2 hltV nTvg' nTvg2 c0 c1 c2 f0 f1 f2;generalize hw11:((w10.setCell ⟨g,0,none⟩ (Yv Yi (R:Int))).setCell ⟨g,1,none⟩ (Yv Yi (C:Int))).setCell ⟨g,2,none⟩ (.slice na (R*C) (R*C))=w11 at *;refine (Zbr (oV11.rdI (S:=fun _=>True) (fun _ _=>trivial) (Zy hvn)) hvl hvn hC hC).mono ?_;rintro e w12 ⟨nv,rfl,oNV,lNV,hG12⟩;have W12:=hW11.grow hG12;have hg12:g<w12.heap.size:=Blk.lt W12;have wf:=W12.g;obtain ⟨-, -, -,c6,c7,c8, -, -, -, -,f6,f7,f8, -⟩:=wf;have hs11:=hKB11.size;have hKw2:Keep (fun q=>q≠g) w12 (((w12.setCell ⟨g,6,none⟩ (Yv Yi (C:Int))).setCell ⟨g,7,none⟩ (Yv Yi (C:Int))).setCell ⟨g,8,none⟩ (.slice nv (C*C) (C*C))):=
    (((Keep.refl _ w12).setCell (p:=⟨g,6,none⟩) (fun _ e=>e rfl) _).setCell (p:=⟨g,7,none⟩) (fun _ e=>e rfl) _).setCell (p:=⟨g,8,none⟩) (fun _ e=>e rfl) _
   have hW13:Wk (((w12.setCell ⟨g,6,none⟩ (Yv Yi (C:Int))).setCell ⟨g,7,none⟩ (Yv Yi (C:Int))).setCell ⟨g,8,none⟩ (.slice nv (C*C) (C*C))) g R C na au nv (R*C) cu (C*C) false:=
    ((Blk.set W12 6 (Yv Yi (C:Int))).set 7 (Yv Yi (C:Int))).set 8 (.slice nv (C*C) (C*C))
   have nNVg:blk nv≠some g:=fun e=>(by have:=lNV _ e;omega);have oN13:=(oN11.grow hG12).keep hKw2 (fun q hq _ e=>nNg (e▸hq));have oU13:=(oU11.grow hG12).keep hKw2 (fun q hq _ e=>P10.nu (e▸hq));have oNV13:=oNV.keep hKw2 (fun q hq _ e=>nNVg (e▸hq));have hKB13:=(hKB11.trans hG12.any).trans (hKw2.mono fun q _ hq e=>by omega);have nnA: ∀ q,blk na=some q->blk au≠some q:=fun q hq e=>(by have:=lN q hq;have:=hUlt q e;omega);have nnV: ∀ q,blk na=some q->blk nv≠some q:=fun q hq e=>(by have:=oN11.lt hq;have:=lNV q e;omega);have nnU: ∀ q,blk au=some q->blk nv≠some q:=fun q hq e=>(by have:=hUlt q hq;have:=lNV q e;omega);clear bTv11 oV11;go_wp2;exact bodyPost_end (results_none rfl _ _ _) rfl ⟨rfl,(trL m1 C R,s.2.1,trL m2 C C),⟨na,au,nv,R*C,cu,C*C,hW13,⟨oN13,oU13,oNV13,nnA,nnV,nnU⟩,nNg,P10.nu,nNVg,(fun q hq=>by have:=lN q hq;omega),P10.lu,(fun q hq=>by have:=lNV q hq;omega),P10.lg⟩,(fun _=>rfl),hKB13⟩
theorem ZnO (B g R C i p:Nat) (t:Int) (s:SS) (w:World) (hW:WkS w B g R C false s) (hs:Ss C R s) (hi:i<C) (hp:p<C) (hip:i≠p) (ht: -400000000<=t/\t<=400000000) (hR:R<=24) (hC:C<=24):
  Calls Tryz.prog 146 #[.pointer (some ⟨g,0,none⟩), .agg #[Yv Yi 2,Yv Yi i,Yv Yi p,Yv Yi t]] w fun e w'=>e= .returned (.tuple #[])/\ ∃ b s',WkS w' B g R C b s'/\To3 (Zbm C R i p t s) b s'/\Keep (fun q=>q<w.heap.size/\q≠g) w w':=by
 obtain ⟨aa,au,ar,ca,cu,cr,h⟩:=hW;have hna:=Zdh (R:=R) (C:=C) hs.na;have hnv:=Zdh (R:=C) (C:=C) hs.nv
 refine (Zlr B g R C aa au ar ca cu cr 2 i p t s (addR (trL s.1 R C) R i p t) (addR (trL s.2.2 C C) C i p t) (Z8 (trL s.1 R C) R i p t) (Z8 (trL s.2.2 C C) C i p t) w h hs hR hC (fun w=>ZbM 2 t i p C w hi hp hC ht (.inr (.inr ⟨rfl,hip⟩)))
  (fun w a hw=>Zbq a _ _ R i p C t _ w hw (ZaJ rfl hi) (ZaJ rfl hp) hip hna ht (by omega) (by omega) (by omega))
  (fun w a hw=>Zbq a _ _ C i p C t _ w hw (ZaJ rfl hi) (ZaJ rfl hp) hip hnv ht (by omega) (by omega) (by omega))
  (fun h1=>⟨by simp[addR,ZL,ZaP],Zcw hna h1⟩) (fun h1=>⟨by simp[addR,ZL,ZaP],Zcw hnv h1⟩)).mono ?_
 rintro e w' ⟨rfl,s',h1,h2,h3⟩;rw[Zf7 hi hp,Zf7 hi hp] at h1 h2;rw[ZhL hi hp,ZhL hi hp] at h2;refine ⟨rfl,_,s',h1, ?_,h3⟩;unfold To3 Zbm;cases hb:(Zbh s.1 C R i p t&&Zbh s.2.2 C C i p t) with
 |true=>exact .inl ⟨rfl,by rw[if_pos rfl,h2 hb]⟩
 |false=>exact .inr ⟨rfl,by rw[if_neg (by simp)]⟩
theorem Zoh (B g R C i p:Nat) (s:SS) (w:World) (hW:WkS w B g R C false s) (hs:Ss C R s) (hi:i<C) (hp:p<C) (hip:i≠p) (hR:R<=24) (hC:C<=24):
  Calls Tryz.prog 146 #[.pointer (some ⟨g,0,none⟩), .agg #[Yv Yi 0,Yv Yi i,Yv Yi p,Yv Yi 0]] w fun e w'=>e= .returned (.tuple #[])/\WkS w' B g R C false (ZiA C R i p s)/\Keep (fun q=>q<w.heap.size/\q≠g) w w':=by
 obtain ⟨aa,au,ar,ca,cu,cr,h⟩:=hW;have hna:=Zdh (R:=R) (C:=C) hs.na;have hnv:=Zdh (R:=C) (C:=C) hs.nv
 refine (Zlr B g R C aa au ar ca cu cr 0 i p 0 s (swR (trL s.1 R C) R i p) (swR (trL s.2.2 C C) C i p) true true w h hs hR hC (fun w=>ZbM 0 0 i p C w hi hp hC (by omega) (.inl ⟨rfl,hip,rfl⟩))
  (fun w a hw=>(Zbu a _ _ R i p C 0 _ w hw (ZaP _ _ _) hi hp hip (by omega) (by omega) (by omega)).mono fun e w' ⟨h1,h2,h3⟩=>⟨_,h1,h2,h3,fun _=>rfl⟩)
  (fun w a hw=>(Zbu a _ _ C i p C 0 _ w hw (ZaP _ _ _) hi hp hip (by omega) (by omega) (by omega)).mono fun e w' ⟨h1,h2,h3⟩=>⟨_,h1,h2,h3,fun _=>rfl⟩)
  (fun _=>⟨by simp[swR,Zbe,ZaP],Zb4 hna _⟩) (fun _=>⟨by simp[swR,Zbe,ZaP],Zb4 hnv _⟩)).mono ?_
 rintro e w' ⟨rfl,s',h1,h2,h3⟩;have e1:=h2 rfl;rw[Zi3 hi hp hip,Zi3 hi hp hip] at e1;subst e1;exact ⟨rfl,h1,h3⟩
theorem Zny (B g n k j:Nat) (t:Int) (aa au ar:Option Addr) (ca cu cr:Nat) (S:SS) (w:World) (h:WkP w B g n n aa au ar ca cu cr false S) (hs:Ss n n S) (hk:k<n) (hj:j<n) (hkj:k≠j) (ht: -400000000<=t/\t<=400000000) (hn:n<=24):
  Calls Tryz.prog 217 #[.pointer (some ⟨g,0,none⟩), .agg #[Yv Yi 2,Yv Yi k,Yv Yi j,Yv Yi t]] w fun e w'=>e= .returned (.tuple #[])/\ ∃ b S',WkS w' B g n n b S'/\To3 (ZeM n k j t S) b S'/\Keep (fun q=>q<w.heap.size/\blk aa≠some q/\blk au≠some q/\q≠g) w w':=by
 have hGz:=(Grow.refl w).alloc #[Yv Yi 2,Yv Yi k,Yv Yi j,Yv Yi t] 148;have bX:=Blk.new w #[Yv Yi 2,Yv Yi k,Yv Yi j,Yv Yi t] 148;have hgX:g<w.heap.size:=Blk.lt h.wk;have hAlt: ∀ q,blk aa=some q->q<w.heap.size:=fun q hq=>h.th.oa.lt hq;have hUlt: ∀ q,blk au=some q->q<w.heap.size:=fun q hq=>h.th.ou.lt hq;have hlg:=h.lg;have P2:=h.grow hGz;have hla:=h.la;have hlu:=h.lu;clear h;have hltX:=bX.lt;obtain ⟨x0,x1,x2,x3⟩:=bX.four;go_enter Tryz.func217,Tryz.ntmps217;go_wp2_with fail;clear x0 x1 x2 x3 hltX;refine (Zmy B g n n k j t aa au ar ca cu cr S _ P2 hs hk hj hkj ht hn hn).mono ?_;rintro e w1 ⟨rfl,b,S1,P1,hT,hK1⟩;have bX1:=bX.keep hK1 ⟨fun e=>by have:=hAlt _ e;omega,fun e=>by have:=hUlt _ e;omega,by omega⟩;have hKB:Keep (fun q=>q<w.heap.size/\blk aa≠some q/\blk au≠some q/\q≠g) w w1:=(hGz.any.mono fun _ _ _=>trivial).trans (hK1.mono fun q _ (hq:q<w.heap.size/\blk aa≠some q/\blk au≠some q/\q≠g)=>hq.2);have hsz:=hKB.size;obtain ⟨x0,x1,x2,x3⟩:=bX1.four;have hltX:=bX1.lt;obtain ⟨c0,c1,c2,c6,c7,c8,c9, -, -, -, -, -, -, -⟩:=P1.wk.g;have hg1:g<w1.heap.size:=Blk.lt P1.wk;clear c0 c1 c2 c6 c7 c8 P2 bX bX1 hK1 hGz;cases b with
 |true=>
  have hN:ZeM n k j t S=none:=by
   unfold ZeM;rcases hT with ⟨h, -⟩|⟨-,h⟩
   ·cases h
   ·rw[h];rfl
  go_wp2;exact bodyPost_end (results_none rfl _ _ _) rfl ⟨rfl,true,S1,P1.s, .inr ⟨rfl,hN⟩,hKB⟩
 |false=>
  have hN:ZaF n n k j t S=some S1:=by
   rcases hT with ⟨-,h⟩|⟨h, -⟩
   ·exact h
   ·cases h
  have hs1:Ss n n S1:=(ZdR hs hN).1;go_wp2_with fail;refine (ZnO B g n n k j t S1 _ P1.s hs1 hk hj hkj ht hn hn).mono ?_;rintro e w2 ⟨rfl,b,S2,W2,hT2,hK2⟩;go_wp2;refine bodyPost_end (results_none rfl _ _ _) rfl ⟨rfl,b,S2,W2, ?_,hKB.trans (hK2.mono fun q _ hq=>⟨by omega,hq.2.2.2⟩)⟩;unfold ZeM;rw[hN,Option.bind_some];exact hT2
theorem ZoB (B g n k j:Nat) (aa au ar:Option Addr) (ca cu cr:Nat) (S:SS) (w:World) (h:WkP w B g n n aa au ar ca cu cr false S) (hs:Ss n n S) (hk:k<n) (hj:j<n) (hkj:k≠j) (hn:n<=24):
  Calls Tryz.prog 217 #[.pointer (some ⟨g,0,none⟩), .agg #[Yv Yi 0,Yv Yi k,Yv Yi j,Yv Yi 0]] w fun e w'=>e= .returned (.tuple #[])/\WkS w' B g n n false (Zjb n k j S)/\Keep (fun q=>q<w.heap.size/\blk aa≠some q/\blk au≠some q/\q≠g) w w':=by
 have hGz:=(Grow.refl w).alloc #[Yv Yi 0,Yv Yi k,Yv Yi j,Yv Yi 0] 148;have bX:=Blk.new w #[Yv Yi 0,Yv Yi k,Yv Yi j,Yv Yi 0] 148;have hgX:g<w.heap.size:=Blk.lt h.wk;have hAlt: ∀ q,blk aa=some q->q<w.heap.size:=fun q hq=>h.th.oa.lt hq;have hUlt: ∀ q,blk au=some q->q<w.heap.size:=fun q hq=>h.th.ou.lt hq;have hlg:=h.lg;have P2:=h.grow hGz;have hla:=h.la;have hlu:=h.lu;clear h;have hltX:=bX.lt;obtain ⟨x0,x1,x2,x3⟩:=bX.four;go_enter Tryz.func217,Tryz.ntmps217;go_wp2_with fail;clear x0 x1 x2 x3 hltX;refine (Zof B g n n k j aa au ar ca cu cr S _ P2 hs hk hj hkj hn hn).mono ?_;rintro e w1 ⟨rfl,P1,hK1⟩;have bX1:=bX.keep hK1 ⟨fun e=>by have:=hAlt _ e;omega,fun e=>by have:=hUlt _ e;omega,by omega⟩;have hKB:Keep (fun q=>q<w.heap.size/\blk aa≠some q/\blk au≠some q/\q≠g) w w1:=(hGz.any.mono fun _ _ _=>trivial).trans (hK1.mono fun q _ (hq:q<w.heap.size/\blk aa≠some q/\blk au≠some q/\q≠g)=>hq.2);have hsz:=hKB.size;obtain ⟨x0,x1,x2,x3⟩:=bX1.four;have hltX:=bX1.lt;obtain ⟨c0,c1,c2,c6,c7,c8,c9, -, -, -, -, -, -, -⟩:=P1.wk.g;have hg1:g<w1.heap.size:=Blk.lt P1.wk;clear c0 c1 c2 c6 c7 c8 P2 bX bX1 hK1 hGz;go_wp2_with fail;refine (Zoh B g n n k j (Zc7 n n k j S) _ P1.s (ZfR hs) hk hj hkj hn hn).mono ?_;rintro e w2 ⟨rfl,W2,hK2⟩;go_wp2;exact bodyPost_end (results_none rfl _ _ _) rfl ⟨rfl,W2,hKB.trans (hK2.mono fun q _ hq=>⟨by omega,hq.2.2.2⟩)⟩
theorem AcM.grow {w':World} {v:Value} {o:List (List Rt)×List Rt} (h:AcM w S v o) (k:Grow w w'):AcM w' S v o:=by
 obtain ⟨ma,mn,mc,sa,sn,sc,rfl,a,b⟩:=h;exact ⟨_,_,_,_,_,_,rfl,a.grow k,b.grow k⟩
theorem WkP.beside {B R C kb:Nat} {aa au ar:Option Addr} {ca cu cr:Nat} {b:Bool} {s:SS} (h:WkP w B g R C aa au ar ca cu cr b s) (hkg:kb≠g) (hka:blk aa≠some kb) (hku:blk au≠some kb) (hkr:blk ar≠some kb) (v:Value):WkP (w.setCell ⟨kb,0,none⟩ v) B g R C aa au ar ca cu cr b s:=
 have k:Keep (fun q=>q≠kb) w (w.setCell ⟨kb,0,none⟩ v):=(Keep.refl _ w).setCell (fun _ e=>e rfl) _
 ⟨h.wk.keep k (fun e=>hkg e.symm),h.th.keep k (fun _ hq e=>hka (e▸hq)) (fun _ hq e=>hku (e▸hq)) (fun _ hq e=>hkr (e▸hq)),h.na,h.nu,h.nr,h.la,h.lu,h.lr,h.lg⟩
theorem ZqS (a b:Rt):ZaN a b= -1\/ZaN a b=0\/ZaN a b=1\/ZaN a b=2:=by
 unfold ZaN;split
 ·split
  ·simp
  ·split<;>simp
 ·simp
theorem ZrH {T:Nat->Prop} (B g n k kb:Nat) (aa au ar:Option Addr) (ca cu cr:Nat) (S:SS) (v:Value) (o:List (List Rt)×List Rt) (w:World) (h:WkP w B g n n aa au ar ca cu cr false S) (hs:Ss n n S) (ho:AcM w T v o) (h1:o.1.length=n) (h2:o.2.length=n) (h3: ∀ (j:Nat) (row:List Rt),o.1[j]? =some row->row.length=j)
  (hk:1<=k) (hkn:k<n) (hn:n<=24) (hb:Blk w kb #[Yv Yi (k:Int)] 3) (hBk:B<=kb) (hkg:kb≠g) (hka:blk aa≠some kb) (hku:blk au≠some kb) (hkr:blk ar≠some kb):
  Calls Tryz.prog 197 #[.pointer (some ⟨g,0,none⟩),v, .pointer (some ⟨kb,0,none⟩)] w fun e w'=>e= .returned (.bool (Zbv n k o S).isSome)/\(∀ r,Zbv n k o S=some r->WkS w' B g n n false r.1/\Blk w' kb #[Yv Yi (r.2:Int)] 3)/\Keep (fun q=>q<B) w w':=by
 have hAc:=ho;obtain ⟨ma,mn,mc,sa,sn,sc,rfl,hM,hS⟩:=ho;obtain rfl:n=mn:=by have:=hM.len;omega
 have hG1:Grow w (w.alloc (.cells #[.slice ma n mc, .slice sa sn sc] 221)):=(Grow.refl w).alloc _ _;have bO:Blk (w.alloc (.cells #[.slice ma n mc, .slice sa sn sc] 221)) w.heap.size #[.slice ma n mc, .slice sa sn sc] 221:=Blk.new _ _ _;have hlg:=h.lg;have P1:=h.grow hG1;have hb1:=hb.grow hG1;have hM1:=hM.grow hG1;have hA1:=hAc;have hrl:(o.1.getD k []).length=k:=by
  have hlt:k<o.1.length:=by omega
  have e:o.1[k]? =some o.1[k]:=List.getElem?_eq_getElem hlt;rw[List.getD_eq_getElem?_getD,e];exact h3 _ _ e
 have k0:(w.alloc (.cells #[.slice ma n mc, .slice sa sn sc] 221)).cell? ⟨kb,0,none⟩=some (Yv Yi (k:Int)):=by rw[hb1.cell];rfl
 have hltk:=hb1.lt;obtain ⟨j0,hj0⟩: ∃ j,j+1=k:=⟨k-1,by omega⟩;have q1:((k:Int))-1=j0:=by omega
 go_enter Tryz.func197,Tryz.ntmps197;go_wp2_with fail;clear k0 hltk;generalize hw1:w.alloc (.cells #[.slice ma n mc, .slice sa sn sc] 221)=w1 at *;have Hw1:=hid hw1;have Hk:=hid hj0;clear hw1 hj0;go_loopw [7] (fun jv wr=>Grow w1 wr/\ ∃ jj:Nat,jj<=k/\jv=Yv Yi ((jj:Int)-1)/\ZgA (o.1.getD k []) k=ZgA (o.1.getD k []) jj) (fun jv _=>(intOf jv+1).toNat);case atStart=>exact ⟨Grow.refl _,k,Nat.le_refl _,by rw[q1],rfl⟩
 case round=>
  obtain ⟨hGr,jj,hjj,rfl,hF⟩:=hrel;have HF:=hid hF;clear hF;have Pr:=P1.grow hGr;have hbr:=hb1.grow hGr;have k0:wr.cell? ⟨kb,0,none⟩=some (Yv Yi (k:Int)):=by rw[hbr.cell];rfl
  have hltk:=hbr.lt;have bOr:=bO.grow hGr;obtain ⟨⟨o0,o1⟩, -⟩:=bOr.two;have hltO:=bOr.lt;cases jj with
  |zero=>
   have hAr:AcM wr T (.agg #[.slice ma n mc, .slice sa sn sc]) o:=⟨ma,n,mc,sa,sn,sc,rfl,hM1.grow hGr,(hS.grow hG1).grow hGr⟩;go_wp2_with fail;clear o0 o1 hltO;refine Zg (S:=Grow wr) [([0,1,2,3],some 4),([5,6,7,8,9],none)] Zm (by kernel_rfl) (fun _ _ _ _ _ h=>h) (Grow.refl _).drew ?_;show wpQuiet _ _ _ _ [_,_,_,_] _;(repeat (first |(go_big_quiet_want;(first |refine ZA Zhh rfl rfl (fun w' hG=>bOr.grow hG) ?_|refine Za Zv rfl rfl (fun w' hG=>hG.cell k0) ?_);go_big_quiet_on;simp only[putP])|go_big_quiet_step (exact fun _=>rfl)));refine wpQuiet_nil ?_;refine Zf rfl (fun K hK=> ?_);go_wp2_with fail;refine (Zn2 _ o k n _ (hAr.grow (Grow.refl wr).drew) h1 h2 h3 hk hkn hn).mono ?_;rintro e w2 ⟨rfl,hG2⟩;have hGa:=(Grow.refl wr).drew.trans hG2;have hGt:Grow w w2:=(hG1.trans hGr).trans hGa;have hcv:=ZqS (rAt o.2 k) (Zct o k);have HS:=hid (show Zbv n k o S=(if ZaN (rAt o.2 k) (Zct o k)=2 then none else if ZaN (rAt o.2 k) (Zct o k)= -1 then some (Zjb n k (k-1) S,max 1 (k-1)) else some (S,k+1)) by unfold Zbv;rw[HF.out];rfl);generalize ZaN (rAt o.2 k) (Zct o k)=c at *;clear HF k0 hltk;go_wp2_with fail;refine hK _ _ (hGa) ?_;clear hK K;show wpQuiet _ _ _ _ [_,_,_,_,_] _;(try (conv=>arg 6;simp only[putP]));(repeat (first |(go_big_quiet_want;(first |refine ZA Zhh rfl rfl (fun w' hG=>bOr.grow hG) ?_|refine Za Zv rfl rfl (fun w' hG=>hG.cell k0) ?_);go_big_quiet_on;simp only[putP])|go_big_quiet_step (exact fun _=>rfl)));refine wpQuiet_nil ?_;refine Zk ?_;have P2:=Pr.grow hGa;have hb2:=hbr.grow hGa;have k0:w2.cell? ⟨kb,0,none⟩=some (Yv Yi (k:Int)):=(by rw[hb2.cell];rfl);have f0:=hb2.free 0;have hltk:=hb2.lt;have hs2:=hGt.size;have hBw:=hb.lt;have hcase: ∀ u:Value,Keep (fun q=>q<B) w (w2.setCell ⟨kb,0,none⟩ u):=fun u=>(hGt.any.mono fun _ _ _=>trivial).setCell (p:=⟨kb,0,none⟩) (fun _ (e:kb<B)=>by omega) _;rcases hcv with rfl|rfl|rfl|rfl
   ·have HN:=hid (show Zbv n k o S=some (Zjb n k (k-1) S,max 1 (k-1)) from HS.out);go_wp2;refine Zaq (S:=(Grow w2)) (last:=9) [([0,1,2,3,4,5,6,7],some 8),([],some 9)] Zm (by kernel_rfl) (fun _ _ _ _ _ h=>h) (Grow.refl _).drew ?_;show wpQuiet _ _ _ _ [_,_,_,_,_,_,_,_] _;(repeat (first |(go_big_quiet_want;refine Za Zv rfl rfl (fun w' hG=>hG.cell k0) ?_;go_big_quiet_on;simp only[putP])|go_big_quiet_step (exact fun _=>rfl)));refine wpQuiet_nil ?_;refine ZT rfl (fun K hK=> ?_);go_wp2_with fail;refine hK _ _ ((fun _=>(Grow.refl w2).drew)) ?_;clear hK K;refine wpQuiet_nil ?_;refine ZT rfl (fun K hK=> ?_);go_wp2_with fail;have hkj:k-1=j0:=(by have:=Hk.out;omega);rw[hkj] at HN;refine (ZoB B g n k j0 aa au ar ca cu cr S _ (P2.grow (Grow.refl w2).drew) hs hkn (by omega) (by omega) hn).mono ?_;rintro e w3 ⟨rfl,W3,hK3⟩;have hb3:=(hb2.grow (Grow.refl w2).drew).keep hK3 ⟨(hb2.grow (Grow.refl w2).drew).lt,hka,hku,hkg⟩;have W3':=W3;have hKB:Keep (fun q=>q<B) w w3:=((hGt.drew).any.mono fun _ _ _=>trivial).trans (hK3.mono fun q _ (hq:q<B)=>⟨by show q<w2.drew.heap.size;simp;omega,fun e=>by have:=h.la q e;omega,fun e=>by have:=h.lu q e;omega,by omega⟩);go_wp2_with fail;refine hK _ _ ((fun h=>(h rfl).elim)) ?_;clear hK K;refine Zbb ?_;obtain ⟨aa',au',ar',ca',cu',cr',P3⟩:=W3;have hnn:2<=n*n:=Nat.le_trans (by omega) (Nat.mul_le_mul (show 1<=n by omega) (show 2<=n by omega));have one: ∀ (a:Option Addr) (c:Nat) (l:List Int),Own w3 3 1 a (n*n) c (ints l)->blk a≠some kb:=fun a c l hO e=>by
     obtain ⟨q,rfl⟩: ∃ q,a=some q:=by cases a with
      |none=>cases e
      |some q=>exact ⟨q,rfl⟩
     obtain ⟨off,cur,k1,k2,k3⟩:=hO.block _ rfl;rw[show q.block=kb from Option.some.inj e] at k1;have k4:=hb3.symm.trans k1;simp only[Option.some.injEq,Obj.cells.injEq] at k4;have k5:=hO.le;rw[←k4.1] at k2;simp at k2;omega
    have P4:=fun u=>P3.beside hkg (one _ _ _ P3.th.oa) (one _ _ _ P3.th.ou) (one _ _ _ P3.th.ov) u;have hmx:((max 1 j0:Nat):Int)=max 1 (j0:Int):=(by omega);have k0':w3.cell? ⟨kb,0,none⟩=some (Yv Yi (k:Int)):=(by rw[hb3.cell];rfl);have f3:=hb3.free 0;have hlt3:=hb3.lt;clear k0 f0 hltk;have P5:=(P4 (Yv Yi j0)).wk.g.c9;have P6:=(P4 (Yv Yi 1)).wk.g.c9;have hlg3:=P3.lg;have hg3:g<w3.heap.size:=Blk.lt P3.wk;rcases Nat.lt_or_ge 1 j0 with hz|hz
    ·go_wp2;go_ret;refine ⟨by rw[HN.out];rfl,fun r hr=> ?_,hKB.setCell (p:=⟨kb,0,none⟩) (fun _ (e:kb<B)=>by omega) _⟩;rw[HN.out] at hr;obtain rfl:=Option.some.inj hr;exact ⟨(P4 _).s,by show Blk _ kb #[Yv Yi ((max 1 j0:Nat):Int)] _;rw[show max 1 j0=j0 by omega];exact hb3.set 0 _⟩
    ·go_wp2;go_ret;refine ⟨by rw[HN.out];rfl,fun r hr=> ?_,hKB.setCell (p:=⟨kb,0,none⟩) (fun _ (e:kb<B)=>by omega) _⟩;rw[HN.out] at hr;obtain rfl:=Option.some.inj hr;exact ⟨(P4 _).s,by show Blk _ kb #[Yv Yi ((max 1 j0:Nat):Int)] _;rw[show max 1 j0=1 by omega];exact hb3.set 0 _⟩
   ·have HN:=hid (show Zbv n k o S=some (S,k+1) from HS.out);go_wp2;go_ret;refine ⟨by rw[HN.out];rfl, ?_,hcase _⟩;intro r hr;rw[HN.out] at hr;obtain rfl:=Option.some.inj hr;exact ⟨(P2.beside hkg hka hku hkr _).s,hb2.set 0 _⟩
   ·have HN:=hid (show Zbv n k o S=some (S,k+1) from HS.out);go_wp2;go_ret;refine ⟨by rw[HN.out];rfl, ?_,hcase _⟩;intro r hr;rw[HN.out] at hr;obtain rfl:=Option.some.inj hr;exact ⟨(P2.beside hkg hka hku hkr _).s,hb2.set 0 _⟩
   ·have HN:=hid (show Zbv n k o S=none from HS.out);go_wp2;go_ret;exact ⟨by rw[HN.out];rfl,(by intros;rename_i hr;rw[HN.out] at hr;cases hr),hGt.any.mono fun _ _ _=>trivial⟩
  |succ j=>
   have q2:(((j+1:Nat):Int))-1=j:=(by omega);rw[q2];have hjk:j<k:=(by omega);obtain ⟨b,off,b2,o2,c2,rfl,hb',u0,hb2,u1,u2⟩:=(hM1.grow hGr).pair (j:=k) (k:=j) hkn (by omega);rw[hrl] at u0;have HS:=hid (show ZgA (o.1.getD k []) k=if isR (rAt (o.1.getD k []) j) then (if ZbU (rAt (o.1.getD k []) j)=0 then ZgA (o.1.getD k []) j else some (some (j,ZbU (rAt (o.1.getD k []) j)))) else none from HF.out);have hrn:=Zry (rAt (o.1.getD k []) j);clear HF;generalize rAt (o.1.getD k []) j=rj at *;obtain ⟨r1,r2⟩:=rj;simp only at u1 u2;go_wp2_with fail;go_region;obtain ⟨w2,hw2⟩: ∃ z,z=(wr.alloc (.cells #[Yv Yi r1,Yv Yi r2] 240)).drew:=⟨_,rfl⟩;have hG2:Grow wr w2:=(by rw[hw2];exact ((Grow.refl _).alloc _ _).drew);have bR:Blk w2 wr.heap.size #[Yv Yi r1,Yv Yi r2] 240:=(by rw[hw2];exact (Blk.new wr _ _).grow (Grow.refl _).drew);rw[←hw2];clear hw2 k0 hltk o0 o1 hltO u0 u1 u2;obtain ⟨⟨m0,m1⟩, -⟩:=bR.two;have hltR:=bR.lt;go_wp2_with fail;refine (Za7 (r1,r2) _).mono ?_;rintro e w3 ⟨rfl,hG3⟩;have bR3:=bR.grow hG3;have hGt:Grow w w3:=((hG1.trans hGr).trans hG2).trans hG3;clear m0 m1 hltR;cases hq:isR (r1,r2) with
   |false=>have HN:=hid (show Zbv n k o S=none by unfold Zbv;rw[HS.out,hq];rfl);clear hq;go_wp2;go_ret;exact ⟨by rw[HN.out];rfl,fun r hr=>(by rw[HN.out] at hr;cases hr),hGt.any.mono fun _ _ _=>trivial⟩
   |true=>
    obtain ⟨⟨n0,n1⟩, -⟩:=bR3.two;have hltR:=bR3.lt;go_wp2_with fail;refine (Zq8 (r1,r2) _).mono ?_;rintro e w4 ⟨rfl,hG4⟩;have hG14:Grow wr w4:=(hG2.trans hG3).trans hG4;clear n0 n1 hltR;by_cases hz:ZbU (r1,r2)=0
    ·have hF':ZgA (o.1.getD k []) k=ZgA (o.1.getD k []) j:=(by rw[HS.out,hq,if_pos rfl,if_pos hz]);have HF':=hid hF';clear hF' hq;go_wp2;go_roundw;case rel=>exact ⟨hGr.trans hG14,j,by omega,rfl,HF'.out⟩
     case measure=>simp[intOf]
    ·have HR:=hid (show Zbv n k o S=(ZeM n k j (-ZbU (r1,r2)) S).map fun S'=>(S',k) by unfold Zbv;rw[HS.out,hq,if_pos rfl,if_neg hz];rfl);have Pr4:=Pr.grow hG14;have hbr4:=hbr.grow hG14;have hG4t:Grow w w4:=hGt.trans hG4;have k0:w4.cell? ⟨kb,0,none⟩=some (Yv Yi (k:Int)):=(by rw[hbr4.cell];rfl);have hltk:=hbr4.lt;clear hq HS;generalize ZbU (r1,r2)=t at *;have q3:(t !=0)=true:=(by simp[hz]);have q4:IntKind.i64.wrap (-t)= -t:=IntWalk.i64_in _ (by omega);go_wp2_with fail;refine (Zny B g n k j (-t) aa au ar ca cu cr S _ Pr4 hs hkn (by omega) (by omega) (by omega) hn).mono ?_;rintro e w5 ⟨rfl,b,S',hW5,hT,hK5⟩;have hW5':=hW5;obtain ⟨aa',au',ar',ca',cu',cr',P5⟩:=hW5;obtain ⟨c0,c1,c2,c6,c7,c8,c9, -, -, -, -, -, -, -⟩:=P5.wk.g;have hg5:g<w5.heap.size:=Blk.lt P5.wk;clear c0 c1 c2 c6 c7 c8;have hb5:=hbr4.keep hK5 ⟨hltk,hka,hku,hkg⟩;have hBw:=hb.lt;have hsz:=hG4t.size;have hKB:Keep (fun q=>q<B) w w5:=(hG4t.any.mono fun _ _ _=>trivial).trans (hK5.mono fun q _ (hq:q<B)=>⟨by omega,fun e=>by have:=h.la q e;omega,fun e=>by have:=h.lu q e;omega,by omega⟩);cases b with
     |true=>
      have HN:=hid (show Zbv n k o S=none by
       rw[HR.out];rcases hT with ⟨e, -⟩|⟨-,e⟩
       ·cases e
       ·rw[e];rfl)
      clear hT;go_wp2;go_ret;exact ⟨by rw[HN.out];rfl,fun r hr=>(by rw[HN.out] at hr;cases hr),hKB⟩
     |false=>
      have HN:=hid (show Zbv n k o S=some (S',k) by
       rw[HR.out];rcases hT with ⟨-,e⟩|⟨e, -⟩
       ·rw[e];rfl
       ·cases e)
      clear hT;go_wp2;go_ret;refine ⟨by rw[HN.out];rfl,fun r hr=> ?_,hKB⟩;rw[HN.out] at hr;obtain rfl:=Option.some.inj hr;exact ⟨hW5',hb5⟩

end Go.Proofs.YtjpcgofidijigaaGreatDoor
