/- The program's TransposeOf. -/
import Derived.Test.YtjpcgofidijigaaGreatDoorZSmith
import Derived.Test.YtjpcgofidijigaaGreatDoorZHermY
import Derived.Test.YtjpcgofidijigaaGreatDoorZSmithR
set_option maxHeartbeats 8000000
set_option maxRecDepth 100000
namespace Go.Proofs.YtjpcgofidijigaaGreatDoor
open Go.RowKit
open Lib (hid)
open Go.Value renaming int->Yv
open Go.IntKind renaming i64->Yi
variable {B C R c ca cr cu i j:Nat} {aa ar au:Option Addr} {b:Bool} {m:List Int} {w:World}
def trP (m:List Int) (R C i j:Nat):List Int:=tab C R fun c r=>if r<i\/(r=i/\c<j) then cell m C r c else 0
theorem ZdP (m:List Int) (R C i j:Nat):(trP m R C i j).length=C*R:=ZcL _ _ _
theorem ZdJ {r:Nat} (hr:r<R) (hc:c<C):cell (trP m R C i j) R c r=if r<i\/(r=i/\c<j) then cell m C r c else 0:=Zdd hc hr
theorem Zp2 (m:List Int) (R C:Nat):trP m R C 0 0=List.replicate (C*R) 0:=
 Zda (ZdP _ _ _ _ _) (by simp) fun c r hc hr=>by rw[ZdJ hr hc,if_neg (by omega)];unfold cell;simp[List.getD_eq_getElem?_getD,List.getElem?_replicate];split<;>rfl
theorem Zrn (hi:i<R) (hj:j<C):(trP m R C i j).set (j*R+i) (cell m C i j)=trP m R C i (j+1):=
 Zda (by rw[List.length_set,ZdP]) (ZdP _ _ _ _ _) fun c r hc hr=>by
  rw[Zqg (ZdP _ _ _ _ _) hj hi hr,ZdJ hr hc,ZdJ hr hc];by_cases e:c=j/\r=i
  ·obtain ⟨rfl,rfl⟩:=e;rw[if_pos ⟨rfl,rfl⟩,if_pos (.inr ⟨rfl,by omega⟩)]
  ·rw[if_neg e];by_cases e2:r<i\/(r=i/\c<j)
   ·rw[if_pos e2,if_pos (by omega)]
   ·rw[if_neg e2,if_neg (by omega)]
theorem Zra (m:List Int) (R C i:Nat):trP m R C i C=trP m R C (i+1) 0:=
 Zda (ZdP _ _ _ _ _) (ZdP _ _ _ _ _) fun c r hc hr=>by
  rw[ZdJ hr hc,ZdJ hr hc];by_cases e2:r<i\/(r=i/\c<C)
  ·rw[if_pos e2,if_pos (by omega)]
  ·rw[if_neg e2,if_neg (by omega)]
theorem Zrz (m:List Int) (R C:Nat):trP m R C R 0=trL m R C:=
 Zda (ZdP _ _ _ _ _) (ZaP _ _ _) fun c r hc hr=>by rw[ZdJ hr hc,if_pos (.inl hr),Zbd hr hc]
theorem Zbr {S:Nat->Prop} {a:Option Addr} {n:Nat} (h:RdI w S a n c m) (hl:m.length=R*C) (hnum:NumL m) (hR:R<=24) (hC:C<=24):
  Calls Tryz.prog 136 #[.agg #[Yv Yi R,Yv Yi C, .slice a n c]] w fun e w'=> ∃ oa,e= .returned (.tuple #[.agg #[Yv Yi C,Yv Yi R, .slice oa (C*R) (C*R)], .bool true])/\Own w' 3 1 oa (C*R) (C*R) (ints (trL m R C))/\(∀ q,blk oa=some q->w.heap.size<=q)/\Grow w w':=by
 have hRC:R*C<=24*24:=Nat.mul_le_mul hR hC;have hCR:C*R<=24*24:=Nat.mul_le_mul hC hR;have hB:=Za9 hR hC hl hnum;have hVM:VM w S (.agg #[Yv Yi R,Yv Yi C, .slice a n c]) {rows:=(R:Int),cols:=(C:Int),cells:=m}:=⟨a,n,c,rfl,h,by show I64 (R:Int);unfold I64;omega,by show I64 (C:Int);unfold I64;omega⟩;obtain ⟨w2,hw2,hG2,bM,bR, -⟩:=al2 w #[Yv Yi (R:Int),Yv Yi (C:Int), .slice a n c] 34 #[Yv Yi 0,Yv Yi 0, .slice none 0 0] 34;have Hw2:=hid hw2;clear hw2;have HB:=hid hB;clear hB;have hnl:=h.len;have Hnl:=hid (show R*C=n by rw[←hnl,hl]);clear hnl;have hn576:n<=576:=by have:=Hnl.out;omega
 have Hl:=hid hl;clear hl;have rdo:RdI w2 (fun g=>g<w.heap.size) a n c m:=(h.weak (T:=fun g=>g<w.heap.size) (fun _ hb _=>hb)).grow hG2;go_enter Tryz.func136,Tryz.ntmps136;go_wp2_with fail;rw[←Hw2.out];refine (Zz (hVM.grow hG2) (by unfold bdM;simp only;rw[Hl.out];omega)).mono ?_;rintro e w3 ⟨rfl,hG3⟩;rw[HB.out];have bM3:=bM.grow hG3;obtain ⟨⟨m0,m1,m2⟩, -⟩:=bM3.three;have hltM:=bM3.lt;go_wp2_with fail;refine (Zb1 C R _ (by omega) (by omega)).mono ?_;rintro e w4 ⟨oa,rfl,hO,hlo,hG4⟩;clear m0 m1 m2 hltM;obtain ⟨w5,hw5,hG5,bO, -⟩:=al1 w4 #[Yv Yi (C:Int),Yv Yi (R:Int), .slice oa (C*R) (C*R)] 34;have hG35:=(hG3.trans hG4).trans hG5;have bM5:=bM.grow hG35;have bR5:=bR.grow hG35;have hO5:=hO.grow hG5;rw[←Zp2 m R C] at hO5;have rd5:=rdo.grow hG35;have hs2:=hG2.size;have hs3:=hG3.size;have hs4:=hG4.size;have hRlt:=bR.lt;have nM:blk oa≠some w.heap.size:=fun e=>by have:=hlo _ e;omega
 have nR:blk oa≠some (w.heap.size+1):=fun e=>by have:=hlo _ e;omega
 have nO:blk oa≠some w4.heap.size:=fun e=>by have:=hO.lt e;omega
 have nD: ∀ g,g<w.heap.size->blk oa≠some g:=fun g hg e=>by have:=hlo _ e;omega
 have Hw5:=hid hw5;clear hw5 hO rdo;go_wp2;rw[←Hw5.out];go_loopw [5] (fun q wr=>Keep (fun g=>blk oa≠some g) w5 wr/\ ∃ i:Nat,i<=R/\q=Yv Yi i/\Own wr 3 1 oa (C*R) (C*R) (ints (trP m R C i 0))) (fun q _=>R-(intOf q).toNat);case atStart=>exact ⟨Keep.refl _ _,0,Nat.zero_le _,rfl,hO5⟩
 case round=>
  obtain ⟨wo,rfl⟩: ∃ wo,wo=wr:=⟨_,rfl⟩;clear hO5;obtain ⟨hKp,i,hi,rfl,hO⟩:=hrel;have bMr:=bM5.keep hKp nM;obtain ⟨⟨m0,m1,m2⟩, -⟩:=bMr.three;have hltM:=bMr.lt;by_cases hiR:i<R
  ·go_wp2;clear m0 m1 m2 hltM bMr;go_loopw [6] (fun q u=>Keep (fun g=>blk oa≠some g) w5 u/\ ∃ j:Nat,j<=C/\q=Yv Yi j/\Own u 3 1 oa (C*R) (C*R) (ints (trP m R C i j))) (fun q _=>C-(intOf q).toNat);case atStart=>exact ⟨hKp,0,Nat.zero_le _,rfl,hO⟩
   case round=>
    clear hKp hO;obtain ⟨hKp,j,hj,rfl,hO⟩:=hrel;have bMr:=bM5.keep hKp nM;have bOr:=bO.keep hKp nO;have rdr:=rd5.keep hKp (fun g _ hg=>nD g hg);obtain ⟨⟨m0,m1,m2⟩, -⟩:=bMr.three;have hltM:=bMr.lt;by_cases hjC:j<C
    ·have hni:i*C+j<R*C:=Zr hjC hiR;have hnj:j*R+i<C*R:=Zr hiR hjC;have Hget:=hid (show m[i*C+j]? =some (cell m C i j) from ZM (by rw[Hl.out];exact hni));have Hset:=hid (Zrn (m:=m) hiR hjC);clear hni;go_wp2;refine Zg (S:=(Keep (fun g=>blk oa≠some g) wr)) [([0,1,2,3,4,5],some 6),([],some 7)] Zm (by kernel_rfl) (fun _ _ _ _ _ h=>h) (Keep.refl _ _).drew ?_;show wpQuiet _ _ _ _ [_,_,_,_,_,_] _;(repeat (first |(go_big_quiet_want;(first |refine Zh Zc rfl rfl (fun w' hG=>bOr.keep hG nO) ?_|refine Zh Zc rfl rfl (fun w' hG=>bMr.keep hG nM) ?_);go_big_quiet_on;simp only[putP])|go_big_quiet_step (exact fun _=>rfl)));refine wpQuiet_nil ?_;refine Zf rfl (fun K hK=> ?_);go_wp2_with fail;refine (Zai a n c C i j (i*C+j) (R:Int) _ m _ (rdr.grow (Grow.refl _).drew) rfl Hget.out (by omega) (by omega) (by omega) (by omega)).mono ?_;rintro e w8 ⟨rfl,hG8⟩;have hG78:=(Grow.refl wr).drew.trans hG8;go_wp2_with fail;refine hK _ _ (hG78.any) ?_;clear hK K;refine wpQuiet_nil ?_;refine Zf rfl (fun K hK=> ?_);go_wp2_with fail;refine (ZhO oa _ _ R j i (j*R+i) (C:Int) (cell m C i j) _ _ (hO.grow hG78) rfl hnj (by omega) (by omega) (by omega) (by omega)).mono ?_;rintro e w9 ⟨rfl,hO9,hK9⟩;rw[Hset.out] at hO9;have hK79:=hG78.any.trans hK9;go_wp2_with fail;refine hK _ _ (hK79) ?_;clear hK K;refine Zk ?_;clear m0 m1 m2 hltM hnj;go_wp2;go_roundw;case rel=>exact ⟨hKp.trans hK79,j+1,by omega,by go_num,hO9⟩
     case measure=>simp[intOf];omega
    ·have hjE:C=j:=(by omega);subst hjE;rw[Zra] at hO;go_wp2;go_roundw;case rel=>exact ⟨hKp,i+1,by omega,by go_num,hO⟩
     case measure=>simp[intOf];omega
  ·have hiE:R=i:=(by omega);subst hiE;rw[Zrz] at hO;have bRr:=bR5.keep hKp nR;have bOr:=bO.keep hKp nO;obtain ⟨⟨z0,z1,z2⟩,g0,g1,g2⟩:=bRr.three;obtain ⟨⟨o0,o1,o2⟩, -⟩:=bOr.three;have hltR:=bRr.lt;have hltO:=bOr.lt;have hKs:Keep (fun q=>q≠w.heap.size+1) wo (((wo.setCell ⟨w.heap.size+1,0,none⟩ (Yv Yi (C:Int))).setCell ⟨w.heap.size+1,1,none⟩ (Yv Yi (R:Int))).setCell ⟨w.heap.size+1,2,none⟩ (.slice oa (C*R) (C*R))):=
    (((Keep.refl _ wo).setCell (fun _ e=>e rfl) _).setCell (fun _ e=>e rfl) _).setCell (fun _ e=>e rfl) _
   have hof:=hO.keep hKs (fun g hg _ e=>nR (by rw[hg,e]));have hGw:Grow w wo:=Grow.keep (S:=fun g=>blk oa≠some g) (hG2.trans hG35) hKp nD;have hGf:=hGw.keep hKs (fun q hq=>by omega);go_wp2;exact Zd Zc rfl rfl rfl (((bRr.set 0 _).set 1 _).set 2 _) ⟨oa,rfl,hof,(fun q hq=>by have:=hlo q hq;omega),hGf⟩
structure WkP (w:World) (B g R C:Nat) (aa au ar:Option Addr) (ca cu cr:Nat) (b:Bool) (s:SS):Prop where
 wk:Wk w g R C aa au ar ca cu cr b
 th:Thr w aa au ar (R*C) (R*R) (C*C) ca cu cr s
 na:blk aa≠some g
 nu:blk au≠some g
 nr:blk ar≠some g
 la: ∀ q,blk aa=some q->B<=q
 lu: ∀ q,blk au=some q->B<=q
 lr: ∀ q,blk ar=some q->B<=q
 lg:B<=g
def WkS (w:World) (B g R C:Nat) (b:Bool) (s:SS):Prop:= ∃ aa au ar ca cu cr,WkP w B g R C aa au ar ca cu cr b s
theorem WkP.s {g:Nat} {s:SS} (h:WkP w B g R C aa au ar ca cu cr b s):WkS w B g R C b s:=⟨_,_,_,_,_,_,h⟩
theorem WkP.grow {w':World} {g:Nat} {s:SS} (h:WkP w B g R C aa au ar ca cu cr b s) (hk:Grow w w'):WkP w' B g R C aa au ar ca cu cr b s:=
 ⟨h.wk.grow hk,h.th.grow hk,h.na,h.nu,h.nr,h.la,h.lu,h.lr,h.lg⟩
def To3 (f:Option SS) (b:Bool) (s':SS):Prop:=(b=false/\f=some s')\/(b=true/\f=none)
structure WkG (w:World) (g R C:Nat) (aa au ar:Option Addr) (ca cu cr:Nat) (bad:Bool):Prop where
 c0:w.cell? ⟨g,0,none⟩=some (Yv Yi R)
 c1:w.cell? ⟨g,1,none⟩=some (Yv Yi C)
 c2:w.cell? ⟨g,2,none⟩=some (.slice aa (R*C) ca)
 c6:w.cell? ⟨g,6,none⟩=some (Yv Yi C)
 c7:w.cell? ⟨g,7,none⟩=some (Yv Yi C)
 c8:w.cell? ⟨g,8,none⟩=some (.slice ar (C*C) cr)
 c9:w.cell? ⟨g,9,none⟩=some (.bool bad)
 f0:w.frozen? ⟨g,0,none⟩=false
 f1:w.frozen? ⟨g,1,none⟩=false
 f2:w.frozen? ⟨g,2,none⟩=false
 f6:w.frozen? ⟨g,6,none⟩=false
 f7:w.frozen? ⟨g,7,none⟩=false
 f8:w.frozen? ⟨g,8,none⟩=false
 f9:w.frozen? ⟨g,9,none⟩=false
theorem Wk.g {g:Nat} {bad:Bool} (h:Wk w g R C aa au ar ca cu cr bad):WkG w g R C aa au ar ca cu cr bad:=
 ⟨h.cell 0,h.cell 1,h.cell 2,h.cell 6,h.cell 7,h.cell 8,h.cell 9,h.free 0,h.free 1,h.free 2,h.free 6,h.free 7,h.free 8,h.free 9⟩
theorem Ss.hs {s:SS} (h:Ss C R s):Hs C R (s.1,s.2.1):=⟨h.la,h.lu,h.na,h.nu⟩
theorem Zmi (B g R C i p:Nat) (t:Int) (s:SS) (w:World) (hW:WkS w B g R C false s) (hs:Ss C R s) (hi:i<R) (hp:p<R) (hip:i≠p) (ht: -400000000<=t/\t<=400000000) (hR:R<=24) (hC:C<=24):
  Calls Tryz.prog 148 #[.pointer (some ⟨g,0,none⟩),Yv Yi i,Yv Yi p,Yv Yi t] w fun e w'=>e= .returned (.tuple #[])/\ ∃ b s',WkS w' B g R C b s'/\To3 (ZaF C R i p t s) b s'/\Keep (fun q=>q<B) w w':=by
 obtain ⟨aa,au,ar,ca,cu,cr,h⟩:=hW;refine (ZjA g R C i p t aa au ar ca cu cr (s.1,s.2.1) w h.wk h.th.two h.na h.nu hs.hs hi hp hip ht hR hC).mono ?_;rintro e w' ⟨rfl,b,s',h1,h2,h3,h4⟩;refine ⟨rfl,b,(s'.1,s'.2,s.2.2),⟨aa,au,ar,ca,cu,cr,h1,⟨h2.oa,h2.ou,h.th.ov.keep h4 (fun q hq _=>⟨fun e=>h.th.nav q e hq,fun e=>h.th.nuv q e hq,fun e=>h.nr (by rw[hq,e])⟩),h.th.nau,h.th.nav,h.th.nuv⟩,h.na,h.nu,h.nr,h.la,h.lu,h.lr,h.lg⟩, ?_,h4.mono fun q _ hq=>⟨fun e=>by have:=h.la q e;omega,fun e=>by have:=h.lu q e;omega,fun e=>by have:=h.lg;omega⟩⟩;unfold ZkV Zb8 at h3;unfold To3 ZaF;rcases h3 with ⟨rfl,h3⟩|⟨rfl,h3⟩
 ·refine .inl ⟨rfl, ?_⟩;split at h3
  ·rename_i hok;obtain rfl:=Option.some.inj h3;rw[if_pos hok]
  ·cases h3
 ·refine .inr ⟨rfl, ?_⟩;split at h3
  ·cases h3
  ·rename_i hok;rw[if_neg hok]
theorem Zrq (B g R C i p:Nat) (s:SS) (w:World) (hW:WkS w B g R C false s) (hs:Ss C R s) (hi:i<R) (hp:p<R) (hip:i≠p) (hR:R<=24) (hC:C<=24):
  Calls Tryz.prog 114 #[.pointer (some ⟨g,0,none⟩), .agg #[Yv Yi 0,Yv Yi i,Yv Yi p,Yv Yi 0]] w fun e w'=>e= .returned (.tuple #[])/\WkS w' B g R C false (Zc7 C R i p s)/\Keep (fun q=>q<B) w w':=by
 obtain ⟨aa,au,ar,ca,cu,cr,h⟩:=hW;refine (ZiE g R C i p aa au ar ca cu cr (s.1,s.2.1) w h.wk h.th.two h.na h.nu hs.hs hi hp hip hR hC).mono ?_;rintro e w' ⟨rfl,h1,h2,h4⟩;exact ⟨rfl,⟨aa,au,ar,ca,cu,cr,h1,⟨h2.oa,h2.ou,h.th.ov.keep h4 (fun q hq _=>⟨fun e=>h.th.nav q e hq,fun e=>h.th.nuv q e hq,fun e=>h.nr (by rw[hq,e])⟩),h.th.nau,h.th.nav,h.th.nuv⟩,h.na,h.nu,h.nr,h.la,h.lu,h.lr,h.lg⟩,h4.mono fun q _ hq=>⟨fun e=>by have:=h.la q e;omega,fun e=>by have:=h.lu q e;omega,fun e=>by have:=h.lg;omega⟩⟩
theorem ZqB (B g R C i:Nat) (s:SS) (w:World) (hW:WkS w B g R C false s) (hs:Ss C R s) (hi:i<R) (hR:R<=24) (hC:C<=24):
  Calls Tryz.prog 114 #[.pointer (some ⟨g,0,none⟩), .agg #[Yv Yi 1,Yv Yi i,Yv Yi i,Yv Yi 0]] w fun e w'=>e= .returned (.tuple #[])/\WkS w' B g R C false (ZhZ C R i s)/\Keep (fun q=>q<B) w w':=by
 obtain ⟨aa,au,ar,ca,cu,cr,h⟩:=hW;refine (ZmQ g R C i aa au ar ca cu cr (s.1,s.2.1) w h.wk h.th.two h.na h.nu hs.hs hi hR hC).mono ?_;rintro e w' ⟨rfl,h1,h2,h4⟩;exact ⟨rfl,⟨aa,au,ar,ca,cu,cr,h1,⟨h2.oa,h2.ou,h.th.ov.keep h4 (fun q hq _=>⟨fun e=>h.th.nav q e hq,fun e=>h.th.nuv q e hq,fun e=>h.nr (by rw[hq,e])⟩),h.th.nau,h.th.nav,h.th.nuv⟩,h.na,h.nu,h.nr,h.la,h.lu,h.lr,h.lg⟩,h4.mono fun q _ hq=>⟨fun e=>by have:=h.la q e;omega,fun e=>by have:=h.lu q e;omega,fun e=>by have:=h.lg;omega⟩⟩
theorem Zlq (B g R C:Nat) (aa au ar:Option Addr) (ca cu cr:Nat) (kd i p t:Int) (s:SS) (fa fv:List Int) (b1 b2:Bool) (w:World) (h:WkP w B g R C aa au ar ca cu cr false s) (hs:Ss C R s) (hR:R<=24) (hC:C<=24)
  (h0: ∀ w,Calls Tryz.prog 149 #[.agg #[Yv Yi kd,Yv Yi i,Yv Yi p,Yv Yi t],Yv Yi C] w fun e w'=>e= .returned (.bool true)/\Grow w w')
  (h1: ∀ (w:World) (a:Option Addr),Own w 3 1 a (C*R) (C*R) (ints (trL s.1 R C))->Calls Tryz.prog 107 #[.agg #[Yv Yi C,Yv Yi R, .slice a (C*R) (C*R)], .agg #[Yv Yi kd,Yv Yi i,Yv Yi p,Yv Yi t]] w fun e w'=> ∃ m',e= .returned (.bool b1)/\Own w' 3 1 a (C*R) (C*R) (ints m')/\Keep (fun q=>blk a≠some q) w w'/\(b1=true->m'=fa))
  (h2: ∀ (w:World) (a:Option Addr),Own w 3 1 a (C*C) (C*C) (ints (trL s.2.2 C C))->Calls Tryz.prog 107 #[.agg #[Yv Yi C,Yv Yi C, .slice a (C*C) (C*C)], .agg #[Yv Yi kd,Yv Yi i,Yv Yi p,Yv Yi t]] w fun e w'=> ∃ m',e= .returned (.bool b2)/\Own w' 3 1 a (C*C) (C*C) (ints m')/\Keep (fun q=>blk a≠some q) w w'/\(b2=true->m'=fv))
  (hfa:b1=true->fa.length=C*R/\NumL fa) (hfv:b2=true->fv.length=C*C/\NumL fv):
  Calls Tryz.prog 146 #[.pointer (some ⟨g,0,none⟩), .agg #[Yv Yi kd,Yv Yi i,Yv Yi p,Yv Yi t]] w fun e w'=>e= .returned (.tuple #[])/\ ∃ s',WkS w' B g R C (!(b1&&b2)) s'/\((b1&&b2)=true->s'=(trL fa C R,s.2.1,trL fv C C))/\Keep (fun q=>q<B) w w':=by
 have hRC:R*C<=24*24:=Nat.mul_le_mul hR hC;have hCR:C*R<=24*24:=Nat.mul_le_mul hC hR;have hCC:C*C<=24*24:=Nat.mul_le_mul hC hC;have hGz:=(Grow.refl w).alloc #[Yv Yi kd,Yv Yi i,Yv Yi p,Yv Yi t] 148;have bX:=Blk.new w #[Yv Yi kd,Yv Yi i,Yv Yi p,Yv Yi t] 148;have hgX:g<w.heap.size:=Blk.lt h.wk;have P2:=h.grow hGz;have hBg:=h.lg;have hAlt: ∀ q,blk aa=some q->q<w.heap.size:=fun q hq=>h.th.oa.lt hq;have hUlt: ∀ q,blk au=some q->q<w.heap.size:=fun q hq=>h.th.ou.lt hq;have hRlt: ∀ q,blk ar=some q->q<w.heap.size:=fun q hq=>h.th.ov.lt hq;clear h;generalize hw2:w.alloc (.cells #[Yv Yi kd,Yv Yi i,Yv Yi p,Yv Yi t] 148)=w2 at *;have Hw2:=hid hw2;clear hw2;have wf:=P2.wk.g;go_enter Tryz.func146,Tryz.ntmps146;go_wp2;rw[Hw2.out];refine Zg (S:=Grow w2) [([0,1,2,3,4,5,6,7,8,9,10],some 11),([12,13],none)] Zm (by kernel_rfl) (fun _ _ _ _ _ h=>h) (Grow.refl _).drew ?_;show wpQuiet _ _ _ _ [_,_,_,_,_,_,_,_,_,_,_] _;repeat (first |(go_big_quiet_want;(first |refine Za ZbF rfl rfl (fun w' hG=>hG.cell wf.c9) ?_|refine Za Zv rfl rfl (fun w' hG=>hG.cell wf.c1) ?_|refine Zag (cs:= #[Yv Yi kd,Yv Yi i,Yv Yi p,Yv Yi t]) ZbA rfl rfl (fun w' hG=>bX.grow hG) ?_);go_big_quiet_on;simp only[putP])|go_big_quiet_step (exact fun _=>rfl))
 refine wpQuiet_nil ?_;refine Zf rfl (fun K hK=> ?_);go_wp2_with fail;refine (h0 _).mono ?_;rintro e w3 ⟨rfl,hG3⟩;have hG23:=(Grow.refl w2).drew.trans hG3;go_wp2_with fail;refine hK _ _ (hG23) ?_;clear hK K;show wpQuiet _ _ _ _ [_,_] _;try (conv=>arg 6;simp only[putP])
 repeat (first |(go_big_quiet_want;(first |refine Za ZbF rfl rfl (fun w' hG=>hG.cell wf.c9) ?_|refine Za Zv rfl rfl (fun w' hG=>hG.cell wf.c1) ?_|refine Zag (cs:= #[Yv Yi kd,Yv Yi i,Yv Yi p,Yv Yi t]) ZbA rfl rfl (fun w' hG=>bX.grow hG) ?_);go_big_quiet_on;simp only[putP])|go_big_quiet_step (exact fun _=>rfl))
 refine wpQuiet_nil ?_;refine Zk ?_;have P3:=P2.grow hG23;have bX3:=bX.grow hG23;clear P2 wf;obtain ⟨c0,c1,c2,c6,c7,c8,c9, -, -, -, -, -, -, -⟩:=P3.wk.g;have hg3:g<w3.heap.size:=Blk.lt P3.wk;have rA:=P3.th.oa.rdI (S:=fun _=>True) (fun _ _=>trivial) (Zy hs.na);go_wp2_with fail;refine (Zbr rA hs.la hs.na hR hC).mono ?_;rintro e w4 ⟨ta,rfl,oTa,lTa,hG4⟩;have P4:=P3.grow hG4;have hGa:=(Grow.refl w4).alloc #[Yv Yi (C:Int),Yv Yi (R:Int), .slice ta (C*R) (C*R)] 34;have bTa:=Blk.new w4 #[Yv Yi (C:Int),Yv Yi (R:Int), .slice ta (C*R) (C*R)] 34;have P5:=P4.grow hGa;clear c0 c1 c2 c6 c7 c8 c9;obtain ⟨c0,c1,c2,c6,c7,c8,c9, -, -, -, -, -, -, -⟩:=P5.wk.g;have hg4:g<w4.heap.size:=Blk.lt P4.wk;have rV:=P5.th.ov.rdI (S:=fun _=>True) (fun _ _=>trivial) (Zy hs.nv);go_wp2_with fail;refine (Zbr rV hs.lv hs.nv hC hC).mono ?_;rintro e w6 ⟨tv,rfl,oTv,lTv,hG6⟩;obtain ⟨w7,hw7,hG7,bTv, -⟩:=al1 w6 #[Yv Yi (C:Int),Yv Yi (C:Int), .slice tv (C*C) (C*C)] 34;have hG47:Grow w4 w7:=(hGa.trans hG6).trans hG7;have P7:=(P5.grow hG6).grow hG7;have bX7:=(bX3.grow hG4).grow hG47;have bTa7:=(bTa.grow hG6).grow hG7;have oTa7:=oTa.grow hG47;have oTv7:=oTv.grow hG7;have hs3:w.heap.size<w3.heap.size:=by have:=(bX3).lt;omega
 have hs4:=hG4.size;have hs6:=hG6.size;have hs6':w4.heap.size<w6.heap.size:=by simp at hs6;omega
 have hgT: ∀ q,blk ta=some q->w.heap.size<q:=fun q hq=>by have:=lTa q hq;omega
 have hgV: ∀ q,blk tv=some q->w4.heap.size<q:=fun q hq=>by have:=lTv q hq;simp at this;omega
 have nTV: ∀ q,blk ta=some q->blk tv≠some q:=fun q hq e=>by have:=oTa.lt hq;have:=hgV q e;omega
 have nTaM:blk ta≠some w4.heap.size:=fun e=>by have:=oTa.lt e;omega
 have nTaN:blk ta≠some w6.heap.size:=fun e=>by have:=oTa.lt e;omega
 have nTvM:blk tv≠some w4.heap.size:=fun e=>by have:=hgV _ e;omega
 have nTvN:blk tv≠some w6.heap.size:=fun e=>by have:=oTv.lt e;omega
 have nTaX:blk ta≠some w.heap.size:=fun e=>by have:=hgT _ e;omega
 have nTvX:blk tv≠some w.heap.size:=fun e=>by have:=hgV _ e;omega
 clear c0 c1 c2 c6 c7 c8 c9 P3 P4 P5 bTa bX3 oTa oTv rA rV;obtain ⟨⟨t0,t1,t2⟩, -⟩:=bTa7.three;rw[hw7] at t0 t1 t2;have x0:=bX7.cell 0;have x1:=bX7.cell 1;have x2:=bX7.cell 2;have x3:=bX7.cell 3;simp only[List.getElem?_toArray,List.getElem?_cons_zero,List.getElem?_cons_succ] at x0 x1 x2 x3;rw[hw7] at x0 x1 x2 x3;have hX6:w.heap.size<w6.heap.size:=by omega
 have Hw7:=hid hw7;clear hw7;go_wp2_with fail;rw[←Hw7.out];refine (h1 _ ta oTa7).mono ?_;rintro e w8 ⟨m1,rfl,oA8,hK8,hb1⟩;have hK28:Keep (fun q=>q<=w.heap.size) w8 w8:=Keep.refl _ _;have P8:WkP w8 B g R C aa au ar ca cu cr false s:=⟨P7.wk.keep hK8 (fun e=>by have:=hgT _ e;omega),P7.th.keep hK8 (fun q hq e=>by have:=hgT _ e;have:=hAlt q hq;omega) (fun q hq e=>by have:=hgT _ e;have:=hUlt q hq;omega) (fun q hq e=>by have:=hgT _ e;have:=hRlt q hq;omega),P7.na,P7.nu,P7.nr,P7.la,P7.lu,P7.lr,P7.lg⟩;have hKB8:Keep (fun q=>q<B) w w8:=(((((hGz.trans hG23).trans hG4).trans hG47).any).on hK8 (fun q _ hq e=>by have:=hgT _ e;omega));have bX8:=bX7.keep hK8 nTaX;have bTv8:=bTv.keep hK8 nTaN;have bTa8:=bTa7.keep hK8 nTaM;have oTv8:=oTv7.keep hK8 (fun q hq _ e=>nTV q e hq);clear x0 x1 x2 x3 t0 t1 t2 hK28 P7 bX7 bTa7 oTv7 bTv;cases b1 with
 |false=>have wf:=P8.wk.g;obtain ⟨_,_,_,_,_,_,c9,_,_,_,_,_,_,f9⟩:=wf;have hg8:g<w8.heap.size:=Blk.lt P8.wk;go_wp2;exact bodyPost_ret (results_none rfl _ _ _) rfl ⟨rfl,s,⟨aa,au,ar,ca,cu,cr,P8.wk.spoil,P8.th.keep (T:=fun q=>q≠g) ((Keep.refl _ w8).setCell (p:=⟨g,9,none⟩) (fun _ e=>e rfl) _) (fun q hq e=>P8.na (e▸hq)) (fun q hq e=>P8.nu (e▸hq)) (fun q hq e=>P8.nr (e▸hq)),P8.na,P8.nu,P8.nr,P8.la,P8.lu,P8.lr,P8.lg⟩,(fun h=>by cases h),hKB8.setCell (p:=⟨g,9,none⟩) (fun _ e=>by simp only at e;omega) _⟩
 |true=>
  have Hb1:=hid (hb1 rfl);obtain ⟨hfl,hfn⟩:=hfa rfl;obtain rfl:=Hb1.out;clear hb1 Hb1;obtain ⟨⟨t0,t1,t2⟩, -⟩:=bTv8.three;have x0:=bX8.cell 0;have x1:=bX8.cell 1;have x2:=bX8.cell 2;have x3:=bX8.cell 3;simp only[List.getElem?_toArray,List.getElem?_cons_zero,List.getElem?_cons_succ] at x0 x1 x2 x3;have hltV:=bTv8.lt;have hltX:=bX8.lt;go_wp2_with fail;refine (h2 _ tv oTv8).mono ?_;rintro e w9 ⟨m2,rfl,oV9,hK9,hb2⟩;have P9:WkP w9 B g R C aa au ar ca cu cr false s:=⟨P8.wk.keep hK9 (fun e=>by have:=hgV _ e;omega),P8.th.keep hK9 (fun q hq e=>by have:=hgV _ e;have:=hAlt q hq;omega) (fun q hq e=>by have:=hgV _ e;have:=hUlt q hq;omega) (fun q hq e=>by have:=hgV _ e;have:=hRlt q hq;omega),P8.na,P8.nu,P8.nr,P8.la,P8.lu,P8.lr,P8.lg⟩;have hKB9:Keep (fun q=>q<B) w w9:=hKB8.on hK9 (fun q _ hq e=>by have:=hgV _ e;omega);have bTv9:=bTv8.keep hK9 nTvN;have bTa9:=bTa8.keep hK9 nTvM;have oA9:=oA8.keep hK9 (fun q hq _ e=>nTV q hq e);clear x0 x1 x2 x3 t0 t1 t2 P8 bX8 bTa8 bTv8 hltV hltX oA8;have hg9:g<w9.heap.size:=Blk.lt P9.wk;cases b2 with
  |false=>have wf:=P9.wk.g;obtain ⟨_,_,_,_,_,_,c9,_,_,_,_,_,_,f9⟩:=wf;go_wp2;exact bodyPost_ret (results_none rfl _ _ _) rfl ⟨rfl,s,⟨aa,au,ar,ca,cu,cr,P9.wk.spoil,P9.th.keep (T:=fun q=>q≠g) ((Keep.refl _ w9).setCell (p:=⟨g,9,none⟩) (fun _ e=>e rfl) _) (fun q hq e=>P9.na (e▸hq)) (fun q hq e=>P9.nu (e▸hq)) (fun q hq e=>P9.nr (e▸hq)),P9.na,P9.nu,P9.nr,P9.la,P9.lu,P9.lr,P9.lg⟩,(fun h=>by cases h),hKB9.setCell (p:=⟨g,9,none⟩) (fun _ e=>by simp only at e;omega) _⟩
  |true=>
   have Hb2:=hid (hb2 rfl);obtain ⟨hvl,hvn⟩:=hfv rfl;obtain rfl:=Hb2.out;clear hb2 Hb2;obtain ⟨⟨t0,t1,t2⟩, -⟩:=bTa9.three;have hltA:=bTa9.lt;go_wp2_with fail;refine (Zbr (oA9.rdI (S:=fun _=>True) (fun _ _=>trivial) (Zy hfn)) hfl hfn hC hR).mono ?_;rintro e w10 ⟨na,rfl,oN,lN,hG10⟩;have P10:=P9.grow hG10;have bTv10:=bTv9.grow hG10;have oV10:=oV9.grow hG10;have hg10:g<w10.heap.size:=Blk.lt P10.wk;have wf:=P10.wk.g;obtain ⟨c0,c1,c2, -, -, -, -,f0,f1,f2, -, -, -, -⟩:=wf;have hs9:=hKB9.size;have nNg:blk na≠some g:=fun e=>(by have:=lN _ e;omega);have hKw:Keep (fun q=>q≠g) w10 (((w10.setCell ⟨g,0,none⟩ (Yv Yi (R:Int))).setCell ⟨g,1,none⟩ (Yv Yi (C:Int))).setCell ⟨g,2,none⟩ (.slice na (R*C) (R*C))):=
    (((Keep.refl _ w10).setCell (p:=⟨g,0,none⟩) (fun _ e=>e rfl) _).setCell (p:=⟨g,1,none⟩) (fun _ e=>e rfl) _).setCell (p:=⟨g,2,none⟩) (fun _ e=>e rfl) _
   have hW11:Wk (((w10.setCell ⟨g,0,none⟩ (Yv Yi (R:Int))).setCell ⟨g,1,none⟩ (Yv Yi (C:Int))).setCell ⟨g,2,none⟩ (.slice na (R*C) (R*C))) g R C na au ar (R*C) cu cr false:=
    ((Blk.set P10.wk 0 (Yv Yi (R:Int))).set 1 (Yv Yi (C:Int))).set 2 (.slice na (R*C) (R*C))
   have nTvg:w6.heap.size≠g:=(by omega);have bTv11:=bTv10.keep hKw nTvg;have oV11:=oV10.keep hKw (fun q hq _ e=>by have:=hgV _ hq;omega);have oN11:=oN.keep hKw (fun q hq _ e=>by have:=lN _ hq;omega);have oU11:=P10.th.ou.keep hKw (fun q hq _ e=>P10.nu (e▸hq));have hKB11:=(hKB9.trans hG10.any).trans (hKw.mono fun q _ hq e=>by omega);clear t0 t1 t2 hltA bTa9 oA9 P9;obtain ⟨⟨t0,t1,t2⟩, -⟩:=bTv10.three;have hltV:=bTv10.lt;have nTvg': ¬ w6.heap.size=g:=nTvg;have nTvg2: ¬ g=w6.heap.size:=fun e=>nTvg e.symm;go_wp2_with fail;clear t0 t1 t2 hltV nTvg' nTvg2 c0 c1 c2 f0 f1 f2;generalize hw11:((w10.setCell ⟨g,0,none⟩ (Yv Yi (R:Int))).setCell ⟨g,1,none⟩ (Yv Yi (C:Int))).setCell ⟨g,2,none⟩ (.slice na (R*C) (R*C))=w11 at *;refine (Zbr (oV11.rdI (S:=fun _=>True) (fun _ _=>trivial) (Zy hvn)) hvl hvn hC hC).mono ?_;rintro e w12 ⟨nv,rfl,oNV,lNV,hG12⟩;have W12:=hW11.grow hG12;have hg12:g<w12.heap.size:=Blk.lt W12;have wf:=W12.g;obtain ⟨-, -, -,c6,c7,c8, -, -, -, -,f6,f7,f8, -⟩:=wf;have hs11:=hKB11.size;have hKw2:Keep (fun q=>q≠g) w12 (((w12.setCell ⟨g,6,none⟩ (Yv Yi (C:Int))).setCell ⟨g,7,none⟩ (Yv Yi (C:Int))).setCell ⟨g,8,none⟩ (.slice nv (C*C) (C*C))):=
    (((Keep.refl _ w12).setCell (p:=⟨g,6,none⟩) (fun _ e=>e rfl) _).setCell (p:=⟨g,7,none⟩) (fun _ e=>e rfl) _).setCell (p:=⟨g,8,none⟩) (fun _ e=>e rfl) _
   have hW13:Wk (((w12.setCell ⟨g,6,none⟩ (Yv Yi (C:Int))).setCell ⟨g,7,none⟩ (Yv Yi (C:Int))).setCell ⟨g,8,none⟩ (.slice nv (C*C) (C*C))) g R C na au nv (R*C) cu (C*C) false:=
    ((Blk.set W12 6 (Yv Yi (C:Int))).set 7 (Yv Yi (C:Int))).set 8 (.slice nv (C*C) (C*C))
   have nNVg:blk nv≠some g:=fun e=>(by have:=lNV _ e;omega);have oN13:=(oN11.grow hG12).keep hKw2 (fun q hq _ e=>nNg (e▸hq));have oU13:=(oU11.grow hG12).keep hKw2 (fun q hq _ e=>P10.nu (e▸hq));have oNV13:=oNV.keep hKw2 (fun q hq _ e=>nNVg (e▸hq));have hKB13:=(hKB11.trans hG12.any).trans (hKw2.mono fun q _ hq e=>by omega);have nnA: ∀ q,blk na=some q->blk au≠some q:=fun q hq e=>(by have:=lN q hq;have:=hUlt q e;omega);have nnV: ∀ q,blk na=some q->blk nv≠some q:=fun q hq e=>(by have:=oN11.lt hq;have:=lNV q e;omega);have nnU: ∀ q,blk au=some q->blk nv≠some q:=fun q hq e=>(by have:=hUlt q hq;have:=lNV q e;omega);clear bTv11 oV11;go_wp2;exact bodyPost_end (results_none rfl _ _ _) rfl ⟨rfl,(trL m1 C R,s.2.1,trL m2 C C),⟨na,au,nv,R*C,cu,C*C,hW13,⟨oN13,oU13,oNV13,nnA,nnV,nnU⟩,nNg,P10.nu,nNVg,(fun q hq=>by have:=lN q hq;omega),P10.lu,(fun q hq=>by have:=lNV q hq;omega),P10.lg⟩,(fun _=>rfl),hKB13⟩
theorem ZnU (B g R C i p:Nat) (t:Int) (s:SS) (w:World) (hW:WkS w B g R C false s) (hs:Ss C R s) (hi:i<C) (hp:p<C) (hip:i≠p) (ht: -400000000<=t/\t<=400000000) (hR:R<=24) (hC:C<=24):
  Calls Tryz.prog 146 #[.pointer (some ⟨g,0,none⟩), .agg #[Yv Yi 2,Yv Yi i,Yv Yi p,Yv Yi t]] w fun e w'=>e= .returned (.tuple #[])/\ ∃ b s',WkS w' B g R C b s'/\To3 (Zbm C R i p t s) b s'/\Keep (fun q=>q<B) w w':=by
 obtain ⟨aa,au,ar,ca,cu,cr,h⟩:=hW;have hna:=Zdh (R:=R) (C:=C) hs.na;have hnv:=Zdh (R:=C) (C:=C) hs.nv
 refine (Zlq B g R C aa au ar ca cu cr 2 i p t s (addR (trL s.1 R C) R i p t) (addR (trL s.2.2 C C) C i p t) (Z8 (trL s.1 R C) R i p t) (Z8 (trL s.2.2 C C) C i p t) w h hs hR hC (fun w=>ZbM 2 t i p C w hi hp hC ht (.inr (.inr ⟨rfl,hip⟩)))
  (fun w a hw=>Zbq a _ _ R i p C t _ w hw (ZaJ rfl hi) (ZaJ rfl hp) hip hna ht (by omega) (by omega) (by omega))
  (fun w a hw=>Zbq a _ _ C i p C t _ w hw (ZaJ rfl hi) (ZaJ rfl hp) hip hnv ht (by omega) (by omega) (by omega))
  (fun h1=>⟨by simp[addR,ZL,ZaP],Zcw hna h1⟩) (fun h1=>⟨by simp[addR,ZL,ZaP],Zcw hnv h1⟩)).mono ?_
 rintro e w' ⟨rfl,s',h1,h2,h3⟩;rw[Zf7 hi hp,Zf7 hi hp] at h1 h2;rw[ZhL hi hp,ZhL hi hp] at h2;refine ⟨rfl,_,s',h1, ?_,h3⟩;unfold To3 Zbm;cases hb:(Zbh s.1 C R i p t&&Zbh s.2.2 C C i p t) with
 |true=>exact .inl ⟨rfl,by rw[if_pos rfl,h2 hb]⟩
 |false=>exact .inr ⟨rfl,by rw[if_neg (by simp)]⟩
theorem Zo2 (B g R C i p:Nat) (s:SS) (w:World) (hW:WkS w B g R C false s) (hs:Ss C R s) (hi:i<C) (hp:p<C) (hip:i≠p) (hR:R<=24) (hC:C<=24):
  Calls Tryz.prog 146 #[.pointer (some ⟨g,0,none⟩), .agg #[Yv Yi 0,Yv Yi i,Yv Yi p,Yv Yi 0]] w fun e w'=>e= .returned (.tuple #[])/\WkS w' B g R C false (ZiA C R i p s)/\Keep (fun q=>q<B) w w':=by
 obtain ⟨aa,au,ar,ca,cu,cr,h⟩:=hW;have hna:=Zdh (R:=R) (C:=C) hs.na;have hnv:=Zdh (R:=C) (C:=C) hs.nv
 refine (Zlq B g R C aa au ar ca cu cr 0 i p 0 s (swR (trL s.1 R C) R i p) (swR (trL s.2.2 C C) C i p) true true w h hs hR hC (fun w=>ZbM 0 0 i p C w hi hp hC (by omega) (.inl ⟨rfl,hip,rfl⟩))
  (fun w a hw=>(Zbu a _ _ R i p C 0 _ w hw (ZaP _ _ _) hi hp hip (by omega) (by omega) (by omega)).mono fun e w' ⟨h1,h2,h3⟩=>⟨_,h1,h2,h3,fun _=>rfl⟩)
  (fun w a hw=>(Zbu a _ _ C i p C 0 _ w hw (ZaP _ _ _) hi hp hip (by omega) (by omega) (by omega)).mono fun e w' ⟨h1,h2,h3⟩=>⟨_,h1,h2,h3,fun _=>rfl⟩)
  (fun _=>⟨by simp[swR,Zbe,ZaP],Zb4 hna _⟩) (fun _=>⟨by simp[swR,Zbe,ZaP],Zb4 hnv _⟩)).mono ?_
 rintro e w' ⟨rfl,s',h1,h2,h3⟩;have e1:=h2 rfl;rw[Zi3 hi hp hip,Zi3 hi hp hip] at e1;subst e1;exact ⟨rfl,h1,h3⟩
theorem ZgL (B g R C t:Nat) (aa au ar:Option Addr) (ca cu cr:Nat) (bad:Bool) (s:SS) (w:World) (h:WkP w B g R C aa au ar ca cu cr bad s) (hs:Ss C R s) (ht:t<=R) (htC:t<=C) (hR:R<=24) (hC:C<=24):
  Calls Tryz.prog 112 #[.pointer (some ⟨g,0,none⟩),Yv Yi t] w fun e w'=>e= .returned (.tuple #[Yv Yi (Zab s.1 C R t).1,Yv Yi (Zab s.1 C R t).2, .bool (decide (0<=(Zab s.1 C R t).1))])/\Grow w w':=by
 have hRC:R*C<=24*24:=Nat.mul_le_mul hR hC;have hr0:=h.th.oa.rdI (S:=fun _=>True) (fun _ _=>trivial) (Zy hs.na);have hW:=h.wk;have hl:=hs.la;have hn:=hs.na;obtain ⟨cells,hcells⟩: ∃ cells,cells=s.1:=⟨_,rfl⟩;rw[←hcells] at hr0 hl hn ⊢;have Hl:=hid hl;clear hl h hs hcells;go_enter Tryz.func112,Tryz.ntmps112;go_wp2;go_loopw [7,8,9] (fun x y q wr=>Grow w wr/\ ∃ i:Nat,t<=i/\i<=R/\q=Yv Yi i/\x=Yv Yi (lsI cells C t (i-t)).1/\y=Yv Yi (lsI cells C t (i-t)).2) (fun _ _ q _=>R-(intOf q).toNat);case atStart=>exact ⟨Grow.refl _,t,Nat.le_refl _,ht,rfl,by rw[Nat.sub_self];rfl,by rw[Nat.sub_self];rfl⟩
 case round=>
  obtain ⟨wo,rfl⟩: ∃ wo,wo=wr:=⟨_,rfl⟩;obtain ⟨hG,i,hti,hi,rfl,rfl,rfl⟩:=hrel;have Wr:=hW.grow hG;obtain ⟨c0,c1,c2, -⟩:=Wr.g;have hrg:=ZoU (m:=cells) (R:=R) htC (i-t) (by omega);by_cases hlt:i<R
  ·have hE:=hid (show lsJ cells C t i (C-t) (lsI cells C t (i-t))=lsI cells C t (i+1-t) by rw[show i+1-t=(i-t)+1 by omega];simp only[lsI];rw[show t+(i-t)=i by omega]);generalize lsI cells C t (i-t)=b0 at *;go_wp2;go_loopw [7,8,10] (fun x y q v=>Grow w v/\ ∃ j:Nat,t<=j/\j<=C/\q=Yv Yi j/\x=Yv Yi (lsJ cells C t i (j-t) b0).1/\y=Yv Yi (lsJ cells C t i (j-t) b0).2) (fun _ _ q _=>C-(intOf q).toNat);case atStart=>exact ⟨hG,t,Nat.le_refl _,htC,rfl,by rw[Nat.sub_self];rfl,by rw[Nat.sub_self];rfl⟩
   case round=>
    clear c0 c1 c2 Wr hG;obtain ⟨hG,j,htj,hj,rfl,rfl,rfl⟩:=hrel;have Wr:=hW.grow hG;have hr:=hr0.grow hG;obtain ⟨c0,c1,c2, -⟩:=Wr.g;have hrj:=Zll (m:=cells) (t:=t) hlt hrg (j-t) (by omega);have hstep:=hid (show lsJ cells C t i (j+1-t) b0=if ZbQ cells C (lsJ cells C t i (j-t) b0) i j=true then ((i:Int),(j:Int)) else lsJ cells C t i (j-t) b0 by rw[show j+1-t=(j-t)+1 by omega];simp only[lsJ];rw[show t+(j-t)=j by omega]);by_cases hdC:j<C
    ·have hni:i*C+j<R*C:=Zr hdC hlt;have hx:=Zo hn C i j;have Hgc:=hid (show cells[i*C+j]? =some (cell cells C i j) from ZM (by rw[Hl.out];exact hni));go_wp2_with fail;refine (Zai aa _ ca C i j (i*C+j) (R:Int) _ cells _ hr rfl Hgc.out (by omega) (by omega) (by omega) (by omega)).mono ?_;rintro e w3 ⟨rfl,hG3⟩;clear hni Hgc;go_wp2_with fail;refine (Zdb _ _ (by omega)).mono ?_;rintro e _ ⟨rfl,rfl⟩;replace hr:=hr.grow hG3;replace Wr:=Wr.grow hG3;have hGn:=hG.trans hG3;clear c0 c1 c2 hG hG3;obtain ⟨c0,c1,c2, -⟩:=Wr.g;generalize lsJ cells C t i (j-t) b0=b at *;by_cases hx0:cell cells C i j=0
     ·have HL:=hid (show lsJ cells C t i (j+1-t) b0=b by rw[hstep.out,Znn hx0];rfl);rw[hx0];clear hstep hx hx0;clear c0 c1 c2;go_wp2;go_roundw;case rel=>exact ⟨hGn,j+1,by omega,by omega,by go_num,by rw[HL.out]<;>try go_num,by rw[HL.out]<;>try go_num⟩
      case measure=>simp[intOf];omega
     ·rcases hrj with rfl|⟨r,c,rfl,hrR,hcC⟩
      ·have HL:=hid (show lsJ cells C t i (j+1-t) b0=((i:Int),(j:Int)) by rw[hstep.out,ZmL hx0,if_pos rfl]);have q1:(((cell cells C i j).natAbs:Int)!=0)=true:=(by simp;omega);clear hstep;generalize cell cells C i j=x at *;clear c0 c1 c2;go_wp2;go_roundw;case rel=>exact ⟨hGn,j+1,by omega,by omega,by go_num,by rw[HL.out]<;>try go_num,by rw[HL.out]<;>try go_num⟩
       case measure=>simp[intOf];omega
      ·have hbe:=Zqz (r:=r) (c:=c) hx0;have hnp:r*C+c<R*C:=Zr hcC hrR;have hy:=Zo hn C r c;have Hgp:=hid (show cells[r*C+c]? =some (cell cells C r c) from ZM (by rw[Hl.out];exact hnp));have q1:(((cell cells C i j).natAbs:Int)!=0)=true:=(by simp;omega);have q2:decide ((r:Int)<0)=false:=decide_eq_false (by omega);rw[hbe] at hstep;clear hbe;generalize cell cells C i j=x at *;go_wp2_with fail;refine (Zai aa _ ca C r c (r*C+c) (R:Int) _ cells _ hr rfl Hgp.out (by omega) (by omega) (by omega) (by omega)).mono ?_;rintro e w4 ⟨rfl,hG4⟩;clear hnp Hgp;generalize cell cells C r c=y at *;go_wp2_with fail;refine (Zdb _ _ (by omega)).mono ?_;rintro e _ ⟨rfl,rfl⟩;replace hGn:=hGn.trans hG4;by_cases hc:x.natAbs<y.natAbs
       ·have HL:=hid (show lsJ cells C t i (j+1-t) b0=((i:Int),(j:Int)) by rw[hstep.out,decide_eq_true hc,if_pos rfl]);clear hstep;clear c0 c1 c2;go_wp2;go_roundw;case rel=>exact ⟨hGn,j+1,by omega,by omega,by go_num,by rw[HL.out]<;>try go_num,by rw[HL.out]<;>try go_num⟩
        case measure=>simp[intOf];omega
       ·have HL:=hid (show lsJ cells C t i (j+1-t) b0=((r:Int),(c:Int)) by rw[hstep.out,decide_eq_false hc];rfl);clear hstep;clear c0 c1 c2;go_wp2;go_roundw;case rel=>exact ⟨hGn,j+1,by omega,by omega,by go_num,by rw[HL.out]<;>try go_num,by rw[HL.out]<;>try go_num⟩
        case measure=>simp[intOf];omega
    ·have hdE:j=C:=(by omega);subst hdE;clear hstep hrj;go_wp2;go_roundw;case rel=>exact ⟨hG,i+1,by omega,by omega,by go_num,by rw[hE.out],by rw[hE.out]⟩
     case measure=>simp[intOf];omega
  ·have hkE:i=R:=(by omega);subst hkE;go_wp2
   go_ret3
   exact ⟨rfl,hG⟩

end Go.Proofs.YtjpcgofidijigaaGreatDoor
