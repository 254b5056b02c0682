/- The program's work: a matrix and the operations done to it. -/
import Derived.Test.YtjpcgofidijigaaGreatDoorZHermF
set_option maxHeartbeats 8000000
set_option maxRecDepth 100000
namespace Go.Proofs.YtjpcgofidijigaaGreatDoor
open Go.RowKit
open Lib (hid)
open Go.Value renaming int->Yv
open Go.IntKind renaming i64->Yi
variable {C R ca cr cu g:Nat} {S:Nat->Prop} {aa ar au:Option Addr} {bad:Bool} {w w':World}
theorem ZoN (g o j:Nat):(⟨g,o,none⟩:Addr).add j=⟨g,o+j,none⟩:=by unfold Addr.add;split<;>simp_all
theorem StT.loadAt {P:Program} {ty:TypeId} {cs:List Value} (h:StT P ty cs.length) {o:Nat} (hc: ∀ j v,cs[j]? =some v->w.cell? ⟨g,o+j,none⟩=some v):(loadVar ty ⟨g,o,none⟩).run P w= .ok (.agg cs.toArray) w:=by
 obtain ⟨fs,hu,hi⟩:=h;have hl:(loadCells ⟨g,o,none⟩ cs.length).run P w= .ok cs.toArray w:=
  run_loadCells_list (P:=P) w ⟨g,o,none⟩ cs (fun j v hv=>by rw[ZoN];exact hc j v hv)
 cases hq:P.info? ty with
 |none=>simp[hq] at hi
 |some i=>
  have hs:i.size=cs.length:=by simpa [hq] using hi
  have hagg:(isAgg ty).run P w= .ok true w:=by unfold isAgg;rw[Sem.run_bind,run_underlying hu w];simp
  simp[loadVar,Sem.run_bind,hagg,sizeOf,typeInfo,hq,hs,hl]
section
variable {P:Program} {C:World->Prop} {o:Oper} {a:Act} {K:Act->Prop}
theorem Zi {ty:TypeId} {x:Operand} {g f:Nat} {u v z:Value} (hty:StT P ty 3) (ho:o.op= .load ty x) (hx:a.eval x= .pointer (some ⟨g,f,none⟩))
  (hv: ∀ w',C w'->w'.cell? ⟨g,f,none⟩=some u/\w'.cell? ⟨g,f+1,none⟩=some v/\w'.cell? ⟨g,f+2,none⟩=some z) (hk:K (a.put o.dst (.agg #[u,v,z]))):o.quiet P a C K:=by
 refine ⟨.agg #[u,v,z],fun w hw=> ?_,hk⟩;obtain ⟨h0,h1,h2⟩:=hv w hw;have h:=StT.loadAt (cs:=[u,v,z]) hty (w:=w) (g:=g) (o:=f) (fun j c hj=>by
  match j,hj with
  |0,hj=>simp at hj;subst hj;exact h0
  |1,hj=>simp at hj;subst hj;exact h1
  |2,hj=>simp at hj;subst hj;exact h2)
 unfold Oper.quietAt execOp;simp[ho,hx,Instr.loadAt,Instr.sureAddr,h,Oper.quietUpon]
end
theorem ZbA:StT Tryz.prog 148 4:=⟨_,Tryz.underlying148,by kernel_rfl⟩
def WkC (R C:Nat) (aa au ar:Option Addr) (ca cu cr:Nat) (bad:Bool):Array Value:= #[Yv Yi R,Yv Yi C, .slice aa (R*C) ca,Yv Yi R,Yv Yi R, .slice au (R*R) cu,Yv Yi C,Yv Yi C, .slice ar (C*C) cr, .bool bad]
def Wk (w:World) (g R C:Nat) (aa au ar:Option Addr) (ca cu cr:Nat) (bad:Bool):Prop:=Blk w g (WkC R C aa au ar ca cu cr bad) 153
structure WkF (w:World) (g R C:Nat) (aa au:Option Addr) (ca cu:Nat) (bad:Bool):Prop where
 c0:w.cell? ⟨g,0,none⟩=some (Yv Yi R)
 c1:w.cell? ⟨g,1,none⟩=some (Yv Yi C)
 c2:w.cell? ⟨g,2,none⟩=some (.slice aa (R*C) ca)
 c3:w.cell? ⟨g,3,none⟩=some (Yv Yi R)
 c4:w.cell? ⟨g,4,none⟩=some (Yv Yi R)
 c5:w.cell? ⟨g,5,none⟩=some (.slice au (R*R) cu)
 c9:w.cell? ⟨g,9,none⟩=some (.bool bad)
 f9:w.frozen? ⟨g,9,none⟩=false
theorem Wk.f (h:Wk w g R C aa au ar ca cu cr bad):WkF w g R C aa au ca cu bad:=
 ⟨h.cell 0,h.cell 1,h.cell 2,h.cell 3,h.cell 4,h.cell 5,h.cell 9,h.free 9⟩
theorem Wk.keep (h:Wk w g R C aa au ar ca cu cr bad) (hk:Keep S w w') (hS:S g):Wk w' g R C aa au ar ca cu cr bad:=Blk.keep h hk hS
theorem Wk.grow (h:Wk w g R C aa au ar ca cu cr bad) (hk:Grow w w'):Wk w' g R C aa au ar ca cu cr bad:=Blk.grow h hk
theorem Wk.spoil (h:Wk w g R C aa au ar ca cu cr bad):Wk (w.setCell ⟨g,9,none⟩ (.bool true)) g R C aa au ar ca cu cr true:=Blk.set h 9 (.bool true)
theorem ZbM (kd t:Int) (i p R:Nat) (w:World) (hi:i<R) (hp:p<R) (hR:R<=24) (ht: -400000000<=t/\t<=400000000) (hk:(kd=0/\i≠p/\t=0)\/(kd=1/\i=p/\t=0)\/(kd=2/\i≠p)):
  Calls Tryz.prog 149 #[.agg #[Yv Yi kd,Yv Yi i,Yv Yi p,Yv Yi t],Yv Yi R] w fun e w'=>e= .returned (.bool true)/\Grow w w':=by
 have Ht:=hid (ZI.2 ht);rcases hk with ⟨rfl,h1,rfl⟩|⟨rfl,h1,rfl⟩|⟨rfl,h1⟩
 ·have q1:((i:Int)!=(p:Int))=true:=by simp;omega
  go_enter Tryz.func149,Tryz.ntmps149;go_wp2_with fail;refine (ZQ _ _).mono ?_;rintro e _ ⟨rfl,rfl⟩;rw[Ht.out];go_wp2;go_ret;exact ⟨rfl,(Grow.refl w).alloc _ _⟩
 ·subst h1;have q1:((i:Int)==(i:Int))=true:=by simp
  go_enter Tryz.func149,Tryz.ntmps149;go_wp2_with fail;refine (ZQ _ _).mono ?_;rintro e _ ⟨rfl,rfl⟩;rw[Ht.out];go_wp2;go_ret;exact ⟨rfl,(Grow.refl w).alloc _ _⟩
 ·have q1:((i:Int)!=(p:Int))=true:=by simp;omega
  go_enter Tryz.func149,Tryz.ntmps149;go_wp2_with fail;refine (ZQ _ _).mono ?_;rintro e _ ⟨rfl,rfl⟩;rw[Ht.out];go_wp2;go_ret;exact ⟨rfl,(Grow.refl w).alloc _ _⟩
theorem Zgx (g R C:Nat) (aa au ar:Option Addr) (ca cu cr:Nat) (kd i p t:Int) (s:HS) (fa fu:List Int) (b1 b2:Bool) (w:World) (hW:Wk w g R C aa au ar ca cu cr false) (h:Two w aa au (R*C) (R*R) ca cu s) (ngA:blk aa≠some g) (ngU:blk au≠some g)
  (h0: ∀ w,Calls Tryz.prog 149 #[.agg #[Yv Yi kd,Yv Yi i,Yv Yi p,Yv Yi t],Yv Yi R] w fun e w'=>e= .returned (.bool true)/\Grow w w')
  (h1: ∀ w,Own w 3 1 aa (R*C) ca (ints s.1)->Calls Tryz.prog 107 #[.agg #[Yv Yi R,Yv Yi C, .slice aa (R*C) ca], .agg #[Yv Yi kd,Yv Yi i,Yv Yi p,Yv Yi t]] w fun e w'=> ∃ m',e= .returned (.bool b1)/\Own w' 3 1 aa (R*C) ca (ints m')/\Keep (fun q=>blk aa≠some q) w w'/\(b1=true->m'=fa))
  (h2: ∀ w,Own w 3 1 au (R*R) cu (ints s.2)->Calls Tryz.prog 107 #[.agg #[Yv Yi R,Yv Yi R, .slice au (R*R) cu], .agg #[Yv Yi kd,Yv Yi i,Yv Yi p,Yv Yi t]] w fun e w'=> ∃ m',e= .returned (.bool b2)/\Own w' 3 1 au (R*R) cu (ints m')/\Keep (fun q=>blk au≠some q) w w'/\(b2=true->m'=fu)):
  Calls Tryz.prog 114 #[.pointer (some ⟨g,0,none⟩), .agg #[Yv Yi kd,Yv Yi i,Yv Yi p,Yv Yi t]] w fun e w'=>e= .returned (.tuple #[])/\ ∃ s',Wk w' g R C aa au ar ca cu cr (!(b1&&b2))/\Two w' aa au (R*C) (R*R) ca cu s'/\((b1&&b2)=true->s'=(fa,fu))/\Keep (fun q=>blk aa≠some q/\blk au≠some q/\q≠g) w w':=by
 have hGz:=(Grow.refl w).alloc #[Yv Yi kd,Yv Yi i,Yv Yi p,Yv Yi t] 148;have bX:=Blk.new w #[Yv Yi kd,Yv Yi i,Yv Yi p,Yv Yi t] 148;have nX:blk aa≠some w.heap.size/\blk au≠some w.heap.size:=⟨fun e=>by have:=h.oa.lt e;omega,fun e=>by have:=h.ou.lt e;omega⟩;have hgX:g<w.heap.size:=Blk.lt hW;have W2:=hW.grow hGz;have T2:=h.grow hGz;clear hW h;generalize hw2:w.alloc (.cells #[Yv Yi kd,Yv Yi i,Yv Yi p,Yv Yi t] 148)=w2 at *;have Hw2:=hid hw2;clear hw2;have wf:=W2.f;have ng:blk aa≠some g/\blk au≠some g:=⟨ngA,ngU⟩;go_enter Tryz.func114,Tryz.ntmps114;go_wp2;rw[Hw2.out];refine Zg (S:=(Keep (fun q=>blk aa≠some q/\blk au≠some q) w2)) [([0,1,2,3,4,5,6,7,8,9,10],some 11),([12,13,14,15,16,17,18,19],some 20),([21,22,23,24,25,26,27,28],some 29),([30,31],none)] Zm (by kernel_rfl) (fun _ _ _ _ _ h=>h) (Keep.refl _ _).drew ?_;show wpQuiet _ _ _ _ [_,_,_,_,_,_,_,_,_,_,_] _;repeat (first |(go_big_quiet_want;(first |refine Za ZbF rfl rfl (fun w' hG=>hG.cell ng wf.c9) ?_|refine Za Zv rfl rfl (fun w' hG=>hG.cell ng wf.c0) ?_|refine Zag (cs:= #[Yv Yi kd,Yv Yi i,Yv Yi p,Yv Yi t]) ZbA rfl rfl (fun w' hG=>bX.keep hG nX) ?_|refine Zi Zc rfl rfl (fun w' hG=>⟨hG.cell ng wf.c0,hG.cell ng wf.c1,hG.cell ng wf.c2⟩) ?_|refine Zi Zc rfl rfl (fun w' hG=>⟨hG.cell ng wf.c3,hG.cell ng wf.c4,hG.cell ng wf.c5⟩) ?_);go_big_quiet_on;simp only[putP])|go_big_quiet_step (exact fun _=>rfl))
 refine wpQuiet_nil ?_;refine Zf rfl (fun K hK=> ?_);go_wp2_with fail;refine (h0 _).mono ?_;rintro e w3 ⟨rfl,hG3⟩;have hG23:=(Grow.refl w2).drew.trans hG3;go_wp2_with fail;refine hK _ _ (hG23.any) ?_;clear hK K;show wpQuiet _ _ _ _ [_,_,_,_,_,_,_,_] _;try (conv=>arg 6;simp only[putP])
 repeat (first |(go_big_quiet_want;(first |refine Za ZbF rfl rfl (fun w' hG=>hG.cell ng wf.c9) ?_|refine Za Zv rfl rfl (fun w' hG=>hG.cell ng wf.c0) ?_|refine Zag (cs:= #[Yv Yi kd,Yv Yi i,Yv Yi p,Yv Yi t]) ZbA rfl rfl (fun w' hG=>bX.keep hG nX) ?_|refine Zi Zc rfl rfl (fun w' hG=>⟨hG.cell ng wf.c0,hG.cell ng wf.c1,hG.cell ng wf.c2⟩) ?_|refine Zi Zc rfl rfl (fun w' hG=>⟨hG.cell ng wf.c3,hG.cell ng wf.c4,hG.cell ng wf.c5⟩) ?_);go_big_quiet_on;simp only[putP])|go_big_quiet_step (exact fun _=>rfl))
 refine wpQuiet_nil ?_;refine Zf rfl (fun K hK=> ?_);go_wp2_with fail;refine (h1 _ (T2.oa.grow hG23)).mono ?_;rintro e w4 ⟨m1,rfl,hA4,hK4,hb1⟩;have hK24:Keep (fun q=>blk aa≠some q/\blk au≠some q) w2 w4:=hG23.any.trans (hK4.mono fun q _ hb=>hb.1);have hU4:=(T2.ou.grow hG23).keep hK4 (fun q hq _ e=>T2.ne q e hq);cases b1 with
 |false=>
  go_wp2_with fail;refine hK _ _ (hK24) ?_;clear hK K;show wpQuiet _ _ _ _ [_,_,_,_,_,_,_,_] _;try (conv=>arg 6;simp only[putP])
  repeat (first |(go_big_quiet_want;(first |refine Za ZbF rfl rfl (fun w' hG=>hG.cell ng wf.c9) ?_|refine Za Zv rfl rfl (fun w' hG=>hG.cell ng wf.c0) ?_|refine Zag (cs:= #[Yv Yi kd,Yv Yi i,Yv Yi p,Yv Yi t]) ZbA rfl rfl (fun w' hG=>bX.keep hG nX) ?_|refine Zi Zc rfl rfl (fun w' hG=>⟨hG.cell ng wf.c0,hG.cell ng wf.c1,hG.cell ng wf.c2⟩) ?_|refine Zi Zc rfl rfl (fun w' hG=>⟨hG.cell ng wf.c3,hG.cell ng wf.c4,hG.cell ng wf.c5⟩) ?_);go_big_quiet_on;simp only[putP])|go_big_quiet_step (exact fun _=>rfl))
  refine wpQuiet_nil ?_;refine Zli rfl (hK24) ?_;show wpQuiet _ _ _ _ [_,_] _;try (conv=>arg 6;simp only[putP])
  repeat (first |(go_big_quiet_want;(first |refine Za ZbF rfl rfl (fun w' hG=>hG.cell ng wf.c9) ?_|refine Za Zv rfl rfl (fun w' hG=>hG.cell ng wf.c0) ?_|refine Zag (cs:= #[Yv Yi kd,Yv Yi i,Yv Yi p,Yv Yi t]) ZbA rfl rfl (fun w' hG=>bX.keep hG nX) ?_|refine Zi Zc rfl rfl (fun w' hG=>⟨hG.cell ng wf.c0,hG.cell ng wf.c1,hG.cell ng wf.c2⟩) ?_|refine Zi Zc rfl rfl (fun w' hG=>⟨hG.cell ng wf.c3,hG.cell ng wf.c4,hG.cell ng wf.c5⟩) ?_);go_big_quiet_on;simp only[putP])|go_big_quiet_step (exact fun _=>rfl))
  refine wpQuiet_nil ?_;refine Zk ?_;have W4:=W2.keep hK24 ng;obtain ⟨_,_,_,_,_,_,c9,f9⟩:=W4.f;go_wp2;exact bodyPost_end (results_none rfl _ _ _) rfl ⟨rfl,(m1,s.2),W4.spoil,Two.keep (T:=fun q=>q≠g) ⟨hA4,hU4,T2.ne⟩ ((Keep.refl _ w4).setCell (p:=⟨g,9,none⟩) (fun _ e=>e rfl) _) (fun q hq e=>ngA (e▸hq)) (fun q hq e=>ngU (e▸hq)),(fun h=>by cases h),(hGz.any.trans (hK24.mono fun q _ hb=>⟨hb.1,hb.2.1⟩)).trans ((Keep.refl _ w4).setCell (p:=⟨g,9,none⟩) (fun _ e=>e.2.2 rfl) _)⟩
 |true=>
  have Hb1:=hid (hb1 rfl);clear hb1;go_wp2_with fail;refine hK _ _ (hK24) ?_;clear hK K;show wpQuiet _ _ _ _ [_,_,_,_,_,_,_,_] _;try (conv=>arg 6;simp only[putP])
  repeat (first |(go_big_quiet_want;(first |refine Za ZbF rfl rfl (fun w' hG=>hG.cell ng wf.c9) ?_|refine Za Zv rfl rfl (fun w' hG=>hG.cell ng wf.c0) ?_|refine Zag (cs:= #[Yv Yi kd,Yv Yi i,Yv Yi p,Yv Yi t]) ZbA rfl rfl (fun w' hG=>bX.keep hG nX) ?_|refine Zi Zc rfl rfl (fun w' hG=>⟨hG.cell ng wf.c0,hG.cell ng wf.c1,hG.cell ng wf.c2⟩) ?_|refine Zi Zc rfl rfl (fun w' hG=>⟨hG.cell ng wf.c3,hG.cell ng wf.c4,hG.cell ng wf.c5⟩) ?_);go_big_quiet_on;simp only[putP])|go_big_quiet_step (exact fun _=>rfl))
  refine wpQuiet_nil ?_;refine Zf rfl (fun K hK=> ?_);go_wp2_with fail;refine (h2 _ hU4).mono ?_;rintro e w5 ⟨m2,rfl,hU5,hK5,hb2⟩;have hK25:Keep (fun q=>blk aa≠some q/\blk au≠some q) w2 w5:=hK24.trans (hK5.mono fun q _ hb=>hb.2);have hA5:=hA4.keep hK5 (fun q hq _ e=>T2.ne q hq e);have W5:=W2.keep hK25 ng;obtain ⟨_,_,_,_,_,_,c9,f9⟩:=W5.f;cases b2 with
  |false=>go_wp2_with fail;refine hK _ _ (hK25) ?_;clear hK K;show wpQuiet _ _ _ _ [_,_] _;(try (conv=>arg 6;simp only[putP]));(repeat (first |(go_big_quiet_want;(first |refine Za ZbF rfl rfl (fun w' hG=>hG.cell ng wf.c9) ?_|refine Za Zv rfl rfl (fun w' hG=>hG.cell ng wf.c0) ?_|refine Zag (cs:= #[Yv Yi kd,Yv Yi i,Yv Yi p,Yv Yi t]) ZbA rfl rfl (fun w' hG=>bX.keep hG nX) ?_|refine Zi Zc rfl rfl (fun w' hG=>⟨hG.cell ng wf.c0,hG.cell ng wf.c1,hG.cell ng wf.c2⟩) ?_|refine Zi Zc rfl rfl (fun w' hG=>⟨hG.cell ng wf.c3,hG.cell ng wf.c4,hG.cell ng wf.c5⟩) ?_);go_big_quiet_on;simp only[putP])|go_big_quiet_step (exact fun _=>rfl)));refine wpQuiet_nil ?_;refine Zk ?_;go_wp2;exact bodyPost_end (results_none rfl _ _ _) rfl ⟨rfl,(m1,m2),W5.spoil,Two.keep (T:=fun q=>q≠g) ⟨hA5,hU5,T2.ne⟩ ((Keep.refl _ w5).setCell (p:=⟨g,9,none⟩) (fun _ e=>e rfl) _) (fun q hq e=>ngA (e▸hq)) (fun q hq e=>ngU (e▸hq)),(fun h=>by cases h),(hGz.any.trans (hK25.mono fun q _ hb=>⟨hb.1,hb.2.1⟩)).trans ((Keep.refl _ w5).setCell (p:=⟨g,9,none⟩) (fun _ e=>e.2.2 rfl) _)⟩
  |true=>have Hb2:=hid (hb2 rfl);clear hb2;go_wp2_with fail;refine hK _ _ (hK25) ?_;clear hK K;show wpQuiet _ _ _ _ [_,_] _;(try (conv=>arg 6;simp only[putP]));(repeat (first |(go_big_quiet_want;(first |refine Za ZbF rfl rfl (fun w' hG=>hG.cell ng wf.c9) ?_|refine Za Zv rfl rfl (fun w' hG=>hG.cell ng wf.c0) ?_|refine Zag (cs:= #[Yv Yi kd,Yv Yi i,Yv Yi p,Yv Yi t]) ZbA rfl rfl (fun w' hG=>bX.keep hG nX) ?_|refine Zi Zc rfl rfl (fun w' hG=>⟨hG.cell ng wf.c0,hG.cell ng wf.c1,hG.cell ng wf.c2⟩) ?_|refine Zi Zc rfl rfl (fun w' hG=>⟨hG.cell ng wf.c3,hG.cell ng wf.c4,hG.cell ng wf.c5⟩) ?_);go_big_quiet_on;simp only[putP])|go_big_quiet_step (exact fun _=>rfl)));refine wpQuiet_nil ?_;refine Zk ?_;go_wp2;exact bodyPost_end (results_none rfl _ _ _) rfl ⟨rfl,(m1,m2),W5,⟨hA5,hU5,T2.ne⟩,(fun _=>by rw[Hb1.out,Hb2.out]),hGz.any.trans (hK25.mono fun q _ hb=>⟨hb.1,hb.2.1⟩)⟩
theorem ZM {m:List Int} {k:Nat} (h:k<m.length):m[k]? =some (m.getD k 0):=by simp[List.getD,List.getElem?_eq_getElem h]
theorem ZiE (g R C i p:Nat) (aa au ar:Option Addr) (ca cu cr:Nat) (s:HS) (w:World) (hW:Wk w g R C aa au ar ca cu cr false) (h:Two w aa au (R*C) (R*R) ca cu s) (ngA:blk aa≠some g) (ngU:blk au≠some g) (hs:Hs C R s) (hi:i<R) (hp:p<R) (hip:i≠p) (hR:R<=24) (hC:C<=24):
  Calls Tryz.prog 114 #[.pointer (some ⟨g,0,none⟩), .agg #[Yv Yi 0,Yv Yi i,Yv Yi p,Yv Yi 0]] w fun e w'=>e= .returned (.tuple #[])/\Wk w' g R C aa au ar ca cu cr false/\Two w' aa au (R*C) (R*R) ca cu (sw2 C R i p s)/\Keep (fun q=>blk aa≠some q/\blk au≠some q/\q≠g) w w':=by
 refine (Zgx g R C aa au ar ca cu cr 0 i p 0 s (swR s.1 C i p) (swR s.2 R i p) true true w hW h ngA ngU (fun w=>ZbM 0 0 i p R w hi hp hR (by omega) (.inl ⟨rfl,hip,rfl⟩))
  (fun w hw=>(Zbu aa _ ca C i p R 0 s.1 w hw hs.la hi hp hip (by omega) (by omega) (by omega)).mono fun e w' ⟨h1,h2,h3⟩=>⟨_,h1,h2,h3,fun _=>rfl⟩)
  (fun w hw=>(Zbu au _ cu R i p R 0 s.2 w hw hs.lu hi hp hip (by omega) (by omega) (by omega)).mono fun e w' ⟨h1,h2,h3⟩=>⟨_,h1,h2,h3,fun _=>rfl⟩)).mono ?_
 rintro e w' ⟨rfl,s',h1,h2,h3,h4⟩;rw[h3 rfl] at h2;exact ⟨rfl,h1,h2,h4⟩
theorem ZmQ (g R C i:Nat) (aa au ar:Option Addr) (ca cu cr:Nat) (s:HS) (w:World) (hW:Wk w g R C aa au ar ca cu cr false) (h:Two w aa au (R*C) (R*R) ca cu s) (ngA:blk aa≠some g) (ngU:blk au≠some g) (hs:Hs C R s) (hi:i<R) (hR:R<=24) (hC:C<=24):
  Calls Tryz.prog 114 #[.pointer (some ⟨g,0,none⟩), .agg #[Yv Yi 1,Yv Yi i,Yv Yi i,Yv Yi 0]] w fun e w'=>e= .returned (.tuple #[])/\Wk w' g R C aa au ar ca cu cr false/\Two w' aa au (R*C) (R*R) ca cu (ZgF C R i s)/\Keep (fun q=>blk aa≠some q/\blk au≠some q/\q≠g) w w':=by
 refine (Zgx g R C aa au ar ca cu cr 1 i i 0 s (Zdv s.1 C i) (Zdv s.2 R i) true true w hW h ngA ngU (fun w=>ZbM 1 0 i i R w hi hi hR (by omega) (.inr (.inl ⟨rfl,rfl,rfl⟩)))
  (fun w hw=>(ZiP aa _ ca C i R 0 s.1 w hw hs.la hi hs.na (by omega) (by omega)).mono fun e w' ⟨h1,h2,h3⟩=>⟨_,h1,h2,h3,fun _=>rfl⟩)
  (fun w hw=>(ZiP au _ cu R i R 0 s.2 w hw hs.lu hi hs.nu (by omega) (by omega)).mono fun e w' ⟨h1,h2,h3⟩=>⟨_,h1,h2,h3,fun _=>rfl⟩)).mono ?_
 rintro e w' ⟨rfl,s',h1,h2,h3,h4⟩;rw[h3 rfl] at h2;exact ⟨rfl,h1,h2,h4⟩
def ZkV (C R i p:Nat) (t:Int) (s:HS) (b:Bool) (s':HS):Prop:=(b=false/\Zb8 C R i p t s=some s')\/(b=true/\Zb8 C R i p t s=none)
theorem ZjA (g R C i p:Nat) (t:Int) (aa au ar:Option Addr) (ca cu cr:Nat) (s:HS) (w:World) (hW:Wk w g R C aa au ar ca cu cr false) (h:Two w aa au (R*C) (R*R) ca cu s) (ngA:blk aa≠some g) (ngU:blk au≠some g) (hs:Hs C R s) (hi:i<R) (hp:p<R) (hip:i≠p) (ht: -400000000<=t/\t<=400000000) (hR:R<=24) (hC:C<=24):
  Calls Tryz.prog 148 #[.pointer (some ⟨g,0,none⟩),Yv Yi i,Yv Yi p,Yv Yi t] w fun e w'=>e= .returned (.tuple #[])/\ ∃ b s',Wk w' g R C aa au ar ca cu cr b/\Two w' aa au (R*C) (R*R) ca cu s'/\ZkV C R i p t s b s'/\Keep (fun q=>blk aa≠some q/\blk au≠some q/\q≠g) w w':=by
 go_enter Tryz.func148,Tryz.ntmps148;go_wp2_with fail
 refine (Zgx g R C aa au ar ca cu cr 2 i p t s (addR s.1 C i p t) (addR s.2 R i p t) (Z8 s.1 C i p t) (Z8 s.2 R i p t) w hW h ngA ngU (fun w=>ZbM 2 t i p R w hi hp hR ht (.inr (.inr ⟨rfl,hip⟩)))
  (fun w hw=>Zbq aa _ ca C i p R t s.1 w hw (ZaJ rfl hi) (ZaJ rfl hp) hip hs.na ht (by omega) (by omega) (by omega))
  (fun w hw=>Zbq au _ cu R i p R t s.2 w hw (ZaJ rfl hi) (ZaJ rfl hp) hip hs.nu ht (by omega) (by omega) (by omega))).mono ?_
 rintro e w' ⟨rfl,s',h1,h2,h3,h4⟩;have hA:ZkV C R i p t s (!(Z8 s.1 C i p t&&Z8 s.2 R i p t)) s':=by
  unfold ZkV Zb8;cases hb:(Z8 s.1 C i p t&&Z8 s.2 R i p t) with
  |true=>exact .inl ⟨rfl,by rw[if_pos rfl,h3 hb]⟩
  |false=>exact .inr ⟨rfl,by rw[if_neg (by simp)]⟩
 go_wp2;exact bodyPost_end (results_none rfl _ _ _) rfl ⟨rfl,_,s',h1,h2,hA,h4⟩
theorem Zkg (g R C t j:Nat) (aa au ar:Option Addr) (ca cu cr:Nat) (s:HS) (w:World) (hW:Wk w g R C aa au ar ca cu cr false) (h:Two w aa au (R*C) (R*R) ca cu s) (hs:Hs C R s) (ht:t<=R) (hj:j<C) (hR:R<=24) (hC:C<=24):
  Calls Tryz.prog 167 #[.pointer (some ⟨g,0,none⟩),Yv Yi t,Yv Yi j] w fun e w'=>e= .returned (Yv Yi (ZE s.1 C j t (R-t)))/\Grow w w':=by
 have hRC:R*C<=24*24:=Nat.mul_le_mul hR hC;have hr0:=h.oa.rdI (S:=fun _=>True) (fun _ _=>trivial) (Zy hs.na);have hl:=hs.la;have hn:=hs.na;obtain ⟨cells,hcells⟩: ∃ cells,cells=s.1:=⟨_,rfl⟩;rw[←hcells] at hr0 hl hn ⊢;have Hl:=hid hl;clear hl h hs hcells;go_enter Tryz.func167,Tryz.ntmps167;go_wp2;go_loopw [7,8] (fun b q wr=>Grow w wr/\ ∃ k:Nat,k<=R-t/\q=Yv Yi ((t+k:Nat):Int)/\b=Yv Yi (ZE cells C j t k)) (fun _ q _=>R-(intOf q).toNat);case atStart=>exact ⟨Grow.refl _,0,Nat.zero_le _,rfl,rfl⟩
 case round=>
  obtain ⟨hG,k,hk,rfl,rfl⟩:=hrel;have hr:=hr0.grow hG;have Wr:=hW.grow hG;obtain ⟨c0,c1,c2, -⟩:=Wr.f;have hsp:=ZcT cells C j t k;by_cases hlt:t+k<R
  ·have hni:(t+k)*C+j<R*C:=Zr hj hlt;have hx:=Zo hn C (t+k) j;have hstep:=hid (show ZE cells C j t (k+1)=if cell cells C (t+k) j≠0/\(ZE cells C j t k<0\/(cell cells C (t+k) j).natAbs<(cell cells C (ZE cells C j t k).toNat j).natAbs) then ((t+k:Nat):Int) else ZE cells C j t k from rfl);have hgc:cells[(t+k)*C+j]? =some (cell cells C (t+k) j):=ZM (by rw[Hl.out];exact hni);have Hgc:=hid hgc;clear hgc;go_wp2_with fail;refine (Zai aa _ ca C (t+k) j ((t+k)*C+j) (R:Int) _ cells _ hr rfl Hgc.out (by omega) (by omega) (by omega) (by omega)).mono ?_;rintro e w3 ⟨rfl,hG3⟩;clear hni Hgc;go_wp2_with fail;refine (Zdb _ _ (by omega)).mono ?_;rintro e _ ⟨rfl,rfl⟩;replace hr:=hr.grow hG3;replace Wr:=Wr.grow hG3;have hGn:=hG.trans hG3;clear c0 c1 c2 hG hG3;obtain ⟨c0,c1,c2, -⟩:=Wr.f;generalize hxc:cell cells C (t+k) j=x at *;clear hxc;by_cases hx0:x=0
   ·have HL:=hid (show ZE cells C j t (k+1)=ZE cells C j t k by rw[hstep.out,if_neg (by simp[hx0])]);subst hx0;clear hstep;generalize ZE cells C j t k=L at *;go_wp2;go_roundw;case rel=>exact ⟨hGn,k+1,by omega,by go_num,by rw[HL.out]<;>try go_num⟩
    case measure=>simp[intOf];omega
   ·have q1:(((x.natAbs:Nat):Int)!=0)=true:=(by simp;omega);have q1':((x.natAbs:Nat):Int)≠0:=(by omega);rcases hsp with ⟨hL,_⟩|⟨p,hL,hp1,hp2,hp3,_⟩
    ·have HL:=hid (show ZE cells C j t (k+1)=((t+k:Nat):Int) by rw[hstep.out,if_pos ⟨hx0, .inl (by omega)⟩]);clear hstep;rw[hL];clear hL;go_wp2;go_roundw;case rel=>exact ⟨hGn,k+1,by omega,by go_num,by rw[HL.out]<;>try go_num⟩
     case measure=>simp[intOf];omega
    ·have hnp:p*C+j<R*C:=Zr hj (by omega);have hy:=Zo hn C p j;have hst2:=hid (show ZE cells C j t (k+1)=if x.natAbs<(cell cells C p j).natAbs then ((t+k:Nat):Int) else (p:Int) by
      rw[hstep.out,hL,Int.toNat_natCast];by_cases hc:x.natAbs<(cell cells C p j).natAbs
      ·rw[if_pos ⟨hx0, .inr hc⟩,if_pos hc]
      ·rw[if_neg (by rintro ⟨_,h|h⟩<;>omega),if_neg hc])
     have hgp:cells[p*C+j]? =some (cell cells C p j):=ZM (by rw[Hl.out];exact hnp);have Hgp:=hid hgp;clear hgp;rw[hL];have q2:decide ((p:Int)<0)=false:=decide_eq_false (by omega);clear hL hstep hp3;go_wp2_with fail;refine (Zai aa _ ca C p j (p*C+j) (R:Int) _ cells _ hr rfl Hgp.out (by omega) (by omega) (by omega) (by omega)).mono ?_;rintro e w4 ⟨rfl,hG4⟩;clear hnp Hgp;generalize cell cells C p j=y at *;go_wp2_with fail;refine (Zdb _ _ (by omega)).mono ?_;rintro e _ ⟨rfl,rfl⟩;replace hGn:=hGn.trans hG4;by_cases hc:x.natAbs<y.natAbs
     ·have HL:=hid (show ZE cells C j t (k+1)=((t+k:Nat):Int) by rw[hst2.out,if_pos hc]);clear hst2;go_wp2;go_roundw;case rel=>exact ⟨hGn,k+1,by omega,by go_num,by rw[HL.out]<;>try go_num⟩
      case measure=>simp[intOf];omega
     ·have HL:=hid (show ZE cells C j t (k+1)=(p:Int) by rw[hst2.out,if_neg hc]);clear hst2;go_wp2;go_roundw;case rel=>exact ⟨hGn,k+1,by omega,by go_num,by rw[HL.out]<;>try go_num⟩
      case measure=>simp[intOf];omega
  ·have hkr:k=R-t:=(by omega);go_wp2;go_ret;exact ⟨by rw[hkr];rfl,hG⟩
theorem Znq (g R C t p j:Nat) (aa au ar:Option Addr) (ca cu cr:Nat) (s:HS) (w:World) (hW:Wk w g R C aa au ar ca cu cr false) (h:Two w aa au (R*C) (R*R) ca cu s) (hs:Hs C R s) (ht:t<=R) (hj:j<C) (hR:R<=24) (hC:C<=24):
  Calls Tryz.prog 168 #[.pointer (some ⟨g,0,none⟩),Yv Yi t,Yv Yi p,Yv Yi j] w fun e w'=>e= .returned (.bool (!ZaS s.1 C R j p t))/\Grow w w':=by
 have hRC:R*C<=24*24:=Nat.mul_le_mul hR hC;have hr0:=h.oa.rdI (S:=fun _=>True) (fun _ _=>trivial) (Zy hs.na);have hl:=hs.la;have hn:=hs.na;obtain ⟨cells,hcells⟩: ∃ cells,cells=s.1:=⟨_,rfl⟩;rw[←hcells] at hr0 hl hn ⊢;have Hl:=hid hl;clear hl h hs hcells;go_enter Tryz.func168,Tryz.ntmps168;go_wp2;go_loopw [9] (fun q wr=>Grow w wr/\ ∃ k:Nat,k<=R-t/\q=Yv Yi ((t+k:Nat):Int)/\ ∀ d,d<k->t+d≠p->cell cells C (t+d) j=0) (fun q _=>R-(intOf q).toNat);case atStart=>exact ⟨Grow.refl _,0,Nat.zero_le _,rfl,fun d hd=>by omega⟩
 case round=>
  obtain ⟨hG,k,hk,rfl,hall⟩:=hrel;have Hall:=hid hall;clear hall;have hr:=hr0.grow hG;have Wr:=hW.grow hG;obtain ⟨c0,c1,c2, -⟩:=Wr.f;by_cases hlt:t+k<R
  ·by_cases hkp:t+k=p
   ·have q1:((((t+k:Nat):Int))!=(p:Int))=false:=(by rw[hkp];simp);have q2:(((t:Int)+(k:Int))!=(p:Int))=false:=(by rw[←hkp];simp);have Hkp:=hid hkp;clear hkp;go_wp2;go_roundw;case rel=>
     refine ⟨hG,k+1,by omega,by go_num,fun d hd hne=> ?_⟩;by_cases e:d=k
     ·subst e;exact (hne Hkp.out).elim
     ·exact Hall.out d (by omega) hne
    case measure=>simp[intOf];omega
   ·have q1:((((t+k:Nat):Int))!=(p:Int))=true:=(by simp;omega);have q2:(((t:Int)+(k:Int))!=(p:Int))=true:=(by simp;omega);have hni:(t+k)*C+j<R*C:=Zr hj hlt;have hx:=Zo hn C (t+k) j;have hgc:cells[(t+k)*C+j]? =some (cell cells C (t+k) j):=ZM (by rw[Hl.out];exact hni);have Hgc:=hid hgc;clear hgc;have Hkp:=hid hkp;clear hkp;go_wp2_with fail;refine (Zai aa _ ca C (t+k) j ((t+k)*C+j) (R:Int) _ cells _ hr rfl Hgc.out (by omega) (by omega) (by omega) (by omega)).mono ?_;rintro e w3 ⟨rfl,hG3⟩;clear hni Hgc;by_cases hx0:cell cells C (t+k) j=0
    ·have Hx0:=hid hx0;rw[hx0];clear hx0;go_wp2;go_roundw;case rel=>
      refine ⟨hG.trans hG3,k+1,by omega,by go_num,fun d hd hne=> ?_⟩;by_cases e:d=k
      ·subst e;exact Hx0.out
      ·exact Hall.out d (by omega) hne
     case measure=>simp[intOf];omega
    ·have HF:=hid (Zpe (R:=R) (p:=p) (t:=t) (by omega) hlt Hkp.out hx0);have q3:(cell cells C (t+k) j !=0)=true:=(by simpa using hx0);go_wp2;go_ret;exact ⟨by rw[HF.out];rfl,hG.trans hG3⟩
  ·have HF:=hid (show ZaS cells C R j p t=true from ZeB.2 fun i h1 h2 h3=>by
    have:=Hall.out (i-t) (by omega);rw[show t+(i-t)=i by omega] at this;exact this h3)
   go_wp2;go_ret;exact ⟨by rw[HF.out];rfl,hG⟩
theorem Zd6 (n:Nat) (w:World) (hn:n<=24):
  Calls Tryz.prog 145 #[Yv Yi n] w fun e w'=> ∃ a,e= .returned (.tuple #[.agg #[Yv Yi n,Yv Yi n, .slice a (n*n) (n*n)], .bool true])/\Own w' 3 1 a (n*n) (n*n) (ints (idL n))/\(∀ q,blk a=some q->w.heap.size<=q)/\Grow w w':=by
 have hnn:n*n<=24*24:=Nat.mul_le_mul hn hn;have hGz:=(Grow.refl w).alloc #[Yv Yi 0,Yv Yi 0, .slice none 0 0] 34;have bZ:=Blk.new w #[Yv Yi 0,Yv Yi 0, .slice none 0 0] 34;go_enter Tryz.func145,Tryz.ntmps145;go_wp2_with fail;refine (Zb1 n n _ (by omega) (by omega)).mono ?_;rintro e w1 ⟨a,rfl,hO,hB,hG1⟩;have hB': ∀ q,blk a=some q->w.heap.size<q:=fun q hq=>by have:=hB q hq;simp at this;omega
 have hG01:=hGz.trans hG1;have bZ1:=bZ.grow hG1;have hGa:=(Grow.refl w1).alloc #[Yv Yi (n:Int),Yv Yi (n:Int), .slice a (n*n) (n*n)] 34;have bM:=Blk.new w1 #[Yv Yi (n:Int),Yv Yi (n:Int), .slice a (n*n) (n*n)] 34;have hO2:=hO.grow hGa;have bZ2:=bZ1.grow hGa;have hG02:=hG01.trans hGa;have nM:blk a≠some w1.heap.size:=fun e=>by have:=hO.lt e;omega
 have nZ:blk a≠some w.heap.size:=fun e=>by have:=hB' _ e;omega
 have hs1:=hG01.size;clear hO bZ bZ1 hG01 hGz hG1;go_wp2;go_loopw [5] (fun q wr=>Keep (fun q=>blk a≠some q) (w1.alloc (.cells #[Yv Yi (n:Int),Yv Yi (n:Int), .slice a (n*n) (n*n)] 34)) wr/\ ∃ k:Nat,k<=n/\q=Yv Yi k/\Own wr 3 1 a (n*n) (n*n) (ints (idN n k))) (fun q _=>n-(intOf q).toNat);case atStart=>exact ⟨Keep.refl _ _,0,Nat.zero_le _,rfl,by simpa [idN] using hO2⟩
 case round=>
  clear hO2;obtain ⟨hK,k,hk,rfl,hO⟩:=hrel;have bMr:=bM.keep hK nM;obtain ⟨⟨a0,a1,a2⟩, -⟩:=bMr.three;have hltM:=bMr.lt;by_cases hlt:k<n
  ·have hix:k*n+k<n*n:=Zr hlt hlt;go_wp2_with fail;refine (ZhO a (n*n) (n*n) n k k (k*n+k) (n:Int) 1 (idN n k) _ hO rfl hix (by omega) (by omega) (by omega) (by omega)).mono ?_;rintro e w3 ⟨rfl,hO3,hK3⟩;rw[←Zqa] at hO3;clear hix;go_wp2;go_roundw;case rel=>exact ⟨hK.trans hK3,k+1,by omega,by go_num,hO3⟩
   case measure=>simp[intOf];omega
  ·have hkn:k=n:=(by omega);subst hkn;have bZr:=bZ2.keep hK nZ;obtain ⟨⟨z0,z1,z2⟩,g0,g1,g2⟩:=bZr.three;have hltZ:=bZr.lt;have hKs:Keep (fun q=>q≠w.heap.size) wr (((wr.setCell ⟨w.heap.size,0,none⟩ (Yv Yi (k:Int))).setCell ⟨w.heap.size,1,none⟩ (Yv Yi (k:Int))).setCell ⟨w.heap.size,2,none⟩ (.slice a (k*k) (k*k))):=
    (((Keep.refl _ wr).setCell (fun _ e=>e rfl) _).setCell (fun _ e=>e rfl) _).setCell (fun _ e=>e rfl) _
   go_wp2;refine Zd Zc rfl rfl rfl (((bZr.set 0 _).set 1 _).set 2 _) ⟨a,rfl,hO.keep hKs (fun q hq _ e=>by have:=hB' q hq;omega),(fun q hq=>Nat.le_of_lt (hB' q hq)), ?_⟩;exact (hG02.keep hK (fun q hq e=>by have:=hB' q e;omega)).keep hKs (fun q hq e=>by omega)
theorem Zo7 {a:Option Addr} {n c:Nat} {cells:List Int} (h:RdI w S a n c cells) (hl:cells.length=R*C) (hR:R<=24) (hC:C<=24):
  Calls Tryz.prog 111 #[.agg #[Yv Yi R,Yv Yi C, .slice a n c]] w fun e w'=> ∃ g aa au ar ca,e= .returned (.pointer (some ⟨g,0,none⟩))/\Wk w' g R C aa au ar ca (R*R) (C*C) false/\Two w' aa au (R*C) (R*R) ca (R*R) (cells,idL R)/\w.heap.size<=g/\(∀ q,blk aa=some q->w.heap.size<=q/\q≠g)/\(∀ q,blk au=some q->w.heap.size<=q/\q≠g)/\Grow w w':=by
 have hRC:R*C<=24*24:=Nat.mul_le_mul hR hC;have hVM:VM w S (.agg #[Yv Yi R,Yv Yi C, .slice a n c]) {rows:=(R:Int),cols:=(C:Int),cells:=cells}:=⟨a,n,c,rfl,h,by show I64 (R:Int);unfold I64;omega,by show I64 (C:Int);unfold I64;omega⟩;have hG0:=(Grow.refl w).alloc #[Yv Yi (R:Int),Yv Yi (C:Int), .slice a n c] 34;have bM:=Blk.new w #[Yv Yi (R:Int),Yv Yi (C:Int), .slice a n c] 34;go_enter Tryz.func111,Tryz.ntmps111;go_wp2_with fail;refine (Zd6 R _ hR).mono ?_;rintro e w1 ⟨au,rfl,oU,fU,hG1⟩;have fU': ∀ q,blk au=some q->w.heap.size<q:=fun q hq=>by have:=fU q hq;simp at this;omega
 have hGu:=(Grow.refl w1).alloc #[Yv Yi (R:Int),Yv Yi (R:Int), .slice au (R*R) (R*R)] 34;have bU:=Blk.new w1 #[Yv Yi (R:Int),Yv Yi (R:Int), .slice au (R*R) (R*R)] 34;have hG2:=(hG0.trans hG1).trans hGu;have bM2:=bM.grow (hG1.trans hGu);have oU2:=oU.grow hGu;have hltM:w.heap.size<w1.heap.size:=(bM.grow hG1).lt;obtain ⟨⟨a0,a1,a2⟩, -⟩:=bM2.three;clear oU fU;go_wp2_with fail;refine (Zd6 C _ hC).mono ?_;rintro e w3 ⟨ar,rfl,oR,fR,hG3⟩;have hGr:=(Grow.refl w3).alloc #[Yv Yi (C:Int),Yv Yi (C:Int), .slice ar (C*C) (C*C)] 34;have bR:=Blk.new w3 #[Yv Yi (C:Int),Yv Yi (C:Int), .slice ar (C*C) (C*C)] 34;have hG4:=(hG2.trans hG3).trans hGr;have bM4:=bM2.grow (hG3.trans hGr);have bU4:=bU.grow (hG3.trans hGr);have oU4:=oU2.grow (hG3.trans hGr);have hVM4:=hVM.grow hG4;clear a0 a1 a2 bM bM2 bU oU2 hG0 hG1 hG2 hG3 hGu hGr oR fR;have hs4:=hG4.size;have hltR:w3.heap.size<(w3.alloc (.cells #[Yv Yi (C:Int),Yv Yi (C:Int), .slice ar (C*C) (C*C)] 34)).heap.size:=bR.lt;go_wp2;generalize w3.alloc (.cells #[Yv Yi (C:Int),Yv Yi (C:Int), .slice ar (C*C) (C*C)] 34)=w4 at *;refine Zg (S:=Grow w4) [([0,2,3],some 1),([],some 4),([],some 5),([6],none)] Zm (by kernel_rfl) (fun _ _ _ _ _ h=>h) (Grow.refl _).drew ?_;show wpQuiet _ _ _ _ [_,_,_] _;repeat (first |(go_big_quiet_want;(first |refine Zh Zc rfl rfl (fun w' hG=>bM4.grow hG) ?_|refine Zh Zc rfl rfl (fun w' hG=>bU4.grow hG) ?_|refine Zh Zc rfl rfl (fun w' hG=>bR.grow hG) ?_);go_big_quiet_on;simp only[putP])|go_big_quiet_step (exact fun _=>rfl))
 refine wpQuiet_nil ?_;refine Zf rfl (fun K hK=> ?_);go_wp2_with fail;refine (ZaT (hVM4.grow (Grow.refl _).drew) (by unfold bdM;simp;omega)).mono ?_;rintro e w5 ⟨va,rfl,hA,hG5⟩;obtain ⟨aa,na,ca,rfl,oA,rA,fA, -, -⟩:=hA;replace oA:Own w5 3 1 aa na ca (ints cells):=oA;have hna:na=R*C:=by have:=oA.len;simp at this;omega
 subst hna;have hG45:=(Grow.refl w4).drew.trans hG5;have oU5:=oU4.grow hG45;have fA': ∀ q,blk aa=some q->w4.heap.size<=q/\q<w5.heap.size:=fun q hq=>⟨(fA q hq).1,oA.lt hq⟩;have fU5: ∀ q,blk au=some q->q<w4.heap.size:=fun q hq=>oU4.lt hq;have hs5:=hG45.size;go_wp2_with fail;refine hK _ _ (hG45) ?_;clear hK K;refine wpQuiet_nil ?_;refine Zf rfl (fun K hK=> ?_);go_wp2_with fail;refine hK _ _ (hG45) ?_;clear hK K;refine wpQuiet_nil ?_;refine Zf rfl (fun K hK=> ?_);go_wp2_with fail;refine hK _ _ ((hG45.alloc _ _)) ?_;clear hK K;show wpQuiet _ _ _ _ [_] _;try (conv=>arg 6;simp only[putP])
 repeat (first |(go_big_quiet_want;(first |refine Zh Zc rfl rfl (fun w' hG=>bM4.grow hG) ?_|refine Zh Zc rfl rfl (fun w' hG=>bU4.grow hG) ?_|refine Zh Zc rfl rfl (fun w' hG=>bR.grow hG) ?_);go_big_quiet_on;simp only[putP])|go_big_quiet_step (exact fun _=>rfl))
 refine wpQuiet_nil ?_;refine Zk ?_;go_wp2;go_ret;have hGe:=(Grow.refl w5).alloc (WkC R C aa au ar ca (R*R) (C*C) false) 153;exact ⟨w5.heap.size,aa,au,ar,ca,rfl,Blk.new _ _ _,⟨oA.grow hGe,oU5.grow hGe,fun q hq e=>by have:=fA' q hq;have:=fU5 q e;omega⟩,by omega,fun q hq=>by have:=fA' q hq;omega,fun q hq=>by have:=fU' q hq;have:=fU5 q hq;omega,(hG4.trans hG45).trans hGe⟩

end Go.Proofs.YtjpcgofidijigaaGreatDoor
