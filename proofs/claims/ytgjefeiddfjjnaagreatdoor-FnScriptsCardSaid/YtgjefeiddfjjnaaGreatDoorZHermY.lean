/- The program's work: a matrix and the operations done to it. -/
import Derived.Test.YtgjefeiddfjjnaaGreatDoorZHermS
set_option maxHeartbeats 8000000
set_option maxRecDepth 100000
namespace Go.Proofs.YtgjefeiddfjjnaaGreatDoor
open Go.RowKit
open Lib (hid)
open Go.Value renaming int->Yv
open Go.IntKind renaming i64->Yi
open Blk renaming new->JP
open Grow renaming refl->JH
open Keep renaming refl->JO
open Nat renaming mul_le_mul->JL,zero_le->JI
open Go.Proofs.Tryz renaming prog->JG
open Go.Proofs.Tryz
variable {C R ca cr cu g:Nat} {S:Nat->Prop} {aa ar au:Option Addr} {bad:Bool} {w w':World}
theorem ZeX:StT JG 169 4:=⟨_,underlying169,Ξ⟩
def WkC (R C:Nat) (aa au ar:Option Addr) (ca cu cr:Nat) (bad:Bool):Array Value:= #[Yv Yi R,Yv Yi C, .slice aa (R*C) ca,Yv Yi R,Yv Yi R, .slice au (R*R) cu,Yv Yi C,Yv Yi C, .slice ar (C*C) cr, .bool bad]
def Wk (w:World) (g R C:Nat) (aa au ar:Option Addr) (ca cu cr:Nat) (bad:Bool):Prop:=Blk w g (WkC R C aa au ar ca cu cr bad) 174
structure WkF (w:World) (g R C:Nat) (aa au:Option Addr) (ca cu:Nat) (bad:Bool):Prop where
 c0:w.cell? ⟨g,0,none⟩=some (Yv Yi R)
 c1:w.cell? ⟨g,1,none⟩=some (Yv Yi C)
 c2:w.cell? ⟨g,2,none⟩=some (.slice aa (R*C) ca)
 c3:w.cell? ⟨g,3,none⟩=some (Yv Yi R)
 c4:w.cell? ⟨g,4,none⟩=some (Yv Yi R)
 c5:w.cell? ⟨g,5,none⟩=some (.slice au (R*R) cu)
 c9:w.cell? ⟨g,9,none⟩=some (.bool bad)
 f9:w.frozen? ⟨g,9,none⟩=false
theorem Wk.f (h:Wk w g R C aa au ar ca cu cr bad):WkF w g R C aa au ca cu bad:=
 ⟨h.cell 0,h.cell 1,h.cell 2,h.cell 3,h.cell 4,h.cell 5,h.cell 9,h.free 9⟩
theorem Wk.keep (h:Wk w g R C aa au ar ca cu cr bad) (hk:Keep S w w') (hS:S g):Wk w' g R C aa au ar ca cu cr bad:=Blk.keep h hk hS
theorem Wk.grow (h:Wk w g R C aa au ar ca cu cr bad) (hk:Grow w w'):Wk w' g R C aa au ar ca cu cr bad:=Blk.grow h hk
theorem Wk.spoil (h:Wk w g R C aa au ar ca cu cr bad):Wk (w.setCell ⟨g,9,none⟩ (.bool true)) g R C aa au ar ca cu cr true:=Blk.set h 9 (.bool true)
theorem ZcO (kd t:Int) (i p R:Nat) (w:World) (hi:i<R) (hp:p<R) (hR:R<=24) (ht: -400000000<=t/\t<=400000000) (hk:(kd=0/\i≠p/\t=0)\/(kd=1/\i=p/\t=0)\/(kd=2/\i≠p)):
  Calls JG 228 #[.agg #[Yv Yi kd,Yv Yi i,Yv Yi p,Yv Yi t],Yv Yi R] w fun e w'=>e= .returned (.bool true)/\Grow w w':=by
 have Ht:=hid (ZB.2 ht);rcases hk with ⟨rfl,a,rfl⟩|⟨rfl,a,rfl⟩|⟨rfl,a⟩
 ·have b:((i:Int)!=(p:Int))=true:=Ψ
  exact GG
 ·subst a;have b:((i:Int)==(i:Int))=true:=Θ
  exact GG
 ·have b:((i:Int)!=(p:Int))=true:=Ψ
  exact GG
theorem ZhG (g R C:Nat) (aa au ar:Option Addr) (ca cu cr:Nat) (kd i p t:Int) (s:HS) (fa fu:List Int) (b1 b2:Bool) (w:World) (hW:Wk w g R C aa au ar ca cu cr false) (h:Two w aa au (R*C) (R*R) ca cu s) (ngA:blk aa≠some g) (ngU:blk au≠some g)
  (h0: ∀ w,Calls JG 228 #[.agg #[Yv Yi kd,Yv Yi i,Yv Yi p,Yv Yi t],Yv Yi R] w fun e w'=>e= .returned (.bool true)/\Grow w w')
  (h1: ∀ w,Own w 3 1 aa (R*C) ca (ints s.1)->Calls JG 161 #[.agg #[Yv Yi R,Yv Yi C, .slice aa (R*C) ca], .agg #[Yv Yi kd,Yv Yi i,Yv Yi p,Yv Yi t]] w fun e w'=> ∃ m',e= .returned (.bool b1)/\Own w' 3 1 aa (R*C) ca (ints m')/\Keep (fun q=>blk aa≠some q) w w'/\(b1=true->m'=fa))
  (h2: ∀ w,Own w 3 1 au (R*R) cu (ints s.2)->Calls JG 161 #[.agg #[Yv Yi R,Yv Yi R, .slice au (R*R) cu], .agg #[Yv Yi kd,Yv Yi i,Yv Yi p,Yv Yi t]] w fun e w'=> ∃ m',e= .returned (.bool b2)/\Own w' 3 1 au (R*R) cu (ints m')/\Keep (fun q=>blk au≠some q) w w'/\(b2=true->m'=fu)):
  Calls JG 167 #[.pointer (some ⟨g,0,none⟩), .agg #[Yv Yi kd,Yv Yi i,Yv Yi p,Yv Yi t]] w fun e w'=>e= .returned (.tuple #[])/\ ∃ s',Wk w' g R C aa au ar ca cu cr (!(b1&&b2))/\Two w' aa au (R*C) (R*R) ca cu s'/\((b1&&b2)=true->s'=(fa,fu))/\Keep (fun q=>blk aa≠some q/\blk au≠some q/\q≠g) w w':=by
 have m:=(JH w).alloc #[Yv Yi kd,Yv Yi i,Yv Yi p,Yv Yi t] 169;have o:=JP w #[Yv Yi kd,Yv Yi i,Yv Yi p,Yv Yi t] 169;have r:blk aa≠some w.heap.size/\blk au≠some w.heap.size:=⟨fun e=>CG,fun e=>by have:=h.ou.lt e;omega⟩;have Z:g<w.heap.size:=Blk.lt hW;have H:=hW.grow m;have v:=h.grow m;clear hW h;generalize x:w.alloc (.cells #[Yv Yi kd,Yv Yi i,Yv Yi p,Yv Yi t] 169)=J at *;have L:=hid x;clear x;have c:=H.f;have b:blk aa≠some g/\blk au≠some g:=⟨ngA,ngU⟩;go_enter func167,ntmps167;go_wp2;rw[L.out];refine Zcr (fun q=>blk aa≠some q/\blk au≠some q) [([0,1,2,3,4,5,6,7,8,9,10],some 11),([12,13,14,15,16,17,18,19],some 20),([21,22,23,24,25,26,27,28],some 29),([30,31],none)] ?_;show wpQuiet _ _ _ _ [_,_,_,_,_,_,_,_,_,_,_] _;repeat (first |(go_big_quiet_want;(first |refine Zw ZeZ rfl rfl (fun w' a=>a.cell b c.c9) ?_|refine Zw Zb6 rfl rfl (fun w' a=>a.cell b c.c0) ?_|refine Zaw (cs:= #[Yv Yi kd,Yv Yi i,Yv Yi p,Yv Yi t]) ZeX rfl rfl (fun w' a=>o.keep a r) ?_|refine ZF Zc rfl rfl (fun w' a=>⟨a.cell b c.c0,a.cell b c.c1,a.cell b c.c2⟩) ?_|refine ZF Zc rfl rfl (fun w' a=>⟨a.cell b c.c3,a.cell b c.c4,a.cell b c.c5⟩) ?_);go_big_quiet_on;simp only[putP])|go_big_quiet_step (exact fun _=>rfl))
 refine wpQuiet_nil ?_;refine Zu rfl (fun K hK=> ?_);go_wp2_with fail;refine (h0 _).mono ?_;rintro e w3 ⟨rfl,M⟩;have k:=(JH J).drew.trans M;go_wp2_with fail;refine hK _ _ (k.any) ?_;clear hK K;show wpQuiet _ _ _ _ [_,_,_,_,_,_,_,_] _;try (conv=>arg 6;simp only[putP])
 repeat (first |(go_big_quiet_want;(first |refine Zw ZeZ rfl rfl (fun w' a=>a.cell b c.c9) ?_|refine Zw Zb6 rfl rfl (fun w' a=>a.cell b c.c0) ?_|refine Zaw (cs:= #[Yv Yi kd,Yv Yi i,Yv Yi p,Yv Yi t]) ZeX rfl rfl (fun w' a=>o.keep a r) ?_|refine ZF Zc rfl rfl (fun w' a=>⟨a.cell b c.c0,a.cell b c.c1,a.cell b c.c2⟩) ?_|refine ZF Zc rfl rfl (fun w' a=>⟨a.cell b c.c3,a.cell b c.c4,a.cell b c.c5⟩) ?_);go_big_quiet_on;simp only[putP])|go_big_quiet_step (exact fun _=>rfl))
 refine wpQuiet_nil ?_;refine Zu rfl (fun K hK=> ?_);go_wp2_with fail;refine (h1 _ (v.oa.grow k)).mono ?_;rintro e N ⟨O,rfl,y,z,A⟩;have d:Keep (fun q=>blk aa≠some q/\blk au≠some q) J N:=k.any.trans (z.mono fun q _ l=>l.1);have B:=(v.ou.grow k).keep z (fun q n _ e=>v.ne q e n);cases b1 with
 |false=>
  go_wp2_with fail;refine hK _ _ (d) ?_;clear hK K;show wpQuiet _ _ _ _ [_,_,_,_,_,_,_,_] _;try (conv=>arg 6;simp only[putP])
  repeat (first |(go_big_quiet_want;(first |refine Zw ZeZ rfl rfl (fun w' a=>a.cell b c.c9) ?_|refine Zw Zb6 rfl rfl (fun w' a=>a.cell b c.c0) ?_|refine Zaw (cs:= #[Yv Yi kd,Yv Yi i,Yv Yi p,Yv Yi t]) ZeX rfl rfl (fun w' a=>o.keep a r) ?_|refine ZF Zc rfl rfl (fun w' a=>⟨a.cell b c.c0,a.cell b c.c1,a.cell b c.c2⟩) ?_|refine ZF Zc rfl rfl (fun w' a=>⟨a.cell b c.c3,a.cell b c.c4,a.cell b c.c5⟩) ?_);go_big_quiet_on;simp only[putP])|go_big_quiet_step (exact fun _=>rfl))
  refine wpQuiet_nil ?_;refine Zdz rfl (d) ?_;show wpQuiet _ _ _ _ [_,_] _;try (conv=>arg 6;simp only[putP])
  repeat (first |(go_big_quiet_want;(first |refine Zw ZeZ rfl rfl (fun w' a=>a.cell b c.c9) ?_|refine Zw Zb6 rfl rfl (fun w' a=>a.cell b c.c0) ?_|refine Zaw (cs:= #[Yv Yi kd,Yv Yi i,Yv Yi p,Yv Yi t]) ZeX rfl rfl (fun w' a=>o.keep a r) ?_|refine ZF Zc rfl rfl (fun w' a=>⟨a.cell b c.c0,a.cell b c.c1,a.cell b c.c2⟩) ?_|refine ZF Zc rfl rfl (fun w' a=>⟨a.cell b c.c3,a.cell b c.c4,a.cell b c.c5⟩) ?_);go_big_quiet_on;simp only[putP])|go_big_quiet_step (exact fun _=>rfl))
  refine wpQuiet_nil ?_;refine Ze ?_;have X:=H.keep d b;obtain ⟨_,_,_,_,_,_,c9,f9⟩:=X.f;go_wp2;exact bodyPost_end (results_none rfl _ _ _) rfl ⟨rfl,(O,s.2),X.spoil,Two.keep (T:=fun q=>q≠g) ⟨y,B,v.ne⟩ ((JO _ N).setCell (p:=⟨g,9,none⟩) (fun _ e=>e rfl) _) (fun q n e=>ngA (e▸n)) (fun q n e=>ngU (e▸n)),(fun h=>Ω),(m.any.trans (d.mono fun q _ l=>⟨l.1,l.2.1⟩)).trans ((JO _ N).setCell (p:=⟨g,9,none⟩) (fun _ e=>e.2.2 rfl) _)⟩
 |true=>
  have P:=hid (A rfl);clear A;go_wp2_with fail;refine hK _ _ (d) ?_;clear hK K;show wpQuiet _ _ _ _ [_,_,_,_,_,_,_,_] _;try (conv=>arg 6;simp only[putP])
  repeat (first |(go_big_quiet_want;(first |refine Zw ZeZ rfl rfl (fun w' a=>a.cell b c.c9) ?_|refine Zw Zb6 rfl rfl (fun w' a=>a.cell b c.c0) ?_|refine Zaw (cs:= #[Yv Yi kd,Yv Yi i,Yv Yi p,Yv Yi t]) ZeX rfl rfl (fun w' a=>o.keep a r) ?_|refine ZF Zc rfl rfl (fun w' a=>⟨a.cell b c.c0,a.cell b c.c1,a.cell b c.c2⟩) ?_|refine ZF Zc rfl rfl (fun w' a=>⟨a.cell b c.c3,a.cell b c.c4,a.cell b c.c5⟩) ?_);go_big_quiet_on;simp only[putP])|go_big_quiet_step (exact fun _=>rfl))
  refine wpQuiet_nil ?_;refine Zu rfl (fun K hK=> ?_);go_wp2_with fail;refine (h2 _ B).mono ?_;rintro e S ⟨Y,rfl,D,E,F⟩;have j:Keep (fun q=>blk aa≠some q/\blk au≠some q) J S:=d.trans (E.mono fun q _ l=>l.2);have G:=y.keep E (fun q n _ e=>v.ne q n e);have V:=H.keep j b;obtain ⟨_,_,_,_,_,_,c9,f9⟩:=V.f;cases b2 with
  |false=>go_wp2_with fail;refine hK _ _ (j) ?_;clear hK K;show wpQuiet _ _ _ _ [_,_] _;(try (conv=>arg 6;simp only[putP]));(repeat (first |(go_big_quiet_want;(first |refine Zw ZeZ rfl rfl (fun w' a=>a.cell b c.c9) ?_|refine Zw Zb6 rfl rfl (fun w' a=>a.cell b c.c0) ?_|refine Zaw (cs:= #[Yv Yi kd,Yv Yi i,Yv Yi p,Yv Yi t]) ZeX rfl rfl (fun w' a=>o.keep a r) ?_|refine ZF Zc rfl rfl (fun w' a=>⟨a.cell b c.c0,a.cell b c.c1,a.cell b c.c2⟩) ?_|refine ZF Zc rfl rfl (fun w' a=>⟨a.cell b c.c3,a.cell b c.c4,a.cell b c.c5⟩) ?_);go_big_quiet_on;simp only[putP])|go_big_quiet_step (exact fun _=>rfl)));refine wpQuiet_nil ?_;refine Ze ?_;go_wp2;exact bodyPost_end (results_none rfl _ _ _) rfl ⟨rfl,(O,Y),V.spoil,Two.keep (T:=fun q=>q≠g) ⟨G,D,v.ne⟩ ((JO _ S).setCell (p:=⟨g,9,none⟩) (fun _ e=>e rfl) _) (fun q n e=>ngA (e▸n)) (fun q n e=>ngU (e▸n)),(fun h=>Ω),(m.any.trans (j.mono fun q _ l=>⟨l.1,l.2.1⟩)).trans ((JO _ S).setCell (p:=⟨g,9,none⟩) (fun _ e=>e.2.2 rfl) _)⟩
  |true=>have W:=hid (F rfl);clear F;go_wp2_with fail;refine hK _ _ (j) ?_;clear hK K;show wpQuiet _ _ _ _ [_,_] _;(try (conv=>arg 6;simp only[putP]));(repeat (first |(go_big_quiet_want;(first |refine Zw ZeZ rfl rfl (fun w' a=>a.cell b c.c9) ?_|refine Zw Zb6 rfl rfl (fun w' a=>a.cell b c.c0) ?_|refine Zaw (cs:= #[Yv Yi kd,Yv Yi i,Yv Yi p,Yv Yi t]) ZeX rfl rfl (fun w' a=>o.keep a r) ?_|refine ZF Zc rfl rfl (fun w' a=>⟨a.cell b c.c0,a.cell b c.c1,a.cell b c.c2⟩) ?_|refine ZF Zc rfl rfl (fun w' a=>⟨a.cell b c.c3,a.cell b c.c4,a.cell b c.c5⟩) ?_);go_big_quiet_on;simp only[putP])|go_big_quiet_step (exact fun _=>rfl)));refine wpQuiet_nil ?_;refine Ze ?_;go_wp2;exact bodyPost_end (results_none rfl _ _ _) rfl ⟨rfl,(O,Y),V,⟨G,D,v.ne⟩,(fun _=>by rw[P.out,W.out]),m.any.trans (j.mono fun q _ l=>⟨l.1,l.2.1⟩)⟩
theorem ZU {m:List Int} {k:Nat} (h:k<m.length):m[k]? =some (m.getD k 0):=by simp[List.getD,List.getElem?_eq_getElem h]
theorem Zj0 (g R C i p:Nat) (aa au ar:Option Addr) (ca cu cr:Nat) (s:HS) (w:World) (hW:Wk w g R C aa au ar ca cu cr false) (h:Two w aa au (R*C) (R*R) ca cu s) (ngA:blk aa≠some g) (ngU:blk au≠some g) (hs:Hs C R s) (hi:i<R) (hp:p<R) (hip:i≠p) (hR:R<=24) (hC:C<=24):
  Calls JG 167 #[.pointer (some ⟨g,0,none⟩), .agg #[Yv Yi 0,Yv Yi i,Yv Yi p,Yv Yi 0]] w fun e w'=>e= .returned (.tuple #[])/\Wk w' g R C aa au ar ca cu cr false/\Two w' aa au (R*C) (R*R) ca cu (sw2 C R i p s)/\Keep (fun q=>blk aa≠some q/\blk au≠some q/\q≠g) w w':=by
 refine (ZhG g R C aa au ar ca cu cr 0 i p 0 s (swR s.1 C i p) (swR s.2 R i p) true true w hW h ngA ngU (fun w=>ZcO 0 0 i p R w hi hp hR I (.inl ⟨rfl,hip,rfl⟩))
  (fun w a=>(Zcp aa _ ca C i p R 0 s.1 w a hs.la hi hp hip I I I).mono fun e w' ⟨h1,h2,h3⟩=>⟨_,h1,h2,h3,fun _=>rfl⟩)
  (fun w a=>(Zcp au _ cu R i p R 0 s.2 w a hs.lu hi hp hip I I I).mono fun e w' ⟨h1,h2,h3⟩=>⟨_,h1,h2,h3,fun _=>rfl⟩)).mono ?_
 exact Ju
theorem ZpH (g R C i:Nat) (aa au ar:Option Addr) (ca cu cr:Nat) (s:HS) (w:World) (hW:Wk w g R C aa au ar ca cu cr false) (h:Two w aa au (R*C) (R*R) ca cu s) (ngA:blk aa≠some g) (ngU:blk au≠some g) (hs:Hs C R s) (hi:i<R) (hR:R<=24) (hC:C<=24):
  Calls JG 167 #[.pointer (some ⟨g,0,none⟩), .agg #[Yv Yi 1,Yv Yi i,Yv Yi i,Yv Yi 0]] w fun e w'=>e= .returned (.tuple #[])/\Wk w' g R C aa au ar ca cu cr false/\Two w' aa au (R*C) (R*R) ca cu (ZeQ C R i s)/\Keep (fun q=>blk aa≠some q/\blk au≠some q/\q≠g) w w':=by
 refine (ZhG g R C aa au ar ca cu cr 1 i i 0 s (ZdT s.1 C i) (ZdT s.2 R i) true true w hW h ngA ngU (fun w=>ZcO 1 0 i i R w hi hi hR I (.inr (.inl ⟨rfl,rfl,rfl⟩)))
  (fun w a=>(Zk5 aa _ ca C i R 0 s.1 w a hs.la hi hs.na I I).mono fun e w' ⟨h1,h2,h3⟩=>⟨_,h1,h2,h3,fun _=>rfl⟩)
  (fun w a=>(Zk5 au _ cu R i R 0 s.2 w a hs.lu hi hs.nu I I).mono fun e w' ⟨h1,h2,h3⟩=>⟨_,h1,h2,h3,fun _=>rfl⟩)).mono ?_
 exact Ju
def ZmX (C R i p:Nat) (t:Int) (s:HS) (b:Bool) (s':HS):Prop:=(b=false/\Zde C R i p t s=some s')\/(b=true/\Zde C R i p t s=none)
theorem Zlj (g R C i p:Nat) (t:Int) (aa au ar:Option Addr) (ca cu cr:Nat) (s:HS) (w:World) (hW:Wk w g R C aa au ar ca cu cr false) (h:Two w aa au (R*C) (R*R) ca cu s) (ngA:blk aa≠some g) (ngU:blk au≠some g) (hs:Hs C R s) (hi:i<R) (hp:p<R) (hip:i≠p) (ht: -400000000<=t/\t<=400000000) (hR:R<=24) (hC:C<=24):
  Calls JG 227 #[.pointer (some ⟨g,0,none⟩),Yv Yi i,Yv Yi p,Yv Yi t] w fun e w'=>e= .returned (.tuple #[])/\ ∃ b s',Wk w' g R C aa au ar ca cu cr b/\Two w' aa au (R*C) (R*R) ca cu s'/\ZmX C R i p t s b s'/\Keep (fun q=>blk aa≠some q/\blk au≠some q/\q≠g) w w':=by
 go_enter func227,ntmps227;go_wp2_with fail
 refine (ZhG g R C aa au ar ca cu cr 2 i p t s (addR s.1 C i p t) (addR s.2 R i p t) (Zae s.1 C i p t) (Zae s.2 R i p t) w hW h ngA ngU (fun w=>ZcO 2 t i p R w hi hp hR ht (.inr (.inr ⟨rfl,hip⟩)))
  (fun w a=>Zci aa _ ca C i p R t s.1 w a (Zal rfl hi) (Zal rfl hp) hip hs.na ht I I I)
  (fun w a=>Zci au _ cu R i p R t s.2 w a (Zal rfl hi) (Zal rfl hp) hip hs.nu ht I I I)).mono ?_
 rintro e w' ⟨rfl,s',c,d,f,j⟩;have k:ZmX C R i p t s (!(Zae s.1 C i p t&&Zae s.2 R i p t)) s':=by
  unfold ZmX Zde;cases l:(Zae s.1 C i p t&&Zae s.2 R i p t) with
  |true=>exact .inl ⟨rfl,by rw[if_pos rfl,f l]⟩
  |false=>exact .inr ⟨rfl,Eh⟩
 go_wp2;exact bodyPost_end (results_none rfl _ _ _) rfl ⟨rfl,_,s',c,d,k,j⟩
theorem Zmf (g R C t j:Nat) (aa au ar:Option Addr) (ca cu cr:Nat) (s:HS) (w:World) (hW:Wk w g R C aa au ar ca cu cr false) (h:Two w aa au (R*C) (R*R) ca cu s) (hs:Hs C R s) (ht:t<=R) (hj:j<C) (hR:R<=24) (hC:C<=24):
  Calls JG 267 #[.pointer (some ⟨g,0,none⟩),Yv Yi t,Yv Yi j] w fun e w'=>e= .returned (Yv Yi (Zr s.1 C j t (R-t)))/\Grow w w':=by
 have Z:R*C<=24*24:=JL hR hC;have v:=h.oa.rdI (S:=fun _=>True) (fun _ _=>trivial) (Zp hs.na);have H:=hs.la;have J:=hs.na;obtain ⟨a,d⟩:=eX s.1;rw[←d] at v H J ⊢;have Hl:=hid H;clear H h hs d;go_enter func267,ntmps267;go_wp2;go_loopw [7,8] (fun b q wr=>Grow w wr/\ ∃ k:Nat,k<=R-t/\q=Yv Yi ((t+k:Nat):Int)/\b=Yv Yi (Zr a C j t k)) (fun _ q _=>R-(intOf q).toNat);case atStart=>exact ⟨JH _,0,JI _,rfl,rfl⟩
 case round=>
  obtain ⟨z,k,hk,rfl,rfl⟩:=hrel;have G:=v.grow z;have Wr:=hW.grow z;obtain ⟨W,X,Y, -⟩:=Wr.f;have M:=Zc6 a C j t k;by_cases N:t+k<R
  ·have hni:(t+k)*C+j<R*C:=Zf hj N;have hx:=Zk J C (t+k) j;have c:=hid (show Zr a C j t (k+1)=if cell a C (t+k) j≠0/\(Zr a C j t k<0\/(cell a C (t+k) j).natAbs<(cell a C (Zr a C j t k).toNat j).natAbs) then ((t+k:Nat):Int) else Zr a C j t k from rfl);have A:a[(t+k)*C+j]? =some (cell a C (t+k) j):=ZU Ej;have B:=hid A;clear A;go_wp2_with fail;refine (ZaA aa _ ca C (t+k) j ((t+k)*C+j) (R:Int) _ a _ G rfl B.out I I I I).mono ?_;rintro e w3 ⟨rfl,m⟩;clear hni B;go_wp2_with fail;refine (Zd9 _ _ I).mono ?_;rintro e _ ⟨rfl,rfl⟩;replace G:=G.grow m;replace Wr:=Wr.grow m;have l:=z.trans m;clear W X Y z m;obtain ⟨W,X,Y, -⟩:=Wr.f;generalize O:cell a C (t+k) j=x at *;clear O;by_cases n:x=0
   ·have HL:=hid (show Zr a C j t (k+1)=Zr a C j t k by rw[c.out,if_neg (by simp[n])]);subst n;clear c;generalize Zr a C j t k=L at *;go_wp2;go_roundw;case rel=>exact ⟨l,k+1,I,Δ,ζ⟩
    case measure=>exact FN
   ·have q1:(((x.natAbs:Nat):Int)!=0)=true:=Ψ;have ab:((x.natAbs:Nat):Int)≠0:=I;rcases M with ⟨o,_⟩|⟨p,o,ad,ae,P,_⟩
    ·have HL:=hid (show Zr a C j t (k+1)=((t+k:Nat):Int) by rw[c.out,if_pos ⟨n, .inl I⟩]);clear c;rw[o];clear o;go_wp2;go_roundw;case rel=>exact ⟨l,k+1,I,Δ,ζ⟩
     case measure=>exact FN
    ·have D:p*C+j<R*C:=Zf hj I;have hy:=Zk J C p j;have i:=hid (show Zr a C j t (k+1)=if x.natAbs<(cell a C p j).natAbs then ((t+k:Nat):Int) else (p:Int) by
      rw[c.out,o,Int.toNat_natCast];by_cases r:x.natAbs<(cell a C p j).natAbs
      ·rw[if_pos ⟨n, .inr r⟩,if_pos r]
      ·rw[if_neg EQ,if_neg r])
     have E:a[p*C+j]? =some (cell a C p j):=ZU (by rw[Hl.out];exact D);have F:=hid E;clear E;rw[o];have q2:decide ((p:Int)<0)=false:=decide_eq_false I;clear o c P;go_wp2_with fail;refine (ZaA aa _ ca C p j (p*C+j) (R:Int) _ a _ G rfl F.out I I I I).mono ?_;rintro e w4 ⟨rfl,T⟩;clear D F;generalize cell a C p j=y at *;go_wp2_with fail;refine (Zd9 _ _ I).mono ?_;rintro e _ ⟨rfl,rfl⟩;replace l:=l.trans T;by_cases r:x.natAbs<y.natAbs
     ·have HL:=hid (show Zr a C j t (k+1)=((t+k:Nat):Int) by rw[i.out,if_pos r]);clear i;go_wp2;go_roundw;case rel=>exact ⟨l,k+1,I,Δ,ζ⟩
      case measure=>exact FN
     ·have HL:=hid (show Zr a C j t (k+1)=(p:Int) by rw[i.out,if_neg r]);clear i;go_wp2;go_roundw;case rel=>exact ⟨l,k+1,I,Δ,ζ⟩
      case measure=>exact FN
  ·have V:k=R-t:=I;go_wp2;go_ret;exact ⟨by rw[V];rfl,z⟩
theorem ZqU (g R C t p j:Nat) (aa au ar:Option Addr) (ca cu cr:Nat) (s:HS) (w:World) (hW:Wk w g R C aa au ar ca cu cr false) (h:Two w aa au (R*C) (R*R) ca cu s) (hs:Hs C R s) (ht:t<=R) (hj:j<C) (hR:R<=24) (hC:C<=24):
  Calls JG 268 #[.pointer (some ⟨g,0,none⟩),Yv Yi t,Yv Yi p,Yv Yi j] w fun e w'=>e= .returned (.bool (!ZaW s.1 C R j p t))/\Grow w w':=by
 have y:R*C<=24*24:=JL hR hC;have m:=h.oa.rdI (S:=fun _=>True) (fun _ _=>trivial) (Zp hs.na);have v:=hs.la;have x:=hs.na;obtain ⟨a,b⟩:=eX s.1;rw[←b] at m v x ⊢;have Hl:=hid v;clear v h hs b;go_enter func268,ntmps268;go_wp2;go_loopw [9] (fun q wr=>Grow w wr/\ ∃ k:Nat,k<=R-t/\q=Yv Yi ((t+k:Nat):Int)/\ ∀ d,d<k->t+d≠p->cell a C (t+d) j=0) (fun q _=>R-(intOf q).toNat);case atStart=>exact ⟨JH _,0,JI _,rfl,fun d hd=>I⟩
 case round=>
  obtain ⟨hG,k,E,rfl,l⟩:=hrel;have Hall:=hid l;clear l;have z:=m.grow hG;have Wr:=hW.grow hG;obtain ⟨F,G,H, -⟩:=Wr.f;by_cases n:t+k<R
  ·by_cases c:t+k=p
   ·have A:((((t+k:Nat):Int))!=(p:Int))=false:=(by rw[c];simp);have B:(((t:Int)+(k:Int))!=(p:Int))=false:=(by rw[←c];simp);have Hkp:=hid c;clear c;go_wp2;go_roundw;case rel=>
     exact IM
    case measure=>exact FN
   ·have A:((((t+k:Nat):Int))!=(p:Int))=true:=Ψ;have B:(((t:Int)+(k:Int))!=(p:Int))=true:=Ψ;have hni:(t+k)*C+j<R*C:=Zf hj n;have J:=Zk x C (t+k) j;have o:a[(t+k)*C+j]? =some (cell a C (t+k) j):=ZU Ej;have r:=hid o;clear o;have Hkp:=hid c;clear c;go_wp2_with fail;refine (ZaA aa _ ca C (t+k) j ((t+k)*C+j) (R:Int) _ a _ z rfl r.out I I I I).mono ?_;rintro e L ⟨rfl,hG3⟩;clear hni r;by_cases hx0:cell a C (t+k) j=0
    ·have Hx0:=hid hx0;rw[hx0];clear hx0;go_wp2;go_roundw;case rel=>
      exact IP
     case measure=>exact FN
    ·have HF:=hid (Zmg (R:=R) (p:=p) (t:=t) I n Hkp.out hx0);have M:(cell a C (t+k) j !=0)=true:=Bv;go_wp2;go_ret;exact ⟨Dp,hG.trans hG3⟩
  ·have HF:=hid (show ZaW a C R j p t=true from Zey.2 fun i N O D=>by
    have:=Hall.out (i-t) I;rw[show t+(i-t)=i by omega] at this;exact this D)
   go_wp2;go_ret;exact ⟨Dp,hG⟩
theorem Zfs (n:Nat) (w:World) (hn:n<=24):
  Calls JG 224 #[Yv Yi n] w fun e w'=> ∃ a,e= .returned (.tuple #[.agg #[Yv Yi n,Yv Yi n, .slice a (n*n) (n*n)], .bool true])/\Own w' 3 1 a (n*n) (n*n) (ints (idL n))/\(∀ q,blk a=some q->w.heap.size<=q)/\Grow w w':=by
 have t:n*n<=24*24:=JL hn hn;have f:=(JH w).alloc #[Yv Yi 0,Yv Yi 0, .slice none 0 0] 37;have r:=JP w #[Yv Yi 0,Yv Yi 0, .slice none 0 0] 37;go_enter func224,ntmps224;go_wp2_with fail;refine (Zc9 n n _ I I).mono ?_;rintro e o ⟨a,rfl,hO,v,c⟩;have hB': ∀ q,blk a=some q->w.heap.size<q:=fun q hq=>by have:=v q hq;simp at this;omega
 have b:=f.trans c;have g:=r.grow c;have d:=(JH o).alloc #[Yv Yi (n:Int),Yv Yi (n:Int), .slice a (n*n) (n*n)] 37;have x:=JP o #[Yv Yi (n:Int),Yv Yi (n:Int), .slice a (n*n) (n*n)] 37;have h:=hO.grow d;have bZ2:=g.grow d;have hG02:=b.trans d;have y:blk a≠some o.heap.size:=fun e=>Dg
 have nZ:blk a≠some w.heap.size:=fun e=>by have:=hB' _ e;omega
 have z:=b.size;clear hO r g b f c;go_wp2;go_loopw [5] (fun q wr=>Keep (fun q=>blk a≠some q) (o.alloc (.cells #[Yv Yi (n:Int),Yv Yi (n:Int), .slice a (n*n) (n*n)] 37)) wr/\ ∃ k:Nat,k<=n/\q=Yv Yi k/\Own wr 3 1 a (n*n) (n*n) (ints (idN n k))) (fun q _=>n-(intOf q).toNat);case atStart=>exact ⟨JO _ _,0,JI _,rfl,by simpa [idN] using h⟩
 case round=>
  clear h;obtain ⟨hK,k,A,rfl,hO⟩:=hrel;have i:=x.keep hK y;obtain ⟨⟨B,C,D⟩, -⟩:=i.three;have s:=i.lt;by_cases j:k<n
  ·have l:k*n+k<n*n:=Zf j j;go_wp2_with fail;refine (Zjp a (n*n) (n*n) n k k (k*n+k) (n:Int) 1 (idN n k) _ hO rfl l I I I I).mono ?_;rintro e E ⟨rfl,m,p⟩;rw[←Zko] at m;clear l;go_wp2;go_roundw;case rel=>exact ⟨hK.trans p,k+1,I,Δ,m⟩
   case measure=>exact FN
  ·exact Gi
theorem ZrF {a:Option Addr} {n c:Nat} {cells:List Int} (h:RdI w S a n c cells) (hl:cells.length=R*C) (hR:R<=24) (hC:C<=24):
  Calls JG 164 #[.agg #[Yv Yi R,Yv Yi C, .slice a n c]] w fun e w'=> ∃ g aa au ar ca,e= .returned (.pointer (some ⟨g,0,none⟩))/\Wk w' g R C aa au ar ca (R*R) (C*C) false/\Two w' aa au (R*C) (R*R) ca (R*R) (cells,idL R)/\w.heap.size<=g/\(∀ q,blk aa=some q->w.heap.size<=q/\q≠g)/\(∀ q,blk au=some q->w.heap.size<=q/\q≠g)/\Grow w w':=by
 have P:R*C<=24*24:=JL hR hC;have z:VM w S (.agg #[Yv Yi R,Yv Yi C, .slice a n c]) {rows:=(R:Int),cols:=(C:Int),cells:=cells}:=⟨a,n,c,rfl,h,δ,η⟩;have o:=(JH w).alloc #[Yv Yi (R:Int),Yv Yi (C:Int), .slice a n c] 37;have A:=JP w #[Yv Yi (R:Int),Yv Yi (C:Int), .slice a n c] 37;go_enter func164,ntmps164;go_wp2_with fail;refine (Zfs R _ hR).mono ?_;rintro e B ⟨au,rfl,J,fU,i⟩;have D: ∀ q,blk au=some q->w.heap.size<q:=fun q hq=>B6
 have j:=(JH B).alloc #[Yv Yi (R:Int),Yv Yi (R:Int), .slice au (R*R) (R*R)] 37;have L:=JP B #[Yv Yi (R:Int),Yv Yi (R:Int), .slice au (R*R) (R*R)] 37;have p:=(o.trans i).trans j;have k:=A.grow (i.trans j);have r:=J.grow j;have M:w.heap.size<B.heap.size:=(A.grow i).lt;obtain ⟨⟨T,V,W⟩, -⟩:=k.three;clear J fU;go_wp2_with fail;refine (Zfs C _ hC).mono ?_;rintro e s ⟨ar,rfl,X,Y,d⟩;have f:=(JH s).alloc #[Yv Yi (C:Int),Yv Yi (C:Int), .slice ar (C*C) (C*C)] 37;have Z:=JP s #[Yv Yi (C:Int),Yv Yi (C:Int), .slice ar (C*C) (C*C)] 37;have l:=(p.trans d).trans f;have ab:=k.grow (d.trans f);have ad:=L.grow (d.trans f);have t:=r.grow (d.trans f);have v:=z.grow l;clear T V W A k L r o i p d j f X Y;have ae:=l.size;have N:s.heap.size<(s.alloc (.cells #[Yv Yi (C:Int),Yv Yi (C:Int), .slice ar (C*C) (C*C)] 37)).heap.size:=Z.lt;go_wp2;generalize s.alloc (.cells #[Yv Yi (C:Int),Yv Yi (C:Int), .slice ar (C*C) (C*C)] 37)=E at *;refine ZaH [([0,2,3],some 1),([],some 4),([],some 5),([6],none)] ?_;refine ZR ?_;intro K hK;refine (Zbx (v.grow (JH _).drew) Ar).mono ?_;rintro e y ⟨va,rfl,hA,F⟩;obtain ⟨aa,O,ca,rfl,oA,rA,fA, -, -⟩:=hA;replace oA:Own y 3 1 aa O ca (ints cells):=oA;have G:O=R*C:=BG
 subst G;have b:=(JH E).drew.trans F;have H:=t.grow b;have fA': ∀ q,blk aa=some q->E.heap.size<=q/\q<y.heap.size:=fun q hq=>⟨(fA q hq).1,oA.lt hq⟩;have x: ∀ q,blk au=some q->q<E.heap.size:=fun q hq=>t.lt hq;have af:=b.size;go_wp2_with fail;refine hK _ _ (b) ?_;clear hK K;refine ZR ?_;intro K hK;refine hK _ _ (b) ?_;clear hK K;refine ZR ?_;intro K hK;refine hK _ _ ((b.alloc _ _)) ?_;clear hK K;refine Zh ?_;refine Ze ?_;go_wp2;go_ret;have m:=(JH y).alloc (WkC R C aa au ar ca (R*R) (C*C) false) 174;exact ⟨y.heap.size,aa,au,ar,ca,rfl,JP _ _ _,⟨oA.grow m,H.grow m,fun q hq e=>by have:=fA' q hq;have:=x q e;omega⟩,I,fun q hq=>σ,fun q hq=>by have:=D q hq;have:=x q hq;omega,(l.trans b).trans m⟩

end Go.Proofs.YtgjefeiddfjjnaaGreatDoor
