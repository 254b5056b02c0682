/- The program's newWork: all three matrices are the call's own. -/
import Derived.Test.YtgjefeiddfjjnaaGreatDoorZTr
import Derived.Test.YtgjefeiddfjjnaaGreatDoorZSmithT
import Derived.Test.YtgjefeiddfjjnaaGreatDoorZHermJ
set_option maxHeartbeats 8000000
set_option maxRecDepth 100000
namespace Go.Proofs.YtgjefeiddfjjnaaGreatDoor
open Go.RowKit
open Lib (hid)
open Go.Value renaming int->Yv
open Go.IntKind renaming i64->Yi
open Blk renaming lt->Ke,new->JP
open Grow renaming refl->JH
open Nat renaming mul_le_mul->JL
open Go.Proofs.Tryz renaming func108->Qy,ntmps108->Qz,prog->JG
variable {B C R c i j n t:Nat} {S:Nat->Prop} {a:Option Addr} {b:Bool} {cells:List Int} {f g:SS->Option (SS×Bool)} {p q:Int} {res:Option (SS×Bool)} {s s':SS} {w:World}
theorem ZkV (h:RdI w S a n c cells) (hl:cells.length=R*C) (hR:R<=24) (hC:C<=24):
  Calls JG 164 #[.agg #[Yv Yi R,Yv Yi C, .slice a n c]] w fun e w'=> ∃ g aa au ar ca,e= .returned (.pointer (some ⟨g,0,none⟩))/\WkP w' w.heap.size g R C aa au ar ca (R*R) (C*C) false (cells,idL R,idL C)/\Grow w w':=by
 have ab:R*C<=24*24:=JL hR hC;have G:VM w S (.agg #[Yv Yi R,Yv Yi C, .slice a n c]) {rows:=(R:Int),cols:=(C:Int),cells:=cells}:=⟨a,n,c,rfl,h,δ,η⟩;have p:=(JH w).alloc #[Yv Yi (R:Int),Yv Yi (C:Int), .slice a n c] 37;have H:=JP w #[Yv Yi (R:Int),Yv Yi (C:Int), .slice a n c] 37;go_enter Tryz.func164,Tryz.ntmps164;go_wp2_with fail;refine (Zfs R _ hR).mono ?_;rintro e o ⟨au,rfl,J,fU,i⟩;have fU': ∀ q,blk au=some q->w.heap.size<q:=fun q hq=>B6
 have j:=(JH o).alloc #[Yv Yi (R:Int),Yv Yi (R:Int), .slice au (R*R) (R*R)] 37;have T:=JP o #[Yv Yi (R:Int),Yv Yi (R:Int), .slice au (R*R) (R*R)] 37;have r:=(p.trans i).trans j;have l:=H.grow (i.trans j);have s:=J.grow j;have t:w.heap.size<o.heap.size:=(H.grow i).lt;obtain ⟨⟨a0,a1,a2⟩, -⟩:=l.three;clear fU;go_wp2_with fail;refine (Zfs C _ hC).mono ?_;rintro e v ⟨ar,rfl,V,W,f⟩;have L: ∀ q,blk au=some q->q<o.heap.size:=fun q hq=>J.lt hq;have x: ∀ q,blk ar=some q->o.heap.size<q:=fun q hq=>by have:=W q hq;simp at this;omega
 have d:=(JH v).alloc #[Yv Yi (C:Int),Yv Yi (C:Int), .slice ar (C*C) (C*C)] 37;have bR:=JP v #[Yv Yi (C:Int),Yv Yi (C:Int), .slice ar (C*C) (C*C)] 37;have m:=(r.trans f).trans d;have ad:=l.grow (f.trans d);have ae:=T.grow (f.trans d);have y:=s.grow (f.trans d);have z:=V.grow d;have X:w.heap.size<o.heap.size:=t;have A:=G.grow m;clear a0 a1 a2 H l T s p i r f j d V W J;have af:=m.size;have Y:v.heap.size<(v.alloc (.cells #[Yv Yi (C:Int),Yv Yi (C:Int), .slice ar (C*C) (C*C)] 37)).heap.size:=bR.lt;go_wp2;generalize v.alloc (.cells #[Yv Yi (C:Int),Yv Yi (C:Int), .slice ar (C*C) (C*C)] 37)=E at *;refine ZaH [([0,2,3],some 1),([],some 4),([],some 5),([6],none)] ?_;refine ZR ?_;intro K hK;refine (Zbx (A.grow (JH _).drew) Ar).mono ?_;rintro e F ⟨va,rfl,hA,M⟩;obtain ⟨aa,Z,ca,rfl,oA,rA,fA, -, -⟩:=hA;replace oA:Own F 3 1 aa Z ca (ints cells):=oA;have N:Z=R*C:=BG
 subst N;have b:=(JH E).drew.trans M;have O:=y.grow b;have P:=z.grow b;have B: ∀ q,blk ar=some q->q<E.heap.size:=fun q hq=>z.lt hq;have fA': ∀ q,blk aa=some q->E.heap.size<=q/\q<F.heap.size:=fun q hq=>⟨(fA q hq).1,oA.lt hq⟩;have D: ∀ q,blk au=some q->q<E.heap.size:=fun q hq=>y.lt hq;have ag:=b.size;go_wp2_with fail;refine hK _ _ (b) ?_;clear hK K;refine ZR ?_;intro K hK;refine hK _ _ (b) ?_;clear hK K;refine ZR ?_;intro K hK;refine hK _ _ ((b.alloc _ _)) ?_;clear hK K;refine Zh ?_;refine Ze ?_;go_wp2;go_ret;have k:=(JH F).alloc (WkC R C aa au ar ca (R*R) (C*C) false) 174;exact ⟨F.heap.size,aa,au,ar,ca,rfl,⟨JP _ _ _,⟨oA.grow k,O.grow k,P.grow k,fun q hq e=>by have:=fA' q hq;have:=D q e;omega,fun q hq e=>by have:=fA' q hq;have:=B q e;omega,fun q hq e=>by have:=L q hq;have:=x q e;omega⟩,fun e=>Dh,fun e=>by have:=D _ e;omega,fun e=>by have:=B _ e;omega,fun q hq=>σ,fun q hq=>Ac,fun q hq=>by have:=x q hq;omega,I⟩,(m.trans b).trans k⟩
def MdI (C R t:Nat) (p:Int) (rest:SS->Option (SS×Bool)) (res:Option (SS×Bool)) (b:Bool) (s:SS):Prop:=(b=false/\Ss C R s/\rest s=res/\cell s.1 C t t=p)\/(b=true/\res=none)
theorem MdI.addR (h1:Ss C R s) (h2:f s=res) (h3:cell s.1 C t t=p) (htC:t<C) (hi:i<R) (hit:i≠t) (hf:f s=(ZaP C R i t q s).bind g) (ht:To3 (ZaP C R i t q s) b s'):MdI C R t p g res b s':=by
 rcases ht with ⟨rfl,e⟩|⟨rfl,e⟩
 ·have h4:=Zdv h1 e;refine .inl ⟨rfl,h4.1, ?_, ?_⟩
  ·rw[hf,e] at h2;exact h2
  ·exact Jz
 ·exact .inr ⟨rfl,by rw[←h2,hf,e];rfl⟩
theorem MdI.addC (h1:Ss C R s) (h2:f s=res) (h3:cell s.1 C t t=p) (ht:t<R) (htC:t<C) (_hj:j<C) (hjt:j≠t) (hf:f s=(Zbn C R j t q s).bind g) (hto:To3 (Zbn C R j t q s) b s'):MdI C R t p g res b s':=by
 rcases hto with ⟨rfl,e⟩|⟨rfl,e⟩
 ·have h4:=Zgi h1 e;refine .inl ⟨rfl,h4.1, ?_, ?_⟩
  ·rw[hf,e] at h2;exact h2
  ·exact JC
 ·exact .inr ⟨rfl,by rw[←h2,hf,e];rfl⟩
theorem Zuw {rest:SS->Option (SS×Bool)} (h1:Ss C R s) (h2:rest s=res) (h3:cell s.1 C t t=p):Md C R t p rest res s:= .inl ⟨h1,h2,h3⟩
theorem ZsE (h:Fnd res s b) (hs:Ss C R s):res=some (s,b):=h.resolve_right fun h=>hs.no h.2
theorem ZsZ (_h1:Ss C R s) (h2:Zan C R t s=res) (h3:cell s.1 C t t=p) (hc:(ZN s.1 C R t&&Zao s.1 C t)=true) (hi:t<i/\i<R) (hj:t<j/\j<C) (hb: ∀ i',t<i'->i'<i-> ∀ j',t<j'->j'<C->(cell s.1 C i' j').tmod p=0)
  (hx:(cell s.1 C i j).tmod p≠0) (ht:To3 (ZaP C R t i 1 s) b s'):(b=false/\res=some (s',false))\/(b=true/\res=none):=by
 have hd:ZdW s.1 C R t=some (i-(t+1)):=Zmk hi hj (fun i' c d=>Ziw fun j' f g=>by rw[h3];exact hb i' c d j' f g) (by rw[h3];exact hx);have a:res=(ZaP C R t i 1 s).map fun x=>(x,false):=CY
 rcases ht with ⟨rfl,e⟩|⟨rfl,e⟩
 ·exact .inl ⟨rfl,by rw[a,e];rfl⟩
 ·exact .inr ⟨rfl,by rw[a,e];rfl⟩
theorem ZrW (B g R C t:Nat) (s0:SS) (w:World) (hW0:WkS w B g R C false s0) (hs0:Ss C R s0) (ht:t<R) (htC:t<C) (hp:0<=(Z4 s0.1 C R t).1) (hR:R<=24) (hC:C<=24):
  Calls JG 166 #[.pointer (some ⟨g,0,none⟩),Yv Yi t] w fun e w'=> ∃ ret b s',e= .returned (.bool ret)/\WkS w' B g R C b s'/\Keep (fun q=>q<B) w w'/\((b=false/\rnd C R t s0=some (s', !ret))\/(b=true/\rnd C R t s0=none)):=by
 have bt:R*C<=24*24:=JL hR hC;obtain ⟨r,c,bj,bk,bv,bl,bw,bm,a5,bn,bo⟩:=Znf (m:=s0.1) (C:=C) (R:=R) (t:=t) I I hp;have a2:rnd C R t s0=ZgZ C R t (ZbR C R t r c s0):=by unfold rnd;rw[bn,bo]
 obtain ⟨F,ae⟩:=eX (rnd C R t s0);rw[←ae];rw[a2] at ae;have a3:=hid ae;have bp:=ZhN hs0 bl bm ht htC;rw[←bp] at a5;have a6:=hid a5;clear ae a2 bn bo bp a5;obtain ⟨V,au,ar,W,cu,cr,f⟩:=hW0;go_enter Tryz.func166,Tryz.ntmps166;go_wp2_with fail;refine (Zil B g R C t V au ar W cu cr false s0 w f hs0 I I hR hC).mono ?_;rintro e w2 ⟨rfl,a7⟩;rw[bj,bk];have o:WkS w2 B g R C false s0:=(f.grow a7).s;have a:Keep (fun q=>q<B) w w2:=a7.any;clear f bj bk a7 hp
 go_upto_if 30 with fail
 go_cut [] from 21 (fun wx=>Keep (fun q=>q<B) w wx/\ ∃ s1,WkS wx B g R C false s1/\Ss C R s1/\s1=if r=t then s0 else ZbZ C R r t s0)
 case first=>
  by_cases af:r=t
  ·have q1:((r:Int)!=(t:Int))=false:=(by simp[af]);have He:=hid (show s0=if r=t then s0 else ZbZ C R r t s0 by rw[if_pos af]);clear af;go_wp2
   go_meet
   exact ⟨a,s0,o,hs0,He.out⟩
  ·have q1:((r:Int)!=(t:Int))=true:=Ψ;have He:=hid (show ZbZ C R r t s0=if r=t then s0 else ZbZ C R r t s0 by rw[if_neg af]);go_wp2_with fail;refine (ZuE B g R C r t s0 _ o hs0 bl ht af hR hC).mono ?_;rintro e w3 ⟨rfl,a8,G⟩;clear af;go_wp2
   go_meet
   exact ⟨a.trans G,_,a8,Ze8 hs0,He.out⟩
 case rest=>
  clear a o;obtain ⟨a,s1,o,a0,bq⟩:=hcut;have a9:=hid bq;clear bq
  go_upto_if 38 with fail
  go_cut [] from 21 (fun wx=>Keep (fun q=>q<B) w wx/\ ∃ s2,WkS wx B g R C false s2/\Ss C R s2/\s2=ZbR C R t r c s0)
  case first=>
   by_cases ag:c=t
   ·have q1:((c:Int)!=(t:Int))=false:=(by simp[ag]);have He:=hid (show s1=ZbR C R t r c s0 by unfold ZbR;rw[if_pos ag];exact a9.out);clear ag;go_wp2
    go_meet
    exact ⟨a,s1,o,a0,He.out⟩
   ·have q1:((c:Int)!=(t:Int))=true:=Ψ;have He:=hid (show Zgr C R c t s1=ZbR C R t r c s0 by unfold ZbR;rw[if_neg ag,a9.out]);go_wp2_with fail;refine (Zsk B g R C c t s1 _ o a0 bm htC ag hR hC).mono ?_;rintro e w3 ⟨rfl,a8,G⟩;clear ag;go_wp2
    go_meet
    exact ⟨a.trans G,_,a8,Zhq a0,He.out⟩
  case rest=>
   clear a o a0 a9 hs0;obtain ⟨a,s2,o,a1,ba⟩:=hcut;rw[←ba] at a6;have Hr:=hid (show Zcn C R t (ZaC C R t (Zan C R t) (t+1)) (t+1) s2=F by rw[a3.out, ←ba];rfl);clear ba a3;obtain ⟨p,hp⟩:=eX (cell s2.1 C t t);have bb:=Zk a1.na C t t;rw[←hp] at bb;have aj:=hid (show p≠0 by rw[hp];exact a6.out);have Hp:=hid hp.symm;clear hp a6
   go_upto_block 0 with fail
   go_cut [] from 9 (fun wx=>Keep (fun q=>q<B) w wx/\ ∃ (b:Bool) (s:SS),WkS wx B g R C b s/\MdI C R t p (ZaC C R t (Zan C R t) (t+1)) F b s)
   case first=>
    go_wp2;go_loopw [9] (fun H wr=>Keep (fun q=>q<B) w wr/\ ∃ (i:Nat) (b:Bool) (s:SS),t<i/\i<=R/\H=Yv Yi i/\WkS wr B g R C b s/\MdI C R t p (Zcn C R t (ZaC C R t (Zan C R t) (t+1)) i) F b s) (fun H _=>R-(intOf H).toNat);case atStart=>exact ⟨a,t+1,false,s2,I,ht,Δ,o, .inl ⟨rfl,a1,Hr.out,Hp.out⟩⟩
    case round=>as_aux_lemma=>
     clear a o a1 Hr Hp;obtain ⟨hK,i,b,s,bc,hi,rfl,hW,hM⟩:=hrel;obtain ⟨V,au,ar,W,cu,cr,f⟩:=hW;obtain ⟨J,L,M, -, -, -,N, -⟩:=f.wk.g;have l:g<wr.heap.size:=Ke f.wk;by_cases z:i<R
     ·rcases hM with ⟨rfl,hs,x,X⟩|⟨rfl,x⟩
      ·have O:=hid x;have y:=hid X;clear x X;have rA:=f.th.oa.rdI (S:=fun _=>True) (fun _ _=>trivial) (Zp hs.na);have hni:i*C+t<R*C:=Zf htC z;have Y:t*C+t<R*C:=Zf htC ht;have A:=hid (show s.1[i*C+t]? =some (cell s.1 C i t) from ZU Df);have ak:=hid (show s.1[t*C+t]? =some p by rw[←y.out];exact ZU (by rw[hs.la];exact Y));have Z:=Zk hs.na C i t;clear hni Y;go_wp2_with fail;refine (ZaA V _ W C i t (i*C+t) (R:Int) _ s.1 _ rA rfl A.out I I I I).mono ?_;rintro e w3 ⟨rfl,P⟩;have P3:=f.grow P;have G:=hK.trans P.any;clear J L M N l;obtain ⟨J,L,M, -, -, -,N, -⟩:=P3.wk.g;have l:g<w3.heap.size:=Ke P3.wk;by_cases hx0:cell s.1 C i t=0
       ·have bd:MdI C R t p (Zcn C R t (ZaC C R t (Zan C R t) (t+1)) (i+1)) F false s:= .inl ⟨rfl,hs,by rw[←ZkU z hx0];exact O.out,y.out⟩;rw[hx0];clear hx0;go_wp2;go_roundw;case rel=>exact ⟨G,i+1,false,s,I,I,Δ,P3.s,bd⟩
        case measure=>exact FN
       ·have q3:(cell s.1 C i t !=0)=true:=Bv;have be:=hid hx0;clear hx0;go_wp2;refine ZaH [([0,1,2,3,4,5,7,8,9,10,11,12],some 6),([],some 13),([],some 14),([15,16,17,18,19,20,21],none)] ?_;refine ZR ?_;intro K hK;refine (ZaA V _ W C i t (i*C+t) (R:Int) _ s.1 _ ((rA.grow P).grow (JH _).drew) rfl A.out I I I I).mono ?_;rintro e w4 ⟨rfl,D⟩;have v:Grow w3 w4:=(JH w3).drew.trans D;go_wp2_with fail;refine hK _ _ (v) ?_;clear hK K;refine ZR ?_;intro K hK;refine (ZaA V _ W C t t (t*C+t) (R:Int) _ s.1 _ ((rA.grow P).grow v) rfl ak.out I I I I).mono ?_;rintro e w5 ⟨rfl,al⟩;have k:=v.trans al;go_wp2_with fail;refine hK _ _ (k) ?_;clear hK K;refine ZR ?_;intro K hK;refine (ZdH _ _ _ Z bb aj.out).mono ?_;rintro e _ ⟨rfl,rfl⟩;go_wp2_with fail;refine hK _ _ (k) ?_;clear hK K;refine Zh ?_;refine Ze ?_;have bs:=Ze9 (n:=cell s.1 C i t) (d:=p) Z aj.out;have Hf:=hid (show Zcn C R t (ZaC C R t (Zan C R t) (t+1)) i s=(ZaP C R i t (-(cell s.1 C i t/p)) s).bind (Zcn C R t (ZaC C R t (Zan C R t) (t+1)) (i+1)) by rw[ZoA z be.out,y.out]);have W5:WkS w5 B g R C false s:=(P3.grow k).s;have ah:=G.trans k.any;generalize cell s.1 C i t/p=q at *;clear J L M N l q3 rA Z;go_wp2_with fail;refine (ZnR B g R C i t (-q) s _ W5 hs z ht I I hR hC).mono ?_;rintro e w6 ⟨rfl,b',s',am,an,ao⟩;have bf:=MdI.addR hs O.out y.out htC z I Hf.out an;clear W5;go_wp2;go_roundw;case rel=>exact ⟨ah.trans ao,i+1,b',s',I,I,Δ,am,bf⟩
        case measure=>exact FN
      ·go_wp2
       go_meet
       exact ⟨hK,true,s,f.s, .inr ⟨rfl,x⟩⟩
     ·have ap:R=i:=I;subst ap;have aq:MdI C R t p (ZaC C R t (Zan C R t) (t+1)) F b s:=by
       rcases hM with ⟨h1,h2,h3,h4⟩|h
       ·exact .inl ⟨h1,h2,by rw[←h3,Zmj],h4⟩
       ·exact .inr h
      go_wp2
      go_meet
      exact ⟨hK,b,s,f.s,aq⟩
   case rest=>
    clear a o a1 Hr Hp;obtain ⟨a,b1,s1,o,bg⟩:=hcut
    go_upto_block 2 with fail
    go_cut [] from 9 (fun wx=>Keep (fun q=>q<B) w wx/\ ∃ (b:Bool) (s:SS),WkS wx B g R C b s/\MdI C R t p (Zan C R t) F b s)
    case first=>
     go_wp2;go_loopw [13] (fun H wr=>Keep (fun q=>q<B) w wr/\ ∃ (j:Nat) (b:Bool) (s:SS),t<j/\j<=C/\H=Yv Yi j/\WkS wr B g R C b s/\MdI C R t p (ZaC C R t (Zan C R t) j) F b s) (fun H _=>C-(intOf H).toNat);case atStart=>exact ⟨a,t+1,b1,s1,I,htC,Δ,o,bg⟩
     case round=>as_aux_lemma=>
      clear a o bg;obtain ⟨hK,j,b,s,bh,hj,rfl,hW,hM⟩:=hrel;obtain ⟨V,au,ar,W,cu,cr,f⟩:=hW;obtain ⟨J,L,M, -, -, -,N, -⟩:=f.wk.g;have l:g<wr.heap.size:=Ke f.wk;by_cases E:j<C
      ·rcases hM with ⟨rfl,hs,x,X⟩|⟨rfl,x⟩
       ·have O:=hid x;have y:=hid X;clear x X;have rA:=f.th.oa.rdI (S:=fun _=>True) (fun _ _=>trivial) (Zp hs.na);have hni:t*C+j<R*C:=Zf E ht;have Y:t*C+t<R*C:=Zf htC ht;have A:=hid (show s.1[t*C+j]? =some (cell s.1 C t j) from ZU Df);have ak:=hid (show s.1[t*C+t]? =some p by rw[←y.out];exact ZU (by rw[hs.la];exact Y));have Z:=Zk hs.na C t j;clear hni Y;go_wp2_with fail;refine (ZaA V _ W C t j (t*C+j) (R:Int) _ s.1 _ rA rfl A.out I I I I).mono ?_;rintro e w3 ⟨rfl,P⟩;have P3:=f.grow P;have G:=hK.trans P.any;clear J L M N l;obtain ⟨J,L,M, -, -, -,N, -⟩:=P3.wk.g;have l:g<w3.heap.size:=Ke P3.wk;by_cases hx0:cell s.1 C t j=0
        ·have bd:MdI C R t p (ZaC C R t (Zan C R t) (j+1)) F false s:= .inl ⟨rfl,hs,by rw[←ZkA E hx0];exact O.out,y.out⟩;rw[hx0];clear hx0;go_wp2;go_roundw;case rel=>exact ⟨G,j+1,false,s,I,I,Δ,P3.s,bd⟩
         case measure=>exact FN
        ·have q3:(cell s.1 C t j !=0)=true:=Bv;have be:=hid hx0;clear hx0;go_wp2;refine ZaH [([0,1,2,3,4,5,7,8,9,10,11,12],some 6),([],some 13),([],some 14),([15,16,17,18,19,20,21],none)] ?_;refine ZR ?_;intro K hK;refine (ZaA V _ W C t j (t*C+j) (R:Int) _ s.1 _ ((rA.grow P).grow (JH _).drew) rfl A.out I I I I).mono ?_;rintro e w4 ⟨rfl,D⟩;have v:Grow w3 w4:=(JH w3).drew.trans D;go_wp2_with fail;refine hK _ _ (v) ?_;clear hK K;refine ZR ?_;intro K hK;refine (ZaA V _ W C t t (t*C+t) (R:Int) _ s.1 _ ((rA.grow P).grow v) rfl ak.out I I I I).mono ?_;rintro e w5 ⟨rfl,al⟩;have k:=v.trans al;go_wp2_with fail;refine hK _ _ (k) ?_;clear hK K;refine ZR ?_;intro K hK;refine (ZdH _ _ _ Z bb aj.out).mono ?_;rintro e _ ⟨rfl,rfl⟩;go_wp2_with fail;refine hK _ _ (k) ?_;clear hK K;refine Zh ?_;refine Ze ?_;have bs:=Ze9 (n:=cell s.1 C t j) (d:=p) Z aj.out;have Hf:=hid (show ZaC C R t (Zan C R t) j s=(Zbn C R j t (-(cell s.1 C t j/p)) s).bind (ZaC C R t (Zan C R t) (j+1)) by rw[Zne E be.out,y.out]);have W5:WkS w5 B g R C false s:=(P3.grow k).s;have ah:=G.trans k.any;generalize cell s.1 C t j/p=q at *;clear J L M N l q3 rA Z;go_wp2_with fail;refine (Zrb B g R C j t (-q) s _ W5 hs E htC I I hR hC).mono ?_;rintro e w6 ⟨rfl,b',s',am,an,ao⟩;have bf:=MdI.addC hs O.out y.out ht htC E I Hf.out an;clear W5;go_wp2;go_roundw;case rel=>exact ⟨ah.trans ao,j+1,b',s',I,I,Δ,am,bf⟩
         case measure=>exact FN
       ·go_wp2
        go_meet
        exact ⟨hK,true,s,f.s, .inr ⟨rfl,x⟩⟩
      ·have av:C=j:=I;subst av;have aq:MdI C R t p (Zan C R t) F b s:=by
        rcases hM with ⟨h1,h2,h3,h4⟩|h
        ·exact .inl ⟨h1,h2,by rw[←h3,ZlT],h4⟩
        ·exact .inr h
       go_wp2
       go_meet
       exact ⟨hK,b,s,f.s,aq⟩
    case rest=>
     clear a o bg;obtain ⟨a,b2,s,o,aq⟩:=hcut;obtain ⟨V,au,ar,W,cu,cr,f⟩:=o;obtain ⟨J,L,M, -, -, -,N, -⟩:=f.wk.g;have l:g<(World.heap _).size:=Ke f.wk;rcases aq with ⟨rfl,hs,x,X⟩|⟨rfl,x⟩
     ·have O:=hid x;have y:=hid X;clear x X;go_wp2;clear J L M N l;go_loopw [8,17] (fun lv H wr=>Keep (fun q=>q<B) w wr/\WkP wr B g R C V au ar W cu cr false s/\ ∃ i:Nat,t<i/\i<=R/\H=Yv Yi i/\lv= .bool (!(Zck s.1 C t (i-(t+1))))) (fun _ H _=>R-(intOf H).toNat);case atStart=>exact ⟨a,f,t+1,I,ht,Δ,AC⟩
      case round=>as_aux_lemma=>
       clear a f;obtain ⟨hK,f,i,bc,hi,rfl,rfl⟩:=hrel;obtain ⟨J,L,M, -, -, -,N, -⟩:=f.wk.g;have l:g<wr.heap.size:=Ke f.wk;by_cases z:i<R
       ·have hni:i*C+t<R*C:=Zf htC z;have rA:=f.th.oa.rdI (S:=fun _=>True) (fun _ _=>trivial) (Zp hs.na);have A:=hid (show s.1[i*C+t]? =some (cell s.1 C i t) from ZU Df);have T:=hid (show Zck s.1 C t (i+1-(t+1))=(Zck s.1 C t (i-(t+1))&&cell s.1 C i t==0) by rw[show i+1-(t+1)=(i-(t+1))+1 by omega,ZkL,show t+1+(i-(t+1))=i by omega]);clear hni;cases hb:Zck s.1 C t (i-(t+1)) with
        |false=>
         have ad:=hid (show Zck s.1 C t (i+1-(t+1))=false by rw[T.out,hb];rfl);clear hb T;go_wp2;go_roundw;case rel=>exact ⟨hK,f,i+1,I,I,Δ,by rw[ad.out];rfl⟩
         case measure=>exact FN
        |true=>
         have ad:=hid (show Zck s.1 C t (i+1-(t+1))=(cell s.1 C i t==0) by rw[T.out,hb];rfl);clear hb T;go_wp2_with fail;refine (ZaA V _ W C i t (i*C+t) (R:Int) _ s.1 _ rA rfl A.out I I I I).mono ?_;rintro e w4 ⟨rfl,D⟩;clear J L M N l;go_wp2;go_roundw;case rel=>exact ⟨hK.trans D.any,f.grow D,i+1,I,I,Δ,by rw[ad.out]<;>try rfl⟩
         case measure=>exact FN
       ·have ap:R=i:=I;subst ap;have aw:Zck s.1 C t (R-(t+1))=ZN s.1 C R t:=rfl;rw[aw];clear aw;have a:=hK;have ai:=f;clear hK f;go_wp2;clear J L M N l;go_loopw [8,18] (fun lv H wr=>Keep (fun q=>q<B) w wr/\WkP wr B g R C V au ar W cu cr false s/\ ∃ j:Nat,t<j/\j<=C/\H=Yv Yi j/\lv= .bool (!(ZN s.1 C R t&&ZbM s.1 C t (j-(t+1))))) (fun _ H _=>C-(intOf H).toNat);case atStart=>exact ⟨a,ai,t+1,I,htC,Δ,by rw[Nat.sub_self,show ZbM s.1 C t 0=true from rfl,Bool.and_true]⟩
        case round=>as_aux_lemma=>
         clear a ai;obtain ⟨hK,f,j,bh,hj,rfl,rfl⟩:=hrel;obtain ⟨J,L,M, -, -, -,N, -⟩:=f.wk.g;have l:g<wr.heap.size:=Ke f.wk;by_cases E:j<C
         ·have hni:t*C+j<R*C:=Zf E ht;have rA:=f.th.oa.rdI (S:=fun _=>True) (fun _ _=>trivial) (Zp hs.na);have A:=hid (show s.1[t*C+j]? =some (cell s.1 C t j) from ZU Df);have T:=hid (show (ZN s.1 C R t&&ZbM s.1 C t (j+1-(t+1)))=((ZN s.1 C R t&&ZbM s.1 C t (j-(t+1)))&&cell s.1 C t j==0) by rw[show j+1-(t+1)=(j-(t+1))+1 by omega,Zlg,show t+1+(j-(t+1))=j by omega,Bool.and_assoc]);clear hni;cases hb:(ZN s.1 C R t&&ZbM s.1 C t (j-(t+1))) with
          |false=>
           have ad:=hid (show (ZN s.1 C R t&&ZbM s.1 C t (j+1-(t+1)))=false by rw[T.out,hb];rfl);clear hb T;go_wp2;go_roundw;case rel=>exact ⟨hK,f,j+1,I,I,Δ,by rw[ad.out];rfl⟩
           case measure=>exact FN
          |true=>
           have ad:=hid (show (ZN s.1 C R t&&ZbM s.1 C t (j+1-(t+1)))=(cell s.1 C t j==0) by rw[T.out,hb];rfl);clear hb T;go_wp2_with fail;refine (ZaA V _ W C t j (t*C+j) (R:Int) _ s.1 _ rA rfl A.out I I I I).mono ?_;rintro e w4 ⟨rfl,D⟩;clear J L M N l;go_wp2;go_roundw;case rel=>exact ⟨hK.trans D.any,f.grow D,j+1,I,I,Δ,by rw[ad.out]<;>try rfl⟩
           case measure=>exact FN
         ·have av:C=j:=I;subst av;have aw:ZbM s.1 C t (C-(t+1))=Zao s.1 C t:=rfl;rw[aw];clear aw;have a:=hK;have ai:=f;clear hK f;obtain ⟨lb,hlb⟩:=eX ( !(ZN s.1 C R t&&Zao s.1 C t));rw[←hlb];cases lb with
          |true=>have ax:(ZN s.1 C R t&&Zao s.1 C t)=false:=EY;have Hf:=hid (ZsE (Zpr (Zuw hs O.out y.out) ax) hs);clear ax hlb;go_wp2;go_ret;exact ⟨true,false,s,rfl,ai.s,a, .inl ⟨rfl,Hf.out⟩⟩
          |false=>
           have ax:(ZN s.1 C R t&&Zao s.1 C t)=true:=EY;have br:=hid ax;clear ax hlb;go_wp2;clear J L M N l;go_loopw [19] (fun H wr=>Keep (fun q=>q<B) w wr/\WkP wr B g R C V au ar W cu cr false s/\ ∃ i:Nat,t<i/\i<=R/\H=Yv Yi i/\ ∀ i',t<i'->i'<i-> ∀ j',t<j'->j'<C->(cell s.1 C i' j').tmod p=0) (fun H _=>R-(intOf H).toNat);case atStart=>exact ⟨a,ai,t+1,I,ht,Δ,fun i' h1 h2=>I⟩
           case round=>as_aux_lemma=>
            clear a ai;obtain ⟨hK,f,i,bc,hi,rfl,ab⟩:=hrel;have ay:=hid ab;clear ab;obtain ⟨J,L,M, -, -, -,N, -⟩:=f.wk.g;have l:g<wr.heap.size:=Ke f.wk;by_cases z:i<R
            ·go_wp2;clear J L M N l;obtain ⟨wo,rfl⟩:=eX wr;go_loopw [20] (fun jv wr=>Keep (fun q=>q<B) w wr/\WkP wr B g R C V au ar W cu cr false s/\ ∃ j:Nat,t<j/\j<=C/\jv=Yv Yi j/\ ∀ j',t<j'->j'<j->(cell s.1 C i j').tmod p=0) (fun jv _=>C-(intOf jv).toNat);case atStart=>exact ⟨hK,f,t+1,I,htC,Δ,fun j' h1 h2=>I⟩
             case round=>as_aux_lemma=>
              clear hK f;obtain ⟨hK,f,j,bh,hj,rfl,ab⟩:=hrel;have a4:=hid ab;clear ab;obtain ⟨J,L,M, -, -, -,N, -⟩:=f.wk.g;have l:g<wr.heap.size:=Ke f.wk;by_cases E:j<C
              ·have hni:i*C+j<R*C:=Zf E z;have Y:t*C+t<R*C:=Zf htC ht;have rA:=f.th.oa.rdI (S:=fun _=>True) (fun _ _=>trivial) (Zp hs.na);have A:=hid (show s.1[i*C+j]? =some (cell s.1 C i j) from ZU Df);have ak:=hid (show s.1[t*C+t]? =some p by rw[←y.out];exact ZU (by rw[hs.la];exact Y));have Z:=Zk hs.na C i j;have hp0:=aj.out;have q1:(p==0)=false:=Fg;clear hni Y;go_wp2;refine ZaH [([0,1,2,3,4,5,7,8,9,10,11,12],some 6),([],some 13),([14,15],none)] ?_;refine ZR ?_;intro K hK;refine (ZaA V _ W C i j (i*C+j) (R:Int) _ s.1 _ (rA.grow (JH _).drew) rfl A.out I I I I).mono ?_;rintro e w4 ⟨rfl,D⟩;have v:Grow wr w4:=(JH wr).drew.trans D;go_wp2_with fail;refine hK _ _ (v) ?_;clear hK K;refine ZR ?_;intro K hK;refine (ZaA V _ W C t t (t*C+t) (R:Int) _ s.1 _ (rA.grow v) rfl ak.out I I I I).mono ?_;rintro e w5 ⟨rfl,al⟩;have k:=v.trans al;go_wp2_with fail;refine hK _ _ (k) ?_;clear hK K;refine Zh ?_;refine Ze ?_;have P5:=f.grow k;have ah:=hK.trans k.any;clear J L M N l;by_cases az:(cell s.1 C i j).tmod p=0
               ·have bi:=hid az;have q5:((cell s.1 C i j).tmod p !=0)=false:=(by simp[az]);go_wp2;go_roundw;case rel=>exact ⟨ah,P5,j+1,I,I,Δ,fun j' h1 h2=>by
                 by_cases e:j'=j
                 ·subst e;exact bi.out
                 ·exact a4.out j' h1 I⟩
                case measure=>exact FN
               ·have bi:=hid az;have q5:((cell s.1 C i j).tmod p !=0)=true:=(by simpa using az);clear az;go_wp2_with fail;refine (ZnR B g R C t i 1 s _ P5.s hs ht z I I hR hC).mono ?_;rintro e w6 ⟨rfl,b',s',am,an,ao⟩;have HF:=hid (ZsZ hs O.out y.out br.out ⟨bc,z⟩ ⟨bh,E⟩ ay.out bi.out an);clear P5 q5;go_wp2;go_ret;exact ⟨true,b',s',rfl,am,ah.trans ao,HF.out⟩
              ·have av:C=j:=I;subst av;go_wp2;go_roundw;case rel=>exact ⟨hK,f,i+1,I,I,Δ,fun i' h1 h2=>by
                by_cases e:i'=i
                ·subst e;exact fun j' h3 h4=>a4.out j' h3 h4
                ·exact ay.out i' h1 I⟩
               case measure=>exact FN
            ·have ap:R=i:=I;subst ap;have HN:=hid (ZsE (Znp (Zuw hs O.out y.out) br.out fun i' h1 h2 j' h3 h4=> .inr (ay.out i' h1 h2 j' h3 h4)) hs);go_wp2;go_ret;exact ⟨false,false,s,rfl,f.s,hK, .inl ⟨rfl,HN.out⟩⟩
     ·go_wp2;go_ret;exact ⟨false,true,s,rfl,f.s,a, .inr ⟨rfl,x⟩⟩
def wkM (w:World) (g R C t:Nat):Nat:=match w.cell? ⟨g,2,none⟩ with
 |some (.slice aa _ _)=>if bdW w g=true then 0 else mu3 (rdL w aa (R*C)) C R t+1
 |_=>0
theorem Zrc {g:Nat} {aa au ar:Option Addr} {ca cu cr:Nat} (h:WkP w B g R C aa au ar ca cu cr b s) (t:Nat):wkM w g R C t=if b=true then 0 else mu3 s.1 C R t+1:=by
 unfold wkM;rw[h.wk.g.c2,Zla h.wk];show (if b=true then 0 else mu3 (rdL w aa (R*C)) C R t+1)=_;rw[ZeV h.th.oa]
theorem Zwf {g:Nat} (h:WkS w B g R C b s) (t:Nat):wkM w g R C t=if b=true then 0 else mu3 s.1 C R t+1:=by
 obtain ⟨_,_,_,_,_,_,a⟩:=h;exact Zrc a t
theorem ZuV (h:(Z4 s.1 C R t).1<0):ZcQ C R (min R C-t) t s=some s:=by
 cases a:min R C-t with
 |zero=>rfl
 |succ n=>simp only[ZcQ];rw[if_pos h]
theorem ZiM {m:Mat} {mr mc:Int} (hVM:VM w S (.agg #[Yv Yi mr,Yv Yi mc, .slice a n c]) m) (hb:bdM m<=1048576) (hB:Zd m=false):
  Calls JG 108 #[.agg #[Yv Yi mr,Yv Yi mc, .slice a n c]] w fun e w'=>e= .returned (.tuple #[zM,zM,zM, .bool false])/\Grow w w':=by
 obtain ⟨f,b,hG,g,bR1,bR2,bR3, -⟩:=al4 w #[Yv Yi mr,Yv Yi mc, .slice a n c] 37 #[Yv Yi 0,Yv Yi 0, .slice none 0 0] 37 #[Yv Yi 0,Yv Yi 0, .slice none 0 0] 37 #[Yv Yi 0,Yv Yi 0, .slice none 0 0] 37;have d:=hid b;clear b;have HB:=hid hB;clear hB;go_enter Qy,Qz;go_wp2_with fail;rw[←d.out];refine (ZG (hVM.grow hG) I).mono ?_;exact FX
theorem ZkH (h:RdI w S a n c cells) (hl:cells.length=R*C) (hnum:NumL cells) (hR:R<=24) (hC:C<=24):
  Calls JG 108 #[.agg #[Yv Yi R,Yv Yi C, .slice a n c]] w fun e w'=>Grow w w'/\((Zcz cells R C=none/\e= .returned (.tuple #[zM,zM,zM, .bool false]))\/
   ∃ s aa ca ub uc vb vc,Zcz cells R C=some s/\e= .returned (.tuple #[.agg #[Yv Yi R,Yv Yi C, .slice aa (R*C) ca], .agg #[Yv Yi R,Yv Yi R, .slice ub (R*R) uc], .agg #[Yv Yi C,Yv Yi C, .slice vb (C*C) vc], .bool true])/\(Own w' 3 1 aa (R*C) ca (ints s.1)/\(∀ q,blk aa=some q->w.heap.size<=q)/\NumL s.1)/\RdI w' (fun q=>w.heap.size<=q) ub (R*R) uc s.2.1/\RdI w' (fun q=>w.heap.size<=q) vb (C*C) vc s.2.2/\Ss C R s):=by
 have cj:R*C<=24*24:=JL hR hC;have hB:=Zay hR hC hl hnum;obtain ⟨mr,ax⟩: ∃ mr:Int,mr=R:=⟨_,rfl⟩;obtain ⟨mc,ay⟩: ∃ mc:Int,mc=C:=⟨_,rfl⟩;have al:VM w S (.agg #[Yv Yi R,Yv Yi C, .slice a n c]) {rows:=(R:Int),cols:=(C:Int),cells:=cells}:=⟨a,n,c,rfl,h,δ,η⟩;rw[←ax, ←ay] at al hB ⊢;obtain ⟨w3,az,hG,bM,bR1,bR2,bR3, -⟩:=al4 w #[Yv Yi mr,Yv Yi mc, .slice a n c] 37 #[Yv Yi 0,Yv Yi 0, .slice none 0 0] 37 #[Yv Yi 0,Yv Yi 0, .slice none 0 0] 37 #[Yv Yi 0,Yv Yi 0, .slice none 0 0] 37;have a3:=hid az;clear az;subst ax;subst ay;have HB:=hid hB;clear hB;obtain ⟨j,ab⟩:=eX (Zcz cells R C);rw[←ab];have ad:=hid (show ZcQ C R (min R C-0) 0 (cells,idL R,idL C)=j from ab.symm);clear ab;obtain ⟨M,hM⟩:=eX (min R C);have HM:=hid hM;have L:(if (C:Int)<(R:Int) then (C:Int) else (R:Int))=(M:Int):=CK
 clear hM;go_enter Qy,Qz;go_wp2_with fail;rw[←a3.out];refine (ZG (al.grow hG) Ar).mono ?_;rintro e w4 ⟨rfl,y⟩;rw[HB.out];have am:=bM.grow y;obtain ⟨⟨a0,a1,a2⟩, -⟩:=am.three;have bp:w.heap.size+1+1+1<w4.heap.size:=(bR3.grow y).lt;go_wp2_with fail;refine (ZkV ((h.grow hG).grow y) hl hR hC).mono ?_;rintro e w5 ⟨g,aa,au,ar,ca,rfl,an,P⟩;obtain ⟨B,hB⟩:=eX w4.heap.size;rw[←hB] at an bp;have ao:Ss C R (cells,idL R,idL C):=⟨hl,Zbl R,Zbl C,hnum,Zbi R,Zbi C⟩;have ap:WkS w5 B g R C false (cells,idL R,idL C):=an.s;have bq:=am.grow P;have a4:=(bR1.grow y).grow P;have a5:=(bR2.grow y).grow P;have a6:=(bR3.grow y).grow P;have a7:=(hG.trans y).trans P;have a8: ∀ q,q<w.heap.size->q<B:=fun q hq=>I
 have nM:w.heap.size<B:=I
 have a9:w.heap.size+1<B:=I
 have ba:w.heap.size+1+1<B:=I
 have bb:w.heap.size+1+1+1<B:=I
 clear hG y P bM am bR1 bR2 bR3 a0 a1 a2 a3 al HB h an hB
 go_upto_block 0 with fail
 go_cut [] from 7 (fun wx=>Keep (fun q=>q<B) w5 wx/\ ∃ (b:Bool) (s:SS),WkS wx B g R C b s/\((b=false/\Ss C R s/\j=some s)\/(b=true/\j=none)))
 case rest=>
  clear ap ao ad;obtain ⟨z,bx,sx,Wx,T⟩:=hcut;obtain ⟨aa,au,ar,ca,cu,cr,x⟩:=Wx;rcases T with ⟨rfl,ah,X⟩|⟨rfl,X⟩
  ·have Hn:=hid X;clear X;have br:=a7.keep z a8;have bs:=a4.keep z a9;have bt:=a5.keep z ba;have bv:=a6.keep z bb;have c0:=x.wk.cell 0;have c1:=x.wk.cell 1;have c2:=x.wk.cell 2;have c3:=x.wk.cell 3;have c4:=x.wk.cell 4;have c5:=x.wk.cell 5;have c6:=x.wk.cell 6;have c7:=x.wk.cell 7;have c8:=x.wk.cell 8;have c9:=x.wk.cell 9;simp only[WkC,List.getElem?_toArray,List.getElem?_cons_zero,List.getElem?_cons_succ] at c0 c1 c2 c3 c4 c5 c6 c7 c8 c9;have lg:=x.lg;have ck:g≠w.heap.size+1/\g≠w.heap.size+1+1/\g≠w.heap.size+1+1+1:=⟨I,I,I⟩;have n12:w.heap.size+1≠w.heap.size+1+1:=I;have n13:w.heap.size+1≠w.heap.size+1+1+1:=I;have n23:w.heap.size+1+1≠w.heap.size+1+1+1:=I;have fA': ∀ q,blk aa=some q->w.heap.size+1+1+1<q:=fun q hq=>(by have:=x.la q hq;omega);clear lg;go_wp2;refine Zcr (fun q=>q≠w.heap.size+1/\q≠w.heap.size+1+1/\q≠w.heap.size+1+1+1) [([0,1,2,3,4,5,6,7,8,9,10,11],some 12),([],some 13),([],some 14),([15],none)] ?_;refine Zh ?_;obtain ⟨wa,hwa⟩:=eX wc.drew;rw[←hwa];have k:Grow wc wa:=Bz;clear hwa;have rA:=bs.grow k;have rB:=bt.grow k;have rC:=bv.grow k;refine Zu rfl (fun K hK=> ?_);obtain ⟨⟨a0,a1,a2⟩,f0,f1,f2⟩:=rA.three;go_wp2_with fail;have m:Keep (fun q=>q≠w.heap.size+1) wa (((wa.setCell ⟨w.heap.size+1,0,none⟩ (Yv Yi (R:Int))).setCell ⟨w.heap.size+1,1,none⟩ (Yv Yi (C:Int))).setCell ⟨w.heap.size+1,2,none⟩ (.slice aa (R*C) ca)):=
    kS
   have bc:=((rA.set 0 (Yv Yi (R:Int))).set 1 (Yv Yi (C:Int))).set 2 (.slice aa (R*C) ca);have aq:=rB.keep m n12.symm;have bd:=rC.keep m n13.symm;refine hK _ _ (((k.mono fun _ _ _=>trivial).trans (m.mono fun q _ (hb:q≠w.heap.size+1/\q≠w.heap.size+1+1/\q≠w.heap.size+1+1+1)=>hb.1))) ?_;clear hK K;generalize (((wa.setCell ⟨w.heap.size+1,0,none⟩ (Yv Yi (R:Int))).setCell ⟨w.heap.size+1,1,none⟩ (Yv Yi (C:Int))).setCell ⟨w.heap.size+1,2,none⟩ (.slice aa (R*C) ca))=wb at *;clear a0 a1 a2 f0 f1 f2 rA rB rC;refine Zh ?_;refine Zu rfl (fun K hK=> ?_);obtain ⟨⟨b0,b1,b2⟩,g0,g1,g2⟩:=aq.three;go_wp2_with fail;have A:Keep (fun q=>q≠w.heap.size+1+1) wb (((wb.setCell ⟨w.heap.size+1+1,0,none⟩ (Yv Yi (R:Int))).setCell ⟨w.heap.size+1+1,1,none⟩ (Yv Yi (R:Int))).setCell ⟨w.heap.size+1+1,2,none⟩ (.slice au (R*R) cu)):=
    kS
   have bw:=((aq.set 0 (Yv Yi (R:Int))).set 1 (Yv Yi (R:Int))).set 2 (.slice au (R*R) cu);have bz:=bc.keep A n12;have be:=bd.keep A n23.symm;refine hK _ _ ((((k.mono fun _ _ _=>trivial).trans (m.mono fun q _ (hb:q≠w.heap.size+1/\q≠w.heap.size+1+1/\q≠w.heap.size+1+1+1)=>hb.1)).trans (A.mono fun q _ (hb:q≠w.heap.size+1/\q≠w.heap.size+1+1/\q≠w.heap.size+1+1+1)=>hb.2.1))) ?_;clear hK K;generalize (((wb.setCell ⟨w.heap.size+1+1,0,none⟩ (Yv Yi (R:Int))).setCell ⟨w.heap.size+1+1,1,none⟩ (Yv Yi (R:Int))).setCell ⟨w.heap.size+1+1,2,none⟩ (.slice au (R*R) cu))=wd at *;clear b0 b1 b2 g0 g1 g2 bc aq bd;refine Zh ?_;refine Zu rfl (fun K hK=> ?_);obtain ⟨⟨c0,c1,c2⟩,k0,k1,k2⟩:=be.three;go_wp2_with fail;have D:Keep (fun q=>q≠w.heap.size+1+1+1) wd (((wd.setCell ⟨w.heap.size+1+1+1,0,none⟩ (Yv Yi (C:Int))).setCell ⟨w.heap.size+1+1+1,1,none⟩ (Yv Yi (C:Int))).setCell ⟨w.heap.size+1+1+1,2,none⟩ (.slice ar (C*C) cr)):=
    kS
   have b3:=((be.set 0 (Yv Yi (C:Int))).set 1 (Yv Yi (C:Int))).set 2 (.slice ar (C*C) cr);have b4:=bz.keep D n13;have b5:=bw.keep D n23;refine hK _ _ (((((k.mono fun _ _ _=>trivial).trans (m.mono fun q _ (hb:q≠w.heap.size+1/\q≠w.heap.size+1+1/\q≠w.heap.size+1+1+1)=>hb.1)).trans (A.mono fun q _ (hb:q≠w.heap.size+1/\q≠w.heap.size+1+1/\q≠w.heap.size+1+1+1)=>hb.2.1)).trans (D.mono fun q _ (hb:q≠w.heap.size+1/\q≠w.heap.size+1+1/\q≠w.heap.size+1+1+1)=>hb.2.2))) ?_;clear hK K;refine Zh ?_;refine Ze ?_;have b6:=(((br.trans k).keep m (fun q hq=>I)).keep A (fun q hq=>I)).keep D (fun q hq=>I);have fU': ∀ q,blk au=some q->w.heap.size+1+1+1<q:=fun q hq=>(by have:=x.lu q hq;omega);have fV': ∀ q,blk ar=some q->w.heap.size+1+1+1<q:=fun q hq=>(by have:=x.lr q hq;omega);have b7:=((((x.th.ou.grow k).keep m (fun q hq _ e=>Ac)).keep A (fun q hq _ e=>Ac)).keep D (fun q hq _ e=>Ac)).rdI (S:=fun q=>w.heap.size<=q) (fun q hq=>Ac) (Zp ah.nu);have b8:=((((x.th.ov.grow k).keep m (fun q hq _ e=>En)).keep A (fun q hq _ e=>En)).keep D (fun q hq _ e=>En)).rdI (S:=fun q=>w.heap.size<=q) (fun q hq=>En) (Zp ah.nv);have b9:=(((x.th.oa.grow k).keep m (fun q hq _ e=>σ)).keep A (fun q hq _ e=>σ)).keep D (fun q hq _ e=>σ);go_wp2;exact ZbT Zc Zc Zc rfl rfl rfl rfl rfl b4 b5 b3 ⟨b6, .inr ⟨sx,aa,ca,_,_,_,_,Hn.out,rfl,⟨b9,(fun q hq=>σ),ah.na⟩,b7,b8,ah⟩⟩
  ·have Hn:=hid X;clear X;have hG:=a7.keep z a8;replace bR1:=a4.keep z a9;replace bR2:=a5.keep z ba;replace bR3:=a6.keep z bb;obtain ⟨-, -, -, -, -, -,c9, -⟩:=x.wk.g;have h1:w.heap.size<=w.heap.size+1:=I;have h2:w.heap.size<=w.heap.size+1+1:=I;have h3:w.heap.size<=w.heap.size+1+1+1:=I;have n12:w.heap.size+1≠w.heap.size+1+1:=I;have n13:w.heap.size+1≠w.heap.size+1+1+1:=I;have n23:w.heap.size+1+1≠w.heap.size+1+1+1:=I;exact Gc
 go_wp2;go_loopw [7] (fun tv wr=>Keep (fun q=>q<B) w5 wr/\ ∃ (t:Nat) (b:Bool) (s:SS),t<=24/\tv=Yv Yi t/\WkS wr B g R C b s/\((b=false/\Ss C R s/\ZcQ C R (min R C-t) t s=j)\/(b=true/\j=none))) (fun tv _=>24-(intOf tv).toNat);case atStart=>exact ⟨Keep.refl _ _,0,false,_,I,rfl,ap, .inl ⟨rfl,ao,ad.out⟩⟩
 case round=>as_aux_lemma=>
  clear ap ao ad;obtain ⟨hK,t,b,s,ci,rfl,hW,T⟩:=hrel;have bf:=bq.keep hK nM;obtain ⟨⟨m0,m1,m2⟩, -⟩:=bf.three;obtain ⟨aa,au,ar,ca,cu,cr,E⟩:=hW;obtain ⟨c0,c1,c2, -, -, -,c9, -⟩:=E.wk.g;have V:g<wr.heap.size:=Ke E.wk;by_cases bg:t<R/\t<C
  ·obtain ⟨ht,ae⟩:=bg;have cb:t<M:=EE;rcases T with ⟨rfl,Y,hh⟩|⟨rfl,X⟩
   ·have Hh:=hid hh;clear hh;go_wp2_with (refine Zcc (o:=⟨some 24,_,_,_,_,_⟩) rfl rfl rfl rfl L ?_);refine (Zil B g R C t aa au ar ca cu cr false s _ E Y I I hR hC).mono ?_;rintro e w6 ⟨rfl,bh⟩;have av:=hK.trans bh.any;have aw:WkS w6 B g R C false s:=(E.grow bh).s;clear m0 m1 m2 c0 c1 c2 c9 V bf E;by_cases p:0<=(Z4 s.1 C R t).1
    ·have N:=Zkn (s:=s) ht ae;rw[if_neg I,Hh.out] at N;obtain ⟨sa,W⟩:=eX (sA C R t s);rw[←W] at N;have Hr:=hid N;have q0:decide (0<=(Z4 s.1 C R t).1)=true:=decide_eq_true p;clear N Hh;go_wp2;go_loopw [] (fun wr=>Keep (fun q=>q<B) w5 wr/\ ∃ (b:Bool) (s:SS),WkS wr B g R C b s/\((b=false/\Ss C R s/\0<=(Z4 s.1 C R t).1/\sA C R t s=sa)\/(b=true/\sa=none))) (fun wr=>wkM wr g R C t);case atStart=>exact ⟨av,false,s,aw, .inl ⟨rfl,Y,p,W.symm⟩⟩
     case round=>
      clear av aw Y p W;obtain ⟨hK,b,s,hW,T⟩:=hrel;obtain ⟨aa,au,ar,ca,cu,cr,E⟩:=hW;obtain ⟨c0,c1,c2, -, -, -,c9, -⟩:=E.wk.g;have V:g<wr.heap.size:=Ke E.wk;rcases T with ⟨rfl,Y,p,W⟩|⟨rfl,X⟩
      ·have F:=fun (h0:rnd C R t s=none)=>ZpD h0;have G:=fun d (h0:rnd C R t s=some (d,true))=>ZpQ h0;have H:=fun d (h0:rnd C R t s=some (d,false))=>Zpl ht ae Y p h0;have af:=fun d b' (h0:rnd C R t s=some (d,b'))=>Zgf ht ae Y p h0;rw[W] at F G H;have f:=hid F;have r:=hid G;have v:=hid H;have i:=hid af;have ai:=hid (Zrc E t);clear F G H af W;go_wp2_with fail;refine (ZrW B g R C t s _ E.s Y ht ae p hR hC).mono ?_;rintro e w8 ⟨bi,b',d,rfl,ag,cc,Z⟩;have O:=hK.trans cc;have aj:=hid (Zwf ag t);clear c0 c1 c2 c9 V p E;rcases Z with ⟨rfl,Z⟩|⟨rfl,Z⟩
       ·cases bi with
        |true=>
         obtain ⟨J,ak⟩:=i.out d false Z;obtain ⟨bj,ak⟩:=ak rfl;have cd:=hid bj;have ce:=hid ak;have cf:=hid (v.out d Z);clear Z bj ak i r f v;go_wp2;go_roundw;case rel=>exact ⟨O,false,d,ag, .inl ⟨rfl,J,cd.out,cf.out.symm⟩⟩
         case measure=>show wkM w8 g R C t<wkM wr g R C t;rw[aj.out,ai.out];have:=ce.out;simp only[Bool.false_eq_true,if_false];omega
        |false=>
         obtain ⟨J, -⟩:=i.out d true Z;have Hn:=hid (show j=ZcQ C R (min R C-(t+1)) (t+1) (Zec C R t d) by rw[Hr.out,r.out d Z];rfl);clear Z i r f v Y ai aj;obtain ⟨aa,au,ar,ca,cu,cr,P8⟩:=ag;obtain ⟨c0,c1,c2, -, -, -,c9, -⟩:=P8.wk.g;have V:g<w8.heap.size:=Ke P8.wk;have rA:=P8.th.oa.rdI (S:=fun _=>True) (fun _ _=>trivial) (Zp J.na);have bk:t*C+t<R*C:=Zf ae ht;have cg:=hid (show d.1[t*C+t]? =some (cell d.1 C t t) from ZU (by rw[J.la];exact bk));clear bk;go_wp2_with fail;refine (ZaA aa _ ca C t t (t*C+t) (R:Int) _ d.1 _ rA rfl cg.out I I I I).mono ?_;rintro e w9 ⟨rfl,bl⟩;have P9:=P8.grow bl;have bm:=O.trans bl.any;clear c0 c1 c2 c9 V rA;by_cases l:cell d.1 C t t<0
         ·have Hs:=hid (show Zec C R t d=Zgy C R t d by unfold Zec;rw[if_pos l]);have q1:decide (cell d.1 C t t<0)=true:=decide_eq_true l;clear l;go_wp2_with fail;refine (Zua B g R C t d _ P9.s J ht hR hC).mono ?_;rintro e cl ⟨rfl,bn,bo⟩;go_wp2;go_roundw;case rel=>exact ⟨bm.trans bo,t+1,false,_,I,Δ,bn, .inl ⟨rfl,Zj4 J,by rw[←Hs.out];exact Hn.out.symm⟩⟩
          case measure=>exact FN
         ·have Hs:=hid (show Zec C R t d=d by unfold Zec;rw[if_neg l]);have q1:decide (cell d.1 C t t<0)=false:=decide_eq_false l;clear l;go_wp2;go_roundw;case rel=>exact ⟨bm,t+1,false,d,I,Δ,P9.s, .inl ⟨rfl,J,by rw[Hn.out,Hs.out]⟩⟩
          case measure=>exact FN
       ·have ch:=hid (f.out Z);have Hn:=hid (show j=none by rw[Hr.out,f.out Z];rfl);clear Z i r f v Y;cases bi with
        |true=>
         go_wp2;go_roundw;case rel=>exact ⟨O,true,d,ag, .inr ⟨rfl,ch.out⟩⟩
         case measure=>show wkM w8 g R C t<wkM wr g R C t;rw[aj.out,ai.out];simp
        |false=>
         obtain ⟨aa,au,ar,ca,cu,cr,P8⟩:=ag;obtain ⟨c0,c1,c2, -, -, -,c9, -⟩:=P8.wk.g;have V:g<w8.heap.size:=Ke P8.wk;clear ai aj;go_wp2;go_roundw;case rel=>exact ⟨O,t+1,true,d,I,Δ,P8.s, .inr ⟨rfl,Hn.out⟩⟩
         case measure=>exact FN
      ·have Hn:=hid (show j=none by rw[Hr.out,X];rfl);clear X;go_wp2;go_roundw;case rel=>exact ⟨hK,t+1,true,s,I,Δ,E.s, .inr ⟨rfl,Hn.out⟩⟩
       case measure=>exact FN
    ·have Hn:=hid (show j=some s by rw[←Hh.out,ZuV I]);have q0:decide (0<=(Z4 s.1 C R t).1)=false:=decide_eq_false p;go_wp2
     go_meet
     exact ⟨av,false,s,aw, .inl ⟨rfl,Y,Hn.out⟩⟩
   ·go_wp2_with (refine Zcc (o:=⟨some 24,_,_,_,_,_⟩) rfl rfl rfl rfl L ?_)
    go_meet
    exact ⟨hK,true,s,E.s, .inr ⟨rfl,X⟩⟩
  ·have cb: ¬ t<M:=EE;rcases T with ⟨rfl,Y,hh⟩|⟨rfl,X⟩
   ·have Hn:=hid (show j=some s by rw[←hh,ZnU bg]);clear hh;go_wp2_with (refine Zcc (o:=⟨some 24,_,_,_,_,_⟩) rfl rfl rfl rfl L ?_)
    go_meet
    exact ⟨hK,false,s,E.s, .inl ⟨rfl,Y,Hn.out⟩⟩
   ·go_wp2_with (refine Zcc (o:=⟨some 24,_,_,_,_,_⟩) rfl rfl rfl rfl L ?_)
    go_meet
    exact ⟨hK,true,s,E.s, .inr ⟨rfl,X⟩⟩
theorem Zk3 (h:RdI w S a n c cells) (hl:cells.length=R*C) (hnum:NumL cells) (hR:R<=24) (hC:C<=24):
  Calls JG 108 #[.agg #[Yv Yi R,Yv Yi C, .slice a n c]] w fun e w'=>Grow w w'/\((Zcz cells R C=none/\e= .returned (.tuple #[zM,zM,zM, .bool false]))\/
   ∃ s aa ca ub un uc vb vn vc,Zcz cells R C=some s/\e= .returned (.tuple #[.agg #[Yv Yi R,Yv Yi C, .slice aa (R*C) ca], .agg #[Yv Yi R,Yv Yi R, .slice ub un uc], .agg #[Yv Yi C,Yv Yi C, .slice vb vn vc], .bool true])/\(Own w' 3 1 aa (R*C) ca (ints s.1)/\(∀ q,blk aa=some q->w.heap.size<=q)/\NumL s.1)):=by
 refine (ZkH h hl hnum hR hC).mono ?_;rintro e w' ⟨d,f⟩;refine ⟨d, ?_⟩;rcases f with b|⟨s,aa,ca,ub,uc,vb,vc,b,g,i, -⟩
 ·exact .inl b
 ·exact .inr ⟨s,aa,ca,ub,_,uc,vb,_,vc,b,g,i⟩
theorem Zq6 (h:RdI w S a n c cells) (hl:cells.length=R*C) (hnum:NumL cells) (hR:R<=24) (hC:C<=24):
  Calls JG 108 #[.agg #[Yv Yi R,Yv Yi C, .slice a n c]] w fun e w'=>Grow w w'/\((Zcz cells R C=none/\e= .returned (.tuple #[zM,zM,zM, .bool false]))\/
   ∃ s aa ca ub un uc vb vn vc,Zcz cells R C=some s/\e= .returned (.tuple #[.agg #[Yv Yi R,Yv Yi C, .slice aa (R*C) ca], .agg #[Yv Yi R,Yv Yi R, .slice ub un uc], .agg #[Yv Yi C,Yv Yi C, .slice vb vn vc], .bool true])/\RdI w' (fun q=>w.heap.size<=q) aa (R*C) ca s.1):=by
 refine (Zk3 h hl hnum hR hC).mono ?_;rintro e w' ⟨d,b⟩;refine ⟨d, ?_⟩;rcases b with b|⟨s,aa,ca,ub,un,uc,vb,vn,vc,f,g,⟨i,j,k⟩⟩
 ·exact .inl b
 ·exact .inr ⟨s,aa,ca,ub,un,uc,vb,vn,vc,f,g,i.rdI j (Zp k)⟩

end Go.Proofs.YtgjefeiddfjjnaaGreatDoor
