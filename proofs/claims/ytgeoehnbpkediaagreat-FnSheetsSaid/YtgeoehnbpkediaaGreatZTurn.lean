/- Rows and columns exchanged: the program's TransposeOf, the reference's l3Turn. -/
import Derived.Test.YtgeoehnbpkediaaGreatZStack
set_option maxHeartbeats 8000000
set_option maxRecDepth 100000
namespace Go.Proofs.YtgeoehnbpkediaaGreat
open Go.RowKit
open Lib (hid)
open Go.Value renaming int->Yv
open Go.IntKind renaming i64->Yi
variable {C R:Nat} {S:Nat->Prop} {m:Mat} {v:Value} {w:World}
def ZcA (m:List Int) (C R i:Nat):Nat->List Int->List Int
 |0,x=>x
 |j+1,x=>(ZcA m C R i j x).set (j*R+i) (cell m C i j)
def Za6 (m:List Int) (C R:Nat):Nat->List Int
 |0=>List.replicate (C*R) 0
 |i+1=>ZcA m C R i C (Za6 m C R i)
def Zbv (m:Mat):Mat:={rows:=m.cols,cols:=m.rows,cells:=Za6 m.cells m.cols.toNat m.rows.toNat m.rows.toNat}
theorem Zhk (m:List Int) (C R i:Nat): ∀ (j:Nat) (x:List Int),(ZcA m C R i j x).length=x.length
 |0,_=>rfl
 |j+1,x=>by simp[ZcA,Zhk m C R i j x]
theorem Zfh (m:List Int) (C R:Nat): ∀ i,(Za6 m C R i).length=C*R
 |0=>by simp[Za6]
 |i+1=>by simp only[Za6];rw[Zhk,Zfh m C R i]
theorem ZiZ {m:List Int} {C R i:Nat} (hm:NumL m): ∀ {j:Nat} {x:List Int},NumL x->NumL (ZcA m C R i j x)
 |0,_,h=>h
 |j+1,x,h=>fun y hy=>by
  rcases List.mem_or_eq_of_mem_set hy with h1|h1
  ·exact ZiZ hm (j:=j) h y h1
  ·subst h1;exact Zr hm C i j
theorem Zfk {m:List Int} {C R:Nat} (hm:NumL m): ∀ {i:Nat},NumL (Za6 m C R i)
 |0=>fun x hx=>by rw[(List.mem_replicate.1 hx).2];omega
 |i+1=>by simp only[Za6];exact ZiZ hm (Zfk hm)
theorem Zgn {cells:List Int}:Zbv {rows:=(R:Int),cols:=(C:Int),cells:=cells}={rows:=(C:Int),cols:=(R:Int),cells:=Za6 cells C R R}:=rfl
theorem Zjp (h:Zg m=true):Zg (Zbv m)=true:=by
 obtain ⟨R,C,hmr,hmc,hR,hC,hl,hnum⟩:=ZD h;obtain ⟨mr,mc,cells⟩:=m;simp only at hmr hmc hl hnum;subst hmr;subst hmc;rw[Zgn];exact ZaG hC hR (Zfh _ _ _ _) (Zfk hnum)
theorem ZdH {m:List Int} {i k:Nat} (hl:m.length=R*C) (hi:i<R) (hk:k<C):m[i*C+k]? =some (cell m C i k):=by
 have:=Zl hk hi;unfold cell;simp[List.getD,List.getElem?_eq_getElem (show i*C+k<m.length by omega)]
theorem ZiQ (a:Option Addr) (n cp R C:Nat) (m:List Int) (w:World) (h:RdI w S a n cp m) (hl:m.length=R*C) (hnum:NumL m) (hR:R<=24) (hC:C<=24):
  Calls Tryz.prog 83 #[.agg #[Yv Yi R,Yv Yi C, .slice a n cp]] w fun e w'=> ∃ r,e= .returned (.tuple #[r, .bool true])/\OM w' (New w w') r {rows:=(C:Int),cols:=(R:Int),cells:=Za6 m C R R}/\Grow w w':=by
 have hnl:=h.len;have hRC:R*C<=24*24:=Nat.mul_le_mul hR hC;have hCR:C*R<=24*24:=Nat.mul_le_mul hC hR;obtain ⟨w2,hw2,hG2,bM,bZ, -⟩:=al2 w #[Yv Yi (R:Int),Yv Yi (C:Int), .slice a n cp] 28 #[Yv Yi 0,Yv Yi 0, .slice none 0 0] 28;have Hw2:=hid hw2;clear hw2;have HB:=hid (ZaG hR hC hl hnum);have rw0:RdI w (fun g=>g<w.heap.size) a n cp m:=h.weak (fun g hg _=>hg);have h2:=h.grow hG2;have hVM:VM w2 S (.agg #[Yv Yi (R:Int),Yv Yi (C:Int), .slice a n cp]) {rows:=(R:Int),cols:=(C:Int),cells:=m}:=⟨a,n,cp,rfl,h2,by unfold I64;simp only;omega,by unfold I64;simp only;omega⟩;have hbd:bdM {rows:=(R:Int),cols:=(C:Int),cells:=m}<=2097152:=by unfold bdM;simp only;omega
 go_enter Tryz.func83,Tryz.ntmps83;go_wp2_with fail;rw[←Hw2.out];refine (ZV hVM hbd).mono ?_;rintro e w3 ⟨rfl,hG3⟩;rw[HB.out];have bM3:=bM.grow hG3;have bZ3:=bZ.grow hG3;have hG13:=hG2.trans hG3;have r3:=rw0.grow hG13;obtain ⟨⟨a0,a1,a2⟩, -⟩:=bM3.three;have hltM3:=bM3.lt;have hltZ3:=bZ3.lt;clear hVM hbd bM bZ h h2;go_wp2_with fail;refine (Zdh C R _ (by omega) (by omega)).mono ?_;rintro e w4 ⟨oa,rfl,hO,hlo,hG4⟩;obtain ⟨w5,hw5,hG5,bO5, -⟩:=al1 w4 #[Yv Yi (C:Int),Yv Yi (R:Int), .slice oa (C*R) (C*R)] 28;have hO5:=hO.grow hG5;have hltA: ∀ g,blk oa=some g->g<w4.heap.size:=fun g hg=>hO.lt hg;have hs4:=hG4.size;have bM5:=(bM3.grow hG4).grow hG5;have bZ5:=(bZ3.grow hG4).grow hG5;have r5:=(r3.grow hG4).grow hG5;have hG15:=(hG13.trans hG4).trans hG5;have Hw5:=hid hw5;have Hl:=hid hl;have Hnum:=hid hnum;have hn576:n<=576:=by omega
 clear hw5 a0 a1 a2 hO hl hnum bM3 bZ3;go_wp2;rw[←Hw5.out];go_loopw [5] (fun q wr=>Keep (fun g=>blk oa≠some g) w5 wr/\ ∃ i:Nat,i<=R/\q=Yv Yi i/\Own wr 3 1 oa (C*R) (C*R) (ints (Za6 m C R i))) (fun q _=>R-(intOf q).toNat);case atStart=>exact ⟨Keep.refl _ _,0,Nat.zero_le _,rfl,hO5⟩
 case round=>
  clear hO5;obtain ⟨wo,rfl⟩: ∃ wo,wo=wr:=⟨_,rfl⟩;obtain ⟨hK,i,hi,rfl,hO⟩:=hrel;have bMr:=bM5.keep hK (fun e=>by have:=hlo _ e;omega);obtain ⟨⟨a0,a1,a2⟩, -⟩:=bMr.three;by_cases hiR:i<R
  ·go_wp2;go_loopw [6] (fun q u=>Keep (fun g=>blk oa≠some g) wo u/\ ∃ j:Nat,j<=C/\q=Yv Yi j/\Own u 3 1 oa (C*R) (C*R) (ints (ZcA m C R i j (Za6 m C R i)))) (fun q _=>C-(intOf q).toNat);case atStart=>exact ⟨Keep.refl _ _,0,Nat.zero_le _,rfl,hO⟩
   case round=>
    clear hO;obtain ⟨u,rfl⟩: ∃ u,u=wr:=⟨_,rfl⟩;obtain ⟨hK2,j,hj,rfl,hO⟩:=hrel;have hK5u:=hK.trans hK2;have bMu:=bM5.keep hK5u (fun e=>by have:=hlo _ e;omega);have bOu:=bO5.keep hK5u (fun e=>by have:=hltA _ e;omega);have rMu:=r5.keep hK5u (fun g _ hg e=>by have:=hlo _ e;omega);clear a0 a1 a2;obtain ⟨⟨a0,a1,a2⟩, -⟩:=bMu.three;by_cases hjC:j<C
    ·have hgc:=ZdH Hl.out hiR hjC;have hplace:j*R+i<C*R:=Zl hiR hjC;have Hst:=hid (show ZcA m C R i (j+1) (Za6 m C R i)=(ZcA m C R i j (Za6 m C R i)).set (j*R+i) (cell m C i j) from rfl);generalize cell m C i j=x at *;go_wp2;refine ZF (S:=(Grow u)) (last:=7) [([0,1,2,3,4,5],some 6),([],some 7)] Zm (by kernel_rfl) (fun _ _ _ _ _ h=>h) (Grow.refl _).drew ?_;show wpQuiet _ _ _ _ [_,_,_,_,_,_] _;(repeat (first |(go_big_quiet_want;(first |refine Zc Zb rfl rfl (fun w' hG=>bOu.grow hG) ?_|refine Zc Zb rfl rfl (fun w' hG=>bMu.grow hG) ?_);go_big_quiet_on;simp only[putP])|go_big_quiet_step (exact fun _=>rfl)));refine wpQuiet_nil ?_;refine Zx rfl (fun K hK=> ?_);go_wp2_with fail;refine (Za8 a n cp C i j _ (R:Int) x m _ (rMu.grow (Grow.refl _).drew) rfl hgc (by omega) (by omega) (by omega) (by omega)).mono ?_;rintro e w6 ⟨rfl,hG6⟩;have hG06:=(Grow.refl u).drew.trans hG6;go_wp2_with fail;refine hK _ _ ((fun _=>hG06)) ?_;clear hK K;refine wpQuiet_nil ?_;refine Zx rfl (fun K hK=> ?_);go_wp2_with fail;refine (ZjO oa (C*R) (C*R) R j i _ (C:Int) x _ _ (hO.grow hG06) rfl hplace (by omega) (by omega) (by omega) (by omega)).mono ?_;rintro e w7 ⟨rfl,hO7,hK7⟩;rw[←Hst.out] at hO7;have hK27:Keep (fun g=>blk oa≠some g) wo w7:=(hK2.trans hG06.any).trans hK7;go_wp2_with fail;refine hK _ _ ((fun h=>(h rfl).elim)) ?_;clear hK K;refine Z7 ?_;go_wp2;go_roundw;case rel=>exact ⟨hK27,j+1,by omega,by go_num,hO7⟩
     case measure=>simp[intOf];omega
    ·have hjE:j=C:=(by omega);subst hjE;go_wp2;go_roundw;case rel=>exact ⟨hK5u,i+1,by omega,by go_num,hO⟩
     case measure=>simp[intOf];omega
  ·have hiE:i=R:=(by omega);subst hiE;have bOr:=bO5.keep hK (fun e=>by have:=hltA _ e;omega);have bZr:=bZ5.keep hK (fun e=>by have:=hlo _ e;omega);have hGr:Grow w wo:=Grow.keep (S:=fun g=>blk oa≠some g) hG15 hK (fun g hg e=>by have:=hlo _ e;omega);have rN:=ZA (Zfk (C:=C) (R:=i) (i:=i) Hnum.out);obtain ⟨⟨o0,o1,o2⟩, -⟩:=bOr.three;obtain ⟨⟨z0,z1,z2⟩,g0,g1,g2⟩:=bZr.three;have hltZ:=bZr.lt;have hltO:=bOr.lt;have hKs:Keep (fun q=>q≠w.heap.size+1) wo (((wo.setCell ⟨w.heap.size+1,0,none⟩ (Yv Yi (C:Int))).setCell ⟨w.heap.size+1,1,none⟩ (Yv Yi (i:Int))).setCell ⟨w.heap.size+1,2,none⟩ (.slice oa (C*i) (C*i))):=
    (((Keep.refl _ wo).setCell (fun _ e=>e rfl) _).setCell (fun _ e=>e rfl) _).setCell (fun _ e=>e rfl) _
   have hof:=hO.keep hKs (fun g hg _ e=>by have:=hlo g hg;omega);have hGf:=hGr.keep hKs (fun q hq=>by omega);have hs13:=hG13.size;go_wp2;exact Zf Zb rfl rfl rfl (((bZr.set 0 _).set 1 _).set 2 _) ⟨_,rfl,⟨oa,C*i,C*i,rfl,hof,rN,(fun g hg=>⟨by have:=hlo g hg;omega,hof.lt hg⟩),by show I64 (C:Int);unfold I64;omega,by show I64 (i:Int);unfold I64;omega⟩,hGf⟩
theorem Zn0 (a:Option Addr) (n cp R C:Nat) (m:List Int) (w:World) (h:RdI w S a n cp m) (hl:m.length=R*C) (hnum:NumL m) (hR:R<=24) (hC:C<=24):
  Calls Tryz.prog 121 #[.agg #[Yv Yi R,Yv Yi C, .slice a n cp]] w fun e w'=> ∃ r,e= .returned r/\OM w' (New w w') r {rows:=(C:Int),cols:=(R:Int),cells:=Za6 m C R R}/\Grow w w':=by
 have hnl:=h.len;have hRC:R*C<=24*24:=Nat.mul_le_mul hR hC;have hCR:C*R<=24*24:=Nat.mul_le_mul hC hR;obtain ⟨w2,hw2,hG2,bM,bZ, -⟩:=al2 w #[Yv Yi (R:Int),Yv Yi (C:Int), .slice a n cp] 28 #[Yv Yi 0,Yv Yi 0, .slice none 0 0] 28;have Hw2:=hid hw2;clear hw2;have r3:=(h.weak (T:=fun g=>g<w.heap.size) (fun g hg _=>hg)).grow hG2;have hs2:=hG2.size;go_enter Tryz.func121,Tryz.ntmps121;go_wp2_with fail;rw[←Hw2.out];refine (ZfR C R _ (by omega) (by omega)).mono ?_;rintro e w4 ⟨oa,rfl,hO,hlo,hG4⟩;obtain ⟨w5,hw5,hG5,bO5, -⟩:=al1 w4 #[Yv Yi (C:Int),Yv Yi (R:Int), .slice oa (C*R) (C*R)] 28;have hO5:=hO.grow hG5;have hltA: ∀ g,blk oa=some g->g<w4.heap.size:=fun g hg=>hO.lt hg;have hs4:=hG4.size;have hltM2:=bM.lt;have hltZ2:=bZ.lt;have bM5:=(bM.grow hG4).grow hG5;have bZ5:=(bZ.grow hG4).grow hG5;have r5:=(r3.grow hG4).grow hG5;have hG15:=(hG2.trans hG4).trans hG5;have Hw5:=hid hw5;have Hl:=hid hl;have Hnum:=hid hnum;have hn576:n<=576:=by omega
 clear hw5 hO hl hnum bM bZ h;go_wp2;rw[←Hw5.out];go_loopw [4] (fun q wr=>Keep (fun g=>blk oa≠some g) w5 wr/\ ∃ i:Nat,i<=R/\q=Yv Yi i/\Own wr 3 1 oa (C*R) (C*R) (ints (Za6 m C R i))) (fun q _=>R-(intOf q).toNat);case atStart=>exact ⟨Keep.refl _ _,0,Nat.zero_le _,rfl,hO5⟩
 case round=>
  clear hO5;obtain ⟨wo,rfl⟩: ∃ wo,wo=wr:=⟨_,rfl⟩;obtain ⟨hK,i,hi,rfl,hO⟩:=hrel;have bMr:=bM5.keep hK (fun e=>by have:=hlo _ e;omega);obtain ⟨⟨a0,a1,a2⟩, -⟩:=bMr.three;by_cases hiR:i<R
  ·go_wp2;go_loopw [5] (fun q u=>Keep (fun g=>blk oa≠some g) wo u/\ ∃ j:Nat,j<=C/\q=Yv Yi j/\Own u 3 1 oa (C*R) (C*R) (ints (ZcA m C R i j (Za6 m C R i)))) (fun q _=>C-(intOf q).toNat);case atStart=>exact ⟨Keep.refl _ _,0,Nat.zero_le _,rfl,hO⟩
   case round=>
    clear hO;obtain ⟨u,rfl⟩: ∃ u,u=wr:=⟨_,rfl⟩;obtain ⟨hK2,j,hj,rfl,hO⟩:=hrel;have hK5u:=hK.trans hK2;have bMu:=bM5.keep hK5u (fun e=>by have:=hlo _ e;omega);have bOu:=bO5.keep hK5u (fun e=>by have:=hltA _ e;omega);have rMu:=r5.keep hK5u (fun g _ hg e=>by have:=hlo _ e;omega);clear a0 a1 a2;obtain ⟨⟨a0,a1,a2⟩, -⟩:=bMu.three;by_cases hjC:j<C
    ·have hni:i*C+j<n:=(by rw[←hnl,Hl.out];exact Zl hjC hiR);have hgc:=ZdH Hl.out hiR hjC;have hplace:j*R+i<C*R:=Zl hiR hjC;have Hst:=hid (show ZcA m C R i (j+1) (Za6 m C R i)=(ZcA m C R i j (Za6 m C R i)).set (j*R+i) (cell m C i j) from rfl);obtain ⟨b1,off1,y,hae,hy, -, -,hbw,hcy⟩:=rMu.at hni;subst hae;obtain rfl:y=cell m C i j:=(by rw[hgc] at hy;exact (Option.some.inj hy).symm);obtain ⟨pb,rfl⟩: ∃ pb,oa=some ⟨pb,0,none⟩:=by
      cases oa with
      |none=>have:=hO.nil rfl;omega
      |some q=>exact ⟨q.block,by rw[←(hO.block q rfl).1]⟩
     have u1:=Zaf (i:=i) (c:=C) (by omega) (by omega);have u2:=ZaI (i:=i) (c:=C) (j:=j) (by omega) (by omega) (by omega) rfl;have u3:=Zaf (i:=j) (c:=R) (by omega) (by omega);have u4:=ZaI (i:=j) (c:=R) (j:=i) (by omega) (by omega) (by omega) rfl;obtain ⟨⟨o0,o1,o2⟩, -⟩:=bOu.three;have hO1:=hO;clear hgc hy;generalize cell m C i j=x at *;generalize hs1:i*C+j=s1 at *;generalize hs2':j*R+i=s2 at *;clear hs1 hs2';go_wp2;refine ZF (S:=(Grow u)) (last:=19) [([0,1,2,3,4,5,6,7,8,9,10,11,12,13,14,15,16,17,18],some 19)] Zm (by kernel_rfl) (fun _ _ _ _ _ h=>h) (Grow.refl _).drew ?_;show wpQuiet _ _ _ _ [_,_,_,_,_,_,_,_,_,_,_,_,_,_,_,_,_,_,_] _;(repeat (first |(go_big_quiet_want;(first |refine Za ZaC rfl rfl (fun w' hG=>hG.cell o2) ?_|refine Za ZaC rfl rfl (fun w' hG=>hG.cell a2) ?_|refine Za ZM rfl rfl (fun w' hG=>hG.cell a0) ?_|refine Za ZM rfl rfl (fun w' hG=>hG.cell a1) ?_|refine Za ZM rfl rfl (fun w' hG=>hG.cell hcy) ?_);go_big_quiet_on;simp only[putP])|go_big_quiet_step (exact fun _=>rfl)));refine wpQuiet_nil ?_;refine Zx rfl (fun K hK=> ?_);have hO2:=hO1.grow (Grow.refl u).drew;have hfr:=hO2.free s2;have hltu:=hO2.lt (g:=pb) rfl;have hle2:=hO2.le;obtain ⟨yo,hyo⟩: ∃ yo,(ints (ZcA m C R i j (Za6 m C R i)))[s2]? =some yo:=⟨_,List.getElem?_eq_getElem (by have:=hO2.len;simp at this;simp;omega)⟩;have hc2:=hO2.cell hyo;have hO9:Own (u.drew.setCell ⟨pb,s2,none⟩ (Yv Yi x)) 3 1 (some ⟨pb,0,none⟩) (C*R) (C*R) (ints (ZcA m C R i (j+1) (Za6 m C R i))):=(by have:=hO2.set s2 (Yv Yi x);rw[←ints_set, ←Hst.out] at this;exact this);have hK9:Keep (fun g=>blk (some (⟨pb,0,none⟩:Addr))≠some g) wo (u.drew.setCell ⟨pb,s2,none⟩ (Yv Yi x)):=(hK2.trans (Grow.refl u).drew.any).setCell (p:=⟨pb,s2,none⟩) (fun _ e=>e rfl) _;simp only at hfr hc2;clear hO1 hO2;go_wp2_with fail;refine hK _ _ ((fun h=>(h rfl).elim)) ?_;clear hK K;refine Z7 ?_;go_wp2;go_roundw;case rel=>exact ⟨hK9,j+1,by omega,by go_num,hO9⟩
     case measure=>simp[intOf];omega
    ·have hjE:j=C:=(by omega);subst hjE;go_wp2;go_roundw;case rel=>exact ⟨hK5u,i+1,by omega,by go_num,hO⟩
     case measure=>simp[intOf];omega
  ·have hiE:i=R:=(by omega);subst hiE;have bOr:=bO5.keep hK (fun e=>by have:=hltA _ e;omega);have bZr:=bZ5.keep hK (fun e=>by have:=hlo _ e;omega);have hGr:Grow w wo:=Grow.keep (S:=fun g=>blk oa≠some g) hG15 hK (fun g hg e=>by have:=hlo _ e;omega);have rN:=ZA (Zfk (C:=C) (R:=i) (i:=i) Hnum.out);obtain ⟨⟨o0,o1,o2⟩, -⟩:=bOr.three;obtain ⟨⟨z0,z1,z2⟩,g0,g1,g2⟩:=bZr.three;have hltZ:=bZr.lt;have hltO:=bOr.lt;have hKs:Keep (fun q=>q≠w.heap.size+1) wo (((wo.setCell ⟨w.heap.size+1,0,none⟩ (Yv Yi (C:Int))).setCell ⟨w.heap.size+1,1,none⟩ (Yv Yi (i:Int))).setCell ⟨w.heap.size+1,2,none⟩ (.slice oa (C*i) (C*i))):=
    (((Keep.refl _ wo).setCell (fun _ e=>e rfl) _).setCell (fun _ e=>e rfl) _).setCell (fun _ e=>e rfl) _
   have hof:=hO.keep hKs (fun g hg _ e=>by have:=hlo g hg;omega);have hGf:=hGr.keep hKs (fun q hq=>by omega);go_wp2;exact ZB Zb rfl rfl rfl (((bZr.set 0 _).set 1 _).set 2 _) ⟨_,rfl,⟨oa,C*i,C*i,rfl,hof,rN,(fun g hg=>⟨by have:=hlo g hg;omega,hof.lt hg⟩),by show I64 (C:Int);unfold I64;omega,by show I64 (i:Int);unfold I64;omega⟩,hGf⟩
theorem Zkx (h:VM w S v m) (hB:Zg m=true):
  Calls Tryz.prog 83 #[v] w fun e w'=> ∃ r,e= .returned (.tuple #[r, .bool true])/\OM w' (New w w') r (Zbv m)/\Grow w w':=by
 obtain ⟨a,n,c,rfl,h, -, -⟩:=h;obtain ⟨R,C,hmr,hmc,hR,hC,hl,hnum⟩:=ZD hB;obtain ⟨mr,mc,cells⟩:=m;simp only at hmr hmc hl hnum h;subst hmr;subst hmc;rw[Zgn];exact ZiQ a n c R C cells w h hl hnum hR hC
theorem Zl6 (h:VM w S v m) (hB:Zg m=true):
  Calls Tryz.prog 121 #[v] w fun e w'=> ∃ r,e= .returned r/\OM w' (New w w') r (Zbv m)/\Grow w w':=by
 obtain ⟨a,n,c,rfl,h, -, -⟩:=h;obtain ⟨R,C,hmr,hmc,hR,hC,hl,hnum⟩:=ZD hB;obtain ⟨mr,mc,cells⟩:=m;simp only at hmr hmc hl hnum h;subst hmr;subst hmc;rw[Zgn];exact Zn0 a n c R C cells w h hl hnum hR hC

end Go.Proofs.YtgeoehnbpkediaaGreat
