/- Determinants: the reference's functions. -/
import Derived.Test.YtgeoehnbpkediaaGreatZDetI
set_option maxHeartbeats 8000000
set_option maxRecDepth 100000
namespace Go.Proofs.YtgeoehnbpkediaaGreat
open Go.RowKit
open Lib (hid)
open Go.Value renaming int->Yv
open Go.IntKind renaming i64->Yi
variable {S:Nat->Prop} {m:Mat} {v:Value} {w:World}
theorem ZoX (a:Option Addr) (n cp R C p q:Nat) (m:List Int) (w:World) (h:RdI w S a n cp m) (hl:m.length=R*C) (hR:R<=24) (hC:C<=24) (hR1:1<=R) (hC1:1<=C) (hm:NumL m) (_hp:p<=24) (hq:q<C):
  Calls Tryz.prog 143 #[.agg #[Yv Yi R,Yv Yi C, .slice a n cp],Yv Yi p,Yv Yi q] w fun e w'=> ∃ r,e= .returned r/\OM w' (New w w') r {rows:=((R-1:Nat):Int),cols:=((C-1:Nat):Int),cells:=Zv m C p q R}/\Grow w w':=by
 have hln:=h.len;obtain ⟨w1,hw1,hG1,bM,bZ,bO, -⟩:=al3 w #[Yv Yi R,Yv Yi C, .slice a n cp] 28 #[Yv Yi 0,Yv Yi 0, .slice none 0 0] 28 #[Yv Yi ((R:Int)-1),Yv Yi ((C:Int)-1), .slice none 0 0] 28;have hE:Own w1 3 1 none 0 0 []:=Own.nilw;have hs1:w1.heap.size=w.heap.size+1+1+1:=by rw[hw1];simp
 have bM0:=Blk.new w #[Yv Yi R,Yv Yi C, .slice a n cp] 28;obtain ⟨⟨m0,m1,m2⟩, -⟩:=bM0.three;have hw:wrap64 ((R:Int)-1)=((R-1:Nat):Int):=by unfold wrap64;omega
 have hw':wrap64 ((C:Int)-1)=((C-1:Nat):Int):=by unfold wrap64;omega
 have hRC:R*C<=24*24:=Nat.mul_le_mul hR hC;clear hw hw';go_enter Tryz.func143,Tryz.ntmps143;go_wp2_with fail;rw[←hw1];have hbl: ∀ q0,q0<w.heap.size->q0<=w.heap.size+1:=fun _ _=>by omega
 clear hw1 m0 m1 m2 bM0;go_loopw [8] (fun iv wr=>Keep (fun q=>q<=w.heap.size+1) w1 wr/\ ∃ (i c2:Nat) (a2:Option Addr),i<=R/\iv=Yv Yi i/\Blk wr (w.heap.size+1+1) #[Yv Yi ((R:Int)-1),Yv Yi ((C:Int)-1), .slice a2 (Zv m C p q i).length c2] 28/\Own wr 3 1 a2 (Zv m C p q i).length c2 (ints (Zv m C p q i))/\ ∀ g,blk a2=some g->w.heap.size+2<=g/\g≠w.heap.size+1+1) (fun i _=>R-(intOf i).toNat);case atStart=>exact ⟨Keep.refl _ _,0,0,_,Nat.zero_le _,rfl,bO,hE,fun g hg=>by simp at hg⟩
 case round=>
  clear bO hE;obtain ⟨hK0,i,c2,a2,hi,rfl,bO,hO,hlo⟩:=hrel;have bMr:=bM.keep hK0 (by omega);obtain ⟨⟨m0,m1,m2⟩, -⟩:=bMr.three;have hltM:=bMr.lt;by_cases hlt:i<R
  ·go_wp2;obtain ⟨wo,rfl⟩: ∃ wo,wo=wr:=⟨_,rfl⟩;clear m0 m1 m2 hltM bMr;go_loopw [9] (fun jv wr=>Keep (fun q=>q<=w.heap.size+1) w1 wr/\ ∃ (j c2:Nat) (a2:Option Addr),j<=C/\jv=Yv Yi j/\Blk wr (w.heap.size+1+1) #[Yv Yi ((R:Int)-1),Yv Yi ((C:Int)-1), .slice a2 (ZE m C p q i j (Zv m C p q i)).length c2] 28/\Own wr 3 1 a2 (ZE m C p q i j (Zv m C p q i)).length c2 (ints (ZE m C p q i j (Zv m C p q i)))/\ ∀ g,blk a2=some g->w.heap.size+2<=g/\g≠w.heap.size+1+1) (fun j _=>C-(intOf j).toNat);case atStart=>exact ⟨hK0,0,c2,a2,Nat.zero_le _,rfl,bO,hO,hlo⟩
   case round=>
    clear hK0 bO hO hlo;obtain ⟨hKi,j,c3,a3,hj,rfl,bO,hO,hlo⟩:=hrel;have bMr:=bM.keep hKi (by omega);obtain ⟨⟨m0,m1,m2⟩, -⟩:=bMr.three;have hltM:=bMr.lt;by_cases hltj:j<C
    ·by_cases hc:i≠p/\j≠q
     ·have q1:((i:Int)==(p:Int))=false:=(by rw[beq_eq_false_iff_ne];omega);have q2:((i:Int)!=(p:Int))=true:=(by simp;omega);have q3:((j:Int)==(q:Int))=false:=(by rw[beq_eq_false_iff_ne];omega);have q4:((j:Int)!=(q:Int))=true:=(by simp;omega);have hX:ZE m C p q i (j+1) (Zv m C p q i)=ZE m C p q i j (Zv m C p q i)++[cell m C i j]:=(by simp only[ZE];rw[if_pos hc]);have HX:=hid hX;have hle:(ZE m C p q i j (Zv m C p q i)).length<=1000:=(by have h1:=Zg5 (m:=m) (C:=C) (p:=p) (q:=q) (i:=i);have h2:=Zew (m:=m) (C:=C) (p:=p) (q:=q) (i:=i) (j:=j) (l:=Zv m C p q i);have h3:i*C<=24*24:=Nat.mul_le_mul (by omega) hC;omega);clear hX;obtain ⟨⟨o0,o1,o2⟩,of0,of1,of2⟩:=bO.three;have hltO:=bO.lt;have nM:blk a3≠some w.heap.size:=fun e=>(by have:=(hlo _ e).1;omega);have nO:blk a3≠some (w.heap.size+1+1):=fun e=>(hlo _ e).2 rfl;have hcl:=Zl hltj hlt;have rdr:RdI wr (fun b=>b<w.heap.size) a n cp m:=((h.weak (T:=fun b=>b<w.heap.size) (fun b hb _=>hb)).grow hG1).keep hKi (fun b _ hb=>by omega);obtain ⟨ab,ao,ac,rfl,hac, -,hSb,hbl2,hac2⟩:=rdr.at (k:=i*C+j) (by rw[←hln,hl];exact hcl);obtain rfl:ac=cell m C i j:=(by rw[ZdH hl hlt hltj] at hac;exact (Option.some.inj hac).symm);have hiC:i*C<=24*24:=Nat.mul_le_mul (by omega) hC;have u1:=Zaf (i:=i) (c:=C) (by omega) (by omega);have u2:=ZaI (i:=i) (c:=C) (j:=j) (by omega) (by omega) (by omega) rfl;have hjn:i*C+j<n:=(by rw[←hln,hl];exact hcl);have hS':ab<w.heap.size:=hSb;have nA:blk a3≠some ab:=fun e=>(by have:=(hlo _ e).1;omega);generalize cell m C i j=x at *;generalize hs1:i*C+j=s1 at *;clear hs1;go_wp2;refine ZF (S:=(Keep (fun g=>blk a3≠some g) wr)) (last:=15) [([0,1,2,3,4,5,6,7,8,9,10,11],some 12),([],some 13),([14],some 15)] Zm (by kernel_rfl) (fun _ _ _ _ _ h=>h) (Keep.refl _ _).drew ?_;show wpQuiet _ _ _ _ [_,_,_,_,_,_,_,_,_,_,_,_] _;(repeat (first |(go_big_quiet_want;(first |refine Za ZaC rfl rfl (fun w' hG=>hG.cell nO o2) ?_|refine Za ZaC rfl rfl (fun w' hG=>hG.cell nM m2) ?_|refine Za ZM rfl rfl (fun w' hG=>hG.cell nM m1) ?_|refine Za ZM rfl rfl (fun w' hG=>hG.cell nA hac2) ?_);go_big_quiet_on;simp only[putP])|go_big_quiet_step (exact fun _=>rfl)));refine wpQuiet_nil ?_;obtain ⟨wd,hwd⟩: ∃ wd,wd=wr.drew:=⟨_,rfl⟩;rw[←hwd];have hGd:Grow wr wd:=(by rw[hwd];exact (Grow.refl _).drew);clear hwd;refine Zx rfl (fun K hK=> ?_);go_wp2_with fail;have hGb:Grow wr (wd.alloc (.cells #[Yv Yi x] 3)):=hGd.alloc _ _;refine hK _ _ ((fun _=>hGb.any)) ?_;clear hK K;refine wpQuiet_nil ?_;refine Zx rfl (fun K hK=> ?_);have hOb:=hO.grow hGb;refine Zg9 (.tmp 38) (.tmp 49) _ rfl T_ints rfl hOb rfl (Row.built (S:=fun _=>True) 1 (by unfold maxLen;omega) rfl trivial) (by simp[Value.oneCell']) (by omega) (by unfold maxLen;omega) ?_;intro a4 c4 w4 hA4;have hK4:Keep (fun g=>blk a3≠some g) wr w4:=hGb.any.trans hA4.keep;refine hK _ _ ((fun _=>hK4)) ?_;clear hK K;simp only[putP];show wpQuiet _ _ _ _ [_] _;(try (conv=>arg 6;simp only[putP]));(repeat (first |(go_big_quiet_want;(first |refine Za ZaC rfl rfl (fun w' hG=>hG.cell nO o2) ?_|refine Za ZaC rfl rfl (fun w' hG=>hG.cell nM m2) ?_|refine Za ZM rfl rfl (fun w' hG=>hG.cell nM m1) ?_|refine Za ZM rfl rfl (fun w' hG=>hG.cell nA hac2) ?_);go_big_quiet_on;simp only[putP])|go_big_quiet_step (exact fun _=>rfl)));refine wpQuiet_nil ?_;refine Zx rfl (fun K hK=> ?_);have bO4:=bO.keep hK4 nO;have hlo4: ∀ g,blk a4=some g->w.heap.size+2<=g/\g≠w.heap.size+1+1:=fun g hg=>by
       rcases hA4.new with e|⟨g',e,hge⟩
       ·rw[e] at hg;exact hlo g hg
       ·rw[e] at hg;obtain rfl:=Option.some.inj hg;have:=hGd.size;simp at hge;omega
      have hO4:Own w4 3 1 a4 (ZE m C p q i (j+1) (Zv m C p q i)).length c4 (ints (ZE m C p q i (j+1) (Zv m C p q i))):=(by have:=hA4.own;rw[HX.out];simpa using this);have HL:=hid (show (ZE m C p q i (j+1) (Zv m C p q i)).length=(ZE m C p q i j (Zv m C p q i)).length+1 by rw[HX.out];simp);obtain ⟨⟨o0',o1',o2'⟩,of0',of1',of2'⟩:=bO4.three;have hltO4:=bO4.lt;have bO5:=bO4.set 2 (.slice a4 ((ZE m C p q i j (Zv m C p q i)).length+1) c4);have hKs:Keep (fun g=>g≠w.heap.size+1+1) w4 (w4.setCell ⟨w.heap.size+1+1,2,none⟩ (.slice a4 ((ZE m C p q i j (Zv m C p q i)).length+1) c4)):=(Keep.refl _ w4).setCell (fun _ e=>e rfl) _;have hO5:=hO4.keep hKs fun g hg _=>(hlo4 g hg).2;have hKf:Keep (fun q=>q<=w.heap.size+1) w1 (w4.setCell ⟨w.heap.size+1+1,2,none⟩ (.slice a4 ((ZE m C p q i j (Zv m C p q i)).length+1) c4)):=
       (hKi.trans (hK4.mono fun g _ hg e=>by have:=(hlo g e).1;omega)).trans (hKs.mono fun g _ hg=>by omega)
      clear hA4 hO hOb o0 o1 o2 of0 of1 of2;go_wp2_with fail;refine hK _ _ ((fun h=>(h rfl).elim)) ?_;clear hK K;refine Z7 ?_;go_wp2;go_roundw;case rel=>exact ⟨hKf,j+1,c4,a4,by omega,by go_num,by rw[HL.out];exact bO5,hO5,hlo4⟩
      case measure=>simp[intOf];omega
     ·have hX:ZE m C p q i (j+1) (Zv m C p q i)=ZE m C p q i j (Zv m C p q i):=(by simp only[ZE];rw[if_neg hc]);have HX:=hid hX;clear hX;by_cases h1:i=p
      ·have q1:((i:Int)==(p:Int))=true:=(by simp[h1]);have q2:((i:Int)!=(p:Int))=false:=(by simp[h1]);clear h1;go_wp2;go_roundw;case rel=>exact ⟨hKi,j+1,c3,a3,by omega,by go_num,by rw[HX.out];exact bO,by rw[HX.out];exact hO,hlo⟩
       case measure=>simp[intOf];omega
      ·have h2:j=q:=Classical.byContradiction fun h=>hc ⟨h1,h⟩;have q1:((i:Int)==(p:Int))=false:=(by rw[beq_eq_false_iff_ne];omega);have q2:((i:Int)!=(p:Int))=true:=(by simp;omega);have q3:((j:Int)==(q:Int))=true:=(by simp[h2]);have q4:((j:Int)!=(q:Int))=false:=(by simp[h2]);clear h1 h2 hc;go_wp2;go_roundw;case rel=>exact ⟨hKi,j+1,c3,a3,by omega,by go_num,by rw[HX.out];exact bO,by rw[HX.out];exact hO,hlo⟩
       case measure=>simp[intOf];omega
    ·obtain rfl:j=C:=(by omega);go_wp2;go_roundw;case rel=>exact ⟨hKi,i+1,c3,a3,by omega,by go_num,bO,hO,hlo⟩
     case measure=>simp[intOf];omega
  ·obtain rfl:i=R:=(by omega);obtain ⟨⟨o0,o1,o2⟩,of0,of1,of2⟩:=bO.three;have hltO:=bO.lt;have bZr:=bZ.keep hK0 (by omega);obtain ⟨⟨z0,z1,z2⟩,zf0,zf1,zf2⟩:=bZr.three;have hltZ:=bZr.lt;have hK9:Keep (fun q=>q≠w.heap.size+1) wr (((wr.setCell ⟨w.heap.size+1,0,none⟩ (Yv Yi ((i:Int)-1))).setCell ⟨w.heap.size+1,1,none⟩ (Yv Yi ((C:Int)-1))).setCell ⟨w.heap.size+1,2,none⟩ (.slice a2 (Zv m C p q i).length c2)):=
    (((Keep.refl _ wr).setCell (fun _ e=>e rfl) _).setCell (fun _ e=>e rfl) _).setCell (fun _ e=>e rfl) _
   have hGz:Grow w (((wr.setCell ⟨w.heap.size+1,0,none⟩ (Yv Yi ((i:Int)-1))).setCell ⟨w.heap.size+1,1,none⟩ (Yv Yi ((C:Int)-1))).setCell ⟨w.heap.size+1,2,none⟩ (.slice a2 (Zv m C p q i).length c2)):=
    hG1.keep ((hK0.mono fun g _ hg=>by show g<=w.heap.size+1;exact Nat.le_succ_of_le (Nat.le_of_lt hg)).trans (hK9.mono fun g _ hg=>by have:g<w.heap.size:=hg;omega)) fun g hg=>hg
   have hrng: ∀ x∈Zv m C p q i,I64 x:=fun x hx=>(by have:=ZdK hm (C:=C) (p:=p) (q:=q) (i:=i) x hx;unfold I64;omega);have er:((i-1:Nat):Int)=(i:Int)-1:=(by omega);have ecl:((C-1:Nat):Int)=(C:Int)-1:=(by omega);have HE:=hid (And.intro er ecl);have hOl: ∀ g,blk a2=some g->g<wr.heap.size:=fun g hg=>hO.lt hg;clear er ecl;go_wp2;exact ZB Zb rfl rfl rfl (((bZr.set 0 _).set 1 _).set 2 _) ⟨_,rfl,⟨a2,_,c2,by rw[HE.out.1,HE.out.2];rfl,hO.keep hK9 (fun g hg _=>by have:=(hlo g hg).1;omega),hrng,fun g hg=>⟨by have:=(hlo g hg).1;omega,by simpa using hOl g hg⟩,by show I64 ((i-1:Nat):Int);unfold I64;omega,by show I64 ((C-1:Nat):Int);unfold I64;omega⟩,hGz⟩
theorem Zj0: ∀ (N:Nat) {S:Nat->Prop} (a:Option Addr) (n cp:Nat) (m:List Int) (w:World),RdI w S a n cp m->m.length=N*N->N<=6->NumL m->
  Calls Tryz.prog 123 #[.agg #[Yv Yi N,Yv Yi N, .slice a n cp]] w fun e w'=>e= .returned (Yv Yi ((Zak N m).getD ZO))/\Grow w w'
 |0,S,a,n,cp,m,w,h,hl,hN,hm=>by have hG1:=(Grow.refl w).alloc #[Yv Yi ((0:Nat):Int),Yv Yi ((0:Nat):Int), .slice a n cp] 28;go_enter Tryz.func123,Tryz.ntmps123;go_wp2;go_ret;exact ⟨rfl,hG1⟩
 |k+1,S,a,n,cp,m,w,h,hl,hN,hm=>by
  have ih:=fun {S:Nat->Prop}=>Zj0 k (S:=S);obtain ⟨N,hNk⟩: ∃ N,N=k+1:=⟨_,rfl⟩;rw[←hNk] at hl hN ⊢;have hN1:1<=N:=by omega
  have hln:=h.len;have hNN:N*N<=6*6:=Nat.mul_le_mul hN hN;have hG1:=(Grow.refl w).alloc #[Yv Yi (N:Int),Yv Yi (N:Int), .slice a n cp] 28;have bM:=Blk.new w #[Yv Yi (N:Int),Yv Yi (N:Int), .slice a n cp] 28;have HNk:=hid hNk;have HD:=hid (show Zak N m=(Zcf (Zak k) m N N).bind ZeY by rw[hNk];rfl);have HB:=hid (fun (j:Nat) (s:Int) (hs:Zcf (Zak k) m N j=some s)=>(by rw[hNk] at hs;exact ZiF hm hs: -(160000000000000000*(j:Int))<=s/\s<=160000000000000000*(j:Int)));have q0:((N:Int)==0)=false:=by rw[beq_eq_false_iff_ne];omega
  clear hNk;go_enter Tryz.func123,Tryz.ntmps123;go_wp2_with fail;go_loopw [3,4,5] (fun sv gv jv wr=>Grow (w.alloc (.cells #[Yv Yi (N:Int),Yv Yi (N:Int), .slice a n cp] 28)) wr/\ ∃ (j:Nat) (s g:Int),j<=N/\jv=Yv Yi j/\sv=Yv Yi s/\gv=Yv Yi g/\g=(if j%2=1 then -1 else 1)/\Zcf (Zak k) m N j=some s) (fun _ _ j _=>N-(intOf j).toNat);case atStart=>exact ⟨Grow.refl _,0,0,1,Nat.zero_le _,rfl,rfl,rfl,rfl,rfl⟩
  case round=>
   obtain ⟨hG,j,s,g,hj,rfl,rfl,rfl,hg,hs⟩:=hrel;have bMr:=bM.grow hG;obtain ⟨⟨m0,m1,m2⟩, -⟩:=bMr.three;have hltM:=bMr.lt;have hb:=HB.out j s hs;have hGw:=hG1.trans hG;have hgb:g=1\/g= -1:=(by rw[hg];split<;>simp);have Hgn:=hid (show -g=(if (j+1)%2=1 then -1 else 1) by rw[hg];split<;>split<;>omega);by_cases hlt:j<N
   ·have hrd:=h.grow hGw;have hx:m[j]? =some (m.getD j 0):=(by rw[List.getD_eq_getElem?_getD,List.getElem?_eq_getElem (by rw[hl];have:=Zl (C:=N) (R:=N) hlt hN1;omega)];rfl);have hc: -400000000<=m.getD j 0/\m.getD j 0<=400000000:=hm.getD j;have hgc:(if j%2=1 then -m.getD j 0 else m.getD j 0)=g*m.getD j 0:=(by rw[hg];split<;>simp);have Hst:=hid (Zi8 hs);rw[hgc] at Hst;have hcr:=ZeR (m:=m) (p:=0) (i:=N) hlt;rw[if_pos (by omega)] at hcr;have Hcr:=hid hcr;generalize hcc:m.getD j 0=c at *;obtain ⟨b,off,c2,rfl,hc2, -,hS,hbl,hcell⟩:=hrd.at (k:=j) (by rw[←hln,hl];have:=Zl (C:=N) (R:=N) hlt hN1;omega);obtain rfl:c=c2:=(by rw[hx] at hc2;exact Option.some.inj hc2);have wg:wrap64 (-g)= -g:=(by unfold wrap64;omega);have hjn:j<n:=(by rw[←hln,hl];have:=Zl (C:=N) (R:=N) hlt hN1;omega);clear hcc hcr hg hgc hx hc2;by_cases h0:c=0
    ·rw[if_pos h0] at Hst;have q1:(c !=0)=false:=(by simp[h0]);clear h0;go_wp2_with fail;go_roundw;case rel=>exact ⟨hG,j+1,s, -g,by omega,by go_num,rfl,rfl,Hgn.out,Hst.out⟩
     case measure=>simp[intOf];omega
    ·rw[if_neg h0] at Hst;have q1:(c !=0)=true:=(by simp[h0]);clear h0;go_wp2_with fail;refine (ZoX (some ⟨b,off,none⟩) n cp N N 0 j m _ hrd hl (by omega) (by omega) hN1 hN1 hm (by omega) hlt).mono ?_;rintro e w3 ⟨rv,rfl,⟨ra,rn,rc,rfl,oR,rR,fR, -, -⟩,hG3⟩;have hkN:N-1=k:=(by have:=HNk.out;omega);rw[hkN];have rdR:=oR.rdI (S:=fun _=>True) (fun _ _=>trivial) rR;have hcell3:=hG3.cell hcell;have bM3:=bMr.grow hG3;go_wp2_with fail;refine (ih ra rn rc (Zv m N 0 j N) _ rdR (by rw[Hcr.out,hkN]) (by omega) (ZdK hm)).mono ?_;rintro e w4 ⟨rfl,hG4⟩;have hG04:=(hG.trans hG3).trans hG4;have hcell4:=hG4.cell hcell3;have bM4:=bM3.grow hG4;clear m0 m1 m2 hltM hcell hcell3;obtain ⟨⟨m0,m1,m2⟩, -⟩:=bM4.three;have hltM:=bM4.lt;cases hd:Zak k (Zv m N 0 j N) with
     |none=>rw[hd] at Hst;have Hn:=hid (show Zak N m=none by rw[HD.out,ZlZ Hst.out hlt];rfl);rw[show ((none:Option Int).getD ZO)= -4611686018427387904 from rfl];clear hd;go_wp2_with fail;go_ret;exact ⟨by rw[Hn.out];rfl,hG1.trans hG04⟩
     |some d=>
      rw[hd] at Hst;have hdn:=Zcy hd;have q2:(d== -4611686018427387904)=false:=(by rw[beq_eq_false_iff_ne];omega);rw[show ((some d:Option Int).getD ZO)=d from rfl];have Hs2:=hid (show Zcf (Zak k) m N (j+1)=some (s+g*c*d) by rw[Hst.out];rfl);have e0: -400000000<=g*c/\g*c<=400000000:=(by rcases hgb with rfl|rfl<;>omega);have e1:=Zbm (p:=400000000) (q:=400000000) e0 hdn;have w1':wrap64 (g*c)=g*c:=(by unfold wrap64;omega);have w2':wrap64 (g*c*d)=g*c*d:=(by unfold wrap64;omega);have w3':wrap64 (s+g*c*d)=s+g*c*d:=(by unfold wrap64;omega);clear hd e0 e1 hdn;go_wp2_with fail;go_roundw;case rel=>exact ⟨hG04,j+1,_, -g,by omega,by go_num,rfl,rfl,Hgn.out,by rw[w3'];exact Hs2.out⟩
      case measure=>simp[intOf];omega
   ·obtain rfl:j=N:=(by omega);have Hf:=hid (show Zak j m=ZeY s by rw[HD.out,hs];rfl);have hfit:(ZeY s).getD ZO=Zdz s:=by
     unfold ZeY Zdz Zq inB;by_cases e: -400000000<=s/\s<=400000000
     ·rw[if_pos e];simp[e.1,e.2]
     ·rw[if_neg e];have:(decide (-400000000<=s)&&decide (s<=400000000))=false:=(by simp only[Bool.and_eq_false_iff,decide_eq_false_iff_not];omega);rw[this];rfl
    have Hfit:=hid hfit;clear hfit hs hg;go_wp2_with fail;refine (ZiL s _).mono ?_;rintro e w2 ⟨rfl,rfl⟩;go_wp2;go_ret;exact ⟨by rw[Hf.out,Hfit.out];rfl,hGw⟩
theorem ZaU (h:VM w S v m) (hb:bdM m<=1048576):
  Calls Tryz.prog 122 #[v] w fun e w'=>e= .returned (.bool (Zad m))/\Grow w w':=by
 have hV:=h;obtain ⟨a,n,c,rfl,h,ir,ic⟩:=h;have hG1:=(Grow.refl w).alloc #[Yv Yi m.rows,Yv Yi m.cols, .slice a n c] 28;have bM:=Blk.new w #[Yv Yi m.rows,Yv Yi m.cols, .slice a n c] 28;go_enter Tryz.func122,Tryz.ntmps122;go_wp2_with fail;refine (ZP (hV.grow hG1) (by omega)).mono ?_;rintro e w2 ⟨rfl,hG2⟩;have bM2:=bM.grow hG2;obtain ⟨⟨m0,m1,m2⟩, -⟩:=bM2.three;have hlt:=bM2.lt;have hG:=hG1.trans hG2;cases hm:Zg m with
 |false=>have Hr:=hid (show Zad m=false by unfold Zad;rw[hm];rfl);clear hm;go_wp2;go_ret;exact ⟨Zo Hr.out.symm,hG⟩
 |true=>
  by_cases h1:m.rows=m.cols
  ·have q1:(m.rows==m.cols)=true:=(by simp[h1]);by_cases h2:m.rows<=6
   ·have Hr:=hid (show Zad m=true by unfold Zad;rw[hm,decide_eq_true h1,decide_eq_true h2];rfl);clear hm h1;go_wp2;go_ret;exact ⟨Zo Hr.out.symm,hG⟩
   ·have Hr:=hid (show Zad m=false by unfold Zad;rw[decide_eq_false h2];simp);clear hm h1;go_wp2;go_ret;exact ⟨Zo (by rw[Hr.out];simp;omega),hG⟩
  ·have q1:(m.rows==m.cols)=false:=(by rw[beq_eq_false_iff_ne];exact h1);have Hr:=hid (show Zad m=false by unfold Zad;rw[decide_eq_false h1];simp);clear hm;go_wp2;go_ret;exact ⟨Zo Hr.out.symm,hG⟩
theorem ZoT (h:VM w S v m) (hb:bdM m<=1048576):
  Calls Tryz.prog 93 #[v] w fun e w'=>e= .returned (.tuple #[Yv Yi (dtV m), .bool (Zds m)])/\Grow w w':=by
 have hV:=h;obtain ⟨a,n,c,rfl,h,ir,ic⟩:=h;have hG1:=(Grow.refl w).alloc #[Yv Yi m.rows,Yv Yi m.cols, .slice a n c] 28;have bM:=Blk.new w #[Yv Yi m.rows,Yv Yi m.cols, .slice a n c] 28;go_enter Tryz.func93,Tryz.ntmps93;go_wp2_with fail;refine (ZaU (hV.grow hG1) hb).mono ?_;rintro e w2 ⟨rfl,hG2⟩;have hG:=hG1.trans hG2;cases hm:Zad m with
 |false=>
  have Hr:=hid (show Zds m=false/\dtV m=0 by unfold Zds dtV;rw[hm];exact ⟨rfl,rfl⟩);clear hm;go_wp2
  go_ret2
  exact ⟨by rw[Hr.out.1,Hr.out.2];rfl,hG⟩
 |true=>
  obtain ⟨N,e1,e2,hN,hl,hn⟩:=Ze8 hm;have Hr:=hid (show Zds m=(Zak N m.cells).isSome/\dtV m=(Zak N m.cells).getD 0 by unfold Zds dtV;rw[hm,e1];exact ⟨rfl,rfl⟩);rw[e1,e2] at bM hG2;have bM2:=bM.grow hG2;obtain ⟨⟨m0,m1,m2⟩, -⟩:=bM2.three;have hlt:=bM2.lt;have hrd:=h.grow hG;clear hm;rw[e1,e2];go_wp2_with fail;refine (Zj0 N a n c m.cells _ hrd hl hN hn).mono ?_;rintro e w3 ⟨rfl,hG3⟩;cases hd:Zak N m.cells with
  |none=>
   rw[hd] at Hr;rw[show ((none:Option Int).getD ZO)= -4611686018427387904 from rfl];clear hd;go_wp2
   go_ret2
   exact ⟨by rw[Hr.out.1,Hr.out.2];rfl,hG.trans hG3⟩
  |some d=>
   rw[hd] at Hr;have hdn:=Zcy hd;have q2:(d== -4611686018427387904)=false:=(by rw[beq_eq_false_iff_ne];omega);rw[show ((some d:Option Int).getD ZO)=d from rfl];clear hd;go_wp2
   go_ret2
   exact ⟨by rw[Hr.out.1,Hr.out.2];rfl,hG.trans hG3⟩

end Go.Proofs.YtgeoehnbpkediaaGreat
