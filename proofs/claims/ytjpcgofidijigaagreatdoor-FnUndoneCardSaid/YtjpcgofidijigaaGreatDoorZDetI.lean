/- Determinants: the program's functions. -/
import Derived.Test.YtjpcgofidijigaaGreatDoorZDet
set_option maxHeartbeats 8000000
set_option maxRecDepth 100000
namespace Go.Proofs.YtjpcgofidijigaaGreatDoor
open Go.RowKit
open Lib (hid)
open Go.Value renaming int->Yv
open Go.IntKind renaming i64->Yi
variable {S:Nat->Prop} {k n:Nat} {m:Mat} {v:Value} {w:World}
theorem Zfi {m:List Int} {C p q i:Nat}: ∀ {j:Nat} {l:List Int},(ZZ m C p q i j l).length<=l.length+j
 |0,l=>Nat.le_refl _
 |j+1,l=>by
  simp only[ZZ];split
  ·rw[List.length_append];have:=Zfi (m:=m) (C:=C) (p:=p) (q:=q) (i:=i) (j:=j) (l:=l);simp;omega
  ·have:=Zfi (m:=m) (C:=C) (p:=p) (q:=q) (i:=i) (j:=j) (l:=l);omega
theorem ZkH {m:List Int} {C p q:Nat}: ∀ {i:Nat},(ZK m C p q i).length<=i*C
 |0=>Nat.zero_le _
 |i+1=>by simp only[ZK];have h1:=ZkH (m:=m) (C:=C) (p:=p) (q:=q) (i:=i);have h2:=Zfi (m:=m) (C:=C) (p:=p) (q:=q) (i:=i) (j:=C) (l:=ZK m C p q i);rw[Nat.add_mul];omega
theorem ZlH (a:Option Addr) (n cp R C p q:Nat) (m:List Int) (w:World) (h:RdI w S a n cp m) (hl:m.length=R*C) (hR:R<=24) (hC:C<=24) (hR1:1<=R) (hC1:1<=C) (hm:NumL m) (_hp:p<=24) (hq:q<C):
  Calls Tryz.prog 157 #[.agg #[Yv Yi R,Yv Yi C, .slice a n cp],Yv Yi p,Yv Yi q] w fun e w'=> ∃ r,e= .returned r/\OM w' (New w w') r {rows:=((R-1:Nat):Int),cols:=((C-1:Nat):Int),cells:=ZK m C p q R}/\Grow w w':=by
 have hln:=h.len;obtain ⟨w1,hw1,hG1,bM,bZ, -,bO, -⟩:=al4 w #[Yv Yi R,Yv Yi C, .slice a n cp] 34 #[Yv Yi 0,Yv Yi 0, .slice none 0 0] 34 #[] 3 #[Yv Yi ((R:Int)-1),Yv Yi ((C:Int)-1), .slice (some ⟨w.heap.size+1+1,0,none⟩) 0 0] 34;have hE:Own w1 3 1 (some ⟨w.heap.size+1+1,0,none⟩) 0 0 []:=by rw[hw1];exact (Own.freshAt (cs:= #[]) (by simp) (by unfold maxLen;omega) rfl).grow ((Grow.refl _).alloc _ _)
 have hs1:w1.heap.size=w.heap.size+1+1+1+1:=by rw[hw1];simp
 have bM0:=Blk.new w #[Yv Yi R,Yv Yi C, .slice a n cp] 34;obtain ⟨⟨m0,m1,m2⟩, -⟩:=bM0.three;have hw:wrap64 ((R:Int)-1)=((R-1:Nat):Int):=by unfold wrap64;omega
 have hw':wrap64 ((C:Int)-1)=((C-1:Nat):Int):=by unfold wrap64;omega
 have hRC:R*C<=24*24:=Nat.mul_le_mul hR hC;clear hw hw';go_enter Tryz.func157,Tryz.ntmps157;go_wp2_with fail;rw[←hw1];have hbl: ∀ q0,q0<w.heap.size->q0<=w.heap.size+1:=fun _ _=>by omega
 clear hw1 m0 m1 m2 bM0;go_loopw [8] (fun iv wr=>Keep (fun q=>q<=w.heap.size+1) w1 wr/\ ∃ (i c2:Nat) (a2:Option Addr),i<=R/\iv=Yv Yi i/\Blk wr (w.heap.size+1+1+1) #[Yv Yi ((R:Int)-1),Yv Yi ((C:Int)-1), .slice a2 (ZK m C p q i).length c2] 34/\Own wr 3 1 a2 (ZK m C p q i).length c2 (ints (ZK m C p q i))/\ ∀ g,blk a2=some g->w.heap.size+2<=g/\g≠w.heap.size+1+1+1) (fun i _=>R-(intOf i).toNat);case atStart=>exact ⟨Keep.refl _ _,0,0,_,Nat.zero_le _,rfl,bO,hE,fun g hg=>by simp at hg;omega⟩
 case round=>
  clear bO hE;obtain ⟨hK0,i,c2,a2,hi,rfl,bO,hO,hlo⟩:=hrel;have bMr:=bM.keep hK0 (by omega);obtain ⟨⟨m0,m1,m2⟩, -⟩:=bMr.three;have hltM:=bMr.lt;by_cases hlt:i<R
  ·go_wp2;obtain ⟨wo,rfl⟩: ∃ wo,wo=wr:=⟨_,rfl⟩;clear m0 m1 m2 hltM bMr;go_loopw [9] (fun jv wr=>Keep (fun q=>q<=w.heap.size+1) w1 wr/\ ∃ (j c2:Nat) (a2:Option Addr),j<=C/\jv=Yv Yi j/\Blk wr (w.heap.size+1+1+1) #[Yv Yi ((R:Int)-1),Yv Yi ((C:Int)-1), .slice a2 (ZZ m C p q i j (ZK m C p q i)).length c2] 34/\Own wr 3 1 a2 (ZZ m C p q i j (ZK m C p q i)).length c2 (ints (ZZ m C p q i j (ZK m C p q i)))/\ ∀ g,blk a2=some g->w.heap.size+2<=g/\g≠w.heap.size+1+1+1) (fun j _=>C-(intOf j).toNat);case atStart=>exact ⟨hK0,0,c2,a2,Nat.zero_le _,rfl,bO,hO,hlo⟩
   case round=>
    clear hK0 bO hO hlo;obtain ⟨hKi,j,c3,a3,hj,rfl,bO,hO,hlo⟩:=hrel;have bMr:=bM.keep hKi (by omega);obtain ⟨⟨m0,m1,m2⟩, -⟩:=bMr.three;have hltM:=bMr.lt;by_cases hltj:j<C
    ·by_cases hc:i≠p/\j≠q
     ·have q1:((i:Int)==(p:Int))=false:=(by rw[beq_eq_false_iff_ne];omega);have q2:((i:Int)!=(p:Int))=true:=(by simp;omega);have q3:((j:Int)==(q:Int))=false:=(by rw[beq_eq_false_iff_ne];omega);have q4:((j:Int)!=(q:Int))=true:=(by simp;omega);have hX:ZZ m C p q i (j+1) (ZK m C p q i)=ZZ m C p q i j (ZK m C p q i)++[cell m C i j]:=(by simp only[ZZ];rw[if_pos hc]);have HX:=hid hX;have hle:(ZZ m C p q i j (ZK m C p q i)).length<=1000:=(by have h1:=ZkH (m:=m) (C:=C) (p:=p) (q:=q) (i:=i);have h2:=Zfi (m:=m) (C:=C) (p:=p) (q:=q) (i:=i) (j:=j) (l:=ZK m C p q i);have h3:i*C<=24*24:=Nat.mul_le_mul (by omega) hC;omega);clear hX;obtain ⟨⟨o0,o1,o2⟩,of0,of1,of2⟩:=bO.three;have hltO:=bO.lt;have nM:blk a3≠some w.heap.size:=fun e=>(by have:=(hlo _ e).1;omega);have nO:blk a3≠some (w.heap.size+1+1+1):=fun e=>(hlo _ e).2 rfl;have hcl:=Zr hltj hlt;have rdr:RdI wr (fun b=>b<w.heap.size) a n cp m:=((h.weak (T:=fun b=>b<w.heap.size) (fun b hb _=>hb)).grow hG1).keep hKi (fun b _ hb=>by omega);go_wp2;refine Zaq (S:=(Keep (fun g=>blk a3≠some g) wr)) (last:=9) [([0,1,2,3,4],some 5),([],some 6),([],some 7),([8],some 9)] Zm (by kernel_rfl) (fun _ _ _ _ _ h=>h) (Keep.refl _ _).drew ?_;show wpQuiet _ _ _ _ [_,_,_,_,_] _;(repeat (first |(go_big_quiet_want;(first |refine Za ZdE rfl rfl (fun w' hG=>hG.cell nO o2) ?_|refine Zh Zc rfl rfl (fun w' hG=>bMr.keep hG nM) ?_);go_big_quiet_on;simp only[putP])|go_big_quiet_step (exact fun _=>rfl)));refine wpQuiet_nil ?_;refine ZT rfl (fun K hK=> ?_);go_wp2_with fail;refine (Zai a n cp C i j (i*C+j) (R:Int) (cell m C i j) m _ (rdr.grow (Grow.refl _).drew) rfl (ZgQ hl hlt hltj) (by omega) (by omega) (by omega) (by omega)).mono ?_;rintro e w2 ⟨rfl,hG2⟩;have hGa:=(Grow.refl wr).drew.trans hG2;go_wp2_with fail;refine hK _ _ ((fun _=>hGa.any)) ?_;clear hK K;refine wpQuiet_nil ?_;refine ZT rfl (fun K hK=> ?_);go_wp2_with fail;have hGb:=hGa.alloc #[Yv Yi (cell m C i j)] 3;refine hK _ _ ((fun _=>hGb.any)) ?_;clear hK K;refine wpQuiet_nil ?_;refine ZT rfl (fun K hK=> ?_);have hOb:=hO.grow hGb;refine ZoH (.tmp 39) (.tmp 44) _ rfl T_ints rfl hOb rfl (Row.built (S:=fun _=>True) 1 (by unfold maxLen;omega) rfl trivial) (by simp[Value.oneCell']) (by omega) (by unfold maxLen;omega) ?_;intro a4 c4 w4 hA4;have hK4:Keep (fun g=>blk a3≠some g) wr w4:=hGb.any.trans hA4.keep;refine hK _ _ ((fun _=>hK4)) ?_;clear hK K;simp only[putP];show wpQuiet _ _ _ _ [_] _;(try (conv=>arg 6;simp only[putP]));(repeat (first |(go_big_quiet_want;(first |refine Za ZdE rfl rfl (fun w' hG=>hG.cell nO o2) ?_|refine Zh Zc rfl rfl (fun w' hG=>bMr.keep hG nM) ?_);go_big_quiet_on;simp only[putP])|go_big_quiet_step (exact fun _=>rfl)));refine wpQuiet_nil ?_;refine ZT rfl (fun K hK=> ?_);have bO4:=bO.keep hK4 nO;have hlo4: ∀ g,blk a4=some g->w.heap.size+2<=g/\g≠w.heap.size+1+1+1:=fun g hg=>by
       rcases hA4.new with e|⟨g',e,hge⟩
       ·rw[e] at hg;exact hlo g hg
       ·rw[e] at hg;obtain rfl:=Option.some.inj hg;have:=hGa.size;simp at hge;omega
      have hO4:Own w4 3 1 a4 (ZZ m C p q i (j+1) (ZK m C p q i)).length c4 (ints (ZZ m C p q i (j+1) (ZK m C p q i))):=(by have:=hA4.own;rw[HX.out];simpa using this);have HL:=hid (show (ZZ m C p q i (j+1) (ZK m C p q i)).length=(ZZ m C p q i j (ZK m C p q i)).length+1 by rw[HX.out];simp);obtain ⟨⟨o0',o1',o2'⟩,of0',of1',of2'⟩:=bO4.three;have hltO4:=bO4.lt;have bO5:=bO4.set 2 (.slice a4 ((ZZ m C p q i j (ZK m C p q i)).length+1) c4);have hKs:Keep (fun g=>g≠w.heap.size+1+1+1) w4 (w4.setCell ⟨w.heap.size+1+1+1,2,none⟩ (.slice a4 ((ZZ m C p q i j (ZK m C p q i)).length+1) c4)):=(Keep.refl _ w4).setCell (fun _ e=>e rfl) _;have hO5:=hO4.keep hKs fun g hg _=>(hlo4 g hg).2;have hKf:Keep (fun q=>q<=w.heap.size+1) w1 (w4.setCell ⟨w.heap.size+1+1+1,2,none⟩ (.slice a4 ((ZZ m C p q i j (ZK m C p q i)).length+1) c4)):=
       (hKi.trans (hK4.mono fun g _ hg e=>by have:=(hlo g e).1;omega)).trans (hKs.mono fun g _ hg=>by omega)
      clear hA4 hO hOb o0 o1 o2 of0 of1 of2;go_wp2_with fail;refine hK _ _ ((fun h=>(h rfl).elim)) ?_;clear hK K;refine Zbb ?_;go_wp2;go_roundw;case rel=>exact ⟨hKf,j+1,c4,a4,by omega,by go_num,by rw[HL.out];exact bO5,hO5,hlo4⟩
      case measure=>simp[intOf];omega
     ·have hX:ZZ m C p q i (j+1) (ZK m C p q i)=ZZ m C p q i j (ZK m C p q i):=(by simp only[ZZ];rw[if_neg hc]);have HX:=hid hX;clear hX;by_cases h1:i=p
      ·have q1:((i:Int)==(p:Int))=true:=(by simp[h1]);have q2:((i:Int)!=(p:Int))=false:=(by simp[h1]);clear h1;go_wp2;go_roundw;case rel=>exact ⟨hKi,j+1,c3,a3,by omega,by go_num,by rw[HX.out];exact bO,by rw[HX.out];exact hO,hlo⟩
       case measure=>simp[intOf];omega
      ·have h2:j=q:=Classical.byContradiction fun h=>hc ⟨h1,h⟩;have q1:((i:Int)==(p:Int))=false:=(by rw[beq_eq_false_iff_ne];omega);have q2:((i:Int)!=(p:Int))=true:=(by simp;omega);have q3:((j:Int)==(q:Int))=true:=(by simp[h2]);have q4:((j:Int)!=(q:Int))=false:=(by simp[h2]);clear h1 h2 hc;go_wp2;go_roundw;case rel=>exact ⟨hKi,j+1,c3,a3,by omega,by go_num,by rw[HX.out];exact bO,by rw[HX.out];exact hO,hlo⟩
       case measure=>simp[intOf];omega
    ·obtain rfl:j=C:=(by omega);go_wp2;go_roundw;case rel=>exact ⟨hKi,i+1,c3,a3,by omega,by go_num,bO,hO,hlo⟩
     case measure=>simp[intOf];omega
  ·obtain rfl:i=R:=(by omega);obtain ⟨⟨o0,o1,o2⟩,of0,of1,of2⟩:=bO.three;have hltO:=bO.lt;have bZr:=bZ.keep hK0 (by omega);obtain ⟨⟨z0,z1,z2⟩,zf0,zf1,zf2⟩:=bZr.three;have hltZ:=bZr.lt;have hK9:Keep (fun q=>q≠w.heap.size+1) wr (((wr.setCell ⟨w.heap.size+1,0,none⟩ (Yv Yi ((i:Int)-1))).setCell ⟨w.heap.size+1,1,none⟩ (Yv Yi ((C:Int)-1))).setCell ⟨w.heap.size+1,2,none⟩ (.slice a2 (ZK m C p q i).length c2)):=
    (((Keep.refl _ wr).setCell (fun _ e=>e rfl) _).setCell (fun _ e=>e rfl) _).setCell (fun _ e=>e rfl) _
   have hGz:Grow w (((wr.setCell ⟨w.heap.size+1,0,none⟩ (Yv Yi ((i:Int)-1))).setCell ⟨w.heap.size+1,1,none⟩ (Yv Yi ((C:Int)-1))).setCell ⟨w.heap.size+1,2,none⟩ (.slice a2 (ZK m C p q i).length c2)):=
    hG1.keep ((hK0.mono fun g _ hg=>by show g<=w.heap.size+1;exact Nat.le_succ_of_le (Nat.le_of_lt hg)).trans (hK9.mono fun g _ hg=>by have:g<w.heap.size:=hg;omega)) fun g hg=>hg
   have hrng: ∀ x∈ZK m C p q i,I64 x:=fun x hx=>(by have:=ZeK hm (C:=C) (p:=p) (q:=q) (i:=i) x hx;unfold I64;omega);have er:((i-1:Nat):Int)=(i:Int)-1:=(by omega);have ecl:((C-1:Nat):Int)=(C:Int)-1:=(by omega);have HE:=hid (And.intro er ecl);have hOl: ∀ g,blk a2=some g->g<wr.heap.size:=fun g hg=>hO.lt hg;clear er ecl;go_wp2;exact ZF Zc rfl rfl rfl (((bZr.set 0 _).set 1 _).set 2 _) ⟨_,rfl,⟨a2,_,c2,by rw[HE.out.1,HE.out.2];rfl,hO.keep hK9 (fun g hg _=>by have:=(hlo g hg).1;omega),hrng,fun g hg=>⟨by have:=(hlo g hg).1;omega,by simpa using hOl g hg⟩,by show I64 ((i-1:Nat):Int);unfold I64;omega,by show I64 ((C-1:Nat):Int);unfold I64;omega⟩,hGz⟩
theorem ZoE {f:List Int->Option Int} {m:List Int} {s:Int} (h:Zcr f m n k=some s):Zcr f m n (k+1)=if m.getD k 0=0 then some s else (f (ZK m n 0 k n)).map fun d=>s+(if k%2=1 then -m.getD k 0 else m.getD k 0)*d:=by
 simp only[Zcr];rw[h];rfl
theorem Zi4: ∀ (N:Nat) {S:Nat->Prop} (a:Option Addr) (n cp:Nat) (m:List Int) (w:World),RdI w S a n cp m->m.length=N*N->N<=6->NumL m->
  Calls Tryz.prog 156 #[.agg #[Yv Yi N,Yv Yi N, .slice a n cp]] w fun e w'=> ∃ x,e= .returned (.tuple #[Yv Yi x, .bool (ZaC N m).isSome])/\(∀ d,ZaC N m=some d->x=d)/\Grow w w'
 |0,S,a,n,cp,m,w,h,hl,hN,hm=>by
  have hG1:=(Grow.refl w).alloc #[Yv Yi ((0:Nat):Int),Yv Yi ((0:Nat):Int), .slice a n cp] 34;go_enter Tryz.func156,Tryz.ntmps156;go_wp2
  go_ret2
  exact ⟨1,rfl,fun d hd=>(Option.some.inj (show some (1:Int)=some d from hd)),hG1⟩
 |k+1,S,a,n,cp,m,w,h,hl,hN,hm=>by
  have ih:=fun {S:Nat->Prop}=>Zi4 k (S:=S);obtain ⟨N,hNk⟩: ∃ N,N=k+1:=⟨_,rfl⟩;rw[←hNk] at hl hN ⊢;have hN1:1<=N:=by omega
  have hln:=h.len;have hNN:N*N<=6*6:=Nat.mul_le_mul hN hN;have hG1:=(Grow.refl w).alloc #[Yv Yi (N:Int),Yv Yi (N:Int), .slice a n cp] 34;have bM:=Blk.new w #[Yv Yi (N:Int),Yv Yi (N:Int), .slice a n cp] 34;have HNk:=hid hNk;have HD:=hid (show ZaC N m=(Zcr (ZaC k) m N N).bind ZiK by rw[hNk];rfl);have HB:=hid (fun (j:Nat) (s:Int) (hs:Zcr (ZaC k) m N j=some s)=>(by rw[hNk] at hs;exact ZmT hm hs: -(160000000000000000*(j:Int))<=s/\s<=160000000000000000*(j:Int)));have q0:((N:Int)==0)=false:=by rw[beq_eq_false_iff_ne];omega
  clear hNk;go_enter Tryz.func156,Tryz.ntmps156;go_wp2_with fail;go_loopw [4,5] (fun sv jv wr=>Grow (w.alloc (.cells #[Yv Yi (N:Int),Yv Yi (N:Int), .slice a n cp] 34)) wr/\ ∃ (j:Nat) (s:Int),j<=N/\jv=Yv Yi j/\sv=Yv Yi s/\Zcr (ZaC k) m N j=some s) (fun _ j _=>N-(intOf j).toNat);case atStart=>exact ⟨Grow.refl _,0,0,Nat.zero_le _,rfl,rfl,rfl⟩
  case round=>
   obtain ⟨hG,j,s,hj,rfl,rfl,hs⟩:=hrel;have bMr:=bM.grow hG;obtain ⟨⟨m0,m1,m2⟩, -⟩:=bMr.three;have hltM:=bMr.lt;have hb:=HB.out j s hs;have hGw:=hG1.trans hG;by_cases hlt:j<N
   ·have hrd:=h.grow hGw;have hx:m[0*N+j]? =some (m.getD j 0):=(by rw[Nat.zero_mul,Nat.zero_add,List.getD_eq_getElem?_getD,List.getElem?_eq_getElem (by rw[hl];have:=Zr (C:=N) (R:=N) hlt hN1;omega)];rfl);have hc: -400000000<=m.getD j 0/\m.getD j 0<=400000000:=hm.getD j;have Hst:=hid (ZoE hs);have hcr:=ZeG (m:=m) (p:=0) (i:=N) hlt;rw[if_pos (by omega)] at hcr;have Hcr:=hid hcr;generalize hcc:m.getD j 0=c at *;clear hcc hcr;go_wp2_with fail;refine (Zai a n cp N 0 j (0*N+j) (N:Int) c m _ hrd rfl hx (by omega) (by omega) (by omega) (by omega)).mono ?_;rintro e w2 ⟨rfl,hG2⟩;have hG02:=hG.trans hG2;have bM2:=bM.grow hG02;have hrd2:=hrd.grow hG2;clear m0 m1 m2 hltM bMr;obtain ⟨⟨m0,m1,m2⟩, -⟩:=bM2.three;have hltM:=bM2.lt;by_cases h0:c=0
    ·rw[if_pos h0] at Hst;have q1:(c==0)=true:=(by simp[h0]);clear h0;go_wp2;go_roundw;case rel=>exact ⟨hG02,j+1,s,by omega,by go_num,rfl,Hst.out⟩
     case measure=>simp[intOf];omega
    ·rw[if_neg h0] at Hst;have q1:(c==0)=false:=(by rw[beq_eq_false_iff_ne];exact h0);go_wp2_with fail;refine (ZlH a n cp N N 0 j m _ hrd2 hl (by omega) (by omega) hN1 hN1 hm (by omega) hlt).mono ?_;rintro e w3 ⟨rv,rfl,⟨ra,rn,rc,rfl,oR,rR,fR, -, -⟩,hG3⟩;have hkN:N-1=k:=(by have:=HNk.out;omega);rw[hkN];have rdR:=oR.rdI (S:=fun _=>True) (fun _ _=>trivial) rR;go_wp2_with fail;refine (ih ra rn rc (ZK m N 0 j N) _ rdR (by rw[Hcr.out,hkN]) (by omega) (ZeK hm)).mono ?_;rintro e w4 ⟨x,rfl,hxd,hG4⟩;have hG04:=(hG02.trans hG3).trans hG4;have bM4:=bM.grow hG04;clear m0 m1 m2 hltM bM2;obtain ⟨⟨m0,m1,m2⟩, -⟩:=bM4.three;have hltM:=bM4.lt;cases hd:ZaC k (ZK m N 0 j N) with
     |none=>
      rw[hd] at Hst;have Hn:=hid (show ZaC N m=none by rw[HD.out,Zsb Hst.out hlt];rfl);clear hd hxd;go_wp2
      go_ret2
      exact ⟨0,by rw[Hn.out];rfl,fun d hd=>(by rw[Hn.out] at hd;cases hd),hG1.trans hG04⟩
     |some d=>
      rw[hd] at Hst;have hdn:=Zdc hd;obtain rfl:x=d:=hxd d hd;clear hd hxd;by_cases h2:j%2=1
      ·have q2:(j:Int)%2=1:=(by omega);have q3:(j:Int).tmod 2=1:=(by rw[Int.tmod_eq_emod_of_nonneg (by omega)];exact q2);have Hs2:=hid (show Zcr (ZaC k) m N (j+1)=some (s+ -c*x) by rw[Hst.out,if_pos h2];rfl);have e1:=Zbl (p:=400000000) (q:=400000000) (a:= -c) ⟨by omega,by omega⟩ hdn;have w1':wrap64 (-c)= -c:=(by unfold wrap64;omega);have w2':wrap64 (-c*x)= -c*x:=(by unfold wrap64;omega);have w3':wrap64 (s+ -c*x)=s+ -c*x:=(by unfold wrap64;omega);clear h2 e1;go_wp2;go_roundw;case rel=>exact ⟨hG04,j+1,_,by omega,by go_num,rfl,by rw[w3'];exact Hs2.out⟩
       case measure=>simp[intOf];omega
      ·have q2: ¬ (j:Int)%2=1:=(by omega);have q3: ¬ (j:Int).tmod 2=1:=(by rw[Int.tmod_eq_emod_of_nonneg (by omega)];exact q2);have q4:((j:Int)%2==1)=false:=(by rw[beq_eq_false_iff_ne];exact q2);have Hs2:=hid (show Zcr (ZaC k) m N (j+1)=some (s+c*x) by rw[Hst.out,if_neg h2];rfl);have e1:=Zbl (p:=400000000) (q:=400000000) hc hdn;have w2':wrap64 (c*x)=c*x:=(by unfold wrap64;omega);have w3':wrap64 (s+c*x)=s+c*x:=(by unfold wrap64;omega);clear h2 e1;go_wp2;go_roundw;case rel=>exact ⟨hG04,j+1,_,by omega,by go_num,rfl,by rw[w3'];exact Hs2.out⟩
       case measure=>simp[intOf];omega
   ·obtain rfl:j=N:=(by omega);have Hf:=hid (show ZaC j m=ZiK s by rw[HD.out,hs];rfl);have hfit:(ZiK s).isSome=Zl s:=by
     unfold ZiK Zl inB;by_cases e: -400000000<=s/\s<=400000000
     ·rw[if_pos e];simp[e.1,e.2]
     ·rw[if_neg e]
      symm
      simp only[Option.isSome_none,Bool.and_eq_false_iff,decide_eq_false_iff_not];omega
    have Hfit:=hid hfit;clear hfit hs;go_wp2_with fail;refine (ZQ s _).mono ?_;rintro e w2 ⟨rfl,rfl⟩;go_wp2
    go_ret2
    exact ⟨s,by rw[Hf.out,Hfit.out];rfl,fun d hd=>(by rw[Hf.out] at hd;exact (ZlP hd).1.symm),hGw⟩
theorem Zd9 (h:VM w S v m) (hb:bdM m<=1048576):
  Calls Tryz.prog 155 #[v] w fun e w'=>e= .returned (.bool (Zas m))/\Grow w w':=by
 have hV:=h;obtain ⟨a,n,c,rfl,h,ir,ic⟩:=h;have hG1:=(Grow.refl w).alloc #[Yv Yi m.rows,Yv Yi m.cols, .slice a n c] 34;have bM:=Blk.new w #[Yv Yi m.rows,Yv Yi m.cols, .slice a n c] 34;go_enter Tryz.func155,Tryz.ntmps155;go_wp2_with fail;refine (Zz (hV.grow hG1) (by omega)).mono ?_;rintro e w2 ⟨rfl,hG2⟩;have bM2:=bM.grow hG2;obtain ⟨⟨m0,m1,m2⟩, -⟩:=bM2.three;have hlt:=bM2.lt;have hG:=hG1.trans hG2;cases hm:Ze m with
 |false=>have Hr:=hid (show Zas m=false by unfold Zas;rw[hm];rfl);clear hm;go_wp2;go_ret;exact ⟨Zt Hr.out.symm,hG⟩
 |true=>
  by_cases h1:m.rows=m.cols
  ·have q1:(m.rows==m.cols)=true:=(by simp[h1]);by_cases h2:m.rows<=6
   ·have Hr:=hid (show Zas m=true by unfold Zas;rw[hm,decide_eq_true h1,decide_eq_true h2];rfl);clear hm h1;go_wp2;go_ret;exact ⟨Zt Hr.out.symm,hG⟩
   ·have Hr:=hid (show Zas m=false by unfold Zas;rw[decide_eq_false h2];simp);clear hm h1;go_wp2;go_ret;exact ⟨Zt (by rw[Hr.out];simp;omega),hG⟩
  ·have q1:(m.rows==m.cols)=false:=(by rw[beq_eq_false_iff_ne];exact h1);have Hr:=hid (show Zas m=false by unfold Zas;rw[decide_eq_false h1];simp);clear hm;go_wp2;go_ret;exact ⟨Zt Hr.out.symm,hG⟩
def Zf1 (m:Mat):Bool:=Zas m&&(ZaC m.rows.toNat m.cells).isSome
def dtV (m:Mat):Int:=if Zas m=true then (ZaC m.rows.toNat m.cells).getD 0 else 0
theorem ZeX (h:Zas m=true): ∃ N:Nat,m.rows=(N:Int)/\m.cols=(N:Int)/\N<=6/\m.cells.length=N*N/\NumL m.cells:=by
 unfold Zas at h;rw[Bool.and_eq_true,Bool.and_eq_true,decide_eq_true_eq,decide_eq_true_eq] at h;obtain ⟨h1,h2,h3⟩:=h;obtain ⟨R,C,e1,e2, -, -,hl,hn⟩:=Zn h1;obtain rfl:C=R:=by omega
 exact ⟨C,e1,e2,by omega,hl,hn⟩
theorem ZlS (h:VM w S v m) (hb:bdM m<=1048576):
  Calls Tryz.prog 118 #[v] w fun e w'=>e= .returned (.tuple #[Yv Yi (dtV m), .bool (Zf1 m)])/\Grow w w':=by
 have hV:=h;obtain ⟨a,n,c,rfl,h,ir,ic⟩:=h;have hG1:=(Grow.refl w).alloc #[Yv Yi m.rows,Yv Yi m.cols, .slice a n c] 34;have bM:=Blk.new w #[Yv Yi m.rows,Yv Yi m.cols, .slice a n c] 34;go_enter Tryz.func118,Tryz.ntmps118;go_wp2_with fail;refine (Zd9 (hV.grow hG1) hb).mono ?_;rintro e w2 ⟨rfl,hG2⟩;have hG:=hG1.trans hG2;cases hm:Zas m with
 |false=>
  have Hr:=hid (show Zf1 m=false/\dtV m=0 by unfold Zf1 dtV;rw[hm];exact ⟨rfl,rfl⟩);clear hm;go_wp2
  go_ret2
  exact ⟨by rw[Hr.out.1,Hr.out.2];rfl,hG⟩
 |true=>
  obtain ⟨N,e1,e2,hN,hl,hn⟩:=ZeX hm;have Hr:=hid (show Zf1 m=(ZaC N m.cells).isSome/\dtV m=(ZaC N m.cells).getD 0 by unfold Zf1 dtV;rw[hm,e1];exact ⟨rfl,rfl⟩);rw[e1,e2] at bM hG2;have bM2:=bM.grow hG2;obtain ⟨⟨m0,m1,m2⟩, -⟩:=bM2.three;have hlt:=bM2.lt;have hrd:=h.grow hG;clear hm;rw[e1,e2];go_wp2_with fail;refine (Zi4 N a n c m.cells _ hrd hl hN hn).mono ?_;rintro e w3 ⟨x,rfl,hx,hG3⟩;cases hd:ZaC N m.cells with
  |none=>
   rw[hd] at Hr;clear hx hd;go_wp2
   go_ret2
   exact ⟨by rw[Hr.out.1,Hr.out.2];rfl,hG.trans hG3⟩
  |some d=>
   obtain rfl:x=d:=hx d hd;rw[hd] at Hr;clear hx hd;go_wp2
   go_ret2
   exact ⟨by rw[Hr.out.1,Hr.out.2];rfl,hG.trans hG3⟩
theorem ZmC {m:List Int} {K R R' t:Nat} (hl:m.length=R*K) (hn:n<=K) (ht:t<R') (hR:R'<=R):
  splice (ints (ZbC m K n t++List.replicate ((R'-t)*n) 0)) (t*n) (ints ((Z6 m K t).take n))=ints (ZbC m K n (t+1)++List.replicate ((R'-(t+1))*n) 0):=by
 have h1:=Zit hl hn (show t<=R by omega);have h2:((Z6 m K t).take n).length=n:=by rw[List.length_take,ZdT hl (by omega)];omega
 have h3:(R'-t)*n=n+(R'-(t+1))*n:=by rw[show R'-t=(R'-(t+1))+1 by omega,Nat.add_mul];omega
 unfold splice;rw[ZkG];simp only[ints,List.map_append,List.length_map,h2];rw[List.take_append_of_le_length (by simp[h1]),List.take_of_length_le (by simp[h1]),List.drop_append,List.drop_eq_nil_of_le (by simp[h1]),List.append_assoc,List.nil_append];simp only[List.length_map,h1,List.map_replicate,List.drop_replicate];congr 3;rw[h3];omega
theorem OI.mt {F:Nat->Prop} {g:Nat} (hg:g=w.heap.size) (hF:F g):OI (w.alloc (.cells #[] 3)) F (.slice (some ⟨g,0,none⟩) 0 0) []:=
 ⟨_,_,_,rfl,Own.freshAt (cs:= #[]) hg (by unfold maxLen;omega) rfl,fun x hx=>(by cases hx),fun q hq=>by simp at hq;subst hq;exact hF⟩
def Zhp (m:Mat):Bool:=Zas m&&(ZaY m.cells m.rows.toNat m.rows.toNat).isSome
def ldL (m:Mat):List Int:=if Zas m=true then (ZaY m.cells m.rows.toNat m.rows.toNat).getD [] else []
theorem Zkf {g:List Int} {n:Nat}: ∀ {k:Nat} {l:List Int},ZaY g n k=some l->l.length=k/\ ∀ x∈l, -400000000<=x/\x<=400000000
 |0,l,h=>by rw[←Option.some.inj (show some []=some l from h)];exact ⟨rfl,fun x hx=>by cases hx⟩
 |k+1,l,h=>by
  simp only[ZaY] at h;cases h1:ZaY g n k with
  |none=>rw[h1] at h;cases h
  |some l0=>
   rw[h1,Option.bind_some] at h;cases h2:ZaC (k+1) (ZbC g n (k+1) (k+1)) with
   |none=>rw[h2] at h;cases h
   |some d=>
    rw[h2,Option.map_some] at h;obtain ⟨e1,e2⟩:=Zkf h1;rw[←Option.some.inj h];refine ⟨by simp[e1],fun x hx=> ?_⟩;rcases List.mem_append.1 hx with hx|hx
    ·exact e2 x hx
    ·rw[List.mem_singleton.1 hx];exact Zdc h2
theorem ZqW {g:List Int} {j:Nat} (h:ZaY g n k=none) (hj:k<=j):ZaY g n j=none:=by
 induction j with
 |zero=>
  obtain rfl:k=0:=by omega
  exact h
 |succ j ih=>
  by_cases e:k=j+1
  ·subst e;exact h
  ·simp only[ZaY];rw[ih (by omega)];rfl
theorem Zsf (h:VM w S v m) (hb:bdM m<=1048576):
  Calls Tryz.prog 158 #[v] w fun e w'=> ∃ x,e= .returned (.tuple #[x, .bool (Zhp m)])/\OI w' (New w w') x (ldL m)/\Grow w w':=by
 have hV:=h;obtain ⟨a,n,cp,rfl,h,ir,ic⟩:=h;have hG1:=(Grow.refl w).alloc #[Yv Yi m.rows,Yv Yi m.cols, .slice a n cp] 34;have bM:=Blk.new w #[Yv Yi m.rows,Yv Yi m.cols, .slice a n cp] 34;have hsA:(w.alloc (.cells #[Yv Yi m.rows,Yv Yi m.cols, .slice a n cp] 34)).heap.size=w.heap.size+1:=by simp
 go_enter Tryz.func158,Tryz.ntmps158;go_wp2_with fail;refine (Zd9 (hV.grow hG1) hb).mono ?_;rintro e w2 ⟨rfl,hG2⟩;have hs2:=hG2.size;have hG:=hG1.trans hG2;cases hm:Zas m with
 |false=>
  have Hr:=hid (show Zhp m=false/\ldL m=[] by unfold Zhp ldL;rw[hm];exact ⟨rfl,rfl⟩);clear hm;go_wp2
  go_ret2
  exact ⟨_,by rw[Hr.out.1];rfl,by rw[Hr.out.2];exact OI.mt (by simp) ⟨by omega,by simp⟩,hG.alloc _ _⟩
 |true=>
  obtain ⟨N,e1,e2,hN,hl,hn⟩:=ZeX hm;have Hr:=hid (show Zhp m=(ZaY m.cells N N).isSome/\ldL m=(ZaY m.cells N N).getD [] by unfold Zhp ldL;rw[hm,e1];exact ⟨rfl,rfl⟩);rw[e1,e2] at bM hG2;have bM2:=bM.grow hG2;have rd2:RdI w2 (fun g=>g<w.heap.size) a n cp m.cells:=(h.weak (T:=fun g=>g<w.heap.size) (fun _ hb _=>hb)).grow hG;obtain ⟨g,hg⟩: ∃ g,g=m.cells:=⟨_,rfl⟩;rw[←hg] at rd2 hl hn Hr;have Hl:=hid hl;have hltM:=bM2.lt;have hE:Own (w2.alloc (.cells #[] 3)) 3 1 (some ⟨w2.heap.size,0,none⟩) 0 0 []:=Own.fresh (by unfold maxLen;omega) rfl;clear hm hg h hV hl;rw[e1,e2];clear e1 e2 ir ic hb;go_wp2;go_loopw [4,5] (fun ov kv wr=>Grow w2 wr/\ ∃ (k c2:Nat) (a2:Option Addr) (l:List Int),k<=N/\kv=Yv Yi ((k+1:Nat):Int)/\ov= .slice a2 k c2/\ZaY g N k=some l/\Own wr 3 1 a2 k c2 (ints l)/\ ∀ q,blk a2=some q->w2.heap.size<=q) (fun _ k _=>N+1-(intOf k).toNat);case atStart=>exact ⟨(Grow.refl _).alloc _ _,0,0,_,[],Nat.zero_le _,rfl,rfl,rfl,hE,fun q hq=>by simp at hq;omega⟩
  case round=>
   clear hE;obtain ⟨hGr,k,c2,a2,l,hk,rfl,rfl,hld,hO,hlo⟩:=hrel;have bMr:=bM2.grow hGr;obtain ⟨⟨m0,m1,m2⟩, -⟩:=bMr.three;have hltr:=bMr.lt;have hsr:=hGr.size;have hln:=Zkf hld;have Hld:=hid hld;clear hld;by_cases hlt:k<N
   ·have hk1:((k+1:Nat):Int)<=(N:Int):=(by omega);go_wp2_with fail;refine (Zb1 (k+1) (k+1) _ (by omega) (by omega)).mono ?_;rintro e w3 ⟨oa,rfl,hOn,hlon,hG3⟩;obtain ⟨w4,hw4,hG4,bO, -⟩:=al1 w3 #[Yv Yi ((k+1:Nat):Int),Yv Yi ((k+1:Nat):Int), .slice oa ((k+1)*(k+1)) ((k+1)*(k+1))] 34;have hG34:=hG3.trans hG4;have hOn4:=hOn.grow hG4;have bM4:=bMr.grow hG34;have rd4:=(rd2.grow hGr).grow hG34;have hO4:=hO.grow hG34;have nM:blk oa≠some w.heap.size:=fun e=>(by have:=hlon _ e;omega);have nO:blk oa≠some w3.heap.size:=fun e=>(by have:=hOn.lt e;omega);have nD: ∀ g,g<wr.heap.size->blk oa≠some g:=fun g hg e=>(by have:=hlon _ e;omega);have hkk:(k+1)*(k+1)<=6*6:=Nat.mul_le_mul (by omega) (by omega);have hz:ints (List.replicate ((k+1)*(k+1)) 0)=ints (ZbC g N (k+1) 0++List.replicate ((k+1-0)*(k+1)) 0):=(by simp[ZbC]);rw[hz] at hOn4;have Hw4:=hid hw4;have HO:=hid hO;have hOlt: ∀ q,blk a2=some q->q<wr.heap.size:=fun q hq=>hO.lt hq;obtain ⟨kk,hKd⟩: ∃ kk,kk=k+1:=⟨_,rfl⟩;rw[←hKd] at bO hOn4 hkk hOn;rw[←hKd];have HK:=hid hKd;have hKN:kk<=N:=(by omega);have hw4':w4=w3.alloc (.cells #[Yv Yi (kk:Int),Yv Yi (kk:Int), .slice oa (kk*kk) (kk*kk)] 34):=(by rw[hw4,hKd]);have Hw4':=hid hw4';clear hw4 hw4' hz m0 m1 m2 hltr hO hOn hKd Hw4;go_wp2;rw[←Hw4'.out];obtain ⟨wo,rfl⟩: ∃ wo,wo=wr:=⟨_,rfl⟩;go_loopw [7] (fun iv wr=>Keep (fun g=>blk oa≠some g) w4 wr/\ ∃ i:Nat,i<=kk/\iv=Yv Yi i/\Own wr 3 1 oa (kk*kk) (kk*kk) (ints (ZbC g N kk i++List.replicate ((kk-i)*kk) 0))) (fun i _=>kk-(intOf i).toNat);case atStart=>exact ⟨Keep.refl _ _,0,Nat.zero_le _,rfl,hOn4⟩
    case round=>
     clear hOn4;obtain ⟨hKp,i,hi,rfl,hOx⟩:=hrel;have bMx:=bM4.keep hKp nM;have bOx:=bO.keep hKp nO;have rdx:=rd4.keep hKp (fun q hq h0=>nD q (by omega));by_cases hlti:i<kk
     ·have hri:=Zr (C:=kk+1) (j:=0) (by omega) hlti;have hic:i*kk+kk<=kk*kk:=(by have:=Nat.mul_le_mul_right kk (show i+1<=kk from hlti);rw[Nat.add_mul] at this;omega);have Hsp:=hid (ZmC (m:=g) (K:=N) (R:=N) (R':=kk) (n:=kk) (t:=i) Hl.out hKN hlti hKN);clear hri;go_wp2;have hle0:=rdx.row.le;have hml:=rdx.len;have Hml:=hid hml;clear hml;refine Zg (S:=(Keep (fun g=>blk oa≠some g) wr)) [([0,1,3,4,6],some 2),([],some 5),([7],some 8)] Zm (by kernel_rfl) (fun _ _ _ _ _ h=>h) (Keep.refl _ _).drew ?_;show wpQuiet _ _ _ _ [_,_,_,_,_] _;(repeat (first |(go_big_quiet_want;(first |refine Zh Zc rfl rfl (fun w' hG=>bOx.keep hG nO) ?_|refine Zh Zc rfl rfl (fun w' hG=>bMx.keep hG nM) ?_|refine Zal (x:= .tmp 34) (h:= .tmp 35) rfl rsl ?_);go_big_quiet_on;simp only[putP])|go_big_quiet_step (exact fun _=>rfl)));refine wpQuiet_nil ?_;obtain ⟨w7,hw7⟩: ∃ w7,w7=wr.drew:=⟨_,rfl⟩;rw[←hw7];have hG7:Grow wr w7:=(by rw[hw7];exact (Grow.refl _).drew);clear hw7;refine Zf rfl (fun K hK=> ?_);go_wp2_with fail;refine (ZeA oa (kk*kk) (kk*kk) kk i (kk:Int) _ _ (hOx.grow hG7) (by simpa using hic) (by omega) (by omega)).mono ?_;rintro e w8 ⟨a8,rfl,hA8,hG8⟩;have hG78:=hG7.trans hG8;go_wp2_with fail;refine hK _ _ (hG78.any) ?_;clear hK K;refine wpQuiet_nil ?_;refine Zf rfl (fun K hK=> ?_);go_wp2_with fail;refine (Zjw a n cp N N i g _ (rdx.grow hG78) Hl.out (by omega) (by omega) (by omega)).mono ?_;rintro e w9 ⟨a9,c9,rfl,rRow,hG9⟩;have hG79:=hG78.trans hG9;have hc9:=rRow.row.le;have rsl:=T_ints.atH (a:=a9) (n:=N) (cap:=c9) (k:=kk) (i:=(kk:Int)) (by simp) (by omega);have rP:=rRow.pre hKN;go_wp2_with fail;refine hK _ _ (hG79.any) ?_;clear hK K;show wpQuiet _ _ _ _ [_] _;(try (conv=>arg 6;simp only[putP]));(repeat (first |(go_big_quiet_want;(first |refine Zh Zc rfl rfl (fun w' hG=>bOx.keep hG nO) ?_|refine Zh Zc rfl rfl (fun w' hG=>bMx.keep hG nM) ?_|refine Zal (x:= .tmp 34) (h:= .tmp 35) rfl rsl ?_);go_big_quiet_on;simp only[putP])|go_big_quiet_step (exact fun _=>rfl)));refine wpQuiet_nil ?_;refine Zf rfl (fun K hK=> ?_);have hO9:=hOx.grow hG79;refine ZrD rfl T_ints rfl rfl hO9 rP.row (Zc9 _) (by omega) hA8 ?_;intro w10 v10 hO10 hK10;rw[Hsp.out] at hO10;have hKs:Keep (fun g=>blk oa≠some g) wr w10:=hG79.any.trans hK10;refine hK _ _ hKs ?_;clear hK K;refine Zk ?_;clear Hsp hOx hO9;go_wp2;go_roundw;case rel=>exact ⟨hKp.trans hKs,i+1,by omega,by go_num,hO10⟩
      case measure=>simp[intOf];omega
     ·obtain rfl:i=kk:=(by omega);have hcl:=Zit (m:=g) (K:=N) (n:=i) Hl.out hKN (t:=i) hKN;have e0:ZbC g N i i++List.replicate ((i-i)*i) 0=ZbC g N i i:=(by simp);rw[e0] at hOx;have rdO:=hOx.rdI (S:=fun _=>True) (fun _ _=>trivial) (Zy (Zl7 hn i));obtain ⟨⟨o0,o1,o2⟩, -⟩:=bOx.three;have hltO:=bOx.lt;go_wp2_with fail;refine (Zi4 i oa (i*i) (i*i) (ZbC g N i i) _ rdO hcl (by omega) (Zl7 hn i)).mono ?_;rintro e wy ⟨x,rfl,hx,hGy⟩;have hKw:Keep (fun q=>q<wo.heap.size) wo wy:=(hG34.any.trans (hKp.mono fun q hq h0=>nD q h0)).trans hGy.any;have bMy:=(bMx.grow hGy);have hGf:Grow w2 wy:=hGr.keep (hKw.mono fun q _ hq=>hq) fun q hq=>(by omega);cases hd:ZaC i (ZbC g N i i) with
      |none=>
       have Hn:=hid (show ZaY g N N=none by
        refine ZqW (k:=i) ?_ (by omega);rw[HK.out];simp only[ZaY];rw[Hld.out,Option.bind_some, ←HK.out,hd];rfl)
       have hsy:=hGf.size;clear hd hx;go_wp2
       go_ret2
       exact ⟨_,by rw[Hr.out.1,Hn.out];rfl,by rw[Hr.out.2,Hn.out];exact OI.mt rfl ⟨by omega,by simp⟩,(hG.trans hGf).alloc _ _⟩
      |some d=>
       obtain rfl:x=d:=hx d hd;have Hnx:=hid (show ZaY g N i=some (l++[x]) by
        rw[HK.out];simp only[ZaY];rw[Hld.out,Option.bind_some, ←HK.out,hd];rfl)
       have hdn:=Zdc hd;clear hd hx;have hOy:=HO.out.keep hKw fun q hq _=>hOlt q hq;go_wp2_with (at_builtin;refine Zx rfl (.tmp 46) (.tmp 48) _ rfl T_ints rfl (hOy.grow ((Grow.refl _).alloc _ _)) rfl (Row.built (S:=fun _=>True) 1 (by unfold maxLen;omega) rfl trivial) (by simp[Value.oneCell']) (by omega) (by unfold maxLen;omega) ?_;intro a5 c5 w5 hA5);have hG5:Grow w2 w5:=hA5.grow (hGf.alloc _ _) hlo;have hO5:Own w5 3 1 a5 (k+1) c5 (ints (l++[x])):=(by have:=hA5.own;simpa using this);have hlo5: ∀ q,blk a5=some q->w2.heap.size<=q:=hA5.lo (by have:=hGf.size;simp;omega) hlo;rw[←HK.out] at hO5;have hki:i=k+1:=HK.out;have HKi:=hid hki;rw[←HKi.out];clear hki;go_wp2;go_roundw;case rel=>exact ⟨hG5,i,c5,a5,l++[x],hKN,by go_num,rfl,Hnx.out,hO5,hlo5⟩
       case measure=>simp[intOf];omega
   ·obtain rfl:k=N:=(by omega);have hk1: ¬ ((k+1:Nat):Int)<=(k:Int):=(by omega);go_wp2
    go_ret2
    exact ⟨_,by rw[Hr.out.1,Hld.out];rfl,by rw[Hr.out.2,Hld.out];exact ⟨_,_,_,rfl,hO,fun x hx=>by have:=hln.2 x hx;unfold I64;omega,fun q hq=>⟨by have:=hlo q hq;omega,hO.lt hq⟩⟩,hG.trans hGr⟩

end Go.Proofs.YtjpcgofidijigaaGreatDoor
